/-
  The law as plain Lean, first part: that there are answers: names, versions, ranges, advisories.
-/
import Derived.Test.YtloinlpkjpmnbaaGreatDoorE4
import Derived.Test.YtloinlpkjpmnbaaGreatDoorD
import Derived.Sort.AssemblyPlain
import Derived.KernelRfl
set_option linter.unusedVariables false
set_option linter.unusedSimpArgs false
set_option linter.unusedSectionVars false
set_option maxRecDepth 100000
open Go.IntKind hiding min max bits signed
namespace Go.Ev
theorem EW{α:Type}{a:α}{l:List α}:(a::l).length=l.length+1:=AX
theorem EX{α:Type}:([]:List α).length=0:=BR
theorem EY{α:Type}{a:α}{i:Nat}{l:List α}(h:a∈l.take i):a∈l:=D8 h
theorem EZ{α:Type}{a:α}{i:Nat}{l:List α}(h:a∈l.drop i):a∈l:=List.mem_of_mem_drop h
def Tot{α:Type}(m:Option α)(Q:α->Prop):Prop:=∃x,m=some x/\Q x
section
variable{α β:Type}{m n:Option α}{P Q:α->Prop}
theorem Tot.mono(h:Tot m P)(k:∀x,P x->Q x):Tot m Q:=let ⟨x,h1,h2⟩:=h;⟨x,h1,k x h2⟩
theorem DZ{x:α}:Tot (some x) Q<->Q x:=⟨λ⟨_,a,b⟩=>A2 a▸b,λh=>⟨x,rfl,h⟩⟩
theorem DY{f:α->Option β}{R:β->Prop}:Tot (m.bind f) R<->Tot m λx=>Tot (f x) R:=by
 constructor
 .rintro⟨y,h,a⟩;obtain⟨x,b,d⟩:=A_.1 h;exact⟨x,b,y,d,a⟩
 .rintro⟨x,rfl,y,h,a⟩;exact⟨y,h,a⟩
theorem D_{b:Bool}:Tot (bif b then m else n) Q<->(b=true->Tot m Q)/\(b=false->Tot n Q):=by
 cases b
 .exact⟨λh=>⟨λe=>(by cases e),λ_=>h⟩,λh=>h.2 rfl⟩
 .exact⟨λh=>⟨λ_=>h,λe=>(by cases e)⟩,λh=>h.1 rfl⟩
theorem FJ{n:Nat}{i:Int}{Q:Unit->Prop}:Tot (in? n i) Q<->(0<=i/\i<n)/\Q ():=by
 unfold in? Tot;by_cases a:0<=i<;>by_cases b:i<n<;>simp[a,b]
 exact⟨λ⟨_,h⟩=>h,λh=>⟨(),h⟩⟩
theorem GA{a b:DX}{Q:DX->Prop}:Tot (cat? a b) Q<->a.length+b.length<=281474976710656/\Q (a++b):=by
 unfold cat? Tot;by_cases h:a.length+b.length<=281474976710656<;>simp[h]
theorem FT{B:Nat}{a b:List α}{Q:List α->Prop}:Tot (app? B a b) Q<->(a.length+b.length)*B<=70368744177664/\Q (a++b):=by
 unfold app? Tot;by_cases h:(a.length+b.length)*B<=70368744177664<;>simp[h]
theorem HL{l:List α}{a hi:Int}{Q:List α->Prop}:Tot (cut? l a hi) Q<->(0<=a/\a<=hi/\hi<=l.length)/\Q ((l.take hi.toNat).drop a.toNat):=by
 unfold cut? Tot;by_cases h:0<=a<;>by_cases b:a<=hi<;>by_cases d:hi<=l.length<;>simp[h,b,d]
theorem ATM{l:List α}{i:Int}{Q:α->Prop}(a:0<=i)(d:i<l.length)(b:∀x,x∈l->l[i.toNat]?=some x->Q x):Tot (at? l i) Q:=by
 have h:i.toNat<l.length:=oa
 refine⟨l[i.toNat],?_,b _ (AU h) (A1 h)⟩;unfold at?;rw[A4 a];exact A1 h
theorem F0{l:List α}{i:Int}{Q:α->Prop}:Tot (at? l i) Q<->(0<=i/\i<l.length)/\∀x,l[i.toNat]?=some x->Q x:=by
 constructor
 .rintro⟨x,h,b⟩;unfold at? at h;by_cases a:0<=i
  .rw[A4 a]at h;have h:l[i.toNat]?=some x:=h;have j:=(A9.1 h).1;exact⟨⟨a,oa⟩,λy d=>by rw[h]at d;cases d;exact b⟩
  .rw[A7 a]at h;cases h
 .rintro⟨⟨h,b⟩,e⟩;exact ATM h b λx _ k=>e x k
theorem A05:Tot m (λ_=>True)<->∃x,m=some x:=⟨λ⟨x,h,_⟩=>⟨x,h⟩,λ⟨x,h⟩=>⟨x,h,trivial⟩⟩
theorem F6{r:(α->Option β)->α->Option β}{R:β->Prop}(I:α->Prop)(a:α->Nat)(h:∀next x,I x->(∀y,I y->a y<a x->Tot (next y) R)->Tot (r next x) R):
 ∀(k:Nat) (x:α),I x->a x<k->Tot (E8 r k x) R:=by
 intro k;induction k with
 |zero=>intro x _ h;omega
 |succ k i=>intro x b hk;exact h _ x b λy d e=>i y d oa
theorem EQ{n:Int}(h:-9223372036854775808<=n)(a:n<=9223372036854775807):i64.wrap n=n:=by
 simp only[IntKind.wrap,IntKind.bits,IntKind.signed];simp;omega
theorem A06{n:Int}(h:0<=n)(a:n<=255):u8.wrap n=n:=by
 simp only[IntKind.wrap,IntKind.bits,IntKind.signed];simp;omega
theorem ATN(n:Int):0<=u8.wrap n/\u8.wrap n<=255:=by
 simp only[IntKind.wrap,IntKind.bits,IntKind.signed];simp;omega
end
end Go.Ev
namespace Go.Ev.Pv
theorem ED{n:Int}:-9223372036854775808<=n->n<=9223372036854775807->i64.wrap n=n:=λh a=>EQ h a
theorem EC(b:UInt8):b.toNat<=255:=by have:=b.toNat_lt;omega
theorem EE{n:Int}:0<=n->n<=255->u8.wrap n=n:=λh a=>A06 h a
theorem EF(n:Int):0<=u8.wrap n/\u8.wrap n<=255:=ATN n
theorem EA(s:DX):(FL s).length=s.length:=by simp[FL]
theorem EB(s:List Int):(HA s).length=s.length:=by simp[HA]
theorem E4(s t:DX):E5 s t=decide (s=t):=by unfold E5;by_cases h:s=t<;>simp[h]
theorem E0(s t:Int):E1 s t=decide (s=t):=by unfold E1;by_cases h:s=t<;>simp[h]
theorem SY(x:DX×Int)(h:x.1.length<=1048576):Tot (strings_IndexByte x) (λr:Int=>-1<=r):=by
 unfold strings_IndexByte HI;rw[A4 oa];exact DZ.2 (Lib.indexByte_ge _ _)
theorem A07(sep:DX)(m:Nat):∀x:List DX,(∀s∈x,s.length<=m)->(Lib.join x sep).length<=x.length*(m+sep.length):=by
 intro x;induction x with
 |nil=>intro _;simp[Lib.join,List.intercalate]
 |cons a r k=>
  intro h;have l:=h a AL;have i:=k λs j=>h s (AP _ j);cases r with
  |nil=>simp[Lib.join,List.intercalate];omega
  |cons b r=>
   have e:Lib.join (a::b::r) sep=a++(sep++Lib.join (b::r) sep):=by simp[Lib.join,List.intercalate,List.intersperse]
   rw[e];simp only[AE,AX]at i ⊢;have d:(r.length+1+1)*(m+sep.length)=(r.length+1)*(m+sep.length)+(m+sep.length):=by rw[CV (r.length+1)];omega
   rw[d];omega
theorem ATO{xs:List DX}(a:xs.length<=1048577)(b:∀s∈xs,s.length<=1048576):(Lib.join xs [47]).length<=1099513724929:=by
 have h:=A07 [47] 1048576 xs b;have:xs.length*(1048576+[(47:UInt8)].length)<=1048577*(1048576+1):=Nat.mul_le_mul a (AH _);omega
theorem VW(x:(List DX)×DX)(h:x.1.length<=140737488355328/\(Lib.join x.1 x.2).length<=140737488355328):Tot (strings_Join x) (λr=>r=Lib.join x.1 x.2):=by
 unfold strings_Join HI;rw[A4 h];exact DZ.2 rfl
theorem ou{p:Prop}(h:p:=by grind[ED,EB,EA,E4,E0,EF,EE,EC]):p:=h
theorem ATP(x:DX×Int×Int)(h:0<=x.2.2/\x.2.2<=x.2.1/\x.2.1=x.1.length/\x.2.1<=281474976710656):Tot (tM x) (λr:Sum (Unit) (Bool)=>True):=by
 refine F6 (R:=λr:Sum (Unit) (Bool)=>True) (λy:DX×Int×Int=>(0<=y.2.2/\y.2.2<=y.2.1/\y.2.1=y.1.length/\y.2.1<=281474976710656)) (λy:DX×Int×Int=>(y.2.1-y.2.2).toNat) ?_ _ _ oc (by unfold fuel;grind);rintro next ⟨s,t,a⟩ h hn
 try dsimp only at h hn
 unfold A40
 repeat' first
  |(with_reducible first|refine D_.2 ⟨λ_=>?_,λ_=>?_⟩|refine DY.2 ?_|refine DZ.2 ?_|refine F0.2 ⟨?_,λ_ _=>?_⟩|refine hn _ ?_ ?_)
  |dsimp only
 all_goals exact ou
theorem lZ(x:DX)(h:x.length<=1048576):Tot (V9 x) (λr:Bool=>True):=by
 unfold V9
 repeat' first
  |(with_reducible first|refine DY.2 ?_|refine DZ.2 ?_|refine(ATP _ ?_).mono λ_ _=>?_)
  |split
  |dsimp only
 all_goals exact ou
theorem ATQ(x:(List Int)×Int×Int)(h:0<=x.2.2/\x.2.2<=x.2.1/\x.2.1=x.1.length/\x.2.1<=281474976710656):Tot (e_ x) (λr:List Int=>r.length=x.1.length):=by
 refine F6 (R:=λr:List Int=>r.length=x.1.length) (λy:(List Int)×Int×Int=>(0<=y.2.2/\y.2.2<=y.2.1/\y.2.1=y.1.length/\y.2.1<=281474976710656)/\y.1.length=x.1.length) (λy:(List Int)×Int×Int=>(y.2.1-y.2.2).toNat) ?_ _ _ oc (by unfold fuel;grind);rintro next ⟨b,a,t⟩ h hn
 try dsimp only at h hn
 unfold eZ
 repeat' first
  |(with_reducible first|refine D_.2 ⟨λ_=>?_,λ_=>?_⟩|refine DY.2 ?_|refine DZ.2 ?_|refine FJ.2 ⟨?_,?_⟩|refine hn _ ?_ ?_)
  |dsimp only
 all_goals exact ou
theorem A08(x:DX)(h:x.length<=1048576):Tot (P1 x) (λr:DX=>r.length=x.length):=by
 unfold P1
 repeat' first
  |(with_reducible first|refine DY.2 ?_|refine DZ.2 ?_|refine F0.2 ⟨?_,λ_ _=>?_⟩|refine GA.2 ⟨?_,?_⟩|refine(ATQ _ ?_).mono λ_ _=>?_)
  |dsimp only
 all_goals exact ou
theorem VX(x:F9×Int)(h:True):Tot (P2 x) (λr:DX×Int×Int=>r.1=x.1.1/\r.2.1=x.1.2.1/\(0<=x.2->0<=r.2.2)):=by
 obtain⟨b,a⟩:=x;try dsimp only at h ⊢
 unfold P2
 repeat' first
  |(with_reducible first|refine D_.2 ⟨λ_=>?_,λ_=>?_⟩|refine DZ.2 ?_)
  |dsimp only
 all_goals exact ou
theorem VY(x:Option F9)(h:∃y,x=some y/\0<=y.2.1):Tot (OD x) (λr:Int=>0<=r/\(r=0\/∃y,x=some y/\y.2.1<y.1.length)):=by
 unfold OD;obtain⟨y,rfl,h⟩:=h
 repeat' first
  |(with_reducible first|refine D_.2 ⟨λ_=>?_,λ_=>?_⟩|refine DY.2 ?_|refine DZ.2 ?_|refine F0.2 ⟨?_,λ_ _=>?_⟩)
  |dsimp only
 all_goals exact ou
theorem AB4(x:Int)(h:True):Tot (YG x) (λr:Bool=>True):=by
 unfold YG
 repeat' first
  |with_reducible refine DZ.2 ?_
  |dsimp only
 all_goals exact ou
theorem ATR(x:F9×Int)(h:0<=x.2/\x.2<=(4:Int)/\(4:Int)<=281474976710656/\x.1.1.length<=1048576/\0<=x.1.2.1/\x.1.2.1<=x.1.1.length/\x.2<=x.1.1.length):Tot (rG x) (λr:Sum F9 (F9×DX)=>match r with| .inl q=>q=x.1/\4<=x.1.1.length| .inr q=>q.1.1=x.1.1/\q.1.2.1=x.1.2.1/\q.2=[]):=by
 refine F6 (R:=λr:Sum F9 (F9×DX)=>match r with| .inl q=>q=x.1/\4<=x.1.1.length| .inr q=>q.1.1=x.1.1/\q.1.2.1=x.1.2.1/\q.2=[]) (λy:F9×Int=>(0<=y.2/\y.2<=(4:Int)/\(4:Int)<=281474976710656/\y.1.1.length<=1048576/\0<=y.1.2.1/\y.1.2.1<=y.1.1.length/\y.2<=y.1.1.length)/\y.1=x.1) (λy:F9×Int=>((4:Int)-y.2).toNat) ?_ _ _ oc (by unfold fuel;grind);rintro next ⟨a,t⟩ h hn
 try dsimp only at h hn
 unfold A3I
 repeat' first
  |(with_reducible first|refine D_.2 ⟨λ_=>?_,λ_=>?_⟩|refine DY.2 ?_|refine DZ.2 ?_|refine HL.2 ⟨?_,?_⟩|refine(A08 _ ?_).mono λ_ _=>?_|refine(VX _ ?_).mono λ_ _=>?_|refine hn _ ?_ ?_)
  |dsimp only
 all_goals exact ou
theorem ATS(x:DX×Int×Int)(h:x.1.length<=1048576/\0<=x.2.1/\x.2.1<=x.1.length):Tot (rH x) (λr:DX×Int×Int=>r.1=x.1/\r.2.2=x.2.2/\x.2.1<=r.2.1/\r.2.1<=r.1.length):=by
 refine F6 (R:=λr:DX×Int×Int=>r.1=x.1/\r.2.2=x.2.2/\x.2.1<=r.2.1/\r.2.1<=r.1.length) (λy:DX×Int×Int=>(y.1.length<=1048576/\0<=y.2.1/\y.2.1<=y.1.length)/\y.1=x.1/\y.2.2=x.2.2/\x.2.1<=y.2.1) (λy:DX×Int×Int=>(y.1.length-y.2.1).toNat) ?_ _ _ oc (by unfold fuel;grind);rintro next a h hn
 try dsimp only at h hn
 unfold A3J
 repeat' first
  |(with_reducible first|refine D_.2 ⟨λ_=>?_,λ_=>?_⟩|refine DY.2 ?_|refine DZ.2 ?_|refine F0.2 ⟨?_,λ_ _=>?_⟩|refine(AB4 _ ?_).mono λ_ _=>?_|refine hn _ ?_ ?_)
  |dsimp only
 all_goals exact ou
theorem ATT(x:F9×Bool)(h:x.1.1.length<=1048576/\0<=x.1.2.1/\x.1.2.1<=x.1.1.length/\(x.2=true->x.1.2.1<x.1.1.length)):Tot (f0 x) (λr:DX×Int×Int=>r.1=x.1.1/\x.1.2.1<=r.2.1/\r.2.1<=r.1.length):=by
 obtain⟨a,t⟩:=x;try dsimp only at h ⊢
 unfold f0
 repeat' first
  |(with_reducible first|refine D_.2 ⟨λ_=>?_,λ_=>?_⟩|refine DY.2 ?_|refine DZ.2 ?_|refine(ATS _ ?_).mono λ_ _=>?_)
  |dsimp only
 all_goals exact ou
theorem ATU(x:F9×Bool)(h:x.1.1.length<=1048576/\0<=x.1.2.1/\x.1.2.1<=x.1.1.length):Tot (f9 x) (λr:DX×F9=>r.2.1=x.1.1/\0<=r.2.2.1/\r.2.2.1<=x.1.1.length/\r.1.length<=x.1.1.length):=by
 obtain⟨a,s⟩:=x;try dsimp only at h ⊢
 unfold f9
 repeat' first
  |(with_reducible first|refine D_.2 ⟨λ_=>?_,λ_=>?_⟩|refine DY.2 ?_|refine DZ.2 ?_|refine HL.2 ⟨?_,?_⟩|refine(ATR _ ?_).mono λ_ _=>?_|refine(VY _ ?_).mono λ_ _=>?_|refine(ATT _ ?_).mono λ_ _=>?_|refine(VX _ ?_).mono λ_ _=>?_|refine(A08 _ ?_).mono λ_ _=>?_)
  |split
  |dsimp only
 all_goals exact ou
theorem ATV(x:Int)(h:0<=x/\x<=255):Tot (YH x) (λr:Int=>-1<=r/\r<=15):=by
 unfold YH
 repeat' first
  |(with_reducible first|refine D_.2 ⟨λ_=>?_,λ_=>?_⟩|refine DZ.2 ?_)
  |dsimp only
 all_goals exact ou
theorem ATW(x:F9×Int×Int×Bool)(h:x.1.1.length<=1048576/\0<=x.1.2.1/\x.1.2.1<=x.1.1.length/\1<=x.2.1/\x.2.1<=2/\x.2.2.1= -1/\(x.2.2.2=true->x.1.2.1+x.2.1<x.1.1.length)):Tot (fA x) (λr:F9×Int=>r.1=x.1/\(x.2.2.2=true\/r.2= -1)):=by
 obtain⟨a,i,d,t⟩:=x;try dsimp only at h ⊢
 unfold fA
 repeat' first
  |(with_reducible first|refine D_.2 ⟨λ_=>?_,λ_=>?_⟩|refine DY.2 ?_|refine DZ.2 ?_|refine F0.2 ⟨?_,λ_ _=>?_⟩|refine(ATV _ ?_).mono λ_ _=>?_)
  |dsimp only
 all_goals exact ou
theorem ATX(x:F9×Int×Int)(h:x.1.1.length<=1048576/\0<=x.1.2.1/\x.1.2.1<=x.1.1.length/\1<=x.2.2/\x.2.2<=3/\x.1.2.1+x.2.2<=x.1.1.length):Tot (rI x) (λr:Sum (F9×Int) (F9×Int×Bool)=>match r with| .inl q=>q.1=x.1/\x.1.2.1+3<=x.1.1.length| .inr q=>q.1.1=x.1.1/\q.1.2.1=x.1.2.1/\q.2.2=false):=by
 refine F6 (R:=λr:Sum (F9×Int) (F9×Int×Bool)=>match r with| .inl q=>q.1=x.1/\x.1.2.1+3<=x.1.1.length| .inr q=>q.1.1=x.1.1/\q.1.2.1=x.1.2.1/\q.2.2=false) (λy:F9×Int×Int=>(y.1.1.length<=1048576/\0<=y.1.2.1/\y.1.2.1<=y.1.1.length/\1<=y.2.2/\y.2.2<=3/\y.1.2.1+y.2.2<=y.1.1.length)/\y.1=x.1) (λy:F9×Int×Int=>(3-y.2.2).toNat) ?_ _ _ oc (by unfold fuel;grind);rintro next ⟨b,a,i⟩ h hn
 try dsimp only at h hn
 unfold A3K
 repeat' first
  |(with_reducible first|refine D_.2 ⟨λ_=>?_,λ_=>?_⟩|refine DY.2 ?_|refine DZ.2 ?_|refine(ATW _ ?_).mono λ_ _=>?_|refine(VX _ ?_).mono λ_ _=>?_|refine hn _ ?_ ?_)
  |dsimp only
 all_goals exact ou
theorem ATY(x:DX×Int×Int)(h:x.1.length<=1048576/\0<=x.2.1/\x.2.1<=x.1.length):Tot (fB x) (λr:Int×Bool×F9=>r.2.2.1=x.1/\x.2.1<=r.2.2.2.1/\r.2.2.2.1<=x.1.length/\(r.2.1=true->x.2.1<r.2.2.2.1)):=by
 unfold fB
 repeat' first
  |(with_reducible first|refine D_.2 ⟨λ_=>?_,λ_=>?_⟩|refine DY.2 ?_|refine DZ.2 ?_|refine F0.2 ⟨?_,λ_ _=>?_⟩|refine(SY _ ?_).mono λ_ _=>?_|refine(ATX _ ?_).mono λ_ _=>?_)
  |split
  |dsimp only
 all_goals exact ou
theorem ATZ(x:F9×(List Int))(h:x.1.1.length<=1048576/\0<=x.1.2.1/\x.1.2.1<=x.1.1.length/\x.2.length<=x.1.2.1):Tot (rJ x) (λr:F9×(List Int)=>r.1.1=x.1.1/\x.1.2.1<=r.1.2.1/\r.1.2.1<=x.1.1.length/\r.2.length<=r.1.2.1):=by
 refine F6 (R:=λr:F9×(List Int)=>r.1.1=x.1.1/\x.1.2.1<=r.1.2.1/\r.1.2.1<=x.1.1.length/\r.2.length<=r.1.2.1) (λy:F9×(List Int)=>(y.1.1.length<=1048576/\0<=y.1.2.1/\y.1.2.1<=y.1.1.length/\y.2.length<=y.1.2.1)/\y.1.1=x.1.1/\x.1.2.1<=y.1.2.1) (λy:F9×(List Int)=>(y.1.1.length-y.1.2.1).toNat) ?_ _ _ oc (by unfold fuel;grind);rintro next ⟨a,b⟩ h hn
 try dsimp only at h hn
 unfold A3L
 repeat' first
  |(with_reducible first|refine D_.2 ⟨λ_=>?_,λ_=>?_⟩|refine DY.2 ?_|refine DZ.2 ?_|refine FT.2 ⟨?_,?_⟩|refine(ATY _ ?_).mono λ_ _=>?_|refine hn _ ?_ ?_)
  |dsimp only
 all_goals exact ou
theorem l_(x:DX×Int×Int)(h:x.1.length<=1048576/\0<=x.2.1/\x.2.1<=x.1.length):Tot (S3 x) (λr:DX×F9=>r.2.1=x.1/\x.2.1<=r.2.2.1/\r.2.2.1<=x.1.length/\r.1.length<=x.1.length):=by
 unfold S3
 repeat' first
  |(with_reducible first|refine D_.2 ⟨λ_=>?_,λ_=>?_⟩|refine DY.2 ?_|refine DZ.2 ?_|refine F0.2 ⟨?_,λ_ _=>?_⟩|refine GA.2 ⟨?_,?_⟩|refine(ATZ _ ?_).mono λ_ _=>?_|refine(VX _ ?_).mono λ_ _=>?_)
  |dsimp only
 all_goals exact ou
theorem AT_(x:F9×(List DX))(h:x.1.1.length<=1048576/\0<=x.1.2.1/\x.1.2.1<=x.1.1.length/\x.2.length<=x.1.2.1+1/\∀s∈x.2,s.length<=1048576):Tot (rK x) (λr:F9×(List DX)=>r.1.1=x.1.1/\x.1.2.1<=r.1.2.1/\r.1.2.1<=x.1.1.length/\x.2.length<=r.2.length/\r.2.length<=1048577/\∀s∈r.2,s.length<=1048576):=by
 refine F6 (R:=λr:F9×(List DX)=>r.1.1=x.1.1/\x.1.2.1<=r.1.2.1/\r.1.2.1<=x.1.1.length/\x.2.length<=r.2.length/\r.2.length<=1048577/\∀s∈r.2,s.length<=1048576) (λy:F9×(List DX)=>(y.1.1.length<=1048576/\0<=y.1.2.1/\y.1.2.1<=y.1.1.length/\y.2.length<=y.1.2.1+1/\∀s∈y.2,s.length<=1048576)/\y.1.1=x.1.1/\x.1.2.1<=y.1.2.1/\x.2.length<=y.2.length) (λy:F9×(List DX)=>(y.1.1.length-y.1.2.1).toNat) ?_ _ _ oc (by unfold fuel;grind);rintro next ⟨a,l⟩ h hn
 try dsimp only at h hn
 unfold A3M
 repeat' first
  |(with_reducible first|refine D_.2 ⟨λ_=>?_,λ_=>?_⟩|refine DY.2 ?_|refine DZ.2 ?_|refine FT.2 ⟨?_,?_⟩|refine(VY _ ?_).mono λ_ _=>?_|refine(l_ _ ?_).mono λ_ _=>?_|refine hn _ ?_ ?_)
  |dsimp only
 all_goals exact ou
theorem AB5(x:DX×Int×Int)(h:x.1.length<=1048576/\0<=x.2.1/\x.2.1<=x.1.length):Tot (YI x) (λr:(List DX)×F9=>r.2.1=x.1/\x.2.1<=r.2.2.1/\r.2.2.1<=x.1.length/\1<=r.1.length/\r.1.length<=1048577/\∀s∈r.1,s.length<=1048576):=by
 unfold YI
 repeat' first
  |(with_reducible first|refine DY.2 ?_|refine DZ.2 ?_|refine(l_ _ ?_).mono λ_ _=>?_|refine(AT_ _ ?_).mono λ_ _=>?_)
  |dsimp only
 all_goals exact ou
theorem AB6(x:Int×Bool)(h:True):Tot (YJ x) (λr:Bool=>True):=by
 obtain⟨b,a⟩:=x;try dsimp only at h ⊢
 unfold YJ
 repeat' first
  |(with_reducible first|refine D_.2 ⟨λ_=>?_,λ_=>?_⟩|refine DZ.2 ?_)
  |dsimp only
 all_goals exact ou
theorem ATa(x:F9×Int)(h:x.1.1.length<=1048576/\0<=x.1.2.1/\x.1.2.1<=x.1.1.length):Tot (rL x) (λr:DX×Int×Int=>r.1=x.1.1/\x.1.2.1<=r.2.1/\r.2.1<=x.1.1.length):=by
 refine F6 (R:=λr:DX×Int×Int=>r.1=x.1.1/\x.1.2.1<=r.2.1/\r.2.1<=x.1.1.length) (λy:F9×Int=>(y.1.1.length<=1048576/\0<=y.1.2.1/\y.1.2.1<=y.1.1.length)/\y.1.1=x.1.1/\y.1.2.2=x.1.2.2/\x.1.2.1<=y.1.2.1) (λy:F9×Int=>(y.1.1.length-y.1.2.1).toNat) ?_ _ _ oc (by unfold fuel;grind);rintro next ⟨b,a⟩ h hn
 try dsimp only at h hn
 unfold A3N
 repeat' first
  |(with_reducible first|refine D_.2 ⟨λ_=>?_,λ_=>?_⟩|refine DY.2 ?_|refine DZ.2 ?_|refine F0.2 ⟨?_,λ_ _=>?_⟩|refine(AB6 _ ?_).mono λ_ _=>?_|refine hn _ ?_ ?_)
  |dsimp only
 all_goals exact ou
theorem ATb(x:DX×Int×Int)(h:x.1.length<=1048576/\0<=x.2.1/\x.2.1<=x.1.length):Tot (fC x) (λr:(DX×DX)×F9=>r.2.1=x.1/\x.2.1<=r.2.2.1/\r.2.2.1<=x.1.length/\r.1.1.length<=1048576/\r.1.2.length<=1048576):=by
 unfold fC
 repeat' first
  |(with_reducible first|refine D_.2 ⟨λ_=>?_,λ_=>?_⟩|refine DY.2 ?_|refine DZ.2 ?_|refine HL.2 ⟨?_,?_⟩|refine(ATa _ ?_).mono λ_ _=>?_|refine(VY _ ?_).mono λ_ _=>?_|refine(VX _ ?_).mono λ_ _=>?_|refine(l_ _ ?_).mono λ_ _=>?_)
  |dsimp only
 all_goals exact ou
theorem ATc(x:F9×H_×Bool)(h:x.1.1.length<=1048576/\0<=x.1.2.1/\x.1.2.1<=x.1.1.length/\(x.2.2=true->x.1.2.1<x.1.1.length)/\x.2.1.2.2.2.1.length<=1048576):Tot (fD x) (λr:F9×H_=>r.1.1=x.1.1/\x.1.2.1<=r.1.2.1/\r.1.2.1<=x.1.1.length/\r.2.1=x.2.1.1/\r.2.2.1=x.2.1.2.1/\r.2.2.2.1=x.2.1.2.2.1/\r.2.2.2.2.1.length<=1048576/\r.2.2.2.2.2=x.2.1.2.2.2.2):=by
 obtain⟨b,a,t⟩:=x;try dsimp only at h ⊢
 unfold fD
 repeat' first
  |(with_reducible first|refine D_.2 ⟨λ_=>?_,λ_=>?_⟩|refine DY.2 ?_|refine DZ.2 ?_|refine(l_ _ ?_).mono λ_ _=>?_)
  |dsimp only
 all_goals exact ou
theorem ATd(x:F9×H_×Int)(h:x.1.1.length<=1048576/\0<=x.1.2.1/\x.1.2.1<=x.1.1.length/\x.2.1.2.2.2.2.1.length<=x.1.2.1/\x.2.2≠0/\∀q∈x.2.1.2.2.2.2.1,q.1.length<=1048576/\q.2.length<=1048576):Tot (rM x) (λr:F9×H_=>r.1.1=x.1.1/\x.1.2.1<=r.1.2.1/\r.1.2.1<=x.1.1.length/\r.2.1=x.2.1.1/\r.2.2.1=x.2.1.2.1/\r.2.2.2.1=x.2.1.2.2.1/\r.2.2.2.2.1=x.2.1.2.2.2.1/\r.2.2.2.2.2.2=x.2.1.2.2.2.2.2/\r.2.2.2.2.2.1.length<=1048576/\∀q∈r.2.2.2.2.2.1,q.1.length<=1048576/\q.2.length<=1048576):=by
 refine F6 (R:=λr:F9×H_=>r.1.1=x.1.1/\x.1.2.1<=r.1.2.1/\r.1.2.1<=x.1.1.length/\r.2.1=x.2.1.1/\r.2.2.1=x.2.1.2.1/\r.2.2.2.1=x.2.1.2.2.1/\r.2.2.2.2.1=x.2.1.2.2.2.1/\r.2.2.2.2.2.2=x.2.1.2.2.2.2.2/\r.2.2.2.2.2.1.length<=1048576/\∀q∈r.2.2.2.2.2.1,q.1.length<=1048576/\q.2.length<=1048576) (λy:F9×H_×Int=>(y.1.1.length<=1048576/\0<=y.1.2.1/\y.1.2.1<=y.1.1.length/\y.2.1.2.2.2.2.1.length<=y.1.2.1/\y.2.2≠0/\∀q∈y.2.1.2.2.2.2.1,q.1.length<=1048576/\q.2.length<=1048576)/\y.1.1=x.1.1/\y.2.1.1=x.2.1.1/\y.2.1.2.1=x.2.1.2.1/\y.2.1.2.2.1=x.2.1.2.2.1/\y.2.1.2.2.2.1=x.2.1.2.2.2.1/\y.2.1.2.2.2.2.2=x.2.1.2.2.2.2.2/\x.1.2.1<=y.1.2.1) (λy:F9×H_×Int=>(y.1.1.length-y.1.2.1).toNat) ?_ _ _ oc (by unfold fuel;grind);rintro next ⟨b,a,s⟩ h hn
 try dsimp only at h hn
 unfold A3O
 repeat' first
  |(with_reducible first|refine D_.2 ⟨λ_=>?_,λ_=>?_⟩|refine DY.2 ?_|refine DZ.2 ?_|refine FT.2 ⟨?_,?_⟩|refine(VY _ ?_).mono λ_ _=>?_|refine(ATb _ ?_).mono λ_ _=>?_|refine hn _ ?_ ?_)
  |dsimp only
 all_goals exact ou
theorem m6{k:IntKind}{a b:Int}{Q:Int->Prop}:Tot (div? k a b) Q<->b≠0/\Q (k.wrap (a.tdiv b)):=by
 unfold div? Tot;by_cases h:b=0
 .subst h;simp
 .have e:(b==0)=false:=by simpa using h
  rw[e];simp[h]
theorem AB7{a b:Int}{Q:Int->Prop}:Tot (mod? a b) Q<->b≠0/\Q (a.tmod b):=by
 unfold mod? Tot;by_cases h:b=0
 .subst h;simp
 .have e:(b==0)=false:=by simpa using h
  rw[e];simp[h]
theorem ATe{a:Int}(h:0<=a)(b:a<=255):0<=a.tdiv 16/\a.tdiv 16<=15:=by rw[Int.tdiv_eq_ediv_of_nonneg h];omega
theorem ATf{a:Int}(h:0<=a)(b:a<=255):0<=a.tmod 16/\a.tmod 16<=15:=by rw[Int.tmod_eq_emod_of_nonneg h];omega
theorem ATg(b:UInt8):0<=((b.toNat:Int)).tdiv 16/\((b.toNat:Int)).tdiv 16<=15:=ATe oa (by have:=EC b;omega)
theorem ATh(b:UInt8):0<=((b.toNat:Int)).tmod 16/\((b.toNat:Int)).tmod 16<=15:=ATf oa (by have:=EC b;omega)
theorem EH{α:Type}{l:List α}{i:Nat}{d:α}:i<l.length->l.getD i d∈l:=λh=>by
 rw[AD,A1 h];exact AU h
theorem EI{α:Type}{l:List α}{i:Nat}{a b:α}:a∈l.set i b->a∈l\/a=b:=List.mem_or_eq_of_mem_set
theorem A09(x:DX×DX)(h:x.1.length<4294967281/\1<=x.2.length):Tot (strings_Split x) (λr:List DX=>r.length<=x.1.length+2/\∀s∈r,s.length<=x.1.length):=by
 unfold strings_Split HI;rw[A4 h];refine DZ.2 ⟨?_,?_⟩
 .rw[AN];have l:=Lib.splitB_length_le ⟨x.2.toArray⟩ 0 (Lib.countB ⟨x.1.toArray⟩ ⟨x.2.toArray⟩) ⟨x.1.toArray⟩;have o:Lib.countB ⟨x.1.toArray⟩ ⟨x.2.toArray⟩<=x.1.length+1:=Lib.count_le x.1 x.2;omega
 .intro s i;obtain⟨b,d,rfl⟩:=B1.1 i
  have:∀(k:Nat) (s:ByteArray),∀y∈Lib.splitB ⟨x.2.toArray⟩ 0 k s,y.size<=s.size:=by
   intro k;induction k with
   |zero=>intro s y a;rw[Lib.splitB_zero,AJ]at a;subst a;exact AH _
   |succ k j=>
    intro s y a;unfold Lib.splitB at a;split at a
    .rw[AJ]at a;subst a;exact AH _
    .rcases B2.1 a with rfl|a
     .rw[CZ];omega
     .have:=j _ y a;rw[CZ]at this;omega
  have:=this _ _ b d;have e:(⟨x.1.toArray⟩:ByteArray).size=x.1.length:=rfl;rw[e]at this;exact this
theorem AB8(x:List Int)(h:True):Tot (YF x) (λr:List Int=>r=x):=DZ.2 rfl
theorem SZ(x:List Int)(h:True):Tot (O8 x) (λr:DX=>r.length=x.length):=DZ.2 (EB x)
theorem ATi(x:F9×H_×Bool)(h:x.1.1.length<=1048576/\0<=x.1.2.1/\x.1.2.1<=x.1.1.length/\(x.2.2=true->x.1.2.1<x.1.1.length)/\x.2.1.2.2.2.2.2.length<=1048576):Tot (fE x) (λr:F9×H_=>r.1.1=x.1.1/\x.1.2.1<=r.1.2.1/\r.1.2.1<=x.1.1.length/\r.2.1=x.2.1.1/\r.2.2.1=x.2.1.2.1/\r.2.2.2.1=x.2.1.2.2.1/\r.2.2.2.2.1=x.2.1.2.2.2.1/\r.2.2.2.2.2.1=x.2.1.2.2.2.2.1/\r.2.2.2.2.2.2.length<=1099513724929):=by
 obtain⟨b,a,t⟩:=x;try dsimp only at h ⊢
 unfold fE
 repeat' first
  |(with_reducible first|refine D_.2 ⟨λ_=>?_,λ_=>?_⟩|refine DY.2 ?_|refine DZ.2 ?_|refine(AB5 _ ?_).mono λ_ _=>?_|refine(VW _ ?_).mono λ_ _=>?_)
  |dsimp only
 all_goals grind[ED,EB,EA,E4,E0,EF,EE,EC,EH,EI,ATO]
theorem AB9(x:Unit)(h:True):Tot (fN x) (λr=>r.length=5/\∀z∈r,z.1.length<=20):=⟨_,rfl,rfl,oi⟩
theorem oz{p:Prop}(h:p:=by grind[ED,EB,EA,E4,E0,EF,EE,EC,EH,EI]):p:=h
theorem ATj(x:DX×(List S2)×Int)(h:0<=x.2.2/\x.2.2<=(5:Int)/\x.2.1.length=(5:Int)/\(5:Int)<=281474976710656/\∀z∈x.2.1,z.1.length<=20):Tot (r_ x) (λr:Sum (Unit) (Int)=>match r with| .inl _=>True| .inr r=>0<=r/\r<5/\x.1.length<=20):=by
 refine F6 (R:=λr:Sum (Unit) (Int)=>match r with| .inl _=>True| .inr r=>0<=r/\r<5/\x.1.length<=20) (λy:DX×(List S2)×Int=>(0<=y.2.2/\y.2.2<=(5:Int)/\y.2.1.length=(5:Int)/\(5:Int)<=281474976710656/\∀z∈y.2.1,z.1.length<=20)/\y.1=x.1) (λy:DX×(List S2)×Int=>((5:Int)-y.2.2).toNat) ?_ _ _ oc (by unfold fuel;grind);rintro next ⟨k,t,a⟩ h hn
 try dsimp only at h hn
 unfold A3a
 repeat' first
  |(with_reducible first|refine D_.2 ⟨λ_=>?_,λ_=>?_⟩|refine DY.2 ?_|refine DZ.2 ?_|refine F0.2 ⟨?_,λ_ _=>?_⟩|refine hn _ ?_ ?_)
  |dsimp only
 all_goals exact oz
theorem ATk(x:DX)(h:True):Tot (fO x) (λr:Int=>r<5/\(0<=r->x.length<=20)):=by
 unfold fO
 repeat' first
  |(with_reducible first|refine DY.2 ?_|refine DZ.2 ?_|refine(AB9 _ ?_).mono λ_ _=>?_|refine(ATj _ ?_).mono λ_ _=>?_)
  |split
  |dsimp only
 all_goals exact oz
theorem aY(x:DX)(h:True):Tot (S4 x) (λr:S2×Int=>r.2=0->x.length<=20):=by
 unfold S4
 repeat' first
  |(with_reducible first|refine D_.2 ⟨λ_=>?_,λ_=>?_⟩|refine DY.2 ?_|refine DZ.2 ?_|refine F0.2 ⟨?_,λ_ _=>?_⟩|refine(ATk _ ?_).mono λ_ _=>?_|refine(AB9 _ ?_).mono λ_ _=>?_)
  |dsimp only
 all_goals exact oz
theorem ATl(x:(List DX)×Int×Int)(h:0<=x.2.2/\x.2.2<=x.2.1/\x.2.1=x.1.length/\x.2.1<=281474976710656):Tot (fQ x) (λr:Sum (Unit) (Bool)=>match r with| .inl _=>(∀j:Nat,x.2.2<=j->∀s,x.1[j]?=some s->s.length<=200)| .inr r=>r=true):=by
 refine F6 (R:=λr:Sum (Unit) (Bool)=>match r with| .inl _=>(∀j:Nat,x.2.2<=j->∀s,x.1[j]?=some s->s.length<=200)| .inr r=>r=true) (λy:(List DX)×Int×Int=>(0<=y.2.2/\y.2.2<=y.2.1/\y.2.1=y.1.length/\y.2.1<=281474976710656)/\y.1=x.1/\(∀j:Nat,x.2.2<=j->(j:Int)<y.2.2->∀s,y.1[j]?=some s->s.length<=200)/\x.2.2<=y.2.2) (λy:(List DX)×Int×Int=>(y.2.1-y.2.2).toNat) ?_ _ _ oc (by unfold fuel;grind);rintro next ⟨t,a,b⟩ h hn
 try dsimp only at h hn
 unfold fP
 repeat' first
  |(with_reducible first|refine D_.2 ⟨λ_=>?_,λ_=>?_⟩|refine DY.2 ?_|refine DZ.2 ?_|refine F0.2 ⟨?_,λ_ _=>?_⟩|refine hn _ ?_ ?_)
  |dsimp only
 all_goals exact oz
theorem ABA{α:Type}{l:List α}{P:α->Prop}(h:∀j:Nat,(0:Int)<=j->∀s,l[j]?=some s->P s):∀s∈l,P s:=λs a=>let ⟨j,hj⟩:=C6 a;h j (B6 j) s hj
theorem ATm(x:E3×Int×Int)(h:0<=x.2.2/\x.2.2<=x.2.1/\x.2.1=x.1.length/\x.2.1<=281474976710656):Tot (sA x) (λr:Sum (Unit) (Bool)=>match r with| .inl _=>(∀j:Nat,x.2.2<=j->∀s,x.1[j]?=some s->s.1.length<=200/\s.2.length<=200)| .inr r=>r=true):=by
 refine F6 (R:=λr:Sum (Unit) (Bool)=>match r with| .inl _=>(∀j:Nat,x.2.2<=j->∀s,x.1[j]?=some s->s.1.length<=200/\s.2.length<=200)| .inr r=>r=true) (λy:E3×Int×Int=>(0<=y.2.2/\y.2.2<=y.2.1/\y.2.1=y.1.length/\y.2.1<=281474976710656)/\y.1=x.1/\(∀j:Nat,x.2.2<=j->(j:Int)<y.2.2->∀s,y.1[j]?=some s->s.1.length<=200/\s.2.length<=200)/\x.2.2<=y.2.2) (λy:E3×Int×Int=>(y.2.1-y.2.2).toNat) ?_ _ _ oc (by unfold fuel;grind);rintro next ⟨t,a,b⟩ h hn
 try dsimp only at h hn
 unfold A3b
 repeat' first
  |(with_reducible first|refine D_.2 ⟨λ_=>?_,λ_=>?_⟩|refine DY.2 ?_|refine DZ.2 ?_|refine F0.2 ⟨?_,λ_ _=>?_⟩|refine hn _ ?_ ?_)
  |dsimp only
 all_goals exact oz
theorem ATn(x:DX×DX×DX×DX×E3×DX)(h:x.2.2.2.2.1.length<=1048576):Tot (S5 x) (λr:Bool=>r=false->(x.2.1.length<=200/\x.2.2.1.length<=200/\x.2.2.2.1.length<=200/\x.2.2.2.2.2.length<=200/\x.2.2.2.2.1.length<=10/\∀q∈x.2.2.2.2.1,q.1.length<=200/\q.2.length<=200)):=by
 unfold S5;dsimp only;refine DY.2 ((ATl _ oe).mono λr b=>?_);rcases r with r|r
 .have b:=ABA b;refine DY.2 ((ATm _ od).mono λe a=>?_);rcases e with e|e
  .have a:=ABA a;refine DZ.2 λd=>?_;have d:=AF d;refine⟨b _ oe,b _ oe,b _ oe,b _ oe,oa,a⟩
  .have a:e=true:=a;subst a;exact DZ.2 λd=>by cases d
 .have b:r=true:=b;subst b;exact DZ.2 λd=>by cases d
theorem A0A(x:DX)(h:x.length<4294967281):Tot (UO x) (λr:List DX=>r.length<=x.length+2/\∀s∈r,s.length<=x.length):=by
 unfold UO
 repeat' first
  |(with_reducible first|refine D_.2 ⟨λ_=>?_,λ_=>?_⟩|refine DY.2 ?_|refine DZ.2 ?_|refine(A09 _ ?_).mono λ_ _=>?_)
  |dsimp only
 all_goals exact oz
theorem ATo(x:Bool×(List DX)×Int×Int)(h:0<=x.2.2.2/\x.2.2.2<=x.2.2.1/\x.2.2.1=x.2.1.length/\x.2.2.1<=281474976710656):Tot (sB x) (λr:Sum (Unit) (Bool)=>True):=by
 refine F6 (R:=λr:Sum (Unit) (Bool)=>True) (λy:Bool×(List DX)×Int×Int=>(0<=y.2.2.2/\y.2.2.2<=y.2.2.1/\y.2.2.1=y.2.1.length/\y.2.2.1<=281474976710656)) (λy:Bool×(List DX)×Int×Int=>(y.2.2.1-y.2.2.2).toNat) ?_ _ _ oc (by unfold fuel;grind);rintro next ⟨d,t,a,b⟩ h hn
 try dsimp only at h hn
 unfold A3c
 repeat' first
  |(with_reducible first|refine D_.2 ⟨λ_=>?_,λ_=>?_⟩|refine DY.2 ?_|refine DZ.2 ?_|refine F0.2 ⟨?_,λ_ _=>?_⟩|refine hn _ ?_ ?_)
  |dsimp only
 all_goals exact oz
theorem ABB(x:(List DX)×Bool)(h:x.1.length<=1048576):Tot (YM x) (λr:Bool=>True):=by
 obtain⟨l,d⟩:=x;try dsimp only at h ⊢
 unfold YM
 repeat' first
  |(with_reducible first|refine DY.2 ?_|refine DZ.2 ?_|refine(ATo _ ?_).mono λ_ _=>?_)
  |split
  |dsimp only
 all_goals exact oz
theorem ATp(x:DX×Int×Int)(h:0<=x.2.2/\x.2.2<=x.2.1/\x.2.1=x.1.length/\x.2.1<=281474976710656):Tot (sC x) (λr:Sum (Unit) (Bool)=>True):=by
 refine F6 (R:=λr:Sum (Unit) (Bool)=>True) (λy:DX×Int×Int=>(0<=y.2.2/\y.2.2<=y.2.1/\y.2.1=y.1.length/\y.2.1<=281474976710656)) (λy:DX×Int×Int=>(y.2.1-y.2.2).toNat) ?_ _ _ oc (by unfold fuel;grind);rintro next ⟨s,t,a⟩ h hn
 try dsimp only at h hn
 unfold A3d
 repeat' first
  |(with_reducible first|refine D_.2 ⟨λ_=>?_,λ_=>?_⟩|refine DY.2 ?_|refine DZ.2 ?_|refine F0.2 ⟨?_,λ_ _=>?_⟩|refine(AB6 _ ?_).mono λ_ _=>?_|refine hn _ ?_ ?_)
  |dsimp only
 all_goals exact oz
theorem ATq(x:DX)(h:x.length<=1048576):Tot (fR x) (λr:Bool=>True):=by
 unfold fR
 repeat' first
  |(with_reducible first|refine DY.2 ?_|refine DZ.2 ?_|refine(ATp _ ?_).mono λ_ _=>?_)
  |split
  |dsimp only
 all_goals exact oz
theorem ATr(x:E3×E3×Int×Int)
 (h:0<=x.2.2.2/\x.2.2.2<=x.2.2.1/\x.2.2.1=x.2.1.length/\x.2.2.1<=281474976710656/\x.1.length=x.2.1.length/\∀q∈x.2.1,q.1.length<=1048576):Tot (sD x) (λr=>True):=by
 refine F6 (λx:E3×E3×Int×Int=>0<=x.2.2.2/\x.2.2.2<=x.2.2.1/\x.2.2.1=x.2.1.length/\x.2.2.1<=281474976710656/\x.1.length=x.2.1.length/\∀q∈x.2.1,q.1.length<=1048576)
  (λx=>(x.2.2.1-x.2.2.2).toNat) ?_ _ _ h (by unfold fuel;omega)
 rintro next ⟨o,w,z,t⟩ h e
 dsimp only at h e;obtain⟨s,v,i,j,k,a⟩:=h;unfold A3e;dsimp only;refine D_.2 ⟨λb=>?_,λ_=>DZ.2 trivial⟩;have b:=A5 b;refine DY.2 (F0.2 ⟨⟨oa,oa⟩,λy l=>?_⟩);refine DY.2 ((ATq _ (a _ (AI l))).mono λr _=>?_);refine D_.2 ⟨λ_=>DZ.2 trivial,λ_=>?_⟩;refine D_.2 ⟨λ_=>DZ.2 trivial,λ_=>?_⟩;refine DY.2 (Tot.mono (P:=λ_=>True) ?_ λA _=>?_)
 .refine D_.2 ⟨λd=>?_,λ_=>DZ.2 trivial⟩;have d:=A5 d;rw[EQ oa oa];exact F0.2 ⟨⟨oa,oa⟩,λ_ _=>trivial⟩
 .refine D_.2 ⟨λ_=>DZ.2 trivial,λ_=>?_⟩;rw[EQ (n:=t+1) oa oa];exact e _ ⟨od,od,i,j,k,a⟩ od
theorem ATs(x:List (DX×DX))(h:x.length<=1048576/\∀q∈x,q.1.length<=1048576):Tot (fS x) (λr:Int=>True):=by
 unfold fS
 repeat' first
  |(with_reducible first|refine DY.2 ?_|refine DZ.2 ?_|refine(ATr _ ?_).mono λ_ _=>?_)
  |split
  |dsimp only
 all_goals exact oz
theorem ATt(x:DX×Int×Int)(h:0<=x.2.2/\x.2.2<=x.2.1/\x.2.1=x.1.length/\x.2.1<=281474976710656):Tot (sE x) (λr:Sum (Unit) (Bool)=>True):=by
 refine F6 (R:=λr:Sum (Unit) (Bool)=>True) (λy:DX×Int×Int=>(0<=y.2.2/\y.2.2<=y.2.1/\y.2.1=y.1.length/\y.2.1<=281474976710656)) (λy:DX×Int×Int=>(y.2.1-y.2.2).toNat) ?_ _ _ oc (by unfold fuel;grind);rintro next ⟨s,t,a⟩ h hn
 try dsimp only at h hn
 unfold fT
 repeat' first
  |(with_reducible first|refine D_.2 ⟨λ_=>?_,λ_=>?_⟩|refine DY.2 ?_|refine DZ.2 ?_|refine F0.2 ⟨?_,λ_ _=>?_⟩|refine hn _ ?_ ?_)
  |dsimp only
 all_goals exact oz
theorem ABC(x:DX)(h:x.length<=1048576):Tot (UP x) (λr:Bool=>True):=by
 unfold UP
 repeat' first
  |(with_reducible first|refine DY.2 ?_|refine DZ.2 ?_|refine(ATt _ ?_).mono λ_ _=>?_)
  |split
  |dsimp only
 all_goals exact oz
theorem ATu(x:(List DX)×Int×Int)(h:0<=x.2.2/\x.2.2<=x.2.1/\x.2.1=x.1.length/\x.2.1<=281474976710656/\∀z∈x.1,z.length<=1048576):Tot (fV x) (λr:Sum (Unit) (Int)=>∀z,r=.inr z->z=8):=by
 refine F6 (R:=λr:Sum (Unit) (Int)=>∀z,r=.inr z->z=8) (λy:(List DX)×Int×Int=>(0<=y.2.2/\y.2.2<=y.2.1/\y.2.1=y.1.length/\y.2.1<=281474976710656/\∀z∈y.1,z.length<=1048576)) (λy:(List DX)×Int×Int=>(y.2.1-y.2.2).toNat) ?_ _ _ oc (by unfold fuel;grind);rintro next ⟨t,a,b⟩ h hn
 try dsimp only at h hn
 unfold fU
 repeat' first
  |(with_reducible first|refine D_.2 ⟨λ_=>?_,λ_=>?_⟩|refine DY.2 ?_|refine DZ.2 ?_|refine F0.2 ⟨?_,λ_ _=>?_⟩|refine(ABC _ ?_).mono λ_ _=>?_|refine hn _ ?_ ?_)
  |dsimp only
 all_goals exact oz
theorem ATv(x:E3×Int×Int)(h:0<=x.2.2/\x.2.2<=x.2.1/\x.2.1=x.1.length/\x.2.1<=281474976710656/\∀z∈x.1,z.2.length<=1048576):Tot (sF x) (λr:Sum (Unit) (Int)=>∀z,r=.inr z->z=8):=by
 refine F6 (R:=λr:Sum (Unit) (Int)=>∀z,r=.inr z->z=8) (λy:E3×Int×Int=>(0<=y.2.2/\y.2.2<=y.2.1/\y.2.1=y.1.length/\y.2.1<=281474976710656/\∀z∈y.1,z.2.length<=1048576)) (λy:E3×Int×Int=>(y.2.1-y.2.2).toNat) ?_ _ _ oc (by unfold fuel;grind);rintro next ⟨t,a,b⟩ h hn
 try dsimp only at h hn
 unfold A3f
 repeat' first
  |(with_reducible first|refine D_.2 ⟨λ_=>?_,λ_=>?_⟩|refine DY.2 ?_|refine DZ.2 ?_|refine F0.2 ⟨?_,λ_ _=>?_⟩|refine(ABC _ ?_).mono λ_ _=>?_|refine hn _ ?_ ?_)
  |dsimp only
 all_goals exact oz
theorem ABD(x:Int)(h:True):Tot (UQ x) (λr:Bool=>True):=by
 unfold UQ
 repeat' first
  |with_reducible refine DZ.2 ?_
  |dsimp only
 all_goals exact oz
theorem aZ(x:(List Int)×Int)(h:x.1.length<=1048576000):Tot (MC x) (λr:Unit×(List Int)=>r.2.length=x.1.length+1):=by
 obtain⟨b,a⟩:=x;try dsimp only at h ⊢
 unfold MC
 repeat' first
  |(with_reducible first|refine DY.2 ?_|refine DZ.2 ?_|refine FT.2 ⟨?_,?_⟩|refine(AB8 _ ?_).mono λ_ _=>?_)
  |dsimp only
 all_goals exact oz
theorem a_(x:(List Int)×DX)(h:x.1.length<=1048576000/\x.2.length<=1048576000):Tot (QF x) (λr:Int×Unit×(List Int)=>r.2.2.length=x.1.length+x.2.length):=by
 obtain⟨b,s⟩:=x;try dsimp only at h ⊢
 unfold QF
 repeat' first
  |(with_reducible first|refine DY.2 ?_|refine DZ.2 ?_|refine FT.2 ⟨?_,?_⟩|refine(AB8 _ ?_).mono λ_ _=>?_)
  |dsimp only
 all_goals exact oz
theorem ATw(x:DX×(List Int)×Int×Int)(h:0<=x.2.2.2/\x.2.2.2<=x.2.2.1/\x.2.2.1=x.1.length/\x.2.1.length<=x.2.2.2/\x.1.length<=1048576):Tot (fX x) (λr:List Int=>r.length<=x.1.length):=by
 refine F6 (R:=λr:List Int=>r.length<=x.1.length) (λy:DX×(List Int)×Int×Int=>y.1=x.1/\0<=y.2.2.2/\y.2.2.2<=y.2.2.1/\y.2.2.1=y.1.length/\y.2.1.length<=y.2.2.2/\y.1.length<=1048576)
  (λy=>(y.2.2.1-y.2.2.2).toNat) ?_ _ _ ⟨rfl,h⟩ (by unfold fuel;omega)
 rintro next ⟨v,q,G,t⟩ h e
 dsimp only at h e;obtain⟨d,o,A,i,B,j⟩:=h;unfold fW;dsimp only;refine D_.2 ⟨λa=>?_,λa=>DZ.2 ?_⟩
 .have a:=A5 a;have s:i64.wrap (t+1)=t+1:=EQ oa oa;rw[s];refine DY.2 (F0.2 ⟨⟨o,oa⟩,λb _=>?_⟩);refine DY.2 ((ABD _ trivial).mono λr _=>?_);refine D_.2 ⟨λ_=>?_,λ_=>?_⟩
  .refine DY.2 (F0.2 ⟨⟨o,oa⟩,λw _=>?_⟩);refine DY.2 ((aZ _ od).mono λC l=>?_);dsimp only at l;exact e _ ⟨d,od,od,i,od,j⟩ od
  .refine DY.2 (Tot.mono (P:=λ_=>True) ?_ λz _=>?_)
   .refine D_.2 ⟨λk=>?_,λ_=>DZ.2 trivial⟩
    have k:t≠0:=by
     rw[E0]at k;simpa using k
    rw[EQ oa oa];exact F0.2 ⟨⟨oa,oa⟩,λ_ _=>trivial⟩
   .refine DY.2 (Tot.mono (P:=λ_=>True) ?_ λD _=>?_)
    .exact D_.2 ⟨λ_=>(ABD _ trivial).mono λ_ _=>trivial,λ_=>DZ.2 trivial⟩
    .refine D_.2 ⟨λ_=>?_,λ_=>?_⟩
     .refine DY.2 ((aZ _ od).mono λE l=>?_);dsimp only at l;exact e _ ⟨d,od,od,i,od,j⟩ od
     .exact e _ ⟨d,od,od,i,od,j⟩ od
 .have a:=AF a;rw[<-d];omega
theorem ATx(x:DX)(h:x.length<=1048576):Tot (UR x) (λr:DX=>r.length<=x.length):=by
 unfold UR
 repeat' first
  |(with_reducible first|refine DY.2 ?_|refine DZ.2 ?_|refine(ATw _ ?_).mono λ_ _=>?_|refine(SZ _ ?_).mono λ_ _=>?_)
  |dsimp only
 all_goals exact oz
theorem ATy(x:HT×Bool)(h:x.1.2.1.length<=1048576/\x.1.2.2.1.length<=1048576):Tot (US x) (λr:DX×DX×DX×DX×E3×DX=>r.1=x.1.1/\r.2.1.length=x.1.2.1.length/\r.2.2.1.length=x.1.2.2.1.length/\r.2.2.2=x.1.2.2.2):=by
 obtain⟨a,t⟩:=x;try dsimp only at h ⊢
 unfold US
 repeat' first
  |(with_reducible first|refine D_.2 ⟨λ_=>?_,λ_=>?_⟩|refine DY.2 ?_|refine DZ.2 ?_|refine(A08 _ ?_).mono λ_ _=>?_)
  |dsimp only
 all_goals exact oz
theorem ABE{α:Type}{a b:List α}{Q:List α->Prop}(d:a.length+b.length<=1099511627776)(h:Q (a++b)):Tot (app? 48 a b) Q:=FT.2 ⟨oa,h⟩
theorem A0B(x:DX×DX×DX×DX×E3×DX)(h:x.1.length<=20/\x.2.1.length<=200/\x.2.2.1.length<=200/\x.2.2.2.1.length<=200/\x.2.2.2.2.2.length<=200/\x.2.2.2.2.1.length<=10/\(∀q∈x.2.2.2.2.1,q.1.length<=200/\q.2.length<=200)):Tot (KD x) (λr:DX×DX×DX×DX×E3×DX=>r.1.length<=20/\r.2.1.length<=200/\r.2.2.1.length<=200/\r.2.2.2.1.length<=200/\r.2.2.2.2.2.length<=200/\r.2.2.2.2.1.length<=10/\(∀q∈r.2.2.2.2.1,q.1.length<=200/\q.2.length<=200)):=by
 obtain⟨o,A,B,s,t,v,w⟩:=h;unfold KD;try dsimp only
 refine DY.2 ((aY _ trivial).mono λD _=>?_);refine DY.2 ((ATy _ ⟨od,od⟩).mono λa b=>?_);try dsimp only at b
 obtain⟨l,y,z,e⟩:=b;have k1:a.1.length<=20:=by rw[l];exact o
 have k:a.2.2.2.1.length<=200:=by rw[e];exact s
 have d:a.2.2.2.2.1.length<=10:=by rw[e];exact v
 have i:a.2.2.2.2.2.length<=200:=by rw[e];exact t
 have j:∀q∈a.2.2.2.2.1,q.1.length<=200/\q.2.length<=200:=by rw[e];exact w
 refine D_.2 ⟨λ_=>?_,λ_=>?_⟩
 .refine DY.2 ((ATx _ oa).mono λE C=>?_);refine DY.2 (ABE om ?_);exact DZ.2 ⟨k1,od,od,k,i,by simpa using d,by simpa using j⟩
 .refine DY.2 (ABE om ?_);exact DZ.2 ⟨k1,od,od,k,i,by simpa using d,by simpa using j⟩
theorem S_(x:DX×DX×DX×DX×E3×DX)(h:x.2.2.2.2.1.length<=1048576):Tot (JS x) (λr:Int=>r=0->(x.1.length<=20/\x.2.1.length<=200/\x.2.2.1.length<=200/\x.2.2.2.1.length<=200/\x.2.2.2.2.2.length<=200/\x.2.2.2.2.1.length<=10/\(∀q∈x.2.2.2.2.1,q.1.length<=200/\q.2.length<=200))):=by
 unfold JS;try dsimp only
 refine DY.2 ((aY _ trivial).mono λJ B=>?_);refine D_.2 ⟨λb=>DZ.2 λa=>?_,λb=>?_⟩
 .rw[E0,a]at b;simp at b
 have A:x.1.length<=20:=B (by rw[E0]at b;simpa using b);refine DY.2 ((ATn _ h).mono λK D=>?_);refine D_.2 ⟨λ_=>DZ.2 λa=>absurd a oi,λo=>?_⟩;obtain⟨s,t,v,w,y,j⟩:=D o;refine D_.2 ⟨λ_=>DZ.2 λa=>absurd a oi,λ_=>?_⟩;refine DY.2 ((A0A _ oa).mono λL I=>?_);refine DY.2 ((ABB _ (by(try dsimp only);omega)).mono λM _=>?_);refine D_.2 ⟨λ_=>DZ.2 λa=>absurd a oi,λ_=>?_⟩;refine DY.2 (Tot.mono (P:=λ_=>True) (D_.2 ⟨λ_=>(SY _ (by(try dsimp only);omega)).mono λ_ _=>trivial,λ_=>DZ.2 trivial⟩) λN _=>?_);refine D_.2 ⟨λ_=>DZ.2 λa=>absurd a oi,λ_=>?_⟩;refine DY.2 ((ATs _ ⟨oa,λq E=>by have:=j q E;omega⟩).mono λO _=>?_);refine D_.2 ⟨λb=>DZ.2 λa=>?_,λ_=>?_⟩
 .rw[E0,a]at b;simp at b
 refine DY.2 ((A0A _ oa).mono λG C=>?_);refine DY.2 ((ABB _ (by(try dsimp only);omega)).mono λH _=>?_);refine D_.2 ⟨λ_=>DZ.2 λa=>absurd a oi,λ_=>?_⟩;refine DY.2 ((ATu _ ⟨AR _,oe,rfl,oe,λz i=>?_⟩).mono λd k=>?_)
 .simp only[B2,List.not_mem_nil,or_false]at i;rcases i with rfl|rfl|rfl|rfl<;>omega
 rcases d with d|d
 .refine DY.2 ((ATv _ ⟨AR _,B6 _,rfl,(by show((x.2.2.2.2.1.length:Nat):Int)<=281474976710656;omega),λz i=>by have:=j z i;omega⟩).mono λe l=>?_);rcases e with e|e
  .exact DZ.2 λ_=>⟨A,s,t,v,w,y,j⟩
  .exact DZ.2 λa=>by have:=l _ rfl;omega
 .exact DZ.2 λa=>by have:=k _ rfl;omega
theorem ABF{q:Int}{Q:DX->Prop}(l:DX)(d:l.length=16)(a:0<=q)(b:q<=15)(h:∀s:DX,s.length=1->Q s):Tot (cut? l q (u8.wrap (q+1))) Q:=by
 rw[A06 oa oa];refine HL.2 ⟨⟨a,oa,oa⟩,h _ ?_⟩;rw[BU,AY];omega
theorem ATz(x:DX×(List Int)×Int×Int)(h:0<=x.2.2.2/\x.2.2.2<=x.2.2.1/\x.2.2.1=x.1.length/\x.2.1.length<=3*x.2.2.2/\x.1.length<=1048576):Tot (sH x) (λr:List Int=>r.length<=3*x.1.length):=by
 refine F6 (R:=λr:List Int=>r.length<=3*x.1.length) (λy:DX×(List Int)×Int×Int=>y.1=x.1/\0<=y.2.2.2/\y.2.2.2<=y.2.2.1/\y.2.2.1=y.1.length/\y.2.1.length<=3*y.2.2.2/\y.1.length<=1048576)
  (λy=>(y.2.2.1-y.2.2.2).toNat) ?_ _ _ ⟨rfl,h⟩ (by unfold fuel;omega)
 rintro next ⟨I,w,N,v⟩ h l
 dsimp only at h l;obtain⟨k,A,J,q,K,t⟩:=h;unfold A3g;dsimp only;refine D_.2 ⟨λd=>?_,λd=>DZ.2 ?_⟩
 .have d:=A5 d;have C:i64.wrap (v+1)=v+1:=EQ oa oa;rw[C];refine DY.2 (F0.2 ⟨⟨A,oa⟩,λb _=>?_⟩);refine DY.2 ((AB4 _ trivial).mono λr _=>?_);refine DY.2 (Tot.mono (P:=λ_=>True) (D_.2 ⟨λ_=>(SY _ (by show 4<=1048576;decide)).mono λ_ _=>trivial,λ_=>DZ.2 trivial⟩) λL _=>?_);refine D_.2 ⟨λ_=>?_,λ_=>?_⟩
  .refine DY.2 ((aZ _ od).mono λM i=>?_);dsimp only at i;exact l _ ⟨k,od,od,q,od,t⟩ od
  .obtain⟨o,z⟩:=ATg b;obtain⟨D,E⟩:=ATh b;have B:u8.wrap ((b.toNat:Int).tdiv 16)=(b.toNat:Int).tdiv 16:=A06 o oa;refine DY.2 (m6.2 ⟨oi,?_⟩);refine DY.2 (m6.2 ⟨oi,?_⟩);rw[B];refine DY.2 (ABF _ rfl o z λH j=>?_);refine DY.2 (GA.2 ⟨by simp[j],?_⟩);refine DY.2 (AB7.2 ⟨oi,?_⟩);refine DY.2 (AB7.2 ⟨oi,?_⟩);refine DY.2 (ABF _ rfl D E λs e=>?_);refine DY.2 (GA.2 ⟨by simp[j,e],?_⟩);have a:([37]++H++s:DX).length=3:=by simp[j,e]
   refine DY.2 ((a_ _ ⟨od,by rw[a];decide⟩).mono λG i=>?_);rw[a]at i;dsimp only at i;exact l _ ⟨k,od,od,q,od,t⟩ od
 .have d:=AF d;rw[<-k];omega
theorem A0C(x:DX)(h:x.length<=1048576):Tot (UT x) (λr:DX=>r.length<=3*x.length):=by
 unfold UT
 repeat' first
  |(with_reducible first|refine DY.2 ?_|refine DZ.2 ?_|refine(ATz _ ?_).mono λ_ _=>?_|refine(SZ _ ?_).mono λ_ _=>?_)
  |dsimp only
 all_goals exact oz
theorem AU0(x:(List DX)×(List DX)×Int×Int)(h:0<=x.2.2.2/\x.2.2.2<=x.2.2.1/\x.2.2.1=x.2.1.length/\x.2.2.1<=202/\x.1.length<=x.2.2.2/\(∀z∈x.2.1,z.length<=200)/\(∀z∈x.1,z.length<=600)):
 Tot (sJ x) (λr:List DX=>r.length<=202/\∀z∈r,z.length<=600):=by
 refine F6 (R:=λr:List DX=>r.length<=202/\∀z∈r,z.length<=600) (λx:(List DX)×(List DX)×Int×Int=>0<=x.2.2.2/\x.2.2.2<=x.2.2.1/\x.2.2.1=x.2.1.length/\x.2.2.1<=202/\x.1.length<=x.2.2.2/\(∀z∈x.2.1,z.length<=200)/\(∀z∈x.1,z.length<=600))
  (λy=>(y.2.2.1-y.2.2.2).toNat) ?_ _ _ h (by unfold fuel;omega)
 rintro next ⟨s,C,D,t⟩ h i
 dsimp only at h i;obtain⟨k,v,l,o,w,d,e⟩:=h;unfold A3h;dsimp only;refine D_.2 ⟨λb=>?_,λb=>DZ.2 ⟨oa,e⟩⟩;have b:=A5 b;have q:i64.wrap (t+1)=t+1:=EQ oa oa;rw[q];refine DY.2 (F0.2 ⟨⟨k,oa⟩,λE j=>?_⟩);have j:=d _ (AI j);refine DY.2 ((A0C _ oa).mono λB A=>?_);refine DY.2 (FT.2 ⟨om,?_⟩);refine i _ ⟨od,od,l,o,om,d,λz a=>?_⟩ od;rcases AS.1 a with a|a
 .exact e z a
 .rw[AJ]at a;subst a;omega
theorem AU1(x:DX)(h:x.length<=200):Tot (fZ x) (λr:DX=>r.length<=121402):=by
 unfold fZ;refine DY.2 ((A0A _ oa).mono λj e=>?_);refine DY.2 ((AU0 _ ⟨AR _,B6 _,rfl,(by show((j.length:Nat):Int)<=202;omega),oe,(λz b=>by have:=e.2 z b;omega),(λz b=>by cases b)⟩).mono λd a=>?_);have k:=A07 [47] 600 d a.2;have l:d.length*(600+[(47:UInt8)].length)<=202*(600+1):=Nat.mul_le_mul a.1 (AH _);refine DY.2 ((VW _ ⟨by have:=a.1;dsimp only;omega,od⟩).mono λo i=>DZ.2 ?_);rw[i];dsimp only;omega
theorem AU2(x:DX×DX×DX×DX×E3×DX)(h:x.1.length<=20/\x.2.1.length<=200/\x.2.2.1.length<=200/\x.2.2.2.1.length<=200/\x.2.2.2.2.2.length<=200/\x.2.2.2.2.1.length<=10/\(∀q∈x.2.2.2.2.1,q.1.length<=200/\q.2.length<=200)):Tot (f_ x) (λr:DX=>r.length<=200000):=by
 obtain⟨e,a,i,j,k,l,o⟩:=h;unfold f_;refine DY.2 (GA.2 ⟨om,?_⟩);refine DY.2 (GA.2 ⟨om,?_⟩);refine D_.2 ⟨λ_=>?_,λ_=>?_⟩
 .refine DY.2 ((AU1 _ a).mono λt s=>?_);refine DY.2 (GA.2 ⟨om,?_⟩);refine DY.2 (GA.2 ⟨om,?_⟩);refine DY.2 ((A0C _ oa).mono λd b=>?_);refine DY.2 (GA.2 ⟨om,?_⟩);exact DZ.2 om
 .refine DY.2 ((A0C _ oa).mono λd b=>?_);refine DY.2 (GA.2 ⟨om,?_⟩);exact DZ.2 om
theorem A0D(x:DX×DX×DX×DX×E3×DX)(h:x.2.2.2.2.1.length<=1048576):Tot (JT x) (λr:DX×Int=>r.1.length<=200000):=by
 unfold JT;refine DY.2 ((S_ _ h).mono λi a=>?_);refine D_.2 ⟨λ_=>DZ.2 oe,λb=>?_⟩;have a:=a (by rw[E0]at b;simpa using b);refine DY.2 ((A0B _ a).mono λj d=>?_);exact DY.2 ((AU2 _ d).mono λk e=>DZ.2 e)
theorem AU3(x:E3×Int×HJ×Int)(h:(∀p,Tot (x.2.2.1 p) λ_=>True)/\0<=x.2.1/\x.2.1<=x.2.2.2/\x.2.2.2<x.1.length/\x.1.length<=1048576):
 Tot (rN x) (λr:List (DX×DX)=>r.length=x.1.length/\∀q∈r,q∈x.1):=by
 refine F6 (R:=λr:List (DX×DX)=>r.length=x.1.length/\∀q∈r,q∈x.1) (λy:E3×Int×HJ×Int=>(∀p,Tot (y.2.2.1 p) λ_=>True)/\0<=y.2.1/\y.2.1<=y.2.2.2/\y.2.2.2<y.1.length/\y.1.length<=1048576/\y.1.length=x.1.length/\∀q∈y.1,q∈x.1)
  (λy=>y.2.2.2.toNat) ?_ _ _ ⟨h.1,h.2.1,h.2.2.1,h.2.2.2.1,h.2.2.2.2,rfl,λq a=>a⟩ (by obtain⟨_,_,_,_,_⟩:=h;unfold fuel;omega)
 rintro next ⟨d,e,i,j⟩ h s
 dsimp only at h s;obtain⟨k,t,w,z,A,l,b⟩:=h;unfold A3P;dsimp only;by_cases o:e<j
 .have v:i64.wrap (j-1)=j-1:=EQ oa oa;simp only[v,A4 o,A8,D0];refine DY.2 (FJ.2 ⟨⟨oa,oa⟩,?_⟩);refine DY.2 (FJ.2 ⟨⟨oa,oa⟩,?_⟩);refine DY.2 ((k _).mono λB _=>?_);refine D_.2 ⟨λ_=>?_,λ_=>DZ.2 ⟨l,b⟩⟩;refine DY.2 (FJ.2 ⟨⟨oa,oa⟩,?_⟩);refine DY.2 (FJ.2 ⟨⟨oa,oa⟩,?_⟩);refine DY.2 (FJ.2 ⟨⟨oa,oa⟩,?_⟩);refine DY.2 (FJ.2 ⟨⟨oa,by rw[AQ];omega⟩,?_⟩);refine s _ ⟨k,t,od,by simp only[AQ];omega,by simp only[AQ];omega,by simp only[AQ];omega,λq a=>?_⟩ od;rcases EI a with a|rfl
  .rcases EI a with a|rfl
   .exact b q a
   .exact b _ (EH oa)
  .exact b _ (EH oa)
 .simp only[A7 o,AA,D5];refine DY.2 (DZ.2 ?_);refine DY.2 (DZ.2 ?_);refine DY.2 (DZ.2 ?_);exact DZ.2 ⟨l,b⟩
theorem AU4(x:E3×Int×Int×HJ×Int)(h:(∀p,Tot (x.2.2.2.1 p) λ_=>True)/\0<=x.2.1/\x.2.1<=x.2.2.2.2/\x.2.2.1<=x.1.length/\x.2.2.2.2<=1048577/\x.1.length<=1048576):
 Tot (rO x) (λr:List (DX×DX)=>r.length=x.1.length/\∀q∈r,q∈x.1):=by
 refine F6 (R:=λr:List (DX×DX)=>r.length=x.1.length/\∀q∈r,q∈x.1) (λy:E3×Int×Int×HJ×Int=>(∀p,Tot (y.2.2.2.1 p) λ_=>True)/\0<=y.2.1/\y.2.1<=y.2.2.2.2/\y.2.2.1<=y.1.length/\y.2.2.2.2<=1048577/\y.1.length<=1048576/\y.1.length=x.1.length/\∀q∈y.1,q∈x.1)
  (λy=>(y.2.2.1-y.2.2.2.2).toNat) ?_ _ _ ⟨h.1,h.2.1,h.2.2.1,h.2.2.2.1,h.2.2.2.2.1,h.2.2.2.2.2,rfl,λq b=>b⟩ (by obtain⟨_,_,_,_,_,_⟩:=h;unfold fuel;omega)
 rintro next ⟨d,t,v,a,i⟩ h o
 dsimp only at h o;obtain⟨e,j,z,E,G,A,B,k⟩:=h;unfold A3Q;dsimp only;refine D_.2 ⟨λl=>?_,λ_=>DZ.2 ⟨B,k⟩⟩;have l:=A5 l;have C:i64.wrap (i+1)=i+1:=EQ oa oa;rw[C];refine DY.2 ((AU3 _ ⟨e,j,z,od,A⟩).mono λr s=>?_);dsimp only at s;obtain⟨D,w⟩:=s;exact o _ ⟨e,j,od,od,od,od,od,λq b=>k q (w q b)⟩ od
theorem ABG(x:E3×Int×Int×HJ)(h:(∀p,Tot (x.2.2.2 p) λ_=>True)/\0<=x.2.1/\x.2.1<=1048576/\x.2.2.1<=x.1.length/\x.1.length<=1048576):
 Tot (YK x) (λr:List (DX×DX)=>r.length=x.1.length/\∀q∈r,q∈x.1):=by
 obtain⟨d,b,e,a⟩:=x;dsimp only at h;obtain⟨i,j,s,k,l⟩:=h;unfold YK;dsimp only;rw[EQ oa oa];exact DY.2 ((AU4 _ ⟨i,j,od,k,od,l⟩).mono λr o=>DZ.2 o)
theorem AU5(x:E3×Int×Int×Int×Int)(h:0<=x.2.1/\0<=x.2.2.1/\x.2.1+x.2.2.2.1<=x.1.length/\x.2.2.1+x.2.2.2.1<=x.1.length/\0<=x.2.2.2.2/\x.1.length<=1048576):
 Tot (rP x) (λr:List (DX×DX)=>r.length=x.1.length/\∀q∈r,q∈x.1):=by
 refine F6 (R:=λr:List (DX×DX)=>r.length=x.1.length/\∀q∈r,q∈x.1) (λy:E3×Int×Int×Int×Int=>0<=y.2.1/\0<=y.2.2.1/\y.2.1+y.2.2.2.1<=y.1.length/\y.2.2.1+y.2.2.2.1<=y.1.length/\0<=y.2.2.2.2/\y.1.length<=1048576/\y.1.length=x.1.length/\∀q∈y.1,q∈x.1)
  (λy=>(y.2.2.2.1-y.2.2.2.2).toNat) ?_ _ _ ⟨h.1,h.2.1,h.2.2.1,h.2.2.2.1,h.2.2.2.2.1,h.2.2.2.2.2,rfl,λq a=>a⟩ (by obtain⟨_,_,_,_,_,_⟩:=h;unfold fuel;omega)
 rintro next ⟨e,b,d,A,i⟩ h t
 dsimp only at h t;obtain⟨v,w,B,C,D,E,z,j⟩:=h;unfold A3R;dsimp only;refine D_.2 ⟨λs=>?_,λ_=>DZ.2 ⟨z,j⟩⟩;have s:=A5 s;have k:i64.wrap (b+i)=b+i:=EQ oa oa;have l:i64.wrap (d+i)=d+i:=EQ oa oa;have o:i64.wrap (i+1)=i+1:=EQ oa oa;rw[k,l,o];refine DY.2 (FJ.2 ⟨⟨oa,oa⟩,?_⟩);refine DY.2 (FJ.2 ⟨⟨oa,oa⟩,?_⟩);refine DY.2 (FJ.2 ⟨⟨oa,oa⟩,?_⟩);refine DY.2 (FJ.2 ⟨⟨oa,by rw[AQ];omega⟩,?_⟩);refine t _ ⟨v,w,by simp only[AQ];omega,by simp only[AQ];omega,od,by simp only[AQ];omega,by simp only[AQ];omega,λq a=>?_⟩ od;rcases EI a with a|rfl
 .rcases EI a with a|rfl
  .exact j q a
  .exact j _ (EH oa)
 .exact j _ (EH oa)
theorem A0E(x:E3×Int×Int×Int×HJ)(h:0<=x.2.1/\0<=x.2.2.1/\x.2.1+x.2.2.2.1<=x.1.length/\x.2.2.1+x.2.2.2.1<=x.1.length/\x.1.length<=1048576):
 Tot (UM x) (λr:List (DX×DX)=>r.length=x.1.length/\∀q∈r,q∈x.1):=by
 obtain⟨d,b,e,t,a⟩:=x;obtain⟨i,j,k,l,o⟩:=h;unfold UM;dsimp only;exact DY.2 ((AU5 _ ⟨i,j,k,l,AR _,o⟩).mono λr s=>DZ.2 s)
theorem AU6(x:E3×Int×HJ×Int×Int)(h:0<x.2.2.2.1/\0<x.2.2.2.2/\x.2.2.2.1<=x.2.1/\x.2.1+x.2.2.2.2<=x.1.length/\x.1.length<=1048576):
 Tot (rQ x) (λr:E3×Int=>r.1.length=x.1.length/\(∀q∈r.1,q∈x.1)/\0<r.2/\r.2<=x.2.1/\x.2.1+r.2<=x.1.length):=by
 refine F6 (R:=λr:E3×Int=>r.1.length=x.1.length/\(∀q∈r.1,q∈x.1)/\0<r.2/\r.2<=x.2.1/\x.2.1+r.2<=x.1.length) (λy:E3×Int×HJ×Int×Int=>0<y.2.2.2.1/\0<y.2.2.2.2/\y.2.2.2.1<=y.2.1/\y.2.1+y.2.2.2.2<=y.1.length/\y.1.length<=1048576/\y.1.length=x.1.length/\(∀q∈y.1,q∈x.1)/\y.2.1=x.2.1)
  (λy=>(y.2.2.2.1+y.2.2.2.2).toNat) ?_ _ _ ⟨h.1,h.2.1,h.2.2.1,h.2.2.2.1,h.2.2.2.2,rfl,(λq e=>e),rfl⟩ (by obtain⟨_,_,_,_,_⟩:=h;unfold fuel;omega)
 rintro next ⟨l,a,o,i,j⟩ h t
 dsimp only at h t;obtain⟨C,G,H,J,D,I,s,E⟩:=h;unfold A3S;dsimp only;refine D_.2 ⟨λb=>?_,λb=>DZ.2 ⟨I,s,C,od,?_⟩⟩
 .have b:i≠j:=by rw[E0]at b;simpa using b
  have v:i64.wrap (a-i)=a-i:=EQ oa oa;have w:i64.wrap (a+j)=a+j:=EQ oa oa;have z:i64.wrap (a+j-i)=a+j-i:=EQ oa oa;have A:i64.wrap (i-j)=i-j:=EQ oa oa;have B:i64.wrap (j-i)=j-i:=EQ oa oa;rw[v,w,z,A,B];refine D_.2 ⟨λd=>?_,λd=>?_⟩
  .have d:=A5 d;refine DY.2 ((A0E _ ⟨od,od,od,od,D⟩).mono λr k=>?_);dsimp only at k;exact t _ ⟨od,G,od,od,od,od,λq e=>s q (k.2 q e),E⟩ od
  .have d:=AF d;refine DY.2 ((A0E _ ⟨od,od,od,od,D⟩).mono λr k=>?_);dsimp only at k;exact t _ ⟨C,od,H,od,od,od,λq e=>s q (k.2 q e),E⟩ od
 .have b:i=j:=by rw[E0]at b;simpa using b
  omega
theorem AU7(x:E3×Int×Int×Int×HJ)(h:0<=x.2.1/\x.2.1<x.2.2.1/\x.2.2.1<x.2.2.2.1/\x.2.2.2.1<=x.1.length/\x.1.length<=1048576):
 Tot (fG x) (λr:List (DX×DX)=>r.length=x.1.length/\∀q∈r,q∈x.1):=by
 obtain⟨d,e,a,i,j⟩:=x;dsimp only at h;obtain⟨y,z,A,B,l⟩:=h;unfold fG;dsimp only;rw[EQ (n:=a-e) oa oa,EQ (n:=i-a) oa oa];refine DY.2 ((AU6 _ ⟨od,od,od,od,l⟩).mono λr b=>?_);dsimp only at b;obtain⟨s,k,t,v,w⟩:=b;rw[EQ (n:=a-r.2) oa oa];refine DY.2 ((A0E _ ⟨od,od,od,od,od⟩).mono λC b=>DZ.2 ?_);dsimp only at b;exact⟨oa,λq o=>k q (b.2 q o)⟩
theorem QS{i j:Int}{Q:Int->Prop}(d:0<=i)(k:0<=j)(l:i<=4611686018427387903)(o:j<=4611686018427387903)(h:Q ((i+j) / 2)):Tot (shr? u64 (u64.wrap (i64.wrap (i+j))) (1:Int)) Q:=by
 have e:i64.wrap (i+j)=i+j:=EQ oa oa
 have a:u64.wrap (i+j)=i+j:=by
  simp only[IntKind.wrap,IntKind.bits,IntKind.signed];simp;omega
 rw[e,a]
 have b:(i+j).fdiv (2 ^ min (1:Int).toNat u64.bits)=(i+j) / 2:=by
  have:(2:Int) ^ min (1:Int).toNat u64.bits=2:=oi
  rw[this,DN _ oi]
 unfold shr?;rw[b];exact DZ.2 h
theorem AU8(slf:E3×Int×Int×Int×HJ->Option E3)(x:E3×Int×HJ×Int×Int)(h:(∀p,Tot (x.2.2.1 p) λ_=>True)/\0<=x.2.1/\x.2.1<x.1.length/\0<=x.2.2.2.1/\x.2.2.2.1<=x.2.2.2.2/\x.2.2.2.2<=x.1.length/\x.1.length<=1048576):
 Tot (rR slf x) (λr:E3×Int=>r.1=x.1/\x.2.2.2.1<=r.2/\r.2<=x.2.2.2.2):=by
 refine F6 (R:=λr:E3×Int=>r.1=x.1/\x.2.2.2.1<=r.2/\r.2<=x.2.2.2.2) (λy:E3×Int×HJ×Int×Int=>(∀p,Tot (y.2.2.1 p) λ_=>True)/\0<=y.2.1/\y.2.1<y.1.length/\0<=y.2.2.2.1/\y.2.2.2.1<=y.2.2.2.2/\y.2.2.2.2<=y.1.length/\y.1.length<=1048576/\y.1=x.1/\x.2.2.2.1<=y.2.2.2.1/\y.2.2.2.2<=x.2.2.2.2)
  (λy=>(y.2.2.2.2-y.2.2.2.1).toNat) ?_ _ _ ⟨h.1,h.2.1,h.2.2.1,h.2.2.2.1,h.2.2.2.2.1,h.2.2.2.2.2.1,h.2.2.2.2.2.2,rfl,AR _,AR _⟩ (by obtain⟨_,_,_,_,_,_,_⟩:=h;unfold fuel;omega)
 rintro next ⟨d,z,a,i,j⟩ h l
 dsimp only at h l;obtain⟨b,s,t,A,D,B,v,e,w,C⟩:=h;unfold A3T;dsimp only;refine D_.2 ⟨λk=>?_,λk=>DZ.2 ⟨e,w,od⟩⟩;have k:=A5 k;refine DY.2 (QS oa oa oa oa ?_);have o:i64.wrap ((i+j) / 2)=(i+j) / 2:=EQ oa oa;have q:i64.wrap ((i+j) / 2+1)=(i+j) / 2+1:=EQ oa oa;rw[o,q];refine DY.2 (FJ.2 ⟨⟨oa,oa⟩,?_⟩);refine DY.2 (FJ.2 ⟨⟨oa,oa⟩,?_⟩);refine DY.2 ((b _).mono λE _=>?_);refine D_.2 ⟨λ_=>?_,λ_=>?_⟩
 .exact l _ ⟨b,s,t,od,od,B,v,e,od,C⟩ od
 .exact l _ ⟨b,s,t,A,od,od,v,e,w,od⟩ od
theorem AU9(slf:E3×Int×Int×Int×HJ->Option E3)(x:E3×Int×Int)(h:0<=x.2.1/\x.2.1<=x.1.length/\0<=x.2.2/\x.1.length<=1048576):
 Tot (rS slf x) (λr:List (DX×DX)=>r.length=x.1.length/\∀q∈r,q∈x.1):=by
 refine F6 (R:=λr:List (DX×DX)=>r.length=x.1.length/\∀q∈r,q∈x.1) (λy:E3×Int×Int=>0<=y.2.1/\y.2.1<=y.1.length/\0<=y.2.2/\y.1.length<=1048576/\y.1.length=x.1.length/\∀q∈y.1,q∈x.1)
  (λy=>(y.2.1-y.2.2).toNat) ?_ _ _ ⟨h.1,h.2.1,h.2.2.1,h.2.2.2,rfl,λq a=>a⟩ (by obtain⟨_,_,_,_⟩:=h;unfold fuel;omega)
 rintro next ⟨d,i,k⟩ h j
 dsimp only at h j;obtain⟨l,t,v,w,o,b⟩:=h;unfold A3U;dsimp only;rw[EQ (n:=i-1) oa oa];refine D_.2 ⟨λe=>?_,λe=>DZ.2 ⟨o,b⟩⟩;have e:=A5 e;have s:i64.wrap (k+1)=k+1:=EQ oa oa;rw[s];refine DY.2 (FJ.2 ⟨⟨oa,oa⟩,?_⟩);refine DY.2 (FJ.2 ⟨⟨oa,oa⟩,?_⟩);refine DY.2 (FJ.2 ⟨⟨oa,oa⟩,?_⟩);refine DY.2 (FJ.2 ⟨⟨oa,by rw[AQ];omega⟩,?_⟩);refine j _ ⟨l,by simp only[AQ];omega,od,by simp only[AQ];omega,by simp only[AQ];omega,λq a=>?_⟩ od;rcases EI a with a|rfl
 .rcases EI a with a|rfl
  .exact b q a
  .exact b _ (EH oa)
 .exact b _ (EH oa)
theorem AUA(slf:E3×Int×Int×Int×HJ->Option E3)(x:E3×Int×Int)(h:0<=x.2.1/\x.2.2<x.1.length/\x.1.length<=1048576):
 Tot (rU slf x) (λr:List (DX×DX)=>r.length=x.1.length/\∀q∈r,q∈x.1):=by
 refine F6 (R:=λr:List (DX×DX)=>r.length=x.1.length/\∀q∈r,q∈x.1) (λy:E3×Int×Int=>0<=y.2.1/\y.2.2<y.1.length/\y.1.length<=1048576/\y.1.length=x.1.length/\∀q∈y.1,q∈x.1)
  (λy=>(y.2.2-y.2.1).toNat) ?_ _ _ ⟨h.1,h.2.1,h.2.2,rfl,λq a=>a⟩ (by obtain⟨_,_,_⟩:=h;unfold fuel;omega)
 rintro next ⟨d,j,k⟩ h i
 dsimp only at h i;obtain⟨l,t,v,o,b⟩:=h;unfold A3W;dsimp only;refine D_.2 ⟨λe=>?_,λe=>DZ.2 ⟨o,b⟩⟩;have e:=A5 e;have s:i64.wrap (k-1)=k-1:=EQ oa oa;rw[s];refine DY.2 (FJ.2 ⟨⟨oa,oa⟩,?_⟩);refine DY.2 (FJ.2 ⟨⟨oa,oa⟩,?_⟩);refine DY.2 (FJ.2 ⟨⟨oa,oa⟩,?_⟩);refine DY.2 (FJ.2 ⟨⟨oa,by rw[AQ];omega⟩,?_⟩);refine i _ ⟨l,by simp only[AQ];omega,by simp only[AQ];omega,by simp only[AQ];omega,λq a=>?_⟩ od;rcases EI a with a|rfl
 .rcases EI a with a|rfl
  .exact b q a
  .exact b _ (EH oa)
 .exact b _ (EH oa)
theorem AUB(slf:E3×Int×Int×Int×HJ->Option E3)(x:E3×Int×HJ×Int×Int)(h:(∀p,Tot (x.2.2.1 p) λ_=>True)/\0<=x.2.1/\x.2.1<x.1.length/\0<=x.2.2.2.1/\x.2.2.2.1<=x.2.2.2.2/\x.2.2.2.2<=x.1.length/\x.1.length<=1048576):
 Tot (rT slf x) (λr:E3×Int=>r.1=x.1/\x.2.2.2.1<=r.2/\r.2<=x.2.2.2.2):=by
 refine F6 (R:=λr:E3×Int=>r.1=x.1/\x.2.2.2.1<=r.2/\r.2<=x.2.2.2.2) (λy:E3×Int×HJ×Int×Int=>(∀p,Tot (y.2.2.1 p) λ_=>True)/\0<=y.2.1/\y.2.1<y.1.length/\0<=y.2.2.2.1/\y.2.2.2.1<=y.2.2.2.2/\y.2.2.2.2<=y.1.length/\y.1.length<=1048576/\y.1=x.1/\x.2.2.2.1<=y.2.2.2.1/\y.2.2.2.2<=x.2.2.2.2)
  (λy=>(y.2.2.2.2-y.2.2.2.1).toNat) ?_ _ _ ⟨h.1,h.2.1,h.2.2.1,h.2.2.2.1,h.2.2.2.2.1,h.2.2.2.2.2.1,h.2.2.2.2.2.2,rfl,AR _,AR _⟩ (by obtain⟨_,_,_,_,_,_,_⟩:=h;unfold fuel;omega)
 rintro next ⟨d,C,a,i,j⟩ h l
 dsimp only at h l;obtain⟨b,s,t,z,E,A,v,e,w,B⟩:=h;unfold A3V;dsimp only;refine D_.2 ⟨λk=>?_,λk=>DZ.2 ⟨e,w,od⟩⟩;have k:=A5 k;refine DY.2 (QS oa oa oa oa ?_);have o:i64.wrap ((i+j) / 2)=(i+j) / 2:=EQ oa oa;have q:i64.wrap ((i+j) / 2+1)=(i+j) / 2+1:=EQ oa oa;rw[o,q];refine DY.2 (FJ.2 ⟨⟨oa,oa⟩,?_⟩);refine DY.2 (FJ.2 ⟨⟨oa,oa⟩,?_⟩);refine DY.2 ((b _).mono λD _=>?_);refine D_.2 ⟨λ_=>?_,λ_=>?_⟩
 .exact l _ ⟨b,s,t,od,od,A,v,e,od,B⟩ od
 .exact l _ ⟨b,s,t,z,od,od,v,e,w,od⟩ od
theorem AUC(slf:E3×Int×Int×Int×HJ->Option E3)(x:E3×HJ×Int×Int×Int)(h:(∀p,Tot (x.2.1 p) λ_=>True)/\0<=x.2.2.1/\x.2.2.1<=x.2.2.2.1/\x.2.2.2.1<=x.1.length/\x.2.2.2.1-1<=x.2.2.2.2/\x.2.2.2.2-x.2.2.1<x.1.length/\x.1.length<=1048576):
 Tot (rV slf x) (λr:E3×Int=>r.1=x.1/\x.2.2.1<=r.2/\r.2<=x.2.2.2.1):=by
 refine F6 (R:=λr:E3×Int=>r.1=x.1/\x.2.2.1<=r.2/\r.2<=x.2.2.2.1) (λy:E3×HJ×Int×Int×Int=>(∀p,Tot (y.2.1 p) λ_=>True)/\0<=y.2.2.1/\y.2.2.1<=y.2.2.2.1/\y.2.2.2.1<=y.1.length/\y.2.2.2.1-1<=y.2.2.2.2/\y.2.2.2.2-y.2.2.1<y.1.length/\y.1.length<=1048576/\y.1=x.1/\x.2.2.1<=y.2.2.1/\y.2.2.2.1<=x.2.2.2.1)
  (λy=>(y.2.2.2.1-y.2.2.1).toNat) ?_ _ _ ⟨h.1,h.2.1,h.2.2.1,h.2.2.2.1,h.2.2.2.2.1,h.2.2.2.2.2.1,h.2.2.2.2.2.2,rfl,AR _,AR _⟩ (by obtain⟨_,_,_,_,_,_,_⟩:=h;unfold fuel;omega)
 rintro next ⟨d,e,s,a,b⟩ h l
 dsimp only at h l;obtain⟨i,z,E,A,B,C,v,j,w,D⟩:=h;unfold A3X;dsimp only;refine D_.2 ⟨λk=>?_,λk=>DZ.2 ⟨j,w,od⟩⟩;have k:=A5 k;refine DY.2 (QS oa oa oa oa ?_);have o:i64.wrap ((s+a) / 2)=(s+a) / 2:=EQ oa oa;have q:i64.wrap ((s+a) / 2+1)=(s+a) / 2+1:=EQ oa oa;have t:i64.wrap (b-(s+a) / 2)=b-(s+a) / 2:=EQ oa oa;rw[o,q,t];refine DY.2 (FJ.2 ⟨⟨oa,oa⟩,?_⟩);refine DY.2 (FJ.2 ⟨⟨oa,oa⟩,?_⟩);refine DY.2 ((i _).mono λG _=>?_);refine D_.2 ⟨λ_=>?_,λ_=>?_⟩
 .exact l _ ⟨i,od,od,A,B,od,v,j,od,D⟩ od
 .exact l _ ⟨i,z,od,od,od,C,v,j,w,od⟩ od
theorem AUD(slf:E3×Int×Int×Int×HJ->Option E3)(x:E3×Int×HJ×Int×Int×Bool)(h:x.1.length<=1048576/\(x.2.2.2.2.2=true->0<=x.2.2.2.1/\x.2.2.2.1<x.2.1/\x.2.1<x.2.2.2.2.1/\x.2.2.2.2.1<=x.1.length)):
 Tot (fI slf x) (λr:List (DX×DX)=>r.length=x.1.length/\∀q∈r,q∈x.1):=by
 obtain⟨d,w,a,s,e,t⟩:=x;dsimp only at h;unfold fI;dsimp only;refine D_.2 ⟨λl=>?_,λ_=>DZ.2 ⟨rfl,λq o=>o⟩⟩;obtain⟨b,i,j,k⟩:=h.2 l;exact DY.2 ((AU7 _ ⟨b,i,j,k,h.1⟩).mono λr v=>DZ.2 v)
theorem AUE(slf:E3×Int×Int×Int×HJ->Option E3)(K:Int)(E:∀y:E3×Int×Int×Int×HJ,((∀p,Tot (y.2.2.2.2 p) λ_=>True)/\0<=y.2.1/\y.2.1<y.2.2.1/\y.2.2.1<y.2.2.2.1/\y.2.2.2.1<=y.1.length/\y.1.length<=1048576)->y.2.2.2.1-y.2.1<=K->Tot (slf y) (λr:List (DX×DX)=>r.length=y.1.length/\∀q∈r,q∈y.1))(x:E3×Int×Int×Int×HJ)(h:(∀p,Tot (x.2.2.2.2 p) λ_=>True)/\0<=x.2.1/\x.2.1<x.2.2.1/\x.2.2.1<x.2.2.2.1/\x.2.2.2.1<=x.1.length/\x.1.length<=1048576)(N:x.2.2.2.1-x.2.1<=2*K):
 Tot (rW slf x) (λr:List (DX×DX)=>r.length=x.1.length/\∀q∈r,q∈x.1):=by
 obtain⟨d,e,b,k,o⟩:=x;dsimp only at h N;obtain⟨t,w,h2,h3,M,s⟩:=h;unfold rW;dsimp only;rw[EQ (n:=b-e) oa oa,EQ (n:=k-b) oa oa];refine D_.2 ⟨λ_=>?_,λ_=>D_.2 ⟨λ_=>?_,λ_=>?_⟩⟩
 .refine DY.2 ((AU8 slf _ ⟨t,w,od,od,od,M,s⟩).mono λV a=>?_);dsimp only at a;obtain⟨j,A,B⟩:=a;refine DY.2 ((AU9 slf _ ⟨od,by dsimp only;rw[j];omega,w,by dsimp only;rw[j];exact s⟩).mono λW a=>DZ.2 ?_);dsimp only at a;rw[j]at a;exact a
 .refine DY.2 ((AUB slf _ ⟨t,od,od,w,od,od,s⟩).mono λV a=>?_);dsimp only at a;obtain⟨j,A,B⟩:=a;refine DY.2 ((AUA slf _ ⟨od,by dsimp only;rw[j];omega,by dsimp only;rw[j];exact s⟩).mono λW a=>DZ.2 ?_);dsimp only at a;rw[j]at a;exact a
 .refine DY.2 (QS oa oa oa oa ?_);generalize D:(e+k) / 2=mid;rw[EQ (n:=mid) oa oa,EQ (n:=mid+b) oa oa,EQ (n:=mid+b-1) oa oa]
  have O:Tot (fH slf (e,b,k,mid,mid+b,decide (mid<b))) λr:Int×Int=>0<=r.1/\e<=r.1/\mid+b-k<=r.1/\r.1<=r.2/\r.2<=b/\r.2<=mid+b/\mid+b-1-r.1<d.length:=by
   unfold fH;dsimp only;refine D_.2 ⟨λi=>DZ.2 ?_,λi=>DZ.2 ?_⟩
   .have i:=A5 i;rw[EQ oa oa];dsimp only;omega
   .have i:=AF i;dsimp only;omega
  refine DY.2 (O.mono λQ a=>?_);obtain⟨H,X,Y,I,Z,f6,J⟩:=a;refine DY.2 ((AUC slf _ ⟨t,H,I,od,od,J,s⟩).mono λl a=>?_);dsimp only at a;obtain⟨j,A,B⟩:=a;rw[EQ (n:=mid+b-l.2) oa oa];refine DY.2 ((AUD slf _ ⟨by dsimp only;rw[j];exact s,λi=>?_⟩).mono λz a=>?_)
  .dsimp only at i ⊢;rw[A6,AW,AW]at i;rw[j];omega
  dsimp only at a;rw[j]at a;obtain⟨L,C⟩:=a
  have v:Tot (fJ slf (z,e,o,mid,l.2,decide (e<l.2)&&decide (l.2<mid))) λr:List (DX×DX)=>r.length=d.length/\∀q∈r,q∈d:=by
   unfold fJ;dsimp only;refine D_.2 ⟨λi=>?_,λ_=>DZ.2 ⟨L,C⟩⟩;rw[A6,AW,AW]at i;refine DY.2 ((E _ ⟨t,w,od,od,od,od⟩ od).mono λR a=>DZ.2 ?_);dsimp only at a;exact⟨oa,λq v=>C q (a.2 q v)⟩
  refine DY.2 (v.mono λT a=>?_);obtain⟨k1,G⟩:=a;refine D_.2 ⟨λi=>?_,λ_=>DZ.2 ⟨k1,G⟩⟩;rw[A6,AW,AW]at i;refine DY.2 ((E _ ⟨t,od,od,od,od,od⟩ od).mono λU a=>DZ.2 ?_);dsimp only at a;exact⟨oa,λq v=>G q (a.2 q v)⟩
theorem AUF:∀(n:Nat) (x:E3×Int×Int×Int×HJ) (h:(∀p,Tot (x.2.2.2.2 p) λ_=>True)/\0<=x.2.1/\x.2.1<x.2.2.1/\x.2.2.1<x.2.2.2.1/\x.2.2.2.1<=x.1.length/\x.1.length<=1048576) (a:x.2.2.2.1-x.2.1<=2 ^ n),Tot (LM n x) (λr:List (DX×DX)=>r.length=x.1.length/\∀q∈r,q∈x.1):=by
 intro n;induction n with
 |zero=>
  intro x h a;obtain⟨_,d,e,j,_,_⟩:=h;rw[Int.pow_zero]at a;omega
 |succ n i=>
  intro x h a;refine AUE (LM n) (2 ^ n) (λy b hk=>i y b hk) x h ?_;rw[Int.pow_succ]at a;omega
theorem ABH(x:E3×Int×Int×Int×HJ)(h:(∀p,Tot (x.2.2.2.2 p) λ_=>True)/\0<=x.2.1/\x.2.1<x.2.2.1/\x.2.2.1<x.2.2.2.1/\x.2.2.2.1<=x.1.length/\x.1.length<=1048576):Tot (YL x) (λr:List (DX×DX)=>r.length=x.1.length/\∀q∈r,q∈x.1):=by
 unfold YL;refine AUF 100 x h ?_;obtain⟨_,a,b,d,e,i⟩:=h;have:(1048576:Int)<=2 ^ 100:=oi
 omega
theorem AUG{s p:DX}(h:Lib.hasPrefix s p=true):p.length<=s.length:=(List.isPrefixOf_iff_prefix.1 h).length_le
theorem AUH(x:DX×DX)(h:True):Tot (strings_HasPrefix x) (λr:Bool=>r=true->x.2.length<=x.1.length):=DZ.2 AUG
theorem trimPrefix_len(s p:DX):(Lib.trimPrefix s p).length<=s.length:=by
 unfold Lib.trimPrefix;split
 .rw[BU];omega
 .exact AH _
theorem AUI(x:DX×DX)(h:True):Tot (strings_TrimPrefix x) (λr:DX=>r.length<=x.1.length):=DZ.2 (trimPrefix_len _ _)
theorem AUJ(x:DX×DX)(h:True):Tot (strings_CutPrefix x) (λr:DX×Bool=>r.1.length<=x.1.length):=DZ.2 (trimPrefix_len _ _)
theorem A0F(x:DX×DX)(h:x.1.length<=1048576):Tot (strings_Cut x) (λr:DX×DX×Bool=>r.1.length<=x.1.length/\r.2.1.length<=x.1.length):=by
 unfold strings_Cut HI;rw[A4 oa];refine DZ.2 ?_;unfold Lib.cut;split
 .simp only[AY,BU];omega
 .simp
theorem AUK(x:DX×Int)(h:x.1.length<=1048576):Tot (strings_LastIndexByte x) (λr:Int=>-1<=r/\r<x.1.length):=by
 unfold strings_LastIndexByte HI;rw[A4 oa];refine DZ.2 ?_;have b:(⟨x.1.toArray⟩:ByteArray).size=x.1.length:=by simp[ByteArray.size]
 rcases Lib.lastIndexByte_spec ⟨x.1.toArray⟩ x.2 with⟨e,_⟩|⟨i,a,e,_⟩<;>rw[e]<;>omega
theorem AUL:∀(k u m:Nat),u<10 ^ m->1<=m->(M8 k u).length<=m:=by
 intro k;induction k with
 |zero=>intro u m _ _;simp[M8]
 |succ k i=>
  intro u m a d;simp only[M8];split
  .simpa using d
  .rename_i h;obtain⟨j,rfl⟩:∃j,m=j+1:=⟨m-1,oa⟩
   have b:1<=j:=by
    rcases j with _|j
    .simp at a;omega
    .omega
   have:=i (u / 10) j (by rw[Nat.pow_succ]at a;omega) b;simp only[AE,AX,BR];omega
theorem AUM:∀(k u:Nat),1<=k->1<=(M8 k u).length:=by
 intro k u h;obtain⟨j,rfl⟩:∃j,k=j+1:=⟨k-1,oa⟩;simp only[M8];split<;>simp
theorem JW(x:Int)(h:True):Tot (strconv_Itoa x) (λr:DX=>1<=r.length/\r.length<=21/\(0<=x->x<=999999999999999999->r.length<=18)):=by
 refine DZ.2 ⟨?_,A3G x,?_⟩
 .unfold QA;split
  .simp
  .exact AUM 20 _ oi
 .intro b d;unfold QA;rw[if_neg oa];exact AUL 20 _ 18 (by have a:(10:Nat) ^ 18=1000000000000000000:=(oi);omega) oi
def T0(b:UInt8):Prop:=48<=b.toNat/\b.toNat<=57
theorem AUN:∀(l:DX) (a k:Nat),(∀b∈l,T0 b)->a<10 ^ k->l.length+k<=18->∃u,Lib.parseUint10 a l=.ok u/\u<10 ^ 18:=by
 intro l;induction l with
 |nil=>intro a k _ d h;exact⟨a,rfl,BC d (D9 oi (by simpa using h))⟩
 |cons c r q=>
  intro a k e d h;have s:r.length+1+k<=18:=by simpa using h
  have t:10 ^ k<=10 ^ 17:=D9 oi oa;have i:(10:Nat) ^ 17=100000000000000000:=oi
  have o:48<=c.toNat/\c.toNat<=57:=e c AL;simp only[Lib.parseUint10];rw[if_pos o,if_neg oa,if_neg oa];exact q _ (k+1) (λb j=>e b (AP _ j)) (by rw[Nat.pow_succ];omega) oa
theorem A0G(s:DX)(i:s≠[])(h:∀b∈s,T0 b)(k:s.length<=18):∃u:Nat,Lib.atoiAll s=.ok (u:Int)/\u<1000000000000000000:=by
 cases s with
 |nil=>exact absurd rfl i
 |cons c r=>
  have j:=h c AL;unfold T0 at j;obtain⟨u,e,d⟩:=AUN (c::r) 0 0 h oi k;have a:(10:Nat) ^ 18=1000000000000000000:=oi
  rw[a]at d;refine⟨u,?_,d⟩;unfold Lib.atoiAll;simp only;rw[if_neg oa];unfold Lib.parseMag;rw[if_neg oe,e];simp only;rw[if_neg oa,if_neg oa,if_neg oa]
theorem ABI(x:DX)(h:x.length<=1048576):Tot (eX x) (λr:Int×Unit=>x≠[]->(∀b∈x,T0 b)->x.length<=18->0<=r.1/\r.1<=999999999999999999):=by
 unfold eX HI;rw[A4 oa];show Tot (match Lib.atoiAll x with| .ok v=>some (v,())| .range=>some (Lib.atoiSat x,())|_=>some (0,())) _;cases e:Lib.atoiAll x with
 |ok v=>
  refine DZ.2 λd i j=>?_;obtain⟨u,a,k⟩:=A0G x d i j;rw[e]at a;injection a with a;subst a;dsimp only;omega
 |range=>exact DZ.2 λd i j=>by obtain⟨u,a,_⟩:=A0G x d i j;rw[e]at a;cases a
 |_=>exact DZ.2 λd i j=>by obtain⟨u,a,_⟩:=A0G x d i j;rw[e]at a;cases a
theorem AUO(x:DX×Int)(h:x.1.length=1/\0<=x.2/\x.2<=1048576):Tot (strings_Repeat x) (λr:DX=>(r.length:Int)=x.2):=by
 unfold strings_Repeat HI;rw[A4 (by rw[h.1];omega)];refine DZ.2 ?_;rw[Lib.repeatL_length,h.1];omega
theorem AUP(r:Int):(Lib.encodeRune r).length<=4:=by
 unfold Lib.encodeRune Lib.encodeRuneZ;rw[AN]
 repeat' split
 all_goals simp
theorem ABJ(f:Int->Int):∀(n:Nat) (l:DX),(Lib.mapGoD f n l).length<=4*n:=by
 intro n;induction n with
 |zero=>intro l;simp[Lib.mapGoD]
 |succ n i=>
  intro l;simp only[Lib.mapGoD];split
  .simp
  .rw[AE];have h:=i (l.drop (Lib.decodeL l).2)
   have a:(if 0<=f (Lib.decodeL l).1 then Lib.encodeRune (f (Lib.decodeL l).1)else []).length<=4:=by
    split
    .exact AUP _
    .simp
   omega
theorem A0H(x:DX)(h:x.length<=1048576):Tot (R_ x) (λr:DX=>r.length<=4*x.length):=by
 unfold R_ HI;rw[A4 oa];have a:(Lib.toLowerD x).length<=4*x.length:=ABJ _ _ _;show Tot (str? _) _;unfold str?;rw[A4 oa];exact DZ.2 a
theorem AUQ(p:Nat->Bool)(s:ByteArray):∀(f pos:Nat) (st:Option Nat) (b:List (Nat×Nat)),(Lib.spansFromP p s f pos st b).1.length<=b.length+f:=by
 intro f;induction f with
 |zero=>intro pos st b;simp[Lib.spansFromP]
 |succ f i=>
  intro pos st b;simp only[Lib.spansFromP];split
  .split
   .cases st with
    |some a=>have:=i (pos+(Utf8.decode s pos).2) none (b++[(a,pos)]);simp only[AE,AX,BR]at this ⊢;omega
    |none=>have:=i (pos+(Utf8.decode s pos).2) none b;dsimp only;omega
   .cases st with
    |some a=>have:=i (pos+(Utf8.decode s pos).2) (some a) b;dsimp only;omega
    |none=>have:=i (pos+(Utf8.decode s pos).2) (some pos) b;dsimp only;omega
  .simp
theorem AUR(p:Nat->Bool)(s:ByteArray):(Lib.goFieldsP p s).length<=s.size+1:=by
 unfold Lib.goFieldsP Lib.spansOfP Lib.closeSpans;rw[AN];have:=AUQ p s s.size 0 none [];simp only[BR]at this;split
 .rw[AE];simp only[AX,BR];omega
 .omega
theorem AUS(p:Nat->Bool)(s:ByteArray):∀b∈Lib.goFieldsP p s,b.size<=s.size:=by
 intro b h;unfold Lib.goFieldsP at h;obtain⟨x,_,rfl⟩:=B1.1 h;rw[CZ];omega
theorem ABK(x:DX×OC)(h:x.1.length<=1048576/\∀c,Tot (x.2 c) λ_=>True):Tot (S0 x) (λr:List DX=>r.length<=x.1.length+1/\∀s∈r,s.length<=x.1.length):=by
 have d:(⟨x.1.toArray⟩:ByteArray).size=x.1.length:=by simp[ByteArray.size]
 have a:=λp=>AUR p ⟨x.1.toArray⟩;rw[d]at a;unfold S0 HI;rw[@decide_eq_true _ (Classical.propDecidable _) ⟨oa,λr _=>let ⟨b,e,_⟩:=h.2 r;⟨b,e⟩,by have:=a λr=>(x.2 (r:Int)).getD false;omega⟩];refine DZ.2 ⟨?_,?_⟩
 .rw[AN];exact a _
 .intro s i;obtain⟨b,j,rfl⟩:=B1.1 i;have:=AUS _ _ b j;rw[d]at this;have e:b.data.toList.length=b.size:=by rw[BF];rfl
  omega
abbrev Nm(n:Int):Prop:=0<=n/\n<=999999999999999999
abbrev Nm1(n:Int):Prop:=-1<=n/\n<=999999999999999999
abbrev LS(l:List DX):Prop:=l.length<=1002/\∀s∈l,s.length<=1000
abbrev NS(l:List Int):Prop:=l.length<=1002/\∀n∈l,0<=n/\n<=999999999999999999
abbrev TS(l:List L1):Prop:=l.length<=1002/\∀t∈l,t.2.1.length<=5000/\0<=t.2.2/\t.2.2<=999999999999999999
abbrev Dt:=(List Int)×(List DX)
abbrev Rv:=Int×DX×DX×Bool
abbrev Sg:=Int×(List Int)×Int×Int×Int×Int×(List DX)
abbrev Ql:=List L1
abbrev Vr:=Sum KC (Sum JQ (Sum G7 (Sum H4 (Sum Int Unit))))
abbrev m7(v:Dt):Prop:=v.1.length=3/\(∀n∈v.1,0<=n/\n<=999999999999999999)/\v.2.length<=1002/\∀s∈v.2,s.length<=1000
abbrev bA(v:Rv):Prop:=Nm v.1/\v.2.1.length<=1000/\v.2.2.1.length<=1000
abbrev OJ(v:Sg):Prop:=Nm v.1/\NS v.2.1/\(0<=v.2.2.1/\v.2.2.1<=3)/\Nm v.2.2.2.1/\Nm1 v.2.2.2.2.1/\Nm1 v.2.2.2.2.2.1/\LS v.2.2.2.2.2.2
def JX(v:Vr):Prop:=match v with
 | .inl d=>m7 d
 | .inr (.inl r)=>bA r
 | .inr (.inr (.inl s))=>OJ s
 | .inr (.inr (.inr (.inl q)))=>TS q
 | .inr (.inr (.inr (.inr (.inl n))))=>Nm n
 | .inr (.inr (.inr (.inr (.inr _))))=>False
theorem AUT(d:Dt):JX (.inl d)=m7 d:=rfl
theorem AUU(d:Rv):JX (.inr (.inl d))=bA d:=rfl
theorem AUV(d:Sg):JX (.inr (.inr (.inl d)))=OJ d:=rfl
theorem AUW(d:Ql):JX (.inr (.inr (.inr (.inl d))))=TS d:=rfl
theorem AUX(d:Int):JX (.inr (.inr (.inr (.inr (.inl d)))))=Nm d:=rfl
theorem ER{α:Type}{l:List α}{i j:Nat}{a:α}:a∈(l.take i).drop j->a∈l:=λh=>D8 (List.mem_of_mem_drop h)
theorem EL{α:Type}(l:List α)(i j:Nat):((l.take i).drop j).length=min i l.length-j:=oe
theorem m8{xs:List DX}{sep:DX}{m k c:Nat}:(∀s∈xs,s.length<=m)->xs.length<=k->sep.length<=c->(Lib.join xs sep).length<=k*(m+c):=λh hk a=>
 AT (A07 sep m xs h) (Nat.mul_le_mul hk oa)
theorem ET(s:DX):E5 s []=decide (s.length=0):=by rw[E4];cases s<;>simp
theorem AUY(x:DX×Int×OC×Int)(h:0<=x.2.2.2/\0<=x.2.1/\x.2.1+x.2.2.2<=x.1.length/\x.1.length<=1048576/\(∀c,Tot (x.2.2.1 c) λ_=>True)/\(∀j:Nat,x.2.1<=j->j<x.2.1+x.2.2.2->∀c,x.1[j]?=some c->x.2.2.1 (c.toNat:Int)=some true)):
 Tot (sK x) (λr:Int=>x.2.2.2<=r/\x.2.1+r<=x.1.length/\(∀j:Nat,x.2.1<=j->j<x.2.1+r->∀c,x.1[j]?=some c->x.2.2.1 (c.toNat:Int)=some true)/\∀c,x.1[(x.2.1+r).toNat]?=some c->x.2.2.1 (c.toNat:Int)=some false):=by
 obtain⟨s,at_,f,n⟩:=x;dsimp only at h ⊢
 refine F6 (R:=λr:Int=>n<=r/\at_+r<=s.length/\(∀j:Nat,at_<=j->j<at_+r->∀c,s[j]?=some c->f (c.toNat:Int)=some true)/\∀c,s[(at_+r).toNat]?=some c->f (c.toNat:Int)=some false)
  (λy:DX×Int×OC×Int=>y.1=s/\y.2.1=at_/\y.2.2.1=f/\n<=y.2.2.2/\at_+y.2.2.2<=s.length/\(∀j:Nat,at_<=j->j<at_+y.2.2.2->∀c,s[j]?=some c->f (c.toNat:Int)=some true)) (λy=>(s.length-at_-y.2.2.2).toNat) ?_ _ _ ⟨rfl,rfl,rfl,AR _,h.2.2.1,h.2.2.2.2.2⟩ (by unfold fuel;dsimp only;omega)
 rintro next ⟨E,d,G,m⟩ z C
 dsimp only at z C;obtain⟨rfl,rfl,rfl,v,w,k⟩:=z;obtain⟨H,I,J,K,D,_⟩:=h;unfold A3i;dsimp only;rw[EQ oa oa];by_cases B:d+m<E.length
 .rw[A4 B];simp only[A8,D0];refine DY.2 (F0.2 ⟨⟨oa,oa⟩,λb A=>?_⟩);obtain⟨r,t,_⟩:=D (b.toNat:Int);rw[t];refine DY.2 (DZ.2 ?_);refine D_.2 ⟨λe=>?_,λe=>DZ.2 ⟨v,w,k,λc a=>?_⟩⟩
  .subst e;rw[EQ oa oa];refine C _ ⟨rfl,rfl,rfl,od,od,?_⟩ od;intro j l o c i;dsimp only at o;by_cases q:(j:Int)<d+m
   .exact k j l q c i
   .have:j=(d+m).toNat:=oa
    subst this;rw[A]at i;cases i;exact t
  .subst e;rw[A]at a;cases a;exact t
 .rw[A7 B];simp only[AA,D5];refine DY.2 (DZ.2 ?_);refine DY.2 (DZ.2 ?_);refine DZ.2 ⟨v,w,k,λc a=>?_⟩;have:=(A9.1 a).1;omega
theorem bB(x:DX×Int×OC)(h:0<=x.2.1/\x.2.1<=x.1.length/\x.1.length<=1048576/\(∀c,Tot (x.2.2 c) λ_=>True)):
 Tot (IA x) (λr:Int=>0<=r/\x.2.1+r<=x.1.length/\(∀j:Nat,x.2.1<=j->j<x.2.1+r->∀c,x.1[j]?=some c->x.2.2 (c.toNat:Int)=some true)/\∀c,x.1[(x.2.1+r).toNat]?=some c->x.2.2 (c.toNat:Int)=some false):=by
 obtain⟨s,a,f⟩:=x;dsimp only at h ⊢;unfold IA;refine DY.2 ((AUY _ ⟨AR _,h.1,od,h.2.2.1,h.2.2.2,λj b d=>by dsimp only at b d;omega⟩).mono λr e=>DZ.2 ?_);exact e
theorem AUZ(x:DX×Int×OC)(h:0<=x.2.1/\x.2.1<=x.1.length/\x.1.length<=1048576/\(∀c,Tot (x.2.2 c) λ_=>True)):
 Tot (IA x) (λr:Int=>0<=r/\x.2.1+r<=x.1.length):=(bB x h).mono λ_ a=>⟨a.1,a.2.1⟩
theorem NN(x:DX×Int×OC)(a:∀c,Tot (x.2.2 c) (λ_=>True))(h:0<=x.2.1/\x.2.1<=x.1.length/\x.1.length<=1048576):
 Tot (IA x) (λr:Int=>0<=r/\x.2.1+r<=x.1.length):=AUZ x ⟨h.1,h.2.1,h.2.2,a⟩
theorem GV{α a:Type}{f:α->Option a}{P:a->Prop}{c:α}(h:Tot (f c) P):Tot ((f c).bind λr=>some r) λ_=>True:=DY.2 (h.mono λ_ _=>DZ.2 trivial)
theorem QT(c:Int):Tot ((H5 c).bind λr=>some r) λ_=>True:=⟨_,rfl,trivial⟩
theorem AU_(c:Int):Tot ((L3 c).bind λr=>some r) λ_=>True:=⟨_,rfl,trivial⟩
theorem HM(c:Int)(h:True):Tot (H5 c) λ_=>True:=⟨_,rfl,trivial⟩
theorem J8(c:Int)(h:True):Tot (L3 c) λ_=>True:=⟨_,rfl,trivial⟩
theorem AUa(c:Int)(h:True):Tot (gF c) λ_=>True:=⟨_,rfl,trivial⟩
theorem ABL(c:Int)(h:True):Tot (QH c) λ_=>True:=⟨_,rfl,trivial⟩
theorem ABM(b:UInt8)(h:((H5 (b.toNat:Int)).bind λr=>some r)=some true):T0 b:=by
 unfold H5 at h;simp at h;unfold T0;omega
theorem L7(s:DX)(h:s.length<=1048576):Tot (J6 s) (λr:Int×Bool=>0<=r.1/\r.1<=999999999999999999):=by
 unfold J6;dsimp only;cases q:(E5 s []||decide ((18:Int)<(s.length:Int)))with
 |true=>simp only[BS,AA,Bool.true_or,A8];exact DY.2 (DZ.2 (DZ.2 oi))
 |false=>
  simp only[BW,A8,CD];refine DY.2 ((bB _ ⟨AR _,od,h,QT⟩).mono λr i=>?_);refine D_.2 ⟨λ_=>DZ.2 oi,λe=>?_⟩;refine DY.2 ((ABI s h).mono λv k=>DZ.2 ?_);have a:=(B0.1 q);have t:r=s.length:=by simpa[E0]using e
  dsimp only at i;refine k (by simpa[E4]using a.1) (λb l=>?_) (by have:=AF a.2;omega);obtain⟨j,o,d⟩:=List.mem_iff_getElem.1 l;exact ABM b (i.2.2.1 j oa oa b (by rw[<-d];exact A1 o))
theorem AUb(x:(List E6)×Int×HK×Int)(h:(∀p,Tot (x.2.2.1 p) λ_=>True)/\0<=x.2.1/\x.2.1<=x.2.2.2/\x.2.2.2<x.1.length/\x.1.length<=1048576):
 Tot (tT x) (λr:List E6=>r.length=x.1.length/\∀q∈r,q∈x.1):=by
 refine F6 (R:=λr:List E6=>r.length=x.1.length/\∀q∈r,q∈x.1) (λy:(List E6)×Int×HK×Int=>(∀p,Tot (y.2.2.1 p) λ_=>True)/\0<=y.2.1/\y.2.1<=y.2.2.2/\y.2.2.2<y.1.length/\y.1.length<=1048576/\y.1.length=x.1.length/\∀q∈y.1,q∈x.1)
  (λy=>y.2.2.2.toNat) ?_ _ _ ⟨h.1,h.2.1,h.2.2.1,h.2.2.2.1,h.2.2.2.2,rfl,λq a=>a⟩ (by obtain⟨_,_,_,_,_⟩:=h;unfold fuel;omega)
 rintro next ⟨d,e,i,j⟩ h s
 dsimp only at h s;obtain⟨k,t,w,z,A,l,b⟩:=h;unfold A46;dsimp only;by_cases o:e<j
 .have v:i64.wrap (j-1)=j-1:=EQ oa oa;simp only[v,A4 o,A8,D0];refine DY.2 (FJ.2 ⟨⟨oa,oa⟩,?_⟩);refine DY.2 (FJ.2 ⟨⟨oa,oa⟩,?_⟩);refine DY.2 ((k _).mono λB _=>?_);refine D_.2 ⟨λ_=>?_,λ_=>DZ.2 ⟨l,b⟩⟩;refine DY.2 (FJ.2 ⟨⟨oa,oa⟩,?_⟩);refine DY.2 (FJ.2 ⟨⟨oa,oa⟩,?_⟩);refine DY.2 (FJ.2 ⟨⟨oa,oa⟩,?_⟩);refine DY.2 (FJ.2 ⟨⟨oa,by rw[AQ];omega⟩,?_⟩);refine s _ ⟨k,t,od,by simp only[AQ];omega,by simp only[AQ];omega,by simp only[AQ];omega,λq a=>?_⟩ od;rcases EI a with a|rfl
  .rcases EI a with a|rfl
   .exact b q a
   .exact b _ (EH oa)
  .exact b _ (EH oa)
 .simp only[A7 o,AA,D5];refine DY.2 (DZ.2 ?_);refine DY.2 (DZ.2 ?_);refine DY.2 (DZ.2 ?_);exact DZ.2 ⟨l,b⟩
theorem AUc(x:(List E6)×Int×Int×HK×Int)(h:(∀p,Tot (x.2.2.2.1 p) λ_=>True)/\0<=x.2.1/\x.2.1<=x.2.2.2.2/\x.2.2.1<=x.1.length/\x.2.2.2.2<=1048577/\x.1.length<=1048576):
 Tot (tU x) (λr:List E6=>r.length=x.1.length/\∀q∈r,q∈x.1):=by
 refine F6 (R:=λr:List E6=>r.length=x.1.length/\∀q∈r,q∈x.1) (λy:(List E6)×Int×Int×HK×Int=>(∀p,Tot (y.2.2.2.1 p) λ_=>True)/\0<=y.2.1/\y.2.1<=y.2.2.2.2/\y.2.2.1<=y.1.length/\y.2.2.2.2<=1048577/\y.1.length<=1048576/\y.1.length=x.1.length/\∀q∈y.1,q∈x.1)
  (λy=>(y.2.2.1-y.2.2.2.2).toNat) ?_ _ _ ⟨h.1,h.2.1,h.2.2.1,h.2.2.2.1,h.2.2.2.2.1,h.2.2.2.2.2,rfl,λq b=>b⟩ (by obtain⟨_,_,_,_,_,_⟩:=h;unfold fuel;omega)
 rintro next ⟨d,t,v,a,i⟩ h o
 dsimp only at h o;obtain⟨e,j,z,E,G,A,B,k⟩:=h;unfold A47;dsimp only;refine D_.2 ⟨λl=>?_,λ_=>DZ.2 ⟨B,k⟩⟩;have l:=A5 l;have C:i64.wrap (i+1)=i+1:=EQ oa oa;rw[C];refine DY.2 ((AUb _ ⟨e,j,z,od,A⟩).mono λr s=>?_);dsimp only at s;obtain⟨D,w⟩:=s;exact o _ ⟨e,j,od,od,od,od,od,λq b=>k q (w q b)⟩ od
theorem ABN(x:(List E6)×Int×Int×HK)(h:(∀p,Tot (x.2.2.2 p) λ_=>True)/\0<=x.2.1/\x.2.1<=1048576/\x.2.2.1<=x.1.length/\x.1.length<=1048576):
 Tot (ZH x) (λr:List E6=>r.length=x.1.length/\∀q∈r,q∈x.1):=by
 obtain⟨d,b,e,a⟩:=x;dsimp only at h;obtain⟨i,j,s,k,l⟩:=h;unfold ZH;dsimp only;rw[EQ oa oa];exact DY.2 ((AUc _ ⟨i,j,od,k,od,l⟩).mono λr o=>DZ.2 o)
theorem AUd(x:(List E6)×Int×Int×Int×Int)(h:0<=x.2.1/\0<=x.2.2.1/\x.2.1+x.2.2.2.1<=x.1.length/\x.2.2.1+x.2.2.2.1<=x.1.length/\0<=x.2.2.2.2/\x.1.length<=1048576):
 Tot (tV x) (λr:List E6=>r.length=x.1.length/\∀q∈r,q∈x.1):=by
 refine F6 (R:=λr:List E6=>r.length=x.1.length/\∀q∈r,q∈x.1) (λy:(List E6)×Int×Int×Int×Int=>0<=y.2.1/\0<=y.2.2.1/\y.2.1+y.2.2.2.1<=y.1.length/\y.2.2.1+y.2.2.2.1<=y.1.length/\0<=y.2.2.2.2/\y.1.length<=1048576/\y.1.length=x.1.length/\∀q∈y.1,q∈x.1)
  (λy=>(y.2.2.2.1-y.2.2.2.2).toNat) ?_ _ _ ⟨h.1,h.2.1,h.2.2.1,h.2.2.2.1,h.2.2.2.2.1,h.2.2.2.2.2,rfl,λq a=>a⟩ (by obtain⟨_,_,_,_,_,_⟩:=h;unfold fuel;omega)
 rintro next ⟨e,b,d,A,i⟩ h t
 dsimp only at h t;obtain⟨v,w,B,C,D,E,z,j⟩:=h;unfold A48;dsimp only;refine D_.2 ⟨λs=>?_,λ_=>DZ.2 ⟨z,j⟩⟩;have s:=A5 s;have k:i64.wrap (b+i)=b+i:=EQ oa oa;have l:i64.wrap (d+i)=d+i:=EQ oa oa;have o:i64.wrap (i+1)=i+1:=EQ oa oa;rw[k,l,o];refine DY.2 (FJ.2 ⟨⟨oa,oa⟩,?_⟩);refine DY.2 (FJ.2 ⟨⟨oa,oa⟩,?_⟩);refine DY.2 (FJ.2 ⟨⟨oa,oa⟩,?_⟩);refine DY.2 (FJ.2 ⟨⟨oa,by rw[AQ];omega⟩,?_⟩);refine t _ ⟨v,w,by simp only[AQ];omega,by simp only[AQ];omega,od,by simp only[AQ];omega,by simp only[AQ];omega,λq a=>?_⟩ od;rcases EI a with a|rfl
 .rcases EI a with a|rfl
  .exact j q a
  .exact j _ (EH oa)
 .exact j _ (EH oa)
theorem A0I(x:(List E6)×Int×Int×Int×HK)(h:0<=x.2.1/\0<=x.2.2.1/\x.2.1+x.2.2.2.1<=x.1.length/\x.2.2.1+x.2.2.2.1<=x.1.length/\x.1.length<=1048576):
 Tot (VB x) (λr:List E6=>r.length=x.1.length/\∀q∈r,q∈x.1):=by
 obtain⟨d,b,e,t,a⟩:=x;obtain⟨i,j,k,l,o⟩:=h;unfold VB;dsimp only;exact DY.2 ((AUd _ ⟨i,j,k,l,AR _,o⟩).mono λr s=>DZ.2 s)
theorem AUe(x:(List E6)×Int×HK×Int×Int)(h:0<x.2.2.2.1/\0<x.2.2.2.2/\x.2.2.2.1<=x.2.1/\x.2.1+x.2.2.2.2<=x.1.length/\x.1.length<=1048576):
 Tot (tW x) (λr:(List E6)×Int=>r.1.length=x.1.length/\(∀q∈r.1,q∈x.1)/\0<r.2/\r.2<=x.2.1/\x.2.1+r.2<=x.1.length):=by
 refine F6 (R:=λr:(List E6)×Int=>r.1.length=x.1.length/\(∀q∈r.1,q∈x.1)/\0<r.2/\r.2<=x.2.1/\x.2.1+r.2<=x.1.length) (λy:(List E6)×Int×HK×Int×Int=>0<y.2.2.2.1/\0<y.2.2.2.2/\y.2.2.2.1<=y.2.1/\y.2.1+y.2.2.2.2<=y.1.length/\y.1.length<=1048576/\y.1.length=x.1.length/\(∀q∈y.1,q∈x.1)/\y.2.1=x.2.1)
  (λy=>(y.2.2.2.1+y.2.2.2.2).toNat) ?_ _ _ ⟨h.1,h.2.1,h.2.2.1,h.2.2.2.1,h.2.2.2.2,rfl,(λq e=>e),rfl⟩ (by obtain⟨_,_,_,_,_⟩:=h;unfold fuel;omega)
 rintro next ⟨l,a,o,i,j⟩ h t
 dsimp only at h t;obtain⟨C,G,H,J,D,I,s,E⟩:=h;unfold A49;dsimp only;refine D_.2 ⟨λb=>?_,λb=>DZ.2 ⟨I,s,C,od,?_⟩⟩
 .have b:i≠j:=by rw[E0]at b;simpa using b
  have v:i64.wrap (a-i)=a-i:=EQ oa oa;have w:i64.wrap (a+j)=a+j:=EQ oa oa;have z:i64.wrap (a+j-i)=a+j-i:=EQ oa oa;have A:i64.wrap (i-j)=i-j:=EQ oa oa;have B:i64.wrap (j-i)=j-i:=EQ oa oa;rw[v,w,z,A,B];refine D_.2 ⟨λd=>?_,λd=>?_⟩
  .have d:=A5 d;refine DY.2 ((A0I _ ⟨od,od,od,od,D⟩).mono λr k=>?_);dsimp only at k;exact t _ ⟨od,G,od,od,od,od,λq e=>s q (k.2 q e),E⟩ od
  .have d:=AF d;refine DY.2 ((A0I _ ⟨od,od,od,od,D⟩).mono λr k=>?_);dsimp only at k;exact t _ ⟨C,od,H,od,od,od,λq e=>s q (k.2 q e),E⟩ od
 .have b:i=j:=by rw[E0]at b;simpa using b
  omega
theorem AUf(x:(List E6)×Int×Int×Int×HK)(h:0<=x.2.1/\x.2.1<x.2.2.1/\x.2.2.1<x.2.2.2.1/\x.2.2.2.1<=x.1.length/\x.1.length<=1048576):
 Tot (iQ x) (λr:List E6=>r.length=x.1.length/\∀q∈r,q∈x.1):=by
 obtain⟨d,e,a,i,j⟩:=x;dsimp only at h;obtain⟨y,z,A,B,l⟩:=h;unfold iQ;dsimp only;rw[EQ (n:=a-e) oa oa,EQ (n:=i-a) oa oa];refine DY.2 ((AUe _ ⟨od,od,od,od,l⟩).mono λr b=>?_);dsimp only at b;obtain⟨s,k,t,v,w⟩:=b;rw[EQ (n:=a-r.2) oa oa];refine DY.2 ((A0I _ ⟨od,od,od,od,od⟩).mono λC b=>DZ.2 ?_);dsimp only at b;exact⟨oa,λq o=>k q (b.2 q o)⟩
theorem AUg(slf:(List E6)×Int×Int×Int×HK->Option (List E6))(x:(List E6)×Int×HK×Int×Int)(h:(∀p,Tot (x.2.2.1 p) λ_=>True)/\0<=x.2.1/\x.2.1<x.1.length/\0<=x.2.2.2.1/\x.2.2.2.1<=x.2.2.2.2/\x.2.2.2.2<=x.1.length/\x.1.length<=1048576):
 Tot (tX slf x) (λr:(List E6)×Int=>r.1=x.1/\x.2.2.2.1<=r.2/\r.2<=x.2.2.2.2):=by
 refine F6 (R:=λr:(List E6)×Int=>r.1=x.1/\x.2.2.2.1<=r.2/\r.2<=x.2.2.2.2) (λy:(List E6)×Int×HK×Int×Int=>(∀p,Tot (y.2.2.1 p) λ_=>True)/\0<=y.2.1/\y.2.1<y.1.length/\0<=y.2.2.2.1/\y.2.2.2.1<=y.2.2.2.2/\y.2.2.2.2<=y.1.length/\y.1.length<=1048576/\y.1=x.1/\x.2.2.2.1<=y.2.2.2.1/\y.2.2.2.2<=x.2.2.2.2)
  (λy=>(y.2.2.2.2-y.2.2.2.1).toNat) ?_ _ _ ⟨h.1,h.2.1,h.2.2.1,h.2.2.2.1,h.2.2.2.2.1,h.2.2.2.2.2.1,h.2.2.2.2.2.2,rfl,AR _,AR _⟩ (by obtain⟨_,_,_,_,_,_,_⟩:=h;unfold fuel;omega)
 rintro next ⟨d,z,a,i,j⟩ h l
 dsimp only at h l;obtain⟨b,s,t,A,D,B,v,e,w,C⟩:=h;unfold A4A;dsimp only;refine D_.2 ⟨λk=>?_,λk=>DZ.2 ⟨e,w,od⟩⟩;have k:=A5 k;refine DY.2 (QS oa oa oa oa ?_);have o:i64.wrap ((i+j) / 2)=(i+j) / 2:=EQ oa oa;have q:i64.wrap ((i+j) / 2+1)=(i+j) / 2+1:=EQ oa oa;rw[o,q];refine DY.2 (FJ.2 ⟨⟨oa,oa⟩,?_⟩);refine DY.2 (FJ.2 ⟨⟨oa,oa⟩,?_⟩);refine DY.2 ((b _).mono λE _=>?_);refine D_.2 ⟨λ_=>?_,λ_=>?_⟩
 .exact l _ ⟨b,s,t,od,od,B,v,e,od,C⟩ od
 .exact l _ ⟨b,s,t,A,od,od,v,e,w,od⟩ od
theorem AUh(slf:(List E6)×Int×Int×Int×HK->Option (List E6))(x:(List E6)×Int×Int)(h:0<=x.2.1/\x.2.1<=x.1.length/\0<=x.2.2/\x.1.length<=1048576):
 Tot (tY slf x) (λr:List E6=>r.length=x.1.length/\∀q∈r,q∈x.1):=by
 refine F6 (R:=λr:List E6=>r.length=x.1.length/\∀q∈r,q∈x.1) (λy:(List E6)×Int×Int=>0<=y.2.1/\y.2.1<=y.1.length/\0<=y.2.2/\y.1.length<=1048576/\y.1.length=x.1.length/\∀q∈y.1,q∈x.1)
  (λy=>(y.2.1-y.2.2).toNat) ?_ _ _ ⟨h.1,h.2.1,h.2.2.1,h.2.2.2,rfl,λq a=>a⟩ (by obtain⟨_,_,_,_⟩:=h;unfold fuel;omega)
 rintro next ⟨d,i,k⟩ h j
 dsimp only at h j;obtain⟨l,t,v,w,o,b⟩:=h;unfold A4B;dsimp only;rw[EQ (n:=i-1) oa oa];refine D_.2 ⟨λe=>?_,λe=>DZ.2 ⟨o,b⟩⟩;have e:=A5 e;have s:i64.wrap (k+1)=k+1:=EQ oa oa;rw[s];refine DY.2 (FJ.2 ⟨⟨oa,oa⟩,?_⟩);refine DY.2 (FJ.2 ⟨⟨oa,oa⟩,?_⟩);refine DY.2 (FJ.2 ⟨⟨oa,oa⟩,?_⟩);refine DY.2 (FJ.2 ⟨⟨oa,by rw[AQ];omega⟩,?_⟩);refine j _ ⟨l,by simp only[AQ];omega,od,by simp only[AQ];omega,by simp only[AQ];omega,λq a=>?_⟩ od;rcases EI a with a|rfl
 .rcases EI a with a|rfl
  .exact b q a
  .exact b _ (EH oa)
 .exact b _ (EH oa)
theorem AUi(slf:(List E6)×Int×Int×Int×HK->Option (List E6))(x:(List E6)×Int×Int)(h:0<=x.2.1/\x.2.2<x.1.length/\x.1.length<=1048576):
 Tot (t_ slf x) (λr:List E6=>r.length=x.1.length/\∀q∈r,q∈x.1):=by
 refine F6 (R:=λr:List E6=>r.length=x.1.length/\∀q∈r,q∈x.1) (λy:(List E6)×Int×Int=>0<=y.2.1/\y.2.2<y.1.length/\y.1.length<=1048576/\y.1.length=x.1.length/\∀q∈y.1,q∈x.1)
  (λy=>(y.2.2-y.2.1).toNat) ?_ _ _ ⟨h.1,h.2.1,h.2.2,rfl,λq a=>a⟩ (by obtain⟨_,_,_⟩:=h;unfold fuel;omega)
 rintro next ⟨d,j,k⟩ h i
 dsimp only at h i;obtain⟨l,t,v,o,b⟩:=h;unfold A4D;dsimp only;refine D_.2 ⟨λe=>?_,λe=>DZ.2 ⟨o,b⟩⟩;have e:=A5 e;have s:i64.wrap (k-1)=k-1:=EQ oa oa;rw[s];refine DY.2 (FJ.2 ⟨⟨oa,oa⟩,?_⟩);refine DY.2 (FJ.2 ⟨⟨oa,oa⟩,?_⟩);refine DY.2 (FJ.2 ⟨⟨oa,oa⟩,?_⟩);refine DY.2 (FJ.2 ⟨⟨oa,by rw[AQ];omega⟩,?_⟩);refine i _ ⟨l,by simp only[AQ];omega,by simp only[AQ];omega,by simp only[AQ];omega,λq a=>?_⟩ od;rcases EI a with a|rfl
 .rcases EI a with a|rfl
  .exact b q a
  .exact b _ (EH oa)
 .exact b _ (EH oa)
theorem AUj(slf:(List E6)×Int×Int×Int×HK->Option (List E6))(x:(List E6)×Int×HK×Int×Int)(h:(∀p,Tot (x.2.2.1 p) λ_=>True)/\0<=x.2.1/\x.2.1<x.1.length/\0<=x.2.2.2.1/\x.2.2.2.1<=x.2.2.2.2/\x.2.2.2.2<=x.1.length/\x.1.length<=1048576):
 Tot (tZ slf x) (λr:(List E6)×Int=>r.1=x.1/\x.2.2.2.1<=r.2/\r.2<=x.2.2.2.2):=by
 refine F6 (R:=λr:(List E6)×Int=>r.1=x.1/\x.2.2.2.1<=r.2/\r.2<=x.2.2.2.2) (λy:(List E6)×Int×HK×Int×Int=>(∀p,Tot (y.2.2.1 p) λ_=>True)/\0<=y.2.1/\y.2.1<y.1.length/\0<=y.2.2.2.1/\y.2.2.2.1<=y.2.2.2.2/\y.2.2.2.2<=y.1.length/\y.1.length<=1048576/\y.1=x.1/\x.2.2.2.1<=y.2.2.2.1/\y.2.2.2.2<=x.2.2.2.2)
  (λy=>(y.2.2.2.2-y.2.2.2.1).toNat) ?_ _ _ ⟨h.1,h.2.1,h.2.2.1,h.2.2.2.1,h.2.2.2.2.1,h.2.2.2.2.2.1,h.2.2.2.2.2.2,rfl,AR _,AR _⟩ (by obtain⟨_,_,_,_,_,_,_⟩:=h;unfold fuel;omega)
 rintro next ⟨d,C,a,i,j⟩ h l
 dsimp only at h l;obtain⟨b,s,t,z,E,A,v,e,w,B⟩:=h;unfold A4C;dsimp only;refine D_.2 ⟨λk=>?_,λk=>DZ.2 ⟨e,w,od⟩⟩;have k:=A5 k;refine DY.2 (QS oa oa oa oa ?_);have o:i64.wrap ((i+j) / 2)=(i+j) / 2:=EQ oa oa;have q:i64.wrap ((i+j) / 2+1)=(i+j) / 2+1:=EQ oa oa;rw[o,q];refine DY.2 (FJ.2 ⟨⟨oa,oa⟩,?_⟩);refine DY.2 (FJ.2 ⟨⟨oa,oa⟩,?_⟩);refine DY.2 ((b _).mono λD _=>?_);refine D_.2 ⟨λ_=>?_,λ_=>?_⟩
 .exact l _ ⟨b,s,t,od,od,A,v,e,od,B⟩ od
 .exact l _ ⟨b,s,t,z,od,od,v,e,w,od⟩ od
theorem AUk(slf:(List E6)×Int×Int×Int×HK->Option (List E6))(x:(List E6)×HK×Int×Int×Int)(h:(∀p,Tot (x.2.1 p) λ_=>True)/\0<=x.2.2.1/\x.2.2.1<=x.2.2.2.1/\x.2.2.2.1<=x.1.length/\x.2.2.2.1-1<=x.2.2.2.2/\x.2.2.2.2-x.2.2.1<x.1.length/\x.1.length<=1048576):
 Tot (u6 slf x) (λr:(List E6)×Int=>r.1=x.1/\x.2.2.1<=r.2/\r.2<=x.2.2.2.1):=by
 refine F6 (R:=λr:(List E6)×Int=>r.1=x.1/\x.2.2.1<=r.2/\r.2<=x.2.2.2.1) (λy:(List E6)×HK×Int×Int×Int=>(∀p,Tot (y.2.1 p) λ_=>True)/\0<=y.2.2.1/\y.2.2.1<=y.2.2.2.1/\y.2.2.2.1<=y.1.length/\y.2.2.2.1-1<=y.2.2.2.2/\y.2.2.2.2-y.2.2.1<y.1.length/\y.1.length<=1048576/\y.1=x.1/\x.2.2.1<=y.2.2.1/\y.2.2.2.1<=x.2.2.2.1)
  (λy=>(y.2.2.2.1-y.2.2.1).toNat) ?_ _ _ ⟨h.1,h.2.1,h.2.2.1,h.2.2.2.1,h.2.2.2.2.1,h.2.2.2.2.2.1,h.2.2.2.2.2.2,rfl,AR _,AR _⟩ (by obtain⟨_,_,_,_,_,_,_⟩:=h;unfold fuel;omega)
 rintro next ⟨d,e,s,a,b⟩ h l
 dsimp only at h l;obtain⟨i,z,E,A,B,C,v,j,w,D⟩:=h;unfold A4E;dsimp only;refine D_.2 ⟨λk=>?_,λk=>DZ.2 ⟨j,w,od⟩⟩;have k:=A5 k;refine DY.2 (QS oa oa oa oa ?_);have o:i64.wrap ((s+a) / 2)=(s+a) / 2:=EQ oa oa;have q:i64.wrap ((s+a) / 2+1)=(s+a) / 2+1:=EQ oa oa;have t:i64.wrap (b-(s+a) / 2)=b-(s+a) / 2:=EQ oa oa;rw[o,q,t];refine DY.2 (FJ.2 ⟨⟨oa,oa⟩,?_⟩);refine DY.2 (FJ.2 ⟨⟨oa,oa⟩,?_⟩);refine DY.2 ((i _).mono λG _=>?_);refine D_.2 ⟨λ_=>?_,λ_=>?_⟩
 .exact l _ ⟨i,od,od,A,B,od,v,j,od,D⟩ od
 .exact l _ ⟨i,z,od,od,od,C,v,j,w,od⟩ od
theorem AUl(slf:(List E6)×Int×Int×Int×HK->Option (List E6))(x:(List E6)×Int×HK×Int×Int×Bool)(h:x.1.length<=1048576/\(x.2.2.2.2.2=true->0<=x.2.2.2.1/\x.2.2.2.1<x.2.1/\x.2.1<x.2.2.2.2.1/\x.2.2.2.2.1<=x.1.length)):
 Tot (iS slf x) (λr:List E6=>r.length=x.1.length/\∀q∈r,q∈x.1):=by
 obtain⟨d,w,a,s,e,t⟩:=x;dsimp only at h;unfold iS;dsimp only;refine D_.2 ⟨λl=>?_,λ_=>DZ.2 ⟨rfl,λq o=>o⟩⟩;obtain⟨b,i,j,k⟩:=h.2 l;exact DY.2 ((AUf _ ⟨b,i,j,k,h.1⟩).mono λr v=>DZ.2 v)
theorem AUm(slf:(List E6)×Int×Int×Int×HK->Option (List E6))(K:Int)(E:∀y:(List E6)×Int×Int×Int×HK,((∀p,Tot (y.2.2.2.2 p) λ_=>True)/\0<=y.2.1/\y.2.1<y.2.2.1/\y.2.2.1<y.2.2.2.1/\y.2.2.2.1<=y.1.length/\y.1.length<=1048576)->y.2.2.2.1-y.2.1<=K->Tot (slf y) (λr:List E6=>r.length=y.1.length/\∀q∈r,q∈y.1))(x:(List E6)×Int×Int×Int×HK)(h:(∀p,Tot (x.2.2.2.2 p) λ_=>True)/\0<=x.2.1/\x.2.1<x.2.2.1/\x.2.2.1<x.2.2.2.1/\x.2.2.2.1<=x.1.length/\x.1.length<=1048576)(N:x.2.2.2.1-x.2.1<=2*K):
 Tot (u7 slf x) (λr:List E6=>r.length=x.1.length/\∀q∈r,q∈x.1):=by
 obtain⟨d,e,b,k,o⟩:=x;dsimp only at h N;obtain⟨t,w,h2,h3,M,s⟩:=h;unfold u7;dsimp only;rw[EQ (n:=b-e) oa oa,EQ (n:=k-b) oa oa];refine D_.2 ⟨λ_=>?_,λ_=>D_.2 ⟨λ_=>?_,λ_=>?_⟩⟩
 .refine DY.2 ((AUg slf _ ⟨t,w,od,od,od,M,s⟩).mono λV a=>?_);dsimp only at a;obtain⟨j,A,B⟩:=a;refine DY.2 ((AUh slf _ ⟨od,by dsimp only;rw[j];omega,w,by dsimp only;rw[j];exact s⟩).mono λW a=>DZ.2 ?_);dsimp only at a;rw[j]at a;exact a
 .refine DY.2 ((AUj slf _ ⟨t,od,od,w,od,od,s⟩).mono λV a=>?_);dsimp only at a;obtain⟨j,A,B⟩:=a;refine DY.2 ((AUi slf _ ⟨od,by dsimp only;rw[j];omega,by dsimp only;rw[j];exact s⟩).mono λW a=>DZ.2 ?_);dsimp only at a;rw[j]at a;exact a
 .refine DY.2 (QS oa oa oa oa ?_);generalize D:(e+k) / 2=mid;rw[EQ (n:=mid) oa oa,EQ (n:=mid+b) oa oa,EQ (n:=mid+b-1) oa oa]
  have O:Tot (iR slf (e,b,k,mid,mid+b,decide (mid<b))) λr:Int×Int=>0<=r.1/\e<=r.1/\mid+b-k<=r.1/\r.1<=r.2/\r.2<=b/\r.2<=mid+b/\mid+b-1-r.1<d.length:=by
   unfold iR;dsimp only;refine D_.2 ⟨λi=>DZ.2 ?_,λi=>DZ.2 ?_⟩
   .have i:=A5 i;rw[EQ oa oa];dsimp only;omega
   .have i:=AF i;dsimp only;omega
  refine DY.2 (O.mono λQ a=>?_);obtain⟨H,X,Y,I,Z,f6,J⟩:=a;refine DY.2 ((AUk slf _ ⟨t,H,I,od,od,J,s⟩).mono λl a=>?_);dsimp only at a;obtain⟨j,A,B⟩:=a;rw[EQ (n:=mid+b-l.2) oa oa];refine DY.2 ((AUl slf _ ⟨by dsimp only;rw[j];exact s,λi=>?_⟩).mono λz a=>?_)
  .dsimp only at i ⊢;rw[A6,AW,AW]at i;rw[j];omega
  dsimp only at a;rw[j]at a;obtain⟨L,C⟩:=a
  have v:Tot (iT slf (z,e,o,mid,l.2,decide (e<l.2)&&decide (l.2<mid))) λr:List E6=>r.length=d.length/\∀q∈r,q∈d:=by
   unfold iT;dsimp only;refine D_.2 ⟨λi=>?_,λ_=>DZ.2 ⟨L,C⟩⟩;rw[A6,AW,AW]at i;refine DY.2 ((E _ ⟨t,w,od,od,od,od⟩ od).mono λR a=>DZ.2 ?_);dsimp only at a;exact⟨oa,λq v=>C q (a.2 q v)⟩
  refine DY.2 (v.mono λT a=>?_);obtain⟨k1,G⟩:=a;refine D_.2 ⟨λi=>?_,λ_=>DZ.2 ⟨k1,G⟩⟩;rw[A6,AW,AW]at i;refine DY.2 ((E _ ⟨t,od,od,od,od,od⟩ od).mono λU a=>DZ.2 ?_);dsimp only at a;exact⟨oa,λq v=>G q (a.2 q v)⟩
theorem AUn:∀(n:Nat) (x:(List E6)×Int×Int×Int×HK) (h:(∀p,Tot (x.2.2.2.2 p) λ_=>True)/\0<=x.2.1/\x.2.1<x.2.2.1/\x.2.2.1<x.2.2.2.1/\x.2.2.2.1<=x.1.length/\x.1.length<=1048576) (a:x.2.2.2.1-x.2.1<=2 ^ n),Tot (LO n x) (λr:List E6=>r.length=x.1.length/\∀q∈r,q∈x.1):=by
 intro n;induction n with
 |zero=>
  intro x h a;obtain⟨_,d,e,j,_,_⟩:=h;rw[Int.pow_zero]at a;omega
 |succ n i=>
  intro x h a;refine AUm (LO n) (2 ^ n) (λy b hk=>i y b hk) x h ?_;rw[Int.pow_succ]at a;omega
theorem ABO(x:(List E6)×Int×Int×Int×HK)(h:(∀p,Tot (x.2.2.2.2 p) λ_=>True)/\0<=x.2.1/\x.2.1<x.2.2.1/\x.2.2.1<x.2.2.2.1/\x.2.2.2.1<=x.1.length/\x.1.length<=1048576):Tot (ZI x) (λr:List E6=>r.length=x.1.length/\∀q∈r,q∈x.1):=by
 unfold ZI;refine AUn 100 x h ?_;obtain⟨_,a,b,d,e,i⟩:=h;have:(1048576:Int)<=2 ^ 100:=oi
 omega
theorem A0J:∀(x y:DX),Op.bytesLess x y=decide (x<y):=by
 intro x;induction x with
 |nil=>intro y;cases y<;>simp[Op.bytesLess]
 |cons a x i=>
  intro y;cases y with
  |nil=>simp[Op.bytesLess]
  |cons b y=>
   rw[Op.bytesLess,i y];simp only[List.cons_lt_cons_iff];by_cases h:a<b<;>by_cases d:a=b<;>by_cases e:x<y<;>simp[h,d,e]
theorem JY(a:DX):¬a<a:=List.lt_irrefl a
theorem QU{a b c:DX}(h:a<b)(d:b<c):a<c:=List.lt_trans h d
theorem VZ(a b:DX):a<b\/a=b\/b<a:=by
 by_cases h:a<b
 .exact Or.inl h
 .by_cases d:b<a
  .exact Or.inr (Or.inr d)
  .exact Or.inr (Or.inl (List.le_antisymm (List.not_lt.1 d) (List.not_lt.1 h)))
theorem AUo{a b c:DX}(i:¬a<b)(e:¬b<c):¬a<c:=by
 intro h;rcases VZ a b with d|d|d
 .exact i d
 .subst d;exact e h
 .exact e (QU d h)
theorem bC{a b:DX}(h:a<b):¬b<a:=λd=>JY a (QU h d)
def J9(a b:DX):Int:=if a<b then -1 else if a=b then 0 else 1
theorem m9(a b:DX):LN (a,b)=some (J9 a b):=by
 unfold LN UN J9;have e:∀s:DX,E5 s s=true:=λs=>by rw[E4];simp
 simp only[e,BS,A0,AA,A0J,E4];by_cases h:a=b
 .subst h;simp[JY]
 .by_cases d:a<b<;>simp[d,h]
theorem mA(a b:DX):J9 a b<0<->a<b:=by
 unfold J9;by_cases h:a=b
 .subst h;simp[JY]
 .by_cases d:a<b<;>simp[d,h]
def MK(a b:Int):Int:=if a<b then -1 else if b<a then 1 else 0
theorem T1(a b:Int):ME (a,b)=some (MK a b):=by
 unfold ME iA MK;have e:∀s:Int,E1 s s=true:=λs=>by rw[E0];simp
 simp only[e,BS,A0,AA];by_cases h:a<b<;>by_cases d:b<a<;>simp[h,d]
section
variable{T:Type}
theorem ABP(xs:List T)(F:T×T->Option Int)(h:UK xs F):Tot (OA xs F) (λr=>r.Perm xs/\r.Pairwise (λa b=>∀c,F (b,a)=some c->0<=c)):=by
 unfold OA;split
 .rename_i l;unfold HI;rw[A4 h];refine DZ.2 ?_
  letI:Inhabited (Fin xs.length):=⟨⟨0,l⟩⟩
  have C:Sort.SWO (IP xs F):=⟨h.2.1,h.2.2.1,h.2.2.2⟩;have w:=Sort.pdq_sorts (IP xs F) C (Array.ofFn id) 0 xs.length (Lib.bitLen xs.length) true true (BJ _) oe (Or.inl rfl);have e:KQ xs F l=Sort.pdq (IP xs F) (Array.ofFn id) 0 xs.length (Lib.bitLen xs.length) true true:=A3H xs F l;rw[e];generalize Sort.pdq (IP xs F) (Array.ofFn id) 0 xs.length (Lib.bitLen xs.length) true true=d at w;obtain⟨⟨s,_,t⟩,A⟩:=w;have k:d.size=xs.length:=by rw[s];simp
  have x:d.extract 0 xs.length=d:=by
   have:=Array.extract_size (xs:=d);rwa[k]at this
  have y:(Array.ofFn (id:Fin xs.length->Fin xs.length)).extract 0 xs.length=Array.ofFn id:=by
   have:=Array.extract_size (xs:=Array.ofFn (id:Fin xs.length->Fin xs.length));rwa[Array.size_ofFn]at this
  rw[x,y]at t;constructor
  .have B:=t.map xs.get
   have z:(Array.ofFn (id:Fin xs.length->Fin xs.length)).toList.map xs.get=xs:=by
    rw[Array.toList_ofFn,List.map_ofFn];apply List.ext_getElem
    .simp
    .intro i s D;simp
   rwa[z]at B
  .rw[List.pairwise_map,BE];intro i j E G q c v;have H:d.toList.length=xs.length:=by rw[BF];exact k
   have o:=A i j (BJ _) q oa;rw[getElem!_pos d i oa,getElem!_pos d j oa]at o;unfold IP O9 at o;rw[Array.getElem_toList,Array.getElem_toList]at v;rw[v]at o;simpa using o
 .rename_i l;have:xs=[]:=CX.1 oa;subst this;exact DZ.2 ⟨List.Perm.refl _,List.Pairwise.nil⟩
end
abbrev Edge:=Int×DX×Bool×DX
abbrev IT:=Edge×Edge
def eo(a b:Edge):Int:=if a.1≠b.1\/a.1≠0 then MK a.1 b.1 else if J9 a.2.1 b.2.1≠0\/a.2.2.1=b.2.2.1 then J9 a.2.1 b.2.1 else if a.2.2.1 then 1 else -1
theorem ABQ(a b:Edge):MF (a,b)=some (eo a b):=by
 unfold MF eo;dsimp only;rw[T1,m9];simp only[A0,E0];by_cases h:a.1=b.1
 .by_cases d:a.1=0
  .have j:KK a.2.2.1 b.2.2.1=decide (a.2.2.1=b.2.2.1):=by cases a.2.2.1<;>cases b.2.2.1<;>rfl
   rw[j];by_cases e:J9 a.2.1 b.2.1=0<;>by_cases i:a.2.2.1=b.2.2.1<;>simp[<-h,d,e,i]<;>(cases a.2.2.1<;>simp)
  .simp[<-h,d]
 .simp[h]
def KS(a b:Edge):Prop:=a.1<b.1\/(a.1=b.1/\a.1=0/\(a.2.1<b.2.1\/(a.2.1=b.2.1/\a.2.2.1=false/\b.2.2.1=true)))
theorem ABR(a b:Edge):eo a b<0<->KS a b:=by
 unfold eo KS MK;by_cases d:a.1=b.1
 .by_cases j:a.1=0
  .have i:b.1=0:=oa
   have k:¬(a.1≠b.1\/a.1≠0):=oa
   rw[if_neg k];rcases VZ a.2.1 b.2.1 with h|h|h
   .have:J9 a.2.1 b.2.1= -1:=by unfold J9;rw[if_pos h]
    rw[this];simp[d,i,h]
   .have:J9 a.2.1 b.2.1=0:=by unfold J9;rw[if_neg (by rw[h];exact JY _),if_pos h]
    rw[this,h];cases o:a.2.2.1<;>cases l:b.2.2.1<;>simp[d,i,JY]
   .have e:¬a.2.1=b.2.1:=λe=>by rw[e]at h;exact JY _ h
    have:J9 a.2.1 b.2.1=1:=by unfold J9;rw[if_neg (bC h),if_neg e]
    rw[this];simp[d,i,bC h,e]
  .have i:¬b.1=0:=oa
   simp[d,i]
 .simp only[ne_eq,d,not_false_eq_true,true_or,if_true,DM,or_false];by_cases j:a.1<b.1
  .simp[j]
  .by_cases h:b.1<a.1
   .simp[j,h]
   .omega
instance(a b:Edge):Decidable (KS a b):=by unfold KS;infer_instance
theorem AUp(a:Edge):¬KS a a:=by
 rintro(h|⟨_,_,h|⟨_,d,b⟩⟩)
 .omega
 .exact JY _ h
 .rw[d]at b;cases b
theorem AUq{a b c:Edge}(i:KS a b)(h:KS b c):KS a c:=by
 unfold KS at *;rcases i with i|⟨s,j,d⟩
 .rcases h with h|⟨l,o,q⟩<;>exact Or.inl oa
 .rcases h with h|⟨l,o,q⟩
  .exact Or.inl oa
  .refine Or.inr ⟨oa,j,?_⟩;rcases d with d|⟨d,t,k⟩
   .rcases q with q|⟨q,e,r⟩
    .exact Or.inl (QU d q)
    .exact Or.inl (q▸d)
   .rcases q with q|⟨q,e,r⟩
    .exact Or.inl (d▸q)
    .rw[k]at e;cases e
theorem AUr{a b c:Edge}(j:¬KS a b)(k:¬KS b c):¬KS a c:=by
 intro h;unfold KS at *;simp only[not_or,not_and]at j k;obtain⟨z,l⟩:=j;obtain⟨A,q⟩:=k;rcases h with h|⟨C,w,d⟩
 .omega
 .have s:a.1=b.1:=oa
  have t:b.1=c.1:=oa
  obtain⟨e,o⟩:=l s w;obtain⟨i,r⟩:=q t oa;rcases d with d|⟨d,x,y⟩
  .exact AUo e i d
  .rcases VZ a.2.1 b.2.1 with g|g|g
   .exact e g
   .have v:b.2.1=c.2.1:=g▸d;have:=o g x;have:=r v (by cases B:b.2.2.1<;>simp_all);exact this y
   .exact i (d▸g)
theorem AUs(xs:List IT):Tot (rD (xs,λx=>(P5 x).bind λr=>some r)) (λr=>r.Perm xs/\r.Pairwise λa b=>¬KS b.1 a.1):=by
 have d:∀a b:IT,(P5 (a,b)).bind (λr=>some r)=some (eo a.1 b.1):=by
  intro a b;unfold P5;dsimp only;rw[ABQ];rfl
 have e:∀i j,IP xs (λx=>(P5 x).bind λr=>some r) i j=decide (KS (xs.get i).1 (xs.get j).1):=by
  intro i j;unfold IP O9;show decide ((((P5 (xs.get i,xs.get j)).bind λr=>some r).getD 0)<0)=_;rw[d];simp only[DD];exact decide_eq_decide.2 (ABR _ _)
 have q:UK xs (λx=>(P5 x).bind λr=>some r):=by
  refine⟨λi j=>by show((P5 (xs.get i,xs.get j)).bind λr=>some r).isSome=true;rw[d];rfl,λi=>?_,λi j k=>?_,λi j k=>?_⟩
  .rw[e];simp[AUp]
  .rw[e,e,e];simp only[AW];exact AUq
  .rw[e,e,e];simp only[DU];exact AUr
 refine(ABP xs _ q).mono λr o=>⟨o.1,o.2.imp λ{a b} h l=>?_⟩;have:=h _ (d b a);have:=(ABR b.1 a.1).2 l;omega
abbrev Af:=DX×Int×J4×(List DX)×(List DX)
abbrev G5:=DX×(List DX)×DX×Int×Bool×DX×(List Af)
abbrev Bnd:=Bool×Bool×DX
abbrev V_:=Bnd×Bnd
def OK(a:Af):Prop:=a.1.length<=1048576/\a.2.2.1.length<=1048576/\(∀v∈a.2.2.1,v.2.length<=1048576)/\a.2.2.2.1.length<=1048576/\(∀s∈a.2.2.2.1,s.length<=1048576)/\a.2.2.2.2.length<=1048576/\(∀s∈a.2.2.2.2,s.length<=1048576)
def AfK(a:Af):Prop:=a.2.2.1.length<=100/\(∀v∈a.2.2.1,1<=v.1/\v.1<=3)/\a.2.2.2.1.length<=500
def JM(a:G5):Prop:=a.1.length<=1048576/\a.2.1.length<=1048576/\(∀s∈a.2.1,s.length<=1048576)/\a.2.2.1.length<=1048576/\a.2.2.2.2.2.1.length<=1048576/\a.2.2.2.2.2.2.length<=1048576/\∀x∈a.2.2.2.2.2.2,OK x
abbrev GX(s:V_):Prop:=s.1.2.2.length<=100/\s.2.2.2.length<=100
abbrev HN(s:IT):Prop:=s.1.2.2.2.length<=100/\s.2.2.2.2.length<=100
theorem ML{α:Type}{l:List α}{i:Nat}{x:α}(h:l[i]?=some x):x∈l:=AI h
theorem AUt(x:Int×Int)(h:True):Tot (ME x) λ_=>True:=⟨_,T1 x.1 x.2,trivial⟩
theorem T2(x:Edge×Edge)(h:True):Tot (MF x) λ_=>True:=⟨_,ABQ x.1 x.2,trivial⟩
theorem ot{p:Prop}(h:p:=by grind[ED,EB,EA,E4,E0,EF,EE,EC,EH,EI,ER,EL,ET,EW,EX,EY,EZ]):p:=h
theorem mB(x:DX)(h:x.length<=1048576):Tot (QG x) (λr:Int×Bool=>0<=r.1/\r.1<=999999999999999999):=by
 unfold QG
 repeat' first
  |(with_reducible first|refine D_.2 ⟨λ_=>?_,λ_=>?_⟩|refine DY.2 ?_|refine DZ.2 ?_|refine F0.2 ⟨?_,λ_ _=>?_⟩|refine(L7 _ ?_).mono λ_ _=>?_)
  |dsimp only
 all_goals exact ot
theorem A0K(x:Int)(h:True):Tot (UU x) (λr:Bool=>True):=by
 unfold UU
 repeat' first
  |(with_reducible first|refine D_.2 ⟨λ_=>?_,λ_=>?_⟩|refine DY.2 ?_|refine DZ.2 ?_|refine(HM _ ?_).mono λ_ _=>?_|refine(J8 _ ?_).mono λ_ _=>?_)
  |dsimp only
 all_goals exact ot
theorem AUu(x:(List DX)×Int×Int)(h:0<=x.2.2/\x.2.2<=x.2.1/\x.2.1=x.1.length/\x.2.1<=281474976710656/\∀s∈x.1,s.length<=1000):Tot (gB x) (λr:Sum (Unit) LK=>∀y,r=.inr y->y.1=[]/\y.2=false):=by
 refine F6 (R:=λr:Sum (Unit) LK=>∀y,r=.inr y->y.1=[]/\y.2=false) (λy:(List DX)×Int×Int=>(0<=y.2.2/\y.2.2<=y.2.1/\y.2.1=y.1.length/\y.2.1<=281474976710656/\∀s∈y.1,s.length<=1000)) (λy:(List DX)×Int×Int=>(y.2.1-y.2.2).toNat) ?_ _ _ oc (by unfold fuel;grind);rintro next ⟨b,t,a⟩ h hn
 try dsimp only at h hn
 unfold gA
 repeat' first
  |(with_reducible first|refine D_.2 ⟨λ_=>?_,λ_=>?_⟩|refine DY.2 ?_|refine DZ.2 ?_|refine F0.2 ⟨?_,λ_ _=>?_⟩|refine(A0K _ ?_).mono λ_ _=>?_|refine(NN _ ?_ ?_).mono λ_ _=>?_)
  |exact λc=>GV (HM c trivial)
  |exact λc=>GV (J8 c trivial)
  |exact λc=>GV (A0K c trivial)
  |with_reducible refine hn _ ?_ ?_
  |dsimp only
 all_goals exact ot
theorem A0L(x:DX)(h:x.length<=1000):Tot (S6 x) (λr:(List DX)×Bool=>LS r.1):=by
 unfold S6
 repeat' first
  |(with_reducible first|refine DY.2 ?_|refine DZ.2 ?_|refine(A09 _ ?_).mono λ_ _=>?_|refine(AUu _ ?_).mono λ_ _=>?_)
  |split
  |dsimp only
 all_goals exact ot
theorem ABS(x:(List DX)×Int×Int)(h:0<=x.2.2/\x.2.2<=x.2.1/\x.2.1=x.1.length/\x.2.1<=281474976710656/\∀s∈x.1,s.length<=1000):Tot (sL x) (λr:Sum (Unit) LK=>∀y,r=.inr y->y.1=[]/\y.2=false):=by
 refine F6 (R:=λr:Sum (Unit) LK=>∀y,r=.inr y->y.1=[]/\y.2=false) (λy:(List DX)×Int×Int=>(0<=y.2.2/\y.2.2<=y.2.1/\y.2.1=y.1.length/\y.2.1<=281474976710656/\∀s∈y.1,s.length<=1000)) (λy:(List DX)×Int×Int=>(y.2.1-y.2.2).toNat) ?_ _ _ oc (by unfold fuel;grind);rintro next ⟨t,a,b⟩ h hn
 try dsimp only at h hn
 unfold A3j
 repeat' first
  |(with_reducible first|refine D_.2 ⟨λ_=>?_,λ_=>?_⟩|refine DY.2 ?_|refine DZ.2 ?_|refine F0.2 ⟨?_,λ_ _=>?_⟩|refine(HM _ ?_).mono λ_ _=>?_|refine(mB _ ?_).mono λ_ _=>?_|refine(NN _ ?_ ?_).mono λ_ _=>?_)
  |exact λc=>GV (HM c trivial)
  |exact λc=>GV (J8 c trivial)
  |with_reducible refine hn _ ?_ ?_
  |dsimp only
 all_goals exact ot
theorem ABT(x:DX)(h:x.length<=1000):Tot (UV x) (λr:(List DX)×Bool=>LS r.1):=by
 unfold UV
 repeat' first
  |(with_reducible first|refine DY.2 ?_|refine DZ.2 ?_|refine(A0L _ ?_).mono λ_ _=>?_|refine(ABS _ ?_).mono λ_ _=>?_)
  |split
  |dsimp only
 all_goals exact ot
theorem AUv(x:DX)(h:x.length<=1000):Tot (UW x) (λr:(List DX)×Bool=>LS r.1):=by
 unfold UW
 repeat' first
  |(with_reducible first|refine D_.2 ⟨λ_=>?_,λ_=>?_⟩|refine DY.2 ?_|refine DZ.2 ?_|refine F0.2 ⟨?_,λ_ _=>?_⟩|refine HL.2 ⟨?_,?_⟩|refine(A0F _ ?_).mono λ_ _=>?_|refine(A0L _ ?_).mono λ_ _=>?_|refine(ABT _ ?_).mono λ_ _=>?_)
  |dsimp only
 all_goals exact ot
theorem ABU(x:DX×Int×Bool)(h:0<=x.2.1/\x.2.1<=x.1.length/\x.1.length<=1000):Tot (UX x) (λr:Sum (Int) (HC×Bool)=>(∀y,r=.inl y->0<=y/\y<=x.1.length)/\∀y,r=.inr y->y.2=false):=by
 obtain⟨s,a,t⟩:=x;try dsimp only at h ⊢
 unfold UX
 repeat' first
  |(with_reducible first|refine D_.2 ⟨λ_=>?_,λ_=>?_⟩|refine DY.2 ?_|refine DZ.2 ?_|refine F0.2 ⟨?_,λ_ _=>?_⟩)
  |dsimp only
 all_goals exact ot
theorem AUw(x:DX×KC×Int×Int)(h:0<=x.2.2.2/\x.2.2.2<=3/\0<=x.2.2.1/\x.2.2.1<=x.1.length/\x.1.length<=1000/\x.2.1.1.length=3/\(∀n∈x.2.1.1,0<=n/\n<=999999999999999999)):Tot (sM x) (λr:Sum (KC×Int) (HC×Bool)=>(∀y,r=.inl y->y.1.1.length=3/\(∀n∈y.1.1,0<=n/\n<=999999999999999999)/\0<=y.2/\y.2<=x.1.length)/\∀y,r=.inr y->y.2=false):=by
 refine F6 (R:=λr:Sum (KC×Int) (HC×Bool)=>(∀y,r=.inl y->y.1.1.length=3/\(∀n∈y.1.1,0<=n/\n<=999999999999999999)/\0<=y.2/\y.2<=x.1.length)/\∀y,r=.inr y->y.2=false) (λy:DX×KC×Int×Int=>(0<=y.2.2.2/\y.2.2.2<=3/\0<=y.2.2.1/\y.2.2.1<=y.1.length/\y.1.length<=1000/\y.2.1.1.length=3/\(∀n∈y.2.1.1,0<=n/\n<=999999999999999999))/\y.1=x.1) (λy:DX×KC×Int×Int=>(3-y.2.2.2).toNat) ?_ _ _ oc (by unfold fuel;grind);rintro next ⟨s,v,a,t⟩ h hn
 try dsimp only at h hn
 unfold gC
 repeat' first
  |(with_reducible first|refine D_.2 ⟨λ_=>?_,λ_=>?_⟩|refine DY.2 ?_|refine DZ.2 ?_|refine FJ.2 ⟨?_,?_⟩|refine HL.2 ⟨?_,?_⟩|refine(ABU _ ?_).mono λ_ _=>?_|refine(HM _ ?_).mono λ_ _=>?_|refine(mB _ ?_).mono λ_ _=>?_|refine(NN _ ?_ ?_).mono λ_ _=>?_)
  |exact λc=>GV (HM c trivial)
  |exact λc=>GV (J8 c trivial)
  |with_reducible refine hn _ ?_ ?_
  |split
  |dsimp only
 all_goals exact ot
theorem AUx(x:DX)(h:x.length<=1000):Tot (YN x) (λr:HC×Bool=>r.2=true->JX r.1):=by
 unfold YN
 repeat' first
  |(with_reducible first|refine DY.2 ?_|refine DZ.2 ?_|refine HL.2 ⟨?_,?_⟩|refine(AUw _ ?_).mono λ_ _=>?_|refine(AUv _ ?_).mono λ_ _=>?_)
  |split
  |dsimp only
 all_goals grind[ED,EB,EA,E4,E0,EF,EE,EC,EH,EI,ER,EL,ET,EW,EX,EY,EZ,AUT]
theorem A0M(x:Int)(h:True):Tot (S7 x) (λr:Bool=>True):=by
 unfold S7
 repeat' first
  |(with_reducible first|refine D_.2 ⟨λ_=>?_,λ_=>?_⟩|refine DY.2 ?_|refine DZ.2 ?_|refine(HM _ ?_).mono λ_ _=>?_|refine(J8 _ ?_).mono λ_ _=>?_|refine(SY _ ?_).mono λ_ _=>?_)
  |dsimp only
 all_goals exact ot
theorem AUy(x:DX×Int)(h:0<=x.2/\x.2<=x.1.length/\x.1.length<=1000):Tot (sN x) (λr:Sum (Unit) (Bool)=>True):=by
 refine F6 (R:=λr:Sum (Unit) (Bool)=>True) (λy:DX×Int=>(0<=y.2/\y.2<=y.1.length/\y.1.length<=1000)/\y.1=x.1) (λy:DX×Int=>(y.1.length-y.2:Int).toNat) ?_ _ _ oc (by unfold fuel;grind);rintro next ⟨s,a⟩ h hn
 try dsimp only at h hn
 unfold A3k
 repeat' first
  |(with_reducible first|refine D_.2 ⟨λ_=>?_,λ_=>?_⟩|refine DY.2 ?_|refine DZ.2 ?_|refine(HM _ ?_).mono λ_ _=>?_|refine(NN _ ?_ ?_).mono λ_ _=>?_)
  |exact λc=>GV (HM c trivial)
  |exact λc=>GV (J8 c trivial)
  |with_reducible refine hn _ ?_ ?_
  |dsimp only
 all_goals grind[ED,EB,EA,E4,E0,EF,EE,EC,EH,EI,ER,EL,ET,EW,EX,EY,EZ,XJ]
theorem AUz(x:DX)(h:x.length<=1000):Tot (gD x) (λr:Bool=>True):=by
 unfold gD
 repeat' first
  |(with_reducible first|refine DY.2 ?_|refine DZ.2 ?_|refine(AUy _ ?_).mono λ_ _=>?_)
  |split
  |dsimp only
 all_goals exact ot
theorem AV0(x:DX×JQ×DX×DX×Bool)(h:x.1.length<=1000/\x.2.2.2.1.length<=1000/\x.2.2.1.length<=1000/\x.2.1.1=0):Tot (S8 x) (λr:Sum (DX×JQ) (HC×Bool)=>(∀y,r=.inl y->y.1.length<=1000/\0<=y.2.1/\y.2.1<=999999999999999999/\y.2.2=x.2.1.2)/\∀y,r=.inr y->y.2=false):=by
 obtain⟨s,v,e,a,t⟩:=x;try dsimp only at h ⊢
 unfold S8
 repeat' first
  |(with_reducible first|refine D_.2 ⟨λ_=>?_,λ_=>?_⟩|refine DY.2 ?_|refine DZ.2 ?_|refine(mB _ ?_).mono λ_ _=>?_)
  |dsimp only
 all_goals exact ot
set_option maxHeartbeats 4000000 in
theorem AV1(x:DX)(h:x.length<=1000):Tot (YO x) (λr:HC×Bool=>r.2=true->JX r.1):=by
 unfold YO
 repeat' first
  |(with_reducible first|refine D_.2 ⟨λ_=>?_,λ_=>?_⟩|refine DY.2 ?_|refine DZ.2 ?_|refine F0.2 ⟨?_,λ_ _=>?_⟩|refine HL.2 ⟨?_,?_⟩|refine(A0F _ ?_).mono λ_ _=>?_|refine(AV0 _ ?_).mono λ_ _=>?_|refine(HM _ ?_).mono λ_ _=>?_|refine(A0M _ ?_).mono λ_ _=>?_|refine(AUz _ ?_).mono λ_ _=>?_|refine(AUK _ ?_).mono λ_ _=>?_|refine(SY _ ?_).mono λ_ _=>?_|refine(NN _ ?_ ?_).mono λ_ _=>?_)
  |exact λc=>GV (HM c trivial)
  |exact λc=>GV (J8 c trivial)
  |exact λc=>GV (A0M c trivial)
  |split
  |dsimp only
 all_goals grind[ED,EB,EA,E4,E0,EF,EE,EC,EH,EI,ER,EL,ET,EW,EX,EY,EZ,AUU]
theorem AV2(x:DX×(List Int))(h:x.1.length<=1000/\x.2.length+x.1.length<=1001/\(∀n∈x.2,0<=n/\n<=999999999999999999)):Tot (sO x) (λr:(List Int)×DX×Bool=>NS r.1/\r.2.1.length<=1000):=by
 refine F6 (R:=λr:(List Int)×DX×Bool=>NS r.1/\r.2.1.length<=1000) (λy:DX×(List Int)=>(y.1.length<=1000/\y.2.length+y.1.length<=1001/\(∀n∈y.2,0<=n/\n<=999999999999999999))) (λy:DX×(List Int)=>y.1.length) ?_ _ _ oc (by unfold fuel;grind);rintro next ⟨s,o⟩ h hn
 try dsimp only at h hn
 unfold gE
 repeat' first
  |(with_reducible first|refine D_.2 ⟨λ_=>?_,λ_=>?_⟩|refine DY.2 ?_|refine DZ.2 ?_|refine F0.2 ⟨?_,λ_ _=>?_⟩|refine HL.2 ⟨?_,?_⟩|refine FT.2 ⟨?_,?_⟩|refine(HM _ ?_).mono λ_ _=>?_|refine(L7 _ ?_).mono λ_ _=>?_|refine(NN _ ?_ ?_).mono λ_ _=>?_)
  |exact λc=>GV (HM c trivial)
  |exact λc=>GV (J8 c trivial)
  |with_reducible refine hn _ ?_ ?_
  |dsimp only
 all_goals exact ot
theorem AV3(x:DX)(h:x.length<=1000):Tot (UY x) (λr:(List Int)×DX×Bool=>NS r.1/\r.2.1.length<=1000):=by
 unfold UY
 repeat' first
  |(with_reducible first|refine DY.2 ?_|refine DZ.2 ?_|refine(AV2 _ ?_).mono λ_ _=>?_)
  |dsimp only
 all_goals exact ot
theorem AV4(x:DX×OC)(h:∀c,Tot (x.2 c) λ_=>True):Tot (S9 x) (λr:Int=>0<=r/\r<=1/\r<=x.1.length):=by
 obtain⟨s,i⟩:=x;try dsimp only at h ⊢
 unfold S9
 repeat' first
  |(with_reducible first|refine D_.2 ⟨λ_=>?_,λ_=>?_⟩|refine DY.2 ?_|refine DZ.2 ?_|refine F0.2 ⟨?_,λ_ _=>?_⟩|refine(AUa _ ?_).mono λ_ _=>?_|refine(h _).mono λ_ _=>?_)
  |dsimp only
 all_goals exact ot
theorem AV5(x:DX×DX×(List DX)×Int×Int)(h:0<=x.2.2.2.2/\x.2.2.2.2<=x.2.2.2.1/\x.2.2.2.1=x.2.2.1.length/\x.2.2.2.1<=281474976710656/\x.2.1=[]):Tot (gH x) (λr:DX=>r.length<=x.1.length):=by
 refine F6 (R:=λr:DX=>r.length<=x.1.length) (λy:DX×DX×(List DX)×Int×Int=>(0<=y.2.2.2.2/\y.2.2.2.2<=y.2.2.2.1/\y.2.2.2.1=y.2.2.1.length/\y.2.2.2.1<=281474976710656/\y.2.1=[])/\y.1=x.1/\y.2.1=x.2.1) (λy:DX×DX×(List DX)×Int×Int=>(y.2.2.2.1-y.2.2.2.2).toNat) ?_ _ _ oc (by unfold fuel;grind);rintro next ⟨s,w,t,a,b⟩ h hn
 try dsimp only at h hn
 unfold gG
 repeat' first
  |(with_reducible first|refine D_.2 ⟨λ_=>?_,λ_=>?_⟩|refine DY.2 ?_|refine DZ.2 ?_|refine F0.2 ⟨?_,λ_ _=>?_⟩|refine(AUH _ ?_).mono λ_ _=>?_|refine hn _ ?_ ?_)
  |dsimp only
 all_goals exact ot
theorem AV6(x:DX×Bool)(h:True):Tot (gI x) (λr:Bool=>True):=by
 obtain⟨t,a⟩:=x;try dsimp only at h ⊢
 unfold gI
 repeat' first
  |(with_reducible first|refine D_.2 ⟨λ_=>?_,λ_=>?_⟩|refine DZ.2 ?_)
  |dsimp only
 all_goals exact ot
theorem AV7(x:DX×Bool)(h:True):Tot (gJ x) (λr:Bool=>True):=by
 obtain⟨t,a⟩:=x;try dsimp only at h ⊢
 unfold gJ
 repeat' first
  |(with_reducible first|refine D_.2 ⟨λ_=>?_,λ_=>?_⟩|refine DZ.2 ?_)
  |dsimp only
 all_goals exact ot
theorem AV8(x:DX×Bool)(h:True):Tot (gK x) (λr:Bool=>True):=by
 obtain⟨t,a⟩:=x;try dsimp only at h ⊢
 unfold gK
 repeat' first
  |(with_reducible first|refine D_.2 ⟨λ_=>?_,λ_=>?_⟩|refine DZ.2 ?_)
  |dsimp only
 all_goals exact ot
theorem AV9(x:DX)(h:True):Tot (UZ x) (λr:DX×Int×Int=>x.length<=281474976710656->r.1.length<=x.length/\(r.1≠[]->1<=r.2.1)/\r.2.1<=3/\0<=r.2.2/\r.2.2<=3):=by
 unfold UZ
 repeat' first
  |(with_reducible first|refine D_.2 ⟨λ_=>?_,λ_=>?_⟩|refine DY.2 ?_|refine DZ.2 ?_|refine(AV5 _ ?_).mono λ_ _=>?_|refine(AV6 _ ?_).mono λ_ _=>?_|refine(AV7 _ ?_).mono λ_ _=>?_|refine(AV8 _ ?_).mono λ_ _=>?_)
  |dsimp only
 all_goals exact ot
theorem AVA(x:DX×Int×Int×Bool)(h:0<=x.2.2.1/\x.2.2.1<=x.1.length/\x.1.length<=1000/\0<=x.2.1/\x.2.1<=999999999999999999):Tot (SA x) (λr:Sum (DX×Int) (DX×Bool)=>(∀y,r=.inl y->y.1.length<=x.1.length/\0<=y.2/\y.2<=999999999999999999)/\∀y,r=.inr y->y.2=false/\y.1=[]):=by
 obtain⟨a,b,k,t⟩:=x;try dsimp only at h ⊢
 unfold SA
 repeat' first
  |(with_reducible first|refine D_.2 ⟨λ_=>?_,λ_=>?_⟩|refine DY.2 ?_|refine DZ.2 ?_|refine HL.2 ⟨?_,?_⟩|refine(HM _ ?_).mono λ_ _=>?_|refine(L7 _ ?_).mono λ_ _=>?_|refine(NN _ ?_ ?_).mono λ_ _=>?_)
  |exact λc=>GV (HM c trivial)
  |exact λc=>GV (J8 c trivial)
  |dsimp only
 all_goals exact ot
set_option maxHeartbeats 1000000 in
theorem AVB(x:G7×DX×Int)(h:x.2.1.length<=1000/\0<=x.2.2/\x.2.2<=3/\OJ x.1):Tot (sP x) (λr:G7×DX×Bool=>OJ r.1/\r.2.1.length<=1000):=by
 refine F6 (R:=λr:G7×DX×Bool=>OJ r.1/\r.2.1.length<=1000) (λy:G7×DX×Int=>(y.2.1.length<=1000/\0<=y.2.2/\y.2.2<=3/\OJ y.1)) (λy:G7×DX×Int=>(4-y.2.2).toNat) ?_ _ _ oc (by unfold fuel;grind);rintro next ⟨v,s,l⟩ h hn
 try dsimp only at h hn
 unfold gL
 repeat' first
  |(with_reducible first|refine D_.2 ⟨λ_=>?_,λ_=>?_⟩|refine DY.2 ?_|refine DZ.2 ?_|refine F0.2 ⟨?_,λ_ _=>?_⟩|refine HL.2 ⟨?_,?_⟩|refine(AV4 _ ?_).mono λ_ _=>?_|refine(J8 _ ?_).mono λ_ _=>?_|refine(AV9 _ ?_).mono λ_ _=>?_|refine(HM _ ?_).mono λ_ _=>?_|refine(AVA _ ?_).mono λ_ _=>?_)
  |exact λc=>GV (HM c trivial)
  |exact λc=>GV (J8 c trivial)
  |with_reducible refine hn _ ?_ ?_
  |split
  |dsimp only
 all_goals exact ot
theorem AVC(x:G7×DX)(h:x.2.length<=1000/\OJ x.1):Tot (U_ x) (λr:DX×Bool×G7=>r.1.length<=1000/\OJ r.2.2):=by
 obtain⟨v,s⟩:=x;try dsimp only at h ⊢
 unfold U_
 repeat' first
  |(with_reducible first|refine DY.2 ?_|refine DZ.2 ?_|refine(AVB _ ?_).mono λ_ _=>?_)
  |dsimp only
 all_goals exact ot
theorem A0N(x:Int)(h:True):Tot (V0 x) (λr:Bool=>True):=by
 unfold V0
 repeat' first
  |(with_reducible first|refine D_.2 ⟨λ_=>?_,λ_=>?_⟩|refine DY.2 ?_|refine DZ.2 ?_|refine(HM _ ?_).mono λ_ _=>?_|refine(J8 _ ?_).mono λ_ _=>?_)
  |dsimp only
 all_goals exact ot
theorem AVD(x:Int×(List DX)×Int×Int)(h:0<=x.2.2.2/\x.2.2.2<=x.2.2.1/\x.2.2.1=x.2.1.length/\x.2.2.1<=281474976710656/\0<=x.1/\x.1<=1048576+1000*x.2.2.2/\(∀s∈x.2.1,s.length<=1000)/\x.2.2.1<=1048576):Tot (sQ x) (λr:Sum (Int) LK=>∀y,r=.inr y->y.1=[]):=by
 refine F6 (R:=λr:Sum (Int) LK=>∀y,r=.inr y->y.1=[]) (λy:Int×(List DX)×Int×Int=>(0<=y.2.2.2/\y.2.2.2<=y.2.2.1/\y.2.2.1=y.2.1.length/\y.2.2.1<=281474976710656/\0<=y.1/\y.1<=1048576+1000*y.2.2.2/\(∀s∈y.2.1,s.length<=1000)/\y.2.2.1<=1048576)) (λy:Int×(List DX)×Int×Int=>(y.2.2.1-y.2.2.2).toNat) ?_ _ _ oc (by unfold fuel;grind);rintro next ⟨a,t,b,d⟩ h hn
 try dsimp only at h hn
 unfold gM
 repeat' first
  |(with_reducible first|refine D_.2 ⟨λ_=>?_,λ_=>?_⟩|refine DY.2 ?_|refine DZ.2 ?_|refine F0.2 ⟨?_,λ_ _=>?_⟩|refine(HM _ ?_).mono λ_ _=>?_|refine(A0N _ ?_).mono λ_ _=>?_|refine(NN _ ?_ ?_).mono λ_ _=>?_)
  |exact λc=>GV (HM c trivial)
  |exact λc=>GV (J8 c trivial)
  |exact λc=>GV (A0N c trivial)
  |with_reducible refine hn _ ?_ ?_
  |dsimp only
 all_goals exact ot
theorem AVE(x:DX)(h:x.length<=1000):Tot (V1 x) (λr:(List DX)×Bool=>LS r.1):=by
 unfold V1
 repeat' first
  |(with_reducible first|refine DY.2 ?_|refine DZ.2 ?_|refine(ABL _ ?_).mono λ_ _=>?_|refine(AVD _ ?_).mono λ_ _=>?_|refine(ABK _ ⟨?_,?_⟩).mono λ_ _=>?_)
  |exact λc=>GV (ABL c trivial)
  |split
  |dsimp only
 all_goals exact ot
theorem AVF(x:DX×G7×Int×Bool)(h:x.1.length<=1000/\x.2.1.1=0/\0<=x.2.2.1/\x.2.2.1<=x.1.length/\(x.2.2.2=true->x.2.2.1<x.1.length)):Tot (V2 x) (λr:Sum (DX×G7) (HC×Bool)=>(∀y,r=.inl y->y.1.length<=1000/\0<=y.2.1/\y.2.1<=999999999999999999/\y.2.2=x.2.1.2)/\∀y,r=.inr y->y.2=false):=by
 obtain⟨s,v,a,t⟩:=x;try dsimp only at h ⊢
 unfold V2
 repeat' first
  |(with_reducible first|refine D_.2 ⟨λ_=>?_,λ_=>?_⟩|refine DY.2 ?_|refine DZ.2 ?_|refine HL.2 ⟨?_,?_⟩|refine(L7 _ ?_).mono λ_ _=>?_)
  |dsimp only
 all_goals exact ot
theorem AVG(x:DX)(h:x.length<=1000):Tot (V3 x) (λr:HC×Bool=>r.2=true->JX r.1):=by
 unfold V3
 repeat' first
  |(with_reducible first|refine D_.2 ⟨λ_=>?_,λ_=>?_⟩|refine DY.2 ?_|refine DZ.2 ?_|refine F0.2 ⟨?_,λ_ _=>?_⟩|refine(AUI _ ?_).mono λ_ _=>?_|refine(HM _ ?_).mono λ_ _=>?_|refine(AVF _ ?_).mono λ_ _=>?_|refine(AV3 _ ?_).mono λ_ _=>?_|refine(AVC _ ?_).mono λ_ _=>?_|refine(AUJ _ ?_).mono λ_ _=>?_|refine(AVE _ ?_).mono λ_ _=>?_|refine(NN _ ?_ ?_).mono λ_ _=>?_)
  |exact λc=>GV (HM c trivial)
  |exact λc=>GV (J8 c trivial)
  |split
  |dsimp only
 all_goals grind[ED,EB,EA,E4,E0,EF,EE,EC,EH,EI,ER,EL,ET,EW,EX,EY,EZ,AUV]
theorem AVH(x:DX×Bool)(h:x.1.length<=1000):Tot (gN x) (λr:DX=>r.length<=5000):=by
 obtain⟨w,a⟩:=x;try dsimp only at h ⊢
 unfold gN
 repeat' first
  |(with_reducible first|refine D_.2 ⟨λ_=>?_,λ_=>?_⟩|refine DY.2 ?_|refine DZ.2 ?_|refine(A0H _ ?_).mono λ_ _=>?_)
  |dsimp only
 all_goals exact ot
theorem mC(x:Bool×DX×Int)(h:True):Tot (SB x) (λr:Bool=>True):=by
 unfold SB
 repeat' first
  |with_reducible refine DZ.2 ?_
  |dsimp only
 all_goals exact ot
theorem ABV(x:DX×Int×Bool)(h:0<=x.2.1/\x.2.1<x.1.length/\x.1.length<=1000):Tot (V4 x) (λr:Sum (Int) (HC×Bool)=>(∀y,r=.inl y->x.2.1<=y/\y<=x.1.length)/\∀y,r=.inr y->y.2=false):=by
 obtain⟨s,a,t⟩:=x;try dsimp only at h ⊢
 unfold V4
 repeat' first
  |(with_reducible first|refine D_.2 ⟨λ_=>?_,λ_=>?_⟩|refine DY.2 ?_|refine DZ.2 ?_|refine F0.2 ⟨?_,λ_ _=>?_⟩|refine(HM _ ?_).mono λ_ _=>?_|refine(J8 _ ?_).mono λ_ _=>?_)
  |dsimp only
 all_goals exact ot
set_option maxHeartbeats 1000000 in
theorem AVI(x:DX×H4×Int)(h:0<=x.2.2/\(x.1.length:Int)<=281474976710656/\x.2.2<=(x.1.length:Int)/\x.1.length<=1000/\x.2.1.length<=x.2.2/\(∀t∈x.2.1,t.2.1.length<=5000/\0<=t.2.2/\t.2.2<=999999999999999999)):Tot (sR x) (λr:Sum H4 (HC×Bool)=>(∀y,r=.inl y->TS y)/\∀y,r=.inr y->y.2=false):=by
 refine F6 (R:=λr:Sum H4 (HC×Bool)=>(∀y,r=.inl y->TS y)/\∀y,r=.inr y->y.2=false) (λy:DX×H4×Int=>(0<=y.2.2/\(y.1.length:Int)<=281474976710656/\y.2.2<=(y.1.length:Int)/\y.1.length<=1000/\y.2.1.length<=y.2.2/\(∀t∈y.2.1,t.2.1.length<=5000/\0<=t.2.2/\t.2.2<=999999999999999999))) (λy:DX×H4×Int=>((y.1.length:Int)-y.2.2).toNat) ?_ _ _ oc (by unfold fuel;grind);rintro next ⟨s,v,a⟩ h hn
 try dsimp only at h hn
 unfold gO
 repeat' first
  |(with_reducible first|refine D_.2 ⟨λ_=>?_,λ_=>?_⟩|refine DY.2 ?_|refine DZ.2 ?_|refine F0.2 ⟨?_,λ_ _=>?_⟩|refine HL.2 ⟨?_,?_⟩|refine FT.2 ⟨?_,?_⟩|refine(ABV _ ?_).mono λ_ _=>?_|refine(HM _ ?_).mono λ_ _=>?_|refine(L7 _ ?_).mono λ_ _=>?_|refine(J8 _ ?_).mono λ_ _=>?_|refine(AVH _ ?_).mono λ_ _=>?_|refine(NN _ ?_ ?_).mono λ_ _=>?_)
  |exact λc=>GV (HM c trivial)
  |exact λc=>GV (J8 c trivial)
  |with_reducible refine hn _ ?_ ?_
  |split
  |dsimp only
 all_goals exact ot
theorem AVJ(x:List L1)(h:TS x):Tot (sS x) (λr:List L1=>TS r):=by
 refine F6 (R:=λr=>TS r) (λy=>TS y) (λy=>y.length) ?_ _ _ h (by unfold fuel;have:=h.1;omega);intro next v h d
 unfold A3l;by_cases a:(0:Int)<v.length
 .rw[EQ oa (by have:=h.1;omega),A4 a];simp only[A8,D0];refine DY.2 (F0.2 ⟨⟨oa,oa⟩,λb i=>?_⟩);refine DY.2 ((mC _ trivial).mono λr _=>?_);refine D_.2 ⟨λ_=>DY.2 (HL.2 ⟨⟨oa,oa,oa⟩,?_⟩),λ_=>DZ.2 h⟩;refine d _ ⟨?_,λt e=>h.2 t (ER e)⟩ ?_
  .rw[EL];have:=h.1;omega
  .rw[EL];omega
 .rw[A7 a];simp only[AA,D5];exact DY.2 (DZ.2 (DY.2 (DZ.2 (DZ.2 h))))
theorem AVK(x:DX)(h:x.length<=1000):Tot (V5 x) (λr:HC×Bool=>r.2=true->JX r.1):=by
 unfold V5
 repeat' first
  |(with_reducible first|refine DY.2 ?_|refine DZ.2 ?_|refine(AVI _ ?_).mono λ_ _=>?_|refine(AVJ _ ?_).mono λ_ _=>?_)
  |split
  |dsimp only
 all_goals grind[ED,EB,EA,E4,E0,EF,EE,EC,EH,EI,ER,EL,ET,EW,EX,EY,EZ,AUW]
theorem AVL(x:DX)(h:x.length<=1000):Tot (YP x) (λr:HC×Bool=>r.2=true->JX r.1):=by
 unfold YP
 repeat' first
  |(with_reducible first|refine DY.2 ?_|refine DZ.2 ?_|refine(mB _ ?_).mono λ_ _=>?_)
  |dsimp only
 all_goals grind[ED,EB,EA,E4,E0,EF,EE,EC,EH,EI,ER,EL,ET,EW,EX,EY,EZ,AUX]
theorem NO(x:Int×DX)(h:x.2.length<=1048576):Tot (IY x) (λr:HC×Int=>r.2=0->JX r.1):=by
 obtain⟨k,s⟩:=x;try dsimp only at h ⊢
 unfold IY
 repeat' first
  |(with_reducible first|refine D_.2 ⟨λ_=>?_,λ_=>?_⟩|refine DY.2 ?_|refine DZ.2 ?_|refine(AUx _ ?_).mono λ_ _=>?_|refine(AV1 _ ?_).mono λ_ _=>?_|refine(A0H _ ?_).mono λ_ _=>?_|refine(AVG _ ?_).mono λ_ _=>?_|refine(AVK _ ?_).mono λ_ _=>?_|refine(AVL _ ?_).mono λ_ _=>?_)
  |dsimp only
 all_goals exact ot
theorem AVM(x:(List DX)×(List Int)×Int×Int)(h:0<=x.2.2.2/\x.2.2.2<=x.2.2.1/\x.2.2.1=x.2.1.length/\x.2.2.1<=281474976710656/\x.1.length<=x.2.2.2/\(∀s∈x.1,s.length<=21)/\x.2.2.1<=1002):Tot (sT x) (λr:List DX=>r.length<=1002/\∀s∈r,s.length<=21):=by
 refine F6 (R:=λr:List DX=>r.length<=1002/\∀s∈r,s.length<=21) (λy:(List DX)×(List Int)×Int×Int=>(0<=y.2.2.2/\y.2.2.2<=y.2.2.1/\y.2.2.1=y.2.1.length/\y.2.2.1<=281474976710656/\y.1.length<=y.2.2.2/\(∀s∈y.1,s.length<=21)/\y.2.2.1<=1002)) (λy:(List DX)×(List Int)×Int×Int=>(y.2.2.1-y.2.2.2).toNat) ?_ _ _ oc (by unfold fuel;grind);rintro next ⟨a,t,b,d⟩ h hn
 try dsimp only at h hn
 unfold A3m
 repeat' first
  |(with_reducible first|refine D_.2 ⟨λ_=>?_,λ_=>?_⟩|refine DY.2 ?_|refine DZ.2 ?_|refine F0.2 ⟨?_,λ_ _=>?_⟩|refine FT.2 ⟨?_,?_⟩|refine(JW _ ?_).mono λ_ _=>?_|refine hn _ ?_ ?_)
  |dsimp only
 all_goals exact ot
theorem ABW(x:List Int)(h:x.length<=1002):Tot (YR x) (λr:DX=>r.length<=30000):=by
 unfold YR;refine DY.2 ((AVM _ ⟨oe,oe,rfl,om,oe,oe,om⟩).mono λr a=>?_);have d:(Lib.join r [46]).length<=1002*(21+1):=m8 a.2 a.1 oe;exact DY.2 ((VW _ ⟨om,od⟩).mono λs b=>DZ.2 (by rw[b];dsimp only;omega))
theorem A0O(x:(List Int)×(List DX))(h:m7 x):Tot (YS x) (λr:DX=>r.length<=1048576):=by
 unfold YS;obtain⟨i,j,b,d⟩:=h;have e:(Lib.join x.2 [46]).length<=1002*(1000+1):=m8 d b oe;refine DY.2 (HL.2 ⟨⟨oa,oa,oa⟩,?_⟩);refine DY.2 ((ABW _ (by rw[EL];omega)).mono λr k=>?_);refine D_.2 ⟨λ_=>?_,λ_=>DZ.2 oa⟩;refine DY.2 ((VW _ ⟨od,od⟩).mono λs a=>?_);dsimp only at a;rw[<-a]at e;refine DY.2 (GA.2 ⟨om,?_⟩);refine DY.2 (GA.2 ⟨om,?_⟩);exact DZ.2 om
theorem AVN(x:DX×(List Int)×Int)(h:0<=x.2.2/\x.2.2<=x.1.length/\x.1.length<=1000/\x.2.1.length<=21*x.2.2):Tot (sU x) (λr:List Int=>r.length<=21000):=by
 refine F6 (R:=λr:List Int=>r.length<=21000) (λy:DX×(List Int)×Int=>(0<=y.2.2/\y.2.2<=y.1.length/\y.1.length<=1000/\y.2.1.length<=21*y.2.2)/\y.1=x.1) (λy:DX×(List Int)×Int=>(y.1.length-y.2.2:Int).toNat) ?_ _ _ oc (by unfold fuel;grind);rintro next ⟨s,b,a⟩ h hn
 try dsimp only at h hn
 unfold A3n
 repeat' first
  |(with_reducible first|refine D_.2 ⟨λ_=>?_,λ_=>?_⟩|refine DY.2 ?_|refine DZ.2 ?_|refine F0.2 ⟨?_,λ_ _=>?_⟩|refine HL.2 ⟨?_,?_⟩|refine(HM _ ?_).mono λ_ _=>?_|refine(aZ _ ?_).mono λ_ _=>?_|refine(L7 _ ?_).mono λ_ _=>?_|refine(JW _ ?_).mono λ_ _=>?_|refine(a_ _ ?_).mono λ_ _=>?_|refine(NN _ ?_ ?_).mono λ_ _=>?_)
  |exact λc=>GV (HM c trivial)
  |exact λc=>GV (J8 c trivial)
  |with_reducible refine hn _ ?_ ?_
  |dsimp only
 all_goals exact ot
theorem AVO(x:DX)(h:x.length<=1000):Tot (YT x) (λr:DX=>r.length<=21000):=by
 unfold YT
 repeat' first
  |(with_reducible first|refine DY.2 ?_|refine DZ.2 ?_|refine(AVN _ ?_).mono λ_ _=>?_|refine(SZ _ ?_).mono λ_ _=>?_)
  |dsimp only
 all_goals exact ot
theorem ABX(x:Int×DX×DX×Bool)(h:bA x):Tot (YU x) (λr:DX=>r.length<=1000):=by
 unfold YU
 repeat' first
  |(with_reducible first|refine D_.2 ⟨λ_=>?_,λ_=>?_⟩|refine DZ.2 ?_)
  |dsimp only
 all_goals exact ot
theorem AVP(x:DX×(List Int)×Int×Int)(h:0<=x.2.2.2/\x.2.2.2<=x.2.2.1/\x.2.2.1=x.1.length/\x.2.2.1<=281474976710656/\x.2.2.1<=1000/\x.2.1.length<=x.2.2.2):Tot (sV x) (λr:List Int=>r.length<=x.1.length):=by
 refine F6 (R:=λr:List Int=>r.length<=x.1.length) (λy:DX×(List Int)×Int×Int=>(0<=y.2.2.2/\y.2.2.2<=y.2.2.1/\y.2.2.1=y.1.length/\y.2.2.1<=281474976710656/\y.2.2.1<=1000/\y.2.1.length<=y.2.2.2)/\y.1=x.1) (λy:DX×(List Int)×Int×Int=>(y.2.2.1-y.2.2.2).toNat) ?_ _ _ oc (by unfold fuel;grind);rintro next ⟨s,b,t,a⟩ h hn
 try dsimp only at h hn
 unfold A3o
 repeat' first
  |(with_reducible first|refine D_.2 ⟨λ_=>?_,λ_=>?_⟩|refine DY.2 ?_|refine DZ.2 ?_|refine F0.2 ⟨?_,λ_ _=>?_⟩|refine(aZ _ ?_).mono λ_ _=>?_|refine(J8 _ ?_).mono λ_ _=>?_|refine hn _ ?_ ?_)
  |dsimp only
 all_goals exact ot
theorem AVQ(x:DX)(h:x.length<=1000):Tot (gQ x) (λr:DX=>r.length<=x.length+1):=by
 unfold gQ
 repeat' first
  |(with_reducible first|refine DY.2 ?_|refine DZ.2 ?_|refine F0.2 ⟨?_,λ_ _=>?_⟩|refine GA.2 ⟨?_,?_⟩|refine(AVP _ ?_).mono λ_ _=>?_|refine(SZ _ ?_).mono λ_ _=>?_)
  |dsimp only
 all_goals exact ot
theorem KT(x:Int)(h:0<=x/\x<=999999999999999999):Tot (JU x) (λr:DX=>r.length=18):=by
 unfold JU
 repeat' first
  |(with_reducible first|refine DY.2 ?_|refine DZ.2 ?_|refine F0.2 ⟨?_,λ_ _=>?_⟩|refine GA.2 ⟨?_,?_⟩|refine(JW _ ?_).mono λ_ _=>?_|refine(AUO _ ?_).mono λ_ _=>?_)
  |dsimp only
 all_goals exact ot
theorem AVR(x:DX×(List Int))(h:x.1.length<=1000/\x.2.length+40*x.1.length<=50000):Tot (sW x) (λr:List Int=>r.length<=50000):=by
 refine F6 (R:=λr:List Int=>r.length<=50000) (λy:DX×(List Int)=>y.1.length<=1000/\y.2.length+40*y.1.length<=50000) (λy:DX×(List Int)=>y.1.length) ?_ _ _ h (by unfold fuel;have:=h.1;omega);rintro next ⟨s,b⟩ h hn
 dsimp only at h hn;unfold A3p;dsimp only;refine D_.2 ⟨λhc=>?_,λ_=>DZ.2 oa⟩
 have hne:0<s.length:=by
  rw[ET]at hc;simp only[BP,DU]at hc;omega
 have f1:∀c,Tot ((gP c).bind λr=>some r) λ_=>True:=λc=>⟨_,rfl,trivial⟩;refine DY.2 ((bB _ ⟨AR _,od,od,f1⟩).mono λr1 hr1=>?_);dsimp only at hr1;obtain⟨a0,a1,_,a3⟩:=hr1;rw[Int.zero_add]at a1 a3;refine DY.2 ((bB _ ⟨a0,od,od,QT⟩).mono λr2 hr2=>?_);dsimp only at hr2;obtain⟨b0,b1,_,b3⟩:=hr2
 have hpos:0<r1+r2:=by
  rcases Int.lt_or_le 0 (r1+r2)with h'|h'
  .exact h'
  .exfalso;have e1:r1=0:=oa
   have e2:r2=0:=oa
   subst e1 e2;have g:s[(0:Int).toNat]?=some (s[0]'hne):=A1 hne;have g1:=a3 _ g;have g2:=b3 _ g;unfold gP at g1;unfold H5 at g1 g2;simp at g1 g2;omega
 rw[EQ oa oa];refine DY.2 (HL.2 ⟨⟨oa,oa,oa⟩,?_⟩);refine DY.2 ((L7 _ (by rw[EL];omega)).mono λr4 h4=>?_);refine DY.2 (HL.2 ⟨⟨oa,oa,oa⟩,?_⟩);refine DY.2 ((AVQ _ (by rw[EL];omega)).mono λr6 h6=>?_);rw[EL]at h6;refine DY.2 ((KT _ h4).mono λr7 h7=>?_);refine DY.2 (GA.2 ⟨oa,?_⟩);refine DY.2 ((a_ _ ⟨od,by dsimp only;rw[AE];omega⟩).mono λr9 h9=>?_);dsimp only at h9;rw[AE]at h9;refine DY.2 (HL.2 ⟨⟨oa,oa,oa⟩,?_⟩);refine hn _ ⟨?_,?_⟩ ?_<;>(dsimp only;rw[EL];omega)
theorem A0P(x:DX)(h:x.length<=1000):Tot (P3 x) (λr:DX=>r.length<=50010):=by
 unfold P3
 repeat' first
  |(with_reducible first|refine DY.2 ?_|refine DZ.2 ?_|refine F0.2 ⟨?_,λ_ _=>?_⟩|refine GA.2 ⟨?_,?_⟩|refine(AVR _ ?_).mono λ_ _=>?_|refine(SZ _ ?_).mono λ_ _=>?_)
  |dsimp only
 all_goals exact ot
theorem AVS(x:JQ×DX×Bool)(h:x.2.1.length<=1000000):Tot (gR x) (λr:JQ×DX=>r.1=x.1/\r.2.length<=x.2.1.length+30):=by
 obtain⟨v,s,t⟩:=x;try dsimp only at h ⊢
 unfold gR
 repeat' first
  |(with_reducible first|refine D_.2 ⟨λ_=>?_,λ_=>?_⟩|refine DY.2 ?_|refine DZ.2 ?_|refine F0.2 ⟨?_,λ_ _=>?_⟩|refine GA.2 ⟨?_,?_⟩|refine(JW _ ?_).mono λ_ _=>?_)
  |dsimp only
 all_goals exact ot
theorem A0Q(x:Int×DX×DX×Bool)(h:bA x):Tot (YV x) (λr:DX=>r.length<=1048576):=by
 unfold YV
 repeat' first
  |(with_reducible first|refine D_.2 ⟨λ_=>?_,λ_=>?_⟩|refine DY.2 ?_|refine DZ.2 ?_|refine F0.2 ⟨?_,λ_ _=>?_⟩|refine GA.2 ⟨?_,?_⟩|refine(AVO _ ?_).mono λ_ _=>?_|refine(AVS _ ?_).mono λ_ _=>?_|refine(ABX _ ?_).mono λ_ _=>?_|refine(A0P _ ?_).mono λ_ _=>?_)
  |dsimp only
 all_goals exact ot
theorem AVT(x:List Int)(h:NS x):Tot (sX x) (λr:List Int=>NS r):=by
 refine F6 (R:=λr=>NS r) (λy=>NS y) (λy=>y.length) ?_ _ _ h (by unfold fuel;have:=h.1;omega);intro next v h d
 unfold A3q;by_cases a:(0:Int)<v.length
 .rw[EQ oa (by have:=h.1;omega),A4 a];simp only[A8,D0];refine DY.2 (F0.2 ⟨⟨oa,oa⟩,λb i=>?_⟩);refine D_.2 ⟨λ_=>DY.2 (HL.2 ⟨⟨oa,oa,oa⟩,?_⟩),λ_=>DZ.2 h⟩;refine d _ ⟨?_,λt e=>h.2 t (ER e)⟩ ?_
  .rw[EL];have:=h.1;omega
  .rw[EL];omega
 .rw[A7 a];simp only[AA,D5];exact DY.2 (DZ.2 (DZ.2 h))
theorem ABY(x:List Int)(h:NS x):Tot (YW x) (λr:List Int=>NS r):=by
 unfold YW
 repeat' first
  |(with_reducible first|refine DY.2 ?_|refine DZ.2 ?_|refine(AVT _ ?_).mono λ_ _=>?_)
  |dsimp only
 all_goals exact ot
theorem AVU(x:G7×DX×Bool)(h:x.2.1.length<=10):Tot (gS x) (λr:G7×DX=>r.1=x.1/\r.2.length<=30):=by
 obtain⟨v,s,t⟩:=x;try dsimp only at h ⊢
 unfold gS
 repeat' first
  |(with_reducible first|refine D_.2 ⟨λ_=>?_,λ_=>?_⟩|refine DY.2 ?_|refine DZ.2 ?_|refine F0.2 ⟨?_,λ_ _=>?_⟩|refine GA.2 ⟨?_,?_⟩|refine(JW _ ?_).mono λ_ _=>?_)
  |dsimp only
 all_goals exact ot
theorem AVV(x:DX×(List Int)×Bool)(h:x.1.length<=30/\x.2.1.length<=1002):Tot (gT x) (λr:DX=>r.length<=31000):=by
 obtain⟨s,l,t⟩:=x;try dsimp only at h ⊢
 unfold gT
 repeat' first
  |(with_reducible first|refine D_.2 ⟨λ_=>?_,λ_=>?_⟩|refine DY.2 ?_|refine DZ.2 ?_|refine F0.2 ⟨?_,λ_ _=>?_⟩|refine GA.2 ⟨?_,?_⟩|refine(ABW _ ?_).mono λ_ _=>?_)
  |dsimp only
 all_goals exact ot
theorem AVW(x:G7×DX×Bool)(h:x.2.1.length<=31000/\0<=x.1.2.2.1/\x.1.2.2.1<=3):Tot (gU x) (λr:G7×DX=>r.1=x.1/\r.2.length<=31100):=by
 obtain⟨v,s,t⟩:=x;try dsimp only at h ⊢
 unfold gU
 repeat' first
  |(with_reducible first|refine D_.2 ⟨λ_=>?_,λ_=>?_⟩|refine DY.2 ?_|refine DZ.2 ?_|refine F0.2 ⟨?_,λ_ _=>?_⟩|refine GA.2 ⟨?_,?_⟩|refine(JW _ ?_).mono λ_ _=>?_)
  |dsimp only
 all_goals exact ot
theorem AVX(x:G7×DX×Bool)(h:x.2.1.length<=31100):Tot (gV x) (λr:G7×DX=>r.1=x.1/\r.2.length<=31200):=by
 obtain⟨v,s,t⟩:=x;try dsimp only at h ⊢
 unfold gV
 repeat' first
  |(with_reducible first|refine D_.2 ⟨λ_=>?_,λ_=>?_⟩|refine DY.2 ?_|refine DZ.2 ?_|refine F0.2 ⟨?_,λ_ _=>?_⟩|refine GA.2 ⟨?_,?_⟩|refine(JW _ ?_).mono λ_ _=>?_)
  |dsimp only
 all_goals exact ot
theorem AVY(x:G7×DX×Bool)(h:x.2.1.length<=31200):Tot (gW x) (λr:G7×DX=>r.1=x.1/\r.2.length<=31300):=by
 obtain⟨v,s,t⟩:=x;try dsimp only at h ⊢
 unfold gW
 repeat' first
  |(with_reducible first|refine D_.2 ⟨λ_=>?_,λ_=>?_⟩|refine DY.2 ?_|refine DZ.2 ?_|refine F0.2 ⟨?_,λ_ _=>?_⟩|refine GA.2 ⟨?_,?_⟩|refine(JW _ ?_).mono λ_ _=>?_)
  |dsimp only
 all_goals exact ot
theorem AVZ(x:DX×Int×Bool)(h:True):Tot (gX x) (λr:DX=>r.length<=x.1.length+21):=by
 obtain⟨b,a,t⟩:=x;try dsimp only at h ⊢
 unfold gX
 repeat' first
  |(with_reducible first|refine D_.2 ⟨λ_=>?_,λ_=>?_⟩|refine DY.2 ?_|refine DZ.2 ?_|refine(JW _ ?_).mono λ_ _=>?_)
  |dsimp only
 all_goals exact ot
theorem AV_(x:DX×(List DX)×Int×Int)(h:0<=x.2.2.2/\x.2.2.2<=x.2.2.1/\x.2.2.1=x.2.1.length/\x.2.2.1<=281474976710656/\x.1.length<=40000+1030*x.2.2.2/\x.2.2.1<=1002/\∀s∈x.2.1,s.length<=1000):Tot (sY x) (λr:DX=>r.length<=10000000):=by
 refine F6 (R:=λr:DX=>r.length<=10000000) (λy:DX×(List DX)×Int×Int=>(0<=y.2.2.2/\y.2.2.2<=y.2.2.1/\y.2.2.1=y.2.1.length/\y.2.2.1<=281474976710656/\y.1.length<=40000+1030*y.2.2.2/\y.2.2.1<=1002/\∀s∈y.2.1,s.length<=1000)) (λy:DX×(List DX)×Int×Int=>(y.2.2.1-y.2.2.2).toNat) ?_ _ _ oc (by unfold fuel;grind);rintro next ⟨a,t,b,d⟩ h hn
 try dsimp only at h hn
 unfold A3r
 repeat' first
  |(with_reducible first|refine D_.2 ⟨λ_=>?_,λ_=>?_⟩|refine DY.2 ?_|refine DZ.2 ?_|refine F0.2 ⟨?_,λ_ _=>?_⟩|refine GA.2 ⟨?_,?_⟩|refine(L7 _ ?_).mono λ_ _=>?_|refine(AVZ _ ?_).mono λ_ _=>?_|refine hn _ ?_ ?_)
  |dsimp only
 all_goals exact ot
theorem A0R(x:Int×(List Int)×Int×Int×Int×Int×(List DX))(h:OJ x):Tot (YX x) (λr:DX=>r.length<=10000000):=by
 unfold YX
 repeat' first
  |(with_reducible first|refine DY.2 ?_|refine DZ.2 ?_|refine(AVU _ ?_).mono λ_ _=>?_|refine(ABY _ ?_).mono λ_ _=>?_|refine(AVV _ ?_).mono λ_ _=>?_|refine(AVW _ ?_).mono λ_ _=>?_|refine(AVX _ ?_).mono λ_ _=>?_|refine(AVY _ ?_).mono λ_ _=>?_|refine(AV_ _ ?_).mono λ_ _=>?_)
  |dsimp only
 all_goals exact ot
theorem AVa(x:(List DX)×H4×Int×Int)(h:0<=x.2.2.2/\x.2.2.2<=x.2.2.1/\x.2.2.1=x.2.1.length/\x.2.2.1<=281474976710656/\x.1.length<=x.2.2.2/\(∀s∈x.1,s.length<=5000)/\x.2.2.1<=1002/\∀t∈x.2.1,t.2.1.length<=5000):Tot (sZ x) (λr:List DX=>r.length<=1002/\∀s∈r,s.length<=5000):=by
 refine F6 (R:=λr:List DX=>r.length<=1002/\∀s∈r,s.length<=5000) (λy:(List DX)×H4×Int×Int=>(0<=y.2.2.2/\y.2.2.2<=y.2.2.1/\y.2.2.1=y.2.1.length/\y.2.2.1<=281474976710656/\y.1.length<=y.2.2.2/\(∀s∈y.1,s.length<=5000)/\y.2.2.1<=1002/\∀t∈y.2.1,t.2.1.length<=5000)) (λy:(List DX)×H4×Int×Int=>(y.2.2.1-y.2.2.2).toNat) ?_ _ _ oc (by unfold fuel;grind);rintro next ⟨l,a,b,d⟩ h hn
 try dsimp only at h hn
 unfold A3s
 repeat' first
  |(with_reducible first|refine D_.2 ⟨λ_=>?_,λ_=>?_⟩|refine DY.2 ?_|refine DZ.2 ?_|refine F0.2 ⟨?_,λ_ _=>?_⟩|refine FT.2 ⟨?_,?_⟩|refine(mC _ ?_).mono λ_ _=>?_|refine(JW _ ?_).mono λ_ _=>?_|refine hn _ ?_ ?_)
  |dsimp only
 all_goals exact ot
theorem A0S(x:List L1)(h:TS x):Tot (YY x) (λr:DX=>r.length<=10000000):=by
 unfold YY;refine DY.2 ((AVa _ ⟨oe,oe,rfl,by have:=h.1;simp;omega,oe,oe,by have:=h.1;simp;omega,λt d=>(h.2 t d).1⟩).mono λr a=>?_);have e:(Lib.join r [45]).length<=1002*(5000+1):=m8 a.2 a.1 oe;refine D_.2 ⟨λ_=>DZ.2 oe,λ_=>?_⟩;exact DY.2 ((VW _ ⟨od,od⟩).mono λs b=>DZ.2 (by rw[b];dsimp only;omega))
theorem A0T(x:Int)(h:True):Tot (YZ x) (λr:DX=>r.length<=10000000):=by
 unfold YZ
 repeat' first
  |(with_reducible first|refine DY.2 ?_|refine DZ.2 ?_|refine(JW _ ?_).mono λ_ _=>?_)
  |dsimp only
 all_goals exact ot
theorem AVb(x:Sum KC (Sum JQ (Sum G7 (Sum H4 (Sum Int Unit)))))(h:JX x):Tot (iL x) (λr:DX×Int=>r.1.length<=100):=by
 unfold iL;refine DY.2 (Tot.mono (P:=λr:DX=>r.length<=10000000) ?_ λd b=>?_)
 .rcases x with x|x|x|x|x|x
  .exact DY.2 ((A0O _ h).mono λ_ h=>DZ.2 oa)
  .exact DY.2 ((A0Q _ h).mono λ_ h=>DZ.2 oa)
  .exact DY.2 ((A0R _ h).mono λ_ h=>DZ.2 h)
  .exact DY.2 ((A0S _ h).mono λ_ h=>DZ.2 h)
  .exact DY.2 ((A0T _ trivial).mono λ_ h=>DZ.2 h)
  .exact h.elim
 .refine D_.2 ⟨λ_=>DZ.2 oe,λa=>DZ.2 ?_⟩;have:=AF a;dsimp only;omega
theorem mD(x:Int×DX)(h:x.2.length<=1048576):Tot (SE x) (λr:DX×Int=>r.1.length<=100):=by
 obtain⟨k,s⟩:=x;try dsimp only at h ⊢
 unfold SE
 repeat' first
  |(with_reducible first|refine D_.2 ⟨λ_=>?_,λ_=>?_⟩|refine DY.2 ?_|refine DZ.2 ?_|refine(NO _ ?_).mono λ_ _=>?_|refine(AVb _ ?_).mono λ_ _=>?_)
  |dsimp only
 all_goals exact ot
theorem AVc(x:E3×Int×FW×Int×Int×Int)(h:(∀p,Tot (x.2.2.1 p) λ_=>True)/\x.2.2.2.1=20/\0<=x.2.2.2.2.1/\x.2.2.2.2.2=x.2.2.2.2.1+20/\x.2.1=x.1.length/\x.2.1<=1048576/\x.2.2.2.2.1<=x.2.1):Tot (rX x) (λr:E3×Int=>r.1.length=x.1.length/\(∀q∈r.1,q∈x.1)/\0<=r.2/\r.2<=x.2.1):=by
 refine F6 (R:=λr:E3×Int=>r.1.length=x.1.length/\(∀q∈r.1,q∈x.1)/\0<=r.2/\r.2<=x.2.1) (λy:E3×Int×FW×Int×Int×Int=>((∀p,Tot (y.2.2.1 p) λ_=>True)/\y.2.2.2.1=20/\0<=y.2.2.2.2.1/\y.2.2.2.2.2=y.2.2.2.2.1+20/\y.2.1=y.1.length/\y.2.1<=1048576/\y.2.2.2.2.1<=y.2.1)/\y.2.1=x.2.1/\y.2.2.1=x.2.2.1/\y.2.2.2.1=x.2.2.2.1/\y.1.length=x.1.length/\∀q∈y.1,q∈x.1) (λy:E3×Int×FW×Int×Int×Int=>(y.2.1-y.2.2.2.2.1).toNat) ?_ _ _ oc (by unfold fuel;grind);rintro next ⟨d,j,a,b,e,i⟩ h hn
 try dsimp only at h hn
 unfold A3Y
 repeat' first
  |(with_reducible first|refine D_.2 ⟨λ_=>?_,λ_=>?_⟩|refine DY.2 ?_|refine DZ.2 ?_|refine(ABG _ ?_).mono λ_ _=>?_|refine hn _ ?_ ?_)
  |dsimp only
 all_goals exact ot
theorem AVd(x:E3×Int×FW×Int×Int×Int)(h:(∀p,Tot (x.2.2.1 p) λ_=>True)/\0<x.2.2.2.1/\x.2.2.2.1<x.2.1/\0<=x.2.2.2.2.1/\x.2.2.2.2.2=x.2.2.2.2.1+2*x.2.2.2.1/\x.2.1=x.1.length/\x.2.1<=1048576/\x.2.2.2.2.1<=x.2.1):Tot (rY x) (λr:E3×Int=>r.1.length=x.1.length/\(∀q∈r.1,q∈x.1)/\0<=r.2/\r.2<=x.2.1):=by
 refine F6 (R:=λr:E3×Int=>r.1.length=x.1.length/\(∀q∈r.1,q∈x.1)/\0<=r.2/\r.2<=x.2.1) (λy:E3×Int×FW×Int×Int×Int=>((∀p,Tot (y.2.2.1 p) λ_=>True)/\0<y.2.2.2.1/\y.2.2.2.1<y.2.1/\0<=y.2.2.2.2.1/\y.2.2.2.2.2=y.2.2.2.2.1+2*y.2.2.2.1/\y.2.1=y.1.length/\y.2.1<=1048576/\y.2.2.2.2.1<=y.2.1)/\y.2.1=x.2.1/\y.2.2.1=x.2.2.1/\y.2.2.2.1=x.2.2.2.1/\y.1.length=x.1.length/\∀q∈y.1,q∈x.1) (λy:E3×Int×FW×Int×Int×Int=>(y.2.1-y.2.2.2.2.1).toNat) ?_ _ _ oc (by unfold fuel;grind);rintro next ⟨d,j,a,b,e,i⟩ h hn
 try dsimp only at h hn
 unfold A3Z
 repeat' first
  |(with_reducible first|refine D_.2 ⟨λ_=>?_,λ_=>?_⟩|refine DY.2 ?_|refine DZ.2 ?_|refine(ABH _ ?_).mono λ_ _=>?_|refine hn _ ?_ ?_)
  |dsimp only
 all_goals exact ot
theorem AVe(x:E3×Int×FW×Int)(h:(∀p,Tot (x.2.2.1 p) λ_=>True)/\0<x.2.2.2/\x.2.2.2<=2097152/\x.2.1=x.1.length/\x.2.1<=1048576):Tot (rZ x) (λr:List (DX×DX)=>r.length=x.1.length/\(∀q∈r,q∈x.1)):=by
 refine F6 (R:=λr:List (DX×DX)=>r.length=x.1.length/\(∀q∈r,q∈x.1)) (λy:E3×Int×FW×Int=>((∀p,Tot (y.2.2.1 p) λ_=>True)/\0<y.2.2.2/\y.2.2.2<=2097152/\y.2.1=y.1.length/\y.2.1<=1048576)/\y.2.1=x.2.1/\y.2.2.1=x.2.2.1/\y.1.length=x.1.length/\∀q∈y.1,q∈x.1) (λy:E3×Int×FW×Int=>(2097153-y.2.2.2).toNat) ?_ _ _ oc (by unfold fuel;grind);rintro next ⟨d,e,a,b⟩ h hn
 try dsimp only at h hn
 unfold A3_
 repeat' first
  |(with_reducible first|refine D_.2 ⟨λ_=>?_,λ_=>?_⟩|refine DY.2 ?_|refine DZ.2 ?_|refine(AVd _ ?_).mono λ_ _=>?_|refine(ABH _ ?_).mono λ_ _=>?_|refine hn _ ?_ ?_)
  |dsimp only
 all_goals exact ot
theorem AVf(x:E3×Int×FW)(h:(∀p,Tot (x.2.2 p) λ_=>True)/\x.2.1=x.1.length/\x.2.1<=1048576):Tot (fK x) (λr:List (DX×DX)=>r.length=x.1.length/\(∀q∈r,q∈x.1)):=by
 obtain⟨d,b,a⟩:=x;try dsimp only at h ⊢
 unfold fK
 repeat' first
  |(with_reducible first|refine DY.2 ?_|refine DZ.2 ?_|refine(AVc _ ?_).mono λ_ _=>?_|refine(ABG _ ?_).mono λ_ _=>?_|refine(AVe _ ?_).mono λ_ _=>?_)
  |dsimp only
 all_goals exact ot
theorem AVg(x:E3×FW)(h:(∀p,Tot (x.2 p) λ_=>True)/\x.1.length<=1048576):Tot (fL x) (λr:List (DX×DX)=>r.length=x.1.length/\(∀q∈r,q∈x.1)):=by
 obtain⟨b,a⟩:=x;try dsimp only at h ⊢
 unfold fL
 repeat' first
  |(with_reducible first|refine DY.2 ?_|refine DZ.2 ?_|refine(AVf _ ?_).mono λ_ _=>?_)
  |dsimp only
 all_goals exact ot
theorem AVh(x:(List E6)×Int×FX×Int×Int×Int)(h:(∀p,Tot (x.2.2.1 p) λ_=>True)/\x.2.2.2.1=20/\0<=x.2.2.2.2.1/\x.2.2.2.2.2=x.2.2.2.2.1+20/\x.2.1=x.1.length/\x.2.1<=1048576/\x.2.2.2.2.1<=x.2.1):Tot (uA x) (λr:(List E6)×Int=>r.1.length=x.1.length/\(∀q∈r.1,q∈x.1)/\0<=r.2/\r.2<=x.2.1):=by
 refine F6 (R:=λr:(List E6)×Int=>r.1.length=x.1.length/\(∀q∈r.1,q∈x.1)/\0<=r.2/\r.2<=x.2.1) (λy:(List E6)×Int×FX×Int×Int×Int=>((∀p,Tot (y.2.2.1 p) λ_=>True)/\y.2.2.2.1=20/\0<=y.2.2.2.2.1/\y.2.2.2.2.2=y.2.2.2.2.1+20/\y.2.1=y.1.length/\y.2.1<=1048576/\y.2.2.2.2.1<=y.2.1)/\y.2.1=x.2.1/\y.2.2.1=x.2.2.1/\y.2.2.2.1=x.2.2.2.1/\y.1.length=x.1.length/\∀q∈y.1,q∈x.1) (λy:(List E6)×Int×FX×Int×Int×Int=>(y.2.1-y.2.2.2.2.1).toNat) ?_ _ _ oc (by unfold fuel;grind);rintro next ⟨d,j,a,b,e,i⟩ h hn
 try dsimp only at h hn
 unfold A4F
 repeat' first
  |(with_reducible first|refine D_.2 ⟨λ_=>?_,λ_=>?_⟩|refine DY.2 ?_|refine DZ.2 ?_|refine(ABN _ ?_).mono λ_ _=>?_|refine hn _ ?_ ?_)
  |dsimp only
 all_goals exact ot
theorem AVi(x:(List E6)×Int×FX×Int×Int×Int)(h:(∀p,Tot (x.2.2.1 p) λ_=>True)/\0<x.2.2.2.1/\x.2.2.2.1<x.2.1/\0<=x.2.2.2.2.1/\x.2.2.2.2.2=x.2.2.2.2.1+2*x.2.2.2.1/\x.2.1=x.1.length/\x.2.1<=1048576/\x.2.2.2.2.1<=x.2.1):Tot (uB x) (λr:(List E6)×Int=>r.1.length=x.1.length/\(∀q∈r.1,q∈x.1)/\0<=r.2/\r.2<=x.2.1):=by
 refine F6 (R:=λr:(List E6)×Int=>r.1.length=x.1.length/\(∀q∈r.1,q∈x.1)/\0<=r.2/\r.2<=x.2.1) (λy:(List E6)×Int×FX×Int×Int×Int=>((∀p,Tot (y.2.2.1 p) λ_=>True)/\0<y.2.2.2.1/\y.2.2.2.1<y.2.1/\0<=y.2.2.2.2.1/\y.2.2.2.2.2=y.2.2.2.2.1+2*y.2.2.2.1/\y.2.1=y.1.length/\y.2.1<=1048576/\y.2.2.2.2.1<=y.2.1)/\y.2.1=x.2.1/\y.2.2.1=x.2.2.1/\y.2.2.2.1=x.2.2.2.1/\y.1.length=x.1.length/\∀q∈y.1,q∈x.1) (λy:(List E6)×Int×FX×Int×Int×Int=>(y.2.1-y.2.2.2.2.1).toNat) ?_ _ _ oc (by unfold fuel;grind);rintro next ⟨d,j,a,b,e,i⟩ h hn
 try dsimp only at h hn
 unfold A4G
 repeat' first
  |(with_reducible first|refine D_.2 ⟨λ_=>?_,λ_=>?_⟩|refine DY.2 ?_|refine DZ.2 ?_|refine(ABO _ ?_).mono λ_ _=>?_|refine hn _ ?_ ?_)
  |dsimp only
 all_goals exact ot
theorem AVj(x:(List E6)×Int×FX×Int)(h:(∀p,Tot (x.2.2.1 p) λ_=>True)/\0<x.2.2.2/\x.2.2.2<=2097152/\x.2.1=x.1.length/\x.2.1<=1048576):Tot (uC x) (λr:List E6=>r.length=x.1.length/\(∀q∈r,q∈x.1)):=by
 refine F6 (R:=λr:List E6=>r.length=x.1.length/\(∀q∈r,q∈x.1)) (λy:(List E6)×Int×FX×Int=>((∀p,Tot (y.2.2.1 p) λ_=>True)/\0<y.2.2.2/\y.2.2.2<=2097152/\y.2.1=y.1.length/\y.2.1<=1048576)/\y.2.1=x.2.1/\y.2.2.1=x.2.2.1/\y.1.length=x.1.length/\∀q∈y.1,q∈x.1) (λy:(List E6)×Int×FX×Int=>(2097153-y.2.2.2).toNat) ?_ _ _ oc (by unfold fuel;grind);rintro next ⟨d,e,a,b⟩ h hn
 try dsimp only at h hn
 unfold A4H
 repeat' first
  |(with_reducible first|refine D_.2 ⟨λ_=>?_,λ_=>?_⟩|refine DY.2 ?_|refine DZ.2 ?_|refine(AVi _ ?_).mono λ_ _=>?_|refine(ABO _ ?_).mono λ_ _=>?_|refine hn _ ?_ ?_)
  |dsimp only
 all_goals exact ot
theorem AVk(x:(List E6)×Int×FX)(h:(∀p,Tot (x.2.2 p) λ_=>True)/\x.2.1=x.1.length/\x.2.1<=1048576):Tot (iU x) (λr:List E6=>r.length=x.1.length/\(∀q∈r,q∈x.1)):=by
 obtain⟨d,b,a⟩:=x;try dsimp only at h ⊢
 unfold iU
 repeat' first
  |(with_reducible first|refine DY.2 ?_|refine DZ.2 ?_|refine(AVh _ ?_).mono λ_ _=>?_|refine(ABN _ ?_).mono λ_ _=>?_|refine(AVj _ ?_).mono λ_ _=>?_)
  |dsimp only
 all_goals exact ot
theorem AVl(x:(List E6)×FX)(h:(∀p,Tot (x.2 p) λ_=>True)/\x.1.length<=1048576):Tot (iV x) (λr:List E6=>r.length=x.1.length/\(∀q∈r,q∈x.1)):=by
 obtain⟨b,a⟩:=x;try dsimp only at h ⊢
 unfold iV
 repeat' first
  |(with_reducible first|refine DY.2 ?_|refine DZ.2 ?_|refine(AVk _ ?_).mono λ_ _=>?_)
  |dsimp only
 all_goals exact ot
theorem AVm(x:DX)(h:True):Tot (UN x) (λr:Bool=>True):=by
 unfold UN
 repeat' first
  |with_reducible refine DZ.2 ?_
  |dsimp only
 all_goals exact ot
theorem ABZ(x:DX×DX)(h:True):Tot (LN x) (λr:Int=>-1<=r/\r<=1):=by
 obtain⟨a,y⟩:=x;try dsimp only at h ⊢
 unfold LN
 repeat' first
  |(with_reducible first|refine D_.2 ⟨λ_=>?_,λ_=>?_⟩|refine DY.2 ?_|refine DZ.2 ?_|refine(AVm _ ?_).mono λ_ _=>?_)
  |dsimp only
 all_goals exact ot
theorem AVn(x:(DX×DX)×(DX×DX))(h:True):Tot (fM x) (λr:Int=>True):=by
 obtain⟨a,b⟩:=x;try dsimp only at h ⊢
 unfold fM
 repeat' first
  |(with_reducible first|refine DY.2 ?_|refine DZ.2 ?_|refine(ABZ _ ?_).mono λ_ _=>?_)
  |dsimp only
 all_goals exact ot
theorem AVo(x:DX×Int×Int)(h:x.1.length<=3000/\x.2.1=0/\x.2.2= -1):Tot (fF x) (λr:H_×F9=>r.1.2.2.2.2.1.length<=1048576):=by
 unfold fF;obtain⟨g1,g2,g3⟩:=h;refine DY.2 ((ATU _ ⟨od,od,od⟩).mono λr1 b=>?_);dsimp only at b;refine D_.2 ⟨λ_=>DZ.2 oe,λ_=>?_⟩;refine DY.2 ((AB5 _ ⟨by rw[b.1];omega,b.2.1,by rw[b.1];exact b.2.2.1⟩).mono λt M=>?_);obtain⟨o,T,D,U,V,E⟩:=M;rw[b.1]at o D;rw[EQ oa oa];refine DY.2 (HL.2 ⟨⟨oa,oa,oa⟩,?_⟩);have hj:(Lib.join ((t.1.take ((t.1.length:Int)-1).toNat).drop (0:Int).toNat) [47]).length<=1048577*(1048576+1):=m8 (λs N=>E s (ER N)) (by rw[EL];omega) oe;refine DY.2 ((VW _ ⟨by dsimp only;rw[EL];omega,od⟩).mono λr4 h4=>?_);refine DY.2 (F0.2 ⟨⟨oa,oa⟩,λy5 O=>?_⟩);refine DY.2 (Tot.mono (P:=λC:Int=>C=0\/t.2.2.1<t.2.1.length) ?_ λC i=>?_)
 .refine D_.2 ⟨λ_=>(VY _ ⟨_,rfl,oa⟩).mono λr z=>?_,λ_=>DZ.2 (Or.inl rfl)⟩;rcases z.2 with h|⟨y,A,h⟩
  .exact Or.inl h
  .cases A;exact Or.inr h
 refine DY.2 ((ATc _ ⟨by dsimp only;rw[o];omega,od,by dsimp only;rw[o];omega,λj=>?_,oe⟩).mono λr8 B=>?_)
 .dsimp only at j ⊢;rcases i with i|i
  .subst i;simp[E0]at j
  .exact i
 dsimp only at B;obtain⟨q,W,G,X,Y,Z,b7,v⟩:=B;rw[o]at q G;refine DY.2 ((ATd _ ⟨by dsimp only;rw[q];omega,od,by dsimp only;rw[q];omega,?_,od,?_⟩).mono λk d=>?_)
 .dsimp only;rw[v];simp;omega
 .dsimp only;rw[v];simp
 dsimp only at d;obtain⟨w,c2,I,c4,c5,c6,c7,J,K,H⟩:=d;rw[q]at w I;refine DY.2 (Tot.mono (P:=λl:Int=>l=0\/k.1.2.1<k.1.1.length) ?_ λl a=>?_)
 .refine D_.2 ⟨λ_=>(VY _ ⟨_,rfl,oa⟩).mono λr z=>?_,λ_=>DZ.2 (Or.inl rfl)⟩;rcases z.2 with h|⟨y,A,h⟩
  .exact Or.inl h
  .cases A;exact Or.inr h
 refine DY.2 ((ATi _ ⟨by dsimp only;rw[w];omega,od,by dsimp only;rw[w];omega,λj=>?_,?_⟩).mono λQ e=>?_)
 .dsimp only at j ⊢;rcases a with a|a
  .subst a;simp[E0]at j
  .exact a
 .dsimp only;rw[J,v];simp
 dsimp only at e;obtain⟨d1,d2,d3,d4,d5,d6,d7,L,d9⟩:=e;refine D_.2 ⟨λ_=>DY.2 ((VX _ trivial).mono λR _=>DZ.2 ?_),λ_=>DZ.2 ?_⟩<;>
 .dsimp only;rw[L];exact K
theorem AVp(x:HT×H_×Int)(h:1<=x.2.2/\x.2.1.2.2.2.2.1.length<=1048576):Tot (fY x) (λr:Sum (HT×H_) (HT×Int×Int)=>(∀y,r=.inl y->y.2.2.2.2.2.1.length<=1048576)/\∀y,r=.inr y->y.2.2≠0):=by
 refine F6 (R:=λr:Sum (HT×H_) (HT×Int×Int)=>(∀y,r=.inl y->y.2.2.2.2.2.1.length<=1048576)/\∀y,r=.inr y->y.2.2≠0)
  (λy:HT×H_×Int=>1<=y.2.2/\y.2.1.2.2.2.2.1.length<=1048576) (λy:HT×H_×Int=>(y.2.1.2.2.2.2.1.length-y.2.2:Int).toNat) ?_ _ _ h (by unfold fuel;omega)
 rintro next ⟨t,p,i⟩ h d
 dsimp only at h d;unfold sG;dsimp only;refine D_.2 ⟨λb=>?_,λ_=>DZ.2 ⟨λy a=>by cases a;exact h.2,λy a=>by cases a⟩⟩;have b:=A5 b;rw[EQ oa oa,EQ oa oa];refine DY.2 (FJ.2 ⟨⟨oa,oa⟩,?_⟩);refine DY.2 (FJ.2 ⟨⟨oa,oa⟩,?_⟩);refine D_.2 ⟨λ_=>DZ.2 ⟨λy a=>(by cases a),λy a=>(by cases a;simp)⟩,λ_=>?_⟩;exact d _ ⟨od,od⟩ od
theorem A0U(x:DX)(h:x.length<=1048576):Tot (MD x) (λr:HT×Int×Int=>r.2.2=0->r.1.2.2.2.2.1.length<=1048576):=by
 unfold MD;refine D_.2 ⟨λ_=>DZ.2 oe,λl=>?_⟩;have l:=AF l;refine DY.2 ((AVo _ ⟨od,rfl,rfl⟩).mono λw j=>?_);refine D_.2 ⟨λ_=>DZ.2 oe,λ_=>?_⟩;refine DY.2 ((AVg _ ⟨λc=>GV (AVn c trivial),j⟩).mono λz o=>?_);refine DY.2 ((AVp _ ⟨od,by dsimp only;rw[o.1];exact j⟩).mono λv k=>?_);rcases v with y|y
 .have s:=k.1 y rfl;refine DY.2 ((S_ _ s).mono λi d=>?_);refine D_.2 ⟨λb=>DZ.2 λa=>?_,λb=>?_⟩
  .dsimp only at a;rw[a,E0]at b;simp at b
  .rw[E0]at b;have a:i=0:=by simpa using b
   have q:=d a;refine DY.2 ((A0B _ q).mono λt e=>DZ.2 λ_=>?_);have:=e.2.2.2.2.2.1;dsimp only;omega
 .exact DZ.2 λa=>absurd a (k.2 y rfl)
theorem AVq(x:DX)(h:x.length<=1048576):Tot (iK x) (λr:Bool=>True):=by
 unfold iK
 repeat' first
  |(with_reducible first|refine D_.2 ⟨λ_=>?_,λ_=>?_⟩|refine DY.2 ?_|refine DZ.2 ?_|refine(A0U _ ?_).mono λ_ _=>?_|refine(A0D _ ?_).mono λ_ _=>?_)
  |dsimp only
 all_goals exact ot
theorem AVr(x:GW×J4×Int×Int)(h:0<=x.2.2.2/\x.2.2.2<=x.2.2.1/\x.2.2.1=x.2.1.length/\x.2.2.1<=281474976710656/\(∀v∈x.2.1,v.2.length<=1048576)/\(∀j:Nat,(j:Int)<x.2.2.2->∀v,x.2.1[j]?=some v->1<=v.1/\v.1<=3)):Tot (tP x) (λr:Sum (Unit) (Int)=>(∀y,r=.inl y->∀v∈x.2.1,1<=v.1/\v.1<=3)/\∀y,r=.inr y->y≠0):=by
 refine F6 (R:=λr:Sum Unit Int=>(∀y,r=.inl y->∀v∈x.2.1,1<=v.1/\v.1<=3)/\∀y,r=.inr y->y≠0)
  (λy:Af×J4×Int×Int=>0<=y.2.2.2/\y.2.2.2<=y.2.2.1/\y.2.2.1=y.2.1.length/\y.2.2.1<=281474976710656/\y.2.1=x.2.1/\(∀v∈y.2.1,v.2.length<=1048576)/\∀j:Nat,(j:Int)<y.2.2.2->∀v,y.2.1[j]?=some v->1<=v.1/\v.1<=3)
  (λy=>(y.2.2.1-y.2.2.2).toNat) ?_ _ _ ⟨h.1,h.2.1,h.2.2.1,h.2.2.2.1,rfl,h.2.2.2.2⟩ (by unfold fuel;have:=h.2.2.2.1;omega)
 rintro next ⟨a,l,n,i⟩ z C
 dsimp only at z C;obtain⟨i0,L,H,I,D,E,G⟩:=z;unfold A42;dsimp only;refine D_.2 ⟨λe=>?_,λe=>DZ.2 ⟨λy _ v o=>?_,λy b=>(by cases b)⟩⟩
 .have e:=A5 e;rw[EQ oa oa];refine DY.2 (F0.2 ⟨⟨i0,oa⟩,λv o=>?_⟩);refine D_.2 ⟨λ_=>DZ.2 ⟨λy b=>(by cases b),λy b=>(by cases b;decide)⟩,λhk=>?_⟩
  have hk:1<=v.1/\v.1<=3:=by
   have:=B0.1 hk;have J:=AF this.1;have K:=AF this.2;omega
  have d:∀j:Nat,(j:Int)<i+1->∀v,l[j]?=some v->1<=v.1/\v.1<=3:=by
   intro j B w t;by_cases q:(j:Int)<i
   .exact G j q w t
   .have:j=i.toNat:=oa
    subst this;rw[o]at t;cases t;exact hk
  have k:Tot (next (a,l,n,i+1)) (λr:Sum Unit Int=>(∀y,r=.inl y->∀v∈x.2.1,1<=v.1/\v.1<=3)/\∀y,r=.inr y->y≠0):=
   C _ ⟨od,od,H,I,D,E,d⟩ od
  refine D_.2 ⟨λ_=>D_.2 ⟨λ_=>DZ.2 ⟨λy b=>(by cases b),λy b=>(by cases b;decide)⟩,λ_=>k⟩,λ_=>?_⟩;refine DY.2 ((mD (a.2.1,v.2) (E v (ML o))).mono λr _=>?_);refine D_.2 ⟨λA=>DZ.2 ⟨λy b=>(by cases b),λy b=>?_⟩,λ_=>k⟩;cases b;rw[E0]at A;simpa using A
 .have e:=AF e;rw[<-D]at o;obtain⟨j,B,s⟩:=List.mem_iff_getElem.1 o;exact G j oa v (by rw[<-s];exact A1 B)
theorem AVs(x:DX×Int×J4×(List DX)×(List DX))(h:OK x):Tot (iM x) (λr:Int=>r=0->x.2.2.1.length<=100/\∀v∈x.2.2.1,1<=v.1/\v.1<=3):=by
 unfold iM;refine D_.2 ⟨λ_=>DZ.2 λa=>absurd a oi,λb=>?_⟩;have b:=AF b;refine DY.2 ((AVr _ ⟨AR _,B6 _,rfl,od,h.2.2.1,λj e=>by dsimp only at e;omega⟩).mono λr d=>?_);rcases r with r|r
 .exact DZ.2 λ_=>⟨oa,d.1 r rfl⟩
 .exact DZ.2 λa=>absurd a (d.2 r rfl)
set_option maxHeartbeats 1000000 in
theorem AVt(x:DX×Bool×Int×Int)(h:0<=x.2.2.2/\x.2.2.2<=x.2.2.1/\x.2.2.1<=281474976710656/\x.2.2.1=x.1.length/\x.2.2.1<=1048576):Tot (tQ x) (λr:Bool=>True):=by
 refine F6 (R:=λr:Bool=>True) (λy:DX×Bool×Int×Int=>(0<=y.2.2.2/\y.2.2.2<=y.2.2.1/\y.2.2.1<=281474976710656/\y.2.2.1=y.1.length/\y.2.2.1<=1048576)) (λy:DX×Bool×Int×Int=>(y.2.2.1-y.2.2.2).toNat) ?_ _ _ oc (by unfold fuel;grind);rintro next ⟨s,b,t,a⟩ h hn
 try dsimp only at h hn
 unfold A43
 repeat' first
  |(with_reducible first|refine D_.2 ⟨λ_=>?_,λ_=>?_⟩|refine DY.2 ?_|refine DZ.2 ?_|refine F0.2 ⟨?_,λ_ _=>?_⟩|refine hn _ ?_ ?_)
  |dsimp only
 all_goals exact ot
theorem AVu(x:(List DX)×(List DX)×Int×Int)(h:0<=x.2.2.2/\x.2.2.2<=x.2.2.1/\x.2.2.1=x.2.1.length/\x.2.2.1<=281474976710656/\x.1=x.2.1/\∀s∈x.2.1,s.length<=1048576):Tot (tR x) (λr:Sum (Unit) (Int)=>∀y,r=.inr y->y≠0):=by
 refine F6 (R:=λr:Sum Unit Int=>∀y,r=.inr y->y≠0)
  (λy:(List DX)×(List DX)×Int×Int=>0<=y.2.2.2/\y.2.2.2<=y.2.2.1/\y.2.2.1=y.2.1.length/\y.2.2.1<=281474976710656/\y.1=y.2.1/\∀v∈y.2.1,v.length<=1048576)
  (λy=>(y.2.2.1-y.2.2.2).toNat) ?_ _ _ h (by unfold fuel;have:=h.2.2.2.1;omega)
 rintro next ⟨a,l,n,i⟩ e j
 dsimp only at e j;obtain⟨i0,B,w,z,A,o⟩:=e;subst A;unfold A44;dsimp only;refine D_.2 ⟨λd=>?_,λd=>DZ.2 λy b=>(by cases b)⟩;have d:=A5 d;rw[EQ (n:=i+1) oa oa,EQ oa oa];refine DY.2 (F0.2 ⟨⟨i0,oa⟩,λv q=>?_⟩);have t:=o v (ML q);refine DY.2 ((AVt _ ⟨AR _,B6 _,od,rfl,od⟩).mono λr _=>?_);refine D_.2 ⟨λ_=>DZ.2 λy b=>(by cases b;decide),λ_=>?_⟩;refine DY.2 (Tot.mono (P:=λ_=>True) (D_.2 ⟨λk=>?_,λ_=>DZ.2 trivial⟩) λC _=>?_)
 .have k:=A5 k;exact F0.2 ⟨⟨oa,oa⟩,λ_ _=>trivial⟩
 .refine D_.2 ⟨λ_=>DZ.2 λy b=>(by cases b;decide),λ_=>?_⟩;exact j _ ⟨od,od,w,z,rfl,o⟩ od
theorem AVv(x:List DX)(h:∀s∈x,s.length<=1048576):Tot (iN x) (λr:Int=>True):=by
 unfold iN
 repeat' first
  |(with_reducible first|refine D_.2 ⟨λ_=>?_,λ_=>?_⟩|refine DY.2 ?_|refine DZ.2 ?_|refine(AVu _ ?_).mono λ_ _=>?_)
  |split
  |dsimp only
 all_goals exact ot
theorem AVw(x:GW×(List DX)×Int×Int)(h:0<=x.2.2.2/\x.2.2.2<=x.2.2.1/\x.2.2.1=x.2.1.length/\x.2.2.1<=281474976710656/\∀s∈x.2.1,s.length<=1048576):Tot (tS x) (λr:Sum GW (Int)=>(∀y,r=.inl y->y=x.1)/\∀y,r=.inr y->y≠0):=by
 refine F6 (R:=λr:Sum GW (Int)=>(∀y,r=.inl y->y=x.1)/\∀y,r=.inr y->y≠0) (λy:GW×(List DX)×Int×Int=>(0<=y.2.2.2/\y.2.2.2<=y.2.2.1/\y.2.2.1=y.2.1.length/\y.2.2.1<=281474976710656/\∀s∈y.2.1,s.length<=1048576)/\y.1=x.1) (λy:GW×(List DX)×Int×Int=>(y.2.2.1-y.2.2.2).toNat) ?_ _ _ oc (by unfold fuel;grind);rintro next ⟨a,t,b,d⟩ h hn
 try dsimp only at h hn
 unfold A45
 repeat' first
  |(with_reducible first|refine D_.2 ⟨λ_=>?_,λ_=>?_⟩|refine DY.2 ?_|refine DZ.2 ?_|refine F0.2 ⟨?_,λ_ _=>?_⟩|refine(mD _ ?_).mono λ_ _=>?_|refine hn _ ?_ ?_)
  |dsimp only
 all_goals exact ot
theorem AVx(x:DX×Int×J4×(List DX)×(List DX))(h:OK x):Tot (iO x) (λr:Int=>r=0->AfK x):=by
 unfold iO;refine DY.2 ((AVq _ h.1).mono λo _=>?_);refine D_.2 ⟨λ_=>DZ.2 λa=>absurd a oi,λ_=>?_⟩;refine D_.2 ⟨λ_=>DZ.2 λa=>absurd a oi,λ_=>?_⟩;refine DY.2 ((AVs _ h).mono λk e=>?_);refine D_.2 ⟨λd=>DZ.2 λa=>?_,λd=>?_⟩
 .rw[E0,a]at d;simp at d
 have b:k=0:=by rw[E0]at d;simpa using d
 refine D_.2 ⟨λ_=>DZ.2 λa=>absurd a oi,λj=>?_⟩;have j:=AF j;refine DY.2 ((AVw _ ⟨AR _,B6 _,rfl,od,h.2.2.2.2.1⟩).mono λl i=>?_);rcases l with y|y
 .have:=i.1 y rfl;subst this;exact DY.2 ((AVv _ h.2.2.2.2.2.2).mono λq _=>DZ.2 λ_=>⟨(e b).1,(e b).2,oa⟩)
 .exact DZ.2 λa=>absurd a (i.2 y rfl)
theorem AVy(x:Unit)(h:True):Tot (iP x) (λr:List Int=>r.length=4):=by
 unfold iP
 repeat' first
  |with_reducible refine DZ.2 ?_
  |dsimp only
 all_goals exact ot
theorem AVz(x:(Int->Option DX)×(List Int)×(List Int)×Int×Int)(h:0<=x.2.2.2.2/\x.2.2.2.2<=x.2.2.2.1/\x.2.2.2.1=x.2.2.1.length/\x.2.2.2.1<=281474976710656/\(∀n∈x.2.2.1,Tot (x.1 n) λs=>s.length<=100)/\x.2.2.2.1<=1002/\x.2.1.length<=100*x.2.2.2.2):Tot (s_ x) (λr:List Int=>r.length<=100200):=by
 refine F6 (R:=λr:List Int=>r.length<=100200) (λy:(Int->Option DX)×(List Int)×(List Int)×Int×Int=>0<=y.2.2.2.2/\y.2.2.2.2<=y.2.2.2.1/\y.2.2.2.1=y.2.2.1.length/\y.2.2.2.1<=281474976710656/\(∀n∈y.2.2.1,Tot (y.1 n) λs=>s.length<=100)/\y.2.2.2.1<=1002/\y.2.1.length<=100*y.2.2.2.2)
  (λy=>(y.2.2.2.1-y.2.2.2.2).toNat) ?_ _ _ h (by unfold fuel;have:=h.2.2.2.1;omega)
 rintro next ⟨f,b,l,n,i⟩ d e
 dsimp only at d e;obtain⟨i0,A,q,t,j,w,B⟩:=d;unfold A3t;dsimp only;refine D_.2 ⟨λa=>?_,λa=>DZ.2 oa⟩;have a:=A5 a;rw[EQ oa oa];refine DY.2 (F0.2 ⟨⟨i0,oa⟩,λv o=>?_⟩);refine DY.2 ((j v (ML o)).mono λs z=>?_);refine DY.2 ((a_ _ ⟨od,od⟩).mono λC k=>?_);dsimp only at k;exact e _ ⟨od,od,q,t,j,w,od⟩ od
theorem AB_(x:(List Int)×DX×(Int->Option DX))(h:(∀n∈x.1,Tot (x.2.2 n) λs=>s.length<=100)/\x.1.length<=1002/\x.2.1.length<=10):Tot (Y_ x) (λr:DX=>r.length<=100210):=by
 obtain⟨l,e,f⟩:=x;dsimp only at h ⊢;unfold Y_;obtain⟨a,b,d⟩:=h;dsimp only;refine DY.2 ((AVz _ ⟨AR _,B6 _,rfl,od,a,od,oe⟩).mono λr i=>?_);refine DY.2 ((SZ _ trivial).mono λs j=>?_);exact DY.2 (GA.2 ⟨oa,DZ.2 (by rw[AE];omega)⟩)
theorem AW0(x:(DX->Option DX)×(List Int)×(List DX)×Int×Int)(h:0<=x.2.2.2.2/\x.2.2.2.2<=x.2.2.2.1/\x.2.2.2.1=x.2.2.1.length/\x.2.2.2.1<=281474976710656/\(∀n∈x.2.2.1,Tot (x.1 n) λs=>s.length<=3000)/\x.2.2.2.1<=1002/\x.2.1.length<=3000*x.2.2.2.2):Tot (tA x) (λr:List Int=>r.length<=3006000):=by
 refine F6 (R:=λr:List Int=>r.length<=3006000) (λy:(DX->Option DX)×(List Int)×(List DX)×Int×Int=>0<=y.2.2.2.2/\y.2.2.2.2<=y.2.2.2.1/\y.2.2.2.1=y.2.2.1.length/\y.2.2.2.1<=281474976710656/\(∀n∈y.2.2.1,Tot (y.1 n) λs=>s.length<=3000)/\y.2.2.2.1<=1002/\y.2.1.length<=3000*y.2.2.2.2)
  (λy=>(y.2.2.2.1-y.2.2.2.2).toNat) ?_ _ _ h (by unfold fuel;have:=h.2.2.2.1;omega)
 rintro next ⟨f,b,l,n,i⟩ d e
 dsimp only at d e;obtain⟨i0,A,q,t,j,w,B⟩:=d;unfold A3u;dsimp only;refine D_.2 ⟨λa=>?_,λa=>DZ.2 oa⟩;have a:=A5 a;rw[EQ oa oa];refine DY.2 (F0.2 ⟨⟨i0,oa⟩,λv o=>?_⟩);refine DY.2 ((j v (ML o)).mono λs z=>?_);refine DY.2 ((a_ _ ⟨od,od⟩).mono λC k=>?_);dsimp only at k;exact e _ ⟨od,od,q,t,j,w,od⟩ od
theorem ABa(x:(List DX)×DX×(DX->Option DX))(h:(∀n∈x.1,Tot (x.2.2 n) λs=>s.length<=3000)/\x.1.length<=1002/\x.2.1.length<=10):Tot (Z0 x) (λr:DX=>r.length<=3006010):=by
 obtain⟨l,e,f⟩:=x;dsimp only at h ⊢;unfold Z0;obtain⟨a,b,d⟩:=h;dsimp only;refine DY.2 ((AW0 _ ⟨AR _,B6 _,rfl,od,a,od,oe⟩).mono λr i=>?_);refine DY.2 ((SZ _ trivial).mono λs j=>?_);exact DY.2 (GA.2 ⟨oa,DZ.2 (by rw[AE];omega)⟩)
theorem AW1(x:DX)(h:x.length<=1000):Tot (gY x) (λr:DX=>r.length<=3000):=by
 unfold gY
 repeat' first
  |(with_reducible first|refine D_.2 ⟨λ_=>?_,λ_=>?_⟩|refine DY.2 ?_|refine DZ.2 ?_|refine F0.2 ⟨?_,λ_ _=>?_⟩|refine GA.2 ⟨?_,?_⟩|refine(L7 _ ?_).mono λ_ _=>?_|refine(KT _ ?_).mono λ_ _=>?_)
  |dsimp only
 all_goals exact ot
theorem mE(x:(List Int)×(List DX))(h:m7 x):Tot (NC x) (λr:DX=>r.length<=10000000):=by
 unfold NC;obtain⟨o,b,d,e⟩:=h;refine DY.2 (HL.2 ⟨⟨oa,oa,oa⟩,?_⟩);refine DY.2 ((AB_ _ ⟨λn i=>DY.2 ((KT n (b n (ER i))).mono λr a=>DZ.2 oa),by dsimp only;rw[EL];omega,oe⟩).mono λq j=>?_);refine D_.2 ⟨λ_=>DY.2 (GA.2 ⟨om,DZ.2 om⟩),λ_=>?_⟩;refine DY.2 (GA.2 ⟨om,?_⟩);refine DY.2 ((ABa _ ⟨λs l=>DY.2 ((AW1 s (e s l)).mono λr a=>DZ.2 a),d,oe⟩).mono λt k=>?_);exact DY.2 (GA.2 ⟨om,DZ.2 om⟩)
theorem mF(x:Int×DX×DX×Bool)(h:bA x):Tot (ND x) (λr:DX=>r.length<=10000000):=by
 unfold ND
 repeat' first
  |(with_reducible first|refine DY.2 ?_|refine DZ.2 ?_|refine F0.2 ⟨?_,λ_ _=>?_⟩|refine GA.2 ⟨?_,?_⟩|refine(KT _ ?_).mono λ_ _=>?_|refine(A0P _ ?_).mono λ_ _=>?_|refine(ABX _ ?_).mono λ_ _=>?_)
  |dsimp only
 all_goals exact ot
theorem AW2(x:Int)(h:0<=x/\x<=999999999999999999):Tot (gZ x) (λr:DX=>r.length<=100):=by
 unfold gZ
 repeat' first
  |(with_reducible first|refine DY.2 ?_|refine DZ.2 ?_|refine F0.2 ⟨?_,λ_ _=>?_⟩|refine GA.2 ⟨?_,?_⟩|refine(KT _ ?_).mono λ_ _=>?_)
  |dsimp only
 all_goals exact ot
theorem AW3(x:Int×(List Int)×Int×Int×Int×Int×(List DX))(h:0<=x.2.2.1/\x.2.2.1<=3):Tot (g_ x) (λr:Int=>0<=r/\r<=4):=by
 unfold g_
 repeat' first
  |(with_reducible first|refine D_.2 ⟨λ_=>?_,λ_=>?_⟩|refine DZ.2 ?_)
  |dsimp only
 all_goals exact ot
theorem AW4(x:Int)(h:x<=999999999999999999):Tot (hJ x) (λr:DX=>r.length<=30):=by
 unfold hJ
 repeat' first
  |(with_reducible first|refine D_.2 ⟨λ_=>?_,λ_=>?_⟩|refine DY.2 ?_|refine DZ.2 ?_|refine F0.2 ⟨?_,λ_ _=>?_⟩|refine GA.2 ⟨?_,?_⟩|refine(KT _ ?_).mono λ_ _=>?_)
  |dsimp only
 all_goals exact ot
theorem AW5(x:DX)(h:x.length<=1000):Tot (hP x) (λr:DX=>r.length<=3000):=by
 unfold hP
 repeat' first
  |(with_reducible first|refine D_.2 ⟨λ_=>?_,λ_=>?_⟩|refine DY.2 ?_|refine DZ.2 ?_|refine F0.2 ⟨?_,λ_ _=>?_⟩|refine GA.2 ⟨?_,?_⟩|refine(L7 _ ?_).mono λ_ _=>?_|refine(KT _ ?_).mono λ_ _=>?_)
  |dsimp only
 all_goals exact ot
theorem AW6(x:G7×DX×Bool)(h:(x.2.2=true->0<=x.1.2.2.2.2.2.1/\x.1.2.2.2.2.2.1<=999999999999999999)/\x.2.1.length<=10000000):Tot (hU x) (λr:G7×DX=>r.1=x.1/\r.2.length<=x.2.1.length+30):=by
 obtain⟨v,s,t⟩:=x;try dsimp only at h ⊢
 unfold hU
 repeat' first
  |(with_reducible first|refine D_.2 ⟨λ_=>?_,λ_=>?_⟩|refine DY.2 ?_|refine DZ.2 ?_|refine F0.2 ⟨?_,λ_ _=>?_⟩|refine GA.2 ⟨?_,?_⟩|refine(KT _ ?_).mono λ_ _=>?_)
  |dsimp only
 all_goals exact ot
theorem mG(x:Int×(List Int)×Int×Int×Int×Int×(List DX))(h:OJ x):Tot (NE x) (λr:DX=>r.length<=10000000):=by
 unfold NE;obtain⟨k,l,o,q,t,v,e⟩:=h;refine DY.2 ((KT _ k).mono λI B=>?_);refine DY.2 ((ABY _ l).mono λJ d=>?_);refine DY.2 ((AB_ _ ⟨λn y=>DY.2 ((AW2 n (d.2 n y)).mono λr b=>DZ.2 b),d.1,oe⟩).mono λK C=>?_);refine DY.2 (GA.2 ⟨oa,?_⟩);refine DY.2 ((AW3 _ o).mono λL D=>?_);refine DY.2 ((JW _ trivial).mono λM E=>?_);refine DY.2 ((KT _ q).mono λN G=>?_);refine DY.2 (GA.2 ⟨oa,?_⟩);refine DY.2 ((AW4 _ t.2).mono λO H=>?_);refine DY.2 (GA.2 ⟨by rw[AE];omega,?_⟩);refine DY.2 (GA.2 ⟨by simp only[AE];omega,?_⟩);refine DY.2 ((AW6 _ ⟨λw=>⟨A5 w,v.2⟩,by simp only[AE];omega⟩).mono λz a=>?_);simp only[AE]at a;refine D_.2 ⟨λ_=>DY.2 (GA.2 ⟨om,DZ.2 om⟩),λ_=>?_⟩;refine DY.2 (GA.2 ⟨om,?_⟩);refine DY.2 ((ABa _ ⟨λs i=>DY.2 ((AW5 s (e.2 s (by rw[a.1]at i;exact i))).mono λr b=>DZ.2 b),by dsimp only;rw[a.1];exact e.1,oe⟩).mono λA j=>?_);exact DY.2 (GA.2 ⟨om,DZ.2 om⟩)
theorem ABb(x:Unit)(h:True):Tot (ZA x) (λr:List DX=>r.length=5):=by
 unfold ZA
 repeat' first
  |with_reducible refine DZ.2 ?_
  |dsimp only
 all_goals exact ot
theorem AW7(x:(List DX)×DX×Int×Int)(h:0<=x.2.2.2/\x.2.2.2<=x.2.2.1/\x.2.2.1=x.1.length/\x.2.2.1<=281474976710656):Tot (hZ x) (λr:Sum (Unit) (Int)=>∀y,r=.inr y->0<=y/\y<x.1.length):=by
 refine F6 (R:=λr:Sum (Unit) (Int)=>∀y,r=.inr y->0<=y/\y<x.1.length) (λy:(List DX)×DX×Int×Int=>(0<=y.2.2.2/\y.2.2.2<=y.2.2.1/\y.2.2.1=y.1.length/\y.2.2.1<=281474976710656)/\y.1=x.1) (λy:(List DX)×DX×Int×Int=>(y.2.2.1-y.2.2.2).toNat) ?_ _ _ oc (by unfold fuel;grind);rintro next ⟨s,v,t,a⟩ h hn
 try dsimp only at h hn
 unfold hY
 repeat' first
  |(with_reducible first|refine D_.2 ⟨λ_=>?_,λ_=>?_⟩|refine DY.2 ?_|refine DZ.2 ?_|refine F0.2 ⟨?_,λ_ _=>?_⟩|refine hn _ ?_ ?_)
  |dsimp only
 all_goals exact ot
theorem ABc(x:(List DX)×DX)(h:x.1.length<=1048576):Tot (P4 x) (λr:Int=>-1<=r/\r<x.1.length):=by
 obtain⟨s,v⟩:=x;try dsimp only at h ⊢
 unfold P4
 repeat' first
  |(with_reducible first|refine DY.2 ?_|refine DZ.2 ?_|refine(AW7 _ ?_).mono λ_ _=>?_)
  |split
  |dsimp only
 all_goals exact ot
theorem AW8(x:(List DX)×DX)(h:x.1.length<=1048576):Tot (SD x) (λr:Bool=>True):=by
 obtain⟨s,v⟩:=x;try dsimp only at h ⊢
 unfold SD
 repeat' first
  |(with_reducible first|refine DY.2 ?_|refine DZ.2 ?_|refine(ABc _ ?_).mono λ_ _=>?_)
  |dsimp only
 all_goals exact ot
theorem A0V(x:Bool×DX×Int)(h:True):Tot (V6 x) (λr:Bool=>True):=by
 unfold V6
 repeat' first
  |(with_reducible first|refine D_.2 ⟨λ_=>?_,λ_=>?_⟩|refine DY.2 ?_|refine DZ.2 ?_|refine(ABb _ ?_).mono λ_ _=>?_|refine(AW8 _ ?_).mono λ_ _=>?_)
  |dsimp only
 all_goals exact ot
theorem AW9(x:Bool×DX×Int)(h:x.2.1.length<=5000/\0<=x.2.2/\x.2.2<=999999999999999999):Tot (ZB x) (λr:DX=>r.length<=6000):=by
 unfold ZB
 repeat' first
  |(with_reducible first|refine D_.2 ⟨λ_=>?_,λ_=>?_⟩|refine DY.2 ?_|refine DZ.2 ?_|refine F0.2 ⟨?_,λ_ _=>?_⟩|refine GA.2 ⟨?_,?_⟩|refine(KT _ ?_).mono λ_ _=>?_|refine(A0V _ ?_).mono λ_ _=>?_|refine(ABb _ ?_).mono λ_ _=>?_|refine(ABc _ ?_).mono λ_ _=>?_|refine(JW _ ?_).mono λ_ _=>?_)
  |dsimp only
 all_goals exact ot
theorem AWA(x:DX×Int×H4×Int×Int)(h:0<=x.2.2.2.2/\x.2.2.2.2<=x.2.2.2.1/\x.2.2.2.1=x.2.2.1.length/\x.2.2.2.1<=281474976710656/\x.1.length<=7000*x.2.2.2.2/\0<=x.2.1/\x.2.1<=x.2.2.2.2/\x.2.2.2.1<=1002/\(∀t∈x.2.2.1,t.2.1.length<=5000/\0<=t.2.2/\t.2.2<=999999999999999999)):Tot (tB x) (λr:DX=>r.length<=7014000):=by
 refine F6 (R:=λr:DX=>r.length<=7014000) (λy:DX×Int×H4×Int×Int=>(0<=y.2.2.2.2/\y.2.2.2.2<=y.2.2.2.1/\y.2.2.2.1=y.2.2.1.length/\y.2.2.2.1<=281474976710656/\y.1.length<=7000*y.2.2.2.2/\0<=y.2.1/\y.2.1<=y.2.2.2.2/\y.2.2.2.1<=1002/\(∀t∈y.2.2.1,t.2.1.length<=5000/\0<=t.2.2/\t.2.2<=999999999999999999))) (λy:DX×Int×H4×Int×Int=>(y.2.2.2.1-y.2.2.2.2).toNat) ?_ _ _ oc (by unfold fuel;grind);rintro next ⟨s,b,d,e,a⟩ h hn
 try dsimp only at h hn
 unfold A3v
 repeat' first
  |(with_reducible first|refine D_.2 ⟨λ_=>?_,λ_=>?_⟩|refine DY.2 ?_|refine DZ.2 ?_|refine F0.2 ⟨?_,λ_ _=>?_⟩|refine GA.2 ⟨?_,?_⟩|refine(mC _ ?_).mono λ_ _=>?_|refine(A0V _ ?_).mono λ_ _=>?_|refine(JW _ ?_).mono λ_ _=>?_|refine(AW9 _ ?_).mono λ_ _=>?_|refine hn _ ?_ ?_)
  |dsimp only
 all_goals exact ot
theorem mH(x:List L1)(h:TS x):Tot (NF x) (λr:DX=>r.length<=10000000):=by
 unfold NF
 repeat' first
  |(with_reducible first|refine DY.2 ?_|refine DZ.2 ?_|refine F0.2 ⟨?_,λ_ _=>?_⟩|refine GA.2 ⟨?_,?_⟩|refine(AWA _ ?_).mono λ_ _=>?_)
  |dsimp only
 all_goals exact ot
theorem mI(x:Int)(h:0<=x/\x<=999999999999999999):Tot (NG x) (λr:DX=>r.length<=10000000):=by
 unfold NG
 repeat' first
  |(with_reducible first|refine DY.2 ?_|refine DZ.2 ?_|refine(KT _ ?_).mono λ_ _=>?_)
  |dsimp only
 all_goals exact ot
theorem AWB(x:Int×DX)(h:x.2.length<=1048576):Tot (VA x) (λr:DX×Int=>r.1.length<=10000000):=by
 unfold VA;refine DY.2 ((NO _ h).mono λd i=>?_);refine D_.2 ⟨λ_=>DZ.2 oe,λb=>?_⟩;have e:d.2=0:=by rw[E0]at b;simpa using b
 have a:=i e;revert a;generalize d.1=v;intro a;refine DY.2 (Tot.mono (P:=λr:DX=>r.length<=10000000) ?_ λk j=>DZ.2 j)
 .rcases v with x|x|x|x|x|x
  .exact DY.2 ((mE _ a).mono λ_ h=>DZ.2 oa)
  .exact DY.2 ((mF _ a).mono λ_ h=>DZ.2 oa)
  .exact DY.2 ((mG _ a).mono λ_ h=>DZ.2 oa)
  .exact DY.2 ((mH _ a).mono λ_ h=>DZ.2 oa)
  .exact DY.2 ((mI _ a).mono λ_ h=>DZ.2 oa)
  .exact a.elim
theorem AWC(x:Int×(List Int)×Int×Int)(h:0<=x.2.2.2/\x.2.2.2<=x.2.2.1/\x.2.2.1=x.2.1.length/\x.2.2.1<=281474976710656):Tot (ZJ x) (λr:Sum (Unit) (Int)=>True):=by
 refine F6 (R:=λr:Sum (Unit) (Int)=>True) (λy:Int×(List Int)×Int×Int=>(0<=y.2.2.2/\y.2.2.2<=y.2.2.1/\y.2.2.1=y.2.1.length/\y.2.2.1<=281474976710656)) (λy:Int×(List Int)×Int×Int=>(y.2.2.1-y.2.2.2).toNat) ?_ _ _ oc (by unfold fuel;grind);rintro next ⟨z,t,a,b⟩ h hn
 try dsimp only at h hn
 unfold VC
 repeat' first
  |(with_reducible first|refine D_.2 ⟨λ_=>?_,λ_=>?_⟩|refine DY.2 ?_|refine DZ.2 ?_|refine F0.2 ⟨?_,λ_ _=>?_⟩|refine hn _ ?_ ?_)
  |dsimp only
 all_goals exact ot
theorem AWD(x:List Int)(h:x.length<=1048576):Tot (NH x) (λr:Int=>True):=by
 unfold NH
 repeat' first
  |(with_reducible first|refine DY.2 ?_|refine DZ.2 ?_|refine(AWC _ ?_).mono λ_ _=>?_)
  |split
  |dsimp only
 all_goals exact ot
theorem AWE(x:E6×E6)(h:True):Tot (iW x) (λr:Int=>True):=by
 obtain⟨a,y⟩:=x;try dsimp only at h ⊢
 unfold iW
 repeat' first
  |(with_reducible first|refine DY.2 ?_|refine DZ.2 ?_|refine(ABZ _ ?_).mono λ_ _=>?_|refine(AUt _ ?_).mono λ_ _=>?_|refine(AWD _ ?_).mono λ_ _=>?_)
  |dsimp only
 all_goals exact ot
theorem AWF(x:GW×(List E6)×J4×Int×Int)(h:0<=x.2.2.2.2/\x.2.2.2.2<=x.2.2.2.1/\x.2.2.2.1=x.2.2.1.length/\x.2.2.2.1<=281474976710656/\x.2.1.length<=x.2.2.2.2/\(∀m∈x.2.1,m.2.2.1.length<=100)/\(∀v∈x.2.2.1,v.2.length<=1048576/\1<=v.1/\v.1<=3)/\x.2.2.2.1<=100):Tot (uD x) (λr:List E6=>r.length<=100/\∀m∈r,m.2.2.1.length<=100):=by
 refine F6 (R:=λr:List E6=>r.length<=100/\∀m∈r,m.2.2.1.length<=100) (λy:GW×(List E6)×J4×Int×Int=>(0<=y.2.2.2.2/\y.2.2.2.2<=y.2.2.2.1/\y.2.2.2.1=y.2.2.1.length/\y.2.2.2.1<=281474976710656/\y.2.1.length<=y.2.2.2.2/\(∀m∈y.2.1,m.2.2.1.length<=100)/\(∀v∈y.2.2.1,v.2.length<=1048576/\1<=v.1/\v.1<=3)/\y.2.2.2.1<=100)) (λy:GW×(List E6)×J4×Int×Int=>(y.2.2.2.1-y.2.2.2.2).toNat) ?_ _ _ oc (by unfold fuel;grind);rintro next ⟨a,o,b,d,t⟩ h hn
 try dsimp only at h hn
 unfold A4I
 repeat' first
  |(with_reducible first|refine D_.2 ⟨λ_=>?_,λ_=>?_⟩|refine DY.2 ?_|refine DZ.2 ?_|refine F0.2 ⟨?_,λ_ _=>?_⟩|refine FT.2 ⟨?_,?_⟩|refine(AVy _ ?_).mono λ_ _=>?_|refine(AWB _ ?_).mono λ_ _=>?_|refine(mD _ ?_).mono λ_ _=>?_|refine hn _ ?_ ?_)
  |dsimp only
 all_goals exact ot
theorem AWG(x:DX×Int×J4×(List DX)×(List DX))(h:OK x/\AfK x):Tot (iX x) (λr:List E6=>r.length<=100/\∀m∈r,m.2.2.1.length<=100):=by
 unfold iX;obtain⟨d,k,e,l⟩:=h;refine DY.2 ((AWF _ ⟨AR _,B6 _,rfl,od,oe,oe,λv b=>⟨d.2.2.1 v b,e v b⟩,od⟩).mono λr j=>?_);refine DY.2 ((AVl _ ⟨λc=>GV (AWE c trivial),od⟩).mono λo a=>DZ.2 ?_);dsimp only at a;exact⟨oa,λm i=>j.2 m (a.2 m i)⟩
theorem AWH(x:FQ×Bool×GM×(List E6)×Int×Int)(h:0<=x.2.2.2.2.2/\x.2.2.2.2.2<=x.2.2.2.2.1/\x.2.2.2.2.1=x.2.2.2.1.length/\x.2.2.2.2.1<=281474976710656/\x.1.length<=x.2.2.2.2.2/\(∀s∈x.1,GX s)/\x.2.2.1.2.2.length<=100/\x.2.2.2.2.1<=100/\∀m∈x.2.2.2.1,m.2.2.1.length<=100):Tot (uE x) (λr:FQ×Bool×GM=>r.1.length<=100/\(∀s∈r.1,GX s)/\r.2.2.2.2.length<=100):=by
 refine F6 (R:=λr:FQ×Bool×GM=>r.1.length<=100/\(∀s∈r.1,GX s)/\r.2.2.2.2.length<=100) (λy:FQ×Bool×GM×(List E6)×Int×Int=>(0<=y.2.2.2.2.2/\y.2.2.2.2.2<=y.2.2.2.2.1/\y.2.2.2.2.1=y.2.2.2.1.length/\y.2.2.2.2.1<=281474976710656/\y.1.length<=y.2.2.2.2.2/\(∀s∈y.1,GX s)/\y.2.2.1.2.2.length<=100/\y.2.2.2.2.1<=100/\∀m∈y.2.2.2.1,m.2.2.1.length<=100)) (λy:FQ×Bool×GM×(List E6)×Int×Int=>(y.2.2.2.2.1-y.2.2.2.2.2).toNat) ?_ _ _ oc (by unfold fuel;grind);rintro next ⟨o,a,l,t,b,d⟩ h hn
 try dsimp only at h hn
 unfold A4J
 repeat' first
  |(with_reducible first|refine D_.2 ⟨λ_=>?_,λ_=>?_⟩|refine DY.2 ?_|refine DZ.2 ?_|refine F0.2 ⟨?_,λ_ _=>?_⟩|refine FT.2 ⟨?_,?_⟩|refine hn _ ?_ ?_)
  |dsimp only
 all_goals exact ot
theorem AWI(x:FQ×GM×Bool)(h:x.1.length<=100/\(∀s∈x.1,GX s)/\x.2.1.2.2.length<=100):Tot (iY x) (λr:List (GM×GM)=>r.length<=101/\(∀s∈r,GX s)):=by
 obtain⟨o,l,t⟩:=x;try dsimp only at h ⊢
 unfold iY
 repeat' first
  |(with_reducible first|refine D_.2 ⟨λ_=>?_,λ_=>?_⟩|refine DY.2 ?_|refine DZ.2 ?_|refine FT.2 ⟨?_,?_⟩)
  |dsimp only
 all_goals exact ot
theorem AWJ(x:GW×FQ×(List DX)×Int×Int)(h:0<=x.2.2.2.2/\x.2.2.2.2<=x.2.2.2.1/\x.2.2.2.1=x.2.2.1.length/\x.2.2.2.1<=281474976710656/\x.2.1.length<=101+x.2.2.2.2/\(∀s∈x.2.1,GX s)/\x.2.2.2.1<=500/\∀m∈x.2.2.1,m.length<=1048576):Tot (uF x) (λr:List (GM×GM)=>r.length<=601/\(∀s∈r,GX s)):=by
 refine F6 (R:=λr:List (GM×GM)=>r.length<=601/\(∀s∈r,GX s)) (λy:GW×FQ×(List DX)×Int×Int=>(0<=y.2.2.2.2/\y.2.2.2.2<=y.2.2.2.1/\y.2.2.2.1=y.2.2.1.length/\y.2.2.2.1<=281474976710656/\y.2.1.length<=101+y.2.2.2.2/\(∀s∈y.2.1,GX s)/\y.2.2.2.1<=500/\∀m∈y.2.2.1,m.length<=1048576)) (λy:GW×FQ×(List DX)×Int×Int=>(y.2.2.2.1-y.2.2.2.2).toNat) ?_ _ _ oc (by unfold fuel;grind);rintro next ⟨a,o,t,b,d⟩ h hn
 try dsimp only at h hn
 unfold A4K
 repeat' first
  |(with_reducible first|refine D_.2 ⟨λ_=>?_,λ_=>?_⟩|refine DY.2 ?_|refine DZ.2 ?_|refine F0.2 ⟨?_,λ_ _=>?_⟩|refine FT.2 ⟨?_,?_⟩|refine(mD _ ?_).mono λ_ _=>?_|refine hn _ ?_ ?_)
  |dsimp only
 all_goals exact ot
theorem AWK(x:DX×Int×J4×(List DX)×(List DX))(h:OK x/\AfK x):Tot (iZ x) (λr:List (GM×GM)=>r.length<=601/\(∀s∈r,GX s)):=by
 unfold iZ;refine DY.2 ((AWG _ h).mono λr i=>?_);obtain⟨b,k,l,o⟩:=h;refine DY.2 ((AWH _ ⟨AR _,B6 _,rfl,od,oe,oe,oe,od,i.2⟩).mono λq d=>?_);refine DY.2 ((AWI _ d).mono λt e=>?_);exact DY.2 ((AWJ _ ⟨AR _,B6 _,rfl,od,od,e.2,od,b.2.2.2.2.1⟩).mono λj a=>DZ.2 a)
theorem AWL(x:Int×GM)(h:x.2.2.2.length<=1048576):Tot (QI x) (λr:DX×Int=>True):=by
 unfold QI;refine D_.2 ⟨λ_=>D_.2 ⟨λ_=>DZ.2 trivial,λ_=>DZ.2 trivial⟩,λ_=>?_⟩;refine DY.2 ((NO _ h).mono λd i=>?_);refine D_.2 ⟨λ_=>DZ.2 trivial,λb=>?_⟩;have e:d.2=0:=by rw[E0]at b;simpa using b
 have a:=i e;revert a;generalize d.1=v;intro a;refine DY.2 (Tot.mono (P:=λr:DX=>r.length<=10000000) ?_ λk j=>?_)
 .rcases v with x|x|x|x|x|x
  .exact DY.2 ((A0O _ a).mono λ_ h=>DZ.2 oa)
  .exact DY.2 ((A0Q _ a).mono λ_ h=>DZ.2 oa)
  .exact DY.2 ((A0R _ a).mono λ_ h=>DZ.2 oa)
  .exact DY.2 ((A0S _ a).mono λ_ h=>DZ.2 oa)
  .exact DY.2 ((A0T _ trivial).mono λ_ h=>DZ.2 oa)
  .exact a.elim
 refine D_.2 ⟨λ_=>DZ.2 trivial,λ_=>?_⟩;refine DY.2 (Tot.mono (P:=λr:DX=>r.length<=10000000) ?_ λk j=>DZ.2 trivial)
 .rcases v with x|x|x|x|x|x
  .exact DY.2 ((mE _ a).mono λ_ h=>DZ.2 oa)
  .exact DY.2 ((mF _ a).mono λ_ h=>DZ.2 oa)
  .exact DY.2 ((mG _ a).mono λ_ h=>DZ.2 oa)
  .exact DY.2 ((mH _ a).mono λ_ h=>DZ.2 oa)
  .exact DY.2 ((mI _ a).mono λ_ h=>DZ.2 oa)
  .exact a.elim
theorem ABd(x:GM×DX)(h:x.1.2.2.length<=100):Tot (ZC x) (λr:Int×DX×Bool×DX=>r.2.2.2.length<=100):=by
 obtain⟨b,k⟩:=x;try dsimp only at h ⊢
 unfold ZC
 repeat' first
  |(with_reducible first|refine D_.2 ⟨λ_=>?_,λ_=>?_⟩|refine DZ.2 ?_)
  |dsimp only
 all_goals exact ot
theorem ABe(x:GM×DX)(h:x.1.2.2.length<=100):Tot (ZD x) (λr:Int×DX×Bool×DX=>r.2.2.2.length<=100):=by
 obtain⟨b,k⟩:=x;try dsimp only at h ⊢
 unfold ZD
 repeat' first
  |(with_reducible first|refine D_.2 ⟨λ_=>?_,λ_=>?_⟩|refine DZ.2 ?_)
  |dsimp only
 all_goals exact ot
theorem AWM(x:FS×Int×Bool)(h:x.1.1.2.2.2.length<=100/\x.2.1=0):Tot (i_ x) (λr:FS×Int=>r.1=x.1/\0<=r.2/\r.2<=1000000000000000000):=by
 obtain⟨s,a,t⟩:=x;try dsimp only at h ⊢
 unfold i_
 repeat' first
  |(with_reducible first|refine D_.2 ⟨λ_=>?_,λ_=>?_⟩|refine DY.2 ?_|refine DZ.2 ?_|refine(L7 _ ?_).mono λ_ _=>?_)
  |dsimp only
 all_goals exact ot
set_option maxHeartbeats 1000000 in
theorem AWN(x:L2×L2)(h:x.1.2.2.2.length<=100/\x.2.2.2.2.length<=100):Tot (j0 x) (λr:Int×Int×Bool=>0<=r.1/\r.2.1<=999999999999999999/\(r.2.2=true->r.1<=r.2.1)):=by
 unfold j0
 repeat' first
  |(with_reducible first|refine D_.2 ⟨λ_=>?_,λ_=>?_⟩|refine DY.2 ?_|refine DZ.2 ?_|refine(AWM _ ?_).mono λ_ _=>?_|refine(L7 _ ?_).mono λ_ _=>?_)
  |dsimp only
 all_goals exact ot
theorem AWO(x:Int×L2×Bool)(h:0<=x.1/\x.1<=999999999999999999/\x.2.1.2.2.2.length<=100):Tot (j5 x) (λr:Int×DX×Bool×DX=>r.2.2.2.length<=100):=by
 obtain⟨l,a,t⟩:=x;try dsimp only at h ⊢
 unfold j5
 repeat' first
  |(with_reducible first|refine D_.2 ⟨λ_=>?_,λ_=>?_⟩|refine DY.2 ?_|refine DZ.2 ?_|refine(KT _ ?_).mono λ_ _=>?_|refine(JW _ ?_).mono λ_ _=>?_)
  |dsimp only
 all_goals exact ot
theorem AWP(x:(List FS)×Int×(List FS)×Int×Int)(h:0<=x.2.2.2.2/\x.2.2.2.2<=x.2.2.2.1/\x.2.2.2.1=x.2.2.1.length/\x.2.2.2.1<=281474976710656/\x.1.length<=x.2.2.2.2/\(∀s∈x.1,HN s)/\(∀s∈x.2.2.1,HN s)/\x.2.2.2.1<=1048576/\ -2<=x.2.1/\x.2.1<=999999999999999999):Tot (uG x) (λr:List FS=>r.length<=1048576/\∀s∈r,HN s):=by
 refine F6 (R:=λr:List IT=>r.length<=1048576/\∀s∈r,HN s) (λy:(List IT)×Int×(List IT)×Int×Int=>0<=y.2.2.2.2/\y.2.2.2.2<=y.2.2.2.1/\y.2.2.2.1=y.2.2.1.length/\y.2.2.2.1<=281474976710656/\y.1.length<=y.2.2.2.2/\(∀s∈y.1,HN s)/\(∀s∈y.2.2.1,HN s)/\y.2.2.2.1<=1048576/\ -2<=y.2.1/\y.2.1<=999999999999999999)
  (λy=>(y.2.2.2.1-y.2.2.2.2).toNat) ?_ _ _ h (by unfold fuel;have:=h.2.2.2.1;omega)
 rintro next ⟨o,e,l,n,i⟩ B d
 dsimp only at B d;obtain⟨i0,R,k,q,T,b,j,t,L,M⟩:=B;unfold A4L;dsimp only;refine D_.2 ⟨λz=>?_,λz=>DZ.2 ⟨oa,b⟩⟩;have z:=A5 z;rw[EQ (n:=i+1) oa oa,EQ (n:=e+1) oa oa];refine DY.2 (F0.2 ⟨⟨i0,oa⟩,λv K=>?_⟩);have A:=j v (ML K);refine DY.2 ((AWN _ A).mono λV D=>?_);obtain⟨C,U,N⟩:=D;refine D_.2 ⟨λ_=>d _ ⟨od,od,k,q,od,b,j,t,L,M⟩ od,λH=>?_⟩;have J:=N (by simpa using H);refine DY.2 (Tot.mono (P:=λr:Edge=>r.2.2.2.length<=100) ((AWO _ ⟨od,od,oe⟩)) λW w=>?_);by_cases I:(0:Int)<o.length
 .rw[EQ (n:=(o.length:Int)-1) oa oa];refine D_.2 ⟨λ_=>?_,λ_=>?_⟩
  .refine DY.2 (FJ.2 ⟨⟨oa,oa⟩,?_⟩);refine d _ ⟨od,od,k,q,by dsimp only;rw[AQ];omega,λs a=>?_,j,t,od,od⟩ od;dsimp only at a;rcases EI a with a|a
   .exact b s a
   .subst a;exact⟨(b _ (EH oa)).1,w⟩
  .refine DY.2 ((KT _ ⟨C,oa⟩).mono λO E=>?_);refine DY.2 ((JW _ trivial).mono λQ G=>?_);refine DY.2 (FT.2 ⟨by simp only[AX,BR];omega,?_⟩);refine d _ ⟨od,od,k,q,by dsimp only;rw[AE];simp only[AX,BR];omega,λs a=>?_,j,t,od,od⟩ od;dsimp only at a;rcases AS.1 a with a|a
   .exact b s a
   .rw[AJ]at a;subst a;exact⟨od,w⟩
 .rw[A7 I,D5];simp only[AA];refine DY.2 ((KT _ ⟨C,oa⟩).mono λO E=>?_);refine DY.2 ((JW _ trivial).mono λQ G=>?_);refine DY.2 (FT.2 ⟨by simp only[AX,BR];omega,?_⟩);refine d _ ⟨od,od,k,q,by dsimp only;rw[AE];simp only[AX,BR];omega,λs a=>?_,j,t,od,od⟩ od;dsimp only at a;rcases AS.1 a with a|a
  .exact b s a
  .rw[AJ]at a;subst a;exact⟨od,w⟩
theorem AWQ(x:List FS)(h:(∀s∈x,HN s)/\x.length<=1048576):Tot (j6 x) (λr:List FS=>r.length<=1048576/\∀s∈r,HN s):=by
 unfold j6
 repeat' first
  |(with_reducible first|refine DY.2 ?_|refine DZ.2 ?_|refine(AWP _ ?_).mono λ_ _=>?_)
  |dsimp only
 all_goals exact ot
theorem AWR(x:(List FS)×Bool)(h:(∀s∈x.1,HN s)/\x.1.length<=1048576):Tot (j7 x) (λr:List FS=>r.length<=1048576/\∀s∈r,HN s):=by
 obtain⟨l,t⟩:=x;try dsimp only at h ⊢
 unfold j7
 repeat' first
  |(with_reducible first|refine D_.2 ⟨λ_=>?_,λ_=>?_⟩|refine DY.2 ?_|refine DZ.2 ?_|refine(AWQ _ ?_).mono λ_ _=>?_)
  |dsimp only
 all_goals exact ot
theorem AWS(x:FS×(GM×GM)×Bool)(h:HN x.1/\GX x.2.1):Tot (j8 x) (λr:FS×(GM×GM)=>r.1=x.1/\GX r.2):=by
 obtain⟨s,a,t⟩:=x;try dsimp only at h ⊢
 unfold j8
 repeat' first
  |(with_reducible first|refine D_.2 ⟨λ_=>?_,λ_=>?_⟩|refine DZ.2 ?_)
  |dsimp only
 all_goals exact ot
set_option maxHeartbeats 1000000 in
theorem AWT(x:(Int×FQ)×(List FS)×Int×Int)(h:0<=x.2.2.2/\x.2.2.2<=x.2.2.1/\x.2.2.1=x.2.1.length/\x.2.2.1<=281474976710656/\x.1.2.length<=x.2.2.2/\x.2.2.1<=200/\(∀s∈x.2.1,HN s)/\(∀s∈x.1.2,GX s)):Tot (uH x) (λr:Int×FQ=>r.1=x.1.1/\r.2.length<=200/\∀s∈r.2,GX s):=by
 refine F6 (R:=λr:Int×FQ=>r.1=x.1.1/\r.2.length<=200/\∀s∈r.2,GX s) (λy:(Int×FQ)×(List FS)×Int×Int=>(0<=y.2.2.2/\y.2.2.2<=y.2.2.1/\y.2.2.1=y.2.1.length/\y.2.2.1<=281474976710656/\y.1.2.length<=y.2.2.2/\y.2.2.1<=200/\(∀s∈y.2.1,HN s)/\(∀s∈y.1.2,GX s))/\y.1.1=x.1.1) (λy:(Int×FQ)×(List FS)×Int×Int=>(y.2.2.1-y.2.2.2).toNat) ?_ _ _ oc (by unfold fuel;grind);rintro next ⟨a,t,b,d⟩ h hn
 try dsimp only at h hn
 unfold A4M
 repeat' first
  |(with_reducible first|refine D_.2 ⟨λ_=>?_,λ_=>?_⟩|refine DY.2 ?_|refine DZ.2 ?_|refine F0.2 ⟨?_,λ_ _=>?_⟩|refine FT.2 ⟨?_,?_⟩|refine(AWS _ ?_).mono λ_ _=>?_|refine hn _ ?_ ?_)
  |dsimp only
 all_goals exact ot
theorem AWU(x:Int×(List FS))(h:(∀s∈x.2,HN s)/\x.2.length<=1048576):Tot (j9 x) (λr:(Int×FQ)×Int=>r.1.2.length<=200/\∀s∈r.1.2,GX s):=by
 obtain⟨k,l⟩:=x;try dsimp only at h ⊢
 unfold j9
 repeat' first
  |(with_reducible first|refine D_.2 ⟨λ_=>?_,λ_=>?_⟩|refine DY.2 ?_|refine DZ.2 ?_|refine(AWR _ ?_).mono λ_ _=>?_|refine(AWT _ ?_).mono λ_ _=>?_)
  |dsimp only
 all_goals exact ot
set_option maxHeartbeats 1000000 in
theorem AWV(x:Int×(Int×FQ)×(List FS)×FQ×Int×Int)(h:0<=x.2.2.2.2.2/\x.2.2.2.2.2<=x.2.2.2.2.1/\x.2.2.2.2.1=x.2.2.2.1.length/\x.2.2.2.2.1<=281474976710656/\x.2.2.1.length<=x.2.2.2.2.2/\(∀s∈x.2.2.1,HN s)/\x.2.2.2.2.1<=1048576/\(∀s∈x.2.2.2.1,GX s)):Tot (uI x) (λr:Sum ((Int×FQ)×(List FS)) ((Int×FQ)×Int)=>(∀y,r=.inl y->y.2.length<=1048576/\∀s∈y.2,HN s)/\∀y,r=.inr y->y.1.2=[]):=by
 refine F6 (R:=λr:Sum ((Int×FQ)×(List FS)) ((Int×FQ)×Int)=>(∀y,r=.inl y->y.2.length<=1048576/\∀s∈y.2,HN s)/\∀y,r=.inr y->y.1.2=[]) (λy:Int×(Int×FQ)×(List FS)×FQ×Int×Int=>(0<=y.2.2.2.2.2/\y.2.2.2.2.2<=y.2.2.2.2.1/\y.2.2.2.2.1=y.2.2.2.1.length/\y.2.2.2.2.1<=281474976710656/\y.2.2.1.length<=y.2.2.2.2.2/\(∀s∈y.2.2.1,HN s)/\y.2.2.2.2.1<=1048576/\(∀s∈y.2.2.2.1,GX s))) (λy:Int×(Int×FQ)×(List FS)×FQ×Int×Int=>(y.2.2.2.2.1-y.2.2.2.2.2).toNat) ?_ _ _ oc (by unfold fuel;grind);rintro next ⟨k,e,a,t,b,d⟩ h hn
 try dsimp only at h hn
 unfold A4N
 repeat' first
  |(with_reducible first|refine D_.2 ⟨λ_=>?_,λ_=>?_⟩|refine DY.2 ?_|refine DZ.2 ?_|refine F0.2 ⟨?_,λ_ _=>?_⟩|refine FT.2 ⟨?_,?_⟩|refine(AWL _ ?_).mono λ_ _=>?_|refine(ABd _ ?_).mono λ_ _=>?_|refine(ABe _ ?_).mono λ_ _=>?_|refine(T2 _ ?_).mono λ_ _=>?_|refine hn _ ?_ ?_)
  |dsimp only
 all_goals exact ot
theorem AWW(x:(List FS)×(List FS)×Int×Int)(h:0<=x.2.2.2/\x.2.2.2<=x.2.2.1/\x.2.2.1=x.2.1.length/\x.2.2.1<=281474976710656/\x.1.length<=x.2.2.2/\(∀s∈x.1,HN s)/\x.2.2.1<=1048576/\(∀s∈x.2.1,HN s)):Tot (uJ x) (λr:List FS=>r.length<=1048576/\∀s∈r,HN s):=by
 refine F6 (R:=λr:List IT=>r.length<=1048576/\∀s∈r,HN s) (λy:(List IT)×(List IT)×Int×Int=>0<=y.2.2.2/\y.2.2.2<=y.2.2.1/\y.2.2.1=y.2.1.length/\y.2.2.1<=281474976710656/\y.1.length<=y.2.2.2/\(∀s∈y.1,HN s)/\y.2.2.1<=1048576/\(∀s∈y.2.1,HN s))
  (λy=>(y.2.2.1-y.2.2.2).toNat) ?_ _ _ h (by unfold fuel;have:=h.2.2.2.1;omega)
 rintro next ⟨o,l,n,i⟩ C k
 dsimp only at C k;obtain⟨i0,I,z,A,J,j,B,q⟩:=C;unfold A4O;dsimp only;refine D_.2 ⟨λt=>?_,λt=>DZ.2 ⟨oa,j⟩⟩;have t:=A5 t;rw[EQ (n:=i+1) oa oa];refine DY.2 (FJ.2 ⟨⟨i0,oa⟩,?_⟩);have w:=q _ (EH (l:=l) (i:=i.toNat) (d:=((0,(([]:DX),(false,([]:DX)))),(0,(([]:DX),(false,([]:DX)))))) oa);generalize l.getD i.toNat ((0,(([]:DX),(false,([]:DX)))),(0,(([]:DX),(false,([]:DX)))))=v at w;have b:∀(Q:List IT->Prop),Q (o++[v])->Tot (app? 192 o [v]) Q:=λQ E=>FT.2 ⟨by simp only[AX,BR];omega,E⟩
 have d:Tot (next (o++[v],l,n,i+1)) (λr:List IT=>r.length<=1048576/\∀s∈r,HN s):=by
  refine k _ ⟨od,od,z,A,by dsimp only;rw[AE];simp only[AX,BR];omega,λs a=>?_,B,q⟩ od;dsimp only at a;rcases AS.1 a with a|a
  .exact j s a
  .rw[AJ]at a;subst a;exact w
 by_cases D:(o.length:Int)=0
 .have e:E1 (o.length:Int) 0=true:=by rw[E0];exact A4 D
  rw[e];simp only[BS,AA,Bool.true_or,A8];refine DY.2 (DZ.2 (DY.2 (DZ.2 (DY.2 (b _ d)))))
 .have e:E1 (o.length:Int) 0=false:=by rw[E0];exact A7 D
  rw[e,EQ (n:=(o.length:Int)-1) oa oa];simp only[BW,A8,CD];refine DY.2 (FJ.2 ⟨⟨oa,oa⟩,?_⟩);refine DY.2 ((T2 _ trivial).mono λG _=>?_);refine D_.2 ⟨λ_=>DY.2 (b _ d),λ_=>?_⟩;refine DY.2 (FJ.2 ⟨⟨oa,oa⟩,?_⟩);refine DY.2 ((T2 _ trivial).mono λH _=>?_);refine D_.2 ⟨λ_=>?_,λ_=>k _ ⟨od,od,z,A,od,j,B,q⟩ od⟩;refine DY.2 (FJ.2 ⟨⟨oa,oa⟩,?_⟩);refine k _ ⟨od,od,z,A,by dsimp only;rw[AQ];omega,λs a=>?_,B,q⟩ od;dsimp only at a;rcases EI a with a|a
  .exact j s a
  .subst a;exact⟨(j _ (EH oa)).1,w.2⟩
theorem AWX(x:Int×FQ)(h:(∀s∈x.2,GX s)/\x.2.length<=1048576):Tot (jA x) (λr:(Int×FQ)×Int=>r.1.2.length<=200/\∀s∈r.1.2,GX s):=by
 unfold jA;obtain⟨j,w⟩:=h;refine DY.2 ((AWV _ ⟨AR _,B6 _,rfl,od,oe,oe,od,j⟩).mono λr e=>?_);rcases r with y|y
 .obtain⟨v,i⟩:=e.1 y rfl;refine DY.2 ((AUs y.2).mono λo a=>?_);have l:=a.1.length_eq;refine DY.2 ((AWW _ ⟨AR _,B6 _,rfl,od,oe,oe,od,λs k=>i s (a.1.mem_iff.1 k)⟩).mono λq b=>?_);exact DY.2 ((AWU _ ⟨b.2,b.1⟩).mono λt d=>DZ.2 d)
 .have:=e.2 y rfl;refine DZ.2 ?_;dsimp only;rw[this];simp
theorem ABf(x:DX×Int×J4×(List DX)×(List DX))(h:OK x):Tot (jB x) (λr:(Int×FQ)×Int=>r.1.2.length<=200/\(∀s∈r.1.2,GX s)):=by
 unfold jB;refine DY.2 ((AVx _ h).mono λj d=>?_);refine D_.2 ⟨λ_=>DZ.2 oe,λa=>?_⟩;have b:j=0:=by rw[E0]at a;simpa using a
 refine DY.2 ((AWK _ ⟨h,d b⟩).mono λk e=>?_);exact DY.2 ((AWX _ ⟨e.2,od⟩).mono λl i=>DZ.2 i)
theorem AWY(x:IW×(List DX)×Int×Int)(h:0<=x.2.2.2/\x.2.2.2<=x.2.2.1/\x.2.2.1=x.2.1.length/\x.2.2.1<=281474976710656/\(∀s∈x.2.1,s.length<=1048576)/\x.2.1=x.1.2.1):Tot (tN x) (λr:Sum (Unit) (Int)=>True):=by
 refine F6 (R:=λr:Sum Unit Int=>True)
  (λy:G5×(List DX)×Int×Int=>0<=y.2.2.2/\y.2.2.2<=y.2.2.1/\y.2.2.1=y.2.1.length/\y.2.2.1<=281474976710656/\(∀v∈y.2.1,v.length<=1048576)/\y.2.1=y.1.2.1)
  (λy=>(y.2.2.1-y.2.2.2).toNat) ?_ _ _ h (by unfold fuel;have:=h.2.2.2.1;omega)
 rintro next ⟨a,l,n,i⟩ d e
 dsimp only at d e;obtain⟨i0,A,w,z,k,o⟩:=d;unfold A41;dsimp only;refine D_.2 ⟨λb=>?_,λb=>DZ.2 trivial⟩;have b:=A5 b;rw[EQ (n:=i+1) oa oa,EQ oa oa];refine DY.2 (F0.2 ⟨⟨i0,oa⟩,λv q=>?_⟩);have t:=k v (ML q);refine DY.2 ((lZ _ oa).mono λr _=>?_);refine D_.2 ⟨λ_=>DZ.2 trivial,λ_=>?_⟩;refine D_.2 ⟨λ_=>DZ.2 trivial,λ_=>?_⟩;refine DY.2 (Tot.mono (P:=λ_=>True) (D_.2 ⟨λj=>?_,λ_=>DZ.2 trivial⟩) λB _=>?_)
 .have j:=A5 j;exact F0.2 ⟨⟨oa,by rw[<-o];omega⟩,λ_ _=>trivial⟩
 .refine D_.2 ⟨λ_=>DZ.2 trivial,λ_=>?_⟩;exact e _ ⟨od,od,w,z,k,o⟩ od
theorem ABg(x:DX×(List DX)×DX×Int×Bool×DX×(List GW))(h:∀s∈x.2.1,s.length<=1048576):Tot (iH x) (λr:Int=>True):=by
 unfold iH
 repeat' first
  |(with_reducible first|refine D_.2 ⟨λ_=>?_,λ_=>?_⟩|refine DY.2 ?_|refine DZ.2 ?_|refine(AWY _ ?_).mono λ_ _=>?_)
  |split
  |dsimp only
 all_goals exact ot
theorem ABh(x:Unit)(h:True):Tot (iI x) (λr:List MA=>r.length=6):=by
 unfold iI
 repeat' first
  |with_reducible refine DZ.2 ?_
  |dsimp only
 all_goals exact ot
theorem AWZ(x:DX×(List Int)×(List MA)×Int)(h:0<=x.2.2.2/\x.2.2.2<=6/\x.2.2.1.length=6/\x.1.length=6):Tot (iJ x) (λr:Sum (List Int) (Int×Int)=>True):=by
 refine F6 (R:=λr:Sum (List Int) (Int×Int)=>True) (λy:DX×(List Int)×(List MA)×Int=>(0<=y.2.2.2/\y.2.2.2<=6/\y.2.2.1.length=6/\y.1.length=6)) (λy:DX×(List Int)×(List MA)×Int=>(6-y.2.2.2).toNat) ?_ _ _ oc (by unfold fuel;grind);rintro next ⟨v,w,t,a⟩ h hn
 try dsimp only at h hn
 unfold tO
 repeat' first
  |(with_reducible first|refine D_.2 ⟨λ_=>?_,λ_=>?_⟩|refine DY.2 ?_|refine DZ.2 ?_|refine F0.2 ⟨?_,λ_ _=>?_⟩|refine FJ.2 ⟨?_,?_⟩|refine hn _ ?_ ?_)
  |dsimp only
 all_goals exact ot
theorem AW_(x:DX)(h:True):Tot (OE x) (λr:Int×Int=>True):=by
 unfold OE
 repeat' first
  |(with_reducible first|refine D_.2 ⟨λ_=>?_,λ_=>?_⟩|refine DY.2 ?_|refine DZ.2 ?_|refine(ABh _ ?_).mono λ_ _=>?_|refine(AWZ _ ?_).mono λ_ _=>?_|refine m6.2 ⟨?_,?_⟩)
  |split
  |dsimp only
 all_goals exact ot
theorem AWa(x:IW×Bool)(h:True):Tot (VD x) (λr:Sum IW (JR×Int)=>∀y,r=.inl y->y=x.1):=by
 obtain⟨a,t⟩:=x;try dsimp only at h ⊢
 unfold VD
 repeat' first
  |(with_reducible first|refine D_.2 ⟨λ_=>?_,λ_=>?_⟩|refine DY.2 ?_|refine DZ.2 ?_|refine(AW_ _ ?_).mono λ_ _=>?_)
  |dsimp only
 all_goals exact ot
theorem AWb(x:JR×(List GW)×Int×Int)(h:0<=x.2.2.2/\x.2.2.2<=x.2.2.1/\x.2.2.1=x.2.1.length/\x.2.2.1<=281474976710656/\x.2.2.1<=50/\x.1.length<=x.2.2.2/\∀z∈x.2.1,OK z):Tot (VE x) (λr:Sum JR (JR×Int)=>True):=by
 refine F6 (R:=λr:Sum JR (JR×Int)=>True) (λy:JR×(List GW)×Int×Int=>(0<=y.2.2.2/\y.2.2.2<=y.2.2.1/\y.2.2.1=y.2.1.length/\y.2.2.1<=281474976710656/\y.2.2.1<=50/\y.1.length<=y.2.2.2/\∀z∈y.2.1,OK z)) (λy:JR×(List GW)×Int×Int=>(y.2.2.1-y.2.2.2).toNat) ?_ _ _ oc (by unfold fuel;grind);rintro next ⟨o,t,a,b⟩ h hn
 try dsimp only at h hn
 unfold uK
 repeat' first
  |(with_reducible first|refine D_.2 ⟨λ_=>?_,λ_=>?_⟩|refine DY.2 ?_|refine DZ.2 ?_|refine F0.2 ⟨?_,λ_ _=>?_⟩|refine FT.2 ⟨?_,?_⟩|refine(ABf _ ?_).mono λ_ _=>?_|refine hn _ ?_ ?_)
  |dsimp only
 all_goals exact ot
theorem AWc(x:DX×(List DX)×DX×Int×Bool×DX×(List GW))(h:JM x):Tot (MH x) (λr:JR×Int=>True):=by
 unfold MH
 repeat' first
  |(with_reducible first|refine D_.2 ⟨λ_=>?_,λ_=>?_⟩|refine DY.2 ?_|refine DZ.2 ?_|refine(lZ _ ?_).mono λ_ _=>?_|refine(ABg _ ?_).mono λ_ _=>?_|refine(AWa _ ?_).mono λ_ _=>?_|refine(AWb _ ?_).mono λ_ _=>?_)
  |split
  |dsimp only
 all_goals grind[ED,EB,EA,E4,E0,EF,EE,EC,EH,EI,ER,EL,ET,EW,EX,EY,EZ,JM]
theorem AWd(x:DX×(List DX)×DX×Int×Bool×DX×(List GW))(h:JM x):Tot (SF x) (λr:Int=>True):=by
 unfold SF
 repeat' first
  |(with_reducible first|refine DY.2 ?_|refine DZ.2 ?_|refine(AWc _ ?_).mono λ_ _=>?_)
  |dsimp only
 all_goals exact ot
theorem FN{α:Type}{l:List α}{i:Nat}{a:α}(h:l[i]?=some a):l.take (i+1)=l.take i++[a]:=by
 rw[List.take_add_one,h];rfl
abbrev Rg:=Int×(List V_)
noncomputable def T3(v:Vr):Option DX:=(λz=>Sum.casesOn (motive:=λ_=>Option DX) z (λx=>(NC x).bind λr=>some r) (λz=>Sum.casesOn (motive:=λ_=>Option DX) z (λx=>(ND x).bind λr=>some r) (λz=>Sum.casesOn (motive:=λ_=>Option DX) z (λx=>(NE x).bind λr=>some r) (λz=>Sum.casesOn (motive:=λ_=>Option DX) z (λx=>(NF x).bind λr=>some r) (λz=>Sum.casesOn (motive:=λ_=>Option DX) z (λx=>(NG x).bind λr=>some r) (λ_=>none)))))) v
theorem mJ{v:Vr}(a:JX v):Tot (T3 v) (λ_=>True):=by
 unfold T3;rcases v with x|x|x|x|x|x
 .exact DY.2 ((mE _ a).mono λ_ h=>DZ.2 trivial)
 .exact DY.2 ((mF _ a).mono λ_ h=>DZ.2 trivial)
 .exact DY.2 ((mG _ a).mono λ_ h=>DZ.2 trivial)
 .exact DY.2 ((mH _ a).mono λ_ h=>DZ.2 trivial)
 .exact DY.2 ((mI _ a).mono λ_ h=>DZ.2 trivial)
 .exact a.elim
def Vs(k:Int)(w:DX)(v:Vr)(s:DX):Prop:=IY (k,w)=some (v,0)/\T3 v=some s
theorem AWe{k:Int}{w:DX}{v:Vr}(e:w.length<=1048576)(h:IY (k,w)=some (v,0)):∃s,Vs k w v s:=by
 obtain⟨r,a,b⟩:=NO (k,w) e;rw[h]at a;cases a;obtain⟨s,d,_⟩:=mJ (b rfl);exact⟨s,h,d⟩
theorem AWf{k:Int}{w:DX}{v:Vr}{s:DX}(h:Vs k w v s):VA (k,w)=some (s,0):=by
 show((IY (k,w)).bind λr=>bif (!(E1 r.2 (0:Int)))then some (([]:DX),r.2)else(T3 r.1).bind λa=>some (a,(0:Int)))=_;rw[h.1];simp only[A0,E0,decide_true,BS,AA];rw[h.2];rfl
theorem AWg{k:Int}{w:DX}{v:Vr}{s:DX}(h:Vs k w v s):w≠[]:=by
 rintro rfl;have a:=h.1;unfold IY at a;dsimp only at a;have e:E5 ([]:DX) ([]:DX)=true:=rfl;rw[e]at a;cases b:(decide (k<(1:Int))||decide ((5:Int)<k))with
 |true=>rw[b]at a;simp at a
 |false=>rw[b]at a;simp at a
noncomputable def ky(k:Int)(w:DX):DX:=((VA (k,w)).getD ([],0)).1
theorem AWh{k:Int}{w:DX}{v:Vr}{s:DX}(h:Vs k w v s):ky k w=s:=by unfold ky;rw[AWf h];rfl
def Ok(k:Int)(w:DX):Prop:=∃v,Vs k w v (ky k w)
theorem AWi{k:Int}{w:DX}{v:Vr}{s:DX}(h:Vs k w v s):Ok k w:=⟨v,by rw[AWh h];exact h⟩
theorem A0W(k:Int)(w:DX)(b:w.length<=1048576):Tot (YQ (k,w)) (λr=>r=0->Ok k w):=by
 unfold YQ;dsimp only;obtain⟨⟨v,e⟩,h,i⟩:=NO (k,w) b;rw[h];refine DY.2 (DZ.2 (DZ.2 λa=>?_));dsimp only at a;subst a;obtain⟨s,d⟩:=AWe b h;exact AWi d
theorem AWj(s:V_)(b:List IT)(e:GX s)(a:∀x∈b,HN x)(j:b.length<=1048576):Tot (iB (s,b)) (λ_=>True):=by
 unfold iB;dsimp only;refine D_.2 ⟨λ_=>DZ.2 trivial,λ_=>D_.2 ⟨λh=>?_,λ_=>DZ.2 trivial⟩⟩;have h:=A5 h;rw[EQ (n:=(b.length:Int)-1) oa oa];refine DY.2 ((L7 _ (by have:=e.1;omega)).mono λr k=>DY.2 (F0.2 ⟨⟨oa,oa⟩,λy i=>?_⟩));refine DY.2 ((L7 _ (by have:=(a y (ML i)).2;omega)).mono λl d=>?_);exact D_.2 ⟨λ_=>DZ.2 trivial,λ_=>DZ.2 trivial⟩
theorem AWk(l:List IT)(k:DX)(o:l.length<=1048576):Tot (ZN (l,k)) (λ_=>True):=by
 unfold ZN vA;dsimp only;refine DY.2 (DY.2 (Tot.mono (P:=λ_=>True) ?_ λq _=>by rcases q with y|y<;>exact DZ.2 (DZ.2 trivial)));generalize b:(λx:IT=>(jF (x,(some ((0:Int),(k,(false,([]:DX))))))).bind λr=>some r)=f
 have e:∀x,Tot (f x) λ_=>True:=by
  intro x;subst b;unfold jF;dsimp only;refine DY.2 (DY.2 (DZ.2 (DY.2 ((T2 _ trivial).mono λA _=>?_))));refine DY.2 (Tot.mono (P:=λ_=>True) (D_.2 ⟨λ_=>DZ.2 trivial,λ_=>DZ.2 trivial⟩) λz _=>?_);exact DY.2 (Tot.mono (P:=λ_=>True) (D_.2 ⟨λ_=>T2 _ trivial,λ_=>DZ.2 trivial⟩) λB _=>DZ.2 (DZ.2 trivial))
 clear b
 refine F6 (R:=λ_:Sum Unit Int=>True) (λy:(List IT)×(IT->Option Bool)×Int×Int=>y.1=l/\y.2.1=f/\y.2.2.1=l.length/\0<=y.2.2.2/\y.2.2.2<=l.length)
  (λy=>((l.length:Int)-y.2.2.2).toNat) ?_ _ _ ⟨rfl,rfl,rfl,AR _,B6 _⟩ (by unfold fuel;dsimp only;omega)
 rintro next ⟨w,j,n,i⟩ a d
 dsimp only at a d;obtain⟨rfl,rfl,rfl,i0,v⟩:=a;unfold A4W;dsimp only;refine D_.2 ⟨λh=>?_,λh=>DZ.2 trivial⟩;have h:=A5 h;rw[EQ (n:=i+1) oa oa];refine DY.2 (F0.2 ⟨⟨i0,h⟩,λs t=>?_⟩);refine DY.2 ((e s).mono λr _=>D_.2 ⟨λ_=>DZ.2 trivial,λ_=>?_⟩);exact d _ ⟨rfl,rfl,rfl,od,od⟩ od
noncomputable def inn(L:List IT)(k:Int)(w:DX):Bool:=decide (0<=(ZN (L,ky k w)).getD 0)
theorem AWl(k:Int)(u w:DX):ZF (k,u,w)=(QJ (k,u,w)).bind λr=>bif (!(E1 r.2.2 (0:Int)))then some ((0:Int),r.2.2)else(T3 r.1).bind λa=>(T3 r.2.1).bind λb=>(LN (a,b)).bind λd=>some (d,(0:Int)):=rfl
theorem AWm{k:Int}{u w:DX}(b:Ok k u)(d:Ok k w):ZF (k,u,w)=some (J9 (ky k u) (ky k w),0):=by
 obtain⟨v,a⟩:=b;obtain⟨e,h⟩:=d;rw[AWl];unfold QJ;dsimp only;rw[a.1];simp only[A0,E0,decide_true,BS,AA];rw[h.1];simp only[A0,decide_true,BS,AA];rw[a.2,h.2];simp only[A0];rw[m9];rfl
abbrev Bs:=Int×(List G5)×(List Int)
abbrev Dl:=Int×Int×(List G5)×(List DX)
noncomputable def NP(a:G5):Int:=(SF a).getD 1
theorem ABi{a:G5}(h:JM a):SF a=some (NP a):=by
 obtain⟨r,b,_⟩:=AWd a h;unfold NP;rw[b];rfl
def okR(l:List G5)(i:Nat):Prop:=∀a,l[i]?=some a->NP a=0/\(0<i->∀a',l[i-1]?=some a'->a'.1<a.1)
def W0(b:Bs)(i:Nat):Prop:=okR b.2.1 i/\∀s,b.2.2[i]?=some s->0<=s/\s<=b.1
theorem bD(a b:DX):(Op.bytesLess a b||E5 a b)= !decide (b<a):=by
 rw[A0J,E4];rcases VZ a b with h|h|h
 .simp[h,bC h]
 .subst h;simp[JY]
 .have:a≠b:=λe=>by subst e;exact JY _ h
  simp[h,bC h,this]
theorem AWn(b:Bs)(hb:∀a∈b.2.1,JM a)(hl:b.2.2.length=b.2.1.length)(hm:b.2.1.length<=2000):
 Tot (uL (b,b.2.1,(b.2.1.length:Int),0)) (λr=>(∀u,r=.inl u->∀j,j<b.2.1.length->W0 b j)/\∀e,r=.inr e->e≠0/\¬∀j,j<b.2.1.length->W0 b j):=by
 refine F6 (R:=λr:Sum Unit Int=>(∀u,r=.inl u->∀j,j<b.2.1.length->W0 b j)/\∀e,r=.inr e->e≠0/\¬∀j,j<b.2.1.length->W0 b j)
  (λy:Bs×(List G5)×Int×Int=>y.1=b/\y.2.1=b.2.1/\y.2.2.1=b.2.1.length/\0<=y.2.2.2/\y.2.2.2<=b.2.1.length/\∀j:Nat,(j:Int)<y.2.2.2->W0 b j)
  (λy=>((b.2.1.length:Int)-y.2.2.2).toNat) ?_ _ _ ⟨rfl,rfl,rfl,AR _,B6 _,λj I=>by dsimp only at I;omega⟩ (by unfold fuel;dsimp only;omega)
 rintro next ⟨L,l,n,i⟩ W X
 dsimp only at W X;obtain⟨rfl,rfl,rfl,i0,i1,Y⟩:=W;unfold A4P;dsimp only;refine D_.2 ⟨λz=>?_,λz=>DZ.2 ⟨λu _ j I=>?_,λe o=>(by cases o)⟩⟩
 .have z:=A5 z;rw[EQ (n:=i+1) oa oa,EQ oa oa];refine DY.2 (F0.2 ⟨⟨i0,z⟩,λa H=>?_⟩);rw[ABi (hb a (ML H))];refine DY.2 (DZ.2 ?_);have x:i.toNat<L.2.1.length:=oa
  refine D_.2 ⟨λo=>DZ.2 ⟨λu C=>(by cases C),λe k=>?_⟩,λo=>?_⟩
  .cases k;rw[E0]at o;have o:¬NP a=0:=by simpa using o
   exact⟨o,λh=>o ((h i.toNat x).1 a H).1⟩
  have hk:NP a=0:=by rw[E0]at o;simpa using o
  refine DY.2 (Tot.mono (P:=λK:G5=>0<i->L.2.1[i.toNat-1]?=some K) (D_.2 ⟨λq=>?_,λq=>DZ.2 λQ=>absurd Q (AF q)⟩) λK T=>?_)
  .have q:=A5 q;refine F0.2 ⟨⟨oa,oa⟩,λw J _=>?_⟩;rw[show i.toNat-1=(i-1).toNat by omega];exact J
  rw[bD];refine D_.2 ⟨λt=>DZ.2 ⟨λu C=>(by cases C),λe k=>?_⟩,λt=>?_⟩
  .cases k;have R:=BA.1 t;have q:=A5 R.1;have N:¬K.1<a.1:=by simpa using R.2
   exact⟨oi,λh=>N (((h i.toNat x).1 a H).2 oa K (T q))⟩
  have A:0<i.toNat->∀E,L.2.1[i.toNat-1]?=some E->E.1<a.1:=by
   intro q E d;have D:0<i:=oa
   rw[T D]at d;cases d;rw[A4 D,D0]at t;simpa using t
  refine DY.2 (F0.2 ⟨⟨i0,oa⟩,λs O=>?_⟩);refine DY.2 (Tot.mono (P:=λZ:Int=>0<=s->Z=s) (D_.2 ⟨λq=>F0.2 ⟨⟨i0,oa⟩,λw J _=>?_⟩,λq=>DZ.2 λQ=>?_⟩) λZ U=>?_)
  .rw[O]at J;cases J;rfl
  .exfalso;simp at q;omega
  refine D_.2 ⟨λv=>DZ.2 ⟨λu C=>(by cases C),λe k=>?_⟩,λv=>?_⟩
  .cases k;refine⟨oi,λh=>?_⟩;have G:=(h i.toNat x).2 s O;have V:=U G.1;rw[V]at v;simp at v;omega
  .have G:=B0.1 v;have V:=AF G.1;have h1:=AF G.2;have h3:=U oa;refine X _ ⟨rfl,rfl,rfl,od,od,λj I=>?_⟩ od;dsimp only at I;by_cases M:(j:Int)<i
   .exact Y j M
   .have:j=i.toNat:=oa
    subst this;refine⟨λE d=>?_,λs' B=>?_⟩
    .rw[H]at d;cases d;exact⟨hk,A⟩
    .rw[O]at B;cases B;omega
 .have z:=AF z;exact Y j oa
def BB(b:Bs):Prop:=∀a∈b.2.1,JM a
def QV(b:Bs):Prop:=(0<=b.1/\b.1<=1000000000)/\b.2.1.length<=2000/\b.2.2.length=b.2.1.length/\∀j,j<b.2.1.length->W0 b j
theorem ABj(b:Bs)(o:BB b):Tot (ZK b) (λr=>r=0<->QV b):=by
 unfold ZK QV;refine D_.2 ⟨λh=>DZ.2 ⟨λa=>absurd a oi,λhk=>?_⟩,λk=>?_⟩
 .simp at h;omega
 have d:=B0.1 k;have q:=AF d.1;have s:=AF d.2;refine D_.2 ⟨λh=>DZ.2 ⟨λa=>absurd a oi,λhk=>?_⟩,λl=>?_⟩
 .have:=A5 h;omega
 have t:=AF l;refine D_.2 ⟨λh=>DZ.2 ⟨λa=>absurd a oi,λhk=>?_⟩,λj=>?_⟩
 .rw[E0,hk.2.2.1]at h;simp at h
 have i:b.2.2.length=b.2.1.length:=by
  rw[E0]at j;have:((b.2.2.length:Nat):Int)=b.2.1.length:=by simpa using j
  omega
 refine DY.2 ((AWn b o i oa).mono λr e=>?_);rcases r with r|r
 .exact DZ.2 ⟨λ_=>⟨oa,oa,i,e.1 r rfl⟩,λ_=>rfl⟩
 .exact DZ.2 ⟨λa=>absurd a (e.2 r rfl).1,λhk=>absurd hk.2.2.2 (e.2 r rfl).2⟩
def DB(d:Dl):Prop:=d.2.2.1.length<=1048576/\∀a∈d.2.2.1,JM a
theorem A0X{α:Type}{B:Nat}(l:List α)(h:l.length*B<=70368744177664):app? B [] l=some l:=by
 unfold app?;rw[A4 (by simpa using h)];rfl
theorem ABk{l:List DX}(h:l.length<=1048576):ZY l=some l:=by
 unfold ZY w_;rw[A0X l oa];rfl
theorem AWo(k a:DX)(v:Bool):∀m:List (DX×Bool),FM E5 k (FK E5 a v m)=if k=a then some v else FM E5 k m:=by
 intro m;induction m with
 |nil=>
  unfold FK FM;rw[E4];by_cases h:k=a<;>simp[h,FM]
 |cons e r j=>
  unfold FK;rw[E4];by_cases b:a=e.1
  .rw[A4 b];simp only[A8];unfold FM;rw[E4,E4];by_cases h:k=a
   .simp[h]
   .have:¬k=e.1:=λd=>h (d.trans b.symm);simp[h,this]
  .rw[A7 b];simp only[AA];unfold FM;rw[E4,j];by_cases h:k=e.1
   .have i:¬e.1=a:=λd=>b d.symm;simp[h,i]
   .simp[h]
section
variable{b:Bs}{d:Dl}(hb:BB b)(hbl:b.2.1.length<=1048576)(hd:DB d)(h0:d.2.2.2=[])
end
end Go.Ev.Pv
