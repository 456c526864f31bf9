/-
  The law as plain Lean, first part: that there are answers: names, versions, ranges, advisories.
-/
import Derived.Test.YtlljgbmoloklgaaGreatDoorBE4
import Derived.Test.YtlljgbmoloklgaaGreatDoorBD
import Derived.Sort.AssemblyPlain
import Derived.KernelRfl
set_option linter.unusedVariables false
set_option linter.unusedSimpArgs false
set_option linter.unusedSectionVars false
set_option maxRecDepth 100000
open Go.IntKind hiding min max bits signed
namespace Go.Ev
theorem EW{α:Type}{a:α}{l:List α}:(a::l).length=l.length+1:=AD
theorem EX{α:Type}:([]:List α).length=0:=AJ
theorem EY{α:Type}{a:α}{i:Nat}{l:List α}(h:a∈l.take i):a∈l:=D7 h
theorem EZ{α:Type}{a:α}{i:Nat}{l:List α}(h:a∈l.drop i):a∈l:=List.mem_of_mem_drop h
def Tot{α:Type}(m:Option α)(Q:α->Prop):Prop:=∃x,m=some x/\Q x
section
variable{α β:Type}{m n:Option α}{P Q:α->Prop}
theorem Tot.mono(h:Tot m P)(k:∀x,P x->Q x):Tot m Q:=let ⟨x,h1,h2⟩:=h;⟨x,h1,k x h2⟩
theorem E3{x:α}:Tot (some x) Q<->Q x:=⟨fun⟨_,h1,h2⟩=>A4 h1▸h2,fun h=>⟨x,rfl,h⟩⟩
theorem E2{f:α->Option β}{R:β->Prop}:Tot (m.bind f) R<->Tot m fun x=>Tot (f x) R:=by
 constructor
 ·rintro⟨y,h1,h2⟩;obtain⟨x,h3,h4⟩:=BX.1 h1;exact⟨x,h3,y,h4,h2⟩
 ·rintro⟨x,rfl,y,h1,h2⟩;exact⟨y,h1,h2⟩
theorem E4{b:Bool}:Tot (bif b then m else n) Q<->(b=true->Tot m Q)/\(b=false->Tot n Q):=by
 cases b
 ·exact⟨fun h=>⟨fun e=>(by cases e),fun _=>h⟩,fun h=>h.2 rfl⟩
 ·exact⟨fun h=>⟨fun _=>h,fun e=>(by cases e)⟩,fun h=>h.1 rfl⟩
theorem FJ{n:Nat}{i:Int}{Q:Unit->Prop}:Tot (in? n i) Q<->(0<=i/\i<n)/\Q ():=by
 unfold in? Tot;by_cases h1:0<=i<;>by_cases h2:i<n<;>simp[h1,h2]
 exact⟨fun⟨_,h⟩=>h,fun h=>⟨(),h⟩⟩
theorem G6{a b:E1}{Q:E1->Prop}:Tot (cat? a b) Q<->a.length+b.length<=281474976710656/\Q (a++b):=by
 unfold cat? Tot;by_cases h:a.length+b.length<=281474976710656<;>simp[h]
theorem G7{B:Nat}{a b:List α}{Q:List α->Prop}:Tot (app? B a b) Q<->(a.length+b.length)*B<=70368744177664/\Q (a++b):=by
 unfold app? Tot;by_cases h:(a.length+b.length)*B<=70368744177664<;>simp[h]
theorem HG{l:List α}{lo hi:Int}{Q:List α->Prop}:Tot (cut? l lo hi) Q<->(0<=lo/\lo<=hi/\hi<=l.length)/\Q ((l.take hi.toNat).drop lo.toNat):=by
 unfold cut? Tot;by_cases h1:0<=lo<;>by_cases h2:lo<=hi<;>by_cases h3:hi<=l.length<;>simp[h1,h2,h3]
theorem AM_{l:List α}{i:Int}{Q:α->Prop}(h1:0<=i)(h2:i<l.length)(h3:∀x,x∈l->l[i.toNat]?=some x->Q x):Tot (at? l i) Q:=by
 have hlt:i.toNat<l.length:=by omega
 refine⟨l[i.toNat],?_,h3 _ (BA hlt) (A1 hlt)⟩;unfold at?;rw[A6 h1];exact A1 hlt
theorem F4{l:List α}{i:Int}{Q:α->Prop}:Tot (at? l i) Q<->(0<=i/\i<l.length)/\∀x,l[i.toNat]?=some x->Q x:=by
 constructor
 ·rintro⟨x,h1,h2⟩;unfold at? at h1;by_cases h0:0<=i
  ·rw[A6 h0]at h1;have h1:l[i.toNat]?=some x:=h1;have hlt:=(AE.1 h1).1;exact⟨⟨h0,by omega⟩,fun y hy=>by rw[h1]at hy;cases hy;exact h2⟩
  ·rw[AB h0]at h1;cases h1
 ·rintro⟨⟨h1,h2⟩,h3⟩;exact AM_ h1 h2 fun x _ hx=>h3 x hx
theorem tS:Tot m (fun _=>True)<->∃x,m=some x:=⟨fun⟨x,h,_⟩=>⟨x,h⟩,fun⟨x,h⟩=>⟨x,h,trivial⟩⟩
theorem F7{r:(α->Option β)->α->Option β}{R:β->Prop}(I:α->Prop)(μ:α->Nat)(h:∀next x,I x->(∀y,I y->μ y<μ x->Tot (next y) R)->Tot (r next x) R):
 ∀(k:Nat) (x:α),I x->μ x<k->Tot (EL r k x) R:=by
 intro k;induction k with
 |zero=>intro x _ h;omega
 |succ k ih=>intro x hx hk;exact h _ x hx fun y hy hm=>ih y hy (by omega)
theorem E_{n:Int}(h1:-9223372036854775808<=n)(h2:n<=9223372036854775807):i64.wrap n=n:=by
 simp only[IntKind.wrap,IntKind.bits,IntKind.signed];simp;omega
theorem tT{n:Int}(h1:0<=n)(h2:n<=255):u8.wrap n=n:=by
 simp only[IntKind.wrap,IntKind.bits,IntKind.signed];simp;omega
theorem AMa(n:Int):0<=u8.wrap n/\u8.wrap n<=255:=by
 simp only[IntKind.wrap,IntKind.bits,IntKind.signed];simp;omega
end
end Go.Ev
namespace Go.Ev.Pv
theorem EE{n:Int}:-9223372036854775808<=n->n<=9223372036854775807->i64.wrap n=n:=fun h1 h2=>E_ h1 h2
theorem EC(b:UInt8):b.toNat<=255:=by have:=b.toNat_lt;omega
theorem EF{n:Int}:0<=n->n<=255->u8.wrap n=n:=fun h1 h2=>tT h1 h2
theorem EG(n:Int):0<=u8.wrap n/\u8.wrap n<=255:=AMa n
theorem EH(s:E1):(GB s).length=s.length:=by simp[GB]
theorem ED(s:List Int):(HJ s).length=s.length:=by simp[HJ]
theorem E9(s t:E1):EM s t=decide (s=t):=by unfold EM;by_cases h:s=t<;>simp[h]
theorem E5(s t:Int):E6 s t=decide (s=t):=by unfold E6;by_cases h:s=t<;>simp[h]
theorem P_(x:E1×Int)(h:x.1.length<=1048576):Tot (strings_IndexByte x) (fun r:Int=>-1<=r):=by
 unfold strings_IndexByte HZ;rw[A6 (by omega)];exact E3.2 (Lib.indexByte_ge _ _)
theorem tU(sep:E1)(m:Nat):∀xs:List E1,(∀s∈xs,s.length<=m)->(Lib.join xs sep).length<=xs.length*(m+sep.length):=by
 intro xs;induction xs with
 |nil=>intro _;simp[Lib.join,List.intercalate]
 |cons a r ih=>
  intro h;have h1:=h a AN;have h2:=ih fun s hs=>h s (AI _ hs);cases r with
  |nil=>simp[Lib.join,List.intercalate];omega
  |cons b r=>
   have e:Lib.join (a::b::r) sep=a++(sep++Lib.join (b::r) sep):=by simp[Lib.join,List.intercalate,List.intersperse]
   rw[e];simp only[A7,AD]at h2 ⊢;have e2:(r.length+1+1)*(m+sep.length)=(r.length+1)*(m+sep.length)+(m+sep.length):=by rw[CT (r.length+1)];omega
   rw[e2];omega
theorem AMb{xs:List E1}(h1:xs.length<=1048577)(h2:∀s∈xs,s.length<=1048576):(Lib.join xs [47]).length<=1099513724929:=by
 have h:=tU [47] 1048576 xs h2;have:xs.length*(1048576+[(47:UInt8)].length)<=1048577*(1048576+1):=Nat.mul_le_mul h1 (AM _);omega
theorem SS(x:(List E1)×E1)(h:x.1.length<=140737488355328/\(Lib.join x.1 x.2).length<=140737488355328):Tot (strings_Join x) (fun r=>r=Lib.join x.1 x.2):=by
 unfold strings_Join HZ;rw[A6 h];exact E3.2 rfl
theorem gq0{p:Prop}(h:p:=by grind[EE,ED,EH,E9,E5,EG,EF,EC]):p:=h
theorem gq1{p:Prop}(h:p:=by grind[EE,ED,EH,E9,E5,EG,EF,EC,EI,EJ]):p:=h
theorem gq2{p:Prop}(h:p:=by grind[EE,ED,EH,E9,E5,EG,EF,EC,EI,EJ,ES,EQ,EV,EW,EX,EY,EZ]):p:=h
theorem AMc(x:E1×Int×Int)(h:0<=x.2.2/\x.2.2<=x.2.1/\x.2.1=x.1.length/\x.2.1<=281474976710656):Tot (nT x) (fun r:Sum (Unit) (Bool)=>True):=by
 refine F7 (R:=fun r:Sum (Unit) (Bool)=>True) (fun y:E1×Int×Int=>(0<=y.2.2/\y.2.2<=y.2.1/\y.2.1=y.1.length/\y.2.1<=281474976710656)) (fun y:E1×Int×Int=>(y.2.1-y.2.2).toNat) ?_ _ _ (by grind) (by unfold fuel;grind);rintro next ⟨s_0,t6,t7⟩ h hn
 try dsimp only at h hn
 unfold A0k
 repeat' first
  |(with_reducible first|refine E4.2 ⟨fun _=>?_,fun _=>?_⟩|refine E2.2 ?_|refine E3.2 ?_|refine F4.2 ⟨?_,fun _ _=>?_⟩|refine hn _ ?_ ?_)
  |dsimp only
 all_goals exact gq0
theorem fR(x:E1)(h:x.length<=1048576):Tot (SB x) (fun r:Bool=>True):=by
 unfold SB
 repeat' first
  |(with_reducible first|refine E2.2 ?_|refine E3.2 ?_|refine(AMc _ ?_).mono fun _ _=>?_)
  |split
  |dsimp only
 all_goals exact gq0
theorem AMd(x:(List Int)×Int×Int)(h:0<=x.2.2/\x.2.2<=x.2.1/\x.2.1=x.1.length/\x.2.1<=281474976710656):Tot (lK x) (fun r:List Int=>r.length=x.1.length):=by
 refine F7 (R:=fun r:List Int=>r.length=x.1.length) (fun y:(List Int)×Int×Int=>(0<=y.2.2/\y.2.2<=y.2.1/\y.2.1=y.1.length/\y.2.1<=281474976710656)/\y.1.length=x.1.length) (fun y:(List Int)×Int×Int=>(y.2.1-y.2.2).toNat) ?_ _ _ (by grind) (by unfold fuel;grind);rintro next ⟨b_3,t9,t10⟩ h hn
 try dsimp only at h hn
 unfold zQ
 repeat' first
  |(with_reducible first|refine E4.2 ⟨fun _=>?_,fun _=>?_⟩|refine E2.2 ?_|refine E3.2 ?_|refine FJ.2 ⟨?_,?_⟩|refine hn _ ?_ ?_)
  |dsimp only
 all_goals exact gq0
theorem tV(x:E1)(h:x.length<=1048576):Tot (P9 x) (fun r:E1=>r.length=x.length):=by
 unfold P9
 repeat' first
  |(with_reducible first|refine E2.2 ?_|refine E3.2 ?_|refine F4.2 ⟨?_,fun _ _=>?_⟩|refine G6.2 ⟨?_,?_⟩|refine(AMd _ ?_).mono fun _ _=>?_)
  |dsimp only
 all_goals exact gq0
theorem ST(x:FA×Int)(h:True):Tot (NA x) (fun r:E1×Int×Int=>r.1=x.1.1/\r.2.1=x.1.2.1/\(0<=x.2->0<=r.2.2)):=by
 obtain⟨r_0,at_1⟩:=x;try dsimp only at h ⊢
 unfold NA
 repeat' first
  |(with_reducible first|refine E4.2 ⟨fun _=>?_,fun _=>?_⟩|refine E3.2 ?_)
  |dsimp only
 all_goals exact gq0
theorem SU(x:Option FA)(h:∃y,x=some y/\0<=y.2.1):Tot (MJ x) (fun r:Int=>0<=r/\(r=0\/∃y,x=some y/\y.2.1<y.1.length)):=by
 unfold MJ;obtain⟨y,rfl,h⟩:=h
 repeat' first
  |(with_reducible first|refine E4.2 ⟨fun _=>?_,fun _=>?_⟩|refine E2.2 ?_|refine E3.2 ?_|refine F4.2 ⟨?_,fun _ _=>?_⟩)
  |dsimp only
 all_goals exact gq0
theorem A6o(x:Int)(h:True):Tot (U_ x) (fun r:Bool=>True):=by
 unfold U_
 repeat' first
  |with_reducible refine E3.2 ?_
  |dsimp only
 all_goals exact gq0
theorem AMe(x:FA×Int)(h:0<=x.2/\x.2<=(4:Int)/\(4:Int)<=281474976710656/\x.1.1.length<=1048576/\0<=x.1.2.1/\x.1.2.1<=x.1.1.length/\x.2<=x.1.1.length):Tot (lL x) (fun r:Sum FA (FA×E1)=>match r with| .inl q=>q=x.1/\4<=x.1.1.length| .inr q=>q.1.1=x.1.1/\q.1.2.1=x.1.2.1/\q.2=[]):=by
 refine F7 (R:=fun r:Sum FA (FA×E1)=>match r with| .inl q=>q=x.1/\4<=x.1.1.length| .inr q=>q.1.1=x.1.1/\q.1.2.1=x.1.2.1/\q.2=[]) (fun y:FA×Int=>(0<=y.2/\y.2<=(4:Int)/\(4:Int)<=281474976710656/\y.1.1.length<=1048576/\0<=y.1.2.1/\y.1.2.1<=y.1.1.length/\y.2<=y.1.1.length)/\y.1=x.1) (fun y:FA×Int=>((4:Int)-y.2).toNat) ?_ _ _ (by grind) (by unfold fuel;grind);rintro next ⟨r_0,t7⟩ h hn
 try dsimp only at h hn
 unfold zR
 repeat' first
  |(with_reducible first|refine E4.2 ⟨fun _=>?_,fun _=>?_⟩|refine E2.2 ?_|refine E3.2 ?_|refine HG.2 ⟨?_,?_⟩|refine(tV _ ?_).mono fun _ _=>?_|refine(ST _ ?_).mono fun _ _=>?_|refine hn _ ?_ ?_)
  |dsimp only
 all_goals exact gq0
theorem AMf(x:E1×Int×Int)(h:x.1.length<=1048576/\0<=x.2.1/\x.2.1<=x.1.length):Tot (lM x) (fun r:E1×Int×Int=>r.1=x.1/\r.2.2=x.2.2/\x.2.1<=r.2.1/\r.2.1<=r.1.length):=by
 refine F7 (R:=fun r:E1×Int×Int=>r.1=x.1/\r.2.2=x.2.2/\x.2.1<=r.2.1/\r.2.1<=r.1.length) (fun y:E1×Int×Int=>(y.1.length<=1048576/\0<=y.2.1/\y.2.1<=y.1.length)/\y.1=x.1/\y.2.2=x.2.2/\x.2.1<=y.2.1) (fun y:E1×Int×Int=>(y.1.length-y.2.1).toNat) ?_ _ _ (by grind) (by unfold fuel;grind);rintro next r_0 h hn
 try dsimp only at h hn
 unfold zS
 repeat' first
  |(with_reducible first|refine E4.2 ⟨fun _=>?_,fun _=>?_⟩|refine E2.2 ?_|refine E3.2 ?_|refine F4.2 ⟨?_,fun _ _=>?_⟩|refine(A6o _ ?_).mono fun _ _=>?_|refine hn _ ?_ ?_)
  |dsimp only
 all_goals exact gq0
theorem AMg(x:FA×Bool)(h:x.1.1.length<=1048576/\0<=x.1.2.1/\x.1.2.1<=x.1.1.length/\(x.2=true->x.1.2.1<x.1.1.length)):Tot (ZY x) (fun r:E1×Int×Int=>r.1=x.1.1/\x.1.2.1<=r.2.1/\r.2.1<=r.1.length):=by
 obtain⟨r_0,t45⟩:=x;try dsimp only at h ⊢
 unfold ZY
 repeat' first
  |(with_reducible first|refine E4.2 ⟨fun _=>?_,fun _=>?_⟩|refine E2.2 ?_|refine E3.2 ?_|refine(AMf _ ?_).mono fun _ _=>?_)
  |dsimp only
 all_goals exact gq0
theorem AMh(x:FA×Bool)(h:x.1.1.length<=1048576/\0<=x.1.2.1/\x.1.2.1<=x.1.1.length):Tot (ZZ x) (fun r:E1×FA=>r.2.1=x.1.1/\0<=r.2.2.1/\r.2.2.1<=x.1.1.length/\r.1.length<=x.1.1.length):=by
 obtain⟨r_0,star_1⟩:=x;try dsimp only at h ⊢
 unfold ZZ
 repeat' first
  |(with_reducible first|refine E4.2 ⟨fun _=>?_,fun _=>?_⟩|refine E2.2 ?_|refine E3.2 ?_|refine HG.2 ⟨?_,?_⟩|refine(AMe _ ?_).mono fun _ _=>?_|refine(SU _ ?_).mono fun _ _=>?_|refine(AMg _ ?_).mono fun _ _=>?_|refine(ST _ ?_).mono fun _ _=>?_|refine(tV _ ?_).mono fun _ _=>?_)
  |split
  |dsimp only
 all_goals exact gq0
theorem AMi(x:Int)(h:0<=x/\x<=255):Tot (Z_ x) (fun r:Int=>-1<=r/\r<=15):=by
 unfold Z_
 repeat' first
  |(with_reducible first|refine E4.2 ⟨fun _=>?_,fun _=>?_⟩|refine E3.2 ?_)
  |dsimp only
 all_goals exact gq0
theorem AMj(x:FA×Int×Int×Bool)(h:x.1.1.length<=1048576/\0<=x.1.2.1/\x.1.2.1<=x.1.1.length/\1<=x.2.1/\x.2.1<=2/\x.2.2.1= -1/\(x.2.2.2=true->x.1.2.1+x.2.1<x.1.1.length)):Tot (aA x) (fun r:FA×Int=>r.1=x.1/\(x.2.2.2=true\/r.2= -1)):=by
 obtain⟨r_0,i_6,d_7,t63⟩:=x;try dsimp only at h ⊢
 unfold aA
 repeat' first
  |(with_reducible first|refine E4.2 ⟨fun _=>?_,fun _=>?_⟩|refine E2.2 ?_|refine E3.2 ?_|refine F4.2 ⟨?_,fun _ _=>?_⟩|refine(AMi _ ?_).mono fun _ _=>?_)
  |dsimp only
 all_goals exact gq0
theorem AMk(x:FA×Int×Int)(h:x.1.1.length<=1048576/\0<=x.1.2.1/\x.1.2.1<=x.1.1.length/\1<=x.2.2/\x.2.2<=3/\x.1.2.1+x.2.2<=x.1.1.length):Tot (lN x) (fun r:Sum (FA×Int) (FA×Int×Bool)=>match r with| .inl q=>q.1=x.1/\x.1.2.1+3<=x.1.1.length| .inr q=>q.1.1=x.1.1/\q.1.2.1=x.1.2.1/\q.2.2=false):=by
 refine F7 (R:=fun r:Sum (FA×Int) (FA×Int×Bool)=>match r with| .inl q=>q.1=x.1/\x.1.2.1+3<=x.1.1.length| .inr q=>q.1.1=x.1.1/\q.1.2.1=x.1.2.1/\q.2.2=false) (fun y:FA×Int×Int=>(y.1.1.length<=1048576/\0<=y.1.2.1/\y.1.2.1<=y.1.1.length/\1<=y.2.2/\y.2.2<=3/\y.1.2.1+y.2.2<=y.1.1.length)/\y.1=x.1) (fun y:FA×Int×Int=>(3-y.2.2).toNat) ?_ _ _ (by grind) (by unfold fuel;grind);rintro next ⟨r_0,n_5,i_6⟩ h hn
 try dsimp only at h hn
 unfold zT
 repeat' first
  |(with_reducible first|refine E4.2 ⟨fun _=>?_,fun _=>?_⟩|refine E2.2 ?_|refine E3.2 ?_|refine(AMj _ ?_).mono fun _ _=>?_|refine(ST _ ?_).mono fun _ _=>?_|refine hn _ ?_ ?_)
  |dsimp only
 all_goals exact gq0
theorem AMl(x:E1×Int×Int)(h:x.1.length<=1048576/\0<=x.2.1/\x.2.1<=x.1.length):Tot (aB x) (fun r:Int×Bool×FA=>r.2.2.1=x.1/\x.2.1<=r.2.2.2.1/\r.2.2.2.1<=x.1.length/\(r.2.1=true->x.2.1<r.2.2.2.1)):=by
 unfold aB
 repeat' first
  |(with_reducible first|refine E4.2 ⟨fun _=>?_,fun _=>?_⟩|refine E2.2 ?_|refine E3.2 ?_|refine F4.2 ⟨?_,fun _ _=>?_⟩|refine(P_ _ ?_).mono fun _ _=>?_|refine(AMk _ ?_).mono fun _ _=>?_)
  |split
  |dsimp only
 all_goals exact gq0
theorem AMm(x:FA×(List Int))(h:x.1.1.length<=1048576/\0<=x.1.2.1/\x.1.2.1<=x.1.1.length/\x.2.length<=x.1.2.1):Tot (lO x) (fun r:FA×(List Int)=>r.1.1=x.1.1/\x.1.2.1<=r.1.2.1/\r.1.2.1<=x.1.1.length/\r.2.length<=r.1.2.1):=by
 refine F7 (R:=fun r:FA×(List Int)=>r.1.1=x.1.1/\x.1.2.1<=r.1.2.1/\r.1.2.1<=x.1.1.length/\r.2.length<=r.1.2.1) (fun y:FA×(List Int)=>(y.1.1.length<=1048576/\0<=y.1.2.1/\y.1.2.1<=y.1.1.length/\y.2.length<=y.1.2.1)/\y.1.1=x.1.1/\x.1.2.1<=y.1.2.1) (fun y:FA×(List Int)=>(y.1.1.length-y.1.2.1).toNat) ?_ _ _ (by grind) (by unfold fuel;grind);rintro next ⟨r_0,b_3⟩ h hn
 try dsimp only at h hn
 unfold zU
 repeat' first
  |(with_reducible first|refine E4.2 ⟨fun _=>?_,fun _=>?_⟩|refine E2.2 ?_|refine E3.2 ?_|refine G7.2 ⟨?_,?_⟩|refine(AMl _ ?_).mono fun _ _=>?_|refine hn _ ?_ ?_)
  |dsimp only
 all_goals exact gq0
theorem fS(x:E1×Int×Int)(h:x.1.length<=1048576/\0<=x.2.1/\x.2.1<=x.1.length):Tot (PA x) (fun r:E1×FA=>r.2.1=x.1/\x.2.1<=r.2.2.1/\r.2.2.1<=x.1.length/\r.1.length<=x.1.length):=by
 unfold PA
 repeat' first
  |(with_reducible first|refine E4.2 ⟨fun _=>?_,fun _=>?_⟩|refine E2.2 ?_|refine E3.2 ?_|refine F4.2 ⟨?_,fun _ _=>?_⟩|refine G6.2 ⟨?_,?_⟩|refine(AMm _ ?_).mono fun _ _=>?_|refine(ST _ ?_).mono fun _ _=>?_)
  |dsimp only
 all_goals exact gq0
theorem AMn(x:FA×(List E1))(h:x.1.1.length<=1048576/\0<=x.1.2.1/\x.1.2.1<=x.1.1.length/\x.2.length<=x.1.2.1+1/\∀s∈x.2,s.length<=1048576):Tot (lP x) (fun r:FA×(List E1)=>r.1.1=x.1.1/\x.1.2.1<=r.1.2.1/\r.1.2.1<=x.1.1.length/\x.2.length<=r.2.length/\r.2.length<=1048577/\∀s∈r.2,s.length<=1048576):=by
 refine F7 (R:=fun r:FA×(List E1)=>r.1.1=x.1.1/\x.1.2.1<=r.1.2.1/\r.1.2.1<=x.1.1.length/\x.2.length<=r.2.length/\r.2.length<=1048577/\∀s∈r.2,s.length<=1048576) (fun y:FA×(List E1)=>(y.1.1.length<=1048576/\0<=y.1.2.1/\y.1.2.1<=y.1.1.length/\y.2.length<=y.1.2.1+1/\∀s∈y.2,s.length<=1048576)/\y.1.1=x.1.1/\x.1.2.1<=y.1.2.1/\x.2.length<=y.2.length) (fun y:FA×(List E1)=>(y.1.1.length-y.1.2.1).toNat) ?_ _ _ (by grind) (by unfold fuel;grind);rintro next ⟨r_0,l_3⟩ h hn
 try dsimp only at h hn
 unfold zV
 repeat' first
  |(with_reducible first|refine E4.2 ⟨fun _=>?_,fun _=>?_⟩|refine E2.2 ?_|refine E3.2 ?_|refine G7.2 ⟨?_,?_⟩|refine(SU _ ?_).mono fun _ _=>?_|refine(fS _ ?_).mono fun _ _=>?_|refine hn _ ?_ ?_)
  |dsimp only
 all_goals exact gq0
theorem A6p(x:E1×Int×Int)(h:x.1.length<=1048576/\0<=x.2.1/\x.2.1<=x.1.length):Tot (V0 x) (fun r:(List E1)×FA=>r.2.1=x.1/\x.2.1<=r.2.2.1/\r.2.2.1<=x.1.length/\1<=r.1.length/\r.1.length<=1048577/\∀s∈r.1,s.length<=1048576):=by
 unfold V0
 repeat' first
  |(with_reducible first|refine E2.2 ?_|refine E3.2 ?_|refine(fS _ ?_).mono fun _ _=>?_|refine(AMn _ ?_).mono fun _ _=>?_)
  |dsimp only
 all_goals exact gq0
theorem A6q(x:Int×Bool)(h:True):Tot (V1 x) (fun r:Bool=>True):=by
 obtain⟨c_0,first_1⟩:=x;try dsimp only at h ⊢
 unfold V1
 repeat' first
  |(with_reducible first|refine E4.2 ⟨fun _=>?_,fun _=>?_⟩|refine E3.2 ?_)
  |dsimp only
 all_goals exact gq0
theorem AMo(x:FA×Int)(h:x.1.1.length<=1048576/\0<=x.1.2.1/\x.1.2.1<=x.1.1.length):Tot (lQ x) (fun r:E1×Int×Int=>r.1=x.1.1/\x.1.2.1<=r.2.1/\r.2.1<=x.1.1.length):=by
 refine F7 (R:=fun r:E1×Int×Int=>r.1=x.1.1/\x.1.2.1<=r.2.1/\r.2.1<=x.1.1.length) (fun y:FA×Int=>(y.1.1.length<=1048576/\0<=y.1.2.1/\y.1.2.1<=y.1.1.length)/\y.1.1=x.1.1/\y.1.2.2=x.1.2.2/\x.1.2.1<=y.1.2.1) (fun y:FA×Int=>(y.1.1.length-y.1.2.1).toNat) ?_ _ _ (by grind) (by unfold fuel;grind);rintro next ⟨r_0,from_3⟩ h hn
 try dsimp only at h hn
 unfold zW
 repeat' first
  |(with_reducible first|refine E4.2 ⟨fun _=>?_,fun _=>?_⟩|refine E2.2 ?_|refine E3.2 ?_|refine F4.2 ⟨?_,fun _ _=>?_⟩|refine(A6q _ ?_).mono fun _ _=>?_|refine hn _ ?_ ?_)
  |dsimp only
 all_goals exact gq0
theorem AMp(x:E1×Int×Int)(h:x.1.length<=1048576/\0<=x.2.1/\x.2.1<=x.1.length):Tot (aC x) (fun r:(E1×E1)×FA=>r.2.1=x.1/\x.2.1<=r.2.2.1/\r.2.2.1<=x.1.length/\r.1.1.length<=1048576/\r.1.2.length<=1048576):=by
 unfold aC
 repeat' first
  |(with_reducible first|refine E4.2 ⟨fun _=>?_,fun _=>?_⟩|refine E2.2 ?_|refine E3.2 ?_|refine HG.2 ⟨?_,?_⟩|refine(AMo _ ?_).mono fun _ _=>?_|refine(SU _ ?_).mono fun _ _=>?_|refine(ST _ ?_).mono fun _ _=>?_|refine(fS _ ?_).mono fun _ _=>?_)
  |dsimp only
 all_goals exact gq0
theorem AMq(x:FA×HF×Bool)(h:x.1.1.length<=1048576/\0<=x.1.2.1/\x.1.2.1<=x.1.1.length/\(x.2.2=true->x.1.2.1<x.1.1.length)/\x.2.1.2.2.2.1.length<=1048576):Tot (aD x) (fun r:FA×HF=>r.1.1=x.1.1/\x.1.2.1<=r.1.2.1/\r.1.2.1<=x.1.1.length/\r.2.1=x.2.1.1/\r.2.2.1=x.2.1.2.1/\r.2.2.2.1=x.2.1.2.2.1/\r.2.2.2.2.1.length<=1048576/\r.2.2.2.2.2=x.2.1.2.2.2.2):=by
 obtain⟨r_0,p_3,t40⟩:=x;try dsimp only at h ⊢
 unfold aD
 repeat' first
  |(with_reducible first|refine E4.2 ⟨fun _=>?_,fun _=>?_⟩|refine E2.2 ?_|refine E3.2 ?_|refine(fS _ ?_).mono fun _ _=>?_)
  |dsimp only
 all_goals exact gq0
theorem AMr(x:FA×HF×Int)(h:x.1.1.length<=1048576/\0<=x.1.2.1/\x.1.2.1<=x.1.1.length/\x.2.1.2.2.2.2.1.length<=x.1.2.1/\x.2.2≠0/\∀q∈x.2.1.2.2.2.2.1,q.1.length<=1048576/\q.2.length<=1048576):Tot (lR x) (fun r:FA×HF=>r.1.1=x.1.1/\x.1.2.1<=r.1.2.1/\r.1.2.1<=x.1.1.length/\r.2.1=x.2.1.1/\r.2.2.1=x.2.1.2.1/\r.2.2.2.1=x.2.1.2.2.1/\r.2.2.2.2.1=x.2.1.2.2.2.1/\r.2.2.2.2.2.2=x.2.1.2.2.2.2.2/\r.2.2.2.2.2.1.length<=1048576/\∀q∈r.2.2.2.2.2.1,q.1.length<=1048576/\q.2.length<=1048576):=by
 refine F7 (R:=fun r:FA×HF=>r.1.1=x.1.1/\x.1.2.1<=r.1.2.1/\r.1.2.1<=x.1.1.length/\r.2.1=x.2.1.1/\r.2.2.1=x.2.1.2.1/\r.2.2.2.1=x.2.1.2.2.1/\r.2.2.2.2.1=x.2.1.2.2.2.1/\r.2.2.2.2.2.2=x.2.1.2.2.2.2.2/\r.2.2.2.2.2.1.length<=1048576/\∀q∈r.2.2.2.2.2.1,q.1.length<=1048576/\q.2.length<=1048576) (fun y:FA×HF×Int=>(y.1.1.length<=1048576/\0<=y.1.2.1/\y.1.2.1<=y.1.1.length/\y.2.1.2.2.2.2.1.length<=y.1.2.1/\y.2.2≠0/\∀q∈y.2.1.2.2.2.2.1,q.1.length<=1048576/\q.2.length<=1048576)/\y.1.1=x.1.1/\y.2.1.1=x.2.1.1/\y.2.1.2.1=x.2.1.2.1/\y.2.1.2.2.1=x.2.1.2.2.1/\y.2.1.2.2.2.1=x.2.1.2.2.2.1/\y.2.1.2.2.2.2.2=x.2.1.2.2.2.2.2/\x.1.2.1<=y.1.2.1) (fun y:FA×HF×Int=>(y.1.1.length-y.1.2.1).toNat) ?_ _ _ (by grind) (by unfold fuel;grind);rintro next ⟨r_0,p_3,sign_5⟩ h hn
 try dsimp only at h hn
 unfold zX
 repeat' first
  |(with_reducible first|refine E4.2 ⟨fun _=>?_,fun _=>?_⟩|refine E2.2 ?_|refine E3.2 ?_|refine G7.2 ⟨?_,?_⟩|refine(SU _ ?_).mono fun _ _=>?_|refine(AMp _ ?_).mono fun _ _=>?_|refine hn _ ?_ ?_)
  |dsimp only
 all_goals exact gq0
theorem fT{k:IntKind}{a b:Int}{Q:Int->Prop}:Tot (div? k a b) Q<->b≠0/\Q (k.wrap (a.tdiv b)):=by
 unfold div? Tot;by_cases h:b=0
 ·subst h;simp
 ·have e:(b==0)=false:=by simpa using h
  rw[e];simp[h]
theorem A6r{a b:Int}{Q:Int->Prop}:Tot (mod? a b) Q<->b≠0/\Q (a.tmod b):=by
 unfold mod? Tot;by_cases h:b=0
 ·subst h;simp
 ·have e:(b==0)=false:=by simpa using h
  rw[e];simp[h]
theorem AMs{a:Int}(h0:0<=a)(h1:a<=255):0<=a.tdiv 16/\a.tdiv 16<=15:=by rw[Int.tdiv_eq_ediv_of_nonneg h0];omega
theorem AMt{a:Int}(h0:0<=a)(h1:a<=255):0<=a.tmod 16/\a.tmod 16<=15:=by rw[Int.tmod_eq_emod_of_nonneg h0];omega
theorem AMu(b:UInt8):0<=((b.toNat:Int)).tdiv 16/\((b.toNat:Int)).tdiv 16<=15:=AMs (by omega) (by have:=EC b;omega)
theorem AMv(b:UInt8):0<=((b.toNat:Int)).tmod 16/\((b.toNat:Int)).tmod 16<=15:=AMt (by omega) (by have:=EC b;omega)
theorem EI{α:Type}{l:List α}{i:Nat}{d:α}:i<l.length->l.getD i d∈l:=fun h=>by
 rw[A2,A1 h];exact BA h
theorem EJ{α:Type}{l:List α}{i:Nat}{a b:α}:a∈l.set i b->a∈l\/a=b:=List.mem_or_eq_of_mem_set
theorem A6s(x:E1×E1)(h:x.1.length<4294967281/\1<=x.2.length):Tot (strings_Split x) (fun r:List E1=>r.length<=x.1.length+2/\∀s∈r,s.length<=x.1.length):=by
 unfold strings_Split HZ;rw[A6 h];refine E3.2 ⟨?_,?_⟩
 ·rw[AL];have h1:=Lib.splitB_length_le ⟨x.2.toArray⟩ 0 (Lib.countB ⟨x.1.toArray⟩ ⟨x.2.toArray⟩) ⟨x.1.toArray⟩;have h2:Lib.countB ⟨x.1.toArray⟩ ⟨x.2.toArray⟩<=x.1.length+1:=Lib.count_le x.1 x.2;omega
 ·intro s hs;obtain⟨b,hb,rfl⟩:=B_.1 hs
  have:∀(k:Nat) (s:ByteArray),∀y∈Lib.splitB ⟨x.2.toArray⟩ 0 k s,y.size<=s.size:=by
   intro k;induction k with
   |zero=>intro s y hy;rw[Lib.splitB_zero,AQ]at hy;subst hy;exact AM _
   |succ k ih=>
    intro s y hy;unfold Lib.splitB at hy;split at hy
    ·rw[AQ]at hy;subst hy;exact AM _
    ·rcases B6.1 hy with rfl|hy
     ·rw[D4];omega
     ·have:=ih _ y hy;rw[D4]at this;omega
  have:=this _ _ b hb;have e:(⟨x.1.toArray⟩:ByteArray).size=x.1.length:=rfl;rw[e]at this;exact this
theorem A6t(x:List Int)(h:True):Tot (ZU x) (fun r:List Int=>r=x):=E3.2 rfl
theorem Q0(x:List Int)(h:True):Tot (N7 x) (fun r:E1=>r.length=x.length):=E3.2 (ED x)
theorem AMw(x:FA×HF×Bool)(h:x.1.1.length<=1048576/\0<=x.1.2.1/\x.1.2.1<=x.1.1.length/\(x.2.2=true->x.1.2.1<x.1.1.length)/\x.2.1.2.2.2.2.2.length<=1048576):Tot (aF x) (fun r:FA×HF=>r.1.1=x.1.1/\x.1.2.1<=r.1.2.1/\r.1.2.1<=x.1.1.length/\r.2.1=x.2.1.1/\r.2.2.1=x.2.1.2.1/\r.2.2.2.1=x.2.1.2.2.1/\r.2.2.2.2.1=x.2.1.2.2.2.1/\r.2.2.2.2.2.1=x.2.1.2.2.2.2.1/\r.2.2.2.2.2.2.length<=1099513724929):=by
 obtain⟨r_0,p_3,t97⟩:=x;try dsimp only at h ⊢
 unfold aF
 repeat' first
  |(with_reducible first|refine E4.2 ⟨fun _=>?_,fun _=>?_⟩|refine E2.2 ?_|refine E3.2 ?_|refine(A6p _ ?_).mono fun _ _=>?_|refine(SS _ ?_).mono fun _ _=>?_)
  |dsimp only
 all_goals grind[EE,ED,EH,E9,E5,EG,EF,EC,EI,EJ,AMb]
theorem A6u(x:Unit)(h:True):Tot (aO x) (fun r=>r.length=5/\∀z∈r,z.1.length<=20):=⟨_,rfl,rfl,by decide⟩
theorem AMx(x:E1×(List P7)×Int)(h:0<=x.2.2/\x.2.2<=(5:Int)/\x.2.1.length=(5:Int)/\(5:Int)<=281474976710656/\∀z∈x.2.1,z.1.length<=20):Tot (mA x) (fun r:Sum (Unit) (Int)=>match r with| .inl _=>True| .inr r=>0<=r/\r<5/\x.1.length<=20):=by
 refine F7 (R:=fun r:Sum (Unit) (Int)=>match r with| .inl _=>True| .inr r=>0<=r/\r<5/\x.1.length<=20) (fun y:E1×(List P7)×Int=>(0<=y.2.2/\y.2.2<=(5:Int)/\y.2.1.length=(5:Int)/\(5:Int)<=281474976710656/\∀z∈y.2.1,z.1.length<=20)/\y.1=x.1) (fun y:E1×(List P7)×Int=>((5:Int)-y.2.2).toNat) ?_ _ _ (by grind) (by unfold fuel;grind);rintro next ⟨kind_0,t5,t6⟩ h hn
 try dsimp only at h hn
 unfold A09
 repeat' first
  |(with_reducible first|refine E4.2 ⟨fun _=>?_,fun _=>?_⟩|refine E2.2 ?_|refine E3.2 ?_|refine F4.2 ⟨?_,fun _ _=>?_⟩|refine hn _ ?_ ?_)
  |dsimp only
 all_goals exact gq1
theorem AMy(x:E1)(h:True):Tot (aP x) (fun r:Int=>r<5/\(0<=r->x.length<=20)):=by
 unfold aP
 repeat' first
  |(with_reducible first|refine E2.2 ?_|refine E3.2 ?_|refine(A6u _ ?_).mono fun _ _=>?_|refine(AMx _ ?_).mono fun _ _=>?_)
  |split
  |dsimp only
 all_goals exact gq1
theorem tW(x:E1)(h:True):Tot (S1 x) (fun r:P7×Int=>r.2=0->x.length<=20):=by
 unfold S1
 repeat' first
  |(with_reducible first|refine E4.2 ⟨fun _=>?_,fun _=>?_⟩|refine E2.2 ?_|refine E3.2 ?_|refine F4.2 ⟨?_,fun _ _=>?_⟩|refine(AMy _ ?_).mono fun _ _=>?_|refine(A6u _ ?_).mono fun _ _=>?_)
  |dsimp only
 all_goals exact gq1
theorem AMz(x:(List E1)×Int×Int)(h:0<=x.2.2/\x.2.2<=x.2.1/\x.2.1=x.1.length/\x.2.1<=281474976710656):Tot (mB x) (fun r:Sum (Unit) (Bool)=>match r with| .inl _=>(∀j:Nat,x.2.2<=j->∀s,x.1[j]?=some s->s.length<=200)| .inr r=>r=true):=by
 refine F7 (R:=fun r:Sum (Unit) (Bool)=>match r with| .inl _=>(∀j:Nat,x.2.2<=j->∀s,x.1[j]?=some s->s.length<=200)| .inr r=>r=true) (fun y:(List E1)×Int×Int=>(0<=y.2.2/\y.2.2<=y.2.1/\y.2.1=y.1.length/\y.2.1<=281474976710656)/\y.1=x.1/\(∀j:Nat,x.2.2<=j->(j:Int)<y.2.2->∀s,y.1[j]?=some s->s.length<=200)/\x.2.2<=y.2.2) (fun y:(List E1)×Int×Int=>(y.2.1-y.2.2).toNat) ?_ _ _ (by grind) (by unfold fuel;grind);rintro next ⟨t15,t16,t17⟩ h hn
 try dsimp only at h hn
 unfold A0A
 repeat' first
  |(with_reducible first|refine E4.2 ⟨fun _=>?_,fun _=>?_⟩|refine E2.2 ?_|refine E3.2 ?_|refine F4.2 ⟨?_,fun _ _=>?_⟩|refine hn _ ?_ ?_)
  |dsimp only
 all_goals exact gq1
theorem A6v{α:Type}{l:List α}{P:α->Prop}(h:∀j:Nat,(0:Int)<=j->∀s,l[j]?=some s->P s):∀s∈l,P s:=fun s hs=>let ⟨j,hj⟩:=D5 hs;h j (BC j) s hj
theorem AN0(x:E7×Int×Int)(h:0<=x.2.2/\x.2.2<=x.2.1/\x.2.1=x.1.length/\x.2.1<=281474976710656):Tot (mC x) (fun r:Sum (Unit) (Bool)=>match r with| .inl _=>(∀j:Nat,x.2.2<=j->∀s,x.1[j]?=some s->s.1.length<=200/\s.2.length<=200)| .inr r=>r=true):=by
 refine F7 (R:=fun r:Sum (Unit) (Bool)=>match r with| .inl _=>(∀j:Nat,x.2.2<=j->∀s,x.1[j]?=some s->s.1.length<=200/\s.2.length<=200)| .inr r=>r=true) (fun y:E7×Int×Int=>(0<=y.2.2/\y.2.2<=y.2.1/\y.2.1=y.1.length/\y.2.1<=281474976710656)/\y.1=x.1/\(∀j:Nat,x.2.2<=j->(j:Int)<y.2.2->∀s,y.1[j]?=some s->s.1.length<=200/\s.2.length<=200)/\x.2.2<=y.2.2) (fun y:E7×Int×Int=>(y.2.1-y.2.2).toNat) ?_ _ _ (by grind) (by unfold fuel;grind);rintro next ⟨t26,t27,t28⟩ h hn
 try dsimp only at h hn
 unfold A0B
 repeat' first
  |(with_reducible first|refine E4.2 ⟨fun _=>?_,fun _=>?_⟩|refine E2.2 ?_|refine E3.2 ?_|refine F4.2 ⟨?_,fun _ _=>?_⟩|refine hn _ ?_ ?_)
  |dsimp only
 all_goals exact gq1
theorem AN1(x:E1×E1×E1×E1×E7×E1)(h:x.2.2.2.2.1.length<=1048576):Tot (aQ x) (fun r:Bool=>r=false->(x.2.1.length<=200/\x.2.2.1.length<=200/\x.2.2.2.1.length<=200/\x.2.2.2.2.2.length<=200/\x.2.2.2.2.1.length<=10/\∀q∈x.2.2.2.2.1,q.1.length<=200/\q.2.length<=200)):=by
 unfold aQ;dsimp only;refine E2.2 ((AMz _ (by simp)).mono fun r hr=>?_);rcases r with r|r
 ·have hr:=A6v hr;refine E2.2 ((AN0 _ (by dsimp only;omega)).mono fun r2 hr2=>?_);rcases r2 with r2|r2
  ·have hr2:=A6v hr2;refine E3.2 fun he=>?_;have he:=AG he;refine⟨hr _ (by simp),hr _ (by simp),hr _ (by simp),hr _ (by simp),by omega,hr2⟩
  ·have hr2:r2=true:=hr2;subst hr2;exact E3.2 fun he=>by cases he
 ·have hr:r=true:=hr;subst hr;exact E3.2 fun he=>by cases he
theorem tX(x:E1)(h:x.length<4294967281):Tot (S2 x) (fun r:List E1=>r.length<=x.length+2/\∀s∈r,s.length<=x.length):=by
 unfold S2
 repeat' first
  |(with_reducible first|refine E4.2 ⟨fun _=>?_,fun _=>?_⟩|refine E2.2 ?_|refine E3.2 ?_|refine(A6s _ ?_).mono fun _ _=>?_)
  |dsimp only
 all_goals exact gq1
theorem AN2(x:Bool×(List E1)×Int×Int)(h:0<=x.2.2.2/\x.2.2.2<=x.2.2.1/\x.2.2.1=x.2.1.length/\x.2.2.1<=281474976710656):Tot (mD x) (fun r:Sum (Unit) (Bool)=>True):=by
 refine F7 (R:=fun r:Sum (Unit) (Bool)=>True) (fun y:Bool×(List E1)×Int×Int=>(0<=y.2.2.2/\y.2.2.2<=y.2.2.1/\y.2.2.1=y.2.1.length/\y.2.2.1<=281474976710656)) (fun y:Bool×(List E1)×Int×Int=>(y.2.2.1-y.2.2.2).toNat) ?_ _ _ (by grind) (by unfold fuel;grind);rintro next ⟨dots_1,t7,t8,t9⟩ h hn
 try dsimp only at h hn
 unfold A0C
 repeat' first
  |(with_reducible first|refine E4.2 ⟨fun _=>?_,fun _=>?_⟩|refine E2.2 ?_|refine E3.2 ?_|refine F4.2 ⟨?_,fun _ _=>?_⟩|refine hn _ ?_ ?_)
  |dsimp only
 all_goals exact gq1
theorem A6w(x:(List E1)×Bool)(h:x.1.length<=1048576):Tot (V4 x) (fun r:Bool=>True):=by
 obtain⟨l_0,dots_1⟩:=x;try dsimp only at h ⊢
 unfold V4
 repeat' first
  |(with_reducible first|refine E2.2 ?_|refine E3.2 ?_|refine(AN2 _ ?_).mono fun _ _=>?_)
  |split
  |dsimp only
 all_goals exact gq1
theorem AN3(x:E1×Int×Int)(h:0<=x.2.2/\x.2.2<=x.2.1/\x.2.1=x.1.length/\x.2.1<=281474976710656):Tot (mE x) (fun r:Sum (Unit) (Bool)=>True):=by
 refine F7 (R:=fun r:Sum (Unit) (Bool)=>True) (fun y:E1×Int×Int=>(0<=y.2.2/\y.2.2<=y.2.1/\y.2.1=y.1.length/\y.2.1<=281474976710656)) (fun y:E1×Int×Int=>(y.2.1-y.2.2).toNat) ?_ _ _ (by grind) (by unfold fuel;grind);rintro next ⟨s_0,t5,t6⟩ h hn
 try dsimp only at h hn
 unfold A0D
 repeat' first
  |(with_reducible first|refine E4.2 ⟨fun _=>?_,fun _=>?_⟩|refine E2.2 ?_|refine E3.2 ?_|refine F4.2 ⟨?_,fun _ _=>?_⟩|refine(A6q _ ?_).mono fun _ _=>?_|refine hn _ ?_ ?_)
  |dsimp only
 all_goals exact gq1
theorem AN4(x:E1)(h:x.length<=1048576):Tot (aR x) (fun r:Bool=>True):=by
 unfold aR
 repeat' first
  |(with_reducible first|refine E2.2 ?_|refine E3.2 ?_|refine(AN3 _ ?_).mono fun _ _=>?_)
  |split
  |dsimp only
 all_goals exact gq1
theorem AN5(x:E7×E7×Int×Int)
 (h:0<=x.2.2.2/\x.2.2.2<=x.2.2.1/\x.2.2.1=x.2.1.length/\x.2.2.1<=281474976710656/\x.1.length=x.2.1.length/\∀q∈x.2.1,q.1.length<=1048576):Tot (mF x) (fun r=>True):=by
 refine F7 (fun x:E7×E7×Int×Int=>0<=x.2.2.2/\x.2.2.2<=x.2.2.1/\x.2.2.1=x.2.1.length/\x.2.2.1<=281474976710656/\x.1.length=x.2.1.length/\∀q∈x.2.1,q.1.length<=1048576)
  (fun x=>(x.2.2.1-x.2.2.2).toNat) ?_ _ _ h (by unfold fuel;omega)
 rintro next ⟨l_0,t5,t6,t7⟩ h hn
 dsimp only at h hn;obtain⟨h1,h2,h3,h4,h5,h6⟩:=h;unfold A0E;dsimp only;refine E4.2 ⟨fun hc=>?_,fun _=>E3.2 trivial⟩;have hc:=A9 hc;refine E2.2 (F4.2 ⟨⟨by omega,by omega⟩,fun y hy=>?_⟩);refine E2.2 ((AN4 _ (h6 _ (AP hy))).mono fun r _=>?_);refine E4.2 ⟨fun _=>E3.2 trivial,fun _=>?_⟩;refine E4.2 ⟨fun _=>E3.2 trivial,fun _=>?_⟩;refine E2.2 (Tot.mono (P:=fun _=>True) ?_ fun y3 _=>?_)
 ·refine E4.2 ⟨fun hd=>?_,fun _=>E3.2 trivial⟩;have hd:=A9 hd;rw[E_ (by omega) (by omega)];exact F4.2 ⟨⟨by omega,by omega⟩,fun _ _=>trivial⟩
 ·refine E4.2 ⟨fun _=>E3.2 trivial,fun _=>?_⟩;rw[E_ (n:=t7+1) (by omega) (by omega)];exact hn _ ⟨by dsimp only;omega,by dsimp only;omega,h3,h4,h5,h6⟩ (by dsimp only;omega)
theorem AN6(x:List (E1×E1))(h:x.length<=1048576/\∀q∈x,q.1.length<=1048576):Tot (aS x) (fun r:Int=>True):=by
 unfold aS
 repeat' first
  |(with_reducible first|refine E2.2 ?_|refine E3.2 ?_|refine(AN5 _ ?_).mono fun _ _=>?_)
  |split
  |dsimp only
 all_goals exact gq1
theorem AN7(x:E1×Int×Int)(h:0<=x.2.2/\x.2.2<=x.2.1/\x.2.1=x.1.length/\x.2.1<=281474976710656):Tot (mG x) (fun r:Sum (Unit) (Bool)=>True):=by
 refine F7 (R:=fun r:Sum (Unit) (Bool)=>True) (fun y:E1×Int×Int=>(0<=y.2.2/\y.2.2<=y.2.1/\y.2.1=y.1.length/\y.2.1<=281474976710656)) (fun y:E1×Int×Int=>(y.2.1-y.2.2).toNat) ?_ _ _ (by grind) (by unfold fuel;grind);rintro next ⟨s_0,t5,t6⟩ h hn
 try dsimp only at h hn
 unfold A0F
 repeat' first
  |(with_reducible first|refine E4.2 ⟨fun _=>?_,fun _=>?_⟩|refine E2.2 ?_|refine E3.2 ?_|refine F4.2 ⟨?_,fun _ _=>?_⟩|refine hn _ ?_ ?_)
  |dsimp only
 all_goals exact gq1
theorem A6x(x:E1)(h:x.length<=1048576):Tot (V5 x) (fun r:Bool=>True):=by
 unfold V5
 repeat' first
  |(with_reducible first|refine E2.2 ?_|refine E3.2 ?_|refine(AN7 _ ?_).mono fun _ _=>?_)
  |split
  |dsimp only
 all_goals exact gq1
theorem AN8(x:(List E1)×Int×Int)(h:0<=x.2.2/\x.2.2<=x.2.1/\x.2.1=x.1.length/\x.2.1<=281474976710656/\∀z∈x.1,z.length<=1048576):Tot (mH x) (fun r:Sum (Unit) (Int)=>∀z,r=.inr z->z=8):=by
 refine F7 (R:=fun r:Sum (Unit) (Int)=>∀z,r=.inr z->z=8) (fun y:(List E1)×Int×Int=>(0<=y.2.2/\y.2.2<=y.2.1/\y.2.1=y.1.length/\y.2.1<=281474976710656/\∀z∈y.1,z.length<=1048576)) (fun y:(List E1)×Int×Int=>(y.2.1-y.2.2).toNat) ?_ _ _ (by grind) (by unfold fuel;grind);rintro next ⟨t75,t76,t77⟩ h hn
 try dsimp only at h hn
 unfold A0G
 repeat' first
  |(with_reducible first|refine E4.2 ⟨fun _=>?_,fun _=>?_⟩|refine E2.2 ?_|refine E3.2 ?_|refine F4.2 ⟨?_,fun _ _=>?_⟩|refine(A6x _ ?_).mono fun _ _=>?_|refine hn _ ?_ ?_)
  |dsimp only
 all_goals exact gq1
theorem AN9(x:E7×Int×Int)(h:0<=x.2.2/\x.2.2<=x.2.1/\x.2.1=x.1.length/\x.2.1<=281474976710656/\∀z∈x.1,z.2.length<=1048576):Tot (mI x) (fun r:Sum (Unit) (Int)=>∀z,r=.inr z->z=8):=by
 refine F7 (R:=fun r:Sum (Unit) (Int)=>∀z,r=.inr z->z=8) (fun y:E7×Int×Int=>(0<=y.2.2/\y.2.2<=y.2.1/\y.2.1=y.1.length/\y.2.1<=281474976710656/\∀z∈y.1,z.2.length<=1048576)) (fun y:E7×Int×Int=>(y.2.1-y.2.2).toNat) ?_ _ _ (by grind) (by unfold fuel;grind);rintro next ⟨t85,t86,t87⟩ h hn
 try dsimp only at h hn
 unfold A0H
 repeat' first
  |(with_reducible first|refine E4.2 ⟨fun _=>?_,fun _=>?_⟩|refine E2.2 ?_|refine E3.2 ?_|refine F4.2 ⟨?_,fun _ _=>?_⟩|refine(A6x _ ?_).mono fun _ _=>?_|refine hn _ ?_ ?_)
  |dsimp only
 all_goals exact gq1
theorem A6y(x:Int)(h:True):Tot (V6 x) (fun r:Bool=>True):=by
 unfold V6
 repeat' first
  |with_reducible refine E3.2 ?_
  |dsimp only
 all_goals exact gq1
theorem W_(x:(List Int)×Int)(h:x.1.length<=1048576000):Tot (ML x) (fun r:Unit×(List Int)=>r.2.length=x.1.length+1):=by
 obtain⟨b_0,c_1⟩:=x;try dsimp only at h ⊢
 unfold ML
 repeat' first
  |(with_reducible first|refine E2.2 ?_|refine E3.2 ?_|refine G7.2 ⟨?_,?_⟩|refine(A6t _ ?_).mono fun _ _=>?_)
  |dsimp only
 all_goals exact gq1
theorem X0(x:(List Int)×E1)(h:x.1.length<=1048576000/\x.2.length<=1048576000):Tot (OA x) (fun r:Int×Unit×(List Int)=>r.2.2.length=x.1.length+x.2.length):=by
 obtain⟨b_0,s_1⟩:=x;try dsimp only at h ⊢
 unfold OA
 repeat' first
  |(with_reducible first|refine E2.2 ?_|refine E3.2 ?_|refine G7.2 ⟨?_,?_⟩|refine(A6t _ ?_).mono fun _ _=>?_)
  |dsimp only
 all_goals exact gq1
theorem ANA(x:E1×(List Int)×Int×Int)(h:0<=x.2.2.2/\x.2.2.2<=x.2.2.1/\x.2.2.1=x.1.length/\x.2.1.length<=x.2.2.2/\x.1.length<=1048576):Tot (mJ x) (fun r:List Int=>r.length<=x.1.length):=by
 refine F7 (R:=fun r:List Int=>r.length<=x.1.length) (fun y:E1×(List Int)×Int×Int=>y.1=x.1/\0<=y.2.2.2/\y.2.2.2<=y.2.2.1/\y.2.2.1=y.1.length/\y.2.1.length<=y.2.2.2/\y.1.length<=1048576)
  (fun y=>(y.2.2.1-y.2.2.2).toNat) ?_ _ _ ⟨rfl,h⟩ (by unfold fuel;omega)
 rintro next ⟨s_0,b_3,t6,t7⟩ h hn
 dsimp only at h hn;obtain⟨h0,h1,h2,h3,h4,h5⟩:=h;unfold A0I;dsimp only;refine E4.2 ⟨fun hc=>?_,fun hc=>E3.2 ?_⟩
 ·have hc:=A9 hc;have hw:i64.wrap (t7+1)=t7+1:=E_ (by omega) (by omega);rw[hw];refine E2.2 (F4.2 ⟨⟨h1,by omega⟩,fun b _=>?_⟩);refine E2.2 ((A6y _ trivial).mono fun r _=>?_);refine E4.2 ⟨fun _=>?_,fun _=>?_⟩
  ·refine E2.2 (F4.2 ⟨⟨h1,by omega⟩,fun b2 _=>?_⟩);refine E2.2 ((W_ _ (by dsimp only;omega)).mono fun r2 hr=>?_);dsimp only at hr;exact hn _ ⟨h0,by dsimp only;omega,by dsimp only;omega,h3,by dsimp only;omega,h5⟩ (by dsimp only;omega)
  ·refine E2.2 (Tot.mono (P:=fun _=>True) ?_ fun b5 _=>?_)
   ·refine E4.2 ⟨fun hd=>?_,fun _=>E3.2 trivial⟩
    have hd:t7≠0:=by
     rw[E5]at hd;simpa using hd
    rw[E_ (by omega) (by omega)];exact F4.2 ⟨⟨by omega,by omega⟩,fun _ _=>trivial⟩
   ·refine E2.2 (Tot.mono (P:=fun _=>True) ?_ fun r6 _=>?_)
    ·exact E4.2 ⟨fun _=>(A6y _ trivial).mono fun _ _=>trivial,fun _=>E3.2 trivial⟩
    ·refine E4.2 ⟨fun _=>?_,fun _=>?_⟩
     ·refine E2.2 ((W_ _ (by dsimp only;omega)).mono fun r7 hr=>?_);dsimp only at hr;exact hn _ ⟨h0,by dsimp only;omega,by dsimp only;omega,h3,by dsimp only;omega,h5⟩ (by dsimp only;omega)
     ·exact hn _ ⟨h0,by dsimp only;omega,by dsimp only;omega,h3,by dsimp only;omega,h5⟩ (by dsimp only;omega)
 ·have hc:=AG hc;rw[<-h0];omega
theorem ANB(x:E1)(h:x.length<=1048576):Tot (aT x) (fun r:E1=>r.length<=x.length):=by
 unfold aT
 repeat' first
  |(with_reducible first|refine E2.2 ?_|refine E3.2 ?_|refine(ANA _ ?_).mono fun _ _=>?_|refine(Q0 _ ?_).mono fun _ _=>?_)
  |dsimp only
 all_goals exact gq1
theorem ANC(x:H_×Bool)(h:x.1.2.1.length<=1048576/\x.1.2.2.1.length<=1048576):Tot (aU x) (fun r:E1×E1×E1×E1×E7×E1=>r.1=x.1.1/\r.2.1.length=x.1.2.1.length/\r.2.2.1.length=x.1.2.2.1.length/\r.2.2.2=x.1.2.2.2):=by
 obtain⟨p_1,t12⟩:=x;try dsimp only at h ⊢
 unfold aU
 repeat' first
  |(with_reducible first|refine E4.2 ⟨fun _=>?_,fun _=>?_⟩|refine E2.2 ?_|refine E3.2 ?_|refine(tV _ ?_).mono fun _ _=>?_)
  |dsimp only
 all_goals exact gq1
theorem A6z{α:Type}{a b:List α}{Q:List α->Prop}(h1:a.length+b.length<=1099511627776)(h2:Q (a++b)):Tot (app? 48 a b) Q:=G7.2 ⟨by omega,h2⟩
theorem tY(x:E1×E1×E1×E1×E7×E1)(h:x.1.length<=20/\x.2.1.length<=200/\x.2.2.1.length<=200/\x.2.2.2.1.length<=200/\x.2.2.2.2.2.length<=200/\x.2.2.2.2.1.length<=10/\(∀q∈x.2.2.2.2.1,q.1.length<=200/\q.2.length<=200)):Tot (S3 x) (fun r:E1×E1×E1×E1×E7×E1=>r.1.length<=20/\r.2.1.length<=200/\r.2.2.1.length<=200/\r.2.2.2.1.length<=200/\r.2.2.2.2.2.length<=200/\r.2.2.2.2.1.length<=10/\(∀q∈r.2.2.2.2.1,q.1.length<=200/\q.2.length<=200)):=by
 obtain⟨g1,g2,g3,g4,g5,g6,g7⟩:=h;unfold S3;try dsimp only
 refine E2.2 ((tW _ trivial).mono fun r1 _=>?_);refine E2.2 ((ANC _ ⟨by dsimp only;omega,by dsimp only;omega⟩).mono fun r4 hr=>?_);try dsimp only at hr
 obtain⟨e1,e2,e3,e4⟩:=hr;have k1:r4.1.length<=20:=by rw[e1];exact g1
 have k4:r4.2.2.2.1.length<=200:=by rw[e4];exact g4
 have k5:r4.2.2.2.2.1.length<=10:=by rw[e4];exact g6
 have k6:r4.2.2.2.2.2.length<=200:=by rw[e4];exact g5
 have k7:∀q∈r4.2.2.2.2.1,q.1.length<=200/\q.2.length<=200:=by rw[e4];exact g7
 refine E4.2 ⟨fun _=>?_,fun _=>?_⟩
 ·refine E2.2 ((ANB _ (by omega)).mono fun r5 h5=>?_);refine E2.2 (A6z (by simp;omega) ?_);exact E3.2 ⟨k1,by dsimp only;omega,by dsimp only;omega,k4,k6,by simpa using k5,by simpa using k7⟩
 ·refine E2.2 (A6z (by simp;omega) ?_);exact E3.2 ⟨k1,by dsimp only;omega,by dsimp only;omega,k4,k6,by simpa using k5,by simpa using k7⟩
theorem fU(x:E1×E1×E1×E1×E7×E1)(h:x.2.2.2.2.1.length<=1048576):Tot (PB x) (fun r:Int=>r=0->(x.1.length<=20/\x.2.1.length<=200/\x.2.2.1.length<=200/\x.2.2.2.1.length<=200/\x.2.2.2.2.2.length<=200/\x.2.2.2.2.1.length<=10/\(∀q∈x.2.2.2.2.1,q.1.length<=200/\q.2.length<=200))):=by
 unfold PB;try dsimp only
 refine E2.2 ((tW _ trivial).mono fun r1 h1=>?_);refine E4.2 ⟨fun hc=>E3.2 fun he=>?_,fun hc=>?_⟩
 ·rw[E5,he]at hc;simp at hc
 have g1:x.1.length<=20:=h1 (by rw[E5]at hc;simpa using hc);refine E2.2 ((AN1 _ h).mono fun r2 h2=>?_);refine E4.2 ⟨fun _=>E3.2 fun he=>absurd he (by decide),fun hc2=>?_⟩;obtain⟨a1,a2,a3,a4,a5,a6⟩:=h2 hc2;refine E4.2 ⟨fun _=>E3.2 fun he=>absurd he (by decide),fun _=>?_⟩;refine E2.2 ((tX _ (by omega)).mono fun r5 h5=>?_);refine E2.2 ((A6w _ (by(try dsimp only);omega)).mono fun r6 _=>?_);refine E4.2 ⟨fun _=>E3.2 fun he=>absurd he (by decide),fun _=>?_⟩;refine E2.2 (Tot.mono (P:=fun _=>True) (E4.2 ⟨fun _=>(P_ _ (by(try dsimp only);omega)).mono fun _ _=>trivial,fun _=>E3.2 trivial⟩) fun r7 _=>?_);refine E4.2 ⟨fun _=>E3.2 fun he=>absurd he (by decide),fun _=>?_⟩;refine E2.2 ((AN6 _ ⟨by omega,fun q hq=>by have:=a6 q hq;omega⟩).mono fun r9 _=>?_);refine E4.2 ⟨fun hc=>E3.2 fun he=>?_,fun _=>?_⟩
 ·rw[E5,he]at hc;simp at hc
 refine E2.2 ((tX _ (by omega)).mono fun r10 h10=>?_);refine E2.2 ((A6w _ (by(try dsimp only);omega)).mono fun r11 _=>?_);refine E4.2 ⟨fun _=>E3.2 fun he=>absurd he (by decide),fun _=>?_⟩;refine E2.2 ((AN8 _ ⟨B0 _,by simp,rfl,by simp,fun z hz=>?_⟩).mono fun r15 h15=>?_)
 ·simp only[B6,List.not_mem_nil,or_false]at hz;rcases hz with rfl|rfl|rfl|rfl<;>omega
 rcases r15 with r15|r15
 ·refine E2.2 ((AN9 _ ⟨B0 _,BC _,rfl,(by show((x.2.2.2.2.1.length:Nat):Int)<=281474976710656;omega),fun z hz=>by have:=a6 z hz;omega⟩).mono fun r19 h19=>?_);rcases r19 with r19|r19
  ·exact E3.2 fun _=>⟨g1,a1,a2,a3,a4,a5,a6⟩
  ·exact E3.2 fun he=>by have:=h19 _ rfl;omega
 ·exact E3.2 fun he=>by have:=h15 _ rfl;omega
theorem A70{q:Int}{Q:E1->Prop}(l:E1)(hl:l.length=16)(h0:0<=q)(h1:q<=15)(h:∀s:E1,s.length=1->Q s):Tot (cut? l q (u8.wrap (q+1))) Q:=by
 rw[tT (by omega) (by omega)];refine HG.2 ⟨⟨h0,by omega,by omega⟩,h _ ?_⟩;rw[CF,B4];omega
theorem AND(x:E1×(List Int)×Int×Int)(h:0<=x.2.2.2/\x.2.2.2<=x.2.2.1/\x.2.2.1=x.1.length/\x.2.1.length<=3*x.2.2.2/\x.1.length<=1048576):Tot (mL x) (fun r:List Int=>r.length<=3*x.1.length):=by
 refine F7 (R:=fun r:List Int=>r.length<=3*x.1.length) (fun y:E1×(List Int)×Int×Int=>y.1=x.1/\0<=y.2.2.2/\y.2.2.2<=y.2.2.1/\y.2.2.1=y.1.length/\y.2.1.length<=3*y.2.2.2/\y.1.length<=1048576)
  (fun y=>(y.2.2.1-y.2.2.2).toNat) ?_ _ _ ⟨rfl,h⟩ (by unfold fuel;omega)
 rintro next ⟨s_0,b_3,t7,t8⟩ h hn
 dsimp only at h hn;obtain⟨h0,h1,h2,h3,h4,h5⟩:=h;unfold A0K;dsimp only;refine E4.2 ⟨fun hc=>?_,fun hc=>E3.2 ?_⟩
 ·have hc:=A9 hc;have hw:i64.wrap (t8+1)=t8+1:=E_ (by omega) (by omega);rw[hw];refine E2.2 (F4.2 ⟨⟨h1,by omega⟩,fun b _=>?_⟩);refine E2.2 ((A6o _ trivial).mono fun r _=>?_);refine E2.2 (Tot.mono (P:=fun _=>True) (E4.2 ⟨fun _=>(P_ _ (by show 4<=1048576;decide)).mono fun _ _=>trivial,fun _=>E3.2 trivial⟩) fun r4 _=>?_);refine E4.2 ⟨fun _=>?_,fun _=>?_⟩
  ·refine E2.2 ((W_ _ (by dsimp only;omega)).mono fun r5 hr=>?_);dsimp only at hr;exact hn _ ⟨h0,by dsimp only;omega,by dsimp only;omega,h3,by dsimp only;omega,h5⟩ (by dsimp only;omega)
  ·obtain⟨d1,d2⟩:=AMu b;obtain⟨m1,m2⟩:=AMv b;have hq:u8.wrap ((b.toNat:Int).tdiv 16)=(b.toNat:Int).tdiv 16:=tT d1 (by omega);refine E2.2 (fT.2 ⟨by decide,?_⟩);refine E2.2 (fT.2 ⟨by decide,?_⟩);rw[hq];refine E2.2 (A70 _ rfl d1 d2 fun s8 e8=>?_);refine E2.2 (G6.2 ⟨by simp[e8],?_⟩);refine E2.2 (A6r.2 ⟨by decide,?_⟩);refine E2.2 (A6r.2 ⟨by decide,?_⟩);refine E2.2 (A70 _ rfl m1 m2 fun s12 e12=>?_);refine E2.2 (G6.2 ⟨by simp[e8,e12],?_⟩);have e13:([37]++s8++s12:E1).length=3:=by simp[e8,e12]
   refine E2.2 ((X0 _ ⟨by dsimp only;omega,by rw[e13];decide⟩).mono fun r14 hr=>?_);rw[e13]at hr;dsimp only at hr;exact hn _ ⟨h0,by dsimp only;omega,by dsimp only;omega,h3,by dsimp only;omega,h5⟩ (by dsimp only;omega)
 ·have hc:=AG hc;rw[<-h0];omega
theorem tZ(x:E1)(h:x.length<=1048576):Tot (S4 x) (fun r:E1=>r.length<=3*x.length):=by
 unfold S4
 repeat' first
  |(with_reducible first|refine E2.2 ?_|refine E3.2 ?_|refine(AND _ ?_).mono fun _ _=>?_|refine(Q0 _ ?_).mono fun _ _=>?_)
  |dsimp only
 all_goals exact gq1
theorem ANE(x:(List E1)×(List E1)×Int×Int)(h:0<=x.2.2.2/\x.2.2.2<=x.2.2.1/\x.2.2.1=x.2.1.length/\x.2.2.1<=202/\x.1.length<=x.2.2.2/\(∀z∈x.2.1,z.length<=200)/\(∀z∈x.1,z.length<=600)):
 Tot (mM x) (fun r:List E1=>r.length<=202/\∀z∈r,z.length<=600):=by
 refine F7 (R:=fun r:List E1=>r.length<=202/\∀z∈r,z.length<=600) (fun x:(List E1)×(List E1)×Int×Int=>0<=x.2.2.2/\x.2.2.2<=x.2.2.1/\x.2.2.1=x.2.1.length/\x.2.2.1<=202/\x.1.length<=x.2.2.2/\(∀z∈x.2.1,z.length<=200)/\(∀z∈x.1,z.length<=600))
  (fun y=>(y.2.2.1-y.2.2.2).toNat) ?_ _ _ h (by unfold fuel;omega)
 rintro next ⟨l_3,t7,t8,t9⟩ h hn
 dsimp only at h hn;obtain⟨h1,h2,h3,h4,h5,h6,h7⟩:=h;unfold A0L;dsimp only;refine E4.2 ⟨fun hc=>?_,fun hc=>E3.2 ⟨by omega,h7⟩⟩;have hc:=A9 hc;have hw:i64.wrap (t9+1)=t9+1:=E_ (by omega) (by omega);rw[hw];refine E2.2 (F4.2 ⟨⟨h1,by omega⟩,fun y2 hy=>?_⟩);have hy:=h6 _ (AP hy);refine E2.2 ((tZ _ (by omega)).mono fun r3 hr=>?_);refine E2.2 (G7.2 ⟨by simp;omega,?_⟩);refine hn _ ⟨by dsimp only;omega,by dsimp only;omega,h3,h4,by simp;omega,h6,fun z hz=>?_⟩ (by dsimp only;omega);rcases AR.1 hz with hz|hz
 ·exact h7 z hz
 ·rw[AQ]at hz;subst hz;omega
theorem ANF(x:E1)(h:x.length<=200):Tot (aV x) (fun r:E1=>r.length<=121402):=by
 unfold aV;refine E2.2 ((tX _ (by omega)).mono fun r1 h1=>?_);refine E2.2 ((ANE _ ⟨B0 _,BC _,rfl,(by show((r1.length:Nat):Int)<=202;omega),(by simp),(fun z hz=>by have:=h1.2 z hz;omega),(fun z hz=>by cases hz)⟩).mono fun r5 h5=>?_);have hj:=tU [47] 600 r5 h5.2;have hm:r5.length*(600+[(47:UInt8)].length)<=202*(600+1):=Nat.mul_le_mul h5.1 (AM _);refine E2.2 ((SS _ ⟨by have:=h5.1;dsimp only;omega,by dsimp only;omega⟩).mono fun r6 h6=>E3.2 ?_);rw[h6];dsimp only;omega
theorem ANG(x:E1×E1×E1×E1×E7×E1)(h:x.1.length<=20/\x.2.1.length<=200/\x.2.2.1.length<=200/\x.2.2.2.1.length<=200/\x.2.2.2.2.2.length<=200/\x.2.2.2.2.1.length<=10/\(∀q∈x.2.2.2.2.1,q.1.length<=200/\q.2.length<=200)):Tot (aW x) (fun r:E1=>r.length<=200000):=by
 obtain⟨g1,g2,g3,g4,g5,g6,g7⟩:=h;unfold aW;refine E2.2 (G6.2 ⟨by simp;omega,?_⟩);refine E2.2 (G6.2 ⟨by simp;omega,?_⟩);refine E4.2 ⟨fun _=>?_,fun _=>?_⟩
 ·refine E2.2 ((ANF _ g2).mono fun r3 h3=>?_);refine E2.2 (G6.2 ⟨by simp;omega,?_⟩);refine E2.2 (G6.2 ⟨by simp;omega,?_⟩);refine E2.2 ((tZ _ (by omega)).mono fun r6 h6=>?_);refine E2.2 (G6.2 ⟨by simp;omega,?_⟩);exact E3.2 (by simp;omega)
 ·refine E2.2 ((tZ _ (by omega)).mono fun r6 h6=>?_);refine E2.2 (G6.2 ⟨by simp;omega,?_⟩);exact E3.2 (by simp;omega)
theorem t_(x:E1×E1×E1×E1×E7×E1)(h:x.2.2.2.2.1.length<=1048576):Tot (S5 x) (fun r:E1×Int=>r.1.length<=200000):=by
 unfold S5;refine E2.2 ((fU _ h).mono fun r1 h1=>?_);refine E4.2 ⟨fun _=>E3.2 (by simp),fun hc=>?_⟩;have h1:=h1 (by rw[E5]at hc;simpa using hc);refine E2.2 ((tY _ h1).mono fun r2 h2=>?_);exact E2.2 ((ANG _ h2).mono fun r3 h3=>E3.2 h3)
theorem ANH(x:E7×Int×H7×Int)(h:(∀p,Tot (x.2.2.1 p) fun _=>True)/\0<=x.2.1/\x.2.1<=x.2.2.2/\x.2.2.2<x.1.length/\x.1.length<=1048576):
 Tot (lS x) (fun r:List (E1×E1)=>r.length=x.1.length/\∀q∈r,q∈x.1):=by
 refine F7 (R:=fun r:List (E1×E1)=>r.length=x.1.length/\∀q∈r,q∈x.1) (fun y:E7×Int×H7×Int=>(∀p,Tot (y.2.2.1 p) fun _=>True)/\0<=y.2.1/\y.2.1<=y.2.2.2/\y.2.2.2<y.1.length/\y.1.length<=1048576/\y.1.length=x.1.length/\∀q∈y.1,q∈x.1)
  (fun y=>y.2.2.2.toNat) ?_ _ _ ⟨h.1,h.2.1,h.2.2.1,h.2.2.2.1,h.2.2.2.2,rfl,fun q hq=>hq⟩ (by obtain⟨_,_,_,_,_⟩:=h;unfold fuel;omega)
 rintro next ⟨data_0,a_1,cmp_3,j_9⟩ h hn
 dsimp only at h hn;obtain⟨h0,h1,h2,h3,h4,h5,h6⟩:=h;unfold zY;dsimp only;by_cases hc:a_1<j_9
 ·have hw:i64.wrap (j_9-1)=j_9-1:=E_ (by omega) (by omega);simp only[hw,A6 hc,AA,C7];refine E2.2 (FJ.2 ⟨⟨by omega,by omega⟩,?_⟩);refine E2.2 (FJ.2 ⟨⟨by omega,by omega⟩,?_⟩);refine E2.2 ((h0 _).mono fun r3 _=>?_);refine E4.2 ⟨fun _=>?_,fun _=>E3.2 ⟨h5,h6⟩⟩;refine E2.2 (FJ.2 ⟨⟨by omega,by omega⟩,?_⟩);refine E2.2 (FJ.2 ⟨⟨by omega,by omega⟩,?_⟩);refine E2.2 (FJ.2 ⟨⟨by omega,by omega⟩,?_⟩);refine E2.2 (FJ.2 ⟨⟨by omega,by rw[AF];omega⟩,?_⟩);refine hn _ ⟨h0,h1,by dsimp only;omega,by simp only[AF];omega,by simp only[AF];omega,by simp only[AF];omega,fun q hq=>?_⟩ (by dsimp only;omega);rcases EJ hq with hq|rfl
  ·rcases EJ hq with hq|rfl
   ·exact h6 q hq
   ·exact h6 _ (EI (by omega))
  ·exact h6 _ (EI (by omega))
 ·simp only[AB hc,AC,CA];refine E2.2 (E3.2 ?_);refine E2.2 (E3.2 ?_);refine E2.2 (E3.2 ?_);exact E3.2 ⟨h5,h6⟩
theorem ANI(x:E7×Int×Int×H7×Int)(h:(∀p,Tot (x.2.2.2.1 p) fun _=>True)/\0<=x.2.1/\x.2.1<=x.2.2.2.2/\x.2.2.1<=x.1.length/\x.2.2.2.2<=1048577/\x.1.length<=1048576):
 Tot (lT x) (fun r:List (E1×E1)=>r.length=x.1.length/\∀q∈r,q∈x.1):=by
 refine F7 (R:=fun r:List (E1×E1)=>r.length=x.1.length/\∀q∈r,q∈x.1) (fun y:E7×Int×Int×H7×Int=>(∀p,Tot (y.2.2.2.1 p) fun _=>True)/\0<=y.2.1/\y.2.1<=y.2.2.2.2/\y.2.2.1<=y.1.length/\y.2.2.2.2<=1048577/\y.1.length<=1048576/\y.1.length=x.1.length/\∀q∈y.1,q∈x.1)
  (fun y=>(y.2.2.1-y.2.2.2.2).toNat) ?_ _ _ ⟨h.1,h.2.1,h.2.2.1,h.2.2.2.1,h.2.2.2.2.1,h.2.2.2.2.2,rfl,fun q hq=>hq⟩ (by obtain⟨_,_,_,_,_,_⟩:=h;unfold fuel;omega)
 rintro next ⟨data_0,a_1,b_2,cmp_3,i_8⟩ h hn
 dsimp only at h hn;obtain⟨h0,h1,h2,h3,h4,h5,h6,h7⟩:=h;unfold zZ;dsimp only;refine E4.2 ⟨fun hc=>?_,fun _=>E3.2 ⟨h6,h7⟩⟩;have hc:=A9 hc;have hw:i64.wrap (i_8+1)=i_8+1:=E_ (by omega) (by omega);rw[hw];refine E2.2 ((ANH _ ⟨h0,h1,h2,by dsimp only;omega,h5⟩).mono fun r hr=>?_);dsimp only at hr;obtain⟨e1,e2⟩:=hr;exact hn _ ⟨h0,h1,by dsimp only;omega,by dsimp only;omega,by dsimp only;omega,by dsimp only;omega,by dsimp only;omega,fun q hq=>h7 q (e2 q hq)⟩ (by dsimp only;omega)
theorem A71(x:E7×Int×Int×H7)(h:(∀p,Tot (x.2.2.2 p) fun _=>True)/\0<=x.2.1/\x.2.1<=1048576/\x.2.2.1<=x.1.length/\x.1.length<=1048576):
 Tot (V2 x) (fun r:List (E1×E1)=>r.length=x.1.length/\∀q∈r,q∈x.1):=by
 obtain⟨data_0,a_1,b_2,cmp_3⟩:=x;dsimp only at h;obtain⟨h0,h1,h2,h3,h4⟩:=h;unfold V2;dsimp only;rw[E_ (by omega) (by omega)];exact E2.2 ((ANI _ ⟨h0,h1,by dsimp only;omega,h3,by dsimp only;omega,h4⟩).mono fun r hr=>E3.2 hr)
theorem ANJ(x:E7×Int×Int×Int×Int)(h:0<=x.2.1/\0<=x.2.2.1/\x.2.1+x.2.2.2.1<=x.1.length/\x.2.2.1+x.2.2.2.1<=x.1.length/\0<=x.2.2.2.2/\x.1.length<=1048576):
 Tot (lU x) (fun r:List (E1×E1)=>r.length=x.1.length/\∀q∈r,q∈x.1):=by
 refine F7 (R:=fun r:List (E1×E1)=>r.length=x.1.length/\∀q∈r,q∈x.1) (fun y:E7×Int×Int×Int×Int=>0<=y.2.1/\0<=y.2.2.1/\y.2.1+y.2.2.2.1<=y.1.length/\y.2.2.1+y.2.2.2.1<=y.1.length/\0<=y.2.2.2.2/\y.1.length<=1048576/\y.1.length=x.1.length/\∀q∈y.1,q∈x.1)
  (fun y=>(y.2.2.2.1-y.2.2.2.2).toNat) ?_ _ _ ⟨h.1,h.2.1,h.2.2.1,h.2.2.2.1,h.2.2.2.2.1,h.2.2.2.2.2,rfl,fun q hq=>hq⟩ (by obtain⟨_,_,_,_,_,_⟩:=h;unfold fuel;omega)
 rintro next ⟨data_0,a_1,b_2,n_3,i_10⟩ h hn
 dsimp only at h hn;obtain⟨h1,h2,h3,h4,h5,h6,h7,h8⟩:=h;unfold z_;dsimp only;refine E4.2 ⟨fun hc=>?_,fun _=>E3.2 ⟨h7,h8⟩⟩;have hc:=A9 hc;have hw1:i64.wrap (a_1+i_10)=a_1+i_10:=E_ (by omega) (by omega);have hw2:i64.wrap (b_2+i_10)=b_2+i_10:=E_ (by omega) (by omega);have hw3:i64.wrap (i_10+1)=i_10+1:=E_ (by omega) (by omega);rw[hw1,hw2,hw3];refine E2.2 (FJ.2 ⟨⟨by omega,by omega⟩,?_⟩);refine E2.2 (FJ.2 ⟨⟨by omega,by omega⟩,?_⟩);refine E2.2 (FJ.2 ⟨⟨by omega,by omega⟩,?_⟩);refine E2.2 (FJ.2 ⟨⟨by omega,by rw[AF];omega⟩,?_⟩);refine hn _ ⟨h1,h2,by simp only[AF];omega,by simp only[AF];omega,by dsimp only;omega,by simp only[AF];omega,by simp only[AF];omega,fun q hq=>?_⟩ (by dsimp only;omega);rcases EJ hq with hq|rfl
 ·rcases EJ hq with hq|rfl
  ·exact h8 q hq
  ·exact h8 _ (EI (by omega))
 ·exact h8 _ (EI (by omega))
theorem u6(x:E7×Int×Int×Int×H7)(h:0<=x.2.1/\0<=x.2.2.1/\x.2.1+x.2.2.2.1<=x.1.length/\x.2.2.1+x.2.2.2.1<=x.1.length/\x.1.length<=1048576):
 Tot (R_ x) (fun r:List (E1×E1)=>r.length=x.1.length/\∀q∈r,q∈x.1):=by
 obtain⟨data_0,a_1,b_2,n_3,cmp_4⟩:=x;obtain⟨h1,h2,h3,h4,h5⟩:=h;unfold R_;dsimp only;exact E2.2 ((ANJ _ ⟨h1,h2,h3,h4,B0 _,h5⟩).mono fun r hr=>E3.2 hr)
theorem ANK(x:E7×Int×H7×Int×Int)(h:0<x.2.2.2.1/\0<x.2.2.2.2/\x.2.2.2.1<=x.2.1/\x.2.1+x.2.2.2.2<=x.1.length/\x.1.length<=1048576):
 Tot (lV x) (fun r:E7×Int=>r.1.length=x.1.length/\(∀q∈r.1,q∈x.1)/\0<r.2/\r.2<=x.2.1/\x.2.1+r.2<=x.1.length):=by
 refine F7 (R:=fun r:E7×Int=>r.1.length=x.1.length/\(∀q∈r.1,q∈x.1)/\0<r.2/\r.2<=x.2.1/\x.2.1+r.2<=x.1.length) (fun y:E7×Int×H7×Int×Int=>0<y.2.2.2.1/\0<y.2.2.2.2/\y.2.2.2.1<=y.2.1/\y.2.1+y.2.2.2.2<=y.1.length/\y.1.length<=1048576/\y.1.length=x.1.length/\(∀q∈y.1,q∈x.1)/\y.2.1=x.2.1)
  (fun y=>(y.2.2.2.1+y.2.2.2.2).toNat) ?_ _ _ ⟨h.1,h.2.1,h.2.2.1,h.2.2.2.1,h.2.2.2.2,rfl,(fun q hq=>hq),rfl⟩ (by obtain⟨_,_,_,_,_⟩:=h;unfold fuel;omega)
 rintro next ⟨data_0,m_2,cmp_4,i_10,j_11⟩ h hn
 dsimp only at h hn;obtain⟨h1,h2,h3,h4,h5,h6,h7,h8⟩:=h;unfold A00;dsimp only;refine E4.2 ⟨fun hc=>?_,fun hc=>E3.2 ⟨h6,h7,h1,by dsimp only;omega,?_⟩⟩
 ·have hc:i_10≠j_11:=by rw[E5]at hc;simpa using hc
  have hw1:i64.wrap (m_2-i_10)=m_2-i_10:=E_ (by omega) (by omega);have hw2:i64.wrap (m_2+j_11)=m_2+j_11:=E_ (by omega) (by omega);have hw3:i64.wrap (m_2+j_11-i_10)=m_2+j_11-i_10:=E_ (by omega) (by omega);have hw4:i64.wrap (i_10-j_11)=i_10-j_11:=E_ (by omega) (by omega);have hw5:i64.wrap (j_11-i_10)=j_11-i_10:=E_ (by omega) (by omega);rw[hw1,hw2,hw3,hw4,hw5];refine E4.2 ⟨fun hd=>?_,fun hd=>?_⟩
  ·have hd:=A9 hd;refine E2.2 ((u6 _ ⟨by dsimp only;omega,by dsimp only;omega,by dsimp only;omega,by dsimp only;omega,h5⟩).mono fun r hr=>?_);dsimp only at hr;exact hn _ ⟨by dsimp only;omega,h2,by dsimp only;omega,by dsimp only;omega,by dsimp only;omega,by dsimp only;omega,fun q hq=>h7 q (hr.2 q hq),h8⟩ (by dsimp only;omega)
  ·have hd:=AG hd;refine E2.2 ((u6 _ ⟨by dsimp only;omega,by dsimp only;omega,by dsimp only;omega,by dsimp only;omega,h5⟩).mono fun r hr=>?_);dsimp only at hr;exact hn _ ⟨h1,by dsimp only;omega,h3,by dsimp only;omega,by dsimp only;omega,by dsimp only;omega,fun q hq=>h7 q (hr.2 q hq),h8⟩ (by dsimp only;omega)
 ·have hc:i_10=j_11:=by rw[E5]at hc;simpa using hc
  omega
theorem ANL(x:E7×Int×Int×Int×H7)(h:0<=x.2.1/\x.2.1<x.2.2.1/\x.2.2.1<x.2.2.2.1/\x.2.2.2.1<=x.1.length/\x.1.length<=1048576):
 Tot (aH x) (fun r:List (E1×E1)=>r.length=x.1.length/\∀q∈r,q∈x.1):=by
 obtain⟨data_0,a_1,m_2,b_3,cmp_4⟩:=x;dsimp only at h;obtain⟨h1,h2,h3,h4,h5⟩:=h;unfold aH;dsimp only;rw[E_ (n:=m_2-a_1) (by omega) (by omega),E_ (n:=b_3-m_2) (by omega) (by omega)];refine E2.2 ((ANK _ ⟨by dsimp only;omega,by dsimp only;omega,by dsimp only;omega,by dsimp only;omega,h5⟩).mono fun r hr=>?_);dsimp only at hr;obtain⟨e1,e2,e3,e4,e5⟩:=hr;rw[E_ (n:=m_2-r.2) (by omega) (by omega)];refine E2.2 ((u6 _ ⟨by dsimp only;omega,by dsimp only;omega,by dsimp only;omega,by dsimp only;omega,by dsimp only;omega⟩).mono fun r4 hr=>E3.2 ?_);dsimp only at hr;exact⟨by omega,fun q hq=>e2 q (hr.2 q hq)⟩
theorem OH{i j:Int}{Q:Int->Prop}(h1:0<=i)(h2:0<=j)(h3:i<=4611686018427387903)(h4:j<=4611686018427387903)(h:Q ((i+j) / 2)):Tot (shr? u64 (u64.wrap (i64.wrap (i+j))) (1:Int)) Q:=by
 have e1:i64.wrap (i+j)=i+j:=E_ (by omega) (by omega)
 have e2:u64.wrap (i+j)=i+j:=by
  simp only[IntKind.wrap,IntKind.bits,IntKind.signed];simp;omega
 rw[e1,e2]
 have e3:(i+j).fdiv (2 ^ min (1:Int).toNat u64.bits)=(i+j) / 2:=by
  have:(2:Int) ^ min (1:Int).toNat u64.bits=2:=by decide
  rw[this,DU _ (by decide)]
 unfold shr?;rw[e3];exact E3.2 h
theorem ANM(slf:E7×Int×Int×Int×H7->Option E7)(x:E7×Int×H7×Int×Int)(h:(∀p,Tot (x.2.2.1 p) fun _=>True)/\0<=x.2.1/\x.2.1<x.1.length/\0<=x.2.2.2.1/\x.2.2.2.1<=x.2.2.2.2/\x.2.2.2.2<=x.1.length/\x.1.length<=1048576):
 Tot (lW slf x) (fun r:E7×Int=>r.1=x.1/\x.2.2.2.1<=r.2/\r.2<=x.2.2.2.2):=by
 refine F7 (R:=fun r:E7×Int=>r.1=x.1/\x.2.2.2.1<=r.2/\r.2<=x.2.2.2.2) (fun y:E7×Int×H7×Int×Int=>(∀p,Tot (y.2.2.1 p) fun _=>True)/\0<=y.2.1/\y.2.1<y.1.length/\0<=y.2.2.2.1/\y.2.2.2.1<=y.2.2.2.2/\y.2.2.2.2<=y.1.length/\y.1.length<=1048576/\y.1=x.1/\x.2.2.2.1<=y.2.2.2.1/\y.2.2.2.2<=x.2.2.2.2)
  (fun y=>(y.2.2.2.2-y.2.2.2.1).toNat) ?_ _ _ ⟨h.1,h.2.1,h.2.2.1,h.2.2.2.1,h.2.2.2.2.1,h.2.2.2.2.2.1,h.2.2.2.2.2.2,rfl,B0 _,B0 _⟩ (by obtain⟨_,_,_,_,_,_,_⟩:=h;unfold fuel;omega)
 rintro next ⟨data_0,a_1,cmp_4,i_10,j_11⟩ h hn
 dsimp only at h hn;obtain⟨h0,h1,h2,h3,h4,h5,h6,h7,h8,h9⟩:=h;unfold A01;dsimp only;refine E4.2 ⟨fun hc=>?_,fun hc=>E3.2 ⟨h7,h8,by dsimp only;omega⟩⟩;have hc:=A9 hc;refine E2.2 (OH (by omega) (by omega) (by omega) (by omega) ?_);have hw1:i64.wrap ((i_10+j_11) / 2)=(i_10+j_11) / 2:=E_ (by omega) (by omega);have hw2:i64.wrap ((i_10+j_11) / 2+1)=(i_10+j_11) / 2+1:=E_ (by omega) (by omega);rw[hw1,hw2];refine E2.2 (FJ.2 ⟨⟨by omega,by omega⟩,?_⟩);refine E2.2 (FJ.2 ⟨⟨by omega,by omega⟩,?_⟩);refine E2.2 ((h0 _).mono fun r4 _=>?_);refine E4.2 ⟨fun _=>?_,fun _=>?_⟩
 ·exact hn _ ⟨h0,h1,h2,by dsimp only;omega,by dsimp only;omega,h5,h6,h7,by dsimp only;omega,h9⟩ (by dsimp only;omega)
 ·exact hn _ ⟨h0,h1,h2,h3,by dsimp only;omega,by dsimp only;omega,h6,h7,h8,by dsimp only;omega⟩ (by dsimp only;omega)
theorem ANN(slf:E7×Int×Int×Int×H7->Option E7)(x:E7×Int×Int)(h:0<=x.2.1/\x.2.1<=x.1.length/\0<=x.2.2/\x.1.length<=1048576):
 Tot (lX slf x) (fun r:List (E1×E1)=>r.length=x.1.length/\∀q∈r,q∈x.1):=by
 refine F7 (R:=fun r:List (E1×E1)=>r.length=x.1.length/\∀q∈r,q∈x.1) (fun y:E7×Int×Int=>0<=y.2.1/\y.2.1<=y.1.length/\0<=y.2.2/\y.1.length<=1048576/\y.1.length=x.1.length/\∀q∈y.1,q∈x.1)
  (fun y=>(y.2.1-y.2.2).toNat) ?_ _ _ ⟨h.1,h.2.1,h.2.2.1,h.2.2.2,rfl,fun q hq=>hq⟩ (by obtain⟨_,_,_,_⟩:=h;unfold fuel;omega)
 rintro next ⟨data_0,i_10,k_13⟩ h hn
 dsimp only at h hn;obtain⟨h1,h2,h3,h4,h5,h6⟩:=h;unfold A02;dsimp only;rw[E_ (n:=i_10-1) (by omega) (by omega)];refine E4.2 ⟨fun hc=>?_,fun hc=>E3.2 ⟨h5,h6⟩⟩;have hc:=A9 hc;have hw:i64.wrap (k_13+1)=k_13+1:=E_ (by omega) (by omega);rw[hw];refine E2.2 (FJ.2 ⟨⟨by omega,by omega⟩,?_⟩);refine E2.2 (FJ.2 ⟨⟨by omega,by omega⟩,?_⟩);refine E2.2 (FJ.2 ⟨⟨by omega,by omega⟩,?_⟩);refine E2.2 (FJ.2 ⟨⟨by omega,by rw[AF];omega⟩,?_⟩);refine hn _ ⟨h1,by simp only[AF];omega,by dsimp only;omega,by simp only[AF];omega,by simp only[AF];omega,fun q hq=>?_⟩ (by dsimp only;omega);rcases EJ hq with hq|rfl
 ·rcases EJ hq with hq|rfl
  ·exact h6 q hq
  ·exact h6 _ (EI (by omega))
 ·exact h6 _ (EI (by omega))
theorem ANO(slf:E7×Int×Int×Int×H7->Option E7)(x:E7×Int×Int)(h:0<=x.2.1/\x.2.2<x.1.length/\x.1.length<=1048576):
 Tot (lZ slf x) (fun r:List (E1×E1)=>r.length=x.1.length/\∀q∈r,q∈x.1):=by
 refine F7 (R:=fun r:List (E1×E1)=>r.length=x.1.length/\∀q∈r,q∈x.1) (fun y:E7×Int×Int=>0<=y.2.1/\y.2.2<y.1.length/\y.1.length<=1048576/\y.1.length=x.1.length/\∀q∈y.1,q∈x.1)
  (fun y=>(y.2.2-y.2.1).toNat) ?_ _ _ ⟨h.1,h.2.1,h.2.2,rfl,fun q hq=>hq⟩ (by obtain⟨_,_,_⟩:=h;unfold fuel;omega)
 rintro next ⟨data_0,i_14,k_17⟩ h hn
 dsimp only at h hn;obtain⟨h1,h2,h4,h5,h6⟩:=h;unfold A04;dsimp only;refine E4.2 ⟨fun hc=>?_,fun hc=>E3.2 ⟨h5,h6⟩⟩;have hc:=A9 hc;have hw:i64.wrap (k_17-1)=k_17-1:=E_ (by omega) (by omega);rw[hw];refine E2.2 (FJ.2 ⟨⟨by omega,by omega⟩,?_⟩);refine E2.2 (FJ.2 ⟨⟨by omega,by omega⟩,?_⟩);refine E2.2 (FJ.2 ⟨⟨by omega,by omega⟩,?_⟩);refine E2.2 (FJ.2 ⟨⟨by omega,by rw[AF];omega⟩,?_⟩);refine hn _ ⟨h1,by simp only[AF];omega,by simp only[AF];omega,by simp only[AF];omega,fun q hq=>?_⟩ (by dsimp only;omega);rcases EJ hq with hq|rfl
 ·rcases EJ hq with hq|rfl
  ·exact h6 q hq
  ·exact h6 _ (EI (by omega))
 ·exact h6 _ (EI (by omega))
theorem ANP(slf:E7×Int×Int×Int×H7->Option E7)(x:E7×Int×H7×Int×Int)(h:(∀p,Tot (x.2.2.1 p) fun _=>True)/\0<=x.2.1/\x.2.1<x.1.length/\0<=x.2.2.2.1/\x.2.2.2.1<=x.2.2.2.2/\x.2.2.2.2<=x.1.length/\x.1.length<=1048576):
 Tot (lY slf x) (fun r:E7×Int=>r.1=x.1/\x.2.2.2.1<=r.2/\r.2<=x.2.2.2.2):=by
 refine F7 (R:=fun r:E7×Int=>r.1=x.1/\x.2.2.2.1<=r.2/\r.2<=x.2.2.2.2) (fun y:E7×Int×H7×Int×Int=>(∀p,Tot (y.2.2.1 p) fun _=>True)/\0<=y.2.1/\y.2.1<y.1.length/\0<=y.2.2.2.1/\y.2.2.2.1<=y.2.2.2.2/\y.2.2.2.2<=y.1.length/\y.1.length<=1048576/\y.1=x.1/\x.2.2.2.1<=y.2.2.2.1/\y.2.2.2.2<=x.2.2.2.2)
  (fun y=>(y.2.2.2.2-y.2.2.2.1).toNat) ?_ _ _ ⟨h.1,h.2.1,h.2.2.1,h.2.2.2.1,h.2.2.2.2.1,h.2.2.2.2.2.1,h.2.2.2.2.2.2,rfl,B0 _,B0 _⟩ (by obtain⟨_,_,_,_,_,_,_⟩:=h;unfold fuel;omega)
 rintro next ⟨data_0,m_2,cmp_4,i_14,j_15⟩ h hn
 dsimp only at h hn;obtain⟨h0,h1,h2,h3,h4,h5,h6,h7,h8,h9⟩:=h;unfold A03;dsimp only;refine E4.2 ⟨fun hc=>?_,fun hc=>E3.2 ⟨h7,h8,by dsimp only;omega⟩⟩;have hc:=A9 hc;refine E2.2 (OH (by omega) (by omega) (by omega) (by omega) ?_);have hw1:i64.wrap ((i_14+j_15) / 2)=(i_14+j_15) / 2:=E_ (by omega) (by omega);have hw2:i64.wrap ((i_14+j_15) / 2+1)=(i_14+j_15) / 2+1:=E_ (by omega) (by omega);rw[hw1,hw2];refine E2.2 (FJ.2 ⟨⟨by omega,by omega⟩,?_⟩);refine E2.2 (FJ.2 ⟨⟨by omega,by omega⟩,?_⟩);refine E2.2 ((h0 _).mono fun r13 _=>?_);refine E4.2 ⟨fun _=>?_,fun _=>?_⟩
 ·exact hn _ ⟨h0,h1,h2,by dsimp only;omega,by dsimp only;omega,h5,h6,h7,by dsimp only;omega,h9⟩ (by dsimp only;omega)
 ·exact hn _ ⟨h0,h1,h2,h3,by dsimp only;omega,by dsimp only;omega,h6,h7,h8,by dsimp only;omega⟩ (by dsimp only;omega)
theorem ANQ(slf:E7×Int×Int×Int×H7->Option E7)(x:E7×H7×Int×Int×Int)(h:(∀p,Tot (x.2.1 p) fun _=>True)/\0<=x.2.2.1/\x.2.2.1<=x.2.2.2.1/\x.2.2.2.1<=x.1.length/\x.2.2.2.1-1<=x.2.2.2.2/\x.2.2.2.2-x.2.2.1<x.1.length/\x.1.length<=1048576):
 Tot (l_ slf x) (fun r:E7×Int=>r.1=x.1/\x.2.2.1<=r.2/\r.2<=x.2.2.2.1):=by
 refine F7 (R:=fun r:E7×Int=>r.1=x.1/\x.2.2.1<=r.2/\r.2<=x.2.2.2.1) (fun y:E7×H7×Int×Int×Int=>(∀p,Tot (y.2.1 p) fun _=>True)/\0<=y.2.2.1/\y.2.2.1<=y.2.2.2.1/\y.2.2.2.1<=y.1.length/\y.2.2.2.1-1<=y.2.2.2.2/\y.2.2.2.2-y.2.2.1<y.1.length/\y.1.length<=1048576/\y.1=x.1/\x.2.2.1<=y.2.2.1/\y.2.2.2.1<=x.2.2.2.1)
  (fun y=>(y.2.2.2.1-y.2.2.1).toNat) ?_ _ _ ⟨h.1,h.2.1,h.2.2.1,h.2.2.2.1,h.2.2.2.2.1,h.2.2.2.2.2.1,h.2.2.2.2.2.2,rfl,B0 _,B0 _⟩ (by obtain⟨_,_,_,_,_,_,_⟩:=h;unfold fuel;omega)
 rintro next ⟨data_0,cmp_4,start_20,r_21,p_22⟩ h hn
 dsimp only at h hn;obtain⟨h0,h1,h2,h3,h4,h5,h6,h7,h8,h9⟩:=h;unfold A05;dsimp only;refine E4.2 ⟨fun hc=>?_,fun hc=>E3.2 ⟨h7,h8,by dsimp only;omega⟩⟩;have hc:=A9 hc;refine E2.2 (OH (by omega) (by omega) (by omega) (by omega) ?_);have hw1:i64.wrap ((start_20+r_21) / 2)=(start_20+r_21) / 2:=E_ (by omega) (by omega);have hw2:i64.wrap ((start_20+r_21) / 2+1)=(start_20+r_21) / 2+1:=E_ (by omega) (by omega);have hw3:i64.wrap (p_22-(start_20+r_21) / 2)=p_22-(start_20+r_21) / 2:=E_ (by omega) (by omega);rw[hw1,hw2,hw3];refine E2.2 (FJ.2 ⟨⟨by omega,by omega⟩,?_⟩);refine E2.2 (FJ.2 ⟨⟨by omega,by omega⟩,?_⟩);refine E2.2 ((h0 _).mono fun r4 _=>?_);refine E4.2 ⟨fun _=>?_,fun _=>?_⟩
 ·exact hn _ ⟨h0,by dsimp only;omega,by dsimp only;omega,h3,h4,by dsimp only;omega,h6,h7,by dsimp only;omega,h9⟩ (by dsimp only;omega)
 ·exact hn _ ⟨h0,h1,by dsimp only;omega,by dsimp only;omega,by dsimp only;omega,h5,h6,h7,h8,by dsimp only;omega⟩ (by dsimp only;omega)
theorem ANR(slf:E7×Int×Int×Int×H7->Option E7)(x:E7×Int×H7×Int×Int×Bool)(h:x.1.length<=1048576/\(x.2.2.2.2.2=true->0<=x.2.2.2.1/\x.2.2.2.1<x.2.1/\x.2.1<x.2.2.2.2.1/\x.2.2.2.2.1<=x.1.length)):
 Tot (aJ slf x) (fun r:List (E1×E1)=>r.length=x.1.length/\∀q∈r,q∈x.1):=by
 obtain⟨data_0,m_2,cmp_4,start_20,end_24,t185⟩:=x;dsimp only at h;unfold aJ;dsimp only;refine E4.2 ⟨fun hc=>?_,fun _=>E3.2 ⟨rfl,fun q hq=>hq⟩⟩;obtain⟨h1,h2,h3,h4⟩:=h.2 hc;exact E2.2 ((ANL _ ⟨h1,h2,h3,h4,h.1⟩).mono fun r hr=>E3.2 hr)
theorem ANS(slf:E7×Int×Int×Int×H7->Option E7)(K:Int)(ih:∀y:E7×Int×Int×Int×H7,((∀p,Tot (y.2.2.2.2 p) fun _=>True)/\0<=y.2.1/\y.2.1<y.2.2.1/\y.2.2.1<y.2.2.2.1/\y.2.2.2.1<=y.1.length/\y.1.length<=1048576)->y.2.2.2.1-y.2.1<=K->Tot (slf y) (fun r:List (E1×E1)=>r.length=y.1.length/\∀q∈r,q∈y.1))(x:E7×Int×Int×Int×H7)(h:(∀p,Tot (x.2.2.2.2 p) fun _=>True)/\0<=x.2.1/\x.2.1<x.2.2.1/\x.2.2.1<x.2.2.2.1/\x.2.2.2.1<=x.1.length/\x.1.length<=1048576)(hK:x.2.2.2.1-x.2.1<=2*K):
 Tot (m6 slf x) (fun r:List (E1×E1)=>r.length=x.1.length/\∀q∈r,q∈x.1):=by
 obtain⟨data_0,a_1,m_2,b_3,cmp_4⟩:=x;dsimp only at h hK;obtain⟨h0,h1,h2,h3,h4,h5⟩:=h;unfold m6;dsimp only;rw[E_ (n:=m_2-a_1) (by omega) (by omega),E_ (n:=b_3-m_2) (by omega) (by omega)];refine E4.2 ⟨fun _=>?_,fun _=>E4.2 ⟨fun _=>?_,fun _=>?_⟩⟩
 ·refine E2.2 ((ANM slf _ ⟨h0,h1,by dsimp only;omega,by dsimp only;omega,by dsimp only;omega,h4,h5⟩).mono fun r5 hr=>?_);dsimp only at hr;obtain⟨e1,e2,e3⟩:=hr;refine E2.2 ((ANN slf _ ⟨by dsimp only;omega,by dsimp only;rw[e1];omega,h1,by dsimp only;rw[e1];exact h5⟩).mono fun r9 hr=>E3.2 ?_);dsimp only at hr;rw[e1]at hr;exact hr
 ·refine E2.2 ((ANP slf _ ⟨h0,by dsimp only;omega,by dsimp only;omega,h1,by dsimp only;omega,by dsimp only;omega,h5⟩).mono fun r5 hr=>?_);dsimp only at hr;obtain⟨e1,e2,e3⟩:=hr;refine E2.2 ((ANO slf _ ⟨by dsimp only;omega,by dsimp only;rw[e1];omega,by dsimp only;rw[e1];exact h5⟩).mono fun r9 hr=>E3.2 ?_);dsimp only at hr;rw[e1]at hr;exact hr
 ·refine E2.2 (OH (by omega) (by omega) (by omega) (by omega) ?_);generalize hmid:(a_1+b_3) / 2=mid;rw[E_ (n:=mid) (by omega) (by omega),E_ (n:=mid+m_2) (by omega) (by omega),E_ (n:=mid+m_2-1) (by omega) (by omega)]
  have hp:Tot (aI slf (a_1,m_2,b_3,mid,mid+m_2,decide (mid<m_2))) fun r:Int×Int=>0<=r.1/\a_1<=r.1/\mid+m_2-b_3<=r.1/\r.1<=r.2/\r.2<=m_2/\r.2<=mid+m_2/\mid+m_2-1-r.1<data_0.length:=by
   unfold aI;dsimp only;refine E4.2 ⟨fun hc=>E3.2 ?_,fun hc=>E3.2 ?_⟩
   ·have hc:=A9 hc;rw[E_ (by omega) (by omega)];dsimp only;omega
   ·have hc:=AG hc;dsimp only;omega
  refine E2.2 (hp.mono fun r20 hr=>?_);obtain⟨f1,f2,f3,f4,f5,f6,f7⟩:=hr;refine E2.2 ((ANQ slf _ ⟨h0,f1,f4,by dsimp only;omega,by dsimp only;omega,f7,h5⟩).mono fun r26 hr=>?_);dsimp only at hr;obtain⟨e1,e2,e3⟩:=hr;rw[E_ (n:=mid+m_2-r26.2) (by omega) (by omega)];refine E2.2 ((ANR slf _ ⟨by dsimp only;rw[e1];exact h5,fun hc=>?_⟩).mono fun r29 hr=>?_)
  ·dsimp only at hc ⊢;rw[A5,AV,AV]at hc;rw[e1];omega
  dsimp only at hr;rw[e1]at hr;obtain⟨g1,g2⟩:=hr
  have hq:Tot (aK slf (r29,a_1,cmp_4,mid,r26.2,decide (a_1<r26.2)&&decide (r26.2<mid))) fun r:List (E1×E1)=>r.length=data_0.length/\∀q∈r,q∈data_0:=by
   unfold aK;dsimp only;refine E4.2 ⟨fun hc=>?_,fun _=>E3.2 ⟨g1,g2⟩⟩;rw[A5,AV,AV]at hc;refine E2.2 ((ih _ ⟨h0,h1,by dsimp only;omega,by dsimp only;omega,by dsimp only;omega,by dsimp only;omega⟩ (by dsimp only;omega)).mono fun r31 hr=>E3.2 ?_);dsimp only at hr;exact⟨by omega,fun q hq=>g2 q (hr.2 q hq)⟩
  refine E2.2 (hq.mono fun r32 hr=>?_);obtain⟨k1,k2⟩:=hr;refine E4.2 ⟨fun hc=>?_,fun _=>E3.2 ⟨k1,k2⟩⟩;rw[A5,AV,AV]at hc;refine E2.2 ((ih _ ⟨h0,by dsimp only;omega,by dsimp only;omega,by dsimp only;omega,by dsimp only;omega,by dsimp only;omega⟩ (by dsimp only;omega)).mono fun r34 hr=>E3.2 ?_);dsimp only at hr;exact⟨by omega,fun q hq=>k2 q (hr.2 q hq)⟩
theorem ANT:∀(n:Nat) (x:E7×Int×Int×Int×H7) (h:(∀p,Tot (x.2.2.2.2 p) fun _=>True)/\0<=x.2.1/\x.2.1<x.2.2.1/\x.2.2.1<x.2.2.2.1/\x.2.2.2.1<=x.1.length/\x.1.length<=1048576) (hK:x.2.2.2.1-x.2.1<=2 ^ n),Tot (KM n x) (fun r:List (E1×E1)=>r.length=x.1.length/\∀q∈r,q∈x.1):=by
 intro n;induction n with
 |zero=>
  intro x h hK;obtain⟨_,h1,h2,h3,_,_⟩:=h;rw[Int.pow_zero]at hK;omega
 |succ n ih=>
  intro x h hK;refine ANS (KM n) (2 ^ n) (fun y hy hk=>ih y hy hk) x h ?_;rw[Int.pow_succ]at hK;omega
theorem A72(x:E7×Int×Int×Int×H7)(h:(∀p,Tot (x.2.2.2.2 p) fun _=>True)/\0<=x.2.1/\x.2.1<x.2.2.1/\x.2.2.1<x.2.2.2.1/\x.2.2.2.1<=x.1.length/\x.1.length<=1048576):Tot (V3 x) (fun r:List (E1×E1)=>r.length=x.1.length/\∀q∈r,q∈x.1):=by
 unfold V3;refine ANT 100 x h ?_;obtain⟨_,h1,h2,h3,h4,h5⟩:=h;have:(1048576:Int)<=2 ^ 100:=by decide
 omega
theorem ANU{s p:E1}(h:Lib.hasPrefix s p=true):p.length<=s.length:=(List.isPrefixOf_iff_prefix.1 h).length_le
theorem ANV(x:E1×E1)(h:True):Tot (strings_HasPrefix x) (fun r:Bool=>r=true->x.2.length<=x.1.length):=E3.2 ANU
theorem trimPrefix_len(s p:E1):(Lib.trimPrefix s p).length<=s.length:=by
 unfold Lib.trimPrefix;split
 ·rw[CF];omega
 ·exact AM _
theorem ANW(x:E1×E1)(h:True):Tot (strings_TrimPrefix x) (fun r:E1=>r.length<=x.1.length):=E3.2 (trimPrefix_len _ _)
theorem ANX(x:E1×E1)(h:True):Tot (strings_CutPrefix x) (fun r:E1×Bool=>r.1.length<=x.1.length):=E3.2 (trimPrefix_len _ _)
theorem A73(x:E1×E1)(h:x.1.length<=1048576):Tot (strings_Cut x) (fun r:E1×E1×Bool=>r.1.length<=x.1.length/\r.2.1.length<=x.1.length):=by
 unfold strings_Cut HZ;rw[A6 (by omega)];refine E3.2 ?_;unfold Lib.cut;split
 ·simp only[B4,CF];omega
 ·simp
theorem ANY(x:E1×Int)(h:x.1.length<=1048576):Tot (strings_LastIndexByte x) (fun r:Int=>-1<=r/\r<x.1.length):=by
 unfold strings_LastIndexByte HZ;rw[A6 (by omega)];refine E3.2 ?_;have hs:(⟨x.1.toArray⟩:ByteArray).size=x.1.length:=by simp[ByteArray.size]
 rcases Lib.lastIndexByte_spec ⟨x.1.toArray⟩ x.2 with⟨e,_⟩|⟨i,hi,e,_⟩<;>rw[e]<;>omega
theorem ANZ:∀(k u m:Nat),u<10 ^ m->1<=m->(L3 k u).length<=m:=by
 intro k;induction k with
 |zero=>intro u m _ _;simp[L3]
 |succ k ih=>
  intro u m hu hm;simp only[L3];split
  ·simpa using hm
  ·rename_i h;obtain⟨j,rfl⟩:∃j,m=j+1:=⟨m-1,by omega⟩
   have hj:1<=j:=by
    rcases j with _|j
    ·simp at hu;omega
    ·omega
   have:=ih (u / 10) j (by rw[Nat.pow_succ]at hu;omega) hj;simp only[A7,AD,AJ];omega
theorem AN_:∀(k u:Nat),1<=k->1<=(L3 k u).length:=by
 intro k u h;obtain⟨j,rfl⟩:∃j,k=j+1:=⟨k-1,by omega⟩;simp only[L3];split<;>simp
theorem J2(x:Int)(h:True):Tot (strconv_Itoa x) (fun r:E1=>1<=r.length/\r.length<=21/\(0<=x->x<=999999999999999999->r.length<=18)):=by
 refine E3.2 ⟨?_,zO x,?_⟩
 ·unfold O8;split
  ·simp
  ·exact AN_ 20 _ (by decide)
 ·intro h0 h1;unfold O8;rw[if_neg (by omega)];exact ANZ 20 _ 18 (by have h18:(10:Nat) ^ 18=1000000000000000000:=(by decide);omega) (by decide)
def SW(b:UInt8):Prop:=48<=b.toNat/\b.toNat<=57
theorem ANa:∀(l:E1) (acc k:Nat),(∀b∈l,SW b)->acc<10 ^ k->l.length+k<=18->∃u,Lib.parseUint10 acc l=.ok u/\u<10 ^ 18:=by
 intro l;induction l with
 |nil=>intro acc k _ h1 h2;exact⟨acc,rfl,BK h1 (DG (by decide) (by simpa using h2))⟩
 |cons c r ih=>
  intro acc k hd h1 h2;have hl:r.length+1+k<=18:=by simpa using h2
  have hp:10 ^ k<=10 ^ 17:=DG (by decide) (by omega);have e17:(10:Nat) ^ 17=100000000000000000:=by decide
  have hc:48<=c.toNat/\c.toNat<=57:=hd c AN;simp only[Lib.parseUint10];rw[if_pos hc,if_neg (by omega),if_neg (by omega)];exact ih _ (k+1) (fun b hb=>hd b (AI _ hb)) (by rw[Nat.pow_succ];omega) (by omega)
theorem u7(s:E1)(h0:s≠[])(hd:∀b∈s,SW b)(hl:s.length<=18):∃u:Nat,Lib.atoiAll s=.ok (u:Int)/\u<1000000000000000000:=by
 cases s with
 |nil=>exact absurd rfl h0
 |cons c r=>
  have hc:=hd c AN;unfold SW at hc;obtain⟨u,e,hu⟩:=ANa (c::r) 0 0 hd (by decide) hl;have e18:(10:Nat) ^ 18=1000000000000000000:=by decide
  rw[e18]at hu;refine⟨u,?_,hu⟩;unfold Lib.atoiAll;simp only;rw[if_neg (by omega)];unfold Lib.parseMag;rw[if_neg (by simp),e];simp only;rw[if_neg (by omega),if_neg (by omega),if_neg (by omega)]
theorem ANb(x:E1)(h:x.length<=1048576):Tot (ZT x) (fun r:Int×Unit=>x≠[]->(∀b∈x,SW b)->x.length<=18->0<=r.1/\r.1<=999999999999999999):=by
 unfold ZT HZ;rw[A6 (by omega)];show Tot (match Lib.atoiAll x with| .ok v=>some (v,())| .range=>some (Lib.atoiSat x,())|_=>some (0,())) _;cases e:Lib.atoiAll x with
 |ok v=>
  refine E3.2 fun h1 h2 h3=>?_;obtain⟨u,e2,hu⟩:=u7 x h1 h2 h3;rw[e]at e2;injection e2 with e2;subst e2;dsimp only;omega
 |range=>exact E3.2 fun h1 h2 h3=>by obtain⟨u,e2,_⟩:=u7 x h1 h2 h3;rw[e]at e2;cases e2
 |_=>exact E3.2 fun h1 h2 h3=>by obtain⟨u,e2,_⟩:=u7 x h1 h2 h3;rw[e]at e2;cases e2
theorem ANc(x:E1×Int)(h:x.1.length=1/\0<=x.2/\x.2<=1048576):Tot (strings_Repeat x) (fun r:E1=>(r.length:Int)=x.2):=by
 unfold strings_Repeat HZ;rw[A6 (by rw[h.1];omega)];refine E3.2 ?_;rw[Lib.repeatL_length,h.1];omega
theorem ANd(r:Int):(Lib.encodeRune r).length<=4:=by
 unfold Lib.encodeRune Lib.encodeRuneZ;rw[AL]
 repeat' split
 all_goals simp
theorem ANe(f:Int->Int):∀(n:Nat) (l:E1),(Lib.mapGoD f n l).length<=4*n:=by
 intro n;induction n with
 |zero=>intro l;simp[Lib.mapGoD]
 |succ n ih=>
  intro l;simp only[Lib.mapGoD];split
  ·simp
  ·rw[A7];have h1:=ih (l.drop (Lib.decodeL l).2)
   have h2:(if 0<=f (Lib.decodeL l).1 then Lib.encodeRune (f (Lib.decodeL l).1)else []).length<=4:=by
    split
    ·exact ANd _
    ·simp
   omega
theorem A74(x:E1)(h:x.length<=1048576):Tot (UY x) (fun r:E1=>r.length<=4*x.length):=by
 unfold UY HZ;rw[A6 (by omega)];have h1:(Lib.toLowerD x).length<=4*x.length:=ANe _ _ _;show Tot (str? _) _;unfold str?;rw[A6 (by omega)];exact E3.2 h1
theorem ANf(p:Nat->Bool)(s:ByteArray):∀(f pos:Nat) (st:Option Nat) (acc:List (Nat×Nat)),(Lib.spansFromP p s f pos st acc).1.length<=acc.length+f:=by
 intro f;induction f with
 |zero=>intro pos st acc;simp[Lib.spansFromP]
 |succ f ih=>
  intro pos st acc;simp only[Lib.spansFromP];split
  ·split
   ·cases st with
    |some a=>have:=ih (pos+(Utf8.decode s pos).2) none (acc++[(a,pos)]);simp only[A7,AD,AJ]at this ⊢;omega
    |none=>have:=ih (pos+(Utf8.decode s pos).2) none acc;dsimp only;omega
   ·cases st with
    |some a=>have:=ih (pos+(Utf8.decode s pos).2) (some a) acc;dsimp only;omega
    |none=>have:=ih (pos+(Utf8.decode s pos).2) (some pos) acc;dsimp only;omega
  ·simp
theorem ANg(p:Nat->Bool)(s:ByteArray):(Lib.goFieldsP p s).length<=s.size+1:=by
 unfold Lib.goFieldsP Lib.spansOfP Lib.closeSpans;rw[AL];have:=ANf p s s.size 0 none [];simp only[AJ]at this;split
 ·rw[A7];simp only[AD,AJ];omega
 ·omega
theorem ANh(p:Nat->Bool)(s:ByteArray):∀b∈Lib.goFieldsP p s,b.size<=s.size:=by
 intro b hb;unfold Lib.goFieldsP at hb;obtain⟨x,_,rfl⟩:=B_.1 hb;rw[D4];omega
theorem ANi(x:E1×MI)(h:x.1.length<=1048576/\∀c,Tot (x.2 c) fun _=>True):Tot (RX x) (fun r:List E1=>r.length<=x.1.length+1/\∀s∈r,s.length<=x.1.length):=by
 have hs:(⟨x.1.toArray⟩:ByteArray).size=x.1.length:=by simp[ByteArray.size]
 have hl:=fun p=>ANg p ⟨x.1.toArray⟩;rw[hs]at hl;unfold RX HZ;rw[@decide_eq_true _ (Classical.propDecidable _) ⟨by omega,fun r _=>let ⟨b,e,_⟩:=h.2 r;⟨b,e⟩,by have:=hl fun r=>(x.2 (r:Int)).getD false;omega⟩];refine E3.2 ⟨?_,?_⟩
 ·rw[AL];exact hl _
 ·intro s h1;obtain⟨b,hb,rfl⟩:=B_.1 h1;have:=ANh _ _ b hb;rw[hs]at this;have e:b.data.toList.length=b.size:=by rw[BY];rfl
  omega
abbrev Nm(n:Int):Prop:=0<=n/\n<=999999999999999999
abbrev Nm1(n:Int):Prop:=-1<=n/\n<=999999999999999999
abbrev LS(l:List E1):Prop:=l.length<=1002/\∀s∈l,s.length<=1000
abbrev NS(l:List Int):Prop:=l.length<=1002/\∀n∈l,0<=n/\n<=999999999999999999
abbrev TS(l:List K1):Prop:=l.length<=1002/\∀t∈l,t.2.1.length<=5000/\0<=t.2.2/\t.2.2<=999999999999999999
abbrev Dt:=(List Int)×(List E1)
abbrev Rv:=Int×E1×E1×Bool
abbrev Sg:=Int×(List Int)×Int×Int×Int×Int×(List E1)
abbrev Ql:=List K1
abbrev Vr:=Sum JE (Sum IZ (Sum F_ (Sum GZ (Sum Int Unit))))
abbrev fV(v:Dt):Prop:=v.1.length=3/\(∀n∈v.1,0<=n/\n<=999999999999999999)/\v.2.length<=1002/\∀s∈v.2,s.length<=1000
abbrev QA(v:Rv):Prop:=Nm v.1/\v.2.1.length<=1000/\v.2.2.1.length<=1000
abbrev MR(v:Sg):Prop:=Nm v.1/\NS v.2.1/\(0<=v.2.2.1/\v.2.2.1<=3)/\Nm v.2.2.2.1/\Nm1 v.2.2.2.2.1/\Nm1 v.2.2.2.2.2.1/\LS v.2.2.2.2.2.2
def J3(v:Vr):Prop:=match v with
 | .inl d=>fV d
 | .inr (.inl r)=>QA r
 | .inr (.inr (.inl s))=>MR s
 | .inr (.inr (.inr (.inl q)))=>TS q
 | .inr (.inr (.inr (.inr (.inl n))))=>Nm n
 | .inr (.inr (.inr (.inr (.inr _))))=>False
theorem ANj(d:Dt):J3 (.inl d)=fV d:=rfl
theorem ANk(d:Rv):J3 (.inr (.inl d))=QA d:=rfl
theorem ANl(d:Sg):J3 (.inr (.inr (.inl d)))=MR d:=rfl
theorem ANm(d:Ql):J3 (.inr (.inr (.inr (.inl d))))=TS d:=rfl
theorem ANn(d:Int):J3 (.inr (.inr (.inr (.inr (.inl d)))))=Nm d:=rfl
theorem ES{α:Type}{l:List α}{i j:Nat}{a:α}:a∈(l.take i).drop j->a∈l:=fun h=>D7 (List.mem_of_mem_drop h)
theorem EQ{α:Type}(l:List α)(i j:Nat):((l.take i).drop j).length=min i l.length-j:=by simp
theorem fW{xs:List E1}{sep:E1}{m k c:Nat}:(∀s∈xs,s.length<=m)->xs.length<=k->sep.length<=c->(Lib.join xs sep).length<=k*(m+c):=fun h hk hc=>
 AZ (tU sep m xs h) (Nat.mul_le_mul hk (by omega))
theorem EV(s:E1):EM s []=decide (s.length=0):=by rw[E9];cases s<;>simp
theorem ANo(x:E1×Int×MI×Int)(h:0<=x.2.2.2/\0<=x.2.1/\x.2.1+x.2.2.2<=x.1.length/\x.1.length<=1048576/\(∀c,Tot (x.2.2.1 c) fun _=>True)/\(∀j:Nat,x.2.1<=j->j<x.2.1+x.2.2.2->∀c,x.1[j]?=some c->x.2.2.1 (c.toNat:Int)=some true)):
 Tot (mN x) (fun r:Int=>x.2.2.2<=r/\x.2.1+r<=x.1.length/\(∀j:Nat,x.2.1<=j->j<x.2.1+r->∀c,x.1[j]?=some c->x.2.2.1 (c.toNat:Int)=some true)/\∀c,x.1[(x.2.1+r).toNat]?=some c->x.2.2.1 (c.toNat:Int)=some false):=by
 obtain⟨s,at_,f,n⟩:=x;dsimp only at h ⊢
 refine F7 (R:=fun r:Int=>n<=r/\at_+r<=s.length/\(∀j:Nat,at_<=j->j<at_+r->∀c,s[j]?=some c->f (c.toNat:Int)=some true)/\∀c,s[(at_+r).toNat]?=some c->f (c.toNat:Int)=some false)
  (fun y:E1×Int×MI×Int=>y.1=s/\y.2.1=at_/\y.2.2.1=f/\n<=y.2.2.2/\at_+y.2.2.2<=s.length/\(∀j:Nat,at_<=j->j<at_+y.2.2.2->∀c,s[j]?=some c->f (c.toNat:Int)=some true)) (fun y=>(s.length-at_-y.2.2.2).toNat) ?_ _ _ ⟨rfl,rfl,rfl,B0 _,h.2.2.1,h.2.2.2.2.2⟩ (by unfold fuel;dsimp only;omega)
 rintro next ⟨s',at',f',m⟩ hI hn
 dsimp only at hI hn;obtain⟨rfl,rfl,rfl,h1,h2,h3⟩:=hI;obtain⟨g1,g2,g3,g4,g5,_⟩:=h;unfold A0M;dsimp only;rw[E_ (by omega) (by omega)];by_cases hc:at'+m<s'.length
 ·rw[A6 hc];simp only[AA,C7];refine E2.2 (F4.2 ⟨⟨by omega,by omega⟩,fun b hb=>?_⟩);obtain⟨r,hr,_⟩:=g5 (b.toNat:Int);rw[hr];refine E2.2 (E3.2 ?_);refine E4.2 ⟨fun e=>?_,fun e=>E3.2 ⟨h1,h2,h3,fun c hc'=>?_⟩⟩
  ·subst e;rw[E_ (by omega) (by omega)];refine hn _ ⟨rfl,rfl,rfl,by dsimp only;omega,by dsimp only;omega,?_⟩ (by dsimp only;omega);intro j hj1 hj2 c hjc;dsimp only at hj2;by_cases hj3:(j:Int)<at'+m
   ·exact h3 j hj1 hj3 c hjc
   ·have:j=(at'+m).toNat:=by omega
    subst this;rw[hb]at hjc;cases hjc;exact hr
  ·subst e;rw[hb]at hc';cases hc';exact hr
 ·rw[AB hc];simp only[AC,CA];refine E2.2 (E3.2 ?_);refine E2.2 (E3.2 ?_);refine E3.2 ⟨h1,h2,h3,fun c hc'=>?_⟩;have:=(AE.1 hc').1;omega
theorem fX(x:E1×Int×MI)(h:0<=x.2.1/\x.2.1<=x.1.length/\x.1.length<=1048576/\(∀c,Tot (x.2.2 c) fun _=>True)):
 Tot (I4 x) (fun r:Int=>0<=r/\x.2.1+r<=x.1.length/\(∀j:Nat,x.2.1<=j->j<x.2.1+r->∀c,x.1[j]?=some c->x.2.2 (c.toNat:Int)=some true)/\∀c,x.1[(x.2.1+r).toNat]?=some c->x.2.2 (c.toNat:Int)=some false):=by
 obtain⟨s,a,f⟩:=x;dsimp only at h ⊢;unfold I4;refine E2.2 ((ANo _ ⟨B0 _,h.1,by dsimp only;omega,h.2.2.1,h.2.2.2,fun j h1 h2=>by dsimp only at h1 h2;omega⟩).mono fun r hr=>E3.2 ?_);exact hr
theorem ANp(x:E1×Int×MI)(h:0<=x.2.1/\x.2.1<=x.1.length/\x.1.length<=1048576/\(∀c,Tot (x.2.2 c) fun _=>True)):
 Tot (I4 x) (fun r:Int=>0<=r/\x.2.1+r<=x.1.length):=(fX x h).mono fun _ hr=>⟨hr.1,hr.2.1⟩
theorem M5(x:E1×Int×MI)(hf:∀c,Tot (x.2.2 c) (fun _=>True))(h:0<=x.2.1/\x.2.1<=x.1.length/\x.1.length<=1048576):
 Tot (I4 x) (fun r:Int=>0<=r/\x.2.1+r<=x.1.length):=ANp x ⟨h.1,h.2.1,h.2.2,hf⟩
theorem G_{α β:Type}{f:α->Option β}{P:β->Prop}{c:α}(h:Tot (f c) P):Tot ((f c).bind fun r=>some r) fun _=>True:=E2.2 (h.mono fun _ _=>E3.2 trivial)
theorem A75(c:Int):Tot ((H9 c).bind fun r=>some r) fun _=>True:=⟨_,rfl,trivial⟩
theorem HA(c:Int)(h:True):Tot (H9 c) fun _=>True:=⟨_,rfl,trivial⟩
theorem IF(c:Int)(h:True):Tot (NB c) fun _=>True:=⟨_,rfl,trivial⟩
theorem ANq(c:Int)(h:True):Tot (mT c) fun _=>True:=⟨_,rfl,trivial⟩
theorem A76(c:Int)(h:True):Tot (mW c) fun _=>True:=⟨_,rfl,trivial⟩
theorem ANr(b:UInt8)(h:((H9 (b.toNat:Int)).bind fun r=>some r)=some true):SW b:=by
 unfold H9 at h;simp at h;unfold SW;omega
theorem K6(s:E1)(h:s.length<=1048576):Tot (I_ s) (fun r:Int×Bool=>0<=r.1/\r.1<=999999999999999999):=by
 unfold I_;dsimp only;cases hv:(EM s []||decide ((18:Int)<(s.length:Int)))with
 |true=>simp only[BP,AC,Bool.true_or,AA];exact E2.2 (E3.2 (E3.2 (by decide)))
 |false=>
  simp only[CV,AA,C6];refine E2.2 ((fX _ ⟨B0 _,by dsimp only;omega,h,A75⟩).mono fun r hr=>?_);refine E4.2 ⟨fun _=>E3.2 (by decide),fun e=>?_⟩;refine E2.2 ((ANb s h).mono fun r3 h3=>E3.2 ?_);have hv1:=(BO.1 hv);have e1:r=s.length:=by simpa[E5]using e
  dsimp only at hr;refine h3 (by simpa[E9]using hv1.1) (fun b hb=>?_) (by have:=AG hv1.2;omega);obtain⟨j,hj,hjb⟩:=List.mem_iff_getElem.1 hb;exact ANr b (hr.2.2.1 j (by omega) (by omega) b (by rw[<-hjb];exact A1 hj))
theorem ANs(x:(List EB)×Int×H8×Int)(h:(∀p,Tot (x.2.2.1 p) fun _=>True)/\0<=x.2.1/\x.2.1<=x.2.2.2/\x.2.2.2<x.1.length/\x.1.length<=1048576):
 Tot (o0 x) (fun r:List EB=>r.length=x.1.length/\∀q∈r,q∈x.1):=by
 refine F7 (R:=fun r:List EB=>r.length=x.1.length/\∀q∈r,q∈x.1) (fun y:(List EB)×Int×H8×Int=>(∀p,Tot (y.2.2.1 p) fun _=>True)/\0<=y.2.1/\y.2.1<=y.2.2.2/\y.2.2.2<y.1.length/\y.1.length<=1048576/\y.1.length=x.1.length/\∀q∈y.1,q∈x.1)
  (fun y=>y.2.2.2.toNat) ?_ _ _ ⟨h.1,h.2.1,h.2.2.1,h.2.2.2.1,h.2.2.2.2,rfl,fun q hq=>hq⟩ (by obtain⟨_,_,_,_,_⟩:=h;unfold fuel;omega)
 rintro next ⟨data_0,a_1,cmp_3,j_9⟩ h hn
 dsimp only at h hn;obtain⟨h0,h1,h2,h3,h4,h5,h6⟩:=h;unfold A0q;dsimp only;by_cases hc:a_1<j_9
 ·have hw:i64.wrap (j_9-1)=j_9-1:=E_ (by omega) (by omega);simp only[hw,A6 hc,AA,C7];refine E2.2 (FJ.2 ⟨⟨by omega,by omega⟩,?_⟩);refine E2.2 (FJ.2 ⟨⟨by omega,by omega⟩,?_⟩);refine E2.2 ((h0 _).mono fun r3 _=>?_);refine E4.2 ⟨fun _=>?_,fun _=>E3.2 ⟨h5,h6⟩⟩;refine E2.2 (FJ.2 ⟨⟨by omega,by omega⟩,?_⟩);refine E2.2 (FJ.2 ⟨⟨by omega,by omega⟩,?_⟩);refine E2.2 (FJ.2 ⟨⟨by omega,by omega⟩,?_⟩);refine E2.2 (FJ.2 ⟨⟨by omega,by rw[AF];omega⟩,?_⟩);refine hn _ ⟨h0,h1,by dsimp only;omega,by simp only[AF];omega,by simp only[AF];omega,by simp only[AF];omega,fun q hq=>?_⟩ (by dsimp only;omega);rcases EJ hq with hq|rfl
  ·rcases EJ hq with hq|rfl
   ·exact h6 q hq
   ·exact h6 _ (EI (by omega))
  ·exact h6 _ (EI (by omega))
 ·simp only[AB hc,AC,CA];refine E2.2 (E3.2 ?_);refine E2.2 (E3.2 ?_);refine E2.2 (E3.2 ?_);exact E3.2 ⟨h5,h6⟩
theorem ANt(x:(List EB)×Int×Int×H8×Int)(h:(∀p,Tot (x.2.2.2.1 p) fun _=>True)/\0<=x.2.1/\x.2.1<=x.2.2.2.2/\x.2.2.1<=x.1.length/\x.2.2.2.2<=1048577/\x.1.length<=1048576):
 Tot (o4 x) (fun r:List EB=>r.length=x.1.length/\∀q∈r,q∈x.1):=by
 refine F7 (R:=fun r:List EB=>r.length=x.1.length/\∀q∈r,q∈x.1) (fun y:(List EB)×Int×Int×H8×Int=>(∀p,Tot (y.2.2.2.1 p) fun _=>True)/\0<=y.2.1/\y.2.1<=y.2.2.2.2/\y.2.2.1<=y.1.length/\y.2.2.2.2<=1048577/\y.1.length<=1048576/\y.1.length=x.1.length/\∀q∈y.1,q∈x.1)
  (fun y=>(y.2.2.1-y.2.2.2.2).toNat) ?_ _ _ ⟨h.1,h.2.1,h.2.2.1,h.2.2.2.1,h.2.2.2.2.1,h.2.2.2.2.2,rfl,fun q hq=>hq⟩ (by obtain⟨_,_,_,_,_,_⟩:=h;unfold fuel;omega)
 rintro next ⟨data_0,a_1,b_2,cmp_3,i_8⟩ h hn
 dsimp only at h hn;obtain⟨h0,h1,h2,h3,h4,h5,h6,h7⟩:=h;unfold A0r;dsimp only;refine E4.2 ⟨fun hc=>?_,fun _=>E3.2 ⟨h6,h7⟩⟩;have hc:=A9 hc;have hw:i64.wrap (i_8+1)=i_8+1:=E_ (by omega) (by omega);rw[hw];refine E2.2 ((ANs _ ⟨h0,h1,h2,by dsimp only;omega,h5⟩).mono fun r hr=>?_);dsimp only at hr;obtain⟨e1,e2⟩:=hr;exact hn _ ⟨h0,h1,by dsimp only;omega,by dsimp only;omega,by dsimp only;omega,by dsimp only;omega,by dsimp only;omega,fun q hq=>h7 q (e2 q hq)⟩ (by dsimp only;omega)
theorem A77(x:(List EB)×Int×Int×H8)(h:(∀p,Tot (x.2.2.2 p) fun _=>True)/\0<=x.2.1/\x.2.1<=1048576/\x.2.2.1<=x.1.length/\x.1.length<=1048576):
 Tot (VR x) (fun r:List EB=>r.length=x.1.length/\∀q∈r,q∈x.1):=by
 obtain⟨data_0,a_1,b_2,cmp_3⟩:=x;dsimp only at h;obtain⟨h0,h1,h2,h3,h4⟩:=h;unfold VR;dsimp only;rw[E_ (by omega) (by omega)];exact E2.2 ((ANt _ ⟨h0,h1,by dsimp only;omega,h3,by dsimp only;omega,h4⟩).mono fun r hr=>E3.2 hr)
theorem ANu(x:(List EB)×Int×Int×Int×Int)(h:0<=x.2.1/\0<=x.2.2.1/\x.2.1+x.2.2.2.1<=x.1.length/\x.2.2.1+x.2.2.2.1<=x.1.length/\0<=x.2.2.2.2/\x.1.length<=1048576):
 Tot (o5 x) (fun r:List EB=>r.length=x.1.length/\∀q∈r,q∈x.1):=by
 refine F7 (R:=fun r:List EB=>r.length=x.1.length/\∀q∈r,q∈x.1) (fun y:(List EB)×Int×Int×Int×Int=>0<=y.2.1/\0<=y.2.2.1/\y.2.1+y.2.2.2.1<=y.1.length/\y.2.2.1+y.2.2.2.1<=y.1.length/\0<=y.2.2.2.2/\y.1.length<=1048576/\y.1.length=x.1.length/\∀q∈y.1,q∈x.1)
  (fun y=>(y.2.2.2.1-y.2.2.2.2).toNat) ?_ _ _ ⟨h.1,h.2.1,h.2.2.1,h.2.2.2.1,h.2.2.2.2.1,h.2.2.2.2.2,rfl,fun q hq=>hq⟩ (by obtain⟨_,_,_,_,_,_⟩:=h;unfold fuel;omega)
 rintro next ⟨data_0,a_1,b_2,n_3,i_10⟩ h hn
 dsimp only at h hn;obtain⟨h1,h2,h3,h4,h5,h6,h7,h8⟩:=h;unfold A0s;dsimp only;refine E4.2 ⟨fun hc=>?_,fun _=>E3.2 ⟨h7,h8⟩⟩;have hc:=A9 hc;have hw1:i64.wrap (a_1+i_10)=a_1+i_10:=E_ (by omega) (by omega);have hw2:i64.wrap (b_2+i_10)=b_2+i_10:=E_ (by omega) (by omega);have hw3:i64.wrap (i_10+1)=i_10+1:=E_ (by omega) (by omega);rw[hw1,hw2,hw3];refine E2.2 (FJ.2 ⟨⟨by omega,by omega⟩,?_⟩);refine E2.2 (FJ.2 ⟨⟨by omega,by omega⟩,?_⟩);refine E2.2 (FJ.2 ⟨⟨by omega,by omega⟩,?_⟩);refine E2.2 (FJ.2 ⟨⟨by omega,by rw[AF];omega⟩,?_⟩);refine hn _ ⟨h1,h2,by simp only[AF];omega,by simp only[AF];omega,by dsimp only;omega,by simp only[AF];omega,by simp only[AF];omega,fun q hq=>?_⟩ (by dsimp only;omega);rcases EJ hq with hq|rfl
 ·rcases EJ hq with hq|rfl
  ·exact h8 q hq
  ·exact h8 _ (EI (by omega))
 ·exact h8 _ (EI (by omega))
theorem uA(x:(List EB)×Int×Int×Int×H8)(h:0<=x.2.1/\0<=x.2.2.1/\x.2.1+x.2.2.2.1<=x.1.length/\x.2.2.1+x.2.2.2.1<=x.1.length/\x.1.length<=1048576):
 Tot (SD x) (fun r:List EB=>r.length=x.1.length/\∀q∈r,q∈x.1):=by
 obtain⟨data_0,a_1,b_2,n_3,cmp_4⟩:=x;obtain⟨h1,h2,h3,h4,h5⟩:=h;unfold SD;dsimp only;exact E2.2 ((ANu _ ⟨h1,h2,h3,h4,B0 _,h5⟩).mono fun r hr=>E3.2 hr)
theorem ANv(x:(List EB)×Int×H8×Int×Int)(h:0<x.2.2.2.1/\0<x.2.2.2.2/\x.2.2.2.1<=x.2.1/\x.2.1+x.2.2.2.2<=x.1.length/\x.1.length<=1048576):
 Tot (o6 x) (fun r:(List EB)×Int=>r.1.length=x.1.length/\(∀q∈r.1,q∈x.1)/\0<r.2/\r.2<=x.2.1/\x.2.1+r.2<=x.1.length):=by
 refine F7 (R:=fun r:(List EB)×Int=>r.1.length=x.1.length/\(∀q∈r.1,q∈x.1)/\0<r.2/\r.2<=x.2.1/\x.2.1+r.2<=x.1.length) (fun y:(List EB)×Int×H8×Int×Int=>0<y.2.2.2.1/\0<y.2.2.2.2/\y.2.2.2.1<=y.2.1/\y.2.1+y.2.2.2.2<=y.1.length/\y.1.length<=1048576/\y.1.length=x.1.length/\(∀q∈y.1,q∈x.1)/\y.2.1=x.2.1)
  (fun y=>(y.2.2.2.1+y.2.2.2.2).toNat) ?_ _ _ ⟨h.1,h.2.1,h.2.2.1,h.2.2.2.1,h.2.2.2.2,rfl,(fun q hq=>hq),rfl⟩ (by obtain⟨_,_,_,_,_⟩:=h;unfold fuel;omega)
 rintro next ⟨data_0,m_2,cmp_4,i_10,j_11⟩ h hn
 dsimp only at h hn;obtain⟨h1,h2,h3,h4,h5,h6,h7,h8⟩:=h;unfold A0t;dsimp only;refine E4.2 ⟨fun hc=>?_,fun hc=>E3.2 ⟨h6,h7,h1,by dsimp only;omega,?_⟩⟩
 ·have hc:i_10≠j_11:=by rw[E5]at hc;simpa using hc
  have hw1:i64.wrap (m_2-i_10)=m_2-i_10:=E_ (by omega) (by omega);have hw2:i64.wrap (m_2+j_11)=m_2+j_11:=E_ (by omega) (by omega);have hw3:i64.wrap (m_2+j_11-i_10)=m_2+j_11-i_10:=E_ (by omega) (by omega);have hw4:i64.wrap (i_10-j_11)=i_10-j_11:=E_ (by omega) (by omega);have hw5:i64.wrap (j_11-i_10)=j_11-i_10:=E_ (by omega) (by omega);rw[hw1,hw2,hw3,hw4,hw5];refine E4.2 ⟨fun hd=>?_,fun hd=>?_⟩
  ·have hd:=A9 hd;refine E2.2 ((uA _ ⟨by dsimp only;omega,by dsimp only;omega,by dsimp only;omega,by dsimp only;omega,h5⟩).mono fun r hr=>?_);dsimp only at hr;exact hn _ ⟨by dsimp only;omega,h2,by dsimp only;omega,by dsimp only;omega,by dsimp only;omega,by dsimp only;omega,fun q hq=>h7 q (hr.2 q hq),h8⟩ (by dsimp only;omega)
  ·have hd:=AG hd;refine E2.2 ((uA _ ⟨by dsimp only;omega,by dsimp only;omega,by dsimp only;omega,by dsimp only;omega,h5⟩).mono fun r hr=>?_);dsimp only at hr;exact hn _ ⟨h1,by dsimp only;omega,h3,by dsimp only;omega,by dsimp only;omega,by dsimp only;omega,fun q hq=>h7 q (hr.2 q hq),h8⟩ (by dsimp only;omega)
 ·have hc:i_10=j_11:=by rw[E5]at hc;simpa using hc
  omega
theorem ANw(x:(List EB)×Int×Int×Int×H8)(h:0<=x.2.1/\x.2.1<x.2.2.1/\x.2.2.1<x.2.2.2.1/\x.2.2.2.1<=x.1.length/\x.1.length<=1048576):
 Tot (dC x) (fun r:List EB=>r.length=x.1.length/\∀q∈r,q∈x.1):=by
 obtain⟨data_0,a_1,m_2,b_3,cmp_4⟩:=x;dsimp only at h;obtain⟨h1,h2,h3,h4,h5⟩:=h;unfold dC;dsimp only;rw[E_ (n:=m_2-a_1) (by omega) (by omega),E_ (n:=b_3-m_2) (by omega) (by omega)];refine E2.2 ((ANv _ ⟨by dsimp only;omega,by dsimp only;omega,by dsimp only;omega,by dsimp only;omega,h5⟩).mono fun r hr=>?_);dsimp only at hr;obtain⟨e1,e2,e3,e4,e5⟩:=hr;rw[E_ (n:=m_2-r.2) (by omega) (by omega)];refine E2.2 ((uA _ ⟨by dsimp only;omega,by dsimp only;omega,by dsimp only;omega,by dsimp only;omega,by dsimp only;omega⟩).mono fun r4 hr=>E3.2 ?_);dsimp only at hr;exact⟨by omega,fun q hq=>e2 q (hr.2 q hq)⟩
theorem ANx(slf:(List EB)×Int×Int×Int×H8->Option (List EB))(x:(List EB)×Int×H8×Int×Int)(h:(∀p,Tot (x.2.2.1 p) fun _=>True)/\0<=x.2.1/\x.2.1<x.1.length/\0<=x.2.2.2.1/\x.2.2.2.1<=x.2.2.2.2/\x.2.2.2.2<=x.1.length/\x.1.length<=1048576):
 Tot (o7 slf x) (fun r:(List EB)×Int=>r.1=x.1/\x.2.2.2.1<=r.2/\r.2<=x.2.2.2.2):=by
 refine F7 (R:=fun r:(List EB)×Int=>r.1=x.1/\x.2.2.2.1<=r.2/\r.2<=x.2.2.2.2) (fun y:(List EB)×Int×H8×Int×Int=>(∀p,Tot (y.2.2.1 p) fun _=>True)/\0<=y.2.1/\y.2.1<y.1.length/\0<=y.2.2.2.1/\y.2.2.2.1<=y.2.2.2.2/\y.2.2.2.2<=y.1.length/\y.1.length<=1048576/\y.1=x.1/\x.2.2.2.1<=y.2.2.2.1/\y.2.2.2.2<=x.2.2.2.2)
  (fun y=>(y.2.2.2.2-y.2.2.2.1).toNat) ?_ _ _ ⟨h.1,h.2.1,h.2.2.1,h.2.2.2.1,h.2.2.2.2.1,h.2.2.2.2.2.1,h.2.2.2.2.2.2,rfl,B0 _,B0 _⟩ (by obtain⟨_,_,_,_,_,_,_⟩:=h;unfold fuel;omega)
 rintro next ⟨data_0,a_1,cmp_4,i_10,j_11⟩ h hn
 dsimp only at h hn;obtain⟨h0,h1,h2,h3,h4,h5,h6,h7,h8,h9⟩:=h;unfold A0u;dsimp only;refine E4.2 ⟨fun hc=>?_,fun hc=>E3.2 ⟨h7,h8,by dsimp only;omega⟩⟩;have hc:=A9 hc;refine E2.2 (OH (by omega) (by omega) (by omega) (by omega) ?_);have hw1:i64.wrap ((i_10+j_11) / 2)=(i_10+j_11) / 2:=E_ (by omega) (by omega);have hw2:i64.wrap ((i_10+j_11) / 2+1)=(i_10+j_11) / 2+1:=E_ (by omega) (by omega);rw[hw1,hw2];refine E2.2 (FJ.2 ⟨⟨by omega,by omega⟩,?_⟩);refine E2.2 (FJ.2 ⟨⟨by omega,by omega⟩,?_⟩);refine E2.2 ((h0 _).mono fun r4 _=>?_);refine E4.2 ⟨fun _=>?_,fun _=>?_⟩
 ·exact hn _ ⟨h0,h1,h2,by dsimp only;omega,by dsimp only;omega,h5,h6,h7,by dsimp only;omega,h9⟩ (by dsimp only;omega)
 ·exact hn _ ⟨h0,h1,h2,h3,by dsimp only;omega,by dsimp only;omega,h6,h7,h8,by dsimp only;omega⟩ (by dsimp only;omega)
theorem ANy(slf:(List EB)×Int×Int×Int×H8->Option (List EB))(x:(List EB)×Int×Int)(h:0<=x.2.1/\x.2.1<=x.1.length/\0<=x.2.2/\x.1.length<=1048576):
 Tot (o8 slf x) (fun r:List EB=>r.length=x.1.length/\∀q∈r,q∈x.1):=by
 refine F7 (R:=fun r:List EB=>r.length=x.1.length/\∀q∈r,q∈x.1) (fun y:(List EB)×Int×Int=>0<=y.2.1/\y.2.1<=y.1.length/\0<=y.2.2/\y.1.length<=1048576/\y.1.length=x.1.length/\∀q∈y.1,q∈x.1)
  (fun y=>(y.2.1-y.2.2).toNat) ?_ _ _ ⟨h.1,h.2.1,h.2.2.1,h.2.2.2,rfl,fun q hq=>hq⟩ (by obtain⟨_,_,_,_⟩:=h;unfold fuel;omega)
 rintro next ⟨data_0,i_10,k_13⟩ h hn
 dsimp only at h hn;obtain⟨h1,h2,h3,h4,h5,h6⟩:=h;unfold A0v;dsimp only;rw[E_ (n:=i_10-1) (by omega) (by omega)];refine E4.2 ⟨fun hc=>?_,fun hc=>E3.2 ⟨h5,h6⟩⟩;have hc:=A9 hc;have hw:i64.wrap (k_13+1)=k_13+1:=E_ (by omega) (by omega);rw[hw];refine E2.2 (FJ.2 ⟨⟨by omega,by omega⟩,?_⟩);refine E2.2 (FJ.2 ⟨⟨by omega,by omega⟩,?_⟩);refine E2.2 (FJ.2 ⟨⟨by omega,by omega⟩,?_⟩);refine E2.2 (FJ.2 ⟨⟨by omega,by rw[AF];omega⟩,?_⟩);refine hn _ ⟨h1,by simp only[AF];omega,by dsimp only;omega,by simp only[AF];omega,by simp only[AF];omega,fun q hq=>?_⟩ (by dsimp only;omega);rcases EJ hq with hq|rfl
 ·rcases EJ hq with hq|rfl
  ·exact h6 q hq
  ·exact h6 _ (EI (by omega))
 ·exact h6 _ (EI (by omega))
theorem ANz(slf:(List EB)×Int×Int×Int×H8->Option (List EB))(x:(List EB)×Int×Int)(h:0<=x.2.1/\x.2.2<x.1.length/\x.1.length<=1048576):
 Tot (oA slf x) (fun r:List EB=>r.length=x.1.length/\∀q∈r,q∈x.1):=by
 refine F7 (R:=fun r:List EB=>r.length=x.1.length/\∀q∈r,q∈x.1) (fun y:(List EB)×Int×Int=>0<=y.2.1/\y.2.2<y.1.length/\y.1.length<=1048576/\y.1.length=x.1.length/\∀q∈y.1,q∈x.1)
  (fun y=>(y.2.2-y.2.1).toNat) ?_ _ _ ⟨h.1,h.2.1,h.2.2,rfl,fun q hq=>hq⟩ (by obtain⟨_,_,_⟩:=h;unfold fuel;omega)
 rintro next ⟨data_0,i_14,k_17⟩ h hn
 dsimp only at h hn;obtain⟨h1,h2,h4,h5,h6⟩:=h;unfold A0x;dsimp only;refine E4.2 ⟨fun hc=>?_,fun hc=>E3.2 ⟨h5,h6⟩⟩;have hc:=A9 hc;have hw:i64.wrap (k_17-1)=k_17-1:=E_ (by omega) (by omega);rw[hw];refine E2.2 (FJ.2 ⟨⟨by omega,by omega⟩,?_⟩);refine E2.2 (FJ.2 ⟨⟨by omega,by omega⟩,?_⟩);refine E2.2 (FJ.2 ⟨⟨by omega,by omega⟩,?_⟩);refine E2.2 (FJ.2 ⟨⟨by omega,by rw[AF];omega⟩,?_⟩);refine hn _ ⟨h1,by simp only[AF];omega,by simp only[AF];omega,by simp only[AF];omega,fun q hq=>?_⟩ (by dsimp only;omega);rcases EJ hq with hq|rfl
 ·rcases EJ hq with hq|rfl
  ·exact h6 q hq
  ·exact h6 _ (EI (by omega))
 ·exact h6 _ (EI (by omega))
theorem AO0(slf:(List EB)×Int×Int×Int×H8->Option (List EB))(x:(List EB)×Int×H8×Int×Int)(h:(∀p,Tot (x.2.2.1 p) fun _=>True)/\0<=x.2.1/\x.2.1<x.1.length/\0<=x.2.2.2.1/\x.2.2.2.1<=x.2.2.2.2/\x.2.2.2.2<=x.1.length/\x.1.length<=1048576):
 Tot (o9 slf x) (fun r:(List EB)×Int=>r.1=x.1/\x.2.2.2.1<=r.2/\r.2<=x.2.2.2.2):=by
 refine F7 (R:=fun r:(List EB)×Int=>r.1=x.1/\x.2.2.2.1<=r.2/\r.2<=x.2.2.2.2) (fun y:(List EB)×Int×H8×Int×Int=>(∀p,Tot (y.2.2.1 p) fun _=>True)/\0<=y.2.1/\y.2.1<y.1.length/\0<=y.2.2.2.1/\y.2.2.2.1<=y.2.2.2.2/\y.2.2.2.2<=y.1.length/\y.1.length<=1048576/\y.1=x.1/\x.2.2.2.1<=y.2.2.2.1/\y.2.2.2.2<=x.2.2.2.2)
  (fun y=>(y.2.2.2.2-y.2.2.2.1).toNat) ?_ _ _ ⟨h.1,h.2.1,h.2.2.1,h.2.2.2.1,h.2.2.2.2.1,h.2.2.2.2.2.1,h.2.2.2.2.2.2,rfl,B0 _,B0 _⟩ (by obtain⟨_,_,_,_,_,_,_⟩:=h;unfold fuel;omega)
 rintro next ⟨data_0,m_2,cmp_4,i_14,j_15⟩ h hn
 dsimp only at h hn;obtain⟨h0,h1,h2,h3,h4,h5,h6,h7,h8,h9⟩:=h;unfold A0w;dsimp only;refine E4.2 ⟨fun hc=>?_,fun hc=>E3.2 ⟨h7,h8,by dsimp only;omega⟩⟩;have hc:=A9 hc;refine E2.2 (OH (by omega) (by omega) (by omega) (by omega) ?_);have hw1:i64.wrap ((i_14+j_15) / 2)=(i_14+j_15) / 2:=E_ (by omega) (by omega);have hw2:i64.wrap ((i_14+j_15) / 2+1)=(i_14+j_15) / 2+1:=E_ (by omega) (by omega);rw[hw1,hw2];refine E2.2 (FJ.2 ⟨⟨by omega,by omega⟩,?_⟩);refine E2.2 (FJ.2 ⟨⟨by omega,by omega⟩,?_⟩);refine E2.2 ((h0 _).mono fun r13 _=>?_);refine E4.2 ⟨fun _=>?_,fun _=>?_⟩
 ·exact hn _ ⟨h0,h1,h2,by dsimp only;omega,by dsimp only;omega,h5,h6,h7,by dsimp only;omega,h9⟩ (by dsimp only;omega)
 ·exact hn _ ⟨h0,h1,h2,h3,by dsimp only;omega,by dsimp only;omega,h6,h7,h8,by dsimp only;omega⟩ (by dsimp only;omega)
theorem AO1(slf:(List EB)×Int×Int×Int×H8->Option (List EB))(x:(List EB)×H8×Int×Int×Int)(h:(∀p,Tot (x.2.1 p) fun _=>True)/\0<=x.2.2.1/\x.2.2.1<=x.2.2.2.1/\x.2.2.2.1<=x.1.length/\x.2.2.2.1-1<=x.2.2.2.2/\x.2.2.2.2-x.2.2.1<x.1.length/\x.1.length<=1048576):
 Tot (oB slf x) (fun r:(List EB)×Int=>r.1=x.1/\x.2.2.1<=r.2/\r.2<=x.2.2.2.1):=by
 refine F7 (R:=fun r:(List EB)×Int=>r.1=x.1/\x.2.2.1<=r.2/\r.2<=x.2.2.2.1) (fun y:(List EB)×H8×Int×Int×Int=>(∀p,Tot (y.2.1 p) fun _=>True)/\0<=y.2.2.1/\y.2.2.1<=y.2.2.2.1/\y.2.2.2.1<=y.1.length/\y.2.2.2.1-1<=y.2.2.2.2/\y.2.2.2.2-y.2.2.1<y.1.length/\y.1.length<=1048576/\y.1=x.1/\x.2.2.1<=y.2.2.1/\y.2.2.2.1<=x.2.2.2.1)
  (fun y=>(y.2.2.2.1-y.2.2.1).toNat) ?_ _ _ ⟨h.1,h.2.1,h.2.2.1,h.2.2.2.1,h.2.2.2.2.1,h.2.2.2.2.2.1,h.2.2.2.2.2.2,rfl,B0 _,B0 _⟩ (by obtain⟨_,_,_,_,_,_,_⟩:=h;unfold fuel;omega)
 rintro next ⟨data_0,cmp_4,start_20,r_21,p_22⟩ h hn
 dsimp only at h hn;obtain⟨h0,h1,h2,h3,h4,h5,h6,h7,h8,h9⟩:=h;unfold A0y;dsimp only;refine E4.2 ⟨fun hc=>?_,fun hc=>E3.2 ⟨h7,h8,by dsimp only;omega⟩⟩;have hc:=A9 hc;refine E2.2 (OH (by omega) (by omega) (by omega) (by omega) ?_);have hw1:i64.wrap ((start_20+r_21) / 2)=(start_20+r_21) / 2:=E_ (by omega) (by omega);have hw2:i64.wrap ((start_20+r_21) / 2+1)=(start_20+r_21) / 2+1:=E_ (by omega) (by omega);have hw3:i64.wrap (p_22-(start_20+r_21) / 2)=p_22-(start_20+r_21) / 2:=E_ (by omega) (by omega);rw[hw1,hw2,hw3];refine E2.2 (FJ.2 ⟨⟨by omega,by omega⟩,?_⟩);refine E2.2 (FJ.2 ⟨⟨by omega,by omega⟩,?_⟩);refine E2.2 ((h0 _).mono fun r4 _=>?_);refine E4.2 ⟨fun _=>?_,fun _=>?_⟩
 ·exact hn _ ⟨h0,by dsimp only;omega,by dsimp only;omega,h3,h4,by dsimp only;omega,h6,h7,by dsimp only;omega,h9⟩ (by dsimp only;omega)
 ·exact hn _ ⟨h0,h1,by dsimp only;omega,by dsimp only;omega,by dsimp only;omega,h5,h6,h7,h8,by dsimp only;omega⟩ (by dsimp only;omega)
theorem AO2(slf:(List EB)×Int×Int×Int×H8->Option (List EB))(x:(List EB)×Int×H8×Int×Int×Bool)(h:x.1.length<=1048576/\(x.2.2.2.2.2=true->0<=x.2.2.2.1/\x.2.2.2.1<x.2.1/\x.2.1<x.2.2.2.2.1/\x.2.2.2.2.1<=x.1.length)):
 Tot (dE slf x) (fun r:List EB=>r.length=x.1.length/\∀q∈r,q∈x.1):=by
 obtain⟨data_0,m_2,cmp_4,start_20,end_24,t185⟩:=x;dsimp only at h;unfold dE;dsimp only;refine E4.2 ⟨fun hc=>?_,fun _=>E3.2 ⟨rfl,fun q hq=>hq⟩⟩;obtain⟨h1,h2,h3,h4⟩:=h.2 hc;exact E2.2 ((ANw _ ⟨h1,h2,h3,h4,h.1⟩).mono fun r hr=>E3.2 hr)
theorem AO3(slf:(List EB)×Int×Int×Int×H8->Option (List EB))(K:Int)(ih:∀y:(List EB)×Int×Int×Int×H8,((∀p,Tot (y.2.2.2.2 p) fun _=>True)/\0<=y.2.1/\y.2.1<y.2.2.1/\y.2.2.1<y.2.2.2.1/\y.2.2.2.1<=y.1.length/\y.1.length<=1048576)->y.2.2.2.1-y.2.1<=K->Tot (slf y) (fun r:List EB=>r.length=y.1.length/\∀q∈r,q∈y.1))(x:(List EB)×Int×Int×Int×H8)(h:(∀p,Tot (x.2.2.2.2 p) fun _=>True)/\0<=x.2.1/\x.2.1<x.2.2.1/\x.2.2.1<x.2.2.2.1/\x.2.2.2.1<=x.1.length/\x.1.length<=1048576)(hK:x.2.2.2.1-x.2.1<=2*K):
 Tot (oC slf x) (fun r:List EB=>r.length=x.1.length/\∀q∈r,q∈x.1):=by
 obtain⟨data_0,a_1,m_2,b_3,cmp_4⟩:=x;dsimp only at h hK;obtain⟨h0,h1,h2,h3,h4,h5⟩:=h;unfold oC;dsimp only;rw[E_ (n:=m_2-a_1) (by omega) (by omega),E_ (n:=b_3-m_2) (by omega) (by omega)];refine E4.2 ⟨fun _=>?_,fun _=>E4.2 ⟨fun _=>?_,fun _=>?_⟩⟩
 ·refine E2.2 ((ANx slf _ ⟨h0,h1,by dsimp only;omega,by dsimp only;omega,by dsimp only;omega,h4,h5⟩).mono fun r5 hr=>?_);dsimp only at hr;obtain⟨e1,e2,e3⟩:=hr;refine E2.2 ((ANy slf _ ⟨by dsimp only;omega,by dsimp only;rw[e1];omega,h1,by dsimp only;rw[e1];exact h5⟩).mono fun r9 hr=>E3.2 ?_);dsimp only at hr;rw[e1]at hr;exact hr
 ·refine E2.2 ((AO0 slf _ ⟨h0,by dsimp only;omega,by dsimp only;omega,h1,by dsimp only;omega,by dsimp only;omega,h5⟩).mono fun r5 hr=>?_);dsimp only at hr;obtain⟨e1,e2,e3⟩:=hr;refine E2.2 ((ANz slf _ ⟨by dsimp only;omega,by dsimp only;rw[e1];omega,by dsimp only;rw[e1];exact h5⟩).mono fun r9 hr=>E3.2 ?_);dsimp only at hr;rw[e1]at hr;exact hr
 ·refine E2.2 (OH (by omega) (by omega) (by omega) (by omega) ?_);generalize hmid:(a_1+b_3) / 2=mid;rw[E_ (n:=mid) (by omega) (by omega),E_ (n:=mid+m_2) (by omega) (by omega),E_ (n:=mid+m_2-1) (by omega) (by omega)]
  have hp:Tot (dD slf (a_1,m_2,b_3,mid,mid+m_2,decide (mid<m_2))) fun r:Int×Int=>0<=r.1/\a_1<=r.1/\mid+m_2-b_3<=r.1/\r.1<=r.2/\r.2<=m_2/\r.2<=mid+m_2/\mid+m_2-1-r.1<data_0.length:=by
   unfold dD;dsimp only;refine E4.2 ⟨fun hc=>E3.2 ?_,fun hc=>E3.2 ?_⟩
   ·have hc:=A9 hc;rw[E_ (by omega) (by omega)];dsimp only;omega
   ·have hc:=AG hc;dsimp only;omega
  refine E2.2 (hp.mono fun r20 hr=>?_);obtain⟨f1,f2,f3,f4,f5,f6,f7⟩:=hr;refine E2.2 ((AO1 slf _ ⟨h0,f1,f4,by dsimp only;omega,by dsimp only;omega,f7,h5⟩).mono fun r26 hr=>?_);dsimp only at hr;obtain⟨e1,e2,e3⟩:=hr;rw[E_ (n:=mid+m_2-r26.2) (by omega) (by omega)];refine E2.2 ((AO2 slf _ ⟨by dsimp only;rw[e1];exact h5,fun hc=>?_⟩).mono fun r29 hr=>?_)
  ·dsimp only at hc ⊢;rw[A5,AV,AV]at hc;rw[e1];omega
  dsimp only at hr;rw[e1]at hr;obtain⟨g1,g2⟩:=hr
  have hq:Tot (dF slf (r29,a_1,cmp_4,mid,r26.2,decide (a_1<r26.2)&&decide (r26.2<mid))) fun r:List EB=>r.length=data_0.length/\∀q∈r,q∈data_0:=by
   unfold dF;dsimp only;refine E4.2 ⟨fun hc=>?_,fun _=>E3.2 ⟨g1,g2⟩⟩;rw[A5,AV,AV]at hc;refine E2.2 ((ih _ ⟨h0,h1,by dsimp only;omega,by dsimp only;omega,by dsimp only;omega,by dsimp only;omega⟩ (by dsimp only;omega)).mono fun r31 hr=>E3.2 ?_);dsimp only at hr;exact⟨by omega,fun q hq=>g2 q (hr.2 q hq)⟩
  refine E2.2 (hq.mono fun r32 hr=>?_);obtain⟨k1,k2⟩:=hr;refine E4.2 ⟨fun hc=>?_,fun _=>E3.2 ⟨k1,k2⟩⟩;rw[A5,AV,AV]at hc;refine E2.2 ((ih _ ⟨h0,by dsimp only;omega,by dsimp only;omega,by dsimp only;omega,by dsimp only;omega,by dsimp only;omega⟩ (by dsimp only;omega)).mono fun r34 hr=>E3.2 ?_);dsimp only at hr;exact⟨by omega,fun q hq=>k2 q (hr.2 q hq)⟩
theorem AO4:∀(n:Nat) (x:(List EB)×Int×Int×Int×H8) (h:(∀p,Tot (x.2.2.2.2 p) fun _=>True)/\0<=x.2.1/\x.2.1<x.2.2.1/\x.2.2.1<x.2.2.2.1/\x.2.2.2.1<=x.1.length/\x.1.length<=1048576) (hK:x.2.2.2.1-x.2.1<=2 ^ n),Tot (KN n x) (fun r:List EB=>r.length=x.1.length/\∀q∈r,q∈x.1):=by
 intro n;induction n with
 |zero=>
  intro x h hK;obtain⟨_,h1,h2,h3,_,_⟩:=h;rw[Int.pow_zero]at hK;omega
 |succ n ih=>
  intro x h hK;refine AO3 (KN n) (2 ^ n) (fun y hy hk=>ih y hy hk) x h ?_;rw[Int.pow_succ]at hK;omega
theorem A78(x:(List EB)×Int×Int×Int×H8)(h:(∀p,Tot (x.2.2.2.2 p) fun _=>True)/\0<=x.2.1/\x.2.1<x.2.2.1/\x.2.2.1<x.2.2.2.1/\x.2.2.2.1<=x.1.length/\x.1.length<=1048576):Tot (VS x) (fun r:List EB=>r.length=x.1.length/\∀q∈r,q∈x.1):=by
 unfold VS;refine AO4 100 x h ?_;obtain⟨_,h1,h2,h3,h4,h5⟩:=h;have:(1048576:Int)<=2 ^ 100:=by decide
 omega
theorem uB:∀(x y:E1),Op.bytesLess x y=decide (x<y):=by
 intro x;induction x with
 |nil=>intro y;cases y<;>simp[Op.bytesLess]
 |cons a x ih=>
  intro y;cases y with
  |nil=>simp[Op.bytesLess]
  |cons b y=>
   rw[Op.bytesLess,ih y];simp only[List.cons_lt_cons_iff];by_cases h1:a<b<;>by_cases h2:a=b<;>by_cases h3:x<y<;>simp[h1,h2,h3]
theorem JU(a:E1):¬a<a:=List.lt_irrefl a
theorem QB{a b c:E1}(h1:a<b)(h2:b<c):a<c:=List.lt_trans h1 h2
theorem X6(a b:E1):a<b\/a=b\/b<a:=by
 by_cases h1:a<b
 ·exact Or.inl h1
 ·by_cases h2:b<a
  ·exact Or.inr (Or.inr h2)
  ·exact Or.inr (Or.inl (List.le_antisymm (List.not_lt.1 h2) (List.not_lt.1 h1)))
theorem AO5{a b c:E1}(h1:¬a<b)(h2:¬b<c):¬a<c:=by
 intro h;rcases X6 a b with h3|h3|h3
 ·exact h1 h3
 ·subst h3;exact h2 h
 ·exact h2 (QB h3 h)
theorem fY{a b:E1}(h1:a<b):¬b<a:=fun h2=>JU a (QB h1 h2)
def K7(a b:E1):Int:=if a<b then -1 else if a=b then 0 else 1
theorem A79(a b:E1):MK (a,b)=some (K7 a b):=by
 unfold MK S0 K7;have e:∀s:E1,EM s s=true:=fun s=>by rw[E9];simp
 simp only[e,BP,A0,AC,uB,E9];by_cases h2:a=b
 ·subst h2;simp[JU]
 ·by_cases h1:a<b<;>simp[h1,h2]
theorem AO6(a b:E1):K7 a b<0<->a<b:=by
 unfold K7;by_cases h2:a=b
 ·subst h2;simp[JU]
 ·by_cases h1:a<b<;>simp[h1,h2]
def X7(a b:Int):Int:=if a<b then -1 else if b<a then 1 else 0
theorem X8(a b:Int):NF (a,b)=some (X7 a b):=by
 unfold NF cM X7;have e:∀s:Int,E6 s s=true:=fun s=>by rw[E5];simp
 simp only[e,BP,A0,AC];by_cases h1:a<b<;>by_cases h2:b<a<;>simp[h1,h2]
section
variable{T:Type}
theorem AO7(xs:List T)(F:T×T->Option Int)(h:UZ xs F):Tot (P5 xs F) (fun r=>r.Perm xs/\r.Pairwise (fun a b=>∀c,F (b,a)=some c->0<=c)):=by
 unfold P5;split
 ·rename_i h0;unfold HZ;rw[A6 h];refine E3.2 ?_
  letI:Inhabited (Fin xs.length):=⟨⟨0,h0⟩⟩
  have hs:Sort.SWO (IL xs F):=⟨h.2.1,h.2.2.1,h.2.2.2⟩;have hp:=Sort.pdq_sorts (IL xs F) hs (Array.ofFn id) 0 xs.length (Lib.bitLen xs.length) true true (BI _) (by simp) (Or.inl rfl);have e:JR xs F h0=Sort.pdq (IL xs F) (Array.ofFn id) 0 xs.length (Lib.bitLen xs.length) true true:=zP xs F h0;rw[e];generalize Sort.pdq (IL xs F) (Array.ofFn id) 0 xs.length (Lib.bitLen xs.length) true true=d at hp;obtain⟨⟨h1,_,h3⟩,h4⟩:=hp;have hsz:d.size=xs.length:=by rw[h1];simp
  have e1:d.extract 0 xs.length=d:=by
   have:=Array.extract_size (xs:=d);rwa[hsz]at this
  have e2:(Array.ofFn (id:Fin xs.length->Fin xs.length)).extract 0 xs.length=Array.ofFn id:=by
   have:=Array.extract_size (xs:=Array.ofFn (id:Fin xs.length->Fin xs.length));rwa[Array.size_ofFn]at this
  rw[e1,e2]at h3;constructor
  ·have h5:=h3.map xs.get
   have e3:(Array.ofFn (id:Fin xs.length->Fin xs.length)).toList.map xs.get=xs:=by
    rw[Array.toList_ofFn,List.map_ofFn];apply List.ext_getElem
    ·simp
    ·intro i h1 h2;simp
   rwa[e3]at h5
  ·rw[List.pairwise_map,CX];intro i j hi hj hij c hc;have hl:d.toList.length=xs.length:=by rw[BY];exact hsz
   have h6:=h4 i j (BI _) hij (by omega);rw[getElem!_pos d i (by omega),getElem!_pos d j (by omega)]at h6;unfold IL N8 at h6;rw[Array.getElem_toList,Array.getElem_toList]at hc;rw[hc]at h6;simpa using h6
 ·rename_i h0;have:xs=[]:=D1.1 (by omega);subst this;exact E3.2 ⟨List.Perm.refl _,List.Pairwise.nil⟩
end
abbrev Edge:=Int×E1×Bool×E1
abbrev HO:=Edge×Edge
def eo(a b:Edge):Int:=if a.1≠b.1\/a.1≠0 then X7 a.1 b.1 else if K7 a.2.1 b.2.1≠0\/a.2.2.1=b.2.2.1 then K7 a.2.1 b.2.1 else if a.2.2.1 then 1 else -1
theorem A7A(a b:Edge):L7 (a,b)=some (eo a b):=by
 unfold L7 eo;dsimp only;rw[X8,A79];simp only[A0,E5];by_cases h1:a.1=b.1
 ·by_cases h2:a.1=0
  ·have hb:JN a.2.2.1 b.2.2.1=decide (a.2.2.1=b.2.2.1):=by cases a.2.2.1<;>cases b.2.2.1<;>rfl
   rw[hb];by_cases h3:K7 a.2.1 b.2.1=0<;>by_cases h4:a.2.2.1=b.2.2.1<;>simp[<-h1,h2,h3,h4]<;>(cases a.2.2.1<;>simp)
  ·simp[<-h1,h2]
 ·simp[h1]
def JV(a b:Edge):Prop:=a.1<b.1\/(a.1=b.1/\a.1=0/\(a.2.1<b.2.1\/(a.2.1=b.2.1/\a.2.2.1=false/\b.2.2.1=true)))
theorem A7B(a b:Edge):eo a b<0<->JV a b:=by
 unfold eo JV X7;by_cases h1:a.1=b.1
 ·by_cases h2:a.1=0
  ·have hb:b.1=0:=by omega
   have g1:¬(a.1≠b.1\/a.1≠0):=by omega
   rw[if_neg g1];rcases X6 a.2.1 b.2.1 with h3|h3|h3
   ·have:K7 a.2.1 b.2.1= -1:=by unfold K7;rw[if_pos h3]
    rw[this];simp[h1,hb,h3]
   ·have:K7 a.2.1 b.2.1=0:=by unfold K7;rw[if_neg (by rw[h3];exact JU _),if_pos h3]
    rw[this,h3];cases ha:a.2.2.1<;>cases hb':b.2.2.1<;>simp[h1,hb,JU]
   ·have e:¬a.2.1=b.2.1:=fun e=>by rw[e]at h3;exact JU _ h3
    have:K7 a.2.1 b.2.1=1:=by unfold K7;rw[if_neg (fY h3),if_neg e]
    rw[this];simp[h1,hb,fY h3,e]
  ·have hb:¬b.1=0:=by omega
   simp[h1,hb]
 ·simp only[ne_eq,h1,not_false_eq_true,true_or,if_true,DY,or_false];by_cases h2:a.1<b.1
  ·simp[h2]
  ·by_cases h3:b.1<a.1
   ·simp[h2,h3]
   ·omega
instance(a b:Edge):Decidable (JV a b):=by unfold JV;infer_instance
theorem AO8(a:Edge):¬JV a a:=by
 rintro(h|⟨_,_,h|⟨_,h1,h2⟩⟩)
 ·omega
 ·exact JU _ h
 ·rw[h1]at h2;cases h2
theorem AO9{a b c:Edge}(h1:JV a b)(h2:JV b c):JV a c:=by
 unfold JV at *;rcases h1 with h1|⟨p1,p2,p3⟩
 ·rcases h2 with h2|⟨q1,q2,q3⟩<;>exact Or.inl (by omega)
 ·rcases h2 with h2|⟨q1,q2,q3⟩
  ·exact Or.inl (by omega)
  ·refine Or.inr ⟨by omega,p2,?_⟩;rcases p3 with p3|⟨p3,p4,p5⟩
   ·rcases q3 with q3|⟨q3,q4,q5⟩
    ·exact Or.inl (QB p3 q3)
    ·exact Or.inl (q3▸p3)
   ·rcases q3 with q3|⟨q3,q4,q5⟩
    ·exact Or.inl (p3▸q3)
    ·rw[p5]at q4;cases q4
theorem AOA{a b c:Edge}(h1:¬JV a b)(h2:¬JV b c):¬JV a c:=by
 intro h;unfold JV at *;simp only[not_or,not_and]at h1 h2;obtain⟨a1,a2⟩:=h1;obtain⟨b1,b2⟩:=h2;rcases h with h|⟨p1,p2,p3⟩
 ·omega
 ·have e1:a.1=b.1:=by omega
  have e2:b.1=c.1:=by omega
  obtain⟨a3,a4⟩:=a2 e1 p2;obtain⟨b3,b4⟩:=b2 e2 (by omega);rcases p3 with p3|⟨p3,p4,p5⟩
  ·exact AO5 a3 b3 p3
  ·rcases X6 a.2.1 b.2.1 with g|g|g
   ·exact a3 g
   ·have g2:b.2.1=c.2.1:=g▸p3;have:=a4 g p4;have:=b4 g2 (by cases hb:b.2.2.1<;>simp_all);exact this p5
   ·exact b3 (p3▸g)
theorem AOB(xs:List HO):Tot (lE (xs,fun x=>(NG x).bind fun r=>some r)) (fun r=>r.Perm xs/\r.Pairwise fun a b=>¬JV b.1 a.1):=by
 have hF:∀a b:HO,(NG (a,b)).bind (fun r=>some r)=some (eo a.1 b.1):=by
  intro a b;unfold NG;dsimp only;rw[A7A];rfl
 have e:∀i j,IL xs (fun x=>(NG x).bind fun r=>some r) i j=decide (JV (xs.get i).1 (xs.get j).1):=by
  intro i j;unfold IL N8;show decide ((((NG (xs.get i,xs.get j)).bind fun r=>some r).getD 0)<0)=_;rw[hF];simp only[DD];exact decide_eq_decide.2 (A7B _ _)
 have hs:UZ xs (fun x=>(NG x).bind fun r=>some r):=by
  refine⟨fun i j=>by show((NG (xs.get i,xs.get j)).bind fun r=>some r).isSome=true;rw[hF];rfl,fun i=>?_,fun i j k=>?_,fun i j k=>?_⟩
  ·rw[e];simp[AO8]
  ·rw[e,e,e];simp only[AV];exact AO9
  ·rw[e,e,e];simp only[DK];exact AOA
 refine(AO7 xs _ hs).mono fun r hr=>⟨hr.1,hr.2.imp fun {a b} h hlt=>?_⟩;have:=h _ (hF b a);have:=(A7B b.1 a.1).2 hlt;omega
abbrev Af:=E1×Int×ID×(List E1)×(List E1)
abbrev IT:=E1×(List E1)×E1×Int×Bool×E1×(List Af)
abbrev Bnd:=Bool×Bool×E1
abbrev SX:=Bnd×Bnd
def MS(a:Af):Prop:=a.1.length<=1048576/\a.2.2.1.length<=1048576/\(∀v∈a.2.2.1,v.2.length<=1048576)/\a.2.2.2.1.length<=1048576/\(∀s∈a.2.2.2.1,s.length<=1048576)/\a.2.2.2.2.length<=1048576/\(∀s∈a.2.2.2.2,s.length<=1048576)
def uC(a:Af):Prop:=a.2.2.1.length<=100/\(∀v∈a.2.2.1,1<=v.1/\v.1<=3)/\a.2.2.2.1.length<=500
def LB(a:IT):Prop:=a.1.length<=1048576/\a.2.1.length<=1048576/\(∀s∈a.2.1,s.length<=1048576)/\a.2.2.1.length<=1048576/\a.2.2.2.2.2.1.length<=1048576/\a.2.2.2.2.2.2.length<=1048576/\∀x∈a.2.2.2.2.2.2,MS x
abbrev GQ(s:SX):Prop:=s.1.2.2.length<=100/\s.2.2.2.length<=100
abbrev HB(s:HO):Prop:=s.1.2.2.2.length<=100/\s.2.2.2.2.length<=100
theorem LC{α:Type}{l:List α}{i:Nat}{x:α}(h:l[i]?=some x):x∈l:=AP h
theorem AOC(x:Int×Int)(h:True):Tot (NF x) fun _=>True:=⟨_,X8 x.1 x.2,trivial⟩
theorem QC(x:Edge×Edge)(h:True):Tot (L7 x) fun _=>True:=⟨_,A7A x.1 x.2,trivial⟩
theorem fZ(x:E1)(h:x.length<=1048576):Tot (PD x) (fun r:Int×Bool=>0<=r.1/\r.1<=999999999999999999):=by
 unfold PD
 repeat' first
  |(with_reducible first|refine E4.2 ⟨fun _=>?_,fun _=>?_⟩|refine E2.2 ?_|refine E3.2 ?_|refine F4.2 ⟨?_,fun _ _=>?_⟩|refine(K6 _ ?_).mono fun _ _=>?_)
  |dsimp only
 all_goals exact gq2
theorem A7C(x:Int)(h:True):Tot (aX x) (fun r:Bool=>True):=by
 unfold aX
 repeat' first
  |(with_reducible first|refine E4.2 ⟨fun _=>?_,fun _=>?_⟩|refine E2.2 ?_|refine E3.2 ?_|refine(HA _ ?_).mono fun _ _=>?_|refine(IF _ ?_).mono fun _ _=>?_)
  |dsimp only
 all_goals exact gq2
theorem AOD(x:(List E1)×Int×Int)(h:0<=x.2.2/\x.2.2<=x.2.1/\x.2.1=x.1.length/\x.2.1<=281474976710656/\∀s∈x.1,s.length<=1000):Tot (mO x) (fun r:Sum (Unit) KL=>∀y,r=.inr y->y.1=[]/\y.2=false):=by
 refine F7 (R:=fun r:Sum (Unit) KL=>∀y,r=.inr y->y.1=[]/\y.2=false) (fun y:(List E1)×Int×Int=>(0<=y.2.2/\y.2.2<=y.2.1/\y.2.1=y.1.length/\y.2.1<=281474976710656/\∀s∈y.1,s.length<=1000)) (fun y:(List E1)×Int×Int=>(y.2.1-y.2.2).toNat) ?_ _ _ (by grind) (by unfold fuel;grind);rintro next ⟨t9,t10,t11⟩ h hn
 try dsimp only at h hn
 unfold A0N
 repeat' first
  |(with_reducible first|refine E4.2 ⟨fun _=>?_,fun _=>?_⟩|refine E2.2 ?_|refine E3.2 ?_|refine F4.2 ⟨?_,fun _ _=>?_⟩|refine(A7C _ ?_).mono fun _ _=>?_|refine(M5 _ ?_ ?_).mono fun _ _=>?_)
  |exact fun c=>G_ (HA c trivial)
  |exact fun c=>G_ (IF c trivial)
  |exact fun c=>G_ (A7C c trivial)
  |with_reducible refine hn _ ?_ ?_
  |dsimp only
 all_goals exact gq2
theorem A7D(x:E1)(h:x.length<=1000):Tot (V7 x) (fun r:(List E1)×Bool=>LS r.1):=by
 unfold V7
 repeat' first
  |(with_reducible first|refine E2.2 ?_|refine E3.2 ?_|refine(A6s _ ?_).mono fun _ _=>?_|refine(AOD _ ?_).mono fun _ _=>?_)
  |split
  |dsimp only
 all_goals exact gq2
theorem AOE(x:(List E1)×Int×Int)(h:0<=x.2.2/\x.2.2<=x.2.1/\x.2.1=x.1.length/\x.2.1<=281474976710656/\∀s∈x.1,s.length<=1000):Tot (mP x) (fun r:Sum (Unit) KL=>∀y,r=.inr y->y.1=[]/\y.2=false):=by
 refine F7 (R:=fun r:Sum (Unit) KL=>∀y,r=.inr y->y.1=[]/\y.2=false) (fun y:(List E1)×Int×Int=>(0<=y.2.2/\y.2.2<=y.2.1/\y.2.1=y.1.length/\y.2.1<=281474976710656/\∀s∈y.1,s.length<=1000)) (fun y:(List E1)×Int×Int=>(y.2.1-y.2.2).toNat) ?_ _ _ (by grind) (by unfold fuel;grind);rintro next ⟨t15,t16,t17⟩ h hn
 try dsimp only at h hn
 unfold A0O
 repeat' first
  |(with_reducible first|refine E4.2 ⟨fun _=>?_,fun _=>?_⟩|refine E2.2 ?_|refine E3.2 ?_|refine F4.2 ⟨?_,fun _ _=>?_⟩|refine(HA _ ?_).mono fun _ _=>?_|refine(fZ _ ?_).mono fun _ _=>?_|refine(M5 _ ?_ ?_).mono fun _ _=>?_)
  |exact fun c=>G_ (HA c trivial)
  |exact fun c=>G_ (IF c trivial)
  |with_reducible refine hn _ ?_ ?_
  |dsimp only
 all_goals exact gq2
theorem AOF(x:E1)(h:x.length<=1000):Tot (aY x) (fun r:(List E1)×Bool=>LS r.1):=by
 unfold aY
 repeat' first
  |(with_reducible first|refine E2.2 ?_|refine E3.2 ?_|refine(A7D _ ?_).mono fun _ _=>?_|refine(AOE _ ?_).mono fun _ _=>?_)
  |split
  |dsimp only
 all_goals exact gq2
theorem AOG(x:E1)(h:x.length<=1000):Tot (aZ x) (fun r:(List E1)×Bool=>LS r.1):=by
 unfold aZ
 repeat' first
  |(with_reducible first|refine E4.2 ⟨fun _=>?_,fun _=>?_⟩|refine E2.2 ?_|refine E3.2 ?_|refine F4.2 ⟨?_,fun _ _=>?_⟩|refine HG.2 ⟨?_,?_⟩|refine(A73 _ ?_).mono fun _ _=>?_|refine(A7D _ ?_).mono fun _ _=>?_|refine(AOF _ ?_).mono fun _ _=>?_)
  |dsimp only
 all_goals exact gq2
theorem AOH(x:E1×Int×Bool)(h:0<=x.2.1/\x.2.1<=x.1.length/\x.1.length<=1000):Tot (a_ x) (fun r:Sum (Int) (H3×Bool)=>(∀y,r=.inl y->0<=y/\y<=x.1.length)/\∀y,r=.inr y->y.2=false):=by
 obtain⟨s_0,at_5,t16⟩:=x;try dsimp only at h ⊢
 unfold a_
 repeat' first
  |(with_reducible first|refine E4.2 ⟨fun _=>?_,fun _=>?_⟩|refine E2.2 ?_|refine E3.2 ?_|refine F4.2 ⟨?_,fun _ _=>?_⟩)
  |dsimp only
 all_goals exact gq2
theorem AOI(x:E1×JE×Int×Int)(h:0<=x.2.2.2/\x.2.2.2<=3/\0<=x.2.2.1/\x.2.2.1<=x.1.length/\x.1.length<=1000/\x.2.1.1.length=3/\(∀n∈x.2.1.1,0<=n/\n<=999999999999999999)):Tot (mQ x) (fun r:Sum (JE×Int) (H3×Bool)=>(∀y,r=.inl y->y.1.1.length=3/\(∀n∈y.1.1,0<=n/\n<=999999999999999999)/\0<=y.2/\y.2<=x.1.length)/\∀y,r=.inr y->y.2=false):=by
 refine F7 (R:=fun r:Sum (JE×Int) (H3×Bool)=>(∀y,r=.inl y->y.1.1.length=3/\(∀n∈y.1.1,0<=n/\n<=999999999999999999)/\0<=y.2/\y.2<=x.1.length)/\∀y,r=.inr y->y.2=false) (fun y:E1×JE×Int×Int=>(0<=y.2.2.2/\y.2.2.2<=3/\0<=y.2.2.1/\y.2.2.1<=y.1.length/\y.1.length<=1000/\y.2.1.1.length=3/\(∀n∈y.2.1.1,0<=n/\n<=999999999999999999))/\y.1=x.1) (fun y:E1×JE×Int×Int=>(3-y.2.2.2).toNat) ?_ _ _ (by grind) (by unfold fuel;grind);rintro next ⟨s_0,v_4,at_5,t12⟩ h hn
 try dsimp only at h hn
 unfold A0P
 repeat' first
  |(with_reducible first|refine E4.2 ⟨fun _=>?_,fun _=>?_⟩|refine E2.2 ?_|refine E3.2 ?_|refine FJ.2 ⟨?_,?_⟩|refine HG.2 ⟨?_,?_⟩|refine(AOH _ ?_).mono fun _ _=>?_|refine(HA _ ?_).mono fun _ _=>?_|refine(fZ _ ?_).mono fun _ _=>?_|refine(M5 _ ?_ ?_).mono fun _ _=>?_)
  |exact fun c=>G_ (HA c trivial)
  |exact fun c=>G_ (IF c trivial)
  |with_reducible refine hn _ ?_ ?_
  |split
  |dsimp only
 all_goals exact gq2
theorem AOJ(x:E1)(h:x.length<=1000):Tot (bA x) (fun r:H3×Bool=>r.2=true->J3 r.1):=by
 unfold bA
 repeat' first
  |(with_reducible first|refine E2.2 ?_|refine E3.2 ?_|refine HG.2 ⟨?_,?_⟩|refine(AOI _ ?_).mono fun _ _=>?_|refine(AOG _ ?_).mono fun _ _=>?_)
  |split
  |dsimp only
 all_goals grind[EE,ED,EH,E9,E5,EG,EF,EC,EI,EJ,ES,EQ,EV,EW,EX,EY,EZ,ANj]
theorem A7E(x:Int)(h:True):Tot (bB x) (fun r:Bool=>True):=by
 unfold bB
 repeat' first
  |(with_reducible first|refine E4.2 ⟨fun _=>?_,fun _=>?_⟩|refine E2.2 ?_|refine E3.2 ?_|refine(HA _ ?_).mono fun _ _=>?_|refine(IF _ ?_).mono fun _ _=>?_|refine(P_ _ ?_).mono fun _ _=>?_)
  |dsimp only
 all_goals exact gq2
theorem AOK(x:E1×Int)(h:0<=x.2/\x.2<=x.1.length/\x.1.length<=1000):Tot (mR x) (fun r:Sum (Unit) (Bool)=>True):=by
 refine F7 (R:=fun r:Sum (Unit) (Bool)=>True) (fun y:E1×Int=>(0<=y.2/\y.2<=y.1.length/\y.1.length<=1000)/\y.1=x.1) (fun y:E1×Int=>(y.1.length-y.2:Int).toNat) ?_ _ _ (by grind) (by unfold fuel;grind);rintro next ⟨s_0,at_3⟩ h hn
 try dsimp only at h hn
 unfold A0Q
 repeat' first
  |(with_reducible first|refine E4.2 ⟨fun _=>?_,fun _=>?_⟩|refine E2.2 ?_|refine E3.2 ?_|refine(HA _ ?_).mono fun _ _=>?_|refine(M5 _ ?_ ?_).mono fun _ _=>?_)
  |exact fun c=>G_ (HA c trivial)
  |exact fun c=>G_ (IF c trivial)
  |with_reducible refine hn _ ?_ ?_
  |dsimp only
 all_goals grind[EE,ED,EH,E9,E5,EG,EF,EC,EI,EJ,ES,EQ,EV,EW,EX,EY,EZ,T_]
theorem AOL(x:E1)(h:x.length<=1000):Tot (bC x) (fun r:Bool=>True):=by
 unfold bC
 repeat' first
  |(with_reducible first|refine E2.2 ?_|refine E3.2 ?_|refine(AOK _ ?_).mono fun _ _=>?_)
  |split
  |dsimp only
 all_goals exact gq2
theorem AOM(x:E1×IZ×E1×E1×Bool)(h:x.1.length<=1000/\x.2.2.2.1.length<=1000/\x.2.2.1.length<=1000/\x.2.1.1=0):Tot (bD x) (fun r:Sum (E1×IZ) (H3×Bool)=>(∀y,r=.inl y->y.1.length<=1000/\0<=y.2.1/\y.2.1<=999999999999999999/\y.2.2=x.2.1.2)/\∀y,r=.inr y->y.2=false):=by
 obtain⟨s_0,v_4,epoch_5,rest_6,t18⟩:=x;try dsimp only at h ⊢
 unfold bD
 repeat' first
  |(with_reducible first|refine E4.2 ⟨fun _=>?_,fun _=>?_⟩|refine E2.2 ?_|refine E3.2 ?_|refine(fZ _ ?_).mono fun _ _=>?_)
  |dsimp only
 all_goals exact gq2
set_option maxHeartbeats 4000000 in
theorem AON(x:E1)(h:x.length<=1000):Tot (bE x) (fun r:H3×Bool=>r.2=true->J3 r.1):=by
 unfold bE
 repeat' first
  |(with_reducible first|refine E4.2 ⟨fun _=>?_,fun _=>?_⟩|refine E2.2 ?_|refine E3.2 ?_|refine F4.2 ⟨?_,fun _ _=>?_⟩|refine HG.2 ⟨?_,?_⟩|refine(A73 _ ?_).mono fun _ _=>?_|refine(AOM _ ?_).mono fun _ _=>?_|refine(HA _ ?_).mono fun _ _=>?_|refine(A7E _ ?_).mono fun _ _=>?_|refine(AOL _ ?_).mono fun _ _=>?_|refine(ANY _ ?_).mono fun _ _=>?_|refine(P_ _ ?_).mono fun _ _=>?_|refine(M5 _ ?_ ?_).mono fun _ _=>?_)
  |exact fun c=>G_ (HA c trivial)
  |exact fun c=>G_ (IF c trivial)
  |exact fun c=>G_ (A7E c trivial)
  |split
  |dsimp only
 all_goals grind[EE,ED,EH,E9,E5,EG,EF,EC,EI,EJ,ES,EQ,EV,EW,EX,EY,EZ,ANk]
theorem AOO(x:E1×(List Int))(h:x.1.length<=1000/\x.2.length+x.1.length<=1001/\(∀n∈x.2,0<=n/\n<=999999999999999999)):Tot (mS x) (fun r:(List Int)×E1×Bool=>NS r.1/\r.2.1.length<=1000):=by
 refine F7 (R:=fun r:(List Int)×E1×Bool=>NS r.1/\r.2.1.length<=1000) (fun y:E1×(List Int)=>(y.1.length<=1000/\y.2.length+y.1.length<=1001/\(∀n∈y.2,0<=n/\n<=999999999999999999))) (fun y:E1×(List Int)=>y.1.length) ?_ _ _ (by grind) (by unfold fuel;grind);rintro next ⟨s_0,out_5⟩ h hn
 try dsimp only at h hn
 unfold A0R
 repeat' first
  |(with_reducible first|refine E4.2 ⟨fun _=>?_,fun _=>?_⟩|refine E2.2 ?_|refine E3.2 ?_|refine F4.2 ⟨?_,fun _ _=>?_⟩|refine HG.2 ⟨?_,?_⟩|refine G7.2 ⟨?_,?_⟩|refine(HA _ ?_).mono fun _ _=>?_|refine(K6 _ ?_).mono fun _ _=>?_|refine(M5 _ ?_ ?_).mono fun _ _=>?_)
  |exact fun c=>G_ (HA c trivial)
  |exact fun c=>G_ (IF c trivial)
  |with_reducible refine hn _ ?_ ?_
  |dsimp only
 all_goals exact gq2
theorem AOP(x:E1)(h:x.length<=1000):Tot (bG x) (fun r:(List Int)×E1×Bool=>NS r.1/\r.2.1.length<=1000):=by
 unfold bG
 repeat' first
  |(with_reducible first|refine E2.2 ?_|refine E3.2 ?_|refine(AOO _ ?_).mono fun _ _=>?_)
  |dsimp only
 all_goals exact gq2
theorem AOQ(x:E1×MI)(h:∀c,Tot (x.2 c) fun _=>True):Tot (V8 x) (fun r:Int=>0<=r/\r<=1/\r<=x.1.length):=by
 obtain⟨s_0,is_1⟩:=x;try dsimp only at h ⊢
 unfold V8
 repeat' first
  |(with_reducible first|refine E4.2 ⟨fun _=>?_,fun _=>?_⟩|refine E2.2 ?_|refine E3.2 ?_|refine F4.2 ⟨?_,fun _ _=>?_⟩|refine(ANq _ ?_).mono fun _ _=>?_|refine(h _).mono fun _ _=>?_)
  |dsimp only
 all_goals exact gq2
theorem AOR(x:E1×E1×(List E1)×Int×Int)(h:0<=x.2.2.2.2/\x.2.2.2.2<=x.2.2.2.1/\x.2.2.2.1=x.2.2.1.length/\x.2.2.2.1<=281474976710656/\x.2.1=[]):Tot (mU x) (fun r:E1=>r.length<=x.1.length):=by
 refine F7 (R:=fun r:E1=>r.length<=x.1.length) (fun y:E1×E1×(List E1)×Int×Int=>(0<=y.2.2.2.2/\y.2.2.2.2<=y.2.2.2.1/\y.2.2.2.1=y.2.2.1.length/\y.2.2.2.1<=281474976710656/\y.2.1=[])/\y.1=x.1/\y.2.1=x.2.1) (fun y:E1×E1×(List E1)×Int×Int=>(y.2.2.2.1-y.2.2.2.2).toNat) ?_ _ _ (by grind) (by unfold fuel;grind);rintro next ⟨s_0,word_2,t7,t8,t9⟩ h hn
 try dsimp only at h hn
 unfold A0S
 repeat' first
  |(with_reducible first|refine E4.2 ⟨fun _=>?_,fun _=>?_⟩|refine E2.2 ?_|refine E3.2 ?_|refine F4.2 ⟨?_,fun _ _=>?_⟩|refine(ANV _ ?_).mono fun _ _=>?_|refine hn _ ?_ ?_)
  |dsimp only
 all_goals exact gq2
theorem AOS(x:E1×Bool)(h:True):Tot (bH x) (fun r:Bool=>True):=by
 obtain⟨t18,t21⟩:=x;try dsimp only at h ⊢
 unfold bH
 repeat' first
  |(with_reducible first|refine E4.2 ⟨fun _=>?_,fun _=>?_⟩|refine E3.2 ?_)
  |dsimp only
 all_goals exact gq2
theorem AOT(x:E1×Bool)(h:True):Tot (bI x) (fun r:Bool=>True):=by
 obtain⟨t18,t25⟩:=x;try dsimp only at h ⊢
 unfold bI
 repeat' first
  |(with_reducible first|refine E4.2 ⟨fun _=>?_,fun _=>?_⟩|refine E3.2 ?_)
  |dsimp only
 all_goals exact gq2
theorem AOU(x:E1×Bool)(h:True):Tot (bJ x) (fun r:Bool=>True):=by
 obtain⟨t18,t29⟩:=x;try dsimp only at h ⊢
 unfold bJ
 repeat' first
  |(with_reducible first|refine E4.2 ⟨fun _=>?_,fun _=>?_⟩|refine E3.2 ?_)
  |dsimp only
 all_goals exact gq2
theorem AOV(x:E1)(h:True):Tot (bK x) (fun r:E1×Int×Int=>x.length<=281474976710656->r.1.length<=x.length/\(r.1≠[]->1<=r.2.1)/\r.2.1<=3/\0<=r.2.2/\r.2.2<=3):=by
 unfold bK
 repeat' first
  |(with_reducible first|refine E4.2 ⟨fun _=>?_,fun _=>?_⟩|refine E2.2 ?_|refine E3.2 ?_|refine(AOR _ ?_).mono fun _ _=>?_|refine(AOS _ ?_).mono fun _ _=>?_|refine(AOT _ ?_).mono fun _ _=>?_|refine(AOU _ ?_).mono fun _ _=>?_)
  |dsimp only
 all_goals exact gq2
theorem AOW(x:E1×Int×Int×Bool)(h:0<=x.2.2.1/\x.2.2.1<=x.1.length/\x.1.length<=1000/\0<=x.2.1/\x.2.1<=999999999999999999):Tot (bL x) (fun r:Sum (E1×Int) (E1×Bool)=>(∀y,r=.inl y->y.1.length<=x.1.length/\0<=y.2/\y.2<=999999999999999999)/\∀y,r=.inr y->y.2=false/\y.1=[]):=by
 obtain⟨rest_7,n_11,k_12,t49⟩:=x;try dsimp only at h ⊢
 unfold bL
 repeat' first
  |(with_reducible first|refine E4.2 ⟨fun _=>?_,fun _=>?_⟩|refine E2.2 ?_|refine E3.2 ?_|refine HG.2 ⟨?_,?_⟩|refine(HA _ ?_).mono fun _ _=>?_|refine(K6 _ ?_).mono fun _ _=>?_|refine(M5 _ ?_ ?_).mono fun _ _=>?_)
  |exact fun c=>G_ (HA c trivial)
  |exact fun c=>G_ (IF c trivial)
  |dsimp only
 all_goals exact gq2
set_option maxHeartbeats 1000000 in
theorem AOX(x:F_×E1×Int)(h:x.2.1.length<=1000/\0<=x.2.2/\x.2.2<=3/\MR x.1):Tot (mV x) (fun r:F_×E1×Bool=>MR r.1/\r.2.1.length<=1000):=by
 refine F7 (R:=fun r:F_×E1×Bool=>MR r.1/\r.2.1.length<=1000) (fun y:F_×E1×Int=>(y.2.1.length<=1000/\0<=y.2.2/\y.2.2<=3/\MR y.1)) (fun y:F_×E1×Int=>(4-y.2.2).toNat) ?_ _ _ (by grind) (by unfold fuel;grind);rintro next ⟨v_0,s_1,last_6⟩ h hn
 try dsimp only at h hn
 unfold A0T
 repeat' first
  |(with_reducible first|refine E4.2 ⟨fun _=>?_,fun _=>?_⟩|refine E2.2 ?_|refine E3.2 ?_|refine F4.2 ⟨?_,fun _ _=>?_⟩|refine HG.2 ⟨?_,?_⟩|refine(AOQ _ ?_).mono fun _ _=>?_|refine(IF _ ?_).mono fun _ _=>?_|refine(AOV _ ?_).mono fun _ _=>?_|refine(HA _ ?_).mono fun _ _=>?_|refine(AOW _ ?_).mono fun _ _=>?_)
  |exact fun c=>G_ (HA c trivial)
  |exact fun c=>G_ (IF c trivial)
  |with_reducible refine hn _ ?_ ?_
  |split
  |dsimp only
 all_goals exact gq2
theorem AOY(x:F_×E1)(h:x.2.length<=1000/\MR x.1):Tot (bM x) (fun r:E1×Bool×F_=>r.1.length<=1000/\MR r.2.2):=by
 obtain⟨v_0,s_1⟩:=x;try dsimp only at h ⊢
 unfold bM
 repeat' first
  |(with_reducible first|refine E2.2 ?_|refine E3.2 ?_|refine(AOX _ ?_).mono fun _ _=>?_)
  |dsimp only
 all_goals exact gq2
theorem A7F(x:Int)(h:True):Tot (bN x) (fun r:Bool=>True):=by
 unfold bN
 repeat' first
  |(with_reducible first|refine E4.2 ⟨fun _=>?_,fun _=>?_⟩|refine E2.2 ?_|refine E3.2 ?_|refine(HA _ ?_).mono fun _ _=>?_|refine(IF _ ?_).mono fun _ _=>?_)
  |dsimp only
 all_goals exact gq2
theorem AOZ(x:Int×(List E1)×Int×Int)(h:0<=x.2.2.2/\x.2.2.2<=x.2.2.1/\x.2.2.1=x.2.1.length/\x.2.2.1<=281474976710656/\0<=x.1/\x.1<=1048576+1000*x.2.2.2/\(∀s∈x.2.1,s.length<=1000)/\x.2.2.1<=1048576):Tot (mX x) (fun r:Sum (Int) KL=>∀y,r=.inr y->y.1=[]):=by
 refine F7 (R:=fun r:Sum (Int) KL=>∀y,r=.inr y->y.1=[]) (fun y:Int×(List E1)×Int×Int=>(0<=y.2.2.2/\y.2.2.2<=y.2.2.1/\y.2.2.1=y.2.1.length/\y.2.2.1<=281474976710656/\0<=y.1/\y.1<=1048576+1000*y.2.2.2/\(∀s∈y.2.1,s.length<=1000)/\y.2.2.1<=1048576)) (fun y:Int×(List E1)×Int×Int=>(y.2.2.1-y.2.2.2).toNat) ?_ _ _ (by grind) (by unfold fuel;grind);rintro next ⟨n_5,t13,t14,t15⟩ h hn
 try dsimp only at h hn
 unfold A0U
 repeat' first
  |(with_reducible first|refine E4.2 ⟨fun _=>?_,fun _=>?_⟩|refine E2.2 ?_|refine E3.2 ?_|refine F4.2 ⟨?_,fun _ _=>?_⟩|refine(HA _ ?_).mono fun _ _=>?_|refine(A7F _ ?_).mono fun _ _=>?_|refine(M5 _ ?_ ?_).mono fun _ _=>?_)
  |exact fun c=>G_ (HA c trivial)
  |exact fun c=>G_ (IF c trivial)
  |exact fun c=>G_ (A7F c trivial)
  |with_reducible refine hn _ ?_ ?_
  |dsimp only
 all_goals exact gq2
theorem AO_(x:E1)(h:x.length<=1000):Tot (bO x) (fun r:(List E1)×Bool=>LS r.1):=by
 unfold bO
 repeat' first
  |(with_reducible first|refine E2.2 ?_|refine E3.2 ?_|refine(A76 _ ?_).mono fun _ _=>?_|refine(AOZ _ ?_).mono fun _ _=>?_|refine(ANi _ ⟨?_,?_⟩).mono fun _ _=>?_)
  |exact fun c=>G_ (A76 c trivial)
  |split
  |dsimp only
 all_goals exact gq2
theorem AOa(x:E1×F_×Int×Bool)(h:x.1.length<=1000/\x.2.1.1=0/\0<=x.2.2.1/\x.2.2.1<=x.1.length/\(x.2.2.2=true->x.2.2.1<x.1.length)):Tot (bP x) (fun r:Sum (E1×F_) (H3×Bool)=>(∀y,r=.inl y->y.1.length<=1000/\0<=y.2.1/\y.2.1<=999999999999999999/\y.2.2=x.2.1.2)/\∀y,r=.inr y->y.2=false):=by
 obtain⟨s_0,v_4,n_5,t29⟩:=x;try dsimp only at h ⊢
 unfold bP
 repeat' first
  |(with_reducible first|refine E4.2 ⟨fun _=>?_,fun _=>?_⟩|refine E2.2 ?_|refine E3.2 ?_|refine HG.2 ⟨?_,?_⟩|refine(K6 _ ?_).mono fun _ _=>?_)
  |dsimp only
 all_goals exact gq2
theorem AOb(x:E1)(h:x.length<=1000):Tot (bQ x) (fun r:H3×Bool=>r.2=true->J3 r.1):=by
 unfold bQ
 repeat' first
  |(with_reducible first|refine E4.2 ⟨fun _=>?_,fun _=>?_⟩|refine E2.2 ?_|refine E3.2 ?_|refine F4.2 ⟨?_,fun _ _=>?_⟩|refine(ANW _ ?_).mono fun _ _=>?_|refine(HA _ ?_).mono fun _ _=>?_|refine(AOa _ ?_).mono fun _ _=>?_|refine(AOP _ ?_).mono fun _ _=>?_|refine(AOY _ ?_).mono fun _ _=>?_|refine(ANX _ ?_).mono fun _ _=>?_|refine(AO_ _ ?_).mono fun _ _=>?_|refine(M5 _ ?_ ?_).mono fun _ _=>?_)
  |exact fun c=>G_ (HA c trivial)
  |exact fun c=>G_ (IF c trivial)
  |split
  |dsimp only
 all_goals grind[EE,ED,EH,E9,E5,EG,EF,EC,EI,EJ,ES,EQ,EV,EW,EX,EY,EZ,ANl]
theorem AOc(x:E1×Bool)(h:x.1.length<=1000):Tot (bR x) (fun r:E1=>r.length<=5000):=by
 obtain⟨w_0,followed_1⟩:=x;try dsimp only at h ⊢
 unfold bR
 repeat' first
  |(with_reducible first|refine E4.2 ⟨fun _=>?_,fun _=>?_⟩|refine E2.2 ?_|refine E3.2 ?_|refine(A74 _ ?_).mono fun _ _=>?_)
  |dsimp only
 all_goals exact gq2
theorem f_(x:Bool×E1×Int)(h:True):Tot (PE x) (fun r:Bool=>True):=by
 unfold PE
 repeat' first
  |with_reducible refine E3.2 ?_
  |dsimp only
 all_goals exact gq2
theorem AOd(x:E1×Int×Bool)(h:0<=x.2.1/\x.2.1<x.1.length/\x.1.length<=1000):Tot (bT x) (fun r:Sum (Int) (H3×Bool)=>(∀y,r=.inl y->x.2.1<=y/\y<=x.1.length)/\∀y,r=.inr y->y.2=false):=by
 obtain⟨s_0,at_5,t24⟩:=x;try dsimp only at h ⊢
 unfold bT
 repeat' first
  |(with_reducible first|refine E4.2 ⟨fun _=>?_,fun _=>?_⟩|refine E2.2 ?_|refine E3.2 ?_|refine F4.2 ⟨?_,fun _ _=>?_⟩|refine(HA _ ?_).mono fun _ _=>?_|refine(IF _ ?_).mono fun _ _=>?_)
  |dsimp only
 all_goals exact gq2
set_option maxHeartbeats 1000000 in
theorem AOe(x:E1×GZ×Int)(h:0<=x.2.2/\(x.1.length:Int)<=281474976710656/\x.2.2<=(x.1.length:Int)/\x.1.length<=1000/\x.2.1.length<=x.2.2/\(∀t∈x.2.1,t.2.1.length<=5000/\0<=t.2.2/\t.2.2<=999999999999999999)):Tot (mY x) (fun r:Sum GZ (H3×Bool)=>(∀y,r=.inl y->TS y)/\∀y,r=.inr y->y.2=false):=by
 refine F7 (R:=fun r:Sum GZ (H3×Bool)=>(∀y,r=.inl y->TS y)/\∀y,r=.inr y->y.2=false) (fun y:E1×GZ×Int=>(0<=y.2.2/\(y.1.length:Int)<=281474976710656/\y.2.2<=(y.1.length:Int)/\y.1.length<=1000/\y.2.1.length<=y.2.2/\(∀t∈y.2.1,t.2.1.length<=5000/\0<=t.2.2/\t.2.2<=999999999999999999))) (fun y:E1×GZ×Int=>((y.1.length:Int)-y.2.2).toNat) ?_ _ _ (by grind) (by unfold fuel;grind);rintro next ⟨s_0,v_4,at_5⟩ h hn
 try dsimp only at h hn
 unfold A0V
 repeat' first
  |(with_reducible first|refine E4.2 ⟨fun _=>?_,fun _=>?_⟩|refine E2.2 ?_|refine E3.2 ?_|refine F4.2 ⟨?_,fun _ _=>?_⟩|refine HG.2 ⟨?_,?_⟩|refine G7.2 ⟨?_,?_⟩|refine(AOd _ ?_).mono fun _ _=>?_|refine(HA _ ?_).mono fun _ _=>?_|refine(K6 _ ?_).mono fun _ _=>?_|refine(IF _ ?_).mono fun _ _=>?_|refine(AOc _ ?_).mono fun _ _=>?_|refine(M5 _ ?_ ?_).mono fun _ _=>?_)
  |exact fun c=>G_ (HA c trivial)
  |exact fun c=>G_ (IF c trivial)
  |with_reducible refine hn _ ?_ ?_
  |split
  |dsimp only
 all_goals exact gq2
theorem AOf(x:List K1)(h:TS x):Tot (mZ x) (fun r:List K1=>TS r):=by
 refine F7 (R:=fun r=>TS r) (fun y=>TS y) (fun y=>y.length) ?_ _ _ h (by unfold fuel;have:=h.1;omega);intro next v h hn
 unfold A0W;by_cases hc:(0:Int)<v.length
 ·rw[E_ (by omega) (by have:=h.1;omega),A6 hc];simp only[AA,C7];refine E2.2 (F4.2 ⟨⟨by omega,by omega⟩,fun b hb=>?_⟩);refine E2.2 ((f_ _ trivial).mono fun r _=>?_);refine E4.2 ⟨fun _=>E2.2 (HG.2 ⟨⟨by omega,by omega,by omega⟩,?_⟩),fun _=>E3.2 h⟩;refine hn _ ⟨?_,fun t ht=>h.2 t (ES ht)⟩ ?_
  ·rw[EQ];have:=h.1;omega
  ·rw[EQ];omega
 ·rw[AB hc];simp only[AC,CA];exact E2.2 (E3.2 (E2.2 (E3.2 (E3.2 h))))
theorem AOg(x:E1)(h:x.length<=1000):Tot (bU x) (fun r:H3×Bool=>r.2=true->J3 r.1):=by
 unfold bU
 repeat' first
  |(with_reducible first|refine E2.2 ?_|refine E3.2 ?_|refine(AOe _ ?_).mono fun _ _=>?_|refine(AOf _ ?_).mono fun _ _=>?_)
  |split
  |dsimp only
 all_goals grind[EE,ED,EH,E9,E5,EG,EF,EC,EI,EJ,ES,EQ,EV,EW,EX,EY,EZ,ANm]
theorem AOh(x:E1)(h:x.length<=1000):Tot (bV x) (fun r:H3×Bool=>r.2=true->J3 r.1):=by
 unfold bV
 repeat' first
  |(with_reducible first|refine E2.2 ?_|refine E3.2 ?_|refine(fZ _ ?_).mono fun _ _=>?_)
  |dsimp only
 all_goals grind[EE,ED,EH,E9,E5,EG,EF,EC,EI,EJ,ES,EQ,EV,EW,EX,EY,EZ,ANn]
theorem MT(x:Int×E1)(h:x.2.length<=1048576):Tot (IN x) (fun r:H3×Int=>r.2=0->J3 r.1):=by
 obtain⟨kind_0,s_1⟩:=x;try dsimp only at h ⊢
 unfold IN
 repeat' first
  |(with_reducible first|refine E4.2 ⟨fun _=>?_,fun _=>?_⟩|refine E2.2 ?_|refine E3.2 ?_|refine(AOJ _ ?_).mono fun _ _=>?_|refine(AON _ ?_).mono fun _ _=>?_|refine(A74 _ ?_).mono fun _ _=>?_|refine(AOb _ ?_).mono fun _ _=>?_|refine(AOg _ ?_).mono fun _ _=>?_|refine(AOh _ ?_).mono fun _ _=>?_)
  |dsimp only
 all_goals exact gq2
theorem AOi(x:(List E1)×(List Int)×Int×Int)(h:0<=x.2.2.2/\x.2.2.2<=x.2.2.1/\x.2.2.1=x.2.1.length/\x.2.2.1<=281474976710656/\x.1.length<=x.2.2.2/\(∀s∈x.1,s.length<=21)/\x.2.2.1<=1002):Tot (m_ x) (fun r:List E1=>r.length<=1002/\∀s∈r,s.length<=21):=by
 refine F7 (R:=fun r:List E1=>r.length<=1002/\∀s∈r,s.length<=21) (fun y:(List E1)×(List Int)×Int×Int=>(0<=y.2.2.2/\y.2.2.2<=y.2.2.1/\y.2.2.1=y.2.1.length/\y.2.2.1<=281474976710656/\y.1.length<=y.2.2.2/\(∀s∈y.1,s.length<=21)/\y.2.2.1<=1002)) (fun y:(List E1)×(List Int)×Int×Int=>(y.2.2.1-y.2.2.2).toNat) ?_ _ _ (by grind) (by unfold fuel;grind);rintro next ⟨parts_3,t6,t7,t8⟩ h hn
 try dsimp only at h hn
 unfold A0X
 repeat' first
  |(with_reducible first|refine E4.2 ⟨fun _=>?_,fun _=>?_⟩|refine E2.2 ?_|refine E3.2 ?_|refine F4.2 ⟨?_,fun _ _=>?_⟩|refine G7.2 ⟨?_,?_⟩|refine(J2 _ ?_).mono fun _ _=>?_|refine hn _ ?_ ?_)
  |dsimp only
 all_goals exact gq2
theorem A7G(x:List Int)(h:x.length<=1002):Tot (VA x) (fun r:E1=>r.length<=30000):=by
 unfold VA;refine E2.2 ((AOi _ ⟨by simp,by simp,rfl,by simp;omega,by simp,by simp,by simp;omega⟩).mono fun r hr=>?_);have hj:(Lib.join r [46]).length<=1002*(21+1):=fW hr.2 hr.1 (by simp);exact E2.2 ((SS _ ⟨by simp;omega,by dsimp only;omega⟩).mono fun s hs=>E3.2 (by rw[hs];dsimp only;omega))
theorem uD(x:(List Int)×(List E1))(h:fV x):Tot (VB x) (fun r:E1=>r.length<=1048576):=by
 unfold VB;obtain⟨h1,h2,h3,h4⟩:=h;have hj:(Lib.join x.2 [46]).length<=1002*(1000+1):=fW h4 h3 (by simp);refine E2.2 (HG.2 ⟨⟨by omega,by omega,by omega⟩,?_⟩);refine E2.2 ((A7G _ (by rw[EQ];omega)).mono fun r hr=>?_);refine E4.2 ⟨fun _=>?_,fun _=>E3.2 (by omega)⟩;refine E2.2 ((SS _ ⟨by dsimp only;omega,by dsimp only;omega⟩).mono fun s hs=>?_);dsimp only at hs;rw[<-hs]at hj;refine E2.2 (G6.2 ⟨by simp;omega,?_⟩);refine E2.2 (G6.2 ⟨by simp;omega,?_⟩);exact E3.2 (by simp;omega)
theorem AOj(x:E1×(List Int)×Int)(h:0<=x.2.2/\x.2.2<=x.1.length/\x.1.length<=1000/\x.2.1.length<=21*x.2.2):Tot (nA x) (fun r:List Int=>r.length<=21000):=by
 refine F7 (R:=fun r:List Int=>r.length<=21000) (fun y:E1×(List Int)×Int=>(0<=y.2.2/\y.2.2<=y.1.length/\y.1.length<=1000/\y.2.1.length<=21*y.2.2)/\y.1=x.1) (fun y:E1×(List Int)×Int=>(y.1.length-y.2.2:Int).toNat) ?_ _ _ (by grind) (by unfold fuel;grind);rintro next ⟨s_0,b_3,at_4⟩ h hn
 try dsimp only at h hn
 unfold A0Y
 repeat' first
  |(with_reducible first|refine E4.2 ⟨fun _=>?_,fun _=>?_⟩|refine E2.2 ?_|refine E3.2 ?_|refine F4.2 ⟨?_,fun _ _=>?_⟩|refine HG.2 ⟨?_,?_⟩|refine(HA _ ?_).mono fun _ _=>?_|refine(W_ _ ?_).mono fun _ _=>?_|refine(K6 _ ?_).mono fun _ _=>?_|refine(J2 _ ?_).mono fun _ _=>?_|refine(X0 _ ?_).mono fun _ _=>?_|refine(M5 _ ?_ ?_).mono fun _ _=>?_)
  |exact fun c=>G_ (HA c trivial)
  |exact fun c=>G_ (IF c trivial)
  |with_reducible refine hn _ ?_ ?_
  |dsimp only
 all_goals exact gq2
theorem AOk(x:E1)(h:x.length<=1000):Tot (VC x) (fun r:E1=>r.length<=21000):=by
 unfold VC
 repeat' first
  |(with_reducible first|refine E2.2 ?_|refine E3.2 ?_|refine(AOj _ ?_).mono fun _ _=>?_|refine(Q0 _ ?_).mono fun _ _=>?_)
  |dsimp only
 all_goals exact gq2
theorem A7H(x:Int×E1×E1×Bool)(h:QA x):Tot (VD x) (fun r:E1=>r.length<=1000):=by
 unfold VD
 repeat' first
  |(with_reducible first|refine E4.2 ⟨fun _=>?_,fun _=>?_⟩|refine E3.2 ?_)
  |dsimp only
 all_goals exact gq2
theorem AOl(x:E1×(List Int)×Int×Int)(h:0<=x.2.2.2/\x.2.2.2<=x.2.2.1/\x.2.2.1=x.1.length/\x.2.2.1<=281474976710656/\x.2.2.1<=1000/\x.2.1.length<=x.2.2.2):Tot (nB x) (fun r:List Int=>r.length<=x.1.length):=by
 refine F7 (R:=fun r:List Int=>r.length<=x.1.length) (fun y:E1×(List Int)×Int×Int=>(0<=y.2.2.2/\y.2.2.2<=y.2.2.1/\y.2.2.1=y.1.length/\y.2.2.1<=281474976710656/\y.2.2.1<=1000/\y.2.1.length<=y.2.2.2)/\y.1=x.1) (fun y:E1×(List Int)×Int×Int=>(y.2.2.1-y.2.2.2).toNat) ?_ _ _ (by grind) (by unfold fuel;grind);rintro next ⟨s_0,b_3,t6,t7⟩ h hn
 try dsimp only at h hn
 unfold A0Z
 repeat' first
  |(with_reducible first|refine E4.2 ⟨fun _=>?_,fun _=>?_⟩|refine E2.2 ?_|refine E3.2 ?_|refine F4.2 ⟨?_,fun _ _=>?_⟩|refine(W_ _ ?_).mono fun _ _=>?_|refine(IF _ ?_).mono fun _ _=>?_|refine hn _ ?_ ?_)
  |dsimp only
 all_goals exact gq2
theorem AOm(x:E1)(h:x.length<=1000):Tot (bX x) (fun r:E1=>r.length<=x.length+1):=by
 unfold bX
 repeat' first
  |(with_reducible first|refine E2.2 ?_|refine E3.2 ?_|refine F4.2 ⟨?_,fun _ _=>?_⟩|refine G6.2 ⟨?_,?_⟩|refine(AOl _ ?_).mono fun _ _=>?_|refine(Q0 _ ?_).mono fun _ _=>?_)
  |dsimp only
 all_goals exact gq2
theorem JW(x:Int)(h:0<=x/\x<=999999999999999999):Tot (J0 x) (fun r:E1=>r.length=18):=by
 unfold J0
 repeat' first
  |(with_reducible first|refine E2.2 ?_|refine E3.2 ?_|refine F4.2 ⟨?_,fun _ _=>?_⟩|refine G6.2 ⟨?_,?_⟩|refine(J2 _ ?_).mono fun _ _=>?_|refine(ANc _ ?_).mono fun _ _=>?_)
  |dsimp only
 all_goals exact gq2
theorem AOn(x:E1×(List Int))(h:x.1.length<=1000/\x.2.length+40*x.1.length<=50000):Tot (nC x) (fun r:List Int=>r.length<=50000):=by
 refine F7 (R:=fun r:List Int=>r.length<=50000) (fun y:E1×(List Int)=>y.1.length<=1000/\y.2.length+40*y.1.length<=50000) (fun y:E1×(List Int)=>y.1.length) ?_ _ _ h (by unfold fuel;have:=h.1;omega);rintro next ⟨s,b⟩ h hn
 dsimp only at h hn;unfold A0_;dsimp only;refine E4.2 ⟨fun hc=>?_,fun _=>E3.2 (by omega)⟩
 have hne:0<s.length:=by
  rw[EV]at hc;simp only[BQ,DK]at hc;omega
 have f1:∀c,Tot ((bW c).bind fun r=>some r) fun _=>True:=fun c=>⟨_,rfl,trivial⟩;refine E2.2 ((fX _ ⟨B0 _,by dsimp only;omega,by dsimp only;omega,f1⟩).mono fun r1 hr1=>?_);dsimp only at hr1;obtain⟨a0,a1,_,a3⟩:=hr1;rw[Int.zero_add]at a1 a3;refine E2.2 ((fX _ ⟨a0,by dsimp only;omega,by dsimp only;omega,A75⟩).mono fun r2 hr2=>?_);dsimp only at hr2;obtain⟨b0,b1,_,b3⟩:=hr2
 have hpos:0<r1+r2:=by
  rcases Int.lt_or_le 0 (r1+r2)with h'|h'
  ·exact h'
  ·exfalso;have e1:r1=0:=by omega
   have e2:r2=0:=by omega
   subst e1 e2;have g:s[(0:Int).toNat]?=some (s[0]'hne):=A1 hne;have g1:=a3 _ g;have g2:=b3 _ g;unfold bW at g1;unfold H9 at g1 g2;simp at g1 g2;omega
 rw[E_ (by omega) (by omega)];refine E2.2 (HG.2 ⟨⟨by omega,by omega,by omega⟩,?_⟩);refine E2.2 ((K6 _ (by rw[EQ];omega)).mono fun r4 h4=>?_);refine E2.2 (HG.2 ⟨⟨by omega,by omega,by omega⟩,?_⟩);refine E2.2 ((AOm _ (by rw[EQ];omega)).mono fun r6 h6=>?_);rw[EQ]at h6;refine E2.2 ((JW _ h4).mono fun r7 h7=>?_);refine E2.2 (G6.2 ⟨by omega,?_⟩);refine E2.2 ((X0 _ ⟨by dsimp only;omega,by dsimp only;rw[A7];omega⟩).mono fun r9 h9=>?_);dsimp only at h9;rw[A7]at h9;refine E2.2 (HG.2 ⟨⟨by omega,by omega,by omega⟩,?_⟩);refine hn _ ⟨?_,?_⟩ ?_<;>(dsimp only;rw[EQ];omega)
theorem uE(x:E1)(h:x.length<=1000):Tot (NC x) (fun r:E1=>r.length<=50010):=by
 unfold NC
 repeat' first
  |(with_reducible first|refine E2.2 ?_|refine E3.2 ?_|refine F4.2 ⟨?_,fun _ _=>?_⟩|refine G6.2 ⟨?_,?_⟩|refine(AOn _ ?_).mono fun _ _=>?_|refine(Q0 _ ?_).mono fun _ _=>?_)
  |dsimp only
 all_goals exact gq2
theorem AOo(x:IZ×E1×Bool)(h:x.2.1.length<=1000000):Tot (bY x) (fun r:IZ×E1=>r.1=x.1/\r.2.length<=x.2.1.length+30):=by
 obtain⟨v_1,s_3,t9⟩:=x;try dsimp only at h ⊢
 unfold bY
 repeat' first
  |(with_reducible first|refine E4.2 ⟨fun _=>?_,fun _=>?_⟩|refine E2.2 ?_|refine E3.2 ?_|refine F4.2 ⟨?_,fun _ _=>?_⟩|refine G6.2 ⟨?_,?_⟩|refine(J2 _ ?_).mono fun _ _=>?_)
  |dsimp only
 all_goals exact gq2
theorem uF(x:Int×E1×E1×Bool)(h:QA x):Tot (VE x) (fun r:E1=>r.length<=1048576):=by
 unfold VE
 repeat' first
  |(with_reducible first|refine E4.2 ⟨fun _=>?_,fun _=>?_⟩|refine E2.2 ?_|refine E3.2 ?_|refine F4.2 ⟨?_,fun _ _=>?_⟩|refine G6.2 ⟨?_,?_⟩|refine(AOk _ ?_).mono fun _ _=>?_|refine(AOo _ ?_).mono fun _ _=>?_|refine(A7H _ ?_).mono fun _ _=>?_|refine(uE _ ?_).mono fun _ _=>?_)
  |dsimp only
 all_goals exact gq2
theorem AOp(x:List Int)(h:NS x):Tot (nD x) (fun r:List Int=>NS r):=by
 refine F7 (R:=fun r=>NS r) (fun y=>NS y) (fun y=>y.length) ?_ _ _ h (by unfold fuel;have:=h.1;omega);intro next v h hn
 unfold A0a;by_cases hc:(0:Int)<v.length
 ·rw[E_ (by omega) (by have:=h.1;omega),A6 hc];simp only[AA,C7];refine E2.2 (F4.2 ⟨⟨by omega,by omega⟩,fun b hb=>?_⟩);refine E4.2 ⟨fun _=>E2.2 (HG.2 ⟨⟨by omega,by omega,by omega⟩,?_⟩),fun _=>E3.2 h⟩;refine hn _ ⟨?_,fun t ht=>h.2 t (ES ht)⟩ ?_
  ·rw[EQ];have:=h.1;omega
  ·rw[EQ];omega
 ·rw[AB hc];simp only[AC,CA];exact E2.2 (E3.2 (E3.2 h))
theorem A7I(x:List Int)(h:NS x):Tot (VF x) (fun r:List Int=>NS r):=by
 unfold VF
 repeat' first
  |(with_reducible first|refine E2.2 ?_|refine E3.2 ?_|refine(AOp _ ?_).mono fun _ _=>?_)
  |dsimp only
 all_goals exact gq2
theorem AOq(x:F_×E1×Bool)(h:x.2.1.length<=10):Tot (bZ x) (fun r:F_×E1=>r.1=x.1/\r.2.length<=30):=by
 obtain⟨v_1,s_3,t11⟩:=x;try dsimp only at h ⊢
 unfold bZ
 repeat' first
  |(with_reducible first|refine E4.2 ⟨fun _=>?_,fun _=>?_⟩|refine E2.2 ?_|refine E3.2 ?_|refine F4.2 ⟨?_,fun _ _=>?_⟩|refine G6.2 ⟨?_,?_⟩|refine(J2 _ ?_).mono fun _ _=>?_)
  |dsimp only
 all_goals exact gq2
theorem AOr(x:E1×(List Int)×Bool)(h:x.1.length<=30/\x.2.1.length<=1002):Tot (b_ x) (fun r:E1=>r.length<=31000):=by
 obtain⟨s_3,l_4,t21⟩:=x;try dsimp only at h ⊢
 unfold b_
 repeat' first
  |(with_reducible first|refine E4.2 ⟨fun _=>?_,fun _=>?_⟩|refine E2.2 ?_|refine E3.2 ?_|refine F4.2 ⟨?_,fun _ _=>?_⟩|refine G6.2 ⟨?_,?_⟩|refine(A7G _ ?_).mono fun _ _=>?_)
  |dsimp only
 all_goals exact gq2
theorem AOs(x:F_×E1×Bool)(h:x.2.1.length<=31000/\0<=x.1.2.2.1/\x.1.2.2.1<=3):Tot (cA x) (fun r:F_×E1=>r.1=x.1/\r.2.length<=31100):=by
 obtain⟨v_1,s_3,t30⟩:=x;try dsimp only at h ⊢
 unfold cA
 repeat' first
  |(with_reducible first|refine E4.2 ⟨fun _=>?_,fun _=>?_⟩|refine E2.2 ?_|refine E3.2 ?_|refine F4.2 ⟨?_,fun _ _=>?_⟩|refine G6.2 ⟨?_,?_⟩|refine(J2 _ ?_).mono fun _ _=>?_)
  |dsimp only
 all_goals exact gq2
theorem AOt(x:F_×E1×Bool)(h:x.2.1.length<=31100):Tot (cB x) (fun r:F_×E1=>r.1=x.1/\r.2.length<=31200):=by
 obtain⟨v_1,s_3,t44⟩:=x;try dsimp only at h ⊢
 unfold cB
 repeat' first
  |(with_reducible first|refine E4.2 ⟨fun _=>?_,fun _=>?_⟩|refine E2.2 ?_|refine E3.2 ?_|refine F4.2 ⟨?_,fun _ _=>?_⟩|refine G6.2 ⟨?_,?_⟩|refine(J2 _ ?_).mono fun _ _=>?_)
  |dsimp only
 all_goals exact gq2
theorem AOu(x:F_×E1×Bool)(h:x.2.1.length<=31200):Tot (cC x) (fun r:F_×E1=>r.1=x.1/\r.2.length<=31300):=by
 obtain⟨v_1,s_3,t53⟩:=x;try dsimp only at h ⊢
 unfold cC
 repeat' first
  |(with_reducible first|refine E4.2 ⟨fun _=>?_,fun _=>?_⟩|refine E2.2 ?_|refine E3.2 ?_|refine F4.2 ⟨?_,fun _ _=>?_⟩|refine G6.2 ⟨?_,?_⟩|refine(J2 _ ?_).mono fun _ _=>?_)
  |dsimp only
 all_goals exact gq2
theorem AOv(x:E1×Int×Bool)(h:True):Tot (cD x) (fun r:E1=>r.length<=x.1.length+21):=by
 obtain⟨p_6,n_7,t73⟩:=x;try dsimp only at h ⊢
 unfold cD
 repeat' first
  |(with_reducible first|refine E4.2 ⟨fun _=>?_,fun _=>?_⟩|refine E2.2 ?_|refine E3.2 ?_|refine(J2 _ ?_).mono fun _ _=>?_)
  |dsimp only
 all_goals exact gq2
theorem AOw(x:E1×(List E1)×Int×Int)(h:0<=x.2.2.2/\x.2.2.2<=x.2.2.1/\x.2.2.1=x.2.1.length/\x.2.2.1<=281474976710656/\x.1.length<=40000+1030*x.2.2.2/\x.2.2.1<=1002/\∀s∈x.2.1,s.length<=1000):Tot (nE x) (fun r:E1=>r.length<=10000000):=by
 refine F7 (R:=fun r:E1=>r.length<=10000000) (fun y:E1×(List E1)×Int×Int=>(0<=y.2.2.2/\y.2.2.2<=y.2.2.1/\y.2.2.1=y.2.1.length/\y.2.2.1<=281474976710656/\y.1.length<=40000+1030*y.2.2.2/\y.2.2.1<=1002/\∀s∈y.2.1,s.length<=1000)) (fun y:E1×(List E1)×Int×Int=>(y.2.2.1-y.2.2.2).toNat) ?_ _ _ (by grind) (by unfold fuel;grind);rintro next ⟨s_3,t61,t62,t63⟩ h hn
 try dsimp only at h hn
 unfold A0b
 repeat' first
  |(with_reducible first|refine E4.2 ⟨fun _=>?_,fun _=>?_⟩|refine E2.2 ?_|refine E3.2 ?_|refine F4.2 ⟨?_,fun _ _=>?_⟩|refine G6.2 ⟨?_,?_⟩|refine(K6 _ ?_).mono fun _ _=>?_|refine(AOv _ ?_).mono fun _ _=>?_|refine hn _ ?_ ?_)
  |dsimp only
 all_goals exact gq2
theorem uG(x:Int×(List Int)×Int×Int×Int×Int×(List E1))(h:MR x):Tot (VG x) (fun r:E1=>r.length<=10000000):=by
 unfold VG
 repeat' first
  |(with_reducible first|refine E2.2 ?_|refine E3.2 ?_|refine(AOq _ ?_).mono fun _ _=>?_|refine(A7I _ ?_).mono fun _ _=>?_|refine(AOr _ ?_).mono fun _ _=>?_|refine(AOs _ ?_).mono fun _ _=>?_|refine(AOt _ ?_).mono fun _ _=>?_|refine(AOu _ ?_).mono fun _ _=>?_|refine(AOw _ ?_).mono fun _ _=>?_)
  |dsimp only
 all_goals exact gq2
theorem AOx(x:(List E1)×GZ×Int×Int)(h:0<=x.2.2.2/\x.2.2.2<=x.2.2.1/\x.2.2.1=x.2.1.length/\x.2.2.1<=281474976710656/\x.1.length<=x.2.2.2/\(∀s∈x.1,s.length<=5000)/\x.2.2.1<=1002/\∀t∈x.2.1,t.2.1.length<=5000):Tot (nF x) (fun r:List E1=>r.length<=1002/\∀s∈r,s.length<=5000):=by
 refine F7 (R:=fun r:List E1=>r.length<=1002/\∀s∈r,s.length<=5000) (fun y:(List E1)×GZ×Int×Int=>(0<=y.2.2.2/\y.2.2.2<=y.2.2.1/\y.2.2.1=y.2.1.length/\y.2.2.1<=281474976710656/\y.1.length<=y.2.2.2/\(∀s∈y.1,s.length<=5000)/\y.2.2.1<=1002/\∀t∈y.2.1,t.2.1.length<=5000)) (fun y:(List E1)×GZ×Int×Int=>(y.2.2.1-y.2.2.2).toNat) ?_ _ _ (by grind) (by unfold fuel;grind);rintro next ⟨l_3,t7,t8,t9⟩ h hn
 try dsimp only at h hn
 unfold A0c
 repeat' first
  |(with_reducible first|refine E4.2 ⟨fun _=>?_,fun _=>?_⟩|refine E2.2 ?_|refine E3.2 ?_|refine F4.2 ⟨?_,fun _ _=>?_⟩|refine G7.2 ⟨?_,?_⟩|refine(f_ _ ?_).mono fun _ _=>?_|refine(J2 _ ?_).mono fun _ _=>?_|refine hn _ ?_ ?_)
  |dsimp only
 all_goals exact gq2
theorem uH(x:List K1)(h:TS x):Tot (VH x) (fun r:E1=>r.length<=10000000):=by
 unfold VH;refine E2.2 ((AOx _ ⟨by simp,by simp,rfl,by have:=h.1;simp;omega,by simp,by simp,by have:=h.1;simp;omega,fun t ht=>(h.2 t ht).1⟩).mono fun r hr=>?_);have hj:(Lib.join r [45]).length<=1002*(5000+1):=fW hr.2 hr.1 (by simp);refine E4.2 ⟨fun _=>E3.2 (by simp),fun _=>?_⟩;exact E2.2 ((SS _ ⟨by dsimp only;omega,by dsimp only;omega⟩).mono fun s hs=>E3.2 (by rw[hs];dsimp only;omega))
theorem uI(x:Int)(h:True):Tot (VI x) (fun r:E1=>r.length<=10000000):=by
 unfold VI
 repeat' first
  |(with_reducible first|refine E2.2 ?_|refine E3.2 ?_|refine(J2 _ ?_).mono fun _ _=>?_)
  |dsimp only
 all_goals exact gq2
theorem AOy(x:Sum JE (Sum IZ (Sum F_ (Sum GZ (Sum Int Unit)))))(h:J3 x):Tot (cY x) (fun r:E1×Int=>r.1.length<=100):=by
 unfold cY;refine E2.2 (Tot.mono (P:=fun r:E1=>r.length<=10000000) ?_ fun r1 hr=>?_)
 ·rcases x with x|x|x|x|x|x
  ·exact E2.2 ((uD _ h).mono fun _ h=>E3.2 (by omega))
  ·exact E2.2 ((uF _ h).mono fun _ h=>E3.2 (by omega))
  ·exact E2.2 ((uG _ h).mono fun _ h=>E3.2 h)
  ·exact E2.2 ((uH _ h).mono fun _ h=>E3.2 h)
  ·exact E2.2 ((uI _ trivial).mono fun _ h=>E3.2 h)
  ·exact h.elim
 ·refine E4.2 ⟨fun _=>E3.2 (by simp),fun hc=>E3.2 ?_⟩;have:=AG hc;dsimp only;omega
theorem g8(x:Int×E1)(h:x.2.length<=1048576):Tot (PI x) (fun r:E1×Int=>r.1.length<=100):=by
 obtain⟨kind_0,s_1⟩:=x;try dsimp only at h ⊢
 unfold PI
 repeat' first
  |(with_reducible first|refine E4.2 ⟨fun _=>?_,fun _=>?_⟩|refine E2.2 ?_|refine E3.2 ?_|refine(MT _ ?_).mono fun _ _=>?_|refine(AOy _ ?_).mono fun _ _=>?_)
  |dsimp only
 all_goals exact gq2
theorem AOz(x:E7×Int×FV×Int×Int×Int)(h:(∀p,Tot (x.2.2.1 p) fun _=>True)/\x.2.2.2.1=20/\0<=x.2.2.2.2.1/\x.2.2.2.2.2=x.2.2.2.2.1+20/\x.2.1=x.1.length/\x.2.1<=1048576/\x.2.2.2.2.1<=x.2.1):Tot (m7 x) (fun r:E7×Int=>r.1.length=x.1.length/\(∀q∈r.1,q∈x.1)/\0<=r.2/\r.2<=x.2.1):=by
 refine F7 (R:=fun r:E7×Int=>r.1.length=x.1.length/\(∀q∈r.1,q∈x.1)/\0<=r.2/\r.2<=x.2.1) (fun y:E7×Int×FV×Int×Int×Int=>((∀p,Tot (y.2.2.1 p) fun _=>True)/\y.2.2.2.1=20/\0<=y.2.2.2.2.1/\y.2.2.2.2.2=y.2.2.2.2.1+20/\y.2.1=y.1.length/\y.2.1<=1048576/\y.2.2.2.2.1<=y.2.1)/\y.2.1=x.2.1/\y.2.2.1=x.2.2.1/\y.2.2.2.1=x.2.2.2.1/\y.1.length=x.1.length/\∀q∈y.1,q∈x.1) (fun y:E7×Int×FV×Int×Int×Int=>(y.2.1-y.2.2.2.2.1).toNat) ?_ _ _ (by grind) (by unfold fuel;grind);rintro next ⟨data_0,n_1,cmp_2,blockSize_6,a_7,b_8⟩ h hn
 try dsimp only at h hn
 unfold A06
 repeat' first
  |(with_reducible first|refine E4.2 ⟨fun _=>?_,fun _=>?_⟩|refine E2.2 ?_|refine E3.2 ?_|refine(A71 _ ?_).mono fun _ _=>?_|refine hn _ ?_ ?_)
  |dsimp only
 all_goals exact gq2
theorem AP0(x:E7×Int×FV×Int×Int×Int)(h:(∀p,Tot (x.2.2.1 p) fun _=>True)/\0<x.2.2.2.1/\x.2.2.2.1<x.2.1/\0<=x.2.2.2.2.1/\x.2.2.2.2.2=x.2.2.2.2.1+2*x.2.2.2.1/\x.2.1=x.1.length/\x.2.1<=1048576/\x.2.2.2.2.1<=x.2.1):Tot (m8 x) (fun r:E7×Int=>r.1.length=x.1.length/\(∀q∈r.1,q∈x.1)/\0<=r.2/\r.2<=x.2.1):=by
 refine F7 (R:=fun r:E7×Int=>r.1.length=x.1.length/\(∀q∈r.1,q∈x.1)/\0<=r.2/\r.2<=x.2.1) (fun y:E7×Int×FV×Int×Int×Int=>((∀p,Tot (y.2.2.1 p) fun _=>True)/\0<y.2.2.2.1/\y.2.2.2.1<y.2.1/\0<=y.2.2.2.2.1/\y.2.2.2.2.2=y.2.2.2.2.1+2*y.2.2.2.1/\y.2.1=y.1.length/\y.2.1<=1048576/\y.2.2.2.2.1<=y.2.1)/\y.2.1=x.2.1/\y.2.2.1=x.2.2.1/\y.2.2.2.1=x.2.2.2.1/\y.1.length=x.1.length/\∀q∈y.1,q∈x.1) (fun y:E7×Int×FV×Int×Int×Int=>(y.2.1-y.2.2.2.2.1).toNat) ?_ _ _ (by grind) (by unfold fuel;grind);rintro next ⟨data_0,n_1,cmp_2,blockSize_6,a_7,b_8⟩ h hn
 try dsimp only at h hn
 unfold A07
 repeat' first
  |(with_reducible first|refine E4.2 ⟨fun _=>?_,fun _=>?_⟩|refine E2.2 ?_|refine E3.2 ?_|refine(A72 _ ?_).mono fun _ _=>?_|refine hn _ ?_ ?_)
  |dsimp only
 all_goals exact gq2
theorem AP1(x:E7×Int×FV×Int)(h:(∀p,Tot (x.2.2.1 p) fun _=>True)/\0<x.2.2.2/\x.2.2.2<=2097152/\x.2.1=x.1.length/\x.2.1<=1048576):Tot (m9 x) (fun r:List (E1×E1)=>r.length=x.1.length/\(∀q∈r,q∈x.1)):=by
 refine F7 (R:=fun r:List (E1×E1)=>r.length=x.1.length/\(∀q∈r,q∈x.1)) (fun y:E7×Int×FV×Int=>((∀p,Tot (y.2.2.1 p) fun _=>True)/\0<y.2.2.2/\y.2.2.2<=2097152/\y.2.1=y.1.length/\y.2.1<=1048576)/\y.2.1=x.2.1/\y.2.2.1=x.2.2.1/\y.1.length=x.1.length/\∀q∈y.1,q∈x.1) (fun y:E7×Int×FV×Int=>(2097153-y.2.2.2).toNat) ?_ _ _ (by grind) (by unfold fuel;grind);rintro next ⟨data_0,n_1,cmp_2,blockSize_6⟩ h hn
 try dsimp only at h hn
 unfold A08
 repeat' first
  |(with_reducible first|refine E4.2 ⟨fun _=>?_,fun _=>?_⟩|refine E2.2 ?_|refine E3.2 ?_|refine(AP0 _ ?_).mono fun _ _=>?_|refine(A72 _ ?_).mono fun _ _=>?_|refine hn _ ?_ ?_)
  |dsimp only
 all_goals exact gq2
theorem AP2(x:E7×Int×FV)(h:(∀p,Tot (x.2.2 p) fun _=>True)/\x.2.1=x.1.length/\x.2.1<=1048576):Tot (aL x) (fun r:List (E1×E1)=>r.length=x.1.length/\(∀q∈r,q∈x.1)):=by
 obtain⟨data_0,n_1,cmp_2⟩:=x;try dsimp only at h ⊢
 unfold aL
 repeat' first
  |(with_reducible first|refine E2.2 ?_|refine E3.2 ?_|refine(AOz _ ?_).mono fun _ _=>?_|refine(A71 _ ?_).mono fun _ _=>?_|refine(AP1 _ ?_).mono fun _ _=>?_)
  |dsimp only
 all_goals exact gq2
theorem AP3(x:E7×FV)(h:(∀p,Tot (x.2 p) fun _=>True)/\x.1.length<=1048576):Tot (aM x) (fun r:List (E1×E1)=>r.length=x.1.length/\(∀q∈r,q∈x.1)):=by
 obtain⟨x_0,cmp_1⟩:=x;try dsimp only at h ⊢
 unfold aM
 repeat' first
  |(with_reducible first|refine E2.2 ?_|refine E3.2 ?_|refine(AP2 _ ?_).mono fun _ _=>?_)
  |dsimp only
 all_goals exact gq2
theorem AP4(x:(List EB)×Int×FW×Int×Int×Int)(h:(∀p,Tot (x.2.2.1 p) fun _=>True)/\x.2.2.2.1=20/\0<=x.2.2.2.2.1/\x.2.2.2.2.2=x.2.2.2.2.1+20/\x.2.1=x.1.length/\x.2.1<=1048576/\x.2.2.2.2.1<=x.2.1):Tot (oD x) (fun r:(List EB)×Int=>r.1.length=x.1.length/\(∀q∈r.1,q∈x.1)/\0<=r.2/\r.2<=x.2.1):=by
 refine F7 (R:=fun r:(List EB)×Int=>r.1.length=x.1.length/\(∀q∈r.1,q∈x.1)/\0<=r.2/\r.2<=x.2.1) (fun y:(List EB)×Int×FW×Int×Int×Int=>((∀p,Tot (y.2.2.1 p) fun _=>True)/\y.2.2.2.1=20/\0<=y.2.2.2.2.1/\y.2.2.2.2.2=y.2.2.2.2.1+20/\y.2.1=y.1.length/\y.2.1<=1048576/\y.2.2.2.2.1<=y.2.1)/\y.2.1=x.2.1/\y.2.2.1=x.2.2.1/\y.2.2.2.1=x.2.2.2.1/\y.1.length=x.1.length/\∀q∈y.1,q∈x.1) (fun y:(List EB)×Int×FW×Int×Int×Int=>(y.2.1-y.2.2.2.2.1).toNat) ?_ _ _ (by grind) (by unfold fuel;grind);rintro next ⟨data_0,n_1,cmp_2,blockSize_6,a_7,b_8⟩ h hn
 try dsimp only at h hn
 unfold A0z
 repeat' first
  |(with_reducible first|refine E4.2 ⟨fun _=>?_,fun _=>?_⟩|refine E2.2 ?_|refine E3.2 ?_|refine(A77 _ ?_).mono fun _ _=>?_|refine hn _ ?_ ?_)
  |dsimp only
 all_goals exact gq2
theorem AP5(x:(List EB)×Int×FW×Int×Int×Int)(h:(∀p,Tot (x.2.2.1 p) fun _=>True)/\0<x.2.2.2.1/\x.2.2.2.1<x.2.1/\0<=x.2.2.2.2.1/\x.2.2.2.2.2=x.2.2.2.2.1+2*x.2.2.2.1/\x.2.1=x.1.length/\x.2.1<=1048576/\x.2.2.2.2.1<=x.2.1):Tot (oE x) (fun r:(List EB)×Int=>r.1.length=x.1.length/\(∀q∈r.1,q∈x.1)/\0<=r.2/\r.2<=x.2.1):=by
 refine F7 (R:=fun r:(List EB)×Int=>r.1.length=x.1.length/\(∀q∈r.1,q∈x.1)/\0<=r.2/\r.2<=x.2.1) (fun y:(List EB)×Int×FW×Int×Int×Int=>((∀p,Tot (y.2.2.1 p) fun _=>True)/\0<y.2.2.2.1/\y.2.2.2.1<y.2.1/\0<=y.2.2.2.2.1/\y.2.2.2.2.2=y.2.2.2.2.1+2*y.2.2.2.1/\y.2.1=y.1.length/\y.2.1<=1048576/\y.2.2.2.2.1<=y.2.1)/\y.2.1=x.2.1/\y.2.2.1=x.2.2.1/\y.2.2.2.1=x.2.2.2.1/\y.1.length=x.1.length/\∀q∈y.1,q∈x.1) (fun y:(List EB)×Int×FW×Int×Int×Int=>(y.2.1-y.2.2.2.2.1).toNat) ?_ _ _ (by grind) (by unfold fuel;grind);rintro next ⟨data_0,n_1,cmp_2,blockSize_6,a_7,b_8⟩ h hn
 try dsimp only at h hn
 unfold A10
 repeat' first
  |(with_reducible first|refine E4.2 ⟨fun _=>?_,fun _=>?_⟩|refine E2.2 ?_|refine E3.2 ?_|refine(A78 _ ?_).mono fun _ _=>?_|refine hn _ ?_ ?_)
  |dsimp only
 all_goals exact gq2
theorem AP6(x:(List EB)×Int×FW×Int)(h:(∀p,Tot (x.2.2.1 p) fun _=>True)/\0<x.2.2.2/\x.2.2.2<=2097152/\x.2.1=x.1.length/\x.2.1<=1048576):Tot (oG x) (fun r:List EB=>r.length=x.1.length/\(∀q∈r,q∈x.1)):=by
 refine F7 (R:=fun r:List EB=>r.length=x.1.length/\(∀q∈r,q∈x.1)) (fun y:(List EB)×Int×FW×Int=>((∀p,Tot (y.2.2.1 p) fun _=>True)/\0<y.2.2.2/\y.2.2.2<=2097152/\y.2.1=y.1.length/\y.2.1<=1048576)/\y.2.1=x.2.1/\y.2.2.1=x.2.2.1/\y.1.length=x.1.length/\∀q∈y.1,q∈x.1) (fun y:(List EB)×Int×FW×Int=>(2097153-y.2.2.2).toNat) ?_ _ _ (by grind) (by unfold fuel;grind);rintro next ⟨data_0,n_1,cmp_2,blockSize_6⟩ h hn
 try dsimp only at h hn
 unfold A11
 repeat' first
  |(with_reducible first|refine E4.2 ⟨fun _=>?_,fun _=>?_⟩|refine E2.2 ?_|refine E3.2 ?_|refine(AP5 _ ?_).mono fun _ _=>?_|refine(A78 _ ?_).mono fun _ _=>?_|refine hn _ ?_ ?_)
  |dsimp only
 all_goals exact gq2
theorem AP7(x:(List EB)×Int×FW)(h:(∀p,Tot (x.2.2 p) fun _=>True)/\x.2.1=x.1.length/\x.2.1<=1048576):Tot (dG x) (fun r:List EB=>r.length=x.1.length/\(∀q∈r,q∈x.1)):=by
 obtain⟨data_0,n_1,cmp_2⟩:=x;try dsimp only at h ⊢
 unfold dG
 repeat' first
  |(with_reducible first|refine E2.2 ?_|refine E3.2 ?_|refine(AP4 _ ?_).mono fun _ _=>?_|refine(A77 _ ?_).mono fun _ _=>?_|refine(AP6 _ ?_).mono fun _ _=>?_)
  |dsimp only
 all_goals exact gq2
theorem AP8(x:(List EB)×FW)(h:(∀p,Tot (x.2 p) fun _=>True)/\x.1.length<=1048576):Tot (dH x) (fun r:List EB=>r.length=x.1.length/\(∀q∈r,q∈x.1)):=by
 obtain⟨x_0,cmp_1⟩:=x;try dsimp only at h ⊢
 unfold dH
 repeat' first
  |(with_reducible first|refine E2.2 ?_|refine E3.2 ?_|refine(AP7 _ ?_).mono fun _ _=>?_)
  |dsimp only
 all_goals exact gq2
theorem AP9(x:E1)(h:True):Tot (S0 x) (fun r:Bool=>True):=by
 unfold S0
 repeat' first
  |with_reducible refine E3.2 ?_
  |dsimp only
 all_goals exact gq2
theorem A7J(x:E1×E1)(h:True):Tot (MK x) (fun r:Int=>-1<=r/\r<=1):=by
 obtain⟨x_0,y_1⟩:=x;try dsimp only at h ⊢
 unfold MK
 repeat' first
  |(with_reducible first|refine E4.2 ⟨fun _=>?_,fun _=>?_⟩|refine E2.2 ?_|refine E3.2 ?_|refine(AP9 _ ?_).mono fun _ _=>?_)
  |dsimp only
 all_goals exact gq2
theorem APA(x:(E1×E1)×(E1×E1))(h:True):Tot (aN x) (fun r:Int=>True):=by
 obtain⟨a_0,b_1⟩:=x;try dsimp only at h ⊢
 unfold aN
 repeat' first
  |(with_reducible first|refine E2.2 ?_|refine E3.2 ?_|refine(A7J _ ?_).mono fun _ _=>?_)
  |dsimp only
 all_goals exact gq2
theorem APB(x:E1×Int×Int)(h:x.1.length<=3000/\x.2.1=0/\x.2.2= -1):Tot (aG x) (fun r:HF×FA=>r.1.2.2.2.2.1.length<=1048576):=by
 unfold aG;obtain⟨g1,g2,g3⟩:=h;refine E2.2 ((AMh _ ⟨by dsimp only;omega,by dsimp only;omega,by dsimp only;omega⟩).mono fun r1 h1=>?_);dsimp only at h1;refine E4.2 ⟨fun _=>E3.2 (by simp),fun _=>?_⟩;refine E2.2 ((A6p _ ⟨by rw[h1.1];omega,h1.2.1,by rw[h1.1];exact h1.2.2.1⟩).mono fun r2 h2=>?_);obtain⟨a1,a2,a3,a4,a5,a6⟩:=h2;rw[h1.1]at a1 a3;rw[E_ (by omega) (by omega)];refine E2.2 (HG.2 ⟨⟨by omega,by omega,by omega⟩,?_⟩);have hj:(Lib.join ((r2.1.take ((r2.1.length:Int)-1).toNat).drop (0:Int).toNat) [47]).length<=1048577*(1048576+1):=fW (fun s hs=>a6 s (ES hs)) (by rw[EQ];omega) (by simp);refine E2.2 ((SS _ ⟨by dsimp only;rw[EQ];omega,by dsimp only;omega⟩).mono fun r4 h4=>?_);refine E2.2 (F4.2 ⟨⟨by omega,by omega⟩,fun y5 hy5=>?_⟩);refine E2.2 (Tot.mono (P:=fun r6:Int=>r6=0\/r2.2.2.1<r2.2.1.length) ?_ fun r6 h6=>?_)
 ·refine E4.2 ⟨fun _=>(SU _ ⟨_,rfl,by omega⟩).mono fun r hr=>?_,fun _=>E3.2 (Or.inl rfl)⟩;rcases hr.2 with h|⟨y,hy,h⟩
  ·exact Or.inl h
  ·cases hy;exact Or.inr h
 refine E2.2 ((AMq _ ⟨by dsimp only;rw[a1];omega,by dsimp only;omega,by dsimp only;rw[a1];omega,fun he=>?_,by simp⟩).mono fun r8 h8=>?_)
 ·dsimp only at he ⊢;rcases h6 with h6|h6
  ·subst h6;simp[E5]at he
  ·exact h6
 dsimp only at h8;obtain⟨b1,b2,b3,b4,b5,b6,b7,b8⟩:=h8;rw[a1]at b1 b3;refine E2.2 ((AMr _ ⟨by dsimp only;rw[b1];omega,by dsimp only;omega,by dsimp only;rw[b1];omega,?_,by dsimp only;omega,?_⟩).mono fun r13 h13=>?_)
 ·dsimp only;rw[b8];simp;omega
 ·dsimp only;rw[b8];simp
 dsimp only at h13;obtain⟨c1,c2,c3,c4,c5,c6,c7,c8,c9,c10⟩:=h13;rw[b1]at c1 c3;refine E2.2 (Tot.mono (P:=fun r14:Int=>r14=0\/r13.1.2.1<r13.1.1.length) ?_ fun r14 h14=>?_)
 ·refine E4.2 ⟨fun _=>(SU _ ⟨_,rfl,by omega⟩).mono fun r hr=>?_,fun _=>E3.2 (Or.inl rfl)⟩;rcases hr.2 with h|⟨y,hy,h⟩
  ·exact Or.inl h
  ·cases hy;exact Or.inr h
 refine E2.2 ((AMw _ ⟨by dsimp only;rw[c1];omega,by dsimp only;omega,by dsimp only;rw[c1];omega,fun he=>?_,?_⟩).mono fun r17 h17=>?_)
 ·dsimp only at he ⊢;rcases h14 with h14|h14
  ·subst h14;simp[E5]at he
  ·exact h14
 ·dsimp only;rw[c8,b8];simp
 dsimp only at h17;obtain⟨d1,d2,d3,d4,d5,d6,d7,d8,d9⟩:=h17;refine E4.2 ⟨fun _=>E2.2 ((ST _ trivial).mono fun r19 _=>E3.2 ?_),fun _=>E3.2 ?_⟩<;>
 ·dsimp only;rw[d8];exact c9
theorem APC(x:H_×HF×Int)(h:1<=x.2.2/\x.2.1.2.2.2.2.1.length<=1048576):Tot (mK x) (fun r:Sum (H_×HF) (H_×Int×Int)=>(∀y,r=.inl y->y.2.2.2.2.2.1.length<=1048576)/\∀y,r=.inr y->y.2.2≠0):=by
 refine F7 (R:=fun r:Sum (H_×HF) (H_×Int×Int)=>(∀y,r=.inl y->y.2.2.2.2.2.1.length<=1048576)/\∀y,r=.inr y->y.2.2≠0)
  (fun y:H_×HF×Int=>1<=y.2.2/\y.2.1.2.2.2.2.1.length<=1048576) (fun y:H_×HF×Int=>(y.2.1.2.2.2.2.1.length-y.2.2:Int).toNat) ?_ _ _ h (by unfold fuel;omega)
 rintro next ⟨t2,p,i⟩ h hn
 dsimp only at h hn;unfold A0J;dsimp only;refine E4.2 ⟨fun hc=>?_,fun _=>E3.2 ⟨fun y hy=>by cases hy;exact h.2,fun y hy=>by cases hy⟩⟩;have hc:=A9 hc;rw[E_ (by omega) (by omega),E_ (by omega) (by omega)];refine E2.2 (FJ.2 ⟨⟨by omega,by omega⟩,?_⟩);refine E2.2 (FJ.2 ⟨⟨by omega,by omega⟩,?_⟩);refine E4.2 ⟨fun _=>E3.2 ⟨fun y hy=>(by cases hy),fun y hy=>(by cases hy;simp)⟩,fun _=>?_⟩;exact hn _ ⟨by dsimp only;omega,by dsimp only;omega⟩ (by dsimp only;omega)
theorem uJ(x:E1)(h:x.length<=1048576):Tot (PC x) (fun r:H_×Int×Int=>r.2.2=0->r.1.2.2.2.2.1.length<=1048576):=by
 unfold PC;refine E4.2 ⟨fun _=>E3.2 (by simp),fun hc=>?_⟩;have hc:=AG hc;refine E2.2 ((APB _ ⟨by dsimp only;omega,rfl,rfl⟩).mono fun r2 h2=>?_);refine E4.2 ⟨fun _=>E3.2 (by simp),fun _=>?_⟩;refine E2.2 ((AP3 _ ⟨fun c=>G_ (APA c trivial),h2⟩).mono fun r4 h4=>?_);refine E2.2 ((APC _ ⟨by dsimp only;omega,by dsimp only;rw[h4.1];exact h2⟩).mono fun r8 h8=>?_);rcases r8 with y|y
 ·have hy:=h8.1 y rfl;refine E2.2 ((fU _ hy).mono fun r11 h11=>?_);refine E4.2 ⟨fun he=>E3.2 fun h0=>?_,fun he=>?_⟩
  ·dsimp only at h0;rw[h0,E5]at he;simp at he
  ·rw[E5]at he;have h0:r11=0:=by simpa using he
   have hb:=h11 h0;refine E2.2 ((tY _ hb).mono fun r14 h14=>E3.2 fun _=>?_);have:=h14.2.2.2.2.2.1;dsimp only;omega
 ·exact E3.2 fun h0=>absurd h0 (h8.2 y rfl)
theorem APD(x:E1)(h:x.length<=1048576):Tot (cX x) (fun r:Bool=>True):=by
 unfold cX
 repeat' first
  |(with_reducible first|refine E4.2 ⟨fun _=>?_,fun _=>?_⟩|refine E2.2 ?_|refine E3.2 ?_|refine(uJ _ ?_).mono fun _ _=>?_|refine(t_ _ ?_).mono fun _ _=>?_)
  |dsimp only
 all_goals exact gq2
theorem APE(x:GY×ID×Int×Int)(h:0<=x.2.2.2/\x.2.2.2<=x.2.2.1/\x.2.2.1=x.2.1.length/\x.2.2.1<=281474976710656/\(∀v∈x.2.1,v.2.length<=1048576)/\(∀j:Nat,(j:Int)<x.2.2.2->∀v,x.2.1[j]?=some v->1<=v.1/\v.1<=3)):Tot (nW x) (fun r:Sum (Unit) (Int)=>(∀y,r=.inl y->∀v∈x.2.1,1<=v.1/\v.1<=3)/\∀y,r=.inr y->y≠0):=by
 refine F7 (R:=fun r:Sum Unit Int=>(∀y,r=.inl y->∀v∈x.2.1,1<=v.1/\v.1<=3)/\∀y,r=.inr y->y≠0)
  (fun y:Af×ID×Int×Int=>0<=y.2.2.2/\y.2.2.2<=y.2.2.1/\y.2.2.1=y.2.1.length/\y.2.2.1<=281474976710656/\y.2.1=x.2.1/\(∀v∈y.2.1,v.2.length<=1048576)/\∀j:Nat,(j:Int)<y.2.2.2->∀v,y.2.1[j]?=some v->1<=v.1/\v.1<=3)
  (fun y=>(y.2.2.1-y.2.2.2).toNat) ?_ _ _ ⟨h.1,h.2.1,h.2.2.1,h.2.2.2.1,rfl,h.2.2.2.2⟩ (by unfold fuel;have:=h.2.2.2.1;omega)
 rintro next ⟨a,l,n,i⟩ hI hn
 dsimp only at hI hn;obtain⟨i0,i1,i2,i3,i4,i5,i6⟩:=hI;unfold A0m;dsimp only;refine E4.2 ⟨fun hc=>?_,fun hc=>E3.2 ⟨fun y _ v hv=>?_,fun y hy=>(by cases hy)⟩⟩
 ·have hc:=A9 hc;rw[E_ (by omega) (by omega)];refine E2.2 (F4.2 ⟨⟨i0,by omega⟩,fun v hv=>?_⟩);refine E4.2 ⟨fun _=>E3.2 ⟨fun y hy=>(by cases hy),fun y hy=>(by cases hy;decide)⟩,fun hk=>?_⟩
  have hk:1<=v.1/\v.1<=3:=by
   have:=BO.1 hk;have h1:=AG this.1;have h2:=AG this.2;omega
  have hstep:∀j:Nat,(j:Int)<i+1->∀v,l[j]?=some v->1<=v.1/\v.1<=3:=by
   intro j hj w hw;by_cases hj':(j:Int)<i
   ·exact i6 j hj' w hw
   ·have:j=i.toNat:=by omega
    subst this;rw[hv]at hw;cases hw;exact hk
  have hgo:Tot (next (a,l,n,i+1)) (fun r:Sum Unit Int=>(∀y,r=.inl y->∀v∈x.2.1,1<=v.1/\v.1<=3)/\∀y,r=.inr y->y≠0):=
   hn _ ⟨by dsimp only;omega,by dsimp only;omega,i2,i3,i4,i5,hstep⟩ (by dsimp only;omega)
  refine E4.2 ⟨fun _=>E4.2 ⟨fun _=>E3.2 ⟨fun y hy=>(by cases hy),fun y hy=>(by cases hy;decide)⟩,fun _=>hgo⟩,fun _=>?_⟩;refine E2.2 ((g8 (a.2.1,v.2) (i5 v (LC hv))).mono fun r _=>?_);refine E4.2 ⟨fun he=>E3.2 ⟨fun y hy=>(by cases hy),fun y hy=>?_⟩,fun _=>hgo⟩;cases hy;rw[E5]at he;simpa using he
 ·have hc:=AG hc;rw[<-i4]at hv;obtain⟨j,hj,hjv⟩:=List.mem_iff_getElem.1 hv;exact i6 j (by omega) v (by rw[<-hjv];exact A1 hj)
theorem APF(x:E1×Int×ID×(List E1)×(List E1))(h:MS x):Tot (cZ x) (fun r:Int=>r=0->x.2.2.1.length<=100/\∀v∈x.2.2.1,1<=v.1/\v.1<=3):=by
 unfold cZ;refine E4.2 ⟨fun _=>E3.2 fun h0=>absurd h0 (by decide),fun hc=>?_⟩;have hc:=AG hc;refine E2.2 ((APE _ ⟨B0 _,BC _,rfl,by dsimp only;omega,h.2.2.1,fun j hj=>by dsimp only at hj;omega⟩).mono fun r hr=>?_);rcases r with r|r
 ·exact E3.2 fun _=>⟨by omega,hr.1 r rfl⟩
 ·exact E3.2 fun h0=>absurd h0 (hr.2 r rfl)
set_option maxHeartbeats 1000000 in
theorem APG(x:E1×Bool×Int×Int)(h:0<=x.2.2.2/\x.2.2.2<=x.2.2.1/\x.2.2.1<=281474976710656/\x.2.2.1=x.1.length/\x.2.2.1<=1048576):Tot (nX x) (fun r:Bool=>True):=by
 refine F7 (R:=fun r:Bool=>True) (fun y:E1×Bool×Int×Int=>(0<=y.2.2.2/\y.2.2.2<=y.2.2.1/\y.2.2.1<=281474976710656/\y.2.2.1=y.1.length/\y.2.2.1<=1048576)) (fun y:E1×Bool×Int×Int=>(y.2.2.1-y.2.2.2).toNat) ?_ _ _ (by grind) (by unfold fuel;grind);rintro next ⟨s_4,bad_5,t25,t26⟩ h hn
 try dsimp only at h hn
 unfold A0n
 repeat' first
  |(with_reducible first|refine E4.2 ⟨fun _=>?_,fun _=>?_⟩|refine E2.2 ?_|refine E3.2 ?_|refine F4.2 ⟨?_,fun _ _=>?_⟩|refine hn _ ?_ ?_)
  |dsimp only
 all_goals exact gq2
theorem APH(x:(List E1)×(List E1)×Int×Int)(h:0<=x.2.2.2/\x.2.2.2<=x.2.2.1/\x.2.2.1=x.2.1.length/\x.2.2.1<=281474976710656/\x.1=x.2.1/\∀s∈x.2.1,s.length<=1048576):Tot (nY x) (fun r:Sum (Unit) (Int)=>∀y,r=.inr y->y≠0):=by
 refine F7 (R:=fun r:Sum Unit Int=>∀y,r=.inr y->y≠0)
  (fun y:(List E1)×(List E1)×Int×Int=>0<=y.2.2.2/\y.2.2.2<=y.2.2.1/\y.2.2.1=y.2.1.length/\y.2.2.1<=281474976710656/\y.1=y.2.1/\∀v∈y.2.1,v.length<=1048576)
  (fun y=>(y.2.2.1-y.2.2.2).toNat) ?_ _ _ h (by unfold fuel;have:=h.2.2.2.1;omega)
 rintro next ⟨a,l,n,i⟩ hI hn
 dsimp only at hI hn;obtain⟨i0,i1,i2,i3,i4,i5⟩:=hI;subst i4;unfold A0o;dsimp only;refine E4.2 ⟨fun hc=>?_,fun hc=>E3.2 fun y hy=>(by cases hy)⟩;have hc:=A9 hc;rw[E_ (n:=i+1) (by omega) (by omega),E_ (by omega) (by omega)];refine E2.2 (F4.2 ⟨⟨i0,by omega⟩,fun v hv=>?_⟩);have hvl:=i5 v (LC hv);refine E2.2 ((APG _ ⟨B0 _,BC _,by dsimp only;omega,rfl,by dsimp only;omega⟩).mono fun r _=>?_);refine E4.2 ⟨fun _=>E3.2 fun y hy=>(by cases hy;decide),fun _=>?_⟩;refine E2.2 (Tot.mono (P:=fun _=>True) (E4.2 ⟨fun hz=>?_,fun _=>E3.2 trivial⟩) fun y7 _=>?_)
 ·have hz:=A9 hz;exact F4.2 ⟨⟨by omega,by omega⟩,fun _ _=>trivial⟩
 ·refine E4.2 ⟨fun _=>E3.2 fun y hy=>(by cases hy;decide),fun _=>?_⟩;exact hn _ ⟨by dsimp only;omega,by dsimp only;omega,i2,i3,rfl,i5⟩ (by dsimp only;omega)
theorem API(x:List E1)(h:∀s∈x,s.length<=1048576):Tot (c_ x) (fun r:Int=>True):=by
 unfold c_
 repeat' first
  |(with_reducible first|refine E4.2 ⟨fun _=>?_,fun _=>?_⟩|refine E2.2 ?_|refine E3.2 ?_|refine(APH _ ?_).mono fun _ _=>?_)
  |split
  |dsimp only
 all_goals exact gq2
theorem APJ(x:GY×(List E1)×Int×Int)(h:0<=x.2.2.2/\x.2.2.2<=x.2.2.1/\x.2.2.1=x.2.1.length/\x.2.2.1<=281474976710656/\∀s∈x.2.1,s.length<=1048576):Tot (nZ x) (fun r:Sum GY (Int)=>(∀y,r=.inl y->y=x.1)/\∀y,r=.inr y->y≠0):=by
 refine F7 (R:=fun r:Sum GY (Int)=>(∀y,r=.inl y->y=x.1)/\∀y,r=.inr y->y≠0) (fun y:GY×(List E1)×Int×Int=>(0<=y.2.2.2/\y.2.2.2<=y.2.2.1/\y.2.2.1=y.2.1.length/\y.2.2.1<=281474976710656/\∀s∈y.2.1,s.length<=1048576)/\y.1=x.1) (fun y:GY×(List E1)×Int×Int=>(y.2.2.1-y.2.2.2).toNat) ?_ _ _ (by grind) (by unfold fuel;grind);rintro next ⟨a_1,t32,t33,t34⟩ h hn
 try dsimp only at h hn
 unfold A0p
 repeat' first
  |(with_reducible first|refine E4.2 ⟨fun _=>?_,fun _=>?_⟩|refine E2.2 ?_|refine E3.2 ?_|refine F4.2 ⟨?_,fun _ _=>?_⟩|refine(g8 _ ?_).mono fun _ _=>?_|refine hn _ ?_ ?_)
  |dsimp only
 all_goals exact gq2
theorem APK(x:E1×Int×ID×(List E1)×(List E1))(h:MS x):Tot (dA x) (fun r:Int=>r=0->uC x):=by
 unfold dA;refine E2.2 ((APD _ h.1).mono fun r1 _=>?_);refine E4.2 ⟨fun _=>E3.2 fun h0=>absurd h0 (by decide),fun _=>?_⟩;refine E4.2 ⟨fun _=>E3.2 fun h0=>absurd h0 (by decide),fun _=>?_⟩;refine E2.2 ((APF _ h).mono fun r3 h3=>?_);refine E4.2 ⟨fun he=>E3.2 fun h0=>?_,fun he=>?_⟩
 ·rw[E5,h0]at he;simp at he
 have h30:r3=0:=by rw[E5]at he;simpa using he
 refine E4.2 ⟨fun _=>E3.2 fun h0=>absurd h0 (by decide),fun hc=>?_⟩;have hc:=AG hc;refine E2.2 ((APJ _ ⟨B0 _,BC _,rfl,by dsimp only;omega,h.2.2.2.2.1⟩).mono fun r6 h6=>?_);rcases r6 with y|y
 ·have:=h6.1 y rfl;subst this;exact E2.2 ((API _ h.2.2.2.2.2.2).mono fun r8 _=>E3.2 fun _=>⟨(h3 h30).1,(h3 h30).2,by omega⟩)
 ·exact E3.2 fun h0=>absurd h0 (h6.2 y rfl)
theorem APL(x:Unit)(h:True):Tot (dB x) (fun r:List Int=>r.length=4):=by
 unfold dB
 repeat' first
  |with_reducible refine E3.2 ?_
  |dsimp only
 all_goals exact gq2
theorem APM(x:(Int->Option E1)×(List Int)×(List Int)×Int×Int)(h:0<=x.2.2.2.2/\x.2.2.2.2<=x.2.2.2.1/\x.2.2.2.1=x.2.2.1.length/\x.2.2.2.1<=281474976710656/\(∀n∈x.2.2.1,Tot (x.1 n) fun s=>s.length<=100)/\x.2.2.2.1<=1002/\x.2.1.length<=100*x.2.2.2.2):Tot (nG x) (fun r:List Int=>r.length<=100200):=by
 refine F7 (R:=fun r:List Int=>r.length<=100200) (fun y:(Int->Option E1)×(List Int)×(List Int)×Int×Int=>0<=y.2.2.2.2/\y.2.2.2.2<=y.2.2.2.1/\y.2.2.2.1=y.2.2.1.length/\y.2.2.2.1<=281474976710656/\(∀n∈y.2.2.1,Tot (y.1 n) fun s=>s.length<=100)/\y.2.2.2.1<=1002/\y.2.1.length<=100*y.2.2.2.2)
  (fun y=>(y.2.2.2.1-y.2.2.2.2).toNat) ?_ _ _ h (by unfold fuel;have:=h.2.2.2.1;omega)
 rintro next ⟨f,b,l,n,i⟩ hI hn
 dsimp only at hI hn;obtain⟨i0,i1,i2,i3,i4,i5,i6⟩:=hI;unfold A0d;dsimp only;refine E4.2 ⟨fun hc=>?_,fun hc=>E3.2 (by omega)⟩;have hc:=A9 hc;rw[E_ (by omega) (by omega)];refine E2.2 (F4.2 ⟨⟨i0,by omega⟩,fun v hv=>?_⟩);refine E2.2 ((i4 v (LC hv)).mono fun s hs=>?_);refine E2.2 ((X0 _ ⟨by dsimp only;omega,by dsimp only;omega⟩).mono fun r3 h3=>?_);dsimp only at h3;exact hn _ ⟨by dsimp only;omega,by dsimp only;omega,i2,i3,i4,i5,by dsimp only;omega⟩ (by dsimp only;omega)
theorem A7K(x:(List Int)×E1×(Int->Option E1))(h:(∀n∈x.1,Tot (x.2.2 n) fun s=>s.length<=100)/\x.1.length<=1002/\x.2.1.length<=10):Tot (VJ x) (fun r:E1=>r.length<=100210):=by
 obtain⟨l,e,f⟩:=x;dsimp only at h ⊢;unfold VJ;obtain⟨h1,h2,h3⟩:=h;dsimp only;refine E2.2 ((APM _ ⟨B0 _,BC _,rfl,by dsimp only;omega,h1,by dsimp only;omega,by simp⟩).mono fun r hr=>?_);refine E2.2 ((Q0 _ trivial).mono fun s hs=>?_);exact E2.2 (G6.2 ⟨by omega,E3.2 (by rw[A7];omega)⟩)
theorem APN(x:(E1->Option E1)×(List Int)×(List E1)×Int×Int)(h:0<=x.2.2.2.2/\x.2.2.2.2<=x.2.2.2.1/\x.2.2.2.1=x.2.2.1.length/\x.2.2.2.1<=281474976710656/\(∀n∈x.2.2.1,Tot (x.1 n) fun s=>s.length<=3000)/\x.2.2.2.1<=1002/\x.2.1.length<=3000*x.2.2.2.2):Tot (nH x) (fun r:List Int=>r.length<=3006000):=by
 refine F7 (R:=fun r:List Int=>r.length<=3006000) (fun y:(E1->Option E1)×(List Int)×(List E1)×Int×Int=>0<=y.2.2.2.2/\y.2.2.2.2<=y.2.2.2.1/\y.2.2.2.1=y.2.2.1.length/\y.2.2.2.1<=281474976710656/\(∀n∈y.2.2.1,Tot (y.1 n) fun s=>s.length<=3000)/\y.2.2.2.1<=1002/\y.2.1.length<=3000*y.2.2.2.2)
  (fun y=>(y.2.2.2.1-y.2.2.2.2).toNat) ?_ _ _ h (by unfold fuel;have:=h.2.2.2.1;omega)
 rintro next ⟨f,b,l,n,i⟩ hI hn
 dsimp only at hI hn;obtain⟨i0,i1,i2,i3,i4,i5,i6⟩:=hI;unfold A0e;dsimp only;refine E4.2 ⟨fun hc=>?_,fun hc=>E3.2 (by omega)⟩;have hc:=A9 hc;rw[E_ (by omega) (by omega)];refine E2.2 (F4.2 ⟨⟨i0,by omega⟩,fun v hv=>?_⟩);refine E2.2 ((i4 v (LC hv)).mono fun s hs=>?_);refine E2.2 ((X0 _ ⟨by dsimp only;omega,by dsimp only;omega⟩).mono fun r3 h3=>?_);dsimp only at h3;exact hn _ ⟨by dsimp only;omega,by dsimp only;omega,i2,i3,i4,i5,by dsimp only;omega⟩ (by dsimp only;omega)
theorem A7L(x:(List E1)×E1×(E1->Option E1))(h:(∀n∈x.1,Tot (x.2.2 n) fun s=>s.length<=3000)/\x.1.length<=1002/\x.2.1.length<=10):Tot (VK x) (fun r:E1=>r.length<=3006010):=by
 obtain⟨l,e,f⟩:=x;dsimp only at h ⊢;unfold VK;obtain⟨h1,h2,h3⟩:=h;dsimp only;refine E2.2 ((APN _ ⟨B0 _,BC _,rfl,by dsimp only;omega,h1,by dsimp only;omega,by simp⟩).mono fun r hr=>?_);refine E2.2 ((Q0 _ trivial).mono fun s hs=>?_);exact E2.2 (G6.2 ⟨by omega,E3.2 (by rw[A7];omega)⟩)
theorem APO(x:E1)(h:x.length<=1000):Tot (cE x) (fun r:E1=>r.length<=3000):=by
 unfold cE
 repeat' first
  |(with_reducible first|refine E4.2 ⟨fun _=>?_,fun _=>?_⟩|refine E2.2 ?_|refine E3.2 ?_|refine F4.2 ⟨?_,fun _ _=>?_⟩|refine G6.2 ⟨?_,?_⟩|refine(K6 _ ?_).mono fun _ _=>?_|refine(JW _ ?_).mono fun _ _=>?_)
  |dsimp only
 all_goals exact gq2
theorem gA(x:(List Int)×(List E1))(h:fV x):Tot (LY x) (fun r:E1=>r.length<=10000000):=by
 unfold LY;obtain⟨h1,h2,h3,h4⟩:=h;refine E2.2 (HG.2 ⟨⟨by omega,by omega,by omega⟩,?_⟩);refine E2.2 ((A7K _ ⟨fun n hn=>E2.2 ((JW n (h2 n (ES hn))).mono fun r hr=>E3.2 (by omega)),by dsimp only;rw[EQ];omega,by simp⟩).mono fun r2 hr2=>?_);refine E4.2 ⟨fun _=>E2.2 (G6.2 ⟨by simp;omega,E3.2 (by simp;omega)⟩),fun _=>?_⟩;refine E2.2 (G6.2 ⟨by simp;omega,?_⟩);refine E2.2 ((A7L _ ⟨fun s hs=>E2.2 ((APO s (h4 s hs)).mono fun r hr=>E3.2 hr),h3,by simp⟩).mono fun r5 hr5=>?_);exact E2.2 (G6.2 ⟨by simp;omega,E3.2 (by simp;omega)⟩)
theorem gB(x:Int×E1×E1×Bool)(h:QA x):Tot (LZ x) (fun r:E1=>r.length<=10000000):=by
 unfold LZ
 repeat' first
  |(with_reducible first|refine E2.2 ?_|refine E3.2 ?_|refine F4.2 ⟨?_,fun _ _=>?_⟩|refine G6.2 ⟨?_,?_⟩|refine(JW _ ?_).mono fun _ _=>?_|refine(uE _ ?_).mono fun _ _=>?_|refine(A7H _ ?_).mono fun _ _=>?_)
  |dsimp only
 all_goals exact gq2
theorem APP(x:Int)(h:0<=x/\x<=999999999999999999):Tot (cF x) (fun r:E1=>r.length<=100):=by
 unfold cF
 repeat' first
  |(with_reducible first|refine E2.2 ?_|refine E3.2 ?_|refine F4.2 ⟨?_,fun _ _=>?_⟩|refine G6.2 ⟨?_,?_⟩|refine(JW _ ?_).mono fun _ _=>?_)
  |dsimp only
 all_goals exact gq2
theorem APQ(x:Int×(List Int)×Int×Int×Int×Int×(List E1))(h:0<=x.2.2.1/\x.2.2.1<=3):Tot (cG x) (fun r:Int=>0<=r/\r<=4):=by
 unfold cG
 repeat' first
  |(with_reducible first|refine E4.2 ⟨fun _=>?_,fun _=>?_⟩|refine E3.2 ?_)
  |dsimp only
 all_goals exact gq2
theorem APR(x:Int)(h:x<=999999999999999999):Tot (cH x) (fun r:E1=>r.length<=30):=by
 unfold cH
 repeat' first
  |(with_reducible first|refine E4.2 ⟨fun _=>?_,fun _=>?_⟩|refine E2.2 ?_|refine E3.2 ?_|refine F4.2 ⟨?_,fun _ _=>?_⟩|refine G6.2 ⟨?_,?_⟩|refine(JW _ ?_).mono fun _ _=>?_)
  |dsimp only
 all_goals exact gq2
theorem APS(x:E1)(h:x.length<=1000):Tot (cI x) (fun r:E1=>r.length<=3000):=by
 unfold cI
 repeat' first
  |(with_reducible first|refine E4.2 ⟨fun _=>?_,fun _=>?_⟩|refine E2.2 ?_|refine E3.2 ?_|refine F4.2 ⟨?_,fun _ _=>?_⟩|refine G6.2 ⟨?_,?_⟩|refine(K6 _ ?_).mono fun _ _=>?_|refine(JW _ ?_).mono fun _ _=>?_)
  |dsimp only
 all_goals exact gq2
theorem APT(x:F_×E1×Bool)(h:(x.2.2=true->0<=x.1.2.2.2.2.2.1/\x.1.2.2.2.2.2.1<=999999999999999999)/\x.2.1.length<=10000000):Tot (cJ x) (fun r:F_×E1=>r.1=x.1/\r.2.length<=x.2.1.length+30):=by
 obtain⟨v_1,s_3,t27⟩:=x;try dsimp only at h ⊢
 unfold cJ
 repeat' first
  |(with_reducible first|refine E4.2 ⟨fun _=>?_,fun _=>?_⟩|refine E2.2 ?_|refine E3.2 ?_|refine F4.2 ⟨?_,fun _ _=>?_⟩|refine G6.2 ⟨?_,?_⟩|refine(JW _ ?_).mono fun _ _=>?_)
  |dsimp only
 all_goals exact gq2
theorem gC(x:Int×(List Int)×Int×Int×Int×Int×(List E1))(h:MR x):Tot (L_ x) (fun r:E1=>r.length<=10000000):=by
 unfold L_;obtain⟨h1,h2,h3,h4,h5,h6,h7⟩:=h;refine E2.2 ((JW _ h1).mono fun r1 g1=>?_);refine E2.2 ((A7I _ h2).mono fun r2 g2=>?_);refine E2.2 ((A7K _ ⟨fun n hn=>E2.2 ((APP n (g2.2 n hn)).mono fun r hr=>E3.2 hr),g2.1,by simp⟩).mono fun r3 g3=>?_);refine E2.2 (G6.2 ⟨by omega,?_⟩);refine E2.2 ((APQ _ h3).mono fun r5 g5=>?_);refine E2.2 ((J2 _ trivial).mono fun r6 g6=>?_);refine E2.2 ((JW _ h4).mono fun r7 g7=>?_);refine E2.2 (G6.2 ⟨by omega,?_⟩);refine E2.2 ((APR _ h5.2).mono fun r9 g9=>?_);refine E2.2 (G6.2 ⟨by rw[A7];omega,?_⟩);refine E2.2 (G6.2 ⟨by simp only[A7];omega,?_⟩);refine E2.2 ((APT _ ⟨fun he=>⟨A9 he,h6.2⟩,by simp only[A7];omega⟩).mono fun r16 g16=>?_);simp only[A7]at g16;refine E4.2 ⟨fun _=>E2.2 (G6.2 ⟨by simp;omega,E3.2 (by simp;omega)⟩),fun _=>?_⟩;refine E2.2 (G6.2 ⟨by simp;omega,?_⟩);refine E2.2 ((A7L _ ⟨fun s hs=>E2.2 ((APS s (h7.2 s (by rw[g16.1]at hs;exact hs))).mono fun r hr=>E3.2 hr),by dsimp only;rw[g16.1];exact h7.1,by simp⟩).mono fun r19 g19=>?_);exact E2.2 (G6.2 ⟨by simp;omega,E3.2 (by simp;omega)⟩)
theorem A7M(x:Unit)(h:True):Tot (VL x) (fun r:List E1=>r.length=5):=by
 unfold VL
 repeat' first
  |with_reducible refine E3.2 ?_
  |dsimp only
 all_goals exact gq2
theorem APU(x:(List E1)×E1×Int×Int)(h:0<=x.2.2.2/\x.2.2.2<=x.2.2.1/\x.2.2.1=x.1.length/\x.2.2.1<=281474976710656):Tot (cL x) (fun r:Sum (Unit) (Int)=>∀y,r=.inr y->0<=y/\y<x.1.length):=by
 refine F7 (R:=fun r:Sum (Unit) (Int)=>∀y,r=.inr y->0<=y/\y<x.1.length) (fun y:(List E1)×E1×Int×Int=>(0<=y.2.2.2/\y.2.2.2<=y.2.2.1/\y.2.2.1=y.1.length/\y.2.2.1<=281474976710656)/\y.1=x.1) (fun y:(List E1)×E1×Int×Int=>(y.2.2.1-y.2.2.2).toNat) ?_ _ _ (by grind) (by unfold fuel;grind);rintro next ⟨s_0,v_1,t7,t8⟩ h hn
 try dsimp only at h hn
 unfold cK
 repeat' first
  |(with_reducible first|refine E4.2 ⟨fun _=>?_,fun _=>?_⟩|refine E2.2 ?_|refine E3.2 ?_|refine F4.2 ⟨?_,fun _ _=>?_⟩|refine hn _ ?_ ?_)
  |dsimp only
 all_goals exact gq2
theorem A7N(x:(List E1)×E1)(h:x.1.length<=1048576):Tot (ND x) (fun r:Int=>-1<=r/\r<x.1.length):=by
 obtain⟨s_0,v_1⟩:=x;try dsimp only at h ⊢
 unfold ND
 repeat' first
  |(with_reducible first|refine E2.2 ?_|refine E3.2 ?_|refine(APU _ ?_).mono fun _ _=>?_)
  |split
  |dsimp only
 all_goals exact gq2
theorem APV(x:(List E1)×E1)(h:x.1.length<=1048576):Tot (PG x) (fun r:Bool=>True):=by
 obtain⟨s_0,v_1⟩:=x;try dsimp only at h ⊢
 unfold PG
 repeat' first
  |(with_reducible first|refine E2.2 ?_|refine E3.2 ?_|refine(A7N _ ?_).mono fun _ _=>?_)
  |dsimp only
 all_goals exact gq2
theorem uK(x:Bool×E1×Int)(h:True):Tot (S6 x) (fun r:Bool=>True):=by
 unfold S6
 repeat' first
  |(with_reducible first|refine E4.2 ⟨fun _=>?_,fun _=>?_⟩|refine E2.2 ?_|refine E3.2 ?_|refine(A7M _ ?_).mono fun _ _=>?_|refine(APV _ ?_).mono fun _ _=>?_)
  |dsimp only
 all_goals exact gq2
theorem APW(x:Bool×E1×Int)(h:x.2.1.length<=5000/\0<=x.2.2/\x.2.2<=999999999999999999):Tot (VM x) (fun r:E1=>r.length<=6000):=by
 unfold VM
 repeat' first
  |(with_reducible first|refine E4.2 ⟨fun _=>?_,fun _=>?_⟩|refine E2.2 ?_|refine E3.2 ?_|refine F4.2 ⟨?_,fun _ _=>?_⟩|refine G6.2 ⟨?_,?_⟩|refine(JW _ ?_).mono fun _ _=>?_|refine(uK _ ?_).mono fun _ _=>?_|refine(A7M _ ?_).mono fun _ _=>?_|refine(A7N _ ?_).mono fun _ _=>?_|refine(J2 _ ?_).mono fun _ _=>?_)
  |dsimp only
 all_goals exact gq2
theorem APX(x:E1×Int×GZ×Int×Int)(h:0<=x.2.2.2.2/\x.2.2.2.2<=x.2.2.2.1/\x.2.2.2.1=x.2.2.1.length/\x.2.2.2.1<=281474976710656/\x.1.length<=7000*x.2.2.2.2/\0<=x.2.1/\x.2.1<=x.2.2.2.2/\x.2.2.2.1<=1002/\(∀t∈x.2.2.1,t.2.1.length<=5000/\0<=t.2.2/\t.2.2<=999999999999999999)):Tot (nI x) (fun r:E1=>r.length<=7014000):=by
 refine F7 (R:=fun r:E1=>r.length<=7014000) (fun y:E1×Int×GZ×Int×Int=>(0<=y.2.2.2.2/\y.2.2.2.2<=y.2.2.2.1/\y.2.2.2.1=y.2.2.1.length/\y.2.2.2.1<=281474976710656/\y.1.length<=7000*y.2.2.2.2/\0<=y.2.1/\y.2.1<=y.2.2.2.2/\y.2.2.2.1<=1002/\(∀t∈y.2.2.1,t.2.1.length<=5000/\0<=t.2.2/\t.2.2<=999999999999999999))) (fun y:E1×Int×GZ×Int×Int=>(y.2.2.2.1-y.2.2.2.2).toNat) ?_ _ _ (by grind) (by unfold fuel;grind);rintro next ⟨s_3,blanks_4,t8,t9,t10⟩ h hn
 try dsimp only at h hn
 unfold A0f
 repeat' first
  |(with_reducible first|refine E4.2 ⟨fun _=>?_,fun _=>?_⟩|refine E2.2 ?_|refine E3.2 ?_|refine F4.2 ⟨?_,fun _ _=>?_⟩|refine G6.2 ⟨?_,?_⟩|refine(f_ _ ?_).mono fun _ _=>?_|refine(uK _ ?_).mono fun _ _=>?_|refine(J2 _ ?_).mono fun _ _=>?_|refine(APW _ ?_).mono fun _ _=>?_|refine hn _ ?_ ?_)
  |dsimp only
 all_goals exact gq2
theorem gD(x:List K1)(h:TS x):Tot (M0 x) (fun r:E1=>r.length<=10000000):=by
 unfold M0
 repeat' first
  |(with_reducible first|refine E2.2 ?_|refine E3.2 ?_|refine F4.2 ⟨?_,fun _ _=>?_⟩|refine G6.2 ⟨?_,?_⟩|refine(APX _ ?_).mono fun _ _=>?_)
  |dsimp only
 all_goals exact gq2
theorem gE(x:Int)(h:0<=x/\x<=999999999999999999):Tot (M1 x) (fun r:E1=>r.length<=10000000):=by
 unfold M1
 repeat' first
  |(with_reducible first|refine E2.2 ?_|refine E3.2 ?_|refine(JW _ ?_).mono fun _ _=>?_)
  |dsimp only
 all_goals exact gq2
theorem APY(x:Int×E1)(h:x.2.length<=1048576):Tot (SC x) (fun r:E1×Int=>r.1.length<=10000000):=by
 unfold SC;refine E2.2 ((MT _ h).mono fun r1 h1=>?_);refine E4.2 ⟨fun _=>E3.2 (by simp),fun he=>?_⟩;have h0:r1.2=0:=by rw[E5]at he;simpa using he
 have hv:=h1 h0;revert hv;generalize r1.1=v;intro hv;refine E2.2 (Tot.mono (P:=fun r:E1=>r.length<=10000000) ?_ fun r2 hr=>E3.2 hr)
 ·rcases v with x|x|x|x|x|x
  ·exact E2.2 ((gA _ hv).mono fun _ h=>E3.2 (by omega))
  ·exact E2.2 ((gB _ hv).mono fun _ h=>E3.2 (by omega))
  ·exact E2.2 ((gC _ hv).mono fun _ h=>E3.2 (by omega))
  ·exact E2.2 ((gD _ hv).mono fun _ h=>E3.2 (by omega))
  ·exact E2.2 ((gE _ hv).mono fun _ h=>E3.2 (by omega))
  ·exact hv.elim
theorem APZ(x:Int×(List Int)×Int×Int)(h:0<=x.2.2.2/\x.2.2.2<=x.2.2.1/\x.2.2.1=x.2.1.length/\x.2.2.1<=281474976710656):Tot (dJ x) (fun r:Sum (Unit) (Int)=>True):=by
 refine F7 (R:=fun r:Sum (Unit) (Int)=>True) (fun y:Int×(List Int)×Int×Int=>(0<=y.2.2.2/\y.2.2.2<=y.2.2.1/\y.2.2.1=y.2.1.length/\y.2.2.1<=281474976710656)) (fun y:Int×(List Int)×Int×Int=>(y.2.2.1-y.2.2.2).toNat) ?_ _ _ (by grind) (by unfold fuel;grind);rintro next ⟨zero_3,t6,t7,t8⟩ h hn
 try dsimp only at h hn
 unfold dI
 repeat' first
  |(with_reducible first|refine E4.2 ⟨fun _=>?_,fun _=>?_⟩|refine E2.2 ?_|refine E3.2 ?_|refine F4.2 ⟨?_,fun _ _=>?_⟩|refine hn _ ?_ ?_)
  |dsimp only
 all_goals exact gq2
theorem AP_(x:List Int)(h:x.length<=1048576):Tot (PJ x) (fun r:Int=>True):=by
 unfold PJ
 repeat' first
  |(with_reducible first|refine E2.2 ?_|refine E3.2 ?_|refine(APZ _ ?_).mono fun _ _=>?_)
  |split
  |dsimp only
 all_goals exact gq2
theorem APa(x:EB×EB)(h:True):Tot (dK x) (fun r:Int=>True):=by
 obtain⟨x_0,y_1⟩:=x;try dsimp only at h ⊢
 unfold dK
 repeat' first
  |(with_reducible first|refine E2.2 ?_|refine E3.2 ?_|refine(A7J _ ?_).mono fun _ _=>?_|refine(AOC _ ?_).mono fun _ _=>?_|refine(AP_ _ ?_).mono fun _ _=>?_)
  |dsimp only
 all_goals exact gq2
theorem APb(x:GY×(List EB)×ID×Int×Int)(h:0<=x.2.2.2.2/\x.2.2.2.2<=x.2.2.2.1/\x.2.2.2.1=x.2.2.1.length/\x.2.2.2.1<=281474976710656/\x.2.1.length<=x.2.2.2.2/\(∀m∈x.2.1,m.2.2.1.length<=100)/\(∀v∈x.2.2.1,v.2.length<=1048576/\1<=v.1/\v.1<=3)/\x.2.2.2.1<=100):Tot (oH x) (fun r:List EB=>r.length<=100/\∀m∈r,m.2.2.1.length<=100):=by
 refine F7 (R:=fun r:List EB=>r.length<=100/\∀m∈r,m.2.2.1.length<=100) (fun y:GY×(List EB)×ID×Int×Int=>(0<=y.2.2.2.2/\y.2.2.2.2<=y.2.2.2.1/\y.2.2.2.1=y.2.2.1.length/\y.2.2.2.1<=281474976710656/\y.2.1.length<=y.2.2.2.2/\(∀m∈y.2.1,m.2.2.1.length<=100)/\(∀v∈y.2.2.1,v.2.length<=1048576/\1<=v.1/\v.1<=3)/\y.2.2.2.1<=100)) (fun y:GY×(List EB)×ID×Int×Int=>(y.2.2.2.1-y.2.2.2.2).toNat) ?_ _ _ (by grind) (by unfold fuel;grind);rintro next ⟨a_1,out_3,t8,t9,t10⟩ h hn
 try dsimp only at h hn
 unfold A12
 repeat' first
  |(with_reducible first|refine E4.2 ⟨fun _=>?_,fun _=>?_⟩|refine E2.2 ?_|refine E3.2 ?_|refine F4.2 ⟨?_,fun _ _=>?_⟩|refine G7.2 ⟨?_,?_⟩|refine(APL _ ?_).mono fun _ _=>?_|refine(APY _ ?_).mono fun _ _=>?_|refine(g8 _ ?_).mono fun _ _=>?_|refine hn _ ?_ ?_)
  |dsimp only
 all_goals exact gq2
theorem APc(x:E1×Int×ID×(List E1)×(List E1))(h:MS x/\uC x):Tot (dL x) (fun r:List EB=>r.length<=100/\∀m∈r,m.2.2.1.length<=100):=by
 unfold dL;obtain⟨h1,h2,h3,h4⟩:=h;refine E2.2 ((APb _ ⟨B0 _,BC _,rfl,by dsimp only;omega,by simp,by simp,fun v hv=>⟨h1.2.2.1 v hv,h3 v hv⟩,by dsimp only;omega⟩).mono fun r hr=>?_);refine E2.2 ((AP8 _ ⟨fun c=>G_ (APa c trivial),by dsimp only;omega⟩).mono fun r2 hr2=>E3.2 ?_);dsimp only at hr2;exact⟨by omega,fun m hm=>hr.2 m (hr2.2 m hm)⟩
theorem APd(x:FN×Bool×GJ×(List EB)×Int×Int)(h:0<=x.2.2.2.2.2/\x.2.2.2.2.2<=x.2.2.2.2.1/\x.2.2.2.2.1=x.2.2.2.1.length/\x.2.2.2.2.1<=281474976710656/\x.1.length<=x.2.2.2.2.2/\(∀s∈x.1,GQ s)/\x.2.2.1.2.2.length<=100/\x.2.2.2.2.1<=100/\∀m∈x.2.2.2.1,m.2.2.1.length<=100):Tot (oI x) (fun r:FN×Bool×GJ=>r.1.length<=100/\(∀s∈r.1,GQ s)/\r.2.2.2.2.length<=100):=by
 refine F7 (R:=fun r:FN×Bool×GJ=>r.1.length<=100/\(∀s∈r.1,GQ s)/\r.2.2.2.2.length<=100) (fun y:FN×Bool×GJ×(List EB)×Int×Int=>(0<=y.2.2.2.2.2/\y.2.2.2.2.2<=y.2.2.2.2.1/\y.2.2.2.2.1=y.2.2.2.1.length/\y.2.2.2.2.1<=281474976710656/\y.1.length<=y.2.2.2.2.2/\(∀s∈y.1,GQ s)/\y.2.2.1.2.2.length<=100/\y.2.2.2.2.1<=100/\∀m∈y.2.2.2.1,m.2.2.1.length<=100)) (fun y:FN×Bool×GJ×(List EB)×Int×Int=>(y.2.2.2.2.1-y.2.2.2.2.2).toNat) ?_ _ _ (by grind) (by unfold fuel;grind);rintro next ⟨out_3,on_4,low_5,t15,t16,t17⟩ h hn
 try dsimp only at h hn
 unfold A13
 repeat' first
  |(with_reducible first|refine E4.2 ⟨fun _=>?_,fun _=>?_⟩|refine E2.2 ?_|refine E3.2 ?_|refine F4.2 ⟨?_,fun _ _=>?_⟩|refine G7.2 ⟨?_,?_⟩|refine hn _ ?_ ?_)
  |dsimp only
 all_goals exact gq2
theorem APe(x:FN×GJ×Bool)(h:x.1.length<=100/\(∀s∈x.1,GQ s)/\x.2.1.2.2.length<=100):Tot (dM x) (fun r:List (GJ×GJ)=>r.length<=101/\(∀s∈r,GQ s)):=by
 obtain⟨out_3,low_5,t56⟩:=x;try dsimp only at h ⊢
 unfold dM
 repeat' first
  |(with_reducible first|refine E4.2 ⟨fun _=>?_,fun _=>?_⟩|refine E2.2 ?_|refine E3.2 ?_|refine G7.2 ⟨?_,?_⟩)
  |dsimp only
 all_goals exact gq2
theorem APf(x:GY×FN×(List E1)×Int×Int)(h:0<=x.2.2.2.2/\x.2.2.2.2<=x.2.2.2.1/\x.2.2.2.1=x.2.2.1.length/\x.2.2.2.1<=281474976710656/\x.2.1.length<=101+x.2.2.2.2/\(∀s∈x.2.1,GQ s)/\x.2.2.2.1<=500/\∀m∈x.2.2.1,m.length<=1048576):Tot (oJ x) (fun r:List (GJ×GJ)=>r.length<=601/\(∀s∈r,GQ s)):=by
 refine F7 (R:=fun r:List (GJ×GJ)=>r.length<=601/\(∀s∈r,GQ s)) (fun y:GY×FN×(List E1)×Int×Int=>(0<=y.2.2.2.2/\y.2.2.2.2<=y.2.2.2.1/\y.2.2.2.1=y.2.2.1.length/\y.2.2.2.1<=281474976710656/\y.2.1.length<=101+y.2.2.2.2/\(∀s∈y.2.1,GQ s)/\y.2.2.2.1<=500/\∀m∈y.2.2.1,m.length<=1048576)) (fun y:GY×FN×(List E1)×Int×Int=>(y.2.2.2.1-y.2.2.2.2).toNat) ?_ _ _ (by grind) (by unfold fuel;grind);rintro next ⟨a_1,out_3,t63,t64,t65⟩ h hn
 try dsimp only at h hn
 unfold A14
 repeat' first
  |(with_reducible first|refine E4.2 ⟨fun _=>?_,fun _=>?_⟩|refine E2.2 ?_|refine E3.2 ?_|refine F4.2 ⟨?_,fun _ _=>?_⟩|refine G7.2 ⟨?_,?_⟩|refine(g8 _ ?_).mono fun _ _=>?_|refine hn _ ?_ ?_)
  |dsimp only
 all_goals exact gq2
theorem APg(x:E1×Int×ID×(List E1)×(List E1))(h:MS x/\uC x):Tot (dN x) (fun r:List (GJ×GJ)=>r.length<=601/\(∀s∈r,GQ s)):=by
 unfold dN;refine E2.2 ((APc _ h).mono fun r hr=>?_);obtain⟨h1,h2,h3,h4⟩:=h;refine E2.2 ((APd _ ⟨B0 _,BC _,rfl,by dsimp only;omega,by simp,by simp,by simp,by dsimp only;omega,hr.2⟩).mono fun r5 h5=>?_);refine E2.2 ((APe _ h5).mono fun r8 h8=>?_);exact E2.2 ((APf _ ⟨B0 _,BC _,rfl,by dsimp only;omega,by dsimp only;omega,h8.2,by dsimp only;omega,h1.2.2.2.2.1⟩).mono fun r13 h13=>E3.2 h13)
theorem APh(x:Int×GJ)(h:x.2.2.2.length<=1048576):Tot (NE x) (fun r:E1×Int=>True):=by
 unfold NE;refine E4.2 ⟨fun _=>E4.2 ⟨fun _=>E3.2 trivial,fun _=>E3.2 trivial⟩,fun _=>?_⟩;refine E2.2 ((MT _ h).mono fun r1 h1=>?_);refine E4.2 ⟨fun _=>E3.2 trivial,fun he=>?_⟩;have h0:r1.2=0:=by rw[E5]at he;simpa using he
 have hv:=h1 h0;revert hv;generalize r1.1=v;intro hv;refine E2.2 (Tot.mono (P:=fun r:E1=>r.length<=10000000) ?_ fun r2 hr=>?_)
 ·rcases v with x|x|x|x|x|x
  ·exact E2.2 ((uD _ hv).mono fun _ h=>E3.2 (by omega))
  ·exact E2.2 ((uF _ hv).mono fun _ h=>E3.2 (by omega))
  ·exact E2.2 ((uG _ hv).mono fun _ h=>E3.2 (by omega))
  ·exact E2.2 ((uH _ hv).mono fun _ h=>E3.2 (by omega))
  ·exact E2.2 ((uI _ trivial).mono fun _ h=>E3.2 (by omega))
  ·exact hv.elim
 refine E4.2 ⟨fun _=>E3.2 trivial,fun _=>?_⟩;refine E2.2 (Tot.mono (P:=fun r:E1=>r.length<=10000000) ?_ fun r2 hr=>E3.2 trivial)
 ·rcases v with x|x|x|x|x|x
  ·exact E2.2 ((gA _ hv).mono fun _ h=>E3.2 (by omega))
  ·exact E2.2 ((gB _ hv).mono fun _ h=>E3.2 (by omega))
  ·exact E2.2 ((gC _ hv).mono fun _ h=>E3.2 (by omega))
  ·exact E2.2 ((gD _ hv).mono fun _ h=>E3.2 (by omega))
  ·exact E2.2 ((gE _ hv).mono fun _ h=>E3.2 (by omega))
  ·exact hv.elim
theorem A7O(x:GJ×E1)(h:x.1.2.2.length<=100):Tot (VN x) (fun r:Int×E1×Bool×E1=>r.2.2.2.length<=100):=by
 obtain⟨b_0,key_1⟩:=x;try dsimp only at h ⊢
 unfold VN
 repeat' first
  |(with_reducible first|refine E4.2 ⟨fun _=>?_,fun _=>?_⟩|refine E3.2 ?_)
  |dsimp only
 all_goals exact gq2
theorem A7P(x:GJ×E1)(h:x.1.2.2.length<=100):Tot (VO x) (fun r:Int×E1×Bool×E1=>r.2.2.2.length<=100):=by
 obtain⟨b_0,key_1⟩:=x;try dsimp only at h ⊢
 unfold VO
 repeat' first
  |(with_reducible first|refine E4.2 ⟨fun _=>?_,fun _=>?_⟩|refine E3.2 ?_)
  |dsimp only
 all_goals exact gq2
theorem APi(x:FS×Int×Bool)(h:x.1.1.2.2.2.length<=100/\x.2.1=0):Tot (dO x) (fun r:FS×Int=>r.1=x.1/\0<=r.2/\r.2<=1000000000000000000):=by
 obtain⟨s_1,first_5,t10⟩:=x;try dsimp only at h ⊢
 unfold dO
 repeat' first
  |(with_reducible first|refine E4.2 ⟨fun _=>?_,fun _=>?_⟩|refine E2.2 ?_|refine E3.2 ?_|refine(K6 _ ?_).mono fun _ _=>?_)
  |dsimp only
 all_goals exact gq2
set_option maxHeartbeats 1000000 in
theorem APj(x:K2×K2)(h:x.1.2.2.2.length<=100/\x.2.2.2.2.length<=100):Tot (dP x) (fun r:Int×Int×Bool=>0<=r.1/\r.2.1<=999999999999999999/\(r.2.2=true->r.1<=r.2.1)):=by
 unfold dP
 repeat' first
  |(with_reducible first|refine E4.2 ⟨fun _=>?_,fun _=>?_⟩|refine E2.2 ?_|refine E3.2 ?_|refine(APi _ ?_).mono fun _ _=>?_|refine(K6 _ ?_).mono fun _ _=>?_)
  |dsimp only
 all_goals exact gq2
theorem APk(x:Int×K2×Bool)(h:0<=x.1/\x.1<=999999999999999999/\x.2.1.2.2.2.length<=100):Tot (dQ x) (fun r:Int×E1×Bool×E1=>r.2.2.2.length<=100):=by
 obtain⟨last_8,high_10,t27⟩:=x;try dsimp only at h ⊢
 unfold dQ
 repeat' first
  |(with_reducible first|refine E4.2 ⟨fun _=>?_,fun _=>?_⟩|refine E2.2 ?_|refine E3.2 ?_|refine(JW _ ?_).mono fun _ _=>?_|refine(J2 _ ?_).mono fun _ _=>?_)
  |dsimp only
 all_goals exact gq2
theorem APl(x:(List FS)×Int×(List FS)×Int×Int)(h:0<=x.2.2.2.2/\x.2.2.2.2<=x.2.2.2.1/\x.2.2.2.1=x.2.2.1.length/\x.2.2.2.1<=281474976710656/\x.1.length<=x.2.2.2.2/\(∀s∈x.1,HB s)/\(∀s∈x.2.2.1,HB s)/\x.2.2.2.1<=1048576/\ -2<=x.2.1/\x.2.1<=999999999999999999):Tot (oK x) (fun r:List FS=>r.length<=1048576/\∀s∈r,HB s):=by
 refine F7 (R:=fun r:List HO=>r.length<=1048576/\∀s∈r,HB s) (fun y:(List HO)×Int×(List HO)×Int×Int=>0<=y.2.2.2.2/\y.2.2.2.2<=y.2.2.2.1/\y.2.2.2.1=y.2.2.1.length/\y.2.2.2.1<=281474976710656/\y.1.length<=y.2.2.2.2/\(∀s∈y.1,HB s)/\(∀s∈y.2.2.1,HB s)/\y.2.2.2.1<=1048576/\ -2<=y.2.1/\y.2.1<=999999999999999999)
  (fun y=>(y.2.2.2.1-y.2.2.2.2).toNat) ?_ _ _ h (by unfold fuel;have:=h.2.2.2.1;omega)
 rintro next ⟨out,e,l,n,i⟩ hI hn
 dsimp only at hI hn;obtain⟨i0,i1,i2,i3,i4,i5,i6,i7,i8,i9⟩:=hI;unfold A15;dsimp only;refine E4.2 ⟨fun hc=>?_,fun hc=>E3.2 ⟨by omega,i5⟩⟩;have hc:=A9 hc;rw[E_ (n:=i+1) (by omega) (by omega),E_ (n:=e+1) (by omega) (by omega)];refine E2.2 (F4.2 ⟨⟨i0,by omega⟩,fun v hv=>?_⟩);have hvb:=i6 v (LC hv);refine E2.2 ((APj _ hvb).mono fun r2 h2=>?_);obtain⟨j1,j2,j3⟩:=h2;refine E4.2 ⟨fun _=>hn _ ⟨by dsimp only;omega,by dsimp only;omega,i2,i3,by dsimp only;omega,i5,i6,i7,i8,i9⟩ (by dsimp only;omega),fun hb=>?_⟩;have hle:=j3 (by simpa using hb);refine E2.2 (Tot.mono (P:=fun r:Edge=>r.2.2.2.length<=100) ((APk _ ⟨by dsimp only;omega,by dsimp only;omega,by simp⟩)) fun r5 h5=>?_);by_cases hl:(0:Int)<out.length
 ·rw[E_ (n:=(out.length:Int)-1) (by omega) (by omega)];refine E4.2 ⟨fun _=>?_,fun _=>?_⟩
  ·refine E2.2 (FJ.2 ⟨⟨by omega,by omega⟩,?_⟩);refine hn _ ⟨by dsimp only;omega,by dsimp only;omega,i2,i3,by dsimp only;rw[AF];omega,fun s hs=>?_,i6,i7,by dsimp only;omega,by dsimp only;omega⟩ (by dsimp only;omega);dsimp only at hs;rcases EJ hs with hs|hs
   ·exact i5 s hs
   ·subst hs;exact⟨(i5 _ (EI (by omega))).1,h5⟩
  ·refine E2.2 ((JW _ ⟨j1,by omega⟩).mono fun r8 h8=>?_);refine E2.2 ((J2 _ trivial).mono fun r9 h9=>?_);refine E2.2 (G7.2 ⟨by simp only[AD,AJ];omega,?_⟩);refine hn _ ⟨by dsimp only;omega,by dsimp only;omega,i2,i3,by dsimp only;rw[A7];simp only[AD,AJ];omega,fun s hs=>?_,i6,i7,by dsimp only;omega,by dsimp only;omega⟩ (by dsimp only;omega);dsimp only at hs;rcases AR.1 hs with hs|hs
   ·exact i5 s hs
   ·rw[AQ]at hs;subst hs;exact⟨by dsimp only;omega,h5⟩
 ·rw[AB hl,CA];simp only[AC];refine E2.2 ((JW _ ⟨j1,by omega⟩).mono fun r8 h8=>?_);refine E2.2 ((J2 _ trivial).mono fun r9 h9=>?_);refine E2.2 (G7.2 ⟨by simp only[AD,AJ];omega,?_⟩);refine hn _ ⟨by dsimp only;omega,by dsimp only;omega,i2,i3,by dsimp only;rw[A7];simp only[AD,AJ];omega,fun s hs=>?_,i6,i7,by dsimp only;omega,by dsimp only;omega⟩ (by dsimp only;omega);dsimp only at hs;rcases AR.1 hs with hs|hs
  ·exact i5 s hs
  ·rw[AQ]at hs;subst hs;exact⟨by dsimp only;omega,h5⟩
theorem APm(x:List FS)(h:(∀s∈x,HB s)/\x.length<=1048576):Tot (dR x) (fun r:List FS=>r.length<=1048576/\∀s∈r,HB s):=by
 unfold dR
 repeat' first
  |(with_reducible first|refine E2.2 ?_|refine E3.2 ?_|refine(APl _ ?_).mono fun _ _=>?_)
  |dsimp only
 all_goals exact gq2
theorem APn(x:(List FS)×Bool)(h:(∀s∈x.1,HB s)/\x.1.length<=1048576):Tot (dS x) (fun r:List FS=>r.length<=1048576/\∀s∈r,HB s):=by
 obtain⟨l_1,t11⟩:=x;try dsimp only at h ⊢
 unfold dS
 repeat' first
  |(with_reducible first|refine E4.2 ⟨fun _=>?_,fun _=>?_⟩|refine E2.2 ?_|refine E3.2 ?_|refine(APm _ ?_).mono fun _ _=>?_)
  |dsimp only
 all_goals exact gq2
theorem APo(x:FS×(GJ×GJ)×Bool)(h:HB x.1/\GQ x.2.1):Tot (dT x) (fun r:FS×(GJ×GJ)=>r.1=x.1/\GQ r.2):=by
 obtain⟨s_8,x_9,t29⟩:=x;try dsimp only at h ⊢
 unfold dT
 repeat' first
  |(with_reducible first|refine E4.2 ⟨fun _=>?_,fun _=>?_⟩|refine E3.2 ?_)
  |dsimp only
 all_goals exact gq2
set_option maxHeartbeats 1000000 in
theorem APp(x:(Int×FN)×(List FS)×Int×Int)(h:0<=x.2.2.2/\x.2.2.2<=x.2.2.1/\x.2.2.1=x.2.1.length/\x.2.2.1<=281474976710656/\x.1.2.length<=x.2.2.2/\x.2.2.1<=200/\(∀s∈x.2.1,HB s)/\(∀s∈x.1.2,GQ s)):Tot (oL x) (fun r:Int×FN=>r.1=x.1.1/\r.2.length<=200/\∀s∈r.2,GQ s):=by
 refine F7 (R:=fun r:Int×FN=>r.1=x.1.1/\r.2.length<=200/\∀s∈r.2,GQ s) (fun y:(Int×FN)×(List FS)×Int×Int=>(0<=y.2.2.2/\y.2.2.2<=y.2.2.1/\y.2.2.1=y.2.1.length/\y.2.2.1<=281474976710656/\y.1.2.length<=y.2.2.2/\y.2.2.1<=200/\(∀s∈y.2.1,HB s)/\(∀s∈y.1.2,GQ s))/\y.1.1=x.1.1) (fun y:(Int×FN)×(List FS)×Int×Int=>(y.2.2.1-y.2.2.2).toNat) ?_ _ _ (by grind) (by unfold fuel;grind);rintro next ⟨r_6,t20,t21,t22⟩ h hn
 try dsimp only at h hn
 unfold A16
 repeat' first
  |(with_reducible first|refine E4.2 ⟨fun _=>?_,fun _=>?_⟩|refine E2.2 ?_|refine E3.2 ?_|refine F4.2 ⟨?_,fun _ _=>?_⟩|refine G7.2 ⟨?_,?_⟩|refine(APo _ ?_).mono fun _ _=>?_|refine hn _ ?_ ?_)
  |dsimp only
 all_goals exact gq2
theorem APq(x:Int×(List FS))(h:(∀s∈x.2,HB s)/\x.2.length<=1048576):Tot (dU x) (fun r:(Int×FN)×Int=>r.1.2.length<=200/\∀s∈r.1.2,GQ s):=by
 obtain⟨kind_0,l_1⟩:=x;try dsimp only at h ⊢
 unfold dU
 repeat' first
  |(with_reducible first|refine E4.2 ⟨fun _=>?_,fun _=>?_⟩|refine E2.2 ?_|refine E3.2 ?_|refine(APn _ ?_).mono fun _ _=>?_|refine(APp _ ?_).mono fun _ _=>?_)
  |dsimp only
 all_goals exact gq2
set_option maxHeartbeats 1000000 in
theorem APr(x:Int×(Int×FN)×(List FS)×FN×Int×Int)(h:0<=x.2.2.2.2.2/\x.2.2.2.2.2<=x.2.2.2.2.1/\x.2.2.2.2.1=x.2.2.2.1.length/\x.2.2.2.2.1<=281474976710656/\x.2.2.1.length<=x.2.2.2.2.2/\(∀s∈x.2.2.1,HB s)/\x.2.2.2.2.1<=1048576/\(∀s∈x.2.2.2.1,GQ s)):Tot (oM x) (fun r:Sum ((Int×FN)×(List FS)) ((Int×FN)×Int)=>(∀y,r=.inl y->y.2.length<=1048576/\∀s∈y.2,HB s)/\∀y,r=.inr y->y.1.2=[]):=by
 refine F7 (R:=fun r:Sum ((Int×FN)×(List FS)) ((Int×FN)×Int)=>(∀y,r=.inl y->y.2.length<=1048576/\∀s∈y.2,HB s)/\∀y,r=.inr y->y.1.2=[]) (fun y:Int×(Int×FN)×(List FS)×FN×Int×Int=>(0<=y.2.2.2.2.2/\y.2.2.2.2.2<=y.2.2.2.2.1/\y.2.2.2.2.1=y.2.2.2.1.length/\y.2.2.2.2.1<=281474976710656/\y.2.2.1.length<=y.2.2.2.2.2/\(∀s∈y.2.2.1,HB s)/\y.2.2.2.2.1<=1048576/\(∀s∈y.2.2.2.1,GQ s))) (fun y:Int×(Int×FN)×(List FS)×FN×Int×Int=>(y.2.2.2.2.1-y.2.2.2.2.2).toNat) ?_ _ _ (by grind) (by unfold fuel;grind);rintro next ⟨kind_0,t4,all_6,t17,t18,t19⟩ h hn
 try dsimp only at h hn
 unfold A17
 repeat' first
  |(with_reducible first|refine E4.2 ⟨fun _=>?_,fun _=>?_⟩|refine E2.2 ?_|refine E3.2 ?_|refine F4.2 ⟨?_,fun _ _=>?_⟩|refine G7.2 ⟨?_,?_⟩|refine(APh _ ?_).mono fun _ _=>?_|refine(A7O _ ?_).mono fun _ _=>?_|refine(A7P _ ?_).mono fun _ _=>?_|refine(QC _ ?_).mono fun _ _=>?_|refine hn _ ?_ ?_)
  |dsimp only
 all_goals exact gq2
theorem APs(x:(List FS)×(List FS)×Int×Int)(h:0<=x.2.2.2/\x.2.2.2<=x.2.2.1/\x.2.2.1=x.2.1.length/\x.2.2.1<=281474976710656/\x.1.length<=x.2.2.2/\(∀s∈x.1,HB s)/\x.2.2.1<=1048576/\(∀s∈x.2.1,HB s)):Tot (oN x) (fun r:List FS=>r.length<=1048576/\∀s∈r,HB s):=by
 refine F7 (R:=fun r:List HO=>r.length<=1048576/\∀s∈r,HB s) (fun y:(List HO)×(List HO)×Int×Int=>0<=y.2.2.2/\y.2.2.2<=y.2.2.1/\y.2.2.1=y.2.1.length/\y.2.2.1<=281474976710656/\y.1.length<=y.2.2.2/\(∀s∈y.1,HB s)/\y.2.2.1<=1048576/\(∀s∈y.2.1,HB s))
  (fun y=>(y.2.2.1-y.2.2.2).toNat) ?_ _ _ h (by unfold fuel;have:=h.2.2.2.1;omega)
 rintro next ⟨out,l,n,i⟩ hI hn
 dsimp only at hI hn;obtain⟨i0,i1,i2,i3,i4,i5,i6,i7⟩:=hI;unfold A18;dsimp only;refine E4.2 ⟨fun hc=>?_,fun hc=>E3.2 ⟨by omega,i5⟩⟩;have hc:=A9 hc;rw[E_ (n:=i+1) (by omega) (by omega)];refine E2.2 (FJ.2 ⟨⟨i0,by omega⟩,?_⟩);have hv:=i7 _ (EI (l:=l) (i:=i.toNat) (d:=((0,(([]:E1),(false,([]:E1)))),(0,(([]:E1),(false,([]:E1)))))) (by omega));generalize l.getD i.toNat ((0,(([]:E1),(false,([]:E1)))),(0,(([]:E1),(false,([]:E1)))))=v at hv;have happ:∀(Q:List HO->Prop),Q (out++[v])->Tot (app? 192 out [v]) Q:=fun Q hQ=>G7.2 ⟨by simp only[AD,AJ];omega,hQ⟩
 have hgo:Tot (next (out++[v],l,n,i+1)) (fun r:List HO=>r.length<=1048576/\∀s∈r,HB s):=by
  refine hn _ ⟨by dsimp only;omega,by dsimp only;omega,i2,i3,by dsimp only;rw[A7];simp only[AD,AJ];omega,fun s hs=>?_,i6,i7⟩ (by dsimp only;omega);dsimp only at hs;rcases AR.1 hs with hs|hs
  ·exact i5 s hs
  ·rw[AQ]at hs;subst hs;exact hv
 by_cases hl:(out.length:Int)=0
 ·have e:E6 (out.length:Int) 0=true:=by rw[E5];exact A6 hl
  rw[e];simp only[BP,AC,Bool.true_or,AA];refine E2.2 (E3.2 (E2.2 (E3.2 (E2.2 (happ _ hgo)))))
 ·have e:E6 (out.length:Int) 0=false:=by rw[E5];exact AB hl
  rw[e,E_ (n:=(out.length:Int)-1) (by omega) (by omega)];simp only[CV,AA,C6];refine E2.2 (FJ.2 ⟨⟨by omega,by omega⟩,?_⟩);refine E2.2 ((QC _ trivial).mono fun r16 _=>?_);refine E4.2 ⟨fun _=>E2.2 (happ _ hgo),fun _=>?_⟩;refine E2.2 (FJ.2 ⟨⟨by omega,by omega⟩,?_⟩);refine E2.2 ((QC _ trivial).mono fun r21 _=>?_);refine E4.2 ⟨fun _=>?_,fun _=>hn _ ⟨by dsimp only;omega,by dsimp only;omega,i2,i3,by dsimp only;omega,i5,i6,i7⟩ (by dsimp only;omega)⟩;refine E2.2 (FJ.2 ⟨⟨by omega,by omega⟩,?_⟩);refine hn _ ⟨by dsimp only;omega,by dsimp only;omega,i2,i3,by dsimp only;rw[AF];omega,fun s hs=>?_,i6,i7⟩ (by dsimp only;omega);dsimp only at hs;rcases EJ hs with hs|hs
  ·exact i5 s hs
  ·subst hs;exact⟨(i5 _ (EI (by omega))).1,hv.2⟩
theorem APt(x:Int×FN)(h:(∀s∈x.2,GQ s)/\x.2.length<=1048576):Tot (dV x) (fun r:(Int×FN)×Int=>r.1.2.length<=200/\∀s∈r.1.2,GQ s):=by
 unfold dV;obtain⟨h1,h2⟩:=h;refine E2.2 ((APr _ ⟨B0 _,BC _,rfl,by dsimp only;omega,by simp,by simp,by dsimp only;omega,h1⟩).mono fun r hr=>?_);rcases r with y|y
 ·obtain⟨g1,g2⟩:=hr.1 y rfl;refine E2.2 ((AOB y.2).mono fun r13 h13=>?_);have l13:=h13.1.length_eq;refine E2.2 ((APs _ ⟨B0 _,BC _,rfl,by dsimp only;omega,by simp,by simp,by dsimp only;omega,fun s hs=>g2 s (h13.1.mem_iff.1 hs)⟩).mono fun r23 h23=>?_);exact E2.2 ((APq _ ⟨h23.2,h23.1⟩).mono fun r24 h24=>E3.2 h24)
 ·have:=hr.2 y rfl;refine E3.2 ?_;dsimp only;rw[this];simp
theorem A7Q(x:E1×Int×ID×(List E1)×(List E1))(h:MS x):Tot (dW x) (fun r:(Int×FN)×Int=>r.1.2.length<=200/\(∀s∈r.1.2,GQ s)):=by
 unfold dW;refine E2.2 ((APK _ h).mono fun r1 h1=>?_);refine E4.2 ⟨fun _=>E3.2 (by simp),fun he=>?_⟩;have h0:r1=0:=by rw[E5]at he;simpa using he
 refine E2.2 ((APg _ ⟨h,h1 h0⟩).mono fun r3 h3=>?_);exact E2.2 ((APt _ ⟨h3.2,by dsimp only;omega⟩).mono fun r4 h4=>E3.2 h4)
theorem APu(x:L4×(List E1)×Int×Int)(h:0<=x.2.2.2/\x.2.2.2<=x.2.2.1/\x.2.2.1=x.2.1.length/\x.2.2.1<=281474976710656/\(∀s∈x.2.1,s.length<=1048576)/\x.2.1=x.1.2.1):Tot (nU x) (fun r:Sum (Unit) (Int)=>True):=by
 refine F7 (R:=fun r:Sum Unit Int=>True)
  (fun y:IT×(List E1)×Int×Int=>0<=y.2.2.2/\y.2.2.2<=y.2.2.1/\y.2.2.1=y.2.1.length/\y.2.2.1<=281474976710656/\(∀v∈y.2.1,v.length<=1048576)/\y.2.1=y.1.2.1)
  (fun y=>(y.2.2.1-y.2.2.2).toNat) ?_ _ _ h (by unfold fuel;have:=h.2.2.2.1;omega)
 rintro next ⟨a,l,n,i⟩ hI hn
 dsimp only at hI hn;obtain⟨i0,i1,i2,i3,i4,i5⟩:=hI;unfold A0l;dsimp only;refine E4.2 ⟨fun hc=>?_,fun hc=>E3.2 trivial⟩;have hc:=A9 hc;rw[E_ (n:=i+1) (by omega) (by omega),E_ (by omega) (by omega)];refine E2.2 (F4.2 ⟨⟨i0,by omega⟩,fun v hv=>?_⟩);have hvl:=i4 v (LC hv);refine E2.2 ((fR _ (by omega)).mono fun r _=>?_);refine E4.2 ⟨fun _=>E3.2 trivial,fun _=>?_⟩;refine E4.2 ⟨fun _=>E3.2 trivial,fun _=>?_⟩;refine E2.2 (Tot.mono (P:=fun _=>True) (E4.2 ⟨fun hz=>?_,fun _=>E3.2 trivial⟩) fun y7 _=>?_)
 ·have hz:=A9 hz;exact F4.2 ⟨⟨by omega,by rw[<-i5];omega⟩,fun _ _=>trivial⟩
 ·refine E4.2 ⟨fun _=>E3.2 trivial,fun _=>?_⟩;exact hn _ ⟨by dsimp only;omega,by dsimp only;omega,i2,i3,i4,i5⟩ (by dsimp only;omega)
theorem A7R(x:E1×(List E1)×E1×Int×Bool×E1×(List GY))(h:∀s∈x.2.1,s.length<=1048576):Tot (cU x) (fun r:Int=>True):=by
 unfold cU
 repeat' first
  |(with_reducible first|refine E4.2 ⟨fun _=>?_,fun _=>?_⟩|refine E2.2 ?_|refine E3.2 ?_|refine(APu _ ?_).mono fun _ _=>?_)
  |split
  |dsimp only
 all_goals exact gq2
theorem A7S(x:Unit)(h:True):Tot (cV x) (fun r:List (List (Int×Int))=>r.length=6):=by
 unfold cV
 repeat' first
  |with_reducible refine E3.2 ?_
  |dsimp only
 all_goals exact gq2
theorem APv(x:E1×(List Int)×(List (List (Int×Int)))×Int)(h:0<=x.2.2.2/\x.2.2.2<=6/\x.2.2.1.length=6/\x.1.length=6):Tot (cW x) (fun r:Sum (List Int) (Int×Int)=>True):=by
 refine F7 (R:=fun r:Sum (List Int) (Int×Int)=>True) (fun y:E1×(List Int)×(List (List (Int×Int)))×Int=>(0<=y.2.2.2/\y.2.2.2<=6/\y.2.2.1.length=6/\y.1.length=6)) (fun y:E1×(List Int)×(List (List (Int×Int)))×Int=>(6-y.2.2.2).toNat) ?_ _ _ (by grind) (by unfold fuel;grind);rintro next ⟨vector_0,w_5,t16,t17⟩ h hn
 try dsimp only at h hn
 unfold nV
 repeat' first
  |(with_reducible first|refine E4.2 ⟨fun _=>?_,fun _=>?_⟩|refine E2.2 ?_|refine E3.2 ?_|refine F4.2 ⟨?_,fun _ _=>?_⟩|refine FJ.2 ⟨?_,?_⟩|refine hn _ ?_ ?_)
  |dsimp only
 all_goals exact gq2
theorem APw(x:E1)(h:True):Tot (PH x) (fun r:Int×Int=>True):=by
 unfold PH
 repeat' first
  |(with_reducible first|refine E4.2 ⟨fun _=>?_,fun _=>?_⟩|refine E2.2 ?_|refine E3.2 ?_|refine(A7S _ ?_).mono fun _ _=>?_|refine(APv _ ?_).mono fun _ _=>?_|refine fT.2 ⟨?_,?_⟩)
  |split
  |dsimp only
 all_goals exact gq2
theorem APx(x:L4×Bool)(h:True):Tot (VT x) (fun r:Sum L4 (JS×Int)=>∀y,r=.inl y->y=x.1):=by
 obtain⟨a_1,t37⟩:=x;try dsimp only at h ⊢
 unfold VT
 repeat' first
  |(with_reducible first|refine E4.2 ⟨fun _=>?_,fun _=>?_⟩|refine E2.2 ?_|refine E3.2 ?_|refine(APw _ ?_).mono fun _ _=>?_)
  |dsimp only
 all_goals exact gq2
theorem APy(x:JS×(List GY)×Int×Int)(h:0<=x.2.2.2/\x.2.2.2<=x.2.2.1/\x.2.2.1=x.2.1.length/\x.2.2.1<=281474976710656/\x.2.2.1<=50/\x.1.length<=x.2.2.2/\∀z∈x.2.1,MS z):Tot (VU x) (fun r:Sum JS (JS×Int)=>True):=by
 refine F7 (R:=fun r:Sum JS (JS×Int)=>True) (fun y:JS×(List GY)×Int×Int=>(0<=y.2.2.2/\y.2.2.2<=y.2.2.1/\y.2.2.1=y.2.1.length/\y.2.2.1<=281474976710656/\y.2.2.1<=50/\y.1.length<=y.2.2.2/\∀z∈y.2.1,MS z)) (fun y:JS×(List GY)×Int×Int=>(y.2.2.1-y.2.2.2).toNat) ?_ _ _ (by grind) (by unfold fuel;grind);rintro next ⟨out_7,t52,t53,t54⟩ h hn
 try dsimp only at h hn
 unfold oO
 repeat' first
  |(with_reducible first|refine E4.2 ⟨fun _=>?_,fun _=>?_⟩|refine E2.2 ?_|refine E3.2 ?_|refine F4.2 ⟨?_,fun _ _=>?_⟩|refine G7.2 ⟨?_,?_⟩|refine(A7Q _ ?_).mono fun _ _=>?_|refine hn _ ?_ ?_)
  |dsimp only
 all_goals exact gq2
theorem APz(x:E1×(List E1)×E1×Int×Bool×E1×(List GY))(h:LB x):Tot (PK x) (fun r:JS×Int=>True):=by
 unfold PK
 repeat' first
  |(with_reducible first|refine E4.2 ⟨fun _=>?_,fun _=>?_⟩|refine E2.2 ?_|refine E3.2 ?_|refine(fR _ ?_).mono fun _ _=>?_|refine(A7R _ ?_).mono fun _ _=>?_|refine(APx _ ?_).mono fun _ _=>?_|refine(APy _ ?_).mono fun _ _=>?_)
  |split
  |dsimp only
 all_goals grind[EE,ED,EH,E9,E5,EG,EF,EC,EI,EJ,ES,EQ,EV,EW,EX,EY,EZ,LB]
theorem AQ0(x:E1×(List E1)×E1×Int×Bool×E1×(List GY))(h:LB x):Tot (SE x) (fun r:Int=>True):=by
 unfold SE
 repeat' first
  |(with_reducible first|refine E2.2 ?_|refine E3.2 ?_|refine(APz _ ?_).mono fun _ _=>?_)
  |dsimp only
 all_goals exact gq2
theorem GR{α:Type}{l:List α}{i:Nat}{a:α}(h:l[i]?=some a):l.take (i+1)=l.take i++[a]:=by
 rw[List.take_add_one,h];rfl
abbrev Rg:=Int×(List SX)
noncomputable def QD(v:Vr):Option E1:=(fun z=>Sum.casesOn (motive:=fun _=>Option E1) z (fun x=>(LY x).bind fun r=>some r) (fun z=>Sum.casesOn (motive:=fun _=>Option E1) z (fun x=>(LZ x).bind fun r=>some r) (fun z=>Sum.casesOn (motive:=fun _=>Option E1) z (fun x=>(L_ x).bind fun r=>some r) (fun z=>Sum.casesOn (motive:=fun _=>Option E1) z (fun x=>(M0 x).bind fun r=>some r) (fun z=>Sum.casesOn (motive:=fun _=>Option E1) z (fun x=>(M1 x).bind fun r=>some r) (fun _=>none)))))) v
theorem gF{v:Vr}(hv:J3 v):Tot (QD v) (fun _=>True):=by
 unfold QD;rcases v with x|x|x|x|x|x
 ·exact E2.2 ((gA _ hv).mono fun _ h=>E3.2 trivial)
 ·exact E2.2 ((gB _ hv).mono fun _ h=>E3.2 trivial)
 ·exact E2.2 ((gC _ hv).mono fun _ h=>E3.2 trivial)
 ·exact E2.2 ((gD _ hv).mono fun _ h=>E3.2 trivial)
 ·exact E2.2 ((gE _ hv).mono fun _ h=>E3.2 trivial)
 ·exact hv.elim
def Vs(k:Int)(w:E1)(v:Vr)(s:E1):Prop:=IN (k,w)=some (v,0)/\QD v=some s
theorem AQ1{k:Int}{w:E1}{v:Vr}(hw:w.length<=1048576)(h:IN (k,w)=some (v,0)):∃s,Vs k w v s:=by
 obtain⟨r,h1,h2⟩:=MT (k,w) hw;rw[h]at h1;cases h1;obtain⟨s,h3,_⟩:=gF (h2 rfl);exact⟨s,h,h3⟩
theorem AQ2{k:Int}{w:E1}{v:Vr}{s:E1}(h:Vs k w v s):SC (k,w)=some (s,0):=by
 show((IN (k,w)).bind fun r1=>bif (!(E6 r1.2 (0:Int)))then some (([]:E1),r1.2)else(QD r1.1).bind fun r2=>some (r2,(0:Int)))=_;rw[h.1];simp only[A0,E5,decide_true,BP,AC];rw[h.2];rfl
theorem AQ3{k:Int}{w:E1}{v:Vr}{s:E1}(h:Vs k w v s):w≠[]:=by
 rintro rfl;have h1:=h.1;unfold IN at h1;dsimp only at h1;have e:EM ([]:E1) ([]:E1)=true:=rfl;rw[e]at h1;cases hc:(decide (k<(1:Int))||decide ((5:Int)<k))with
 |true=>rw[hc]at h1;simp at h1
 |false=>rw[hc]at h1;simp at h1
noncomputable def ky(k:Int)(w:E1):E1:=((SC (k,w)).getD ([],0)).1
theorem AQ4{k:Int}{w:E1}{v:Vr}{s:E1}(h:Vs k w v s):ky k w=s:=by unfold ky;rw[AQ2 h];rfl
def Ok(k:Int)(w:E1):Prop:=∃v,Vs k w v (ky k w)
theorem AQ5{k:Int}{w:E1}{v:Vr}{s:E1}(h:Vs k w v s):Ok k w:=⟨v,by rw[AQ4 h];exact h⟩
theorem A7T(k:Int)(w:E1)(hw:w.length<=1048576):Tot (V9 (k,w)) (fun r=>r=0->Ok k w):=by
 unfold V9;dsimp only;obtain⟨⟨v,e⟩,h1,h2⟩:=MT (k,w) hw;rw[h1];refine E2.2 (E3.2 (E3.2 fun he=>?_));dsimp only at he;subst he;obtain⟨s,hs⟩:=AQ1 hw h1;exact AQ5 hs
theorem AQ6(s:SX)(b:List HO)(hs:GQ s)(hb:∀x∈b,HB x)(hl:b.length<=1048576):Tot (cN (s,b)) (fun _=>True):=by
 unfold cN;dsimp only;refine E4.2 ⟨fun _=>E3.2 trivial,fun _=>E4.2 ⟨fun hc=>?_,fun _=>E3.2 trivial⟩⟩;have hc:=A9 hc;rw[E_ (n:=(b.length:Int)-1) (by omega) (by omega)];refine E2.2 ((K6 _ (by have:=hs.1;omega)).mono fun r hr=>E2.2 (F4.2 ⟨⟨by omega,by omega⟩,fun y hy=>?_⟩));refine E2.2 ((K6 _ (by have:=(hb y (LC hy)).2;omega)).mono fun r' hr'=>?_);exact E4.2 ⟨fun _=>E3.2 trivial,fun _=>E3.2 trivial⟩
theorem AQ7(l:List HO)(k:E1)(hl:l.length<=1048576):Tot (SH (l,k)) (fun _=>True):=by
 unfold SH pF;dsimp only;refine E2.2 (E2.2 (Tot.mono (P:=fun _=>True) ?_ fun q _=>by rcases q with y|y<;>exact E3.2 (E3.2 trivial)));generalize hf:(fun x:HO=>(e7 (x,(some ((0:Int),(k,(false,([]:E1))))))).bind fun r=>some r)=f
 have hF:∀x,Tot (f x) fun _=>True:=by
  intro x;subst hf;unfold e7;dsimp only;refine E2.2 (E2.2 (E3.2 (E2.2 ((QC _ trivial).mono fun r2 _=>?_))));refine E2.2 (Tot.mono (P:=fun _=>True) (E4.2 ⟨fun _=>E3.2 trivial,fun _=>E3.2 trivial⟩) fun p3 _=>?_);exact E2.2 (Tot.mono (P:=fun _=>True) (E4.2 ⟨fun _=>QC _ trivial,fun _=>E3.2 trivial⟩) fun r4 _=>E3.2 (E3.2 trivial))
 clear hf
 refine F7 (R:=fun _:Sum Unit Int=>True) (fun y:(List HO)×(HO->Option Bool)×Int×Int=>y.1=l/\y.2.1=f/\y.2.2.1=l.length/\0<=y.2.2.2/\y.2.2.2<=l.length)
  (fun y=>((l.length:Int)-y.2.2.2).toNat) ?_ _ _ ⟨rfl,rfl,rfl,B0 _,BC _⟩ (by unfold fuel;dsimp only;omega)
 rintro next ⟨l',f',n,i⟩ hI hn
 dsimp only at hI hn;obtain⟨rfl,rfl,rfl,i0,i1⟩:=hI;unfold A1F;dsimp only;refine E4.2 ⟨fun hc=>?_,fun hc=>E3.2 trivial⟩;have hc:=A9 hc;rw[E_ (n:=i+1) (by omega) (by omega)];refine E2.2 (F4.2 ⟨⟨i0,hc⟩,fun s hx=>?_⟩);refine E2.2 ((hF s).mono fun r _=>E4.2 ⟨fun _=>E3.2 trivial,fun _=>?_⟩);exact hn _ ⟨rfl,rfl,rfl,by dsimp only;omega,by dsimp only;omega⟩ (by dsimp only;omega)
noncomputable def inn(L:List HO)(k:Int)(w:E1):Bool:=decide (0<=(SH (L,ky k w)).getD 0)
theorem AQ8(k:Int)(u w:E1):cR (k,u,w)=(S9 (k,u,w)).bind fun r1=>bif (!(E6 r1.2.2 (0:Int)))then some ((0:Int),r1.2.2)else(QD r1.1).bind fun r2=>(QD r1.2.1).bind fun r3=>(MK (r2,r3)).bind fun r4=>some (r4,(0:Int)):=rfl
theorem AQ9{k:Int}{u w:E1}(hu:Ok k u)(hw:Ok k w):cR (k,u,w)=some (K7 (ky k u) (ky k w),0):=by
 obtain⟨v,hv⟩:=hu;obtain⟨v',hv'⟩:=hw;rw[AQ8];unfold S9;dsimp only;rw[hv.1];simp only[A0,E5,decide_true,BP,AC];rw[hv'.1];simp only[A0,decide_true,BP,AC];rw[hv.2,hv'.2];simp only[A0];rw[A79];rfl
abbrev Bs:=Int×(List IT)×(List Int)
abbrev Dl:=Int×Int×(List IT)×(List E1)
noncomputable def X9(a:IT):Int:=(SE a).getD 1
theorem AQA{a:IT}(h:LB a):SE a=some (X9 a):=by
 obtain⟨r,hr,_⟩:=AQ0 a h;unfold X9;rw[hr];rfl
def okR(l:List IT)(i:Nat):Prop:=∀a,l[i]?=some a->X9 a=0/\(0<i->∀a',l[i-1]?=some a'->a'.1<a.1)
def SY(b:Bs)(i:Nat):Prop:=okR b.2.1 i/\∀s,b.2.2[i]?=some s->0<=s/\s<=b.1
theorem gG(a b:E1):(Op.bytesLess a b||EM a b)= !decide (b<a):=by
 rw[uB,E9];rcases X6 a b with h|h|h
 ·simp[h,fY h]
 ·subst h;simp[JU]
 ·have:a≠b:=fun e=>by subst e;exact JU _ h
  simp[h,fY h,this]
theorem AQB(b:Bs)(hb:∀a∈b.2.1,LB a)(hl:b.2.2.length=b.2.1.length)(hm:b.2.1.length<=2000):
 Tot (oP (b,b.2.1,(b.2.1.length:Int),0)) (fun r=>(∀u,r=.inl u->∀j,j<b.2.1.length->SY b j)/\∀e,r=.inr e->e≠0/\¬∀j,j<b.2.1.length->SY b j):=by
 refine F7 (R:=fun r:Sum Unit Int=>(∀u,r=.inl u->∀j,j<b.2.1.length->SY b j)/\∀e,r=.inr e->e≠0/\¬∀j,j<b.2.1.length->SY b j)
  (fun y:Bs×(List IT)×Int×Int=>y.1=b/\y.2.1=b.2.1/\y.2.2.1=b.2.1.length/\0<=y.2.2.2/\y.2.2.2<=b.2.1.length/\∀j:Nat,(j:Int)<y.2.2.2->SY b j)
  (fun y=>((b.2.1.length:Int)-y.2.2.2).toNat) ?_ _ _ ⟨rfl,rfl,rfl,B0 _,BC _,fun j hj=>by dsimp only at hj;omega⟩ (by unfold fuel;dsimp only;omega)
 rintro next ⟨b',l,n,i⟩ hI hn
 dsimp only at hI hn;obtain⟨rfl,rfl,rfl,i0,i1,i2⟩:=hI;unfold A19;dsimp only;refine E4.2 ⟨fun hc=>?_,fun hc=>E3.2 ⟨fun u _ j hj=>?_,fun e he=>(by cases he)⟩⟩
 ·have hc:=A9 hc;rw[E_ (n:=i+1) (by omega) (by omega),E_ (by omega) (by omega)];refine E2.2 (F4.2 ⟨⟨i0,hc⟩,fun a ha=>?_⟩);rw[AQA (hb a (LC ha))];refine E2.2 (E3.2 ?_);have hlt:i.toNat<b'.2.1.length:=by omega
  refine E4.2 ⟨fun he=>E3.2 ⟨fun u hu=>(by cases hu),fun e he'=>?_⟩,fun he=>?_⟩
  ·cases he';rw[E5]at he;have he:¬X9 a=0:=by simpa using he
   exact⟨he,fun h=>he ((h i.toNat hlt).1 a ha).1⟩
  have hk:X9 a=0:=by rw[E5]at he;simpa using he
  refine E2.2 (Tot.mono (P:=fun y4:IT=>0<i->b'.2.1[i.toNat-1]?=some y4) (E4.2 ⟨fun hz=>?_,fun hz=>E3.2 fun h0=>absurd h0 (AG hz)⟩) fun y4 h4=>?_)
  ·have hz:=A9 hz;refine F4.2 ⟨⟨by omega,by omega⟩,fun w hw _=>?_⟩;rw[show i.toNat-1=(i-1).toNat by omega];exact hw
  rw[gG];refine E4.2 ⟨fun he2=>E3.2 ⟨fun u hu=>(by cases hu),fun e he'=>?_⟩,fun he2=>?_⟩
  ·cases he';have h2:=D8.1 he2;have hz:=A9 h2.1;have hnl:¬y4.1<a.1:=by simpa using h2.2
   exact⟨by decide,fun h=>hnl (((h i.toNat hlt).1 a ha).2 (by omega) y4 (h4 hz))⟩
  have hasc:0<i.toNat->∀a',b'.2.1[i.toNat-1]?=some a'->a'.1<a.1:=by
   intro hz a' ha';have hz':0<i:=by omega
   rw[h4 hz']at ha';cases ha';rw[A6 hz',C7]at he2;simpa using he2
  refine E2.2 (F4.2 ⟨⟨i0,by omega⟩,fun s hs=>?_⟩);refine E2.2 (Tot.mono (P:=fun y7:Int=>0<=s->y7=s) (E4.2 ⟨fun hz=>F4.2 ⟨⟨i0,by omega⟩,fun w hw _=>?_⟩,fun hz=>E3.2 fun h0=>?_⟩) fun y7 h7=>?_)
  ·rw[hs]at hw;cases hw;rfl
  ·exfalso;simp at hz;omega
  refine E4.2 ⟨fun he3=>E3.2 ⟨fun u hu=>(by cases hu),fun e he'=>?_⟩,fun he3=>?_⟩
  ·cases he';refine⟨by decide,fun h=>?_⟩;have h8:=(h i.toNat hlt).2 s hs;have h9:=h7 h8.1;rw[h9]at he3;simp at he3;omega
  ·have h8:=BO.1 he3;have h9:=AG h8.1;have h10:=AG h8.2;have h11:=h7 (by omega);refine hn _ ⟨rfl,rfl,rfl,by dsimp only;omega,by dsimp only;omega,fun j hj=>?_⟩ (by dsimp only;omega);dsimp only at hj;by_cases hj':(j:Int)<i
   ·exact i2 j hj'
   ·have:j=i.toNat:=by omega
    subst this;refine⟨fun a' ha'=>?_,fun s' hs'=>?_⟩
    ·rw[ha]at ha';cases ha';exact⟨hk,hasc⟩
    ·rw[hs]at hs';cases hs';omega
 ·have hc:=AG hc;exact i2 j (by omega)
def BB(b:Bs):Prop:=∀a∈b.2.1,LB a
def uL(b:Bs):Prop:=(0<=b.1/\b.1<=1000000000)/\b.2.1.length<=2000/\b.2.2.length=b.2.1.length/\∀j,j<b.2.1.length->SY b j
theorem AQC(b:Bs)(hb:BB b):Tot (dX b) (fun r=>r=0<->uL b):=by
 unfold dX uL;refine E4.2 ⟨fun h=>E3.2 ⟨fun h0=>absurd h0 (by decide),fun hk=>?_⟩,fun h1=>?_⟩
 ·simp at h;omega
 have h1':=BO.1 h1;have g1:=AG h1'.1;have g2:=AG h1'.2;refine E4.2 ⟨fun h=>E3.2 ⟨fun h0=>absurd h0 (by decide),fun hk=>?_⟩,fun h2=>?_⟩
 ·have:=A9 h;omega
 have g3:=AG h2;refine E4.2 ⟨fun h=>E3.2 ⟨fun h0=>absurd h0 (by decide),fun hk=>?_⟩,fun h3=>?_⟩
 ·rw[E5,hk.2.2.1]at h;simp at h
 have g4:b.2.2.length=b.2.1.length:=by
  rw[E5]at h3;have:((b.2.2.length:Nat):Int)=b.2.1.length:=by simpa using h3
  omega
 refine E2.2 ((AQB b hb g4 (by omega)).mono fun r hr=>?_);rcases r with r|r
 ·exact E3.2 ⟨fun _=>⟨by omega,by omega,g4,hr.1 r rfl⟩,fun _=>rfl⟩
 ·exact E3.2 ⟨fun h0=>absurd h0 (hr.2 r rfl).1,fun hk=>absurd hk.2.2.2 (hr.2 r rfl).2⟩
def DB(d:Dl):Prop:=d.2.2.1.length<=1048576/\∀a∈d.2.2.1,LB a
theorem AQD{α:Type}{B:Nat}(l:List α)(h:l.length*B<=70368744177664):app? B [] l=some l:=by
 unfold app?;rw[A6 (by simpa using h)];rfl
theorem AQE{l:List E1}(h:l.length<=1048576):eE l=some l:=by
 unfold eE qT;rw[AQD l (by omega)];rfl
theorem AQF(k k':E1)(v:Bool):∀m:List (E1×Bool),HT EM k (GU EM k' v m)=if k=k' then some v else HT EM k m:=by
 intro m;induction m with
 |nil=>
  unfold GU HT;rw[E9];by_cases h:k=k'<;>simp[h,HT]
 |cons e r ih=>
  unfold GU;rw[E9];by_cases h1:k'=e.1
  ·rw[A6 h1];simp only[AA];unfold HT;rw[E9,E9];by_cases h:k=k'
   ·simp[h]
   ·have:¬k=e.1:=fun e'=>h (e'.trans h1.symm);simp[h,this]
  ·rw[AB h1];simp only[AC];unfold HT;rw[E9,ih];by_cases h:k=e.1
   ·have h2:¬e.1=k':=fun e'=>h1 e'.symm;simp[h,h2]
   ·simp[h]
section
variable{b:Bs}{d:Dl}(hb:BB b)(hbl:b.2.1.length<=1048576)(hd:DB d)(h0:d.2.2.2=[])
end
end Go.Ev.Pv
