/-
  The law as plain Lean, first part: that there are answers: names, versions, ranges, advisories.
-/
import Derived.Test.YtlljgbmoloklgaaGreatDoorE4
import Derived.Test.YtlljgbmoloklgaaGreatDoorD
import Derived.Sort.AssemblyPlain
import Derived.KernelRfl
set_option linter.unusedVariables false
set_option linter.unusedSimpArgs false
set_option linter.unusedSectionVars false
set_option maxRecDepth 100000
open Go.IntKind hiding min max bits signed
namespace Go.Ev
theorem EN{α:Type}{a:α}{l:List α}:(a::l).length=l.length+1:=AF
theorem EP{α:Type}:([]:List α).length=0:=AW
theorem EQ{α:Type}{a:α}{i:Nat}{l:List α}(h:a∈l.take i):a∈l:=DA h
theorem ER{α:Type}{a:α}{i:Nat}{l:List α}(h:a∈l.drop i):a∈l:=List.mem_of_mem_drop h
def Tot{α:Type}(m:Option α)(Q:α->Prop):Prop:=∃x,m=some x/\Q x
section
variable{α β:Type}{m n:Option α}{P Q:α->Prop}
theorem Tot.mono(h:Tot m P)(k:∀x,P x->Q x):Tot m Q:=let ⟨x,h1,h2⟩:=h;⟨x,h1,k x h2⟩
theorem DY{x:α}:Tot (some x) Q<->Q x:=⟨λ⟨_,h1,h2⟩=>A3 h1▸h2,λh=>⟨x,rfl,h⟩⟩
theorem DX{f:α->Option β}{R:β->Prop}:Tot (m.bind f) R<->Tot m λx=>Tot (f x) R:=by
 constructor
 .rintro⟨y,h1,h2⟩;obtain⟨x,h3,h4⟩:=BT.1 h1;exact⟨x,h3,y,h4,h2⟩
 .rintro⟨x,rfl,y,h1,h2⟩;exact⟨y,h1,h2⟩
theorem DZ{b:Bool}:Tot (bif b then m else n) Q<->(b=true->Tot m Q)/\(b=false->Tot n Q):=by
 cases b
 .exact⟨λh=>⟨λe=>(by cases e),λ_=>h⟩,λh=>h.2 rfl⟩
 .exact⟨λh=>⟨λ_=>h,λe=>(by cases e)⟩,λh=>h.1 rfl⟩
theorem FD{n:Nat}{i:Int}{Q:Unit->Prop}:Tot (in? n i) Q<->(0<=i/\i<n)/\Q ():=by
 unfold in? Tot;by_cases h1:0<=i<;>by_cases h2:i<n<;>simp[h1,h2]
 exact⟨λ⟨_,h⟩=>h,λh=>⟨(),h⟩⟩
theorem FS{a b:DW}{Q:DW->Prop}:Tot (cat? a b) Q<->a.length+b.length<=281474976710656/\Q (a++b):=by
 unfold cat? Tot;by_cases h:a.length+b.length<=281474976710656<;>simp[h]
theorem FU{B:Nat}{a b:List α}{Q:List α->Prop}:Tot (app? B a b) Q<->(a.length+b.length)*B<=70368744177664/\Q (a++b):=by
 unfold app? Tot;by_cases h:(a.length+b.length)*B<=70368744177664<;>simp[h]
theorem HD{l:List α}{lo hi:Int}{Q:List α->Prop}:Tot (cut? l lo hi) Q<->(0<=lo/\lo<=hi/\hi<=l.length)/\Q ((l.take hi.toNat).drop lo.toNat):=by
 unfold cut? Tot;by_cases h1:0<=lo<;>by_cases h2:lo<=hi<;>by_cases h3:hi<=l.length<;>simp[h1,h2,h3]
theorem AND{l:List α}{i:Int}{Q:α->Prop}(h1:0<=i)(h2:i<l.length)(h3:∀x,x∈l->l[i.toNat]?=some x->Q x):Tot (at? l i) Q:=by
 have hlt:i.toNat<l.length:=o5
 refine⟨l[i.toNat],?_,h3 _ (BM hlt) (A0 hlt)⟩;unfold at?;rw[A7 h1];exact A0 hlt
theorem EZ{l:List α}{i:Int}{Q:α->Prop}:Tot (at? l i) Q<->(0<=i/\i<l.length)/\∀x,l[i.toNat]?=some x->Q x:=by
 constructor
 .rintro⟨x,h1,h2⟩;unfold at? at h1;by_cases h0:0<=i
  .rw[A7 h0]at h1;have h1:l[i.toNat]?=some x:=h1;have hlt:=(A8.1 h1).1;exact⟨⟨h0,o5⟩,λy hy=>by rw[h1]at hy;cases hy;exact h2⟩
  .rw[AE h0]at h1;cases h1
 .rintro⟨⟨h1,h2⟩,h3⟩;exact AND h1 h2 λx _ hx=>h3 x hx
theorem rA:Tot m (λ_=>True)<->∃x,m=some x:=⟨λ⟨x,h,_⟩=>⟨x,h⟩,λ⟨x,h⟩=>⟨x,h,trivial⟩⟩
theorem E_{r:(α->Option β)->α->Option β}{R:β->Prop}(I:α->Prop)(μ:α->Nat)(h:∀next x,I x->(∀y,I y->μ y<μ x->Tot (next y) R)->Tot (r next x) R):
 ∀(k:Nat) (x:α),I x->μ x<k->Tot (EE r k x) R:=by
 intro k;induction k with
 |zero=>intro x _ h;omega
 |succ k ih=>intro x hx hk;exact h _ x hx λy hy hm=>ih y hy o5
theorem EW{n:Int}(h1:-9223372036854775808<=n)(h2:n<=9223372036854775807):i64.wrap n=n:=by
 simp only[IntKind.wrap,IntKind.bits,IntKind.signed];simp;omega
theorem rB{n:Int}(h1:0<=n)(h2:n<=255):u8.wrap n=n:=by
 simp only[IntKind.wrap,IntKind.bits,IntKind.signed];simp;omega
theorem ANE(n:Int):0<=u8.wrap n/\u8.wrap n<=255:=by
 simp only[IntKind.wrap,IntKind.bits,IntKind.signed];simp;omega
end
end Go.Ev
namespace Go.Ev.Pv
theorem E8{n:Int}:-9223372036854775808<=n->n<=9223372036854775807->i64.wrap n=n:=λh1 h2=>EW h1 h2
theorem E6(b:UInt8):b.toNat<=255:=by have:=b.toNat_lt;omega
theorem E9{n:Int}:0<=n->n<=255->u8.wrap n=n:=λh1 h2=>rB h1 h2
theorem EA(n:Int):0<=u8.wrap n/\u8.wrap n<=255:=ANE n
theorem EB(s:DW):(FV s).length=s.length:=by simp[FV]
theorem E7(s:List Int):(HH s).length=s.length:=by simp[HH]
theorem E3(s t:DW):EG s t=decide (s=t):=by unfold EG;by_cases h:s=t<;>simp[h]
theorem E0(s t:Int):E1 s t=decide (s=t):=by unfold E1;by_cases h:s=t<;>simp[h]
theorem PE(x:DW×Int)(h:x.1.length<=1048576):Tot (strings_IndexByte x) (λr:Int=>-1<=r):=by
 unfold strings_IndexByte HQ;rw[A7 o5];exact DY.2 (Lib.indexByte_ge _ _)
theorem rD(sep:DW)(m:Nat):∀xs:List DW,(∀s∈xs,s.length<=m)->(Lib.join xs sep).length<=xs.length*(m+sep.length):=by
 intro xs;induction xs with
 |nil=>intro _;simp[Lib.join,List.intercalate]
 |cons a r ih=>
  intro h;have h1:=h a AI;have h2:=ih λs hs=>h s (AD _ hs);cases r with
  |nil=>simp[Lib.join,List.intercalate];omega
  |cons b r=>
   have e:Lib.join (a::b::r) sep=a++(sep++Lib.join (b::r) sep):=by simp[Lib.join,List.intercalate,List.intersperse]
   rw[e];simp only[A6,AF]at h2 ⊢;have e2:(r.length+1+1)*(m+sep.length)=(r.length+1)*(m+sep.length)+(m+sep.length):=by rw[CF (r.length+1)];omega
   rw[e2];omega
theorem ANF{xs:List DW}(h1:xs.length<=1048577)(h2:∀s∈xs,s.length<=1048576):(Lib.join xs [47]).length<=1099513724929:=by
 have h:=rD [47] 1048576 xs h2;have:xs.length*(1048576+[(47:UInt8)].length)<=1048577*(1048576+1):=Nat.mul_le_mul h1 (AB _);omega
theorem S0(x:(List DW)×DW)(h:x.1.length<=140737488355328/\(Lib.join x.1 x.2).length<=140737488355328):Tot (strings_Join x) (λr=>r=Lib.join x.1 x.2):=by
 unfold strings_Join HQ;rw[A7 h];exact DY.2 rfl
theorem qj{p:Prop}(h:p:=by grind[E8,E7,EB,E3,E0,EA,E9,E6]):p:=h
theorem ANG(x:DW×Int×Int)(h:0<=x.2.2/\x.2.2<=x.2.1/\x.2.1=x.1.length/\x.2.1<=281474976710656):Tot (mC x) (λr:Sum (Unit) (Bool)=>True):=by
 refine E_ (R:=λr:Sum (Unit) (Bool)=>True) (λy:DW×Int×Int=>(0<=y.2.2/\y.2.2<=y.2.1/\y.2.1=y.1.length/\y.2.1<=281474976710656)) (λy:DW×Int×Int=>(y.2.1-y.2.2).toNat) ?_ _ _ oi (by unfold fuel;grind);rintro next ⟨s_0,t6,t7⟩ h hn
 try dsimp only at h hn
 unfold zK
 repeat' first
  |(with_reducible first|refine DZ.2 ⟨λ_=>?_,λ_=>?_⟩|refine DX.2 ?_|refine DY.2 ?_|refine EZ.2 ⟨?_,λ_ _=>?_⟩|refine hn _ ?_ ?_)
  |dsimp only
 all_goals exact qj
theorem A6Z(x:DW)(h:x.length<=1048576):Tot (RL x) (λr:Bool=>True):=by
 unfold RL
 repeat' first
  |(with_reducible first|refine DX.2 ?_|refine DY.2 ?_|refine(ANG _ ?_).mono λ_ _=>?_)
  |split
  |dsimp only
 all_goals exact qj
theorem ANH(x:(List Int)×Int×Int)(h:0<=x.2.2/\x.2.2<=x.2.1/\x.2.1=x.1.length/\x.2.1<=281474976710656):Tot (jT x) (λr:List Int=>r.length=x.1.length):=by
 refine E_ (R:=λr:List Int=>r.length=x.1.length) (λy:(List Int)×Int×Int=>(0<=y.2.2/\y.2.2<=y.2.1/\y.2.1=y.1.length/\y.2.1<=281474976710656)/\y.1.length=x.1.length) (λy:(List Int)×Int×Int=>(y.2.1-y.2.2).toNat) ?_ _ _ oi (by unfold fuel;grind);rintro next ⟨b_3,t9,t10⟩ h hn
 try dsimp only at h hn
 unfold xH
 repeat' first
  |(with_reducible first|refine DZ.2 ⟨λ_=>?_,λ_=>?_⟩|refine DX.2 ?_|refine DY.2 ?_|refine FD.2 ⟨?_,?_⟩|refine hn _ ?_ ?_)
  |dsimp only
 all_goals exact qj
theorem rE(x:DW)(h:x.length<=1048576):Tot (OP x) (λr:DW=>r.length=x.length):=by
 unfold OP
 repeat' first
  |(with_reducible first|refine DX.2 ?_|refine DY.2 ?_|refine EZ.2 ⟨?_,λ_ _=>?_⟩|refine FS.2 ⟨?_,?_⟩|refine(ANH _ ?_).mono λ_ _=>?_)
  |dsimp only
 all_goals exact qj
theorem S1(x:F0×Int)(h:True):Tot (MP x) (λr:DW×Int×Int=>r.1=x.1.1/\r.2.1=x.1.2.1/\(0<=x.2->0<=r.2.2)):=by
 obtain⟨r_0,at_1⟩:=x;try dsimp only at h ⊢
 unfold MP
 repeat' first
  |(with_reducible first|refine DZ.2 ⟨λ_=>?_,λ_=>?_⟩|refine DY.2 ?_)
  |dsimp only
 all_goals exact qj
theorem S2(x:Option F0)(h:∃y,x=some y/\0<=y.2.1):Tot (M7 x) (λr:Int=>0<=r/\(r=0\/∃y,x=some y/\y.2.1<y.1.length)):=by
 unfold M7;obtain⟨y,rfl,h⟩:=h
 repeat' first
  |(with_reducible first|refine DZ.2 ⟨λ_=>?_,λ_=>?_⟩|refine DX.2 ?_|refine DY.2 ?_|refine EZ.2 ⟨?_,λ_ _=>?_⟩)
  |dsimp only
 all_goals exact qj
theorem A6_(x:Int)(h:True):Tot (U6 x) (λr:Bool=>True):=by
 unfold U6
 repeat' first
  |with_reducible refine DY.2 ?_
  |dsimp only
 all_goals exact qj
theorem ANI(x:F0×Int)(h:0<=x.2/\x.2<=(4:Int)/\(4:Int)<=281474976710656/\x.1.1.length<=1048576/\0<=x.1.2.1/\x.1.2.1<=x.1.1.length/\x.2<=x.1.1.length):Tot (jU x) (λr:Sum F0 (F0×DW)=>match r with| .inl q=>q=x.1/\4<=x.1.1.length| .inr q=>q.1.1=x.1.1/\q.1.2.1=x.1.2.1/\q.2=[]):=by
 refine E_ (R:=λr:Sum F0 (F0×DW)=>match r with| .inl q=>q=x.1/\4<=x.1.1.length| .inr q=>q.1.1=x.1.1/\q.1.2.1=x.1.2.1/\q.2=[]) (λy:F0×Int=>(0<=y.2/\y.2<=(4:Int)/\(4:Int)<=281474976710656/\y.1.1.length<=1048576/\0<=y.1.2.1/\y.1.2.1<=y.1.1.length/\y.2<=y.1.1.length)/\y.1=x.1) (λy:F0×Int=>((4:Int)-y.2).toNat) ?_ _ _ oi (by unfold fuel;grind);rintro next ⟨r_0,t7⟩ h hn
 try dsimp only at h hn
 unfold xI
 repeat' first
  |(with_reducible first|refine DZ.2 ⟨λ_=>?_,λ_=>?_⟩|refine DX.2 ?_|refine DY.2 ?_|refine HD.2 ⟨?_,?_⟩|refine(rE _ ?_).mono λ_ _=>?_|refine(S1 _ ?_).mono λ_ _=>?_|refine hn _ ?_ ?_)
  |dsimp only
 all_goals exact qj
theorem ANJ(x:DW×Int×Int)(h:x.1.length<=1048576/\0<=x.2.1/\x.2.1<=x.1.length):Tot (jV x) (λr:DW×Int×Int=>r.1=x.1/\r.2.2=x.2.2/\x.2.1<=r.2.1/\r.2.1<=r.1.length):=by
 refine E_ (R:=λr:DW×Int×Int=>r.1=x.1/\r.2.2=x.2.2/\x.2.1<=r.2.1/\r.2.1<=r.1.length) (λy:DW×Int×Int=>(y.1.length<=1048576/\0<=y.2.1/\y.2.1<=y.1.length)/\y.1=x.1/\y.2.2=x.2.2/\x.2.1<=y.2.1) (λy:DW×Int×Int=>(y.1.length-y.2.1).toNat) ?_ _ _ oi (by unfold fuel;grind);rintro next r_0 h hn
 try dsimp only at h hn
 unfold xJ
 repeat' first
  |(with_reducible first|refine DZ.2 ⟨λ_=>?_,λ_=>?_⟩|refine DX.2 ?_|refine DY.2 ?_|refine EZ.2 ⟨?_,λ_ _=>?_⟩|refine(A6_ _ ?_).mono λ_ _=>?_|refine hn _ ?_ ?_)
  |dsimp only
 all_goals exact qj
theorem ANK(x:F0×Bool)(h:x.1.1.length<=1048576/\0<=x.1.2.1/\x.1.2.1<=x.1.1.length/\(x.2=true->x.1.2.1<x.1.1.length)):Tot (YY x) (λr:DW×Int×Int=>r.1=x.1.1/\x.1.2.1<=r.2.1/\r.2.1<=r.1.length):=by
 obtain⟨r_0,t45⟩:=x;try dsimp only at h ⊢
 unfold YY
 repeat' first
  |(with_reducible first|refine DZ.2 ⟨λ_=>?_,λ_=>?_⟩|refine DX.2 ?_|refine DY.2 ?_|refine(ANJ _ ?_).mono λ_ _=>?_)
  |dsimp only
 all_goals exact qj
theorem ANL(x:F0×Bool)(h:x.1.1.length<=1048576/\0<=x.1.2.1/\x.1.2.1<=x.1.1.length):Tot (YZ x) (λr:DW×F0=>r.2.1=x.1.1/\0<=r.2.2.1/\r.2.2.1<=x.1.1.length/\r.1.length<=x.1.1.length):=by
 obtain⟨r_0,star_1⟩:=x;try dsimp only at h ⊢
 unfold YZ
 repeat' first
  |(with_reducible first|refine DZ.2 ⟨λ_=>?_,λ_=>?_⟩|refine DX.2 ?_|refine DY.2 ?_|refine HD.2 ⟨?_,?_⟩|refine(ANI _ ?_).mono λ_ _=>?_|refine(S2 _ ?_).mono λ_ _=>?_|refine(ANK _ ?_).mono λ_ _=>?_|refine(S1 _ ?_).mono λ_ _=>?_|refine(rE _ ?_).mono λ_ _=>?_)
  |split
  |dsimp only
 all_goals exact qj
theorem ANM(x:Int)(h:0<=x/\x<=255):Tot (Y_ x) (λr:Int=>-1<=r/\r<=15):=by
 unfold Y_
 repeat' first
  |(with_reducible first|refine DZ.2 ⟨λ_=>?_,λ_=>?_⟩|refine DY.2 ?_)
  |dsimp only
 all_goals exact qj
theorem ANN(x:F0×Int×Int×Bool)(h:x.1.1.length<=1048576/\0<=x.1.2.1/\x.1.2.1<=x.1.1.length/\1<=x.2.1/\x.2.1<=2/\x.2.2.1= -1/\(x.2.2.2=true->x.1.2.1+x.2.1<x.1.1.length)):Tot (Z0 x) (λr:F0×Int=>r.1=x.1/\(x.2.2.2=true\/r.2= -1)):=by
 obtain⟨r_0,i_6,d_7,t63⟩:=x;try dsimp only at h ⊢
 unfold Z0
 repeat' first
  |(with_reducible first|refine DZ.2 ⟨λ_=>?_,λ_=>?_⟩|refine DX.2 ?_|refine DY.2 ?_|refine EZ.2 ⟨?_,λ_ _=>?_⟩|refine(ANM _ ?_).mono λ_ _=>?_)
  |dsimp only
 all_goals exact qj
theorem ANO(x:F0×Int×Int)(h:x.1.1.length<=1048576/\0<=x.1.2.1/\x.1.2.1<=x.1.1.length/\1<=x.2.2/\x.2.2<=3/\x.1.2.1+x.2.2<=x.1.1.length):Tot (jW x) (λr:Sum (F0×Int) (F0×Int×Bool)=>match r with| .inl q=>q.1=x.1/\x.1.2.1+3<=x.1.1.length| .inr q=>q.1.1=x.1.1/\q.1.2.1=x.1.2.1/\q.2.2=false):=by
 refine E_ (R:=λr:Sum (F0×Int) (F0×Int×Bool)=>match r with| .inl q=>q.1=x.1/\x.1.2.1+3<=x.1.1.length| .inr q=>q.1.1=x.1.1/\q.1.2.1=x.1.2.1/\q.2.2=false) (λy:F0×Int×Int=>(y.1.1.length<=1048576/\0<=y.1.2.1/\y.1.2.1<=y.1.1.length/\1<=y.2.2/\y.2.2<=3/\y.1.2.1+y.2.2<=y.1.1.length)/\y.1=x.1) (λy:F0×Int×Int=>(3-y.2.2).toNat) ?_ _ _ oi (by unfold fuel;grind);rintro next ⟨r_0,n_5,i_6⟩ h hn
 try dsimp only at h hn
 unfold xK
 repeat' first
  |(with_reducible first|refine DZ.2 ⟨λ_=>?_,λ_=>?_⟩|refine DX.2 ?_|refine DY.2 ?_|refine(ANN _ ?_).mono λ_ _=>?_|refine(S1 _ ?_).mono λ_ _=>?_|refine hn _ ?_ ?_)
  |dsimp only
 all_goals exact qj
theorem ANP(x:DW×Int×Int)(h:x.1.length<=1048576/\0<=x.2.1/\x.2.1<=x.1.length):Tot (Z1 x) (λr:Int×Bool×F0=>r.2.2.1=x.1/\x.2.1<=r.2.2.2.1/\r.2.2.2.1<=x.1.length/\(r.2.1=true->x.2.1<r.2.2.2.1)):=by
 unfold Z1
 repeat' first
  |(with_reducible first|refine DZ.2 ⟨λ_=>?_,λ_=>?_⟩|refine DX.2 ?_|refine DY.2 ?_|refine EZ.2 ⟨?_,λ_ _=>?_⟩|refine(PE _ ?_).mono λ_ _=>?_|refine(ANO _ ?_).mono λ_ _=>?_)
  |split
  |dsimp only
 all_goals exact qj
theorem ANQ(x:F0×(List Int))(h:x.1.1.length<=1048576/\0<=x.1.2.1/\x.1.2.1<=x.1.1.length/\x.2.length<=x.1.2.1):Tot (jX x) (λr:F0×(List Int)=>r.1.1=x.1.1/\x.1.2.1<=r.1.2.1/\r.1.2.1<=x.1.1.length/\r.2.length<=r.1.2.1):=by
 refine E_ (R:=λr:F0×(List Int)=>r.1.1=x.1.1/\x.1.2.1<=r.1.2.1/\r.1.2.1<=x.1.1.length/\r.2.length<=r.1.2.1) (λy:F0×(List Int)=>(y.1.1.length<=1048576/\0<=y.1.2.1/\y.1.2.1<=y.1.1.length/\y.2.length<=y.1.2.1)/\y.1.1=x.1.1/\x.1.2.1<=y.1.2.1) (λy:F0×(List Int)=>(y.1.1.length-y.1.2.1).toNat) ?_ _ _ oi (by unfold fuel;grind);rintro next ⟨r_0,b_3⟩ h hn
 try dsimp only at h hn
 unfold xL
 repeat' first
  |(with_reducible first|refine DZ.2 ⟨λ_=>?_,λ_=>?_⟩|refine DX.2 ?_|refine DY.2 ?_|refine FU.2 ⟨?_,?_⟩|refine(ANP _ ?_).mono λ_ _=>?_|refine hn _ ?_ ?_)
  |dsimp only
 all_goals exact qj
theorem eJ(x:DW×Int×Int)(h:x.1.length<=1048576/\0<=x.2.1/\x.2.1<=x.1.length):Tot (OQ x) (λr:DW×F0=>r.2.1=x.1/\x.2.1<=r.2.2.1/\r.2.2.1<=x.1.length/\r.1.length<=x.1.length):=by
 unfold OQ
 repeat' first
  |(with_reducible first|refine DZ.2 ⟨λ_=>?_,λ_=>?_⟩|refine DX.2 ?_|refine DY.2 ?_|refine EZ.2 ⟨?_,λ_ _=>?_⟩|refine FS.2 ⟨?_,?_⟩|refine(ANQ _ ?_).mono λ_ _=>?_|refine(S1 _ ?_).mono λ_ _=>?_)
  |dsimp only
 all_goals exact qj
theorem ANR(x:F0×(List DW))(h:x.1.1.length<=1048576/\0<=x.1.2.1/\x.1.2.1<=x.1.1.length/\x.2.length<=x.1.2.1+1/\∀s∈x.2,s.length<=1048576):Tot (jY x) (λr:F0×(List DW)=>r.1.1=x.1.1/\x.1.2.1<=r.1.2.1/\r.1.2.1<=x.1.1.length/\x.2.length<=r.2.length/\r.2.length<=1048577/\∀s∈r.2,s.length<=1048576):=by
 refine E_ (R:=λr:F0×(List DW)=>r.1.1=x.1.1/\x.1.2.1<=r.1.2.1/\r.1.2.1<=x.1.1.length/\x.2.length<=r.2.length/\r.2.length<=1048577/\∀s∈r.2,s.length<=1048576) (λy:F0×(List DW)=>(y.1.1.length<=1048576/\0<=y.1.2.1/\y.1.2.1<=y.1.1.length/\y.2.length<=y.1.2.1+1/\∀s∈y.2,s.length<=1048576)/\y.1.1=x.1.1/\x.1.2.1<=y.1.2.1/\x.2.length<=y.2.length) (λy:F0×(List DW)=>(y.1.1.length-y.1.2.1).toNat) ?_ _ _ oi (by unfold fuel;grind);rintro next ⟨r_0,l_3⟩ h hn
 try dsimp only at h hn
 unfold xM
 repeat' first
  |(with_reducible first|refine DZ.2 ⟨λ_=>?_,λ_=>?_⟩|refine DX.2 ?_|refine DY.2 ?_|refine FU.2 ⟨?_,?_⟩|refine(S2 _ ?_).mono λ_ _=>?_|refine(eJ _ ?_).mono λ_ _=>?_|refine hn _ ?_ ?_)
  |dsimp only
 all_goals exact qj
theorem A6a(x:DW×Int×Int)(h:x.1.length<=1048576/\0<=x.2.1/\x.2.1<=x.1.length):Tot (U7 x) (λr:(List DW)×F0=>r.2.1=x.1/\x.2.1<=r.2.2.1/\r.2.2.1<=x.1.length/\1<=r.1.length/\r.1.length<=1048577/\∀s∈r.1,s.length<=1048576):=by
 unfold U7
 repeat' first
  |(with_reducible first|refine DX.2 ?_|refine DY.2 ?_|refine(eJ _ ?_).mono λ_ _=>?_|refine(ANR _ ?_).mono λ_ _=>?_)
  |dsimp only
 all_goals exact qj
theorem A6b(x:Int×Bool)(h:True):Tot (U8 x) (λr:Bool=>True):=by
 obtain⟨c_0,first_1⟩:=x;try dsimp only at h ⊢
 unfold U8
 repeat' first
  |(with_reducible first|refine DZ.2 ⟨λ_=>?_,λ_=>?_⟩|refine DY.2 ?_)
  |dsimp only
 all_goals exact qj
theorem ANS(x:F0×Int)(h:x.1.1.length<=1048576/\0<=x.1.2.1/\x.1.2.1<=x.1.1.length):Tot (jZ x) (λr:DW×Int×Int=>r.1=x.1.1/\x.1.2.1<=r.2.1/\r.2.1<=x.1.1.length):=by
 refine E_ (R:=λr:DW×Int×Int=>r.1=x.1.1/\x.1.2.1<=r.2.1/\r.2.1<=x.1.1.length) (λy:F0×Int=>(y.1.1.length<=1048576/\0<=y.1.2.1/\y.1.2.1<=y.1.1.length)/\y.1.1=x.1.1/\y.1.2.2=x.1.2.2/\x.1.2.1<=y.1.2.1) (λy:F0×Int=>(y.1.1.length-y.1.2.1).toNat) ?_ _ _ oi (by unfold fuel;grind);rintro next ⟨r_0,from_3⟩ h hn
 try dsimp only at h hn
 unfold xN
 repeat' first
  |(with_reducible first|refine DZ.2 ⟨λ_=>?_,λ_=>?_⟩|refine DX.2 ?_|refine DY.2 ?_|refine EZ.2 ⟨?_,λ_ _=>?_⟩|refine(A6b _ ?_).mono λ_ _=>?_|refine hn _ ?_ ?_)
  |dsimp only
 all_goals exact qj
theorem ANT(x:DW×Int×Int)(h:x.1.length<=1048576/\0<=x.2.1/\x.2.1<=x.1.length):Tot (Z2 x) (λr:(DW×DW)×F0=>r.2.1=x.1/\x.2.1<=r.2.2.1/\r.2.2.1<=x.1.length/\r.1.1.length<=1048576/\r.1.2.length<=1048576):=by
 unfold Z2
 repeat' first
  |(with_reducible first|refine DZ.2 ⟨λ_=>?_,λ_=>?_⟩|refine DX.2 ?_|refine DY.2 ?_|refine HD.2 ⟨?_,?_⟩|refine(ANS _ ?_).mono λ_ _=>?_|refine(S2 _ ?_).mono λ_ _=>?_|refine(S1 _ ?_).mono λ_ _=>?_|refine(eJ _ ?_).mono λ_ _=>?_)
  |dsimp only
 all_goals exact qj
theorem ANU(x:F0×HF×Bool)(h:x.1.1.length<=1048576/\0<=x.1.2.1/\x.1.2.1<=x.1.1.length/\(x.2.2=true->x.1.2.1<x.1.1.length)/\x.2.1.2.2.2.1.length<=1048576):Tot (Z3 x) (λr:F0×HF=>r.1.1=x.1.1/\x.1.2.1<=r.1.2.1/\r.1.2.1<=x.1.1.length/\r.2.1=x.2.1.1/\r.2.2.1=x.2.1.2.1/\r.2.2.2.1=x.2.1.2.2.1/\r.2.2.2.2.1.length<=1048576/\r.2.2.2.2.2=x.2.1.2.2.2.2):=by
 obtain⟨r_0,p_3,t40⟩:=x;try dsimp only at h ⊢
 unfold Z3
 repeat' first
  |(with_reducible first|refine DZ.2 ⟨λ_=>?_,λ_=>?_⟩|refine DX.2 ?_|refine DY.2 ?_|refine(eJ _ ?_).mono λ_ _=>?_)
  |dsimp only
 all_goals exact qj
theorem ANV(x:F0×HF×Int)(h:x.1.1.length<=1048576/\0<=x.1.2.1/\x.1.2.1<=x.1.1.length/\x.2.1.2.2.2.2.1.length<=x.1.2.1/\x.2.2≠0/\∀q∈x.2.1.2.2.2.2.1,q.1.length<=1048576/\q.2.length<=1048576):Tot (j_ x) (λr:F0×HF=>r.1.1=x.1.1/\x.1.2.1<=r.1.2.1/\r.1.2.1<=x.1.1.length/\r.2.1=x.2.1.1/\r.2.2.1=x.2.1.2.1/\r.2.2.2.1=x.2.1.2.2.1/\r.2.2.2.2.1=x.2.1.2.2.2.1/\r.2.2.2.2.2.2=x.2.1.2.2.2.2.2/\r.2.2.2.2.2.1.length<=1048576/\∀q∈r.2.2.2.2.2.1,q.1.length<=1048576/\q.2.length<=1048576):=by
 refine E_ (R:=λr:F0×HF=>r.1.1=x.1.1/\x.1.2.1<=r.1.2.1/\r.1.2.1<=x.1.1.length/\r.2.1=x.2.1.1/\r.2.2.1=x.2.1.2.1/\r.2.2.2.1=x.2.1.2.2.1/\r.2.2.2.2.1=x.2.1.2.2.2.1/\r.2.2.2.2.2.2=x.2.1.2.2.2.2.2/\r.2.2.2.2.2.1.length<=1048576/\∀q∈r.2.2.2.2.2.1,q.1.length<=1048576/\q.2.length<=1048576) (λy:F0×HF×Int=>(y.1.1.length<=1048576/\0<=y.1.2.1/\y.1.2.1<=y.1.1.length/\y.2.1.2.2.2.2.1.length<=y.1.2.1/\y.2.2≠0/\∀q∈y.2.1.2.2.2.2.1,q.1.length<=1048576/\q.2.length<=1048576)/\y.1.1=x.1.1/\y.2.1.1=x.2.1.1/\y.2.1.2.1=x.2.1.2.1/\y.2.1.2.2.1=x.2.1.2.2.1/\y.2.1.2.2.2.1=x.2.1.2.2.2.1/\y.2.1.2.2.2.2.2=x.2.1.2.2.2.2.2/\x.1.2.1<=y.1.2.1) (λy:F0×HF×Int=>(y.1.1.length-y.1.2.1).toNat) ?_ _ _ oi (by unfold fuel;grind);rintro next ⟨r_0,p_3,sign_5⟩ h hn
 try dsimp only at h hn
 unfold xO
 repeat' first
  |(with_reducible first|refine DZ.2 ⟨λ_=>?_,λ_=>?_⟩|refine DX.2 ?_|refine DY.2 ?_|refine FU.2 ⟨?_,?_⟩|refine(S2 _ ?_).mono λ_ _=>?_|refine(ANT _ ?_).mono λ_ _=>?_|refine hn _ ?_ ?_)
  |dsimp only
 all_goals exact qj
theorem rF{k:IntKind}{a b:Int}{Q:Int->Prop}:Tot (div? k a b) Q<->b≠0/\Q (k.wrap (a.tdiv b)):=by
 unfold div? Tot;by_cases h:b=0
 .subst h;simp
 .have e:(b==0)=false:=by simpa using h
  rw[e];simp[h]
theorem A6c{a b:Int}{Q:Int->Prop}:Tot (mod? a b) Q<->b≠0/\Q (a.tmod b):=by
 unfold mod? Tot;by_cases h:b=0
 .subst h;simp
 .have e:(b==0)=false:=by simpa using h
  rw[e];simp[h]
theorem ANW{a:Int}(h0:0<=a)(h1:a<=255):0<=a.tdiv 16/\a.tdiv 16<=15:=by rw[Int.tdiv_eq_ediv_of_nonneg h0];omega
theorem ANX{a:Int}(h0:0<=a)(h1:a<=255):0<=a.tmod 16/\a.tmod 16<=15:=by rw[Int.tmod_eq_emod_of_nonneg h0];omega
theorem ANY(b:UInt8):0<=((b.toNat:Int)).tdiv 16/\((b.toNat:Int)).tdiv 16<=15:=ANW o5 (by have:=E6 b;omega)
theorem ANZ(b:UInt8):0<=((b.toNat:Int)).tmod 16/\((b.toNat:Int)).tmod 16<=15:=ANX o5 (by have:=E6 b;omega)
theorem EC{α:Type}{l:List α}{i:Nat}{d:α}:i<l.length->l.getD i d∈l:=λh=>by
 rw[AG,A0 h];exact BM h
theorem ED{α:Type}{l:List α}{i:Nat}{a b:α}:a∈l.set i b->a∈l\/a=b:=List.mem_or_eq_of_mem_set
theorem A6d(x:DW×DW)(h:x.1.length<4294967281/\1<=x.2.length):Tot (strings_Split x) (λr:List DW=>r.length<=x.1.length+2/\∀s∈r,s.length<=x.1.length):=by
 unfold strings_Split HQ;rw[A7 h];refine DY.2 ⟨?_,?_⟩
 .rw[B2];have h1:=Lib.splitB_length_le ⟨x.2.toArray⟩ 0 (Lib.countB ⟨x.1.toArray⟩ ⟨x.2.toArray⟩) ⟨x.1.toArray⟩;have h2:Lib.countB ⟨x.1.toArray⟩ ⟨x.2.toArray⟩<=x.1.length+1:=Lib.count_le x.1 x.2;omega
 .intro s hs;obtain⟨b,hb,rfl⟩:=C2.1 hs
  have:∀(k:Nat) (s:ByteArray),∀y∈Lib.splitB ⟨x.2.toArray⟩ 0 k s,y.size<=s.size:=by
   intro k;induction k with
   |zero=>intro s y hy;rw[Lib.splitB_zero,AN]at hy;subst hy;exact AB _
   |succ k ih=>
    intro s y hy;unfold Lib.splitB at hy;split at hy
    .rw[AN]at hy;subst hy;exact AB _
    .rcases A_.1 hy with rfl|hy
     .rw[C_];omega
     .have:=ih _ y hy;rw[C_]at this;omega
  have:=this _ _ b hb;have e:(⟨x.1.toArray⟩:ByteArray).size=x.1.length:=rfl;rw[e]at this;exact this
theorem A6e(x:List Int)(h:True):Tot (YU x) (λr:List Int=>r=x):=DY.2 rfl
theorem PF(x:List Int)(h:True):Tot (MO x) (λr:DW=>r.length=x.length):=DY.2 (E7 x)
theorem AN_(x:F0×HF×Bool)(h:x.1.1.length<=1048576/\0<=x.1.2.1/\x.1.2.1<=x.1.1.length/\(x.2.2=true->x.1.2.1<x.1.1.length)/\x.2.1.2.2.2.2.2.length<=1048576):Tot (Z4 x) (λr:F0×HF=>r.1.1=x.1.1/\x.1.2.1<=r.1.2.1/\r.1.2.1<=x.1.1.length/\r.2.1=x.2.1.1/\r.2.2.1=x.2.1.2.1/\r.2.2.2.1=x.2.1.2.2.1/\r.2.2.2.2.1=x.2.1.2.2.2.1/\r.2.2.2.2.2.1=x.2.1.2.2.2.2.1/\r.2.2.2.2.2.2.length<=1099513724929):=by
 obtain⟨r_0,p_3,t97⟩:=x;try dsimp only at h ⊢
 unfold Z4
 repeat' first
  |(with_reducible first|refine DZ.2 ⟨λ_=>?_,λ_=>?_⟩|refine DX.2 ?_|refine DY.2 ?_|refine(A6a _ ?_).mono λ_ _=>?_|refine(S0 _ ?_).mono λ_ _=>?_)
  |dsimp only
 all_goals grind[E8,E7,EB,E3,E0,EA,E9,E6,EC,ED,ANF]
theorem A6f(x:Unit)(h:True):Tot (ZD x) (λr=>r.length=5/\∀z∈r,z.1.length<=20):=⟨_,rfl,rfl,od⟩
theorem qk{p:Prop}(h:p:=by grind[E8,E7,EB,E3,E0,EA,E9,E6,EC,ED]):p:=h
theorem ANa(x:DW×(List OO)×Int)(h:0<=x.2.2/\x.2.2<=(5:Int)/\x.2.1.length=(5:Int)/\(5:Int)<=281474976710656/\∀z∈x.2.1,z.1.length<=20):Tot (kO x) (λr:Sum (Unit) (Int)=>match r with| .inl _=>True| .inr r=>0<=r/\r<5/\x.1.length<=20):=by
 refine E_ (R:=λr:Sum (Unit) (Int)=>match r with| .inl _=>True| .inr r=>0<=r/\r<5/\x.1.length<=20) (λy:DW×(List OO)×Int=>(0<=y.2.2/\y.2.2<=(5:Int)/\y.2.1.length=(5:Int)/\(5:Int)<=281474976710656/\∀z∈y.2.1,z.1.length<=20)/\y.1=x.1) (λy:DW×(List OO)×Int=>((5:Int)-y.2.2).toNat) ?_ _ _ oi (by unfold fuel;grind);rintro next ⟨kind_0,t5,t6⟩ h hn
 try dsimp only at h hn
 unfold yA
 repeat' first
  |(with_reducible first|refine DZ.2 ⟨λ_=>?_,λ_=>?_⟩|refine DX.2 ?_|refine DY.2 ?_|refine EZ.2 ⟨?_,λ_ _=>?_⟩|refine hn _ ?_ ?_)
  |dsimp only
 all_goals exact qk
theorem ANb(x:DW)(h:True):Tot (ZE x) (λr:Int=>r<5/\(0<=r->x.length<=20)):=by
 unfold ZE
 repeat' first
  |(with_reducible first|refine DX.2 ?_|refine DY.2 ?_|refine(A6f _ ?_).mono λ_ _=>?_|refine(ANa _ ?_).mono λ_ _=>?_)
  |split
  |dsimp only
 all_goals exact qk
theorem rG(x:DW)(h:True):Tot (RC x) (λr:OO×Int=>r.2=0->x.length<=20):=by
 unfold RC
 repeat' first
  |(with_reducible first|refine DZ.2 ⟨λ_=>?_,λ_=>?_⟩|refine DX.2 ?_|refine DY.2 ?_|refine EZ.2 ⟨?_,λ_ _=>?_⟩|refine(ANb _ ?_).mono λ_ _=>?_|refine(A6f _ ?_).mono λ_ _=>?_)
  |dsimp only
 all_goals exact qk
theorem ANc(x:(List DW)×Int×Int)(h:0<=x.2.2/\x.2.2<=x.2.1/\x.2.1=x.1.length/\x.2.1<=281474976710656):Tot (kP x) (λr:Sum (Unit) (Bool)=>match r with| .inl _=>(∀j:Nat,x.2.2<=j->∀s,x.1[j]?=some s->s.length<=200)| .inr r=>r=true):=by
 refine E_ (R:=λr:Sum (Unit) (Bool)=>match r with| .inl _=>(∀j:Nat,x.2.2<=j->∀s,x.1[j]?=some s->s.length<=200)| .inr r=>r=true) (λy:(List DW)×Int×Int=>(0<=y.2.2/\y.2.2<=y.2.1/\y.2.1=y.1.length/\y.2.1<=281474976710656)/\y.1=x.1/\(∀j:Nat,x.2.2<=j->(j:Int)<y.2.2->∀s,y.1[j]?=some s->s.length<=200)/\x.2.2<=y.2.2) (λy:(List DW)×Int×Int=>(y.2.1-y.2.2).toNat) ?_ _ _ oi (by unfold fuel;grind);rintro next ⟨t15,t16,t17⟩ h hn
 try dsimp only at h hn
 unfold yB
 repeat' first
  |(with_reducible first|refine DZ.2 ⟨λ_=>?_,λ_=>?_⟩|refine DX.2 ?_|refine DY.2 ?_|refine EZ.2 ⟨?_,λ_ _=>?_⟩|refine hn _ ?_ ?_)
  |dsimp only
 all_goals exact qk
theorem A6g{α:Type}{l:List α}{P:α->Prop}(h:∀j:Nat,(0:Int)<=j->∀s,l[j]?=some s->P s):∀s∈l,P s:=λs hs=>let ⟨j,hj⟩:=C9 hs;h j (BN j) s hj
theorem ANd(x:D_×Int×Int)(h:0<=x.2.2/\x.2.2<=x.2.1/\x.2.1=x.1.length/\x.2.1<=281474976710656):Tot (kQ x) (λr:Sum (Unit) (Bool)=>match r with| .inl _=>(∀j:Nat,x.2.2<=j->∀s,x.1[j]?=some s->s.1.length<=200/\s.2.length<=200)| .inr r=>r=true):=by
 refine E_ (R:=λr:Sum (Unit) (Bool)=>match r with| .inl _=>(∀j:Nat,x.2.2<=j->∀s,x.1[j]?=some s->s.1.length<=200/\s.2.length<=200)| .inr r=>r=true) (λy:D_×Int×Int=>(0<=y.2.2/\y.2.2<=y.2.1/\y.2.1=y.1.length/\y.2.1<=281474976710656)/\y.1=x.1/\(∀j:Nat,x.2.2<=j->(j:Int)<y.2.2->∀s,y.1[j]?=some s->s.1.length<=200/\s.2.length<=200)/\x.2.2<=y.2.2) (λy:D_×Int×Int=>(y.2.1-y.2.2).toNat) ?_ _ _ oi (by unfold fuel;grind);rintro next ⟨t26,t27,t28⟩ h hn
 try dsimp only at h hn
 unfold yC
 repeat' first
  |(with_reducible first|refine DZ.2 ⟨λ_=>?_,λ_=>?_⟩|refine DX.2 ?_|refine DY.2 ?_|refine EZ.2 ⟨?_,λ_ _=>?_⟩|refine hn _ ?_ ?_)
  |dsimp only
 all_goals exact qk
theorem ANe(x:DW×DW×DW×DW×D_×DW)(h:x.2.2.2.2.1.length<=1048576):Tot (ZF x) (λr:Bool=>r=false->(x.2.1.length<=200/\x.2.2.1.length<=200/\x.2.2.2.1.length<=200/\x.2.2.2.2.2.length<=200/\x.2.2.2.2.1.length<=10/\∀q∈x.2.2.2.2.1,q.1.length<=200/\q.2.length<=200)):=by
 unfold ZF;dsimp only;refine DX.2 ((ANc _ oc).mono λr hr=>?_);rcases r with r|r
 .have hr:=A6g hr;refine DX.2 ((ANd _ o7).mono λr2 hr2=>?_);rcases r2 with r2|r2
  .have hr2:=A6g hr2;refine DY.2 λhe=>?_;have he:=AO he;refine⟨hr _ oc,hr _ oc,hr _ oc,hr _ oc,o5,hr2⟩
  .have hr2:r2=true:=hr2;subst hr2;exact DY.2 λhe=>by cases he
 .have hr:r=true:=hr;subst hr;exact DY.2 λhe=>by cases he
theorem rH(x:DW)(h:x.length<4294967281):Tot (RD x) (λr:List DW=>r.length<=x.length+2/\∀s∈r,s.length<=x.length):=by
 unfold RD
 repeat' first
  |(with_reducible first|refine DZ.2 ⟨λ_=>?_,λ_=>?_⟩|refine DX.2 ?_|refine DY.2 ?_|refine(A6d _ ?_).mono λ_ _=>?_)
  |dsimp only
 all_goals exact qk
theorem ANf(x:Bool×(List DW)×Int×Int)(h:0<=x.2.2.2/\x.2.2.2<=x.2.2.1/\x.2.2.1=x.2.1.length/\x.2.2.1<=281474976710656):Tot (kR x) (λr:Sum (Unit) (Bool)=>True):=by
 refine E_ (R:=λr:Sum (Unit) (Bool)=>True) (λy:Bool×(List DW)×Int×Int=>(0<=y.2.2.2/\y.2.2.2<=y.2.2.1/\y.2.2.1=y.2.1.length/\y.2.2.1<=281474976710656)) (λy:Bool×(List DW)×Int×Int=>(y.2.2.1-y.2.2.2).toNat) ?_ _ _ oi (by unfold fuel;grind);rintro next ⟨dots_1,t7,t8,t9⟩ h hn
 try dsimp only at h hn
 unfold yD
 repeat' first
  |(with_reducible first|refine DZ.2 ⟨λ_=>?_,λ_=>?_⟩|refine DX.2 ?_|refine DY.2 ?_|refine EZ.2 ⟨?_,λ_ _=>?_⟩|refine hn _ ?_ ?_)
  |dsimp only
 all_goals exact qk
theorem A6h(x:(List DW)×Bool)(h:x.1.length<=1048576):Tot (UB x) (λr:Bool=>True):=by
 obtain⟨l_0,dots_1⟩:=x;try dsimp only at h ⊢
 unfold UB
 repeat' first
  |(with_reducible first|refine DX.2 ?_|refine DY.2 ?_|refine(ANf _ ?_).mono λ_ _=>?_)
  |split
  |dsimp only
 all_goals exact qk
theorem ANg(x:DW×Int×Int)(h:0<=x.2.2/\x.2.2<=x.2.1/\x.2.1=x.1.length/\x.2.1<=281474976710656):Tot (kS x) (λr:Sum (Unit) (Bool)=>True):=by
 refine E_ (R:=λr:Sum (Unit) (Bool)=>True) (λy:DW×Int×Int=>(0<=y.2.2/\y.2.2<=y.2.1/\y.2.1=y.1.length/\y.2.1<=281474976710656)) (λy:DW×Int×Int=>(y.2.1-y.2.2).toNat) ?_ _ _ oi (by unfold fuel;grind);rintro next ⟨s_0,t5,t6⟩ h hn
 try dsimp only at h hn
 unfold yE
 repeat' first
  |(with_reducible first|refine DZ.2 ⟨λ_=>?_,λ_=>?_⟩|refine DX.2 ?_|refine DY.2 ?_|refine EZ.2 ⟨?_,λ_ _=>?_⟩|refine(A6b _ ?_).mono λ_ _=>?_|refine hn _ ?_ ?_)
  |dsimp only
 all_goals exact qk
theorem ANh(x:DW)(h:x.length<=1048576):Tot (ZG x) (λr:Bool=>True):=by
 unfold ZG
 repeat' first
  |(with_reducible first|refine DX.2 ?_|refine DY.2 ?_|refine(ANg _ ?_).mono λ_ _=>?_)
  |split
  |dsimp only
 all_goals exact qk
theorem ANi(x:D_×D_×Int×Int)
 (h:0<=x.2.2.2/\x.2.2.2<=x.2.2.1/\x.2.2.1=x.2.1.length/\x.2.2.1<=281474976710656/\x.1.length=x.2.1.length/\∀q∈x.2.1,q.1.length<=1048576):Tot (kT x) (λr=>True):=by
 refine E_ (λx:D_×D_×Int×Int=>0<=x.2.2.2/\x.2.2.2<=x.2.2.1/\x.2.2.1=x.2.1.length/\x.2.2.1<=281474976710656/\x.1.length=x.2.1.length/\∀q∈x.2.1,q.1.length<=1048576)
  (λx=>(x.2.2.1-x.2.2.2).toNat) ?_ _ _ h (by unfold fuel;omega)
 rintro next ⟨l_0,t5,t6,t7⟩ h hn
 dsimp only at h hn;obtain⟨h1,h2,h3,h4,h5,h6⟩:=h;unfold yF;dsimp only;refine DZ.2 ⟨λhc=>?_,λ_=>DY.2 trivial⟩;have hc:=A9 hc;refine DX.2 (EZ.2 ⟨⟨o5,o5⟩,λy hy=>?_⟩);refine DX.2 ((ANh _ (h6 _ (B5 hy))).mono λr _=>?_);refine DZ.2 ⟨λ_=>DY.2 trivial,λ_=>?_⟩;refine DZ.2 ⟨λ_=>DY.2 trivial,λ_=>?_⟩;refine DX.2 (Tot.mono (P:=λ_=>True) ?_ λy3 _=>?_)
 .refine DZ.2 ⟨λhd=>?_,λ_=>DY.2 trivial⟩;have hd:=A9 hd;rw[EW o5 o5];exact EZ.2 ⟨⟨o5,o5⟩,λ_ _=>trivial⟩
 .refine DZ.2 ⟨λ_=>DY.2 trivial,λ_=>?_⟩;rw[EW (n:=t7+1) o5 o5];exact hn _ ⟨o7,o7,h3,h4,h5,h6⟩ o7
theorem ANj(x:List (DW×DW))(h:x.length<=1048576/\∀q∈x,q.1.length<=1048576):Tot (ZH x) (λr:Int=>True):=by
 unfold ZH
 repeat' first
  |(with_reducible first|refine DX.2 ?_|refine DY.2 ?_|refine(ANi _ ?_).mono λ_ _=>?_)
  |split
  |dsimp only
 all_goals exact qk
theorem ANk(x:DW×Int×Int)(h:0<=x.2.2/\x.2.2<=x.2.1/\x.2.1=x.1.length/\x.2.1<=281474976710656):Tot (kU x) (λr:Sum (Unit) (Bool)=>True):=by
 refine E_ (R:=λr:Sum (Unit) (Bool)=>True) (λy:DW×Int×Int=>(0<=y.2.2/\y.2.2<=y.2.1/\y.2.1=y.1.length/\y.2.1<=281474976710656)) (λy:DW×Int×Int=>(y.2.1-y.2.2).toNat) ?_ _ _ oi (by unfold fuel;grind);rintro next ⟨s_0,t5,t6⟩ h hn
 try dsimp only at h hn
 unfold yG
 repeat' first
  |(with_reducible first|refine DZ.2 ⟨λ_=>?_,λ_=>?_⟩|refine DX.2 ?_|refine DY.2 ?_|refine EZ.2 ⟨?_,λ_ _=>?_⟩|refine hn _ ?_ ?_)
  |dsimp only
 all_goals exact qk
theorem A6i(x:DW)(h:x.length<=1048576):Tot (UC x) (λr:Bool=>True):=by
 unfold UC
 repeat' first
  |(with_reducible first|refine DX.2 ?_|refine DY.2 ?_|refine(ANk _ ?_).mono λ_ _=>?_)
  |split
  |dsimp only
 all_goals exact qk
theorem ANl(x:(List DW)×Int×Int)(h:0<=x.2.2/\x.2.2<=x.2.1/\x.2.1=x.1.length/\x.2.1<=281474976710656/\∀z∈x.1,z.length<=1048576):Tot (kV x) (λr:Sum (Unit) (Int)=>∀z,r=.inr z->z=8):=by
 refine E_ (R:=λr:Sum (Unit) (Int)=>∀z,r=.inr z->z=8) (λy:(List DW)×Int×Int=>(0<=y.2.2/\y.2.2<=y.2.1/\y.2.1=y.1.length/\y.2.1<=281474976710656/\∀z∈y.1,z.length<=1048576)) (λy:(List DW)×Int×Int=>(y.2.1-y.2.2).toNat) ?_ _ _ oi (by unfold fuel;grind);rintro next ⟨t75,t76,t77⟩ h hn
 try dsimp only at h hn
 unfold yH
 repeat' first
  |(with_reducible first|refine DZ.2 ⟨λ_=>?_,λ_=>?_⟩|refine DX.2 ?_|refine DY.2 ?_|refine EZ.2 ⟨?_,λ_ _=>?_⟩|refine(A6i _ ?_).mono λ_ _=>?_|refine hn _ ?_ ?_)
  |dsimp only
 all_goals exact qk
theorem ANm(x:D_×Int×Int)(h:0<=x.2.2/\x.2.2<=x.2.1/\x.2.1=x.1.length/\x.2.1<=281474976710656/\∀z∈x.1,z.2.length<=1048576):Tot (kW x) (λr:Sum (Unit) (Int)=>∀z,r=.inr z->z=8):=by
 refine E_ (R:=λr:Sum (Unit) (Int)=>∀z,r=.inr z->z=8) (λy:D_×Int×Int=>(0<=y.2.2/\y.2.2<=y.2.1/\y.2.1=y.1.length/\y.2.1<=281474976710656/\∀z∈y.1,z.2.length<=1048576)) (λy:D_×Int×Int=>(y.2.1-y.2.2).toNat) ?_ _ _ oi (by unfold fuel;grind);rintro next ⟨t85,t86,t87⟩ h hn
 try dsimp only at h hn
 unfold yI
 repeat' first
  |(with_reducible first|refine DZ.2 ⟨λ_=>?_,λ_=>?_⟩|refine DX.2 ?_|refine DY.2 ?_|refine EZ.2 ⟨?_,λ_ _=>?_⟩|refine(A6i _ ?_).mono λ_ _=>?_|refine hn _ ?_ ?_)
  |dsimp only
 all_goals exact qk
theorem A6j(x:Int)(h:True):Tot (UE x) (λr:Bool=>True):=by
 unfold UE
 repeat' first
  |with_reducible refine DY.2 ?_
  |dsimp only
 all_goals exact qk
theorem VM(x:(List Int)×Int)(h:x.1.length<=1048576000):Tot (M8 x) (λr:Unit×(List Int)=>r.2.length=x.1.length+1):=by
 obtain⟨b_0,c_1⟩:=x;try dsimp only at h ⊢
 unfold M8
 repeat' first
  |(with_reducible first|refine DX.2 ?_|refine DY.2 ?_|refine FU.2 ⟨?_,?_⟩|refine(A6e _ ?_).mono λ_ _=>?_)
  |dsimp only
 all_goals exact qk
theorem VN(x:(List Int)×DW)(h:x.1.length<=1048576000/\x.2.length<=1048576000):Tot (NQ x) (λr:Int×Unit×(List Int)=>r.2.2.length=x.1.length+x.2.length):=by
 obtain⟨b_0,s_1⟩:=x;try dsimp only at h ⊢
 unfold NQ
 repeat' first
  |(with_reducible first|refine DX.2 ?_|refine DY.2 ?_|refine FU.2 ⟨?_,?_⟩|refine(A6e _ ?_).mono λ_ _=>?_)
  |dsimp only
 all_goals exact qk
theorem ANn(x:DW×(List Int)×Int×Int)(h:0<=x.2.2.2/\x.2.2.2<=x.2.2.1/\x.2.2.1=x.1.length/\x.2.1.length<=x.2.2.2/\x.1.length<=1048576):Tot (kX x) (λr:List Int=>r.length<=x.1.length):=by
 refine E_ (R:=λr:List Int=>r.length<=x.1.length) (λy:DW×(List Int)×Int×Int=>y.1=x.1/\0<=y.2.2.2/\y.2.2.2<=y.2.2.1/\y.2.2.1=y.1.length/\y.2.1.length<=y.2.2.2/\y.1.length<=1048576)
  (λy=>(y.2.2.1-y.2.2.2).toNat) ?_ _ _ ⟨rfl,h⟩ (by unfold fuel;omega)
 rintro next ⟨s_0,b_3,t6,t7⟩ h hn
 dsimp only at h hn;obtain⟨h0,h1,h2,h3,h4,h5⟩:=h;unfold yJ;dsimp only;refine DZ.2 ⟨λhc=>?_,λhc=>DY.2 ?_⟩
 .have hc:=A9 hc;have hw:i64.wrap (t7+1)=t7+1:=EW o5 o5;rw[hw];refine DX.2 (EZ.2 ⟨⟨h1,o5⟩,λb _=>?_⟩);refine DX.2 ((A6j _ trivial).mono λr _=>?_);refine DZ.2 ⟨λ_=>?_,λ_=>?_⟩
  .refine DX.2 (EZ.2 ⟨⟨h1,o5⟩,λb2 _=>?_⟩);refine DX.2 ((VM _ o7).mono λr2 hr=>?_);dsimp only at hr;exact hn _ ⟨h0,o7,o7,h3,o7,h5⟩ o7
  .refine DX.2 (Tot.mono (P:=λ_=>True) ?_ λb5 _=>?_)
   .refine DZ.2 ⟨λhd=>?_,λ_=>DY.2 trivial⟩
    have hd:t7≠0:=by
     rw[E0]at hd;simpa using hd
    rw[EW o5 o5];exact EZ.2 ⟨⟨o5,o5⟩,λ_ _=>trivial⟩
   .refine DX.2 (Tot.mono (P:=λ_=>True) ?_ λr6 _=>?_)
    .exact DZ.2 ⟨λ_=>(A6j _ trivial).mono λ_ _=>trivial,λ_=>DY.2 trivial⟩
    .refine DZ.2 ⟨λ_=>?_,λ_=>?_⟩
     .refine DX.2 ((VM _ o7).mono λr7 hr=>?_);dsimp only at hr;exact hn _ ⟨h0,o7,o7,h3,o7,h5⟩ o7
     .exact hn _ ⟨h0,o7,o7,h3,o7,h5⟩ o7
 .have hc:=AO hc;rw[<-h0];omega
theorem ANo(x:DW)(h:x.length<=1048576):Tot (ZI x) (λr:DW=>r.length<=x.length):=by
 unfold ZI
 repeat' first
  |(with_reducible first|refine DX.2 ?_|refine DY.2 ?_|refine(ANn _ ?_).mono λ_ _=>?_|refine(PF _ ?_).mono λ_ _=>?_)
  |dsimp only
 all_goals exact qk
theorem ANp(x:IZ×Bool)(h:x.1.2.1.length<=1048576/\x.1.2.2.1.length<=1048576):Tot (ZJ x) (λr:DW×DW×DW×DW×D_×DW=>r.1=x.1.1/\r.2.1.length=x.1.2.1.length/\r.2.2.1.length=x.1.2.2.1.length/\r.2.2.2=x.1.2.2.2):=by
 obtain⟨p_1,t12⟩:=x;try dsimp only at h ⊢
 unfold ZJ
 repeat' first
  |(with_reducible first|refine DZ.2 ⟨λ_=>?_,λ_=>?_⟩|refine DX.2 ?_|refine DY.2 ?_|refine(rE _ ?_).mono λ_ _=>?_)
  |dsimp only
 all_goals exact qk
theorem A6k{α:Type}{a b:List α}{Q:List α->Prop}(h1:a.length+b.length<=1099511627776)(h2:Q (a++b)):Tot (app? 48 a b) Q:=FU.2 ⟨o5,h2⟩
theorem A6l(x:DW×DW×DW×DW×D_×DW)(h:x.1.length<=20/\x.2.1.length<=200/\x.2.2.1.length<=200/\x.2.2.2.1.length<=200/\x.2.2.2.2.2.length<=200/\x.2.2.2.2.1.length<=10/\(∀q∈x.2.2.2.2.1,q.1.length<=200/\q.2.length<=200)):Tot (UF x) (λr:DW×DW×DW×DW×D_×DW=>r.1.length<=20/\r.2.1.length<=200/\r.2.2.1.length<=200/\r.2.2.2.1.length<=200/\r.2.2.2.2.2.length<=200/\r.2.2.2.2.1.length<=10/\(∀q∈r.2.2.2.2.1,q.1.length<=200/\q.2.length<=200)):=by
 obtain⟨g1,g2,g3,g4,g5,g6,g7⟩:=h;unfold UF;try dsimp only
 refine DX.2 ((rG _ trivial).mono λr1 _=>?_);refine DX.2 ((ANp _ ⟨o7,o7⟩).mono λr4 hr=>?_);try dsimp only at hr
 obtain⟨e1,e2,e3,e4⟩:=hr;have k1:r4.1.length<=20:=by rw[e1];exact g1
 have k4:r4.2.2.2.1.length<=200:=by rw[e4];exact g4
 have k5:r4.2.2.2.2.1.length<=10:=by rw[e4];exact g6
 have k6:r4.2.2.2.2.2.length<=200:=by rw[e4];exact g5
 have k7:∀q∈r4.2.2.2.2.1,q.1.length<=200/\q.2.length<=200:=by rw[e4];exact g7
 refine DZ.2 ⟨λ_=>?_,λ_=>?_⟩
 .refine DX.2 ((ANo _ o5).mono λr5 h5=>?_);refine DX.2 (A6k og ?_);exact DY.2 ⟨k1,o7,o7,k4,k6,by simpa using k5,by simpa using k7⟩
 .refine DX.2 (A6k og ?_);exact DY.2 ⟨k1,o7,o7,k4,k6,by simpa using k5,by simpa using k7⟩
theorem A6m(x:DW×DW×DW×DW×D_×DW)(h:x.2.2.2.2.1.length<=1048576):Tot (UD x) (λr:Int=>r=0->(x.1.length<=20/\x.2.1.length<=200/\x.2.2.1.length<=200/\x.2.2.2.1.length<=200/\x.2.2.2.2.2.length<=200/\x.2.2.2.2.1.length<=10/\(∀q∈x.2.2.2.2.1,q.1.length<=200/\q.2.length<=200))):=by
 unfold UD;try dsimp only
 refine DX.2 ((rG _ trivial).mono λr1 h1=>?_);refine DZ.2 ⟨λhc=>DY.2 λhe=>?_,λhc=>?_⟩
 .rw[E0,he]at hc;simp at hc
 have g1:x.1.length<=20:=h1 (by rw[E0]at hc;simpa using hc);refine DX.2 ((ANe _ h).mono λr2 h2=>?_);refine DZ.2 ⟨λ_=>DY.2 λhe=>absurd he od,λhc2=>?_⟩;obtain⟨a1,a2,a3,a4,a5,a6⟩:=h2 hc2;refine DZ.2 ⟨λ_=>DY.2 λhe=>absurd he od,λ_=>?_⟩;refine DX.2 ((rH _ o5).mono λr5 h5=>?_);refine DX.2 ((A6h _ (by(try dsimp only);omega)).mono λr6 _=>?_);refine DZ.2 ⟨λ_=>DY.2 λhe=>absurd he od,λ_=>?_⟩;refine DX.2 (Tot.mono (P:=λ_=>True) (DZ.2 ⟨λ_=>(PE _ (by(try dsimp only);omega)).mono λ_ _=>trivial,λ_=>DY.2 trivial⟩) λr7 _=>?_);refine DZ.2 ⟨λ_=>DY.2 λhe=>absurd he od,λ_=>?_⟩;refine DX.2 ((ANj _ ⟨o5,λq hq=>by have:=a6 q hq;omega⟩).mono λr9 _=>?_);refine DZ.2 ⟨λhc=>DY.2 λhe=>?_,λ_=>?_⟩
 .rw[E0,he]at hc;simp at hc
 refine DX.2 ((rH _ o5).mono λr10 h10=>?_);refine DX.2 ((A6h _ (by(try dsimp only);omega)).mono λr11 _=>?_);refine DZ.2 ⟨λ_=>DY.2 λhe=>absurd he od,λ_=>?_⟩;refine DX.2 ((ANl _ ⟨BF _,oc,rfl,oc,λz hz=>?_⟩).mono λr15 h15=>?_)
 .simp only[A_,List.not_mem_nil,or_false]at hz;rcases hz with rfl|rfl|rfl|rfl<;>omega
 rcases r15 with r15|r15
 .refine DX.2 ((ANm _ ⟨BF _,BN _,rfl,(by show((x.2.2.2.2.1.length:Nat):Int)<=281474976710656;omega),λz hz=>by have:=a6 z hz;omega⟩).mono λr19 h19=>?_);rcases r19 with r19|r19
  .exact DY.2 λ_=>⟨g1,a1,a2,a3,a4,a5,a6⟩
  .exact DY.2 λhe=>by have:=h19 _ rfl;omega
 .exact DY.2 λhe=>by have:=h15 _ rfl;omega
theorem A6n{q:Int}{Q:DW->Prop}(l:DW)(hl:l.length=16)(h0:0<=q)(h1:q<=15)(h:∀s:DW,s.length=1->Q s):Tot (cut? l q (u8.wrap (q+1))) Q:=by
 rw[rB o5 o5];refine HD.2 ⟨⟨h0,o5,o5⟩,h _ ?_⟩;rw[BP,B4];omega
theorem ANq(x:DW×(List Int)×Int×Int)(h:0<=x.2.2.2/\x.2.2.2<=x.2.2.1/\x.2.2.1=x.1.length/\x.2.1.length<=3*x.2.2.2/\x.1.length<=1048576):Tot (kZ x) (λr:List Int=>r.length<=3*x.1.length):=by
 refine E_ (R:=λr:List Int=>r.length<=3*x.1.length) (λy:DW×(List Int)×Int×Int=>y.1=x.1/\0<=y.2.2.2/\y.2.2.2<=y.2.2.1/\y.2.2.1=y.1.length/\y.2.1.length<=3*y.2.2.2/\y.1.length<=1048576)
  (λy=>(y.2.2.1-y.2.2.2).toNat) ?_ _ _ ⟨rfl,h⟩ (by unfold fuel;omega)
 rintro next ⟨s_0,b_3,t7,t8⟩ h hn
 dsimp only at h hn;obtain⟨h0,h1,h2,h3,h4,h5⟩:=h;unfold yL;dsimp only;refine DZ.2 ⟨λhc=>?_,λhc=>DY.2 ?_⟩
 .have hc:=A9 hc;have hw:i64.wrap (t8+1)=t8+1:=EW o5 o5;rw[hw];refine DX.2 (EZ.2 ⟨⟨h1,o5⟩,λb _=>?_⟩);refine DX.2 ((A6_ _ trivial).mono λr _=>?_);refine DX.2 (Tot.mono (P:=λ_=>True) (DZ.2 ⟨λ_=>(PE _ (by show 4<=1048576;decide)).mono λ_ _=>trivial,λ_=>DY.2 trivial⟩) λr4 _=>?_);refine DZ.2 ⟨λ_=>?_,λ_=>?_⟩
  .refine DX.2 ((VM _ o7).mono λr5 hr=>?_);dsimp only at hr;exact hn _ ⟨h0,o7,o7,h3,o7,h5⟩ o7
  .obtain⟨d1,d2⟩:=ANY b;obtain⟨m1,m2⟩:=ANZ b;have hq:u8.wrap ((b.toNat:Int).tdiv 16)=(b.toNat:Int).tdiv 16:=rB d1 o5;refine DX.2 (rF.2 ⟨od,?_⟩);refine DX.2 (rF.2 ⟨od,?_⟩);rw[hq];refine DX.2 (A6n _ rfl d1 d2 λs8 e8=>?_);refine DX.2 (FS.2 ⟨by simp[e8],?_⟩);refine DX.2 (A6c.2 ⟨od,?_⟩);refine DX.2 (A6c.2 ⟨od,?_⟩);refine DX.2 (A6n _ rfl m1 m2 λs12 e12=>?_);refine DX.2 (FS.2 ⟨by simp[e8,e12],?_⟩);have e13:([37]++s8++s12:DW).length=3:=by simp[e8,e12]
   refine DX.2 ((VN _ ⟨o7,by rw[e13];decide⟩).mono λr14 hr=>?_);rw[e13]at hr;dsimp only at hr;exact hn _ ⟨h0,o7,o7,h3,o7,h5⟩ o7
 .have hc:=AO hc;rw[<-h0];omega
theorem rI(x:DW)(h:x.length<=1048576):Tot (RE x) (λr:DW=>r.length<=3*x.length):=by
 unfold RE
 repeat' first
  |(with_reducible first|refine DX.2 ?_|refine DY.2 ?_|refine(ANq _ ?_).mono λ_ _=>?_|refine(PF _ ?_).mono λ_ _=>?_)
  |dsimp only
 all_goals exact qk
theorem ANr(x:(List DW)×(List DW)×Int×Int)(h:0<=x.2.2.2/\x.2.2.2<=x.2.2.1/\x.2.2.1=x.2.1.length/\x.2.2.1<=202/\x.1.length<=x.2.2.2/\(∀z∈x.2.1,z.length<=200)/\(∀z∈x.1,z.length<=600)):
 Tot (k_ x) (λr:List DW=>r.length<=202/\∀z∈r,z.length<=600):=by
 refine E_ (R:=λr:List DW=>r.length<=202/\∀z∈r,z.length<=600) (λx:(List DW)×(List DW)×Int×Int=>0<=x.2.2.2/\x.2.2.2<=x.2.2.1/\x.2.2.1=x.2.1.length/\x.2.2.1<=202/\x.1.length<=x.2.2.2/\(∀z∈x.2.1,z.length<=200)/\(∀z∈x.1,z.length<=600))
  (λy=>(y.2.2.1-y.2.2.2).toNat) ?_ _ _ h (by unfold fuel;omega)
 rintro next ⟨l_3,t7,t8,t9⟩ h hn
 dsimp only at h hn;obtain⟨h1,h2,h3,h4,h5,h6,h7⟩:=h;unfold yM;dsimp only;refine DZ.2 ⟨λhc=>?_,λhc=>DY.2 ⟨o5,h7⟩⟩;have hc:=A9 hc;have hw:i64.wrap (t9+1)=t9+1:=EW o5 o5;rw[hw];refine DX.2 (EZ.2 ⟨⟨h1,o5⟩,λy2 hy=>?_⟩);have hy:=h6 _ (B5 hy);refine DX.2 ((rI _ o5).mono λr3 hr=>?_);refine DX.2 (FU.2 ⟨og,?_⟩);refine hn _ ⟨o7,o7,h3,h4,og,h6,λz hz=>?_⟩ o7;rcases AL.1 hz with hz|hz
 .exact h7 z hz
 .rw[AN]at hz;subst hz;omega
theorem ANs(x:DW)(h:x.length<=200):Tot (ZK x) (λr:DW=>r.length<=121402):=by
 unfold ZK;refine DX.2 ((rH _ o5).mono λr1 h1=>?_);refine DX.2 ((ANr _ ⟨BF _,BN _,rfl,(by show((r1.length:Nat):Int)<=202;omega),oc,(λz hz=>by have:=h1.2 z hz;omega),(λz hz=>by cases hz)⟩).mono λr5 h5=>?_);have hj:=rD [47] 600 r5 h5.2;have hm:r5.length*(600+[(47:UInt8)].length)<=202*(600+1):=Nat.mul_le_mul h5.1 (AB _);refine DX.2 ((S0 _ ⟨by have:=h5.1;dsimp only;omega,o7⟩).mono λr6 h6=>DY.2 ?_);rw[h6];dsimp only;omega
theorem ANt(x:DW×DW×DW×DW×D_×DW)(h:x.1.length<=20/\x.2.1.length<=200/\x.2.2.1.length<=200/\x.2.2.2.1.length<=200/\x.2.2.2.2.2.length<=200/\x.2.2.2.2.1.length<=10/\(∀q∈x.2.2.2.2.1,q.1.length<=200/\q.2.length<=200)):Tot (ZL x) (λr:DW=>r.length<=200000):=by
 obtain⟨g1,g2,g3,g4,g5,g6,g7⟩:=h;unfold ZL;refine DX.2 (FS.2 ⟨og,?_⟩);refine DX.2 (FS.2 ⟨og,?_⟩);refine DZ.2 ⟨λ_=>?_,λ_=>?_⟩
 .refine DX.2 ((ANs _ g2).mono λr3 h3=>?_);refine DX.2 (FS.2 ⟨og,?_⟩);refine DX.2 (FS.2 ⟨og,?_⟩);refine DX.2 ((rI _ o5).mono λr6 h6=>?_);refine DX.2 (FS.2 ⟨og,?_⟩);exact DY.2 og
 .refine DX.2 ((rI _ o5).mono λr6 h6=>?_);refine DX.2 (FS.2 ⟨og,?_⟩);exact DY.2 og
theorem A6o(x:DW×DW×DW×DW×D_×DW)(h:x.2.2.2.2.1.length<=1048576):Tot (UH x) (λr:DW×Int=>r.1.length<=200000):=by
 unfold UH;refine DX.2 ((A6m _ h).mono λr1 h1=>?_);refine DZ.2 ⟨λ_=>DY.2 oc,λhc=>?_⟩;have h1:=h1 (by rw[E0]at hc;simpa using hc);refine DX.2 ((A6l _ h1).mono λr2 h2=>?_);exact DX.2 ((ANt _ h2).mono λr3 h3=>DY.2 h3)
theorem ANu(x:D_×Int×H1×Int)(h:(∀p,Tot (x.2.2.1 p) λ_=>True)/\0<=x.2.1/\x.2.1<=x.2.2.2/\x.2.2.2<x.1.length/\x.1.length<=1048576):
 Tot (k9 x) (λr:List (DW×DW)=>r.length=x.1.length/\∀q∈r,q∈x.1):=by
 refine E_ (R:=λr:List (DW×DW)=>r.length=x.1.length/\∀q∈r,q∈x.1) (λy:D_×Int×H1×Int=>(∀p,Tot (y.2.2.1 p) λ_=>True)/\0<=y.2.1/\y.2.1<=y.2.2.2/\y.2.2.2<y.1.length/\y.1.length<=1048576/\y.1.length=x.1.length/\∀q∈y.1,q∈x.1)
  (λy=>y.2.2.2.toNat) ?_ _ _ ⟨h.1,h.2.1,h.2.2.1,h.2.2.2.1,h.2.2.2.2,rfl,λq hq=>hq⟩ (by obtain⟨_,_,_,_,_⟩:=h;unfold fuel;omega)
 rintro next ⟨data_0,a_1,cmp_3,j_9⟩ h hn
 dsimp only at h hn;obtain⟨h0,h1,h2,h3,h4,h5,h6⟩:=h;unfold xP;dsimp only;by_cases hc:a_1<j_9
 .have hw:i64.wrap (j_9-1)=j_9-1:=EW o5 o5;simp only[hw,A7 hc,AA,CE];refine DX.2 (FD.2 ⟨⟨o5,o5⟩,?_⟩);refine DX.2 (FD.2 ⟨⟨o5,o5⟩,?_⟩);refine DX.2 ((h0 _).mono λr3 _=>?_);refine DZ.2 ⟨λ_=>?_,λ_=>DY.2 ⟨h5,h6⟩⟩;refine DX.2 (FD.2 ⟨⟨o5,o5⟩,?_⟩);refine DX.2 (FD.2 ⟨⟨o5,o5⟩,?_⟩);refine DX.2 (FD.2 ⟨⟨o5,o5⟩,?_⟩);refine DX.2 (FD.2 ⟨⟨o5,by rw[AP];omega⟩,?_⟩);refine hn _ ⟨h0,h1,o7,by simp only[AP];omega,by simp only[AP];omega,by simp only[AP];omega,λq hq=>?_⟩ o7;rcases ED hq with hq|rfl
  .rcases ED hq with hq|rfl
   .exact h6 q hq
   .exact h6 _ (EC o5)
  .exact h6 _ (EC o5)
 .simp only[AE hc,AC,D6];refine DX.2 (DY.2 ?_);refine DX.2 (DY.2 ?_);refine DX.2 (DY.2 ?_);exact DY.2 ⟨h5,h6⟩
theorem ANv(x:D_×Int×Int×H1×Int)(h:(∀p,Tot (x.2.2.2.1 p) λ_=>True)/\0<=x.2.1/\x.2.1<=x.2.2.2.2/\x.2.2.1<=x.1.length/\x.2.2.2.2<=1048577/\x.1.length<=1048576):
 Tot (kC x) (λr:List (DW×DW)=>r.length=x.1.length/\∀q∈r,q∈x.1):=by
 refine E_ (R:=λr:List (DW×DW)=>r.length=x.1.length/\∀q∈r,q∈x.1) (λy:D_×Int×Int×H1×Int=>(∀p,Tot (y.2.2.2.1 p) λ_=>True)/\0<=y.2.1/\y.2.1<=y.2.2.2.2/\y.2.2.1<=y.1.length/\y.2.2.2.2<=1048577/\y.1.length<=1048576/\y.1.length=x.1.length/\∀q∈y.1,q∈x.1)
  (λy=>(y.2.2.1-y.2.2.2.2).toNat) ?_ _ _ ⟨h.1,h.2.1,h.2.2.1,h.2.2.2.1,h.2.2.2.2.1,h.2.2.2.2.2,rfl,λq hq=>hq⟩ (by obtain⟨_,_,_,_,_,_⟩:=h;unfold fuel;omega)
 rintro next ⟨data_0,a_1,b_2,cmp_3,i_8⟩ h hn
 dsimp only at h hn;obtain⟨h0,h1,h2,h3,h4,h5,h6,h7⟩:=h;unfold xQ;dsimp only;refine DZ.2 ⟨λhc=>?_,λ_=>DY.2 ⟨h6,h7⟩⟩;have hc:=A9 hc;have hw:i64.wrap (i_8+1)=i_8+1:=EW o5 o5;rw[hw];refine DX.2 ((ANu _ ⟨h0,h1,h2,o7,h5⟩).mono λr hr=>?_);dsimp only at hr;obtain⟨e1,e2⟩:=hr;exact hn _ ⟨h0,h1,o7,o7,o7,o7,o7,λq hq=>h7 q (e2 q hq)⟩ o7
theorem A6p(x:D_×Int×Int×H1)(h:(∀p,Tot (x.2.2.2 p) λ_=>True)/\0<=x.2.1/\x.2.1<=1048576/\x.2.2.1<=x.1.length/\x.1.length<=1048576):
 Tot (U9 x) (λr:List (DW×DW)=>r.length=x.1.length/\∀q∈r,q∈x.1):=by
 obtain⟨data_0,a_1,b_2,cmp_3⟩:=x;dsimp only at h;obtain⟨h0,h1,h2,h3,h4⟩:=h;unfold U9;dsimp only;rw[EW o5 o5];exact DX.2 ((ANv _ ⟨h0,h1,o7,h3,o7,h4⟩).mono λr hr=>DY.2 hr)
theorem ANw(x:D_×Int×Int×Int×Int)(h:0<=x.2.1/\0<=x.2.2.1/\x.2.1+x.2.2.2.1<=x.1.length/\x.2.2.1+x.2.2.2.1<=x.1.length/\0<=x.2.2.2.2/\x.1.length<=1048576):
 Tot (kD x) (λr:List (DW×DW)=>r.length=x.1.length/\∀q∈r,q∈x.1):=by
 refine E_ (R:=λr:List (DW×DW)=>r.length=x.1.length/\∀q∈r,q∈x.1) (λy:D_×Int×Int×Int×Int=>0<=y.2.1/\0<=y.2.2.1/\y.2.1+y.2.2.2.1<=y.1.length/\y.2.2.1+y.2.2.2.1<=y.1.length/\0<=y.2.2.2.2/\y.1.length<=1048576/\y.1.length=x.1.length/\∀q∈y.1,q∈x.1)
  (λy=>(y.2.2.2.1-y.2.2.2.2).toNat) ?_ _ _ ⟨h.1,h.2.1,h.2.2.1,h.2.2.2.1,h.2.2.2.2.1,h.2.2.2.2.2,rfl,λq hq=>hq⟩ (by obtain⟨_,_,_,_,_,_⟩:=h;unfold fuel;omega)
 rintro next ⟨data_0,a_1,b_2,n_3,i_10⟩ h hn
 dsimp only at h hn;obtain⟨h1,h2,h3,h4,h5,h6,h7,h8⟩:=h;unfold xR;dsimp only;refine DZ.2 ⟨λhc=>?_,λ_=>DY.2 ⟨h7,h8⟩⟩;have hc:=A9 hc;have hw1:i64.wrap (a_1+i_10)=a_1+i_10:=EW o5 o5;have hw2:i64.wrap (b_2+i_10)=b_2+i_10:=EW o5 o5;have hw3:i64.wrap (i_10+1)=i_10+1:=EW o5 o5;rw[hw1,hw2,hw3];refine DX.2 (FD.2 ⟨⟨o5,o5⟩,?_⟩);refine DX.2 (FD.2 ⟨⟨o5,o5⟩,?_⟩);refine DX.2 (FD.2 ⟨⟨o5,o5⟩,?_⟩);refine DX.2 (FD.2 ⟨⟨o5,by rw[AP];omega⟩,?_⟩);refine hn _ ⟨h1,h2,by simp only[AP];omega,by simp only[AP];omega,o7,by simp only[AP];omega,by simp only[AP];omega,λq hq=>?_⟩ o7;rcases ED hq with hq|rfl
 .rcases ED hq with hq|rfl
  .exact h8 q hq
  .exact h8 _ (EC o5)
 .exact h8 _ (EC o5)
theorem rJ(x:D_×Int×Int×Int×H1)(h:0<=x.2.1/\0<=x.2.2.1/\x.2.1+x.2.2.2.1<=x.1.length/\x.2.2.1+x.2.2.2.1<=x.1.length/\x.1.length<=1048576):
 Tot (RA x) (λr:List (DW×DW)=>r.length=x.1.length/\∀q∈r,q∈x.1):=by
 obtain⟨data_0,a_1,b_2,n_3,cmp_4⟩:=x;obtain⟨h1,h2,h3,h4,h5⟩:=h;unfold RA;dsimp only;exact DX.2 ((ANw _ ⟨h1,h2,h3,h4,BF _,h5⟩).mono λr hr=>DY.2 hr)
theorem ANx(x:D_×Int×H1×Int×Int)(h:0<x.2.2.2.1/\0<x.2.2.2.2/\x.2.2.2.1<=x.2.1/\x.2.1+x.2.2.2.2<=x.1.length/\x.1.length<=1048576):
 Tot (kE x) (λr:D_×Int=>r.1.length=x.1.length/\(∀q∈r.1,q∈x.1)/\0<r.2/\r.2<=x.2.1/\x.2.1+r.2<=x.1.length):=by
 refine E_ (R:=λr:D_×Int=>r.1.length=x.1.length/\(∀q∈r.1,q∈x.1)/\0<r.2/\r.2<=x.2.1/\x.2.1+r.2<=x.1.length) (λy:D_×Int×H1×Int×Int=>0<y.2.2.2.1/\0<y.2.2.2.2/\y.2.2.2.1<=y.2.1/\y.2.1+y.2.2.2.2<=y.1.length/\y.1.length<=1048576/\y.1.length=x.1.length/\(∀q∈y.1,q∈x.1)/\y.2.1=x.2.1)
  (λy=>(y.2.2.2.1+y.2.2.2.2).toNat) ?_ _ _ ⟨h.1,h.2.1,h.2.2.1,h.2.2.2.1,h.2.2.2.2,rfl,(λq hq=>hq),rfl⟩ (by obtain⟨_,_,_,_,_⟩:=h;unfold fuel;omega)
 rintro next ⟨data_0,m_2,cmp_4,i_10,j_11⟩ h hn
 dsimp only at h hn;obtain⟨h1,h2,h3,h4,h5,h6,h7,h8⟩:=h;unfold xS;dsimp only;refine DZ.2 ⟨λhc=>?_,λhc=>DY.2 ⟨h6,h7,h1,o7,?_⟩⟩
 .have hc:i_10≠j_11:=by rw[E0]at hc;simpa using hc
  have hw1:i64.wrap (m_2-i_10)=m_2-i_10:=EW o5 o5;have hw2:i64.wrap (m_2+j_11)=m_2+j_11:=EW o5 o5;have hw3:i64.wrap (m_2+j_11-i_10)=m_2+j_11-i_10:=EW o5 o5;have hw4:i64.wrap (i_10-j_11)=i_10-j_11:=EW o5 o5;have hw5:i64.wrap (j_11-i_10)=j_11-i_10:=EW o5 o5;rw[hw1,hw2,hw3,hw4,hw5];refine DZ.2 ⟨λhd=>?_,λhd=>?_⟩
  .have hd:=A9 hd;refine DX.2 ((rJ _ ⟨o7,o7,o7,o7,h5⟩).mono λr hr=>?_);dsimp only at hr;exact hn _ ⟨o7,h2,o7,o7,o7,o7,λq hq=>h7 q (hr.2 q hq),h8⟩ o7
  .have hd:=AO hd;refine DX.2 ((rJ _ ⟨o7,o7,o7,o7,h5⟩).mono λr hr=>?_);dsimp only at hr;exact hn _ ⟨h1,o7,h3,o7,o7,o7,λq hq=>h7 q (hr.2 q hq),h8⟩ o7
 .have hc:i_10=j_11:=by rw[E0]at hc;simpa using hc
  omega
theorem ANy(x:D_×Int×Int×Int×H1)(h:0<=x.2.1/\x.2.1<x.2.2.1/\x.2.2.1<x.2.2.2.1/\x.2.2.2.1<=x.1.length/\x.1.length<=1048576):
 Tot (Z6 x) (λr:List (DW×DW)=>r.length=x.1.length/\∀q∈r,q∈x.1):=by
 obtain⟨data_0,a_1,m_2,b_3,cmp_4⟩:=x;dsimp only at h;obtain⟨h1,h2,h3,h4,h5⟩:=h;unfold Z6;dsimp only;rw[EW (n:=m_2-a_1) o5 o5,EW (n:=b_3-m_2) o5 o5];refine DX.2 ((ANx _ ⟨o7,o7,o7,o7,h5⟩).mono λr hr=>?_);dsimp only at hr;obtain⟨e1,e2,e3,e4,e5⟩:=hr;rw[EW (n:=m_2-r.2) o5 o5];refine DX.2 ((rJ _ ⟨o7,o7,o7,o7,o7⟩).mono λr4 hr=>DY.2 ?_);dsimp only at hr;exact⟨o5,λq hq=>e2 q (hr.2 q hq)⟩
theorem NX{i j:Int}{Q:Int->Prop}(h1:0<=i)(h2:0<=j)(h3:i<=4611686018427387903)(h4:j<=4611686018427387903)(h:Q ((i+j) / 2)):Tot (shr? u64 (u64.wrap (i64.wrap (i+j))) (1:Int)) Q:=by
 have e1:i64.wrap (i+j)=i+j:=EW o5 o5
 have e2:u64.wrap (i+j)=i+j:=by
  simp only[IntKind.wrap,IntKind.bits,IntKind.signed];simp;omega
 rw[e1,e2]
 have e3:(i+j).fdiv (2 ^ min (1:Int).toNat u64.bits)=(i+j) / 2:=by
  have:(2:Int) ^ min (1:Int).toNat u64.bits=2:=od
  rw[this,DM _ od]
 unfold shr?;rw[e3];exact DY.2 h
theorem ANz(slf:D_×Int×Int×Int×H1->Option D_)(x:D_×Int×H1×Int×Int)(h:(∀p,Tot (x.2.2.1 p) λ_=>True)/\0<=x.2.1/\x.2.1<x.1.length/\0<=x.2.2.2.1/\x.2.2.2.1<=x.2.2.2.2/\x.2.2.2.2<=x.1.length/\x.1.length<=1048576):
 Tot (kF slf x) (λr:D_×Int=>r.1=x.1/\x.2.2.2.1<=r.2/\r.2<=x.2.2.2.2):=by
 refine E_ (R:=λr:D_×Int=>r.1=x.1/\x.2.2.2.1<=r.2/\r.2<=x.2.2.2.2) (λy:D_×Int×H1×Int×Int=>(∀p,Tot (y.2.2.1 p) λ_=>True)/\0<=y.2.1/\y.2.1<y.1.length/\0<=y.2.2.2.1/\y.2.2.2.1<=y.2.2.2.2/\y.2.2.2.2<=y.1.length/\y.1.length<=1048576/\y.1=x.1/\x.2.2.2.1<=y.2.2.2.1/\y.2.2.2.2<=x.2.2.2.2)
  (λy=>(y.2.2.2.2-y.2.2.2.1).toNat) ?_ _ _ ⟨h.1,h.2.1,h.2.2.1,h.2.2.2.1,h.2.2.2.2.1,h.2.2.2.2.2.1,h.2.2.2.2.2.2,rfl,BF _,BF _⟩ (by obtain⟨_,_,_,_,_,_,_⟩:=h;unfold fuel;omega)
 rintro next ⟨data_0,a_1,cmp_4,i_10,j_11⟩ h hn
 dsimp only at h hn;obtain⟨h0,h1,h2,h3,h4,h5,h6,h7,h8,h9⟩:=h;unfold xT;dsimp only;refine DZ.2 ⟨λhc=>?_,λhc=>DY.2 ⟨h7,h8,o7⟩⟩;have hc:=A9 hc;refine DX.2 (NX o5 o5 o5 o5 ?_);have hw1:i64.wrap ((i_10+j_11) / 2)=(i_10+j_11) / 2:=EW o5 o5;have hw2:i64.wrap ((i_10+j_11) / 2+1)=(i_10+j_11) / 2+1:=EW o5 o5;rw[hw1,hw2];refine DX.2 (FD.2 ⟨⟨o5,o5⟩,?_⟩);refine DX.2 (FD.2 ⟨⟨o5,o5⟩,?_⟩);refine DX.2 ((h0 _).mono λr4 _=>?_);refine DZ.2 ⟨λ_=>?_,λ_=>?_⟩
 .exact hn _ ⟨h0,h1,h2,o7,o7,h5,h6,h7,o7,h9⟩ o7
 .exact hn _ ⟨h0,h1,h2,h3,o7,o7,h6,h7,h8,o7⟩ o7
theorem AO0(slf:D_×Int×Int×Int×H1->Option D_)(x:D_×Int×Int)(h:0<=x.2.1/\x.2.1<=x.1.length/\0<=x.2.2/\x.1.length<=1048576):
 Tot (kG slf x) (λr:List (DW×DW)=>r.length=x.1.length/\∀q∈r,q∈x.1):=by
 refine E_ (R:=λr:List (DW×DW)=>r.length=x.1.length/\∀q∈r,q∈x.1) (λy:D_×Int×Int=>0<=y.2.1/\y.2.1<=y.1.length/\0<=y.2.2/\y.1.length<=1048576/\y.1.length=x.1.length/\∀q∈y.1,q∈x.1)
  (λy=>(y.2.1-y.2.2).toNat) ?_ _ _ ⟨h.1,h.2.1,h.2.2.1,h.2.2.2,rfl,λq hq=>hq⟩ (by obtain⟨_,_,_,_⟩:=h;unfold fuel;omega)
 rintro next ⟨data_0,i_10,k_13⟩ h hn
 dsimp only at h hn;obtain⟨h1,h2,h3,h4,h5,h6⟩:=h;unfold xU;dsimp only;rw[EW (n:=i_10-1) o5 o5];refine DZ.2 ⟨λhc=>?_,λhc=>DY.2 ⟨h5,h6⟩⟩;have hc:=A9 hc;have hw:i64.wrap (k_13+1)=k_13+1:=EW o5 o5;rw[hw];refine DX.2 (FD.2 ⟨⟨o5,o5⟩,?_⟩);refine DX.2 (FD.2 ⟨⟨o5,o5⟩,?_⟩);refine DX.2 (FD.2 ⟨⟨o5,o5⟩,?_⟩);refine DX.2 (FD.2 ⟨⟨o5,by rw[AP];omega⟩,?_⟩);refine hn _ ⟨h1,by simp only[AP];omega,o7,by simp only[AP];omega,by simp only[AP];omega,λq hq=>?_⟩ o7;rcases ED hq with hq|rfl
 .rcases ED hq with hq|rfl
  .exact h6 q hq
  .exact h6 _ (EC o5)
 .exact h6 _ (EC o5)
theorem AO1(slf:D_×Int×Int×Int×H1->Option D_)(x:D_×Int×Int)(h:0<=x.2.1/\x.2.2<x.1.length/\x.1.length<=1048576):
 Tot (kI slf x) (λr:List (DW×DW)=>r.length=x.1.length/\∀q∈r,q∈x.1):=by
 refine E_ (R:=λr:List (DW×DW)=>r.length=x.1.length/\∀q∈r,q∈x.1) (λy:D_×Int×Int=>0<=y.2.1/\y.2.2<y.1.length/\y.1.length<=1048576/\y.1.length=x.1.length/\∀q∈y.1,q∈x.1)
  (λy=>(y.2.2-y.2.1).toNat) ?_ _ _ ⟨h.1,h.2.1,h.2.2,rfl,λq hq=>hq⟩ (by obtain⟨_,_,_⟩:=h;unfold fuel;omega)
 rintro next ⟨data_0,i_14,k_17⟩ h hn
 dsimp only at h hn;obtain⟨h1,h2,h4,h5,h6⟩:=h;unfold xW;dsimp only;refine DZ.2 ⟨λhc=>?_,λhc=>DY.2 ⟨h5,h6⟩⟩;have hc:=A9 hc;have hw:i64.wrap (k_17-1)=k_17-1:=EW o5 o5;rw[hw];refine DX.2 (FD.2 ⟨⟨o5,o5⟩,?_⟩);refine DX.2 (FD.2 ⟨⟨o5,o5⟩,?_⟩);refine DX.2 (FD.2 ⟨⟨o5,o5⟩,?_⟩);refine DX.2 (FD.2 ⟨⟨o5,by rw[AP];omega⟩,?_⟩);refine hn _ ⟨h1,by simp only[AP];omega,by simp only[AP];omega,by simp only[AP];omega,λq hq=>?_⟩ o7;rcases ED hq with hq|rfl
 .rcases ED hq with hq|rfl
  .exact h6 q hq
  .exact h6 _ (EC o5)
 .exact h6 _ (EC o5)
theorem AO2(slf:D_×Int×Int×Int×H1->Option D_)(x:D_×Int×H1×Int×Int)(h:(∀p,Tot (x.2.2.1 p) λ_=>True)/\0<=x.2.1/\x.2.1<x.1.length/\0<=x.2.2.2.1/\x.2.2.2.1<=x.2.2.2.2/\x.2.2.2.2<=x.1.length/\x.1.length<=1048576):
 Tot (kH slf x) (λr:D_×Int=>r.1=x.1/\x.2.2.2.1<=r.2/\r.2<=x.2.2.2.2):=by
 refine E_ (R:=λr:D_×Int=>r.1=x.1/\x.2.2.2.1<=r.2/\r.2<=x.2.2.2.2) (λy:D_×Int×H1×Int×Int=>(∀p,Tot (y.2.2.1 p) λ_=>True)/\0<=y.2.1/\y.2.1<y.1.length/\0<=y.2.2.2.1/\y.2.2.2.1<=y.2.2.2.2/\y.2.2.2.2<=y.1.length/\y.1.length<=1048576/\y.1=x.1/\x.2.2.2.1<=y.2.2.2.1/\y.2.2.2.2<=x.2.2.2.2)
  (λy=>(y.2.2.2.2-y.2.2.2.1).toNat) ?_ _ _ ⟨h.1,h.2.1,h.2.2.1,h.2.2.2.1,h.2.2.2.2.1,h.2.2.2.2.2.1,h.2.2.2.2.2.2,rfl,BF _,BF _⟩ (by obtain⟨_,_,_,_,_,_,_⟩:=h;unfold fuel;omega)
 rintro next ⟨data_0,m_2,cmp_4,i_14,j_15⟩ h hn
 dsimp only at h hn;obtain⟨h0,h1,h2,h3,h4,h5,h6,h7,h8,h9⟩:=h;unfold xV;dsimp only;refine DZ.2 ⟨λhc=>?_,λhc=>DY.2 ⟨h7,h8,o7⟩⟩;have hc:=A9 hc;refine DX.2 (NX o5 o5 o5 o5 ?_);have hw1:i64.wrap ((i_14+j_15) / 2)=(i_14+j_15) / 2:=EW o5 o5;have hw2:i64.wrap ((i_14+j_15) / 2+1)=(i_14+j_15) / 2+1:=EW o5 o5;rw[hw1,hw2];refine DX.2 (FD.2 ⟨⟨o5,o5⟩,?_⟩);refine DX.2 (FD.2 ⟨⟨o5,o5⟩,?_⟩);refine DX.2 ((h0 _).mono λr13 _=>?_);refine DZ.2 ⟨λ_=>?_,λ_=>?_⟩
 .exact hn _ ⟨h0,h1,h2,o7,o7,h5,h6,h7,o7,h9⟩ o7
 .exact hn _ ⟨h0,h1,h2,h3,o7,o7,h6,h7,h8,o7⟩ o7
theorem AO3(slf:D_×Int×Int×Int×H1->Option D_)(x:D_×H1×Int×Int×Int)(h:(∀p,Tot (x.2.1 p) λ_=>True)/\0<=x.2.2.1/\x.2.2.1<=x.2.2.2.1/\x.2.2.2.1<=x.1.length/\x.2.2.2.1-1<=x.2.2.2.2/\x.2.2.2.2-x.2.2.1<x.1.length/\x.1.length<=1048576):
 Tot (kJ slf x) (λr:D_×Int=>r.1=x.1/\x.2.2.1<=r.2/\r.2<=x.2.2.2.1):=by
 refine E_ (R:=λr:D_×Int=>r.1=x.1/\x.2.2.1<=r.2/\r.2<=x.2.2.2.1) (λy:D_×H1×Int×Int×Int=>(∀p,Tot (y.2.1 p) λ_=>True)/\0<=y.2.2.1/\y.2.2.1<=y.2.2.2.1/\y.2.2.2.1<=y.1.length/\y.2.2.2.1-1<=y.2.2.2.2/\y.2.2.2.2-y.2.2.1<y.1.length/\y.1.length<=1048576/\y.1=x.1/\x.2.2.1<=y.2.2.1/\y.2.2.2.1<=x.2.2.2.1)
  (λy=>(y.2.2.2.1-y.2.2.1).toNat) ?_ _ _ ⟨h.1,h.2.1,h.2.2.1,h.2.2.2.1,h.2.2.2.2.1,h.2.2.2.2.2.1,h.2.2.2.2.2.2,rfl,BF _,BF _⟩ (by obtain⟨_,_,_,_,_,_,_⟩:=h;unfold fuel;omega)
 rintro next ⟨data_0,cmp_4,start_20,r_21,p_22⟩ h hn
 dsimp only at h hn;obtain⟨h0,h1,h2,h3,h4,h5,h6,h7,h8,h9⟩:=h;unfold xX;dsimp only;refine DZ.2 ⟨λhc=>?_,λhc=>DY.2 ⟨h7,h8,o7⟩⟩;have hc:=A9 hc;refine DX.2 (NX o5 o5 o5 o5 ?_);have hw1:i64.wrap ((start_20+r_21) / 2)=(start_20+r_21) / 2:=EW o5 o5;have hw2:i64.wrap ((start_20+r_21) / 2+1)=(start_20+r_21) / 2+1:=EW o5 o5;have hw3:i64.wrap (p_22-(start_20+r_21) / 2)=p_22-(start_20+r_21) / 2:=EW o5 o5;rw[hw1,hw2,hw3];refine DX.2 (FD.2 ⟨⟨o5,o5⟩,?_⟩);refine DX.2 (FD.2 ⟨⟨o5,o5⟩,?_⟩);refine DX.2 ((h0 _).mono λr4 _=>?_);refine DZ.2 ⟨λ_=>?_,λ_=>?_⟩
 .exact hn _ ⟨h0,o7,o7,h3,h4,o7,h6,h7,o7,h9⟩ o7
 .exact hn _ ⟨h0,h1,o7,o7,o7,h5,h6,h7,h8,o7⟩ o7
theorem AO4(slf:D_×Int×Int×Int×H1->Option D_)(x:D_×Int×H1×Int×Int×Bool)(h:x.1.length<=1048576/\(x.2.2.2.2.2=true->0<=x.2.2.2.1/\x.2.2.2.1<x.2.1/\x.2.1<x.2.2.2.2.1/\x.2.2.2.2.1<=x.1.length)):
 Tot (Z8 slf x) (λr:List (DW×DW)=>r.length=x.1.length/\∀q∈r,q∈x.1):=by
 obtain⟨data_0,m_2,cmp_4,start_20,end_24,t185⟩:=x;dsimp only at h;unfold Z8;dsimp only;refine DZ.2 ⟨λhc=>?_,λ_=>DY.2 ⟨rfl,λq hq=>hq⟩⟩;obtain⟨h1,h2,h3,h4⟩:=h.2 hc;exact DX.2 ((ANy _ ⟨h1,h2,h3,h4,h.1⟩).mono λr hr=>DY.2 hr)
theorem AO5(slf:D_×Int×Int×Int×H1->Option D_)(K:Int)(ih:∀y:D_×Int×Int×Int×H1,((∀p,Tot (y.2.2.2.2 p) λ_=>True)/\0<=y.2.1/\y.2.1<y.2.2.1/\y.2.2.1<y.2.2.2.1/\y.2.2.2.1<=y.1.length/\y.1.length<=1048576)->y.2.2.2.1-y.2.1<=K->Tot (slf y) (λr:List (DW×DW)=>r.length=y.1.length/\∀q∈r,q∈y.1))(x:D_×Int×Int×Int×H1)(h:(∀p,Tot (x.2.2.2.2 p) λ_=>True)/\0<=x.2.1/\x.2.1<x.2.2.1/\x.2.2.1<x.2.2.2.1/\x.2.2.2.1<=x.1.length/\x.1.length<=1048576)(hK:x.2.2.2.1-x.2.1<=2*K):
 Tot (kK slf x) (λr:List (DW×DW)=>r.length=x.1.length/\∀q∈r,q∈x.1):=by
 obtain⟨data_0,a_1,m_2,b_3,cmp_4⟩:=x;dsimp only at h hK;obtain⟨h0,h1,h2,h3,h4,h5⟩:=h;unfold kK;dsimp only;rw[EW (n:=m_2-a_1) o5 o5,EW (n:=b_3-m_2) o5 o5];refine DZ.2 ⟨λ_=>?_,λ_=>DZ.2 ⟨λ_=>?_,λ_=>?_⟩⟩
 .refine DX.2 ((ANz slf _ ⟨h0,h1,o7,o7,o7,h4,h5⟩).mono λr5 hr=>?_);dsimp only at hr;obtain⟨e1,e2,e3⟩:=hr;refine DX.2 ((AO0 slf _ ⟨o7,by dsimp only;rw[e1];omega,h1,by dsimp only;rw[e1];exact h5⟩).mono λr9 hr=>DY.2 ?_);dsimp only at hr;rw[e1]at hr;exact hr
 .refine DX.2 ((AO2 slf _ ⟨h0,o7,o7,h1,o7,o7,h5⟩).mono λr5 hr=>?_);dsimp only at hr;obtain⟨e1,e2,e3⟩:=hr;refine DX.2 ((AO1 slf _ ⟨o7,by dsimp only;rw[e1];omega,by dsimp only;rw[e1];exact h5⟩).mono λr9 hr=>DY.2 ?_);dsimp only at hr;rw[e1]at hr;exact hr
 .refine DX.2 (NX o5 o5 o5 o5 ?_);generalize hmid:(a_1+b_3) / 2=mid;rw[EW (n:=mid) o5 o5,EW (n:=mid+m_2) o5 o5,EW (n:=mid+m_2-1) o5 o5]
  have hp:Tot (Z7 slf (a_1,m_2,b_3,mid,mid+m_2,decide (mid<m_2))) λr:Int×Int=>0<=r.1/\a_1<=r.1/\mid+m_2-b_3<=r.1/\r.1<=r.2/\r.2<=m_2/\r.2<=mid+m_2/\mid+m_2-1-r.1<data_0.length:=by
   unfold Z7;dsimp only;refine DZ.2 ⟨λhc=>DY.2 ?_,λhc=>DY.2 ?_⟩
   .have hc:=A9 hc;rw[EW o5 o5];dsimp only;omega
   .have hc:=AO hc;dsimp only;omega
  refine DX.2 (hp.mono λr20 hr=>?_);obtain⟨f1,f2,f3,f4,f5,f6,f7⟩:=hr;refine DX.2 ((AO3 slf _ ⟨h0,f1,f4,o7,o7,f7,h5⟩).mono λr26 hr=>?_);dsimp only at hr;obtain⟨e1,e2,e3⟩:=hr;rw[EW (n:=mid+m_2-r26.2) o5 o5];refine DX.2 ((AO4 slf _ ⟨by dsimp only;rw[e1];exact h5,λhc=>?_⟩).mono λr29 hr=>?_)
  .dsimp only at hc ⊢;rw[A4,AX,AX]at hc;rw[e1];omega
  dsimp only at hr;rw[e1]at hr;obtain⟨g1,g2⟩:=hr
  have hq:Tot (Z9 slf (r29,a_1,cmp_4,mid,r26.2,decide (a_1<r26.2)&&decide (r26.2<mid))) λr:List (DW×DW)=>r.length=data_0.length/\∀q∈r,q∈data_0:=by
   unfold Z9;dsimp only;refine DZ.2 ⟨λhc=>?_,λ_=>DY.2 ⟨g1,g2⟩⟩;rw[A4,AX,AX]at hc;refine DX.2 ((ih _ ⟨h0,h1,o7,o7,o7,o7⟩ o7).mono λr31 hr=>DY.2 ?_);dsimp only at hr;exact⟨o5,λq hq=>g2 q (hr.2 q hq)⟩
  refine DX.2 (hq.mono λr32 hr=>?_);obtain⟨k1,k2⟩:=hr;refine DZ.2 ⟨λhc=>?_,λ_=>DY.2 ⟨k1,k2⟩⟩;rw[A4,AX,AX]at hc;refine DX.2 ((ih _ ⟨h0,o7,o7,o7,o7,o7⟩ o7).mono λr34 hr=>DY.2 ?_);dsimp only at hr;exact⟨o5,λq hq=>k2 q (hr.2 q hq)⟩
theorem AO6:∀(n:Nat) (x:D_×Int×Int×Int×H1) (h:(∀p,Tot (x.2.2.2.2 p) λ_=>True)/\0<=x.2.1/\x.2.1<x.2.2.1/\x.2.2.1<x.2.2.2.1/\x.2.2.2.1<=x.1.length/\x.1.length<=1048576) (hK:x.2.2.2.1-x.2.1<=2 ^ n),Tot (KD n x) (λr:List (DW×DW)=>r.length=x.1.length/\∀q∈r,q∈x.1):=by
 intro n;induction n with
 |zero=>
  intro x h hK;obtain⟨_,h1,h2,h3,_,_⟩:=h;rw[Int.pow_zero]at hK;omega
 |succ n ih=>
  intro x h hK;refine AO5 (KD n) (2 ^ n) (λy hy hk=>ih y hy hk) x h ?_;rw[Int.pow_succ]at hK;omega
theorem A6q(x:D_×Int×Int×Int×H1)(h:(∀p,Tot (x.2.2.2.2 p) λ_=>True)/\0<=x.2.1/\x.2.1<x.2.2.1/\x.2.2.1<x.2.2.2.1/\x.2.2.2.1<=x.1.length/\x.1.length<=1048576):Tot (UA x) (λr:List (DW×DW)=>r.length=x.1.length/\∀q∈r,q∈x.1):=by
 unfold UA;refine AO6 100 x h ?_;obtain⟨_,h1,h2,h3,h4,h5⟩:=h;have:(1048576:Int)<=2 ^ 100:=od
 omega
theorem AO7{s p:DW}(h:Lib.hasPrefix s p=true):p.length<=s.length:=(List.isPrefixOf_iff_prefix.1 h).length_le
theorem AO8(x:DW×DW)(h:True):Tot (strings_HasPrefix x) (λr:Bool=>r=true->x.2.length<=x.1.length):=DY.2 AO7
theorem trimPrefix_len(s p:DW):(Lib.trimPrefix s p).length<=s.length:=by
 unfold Lib.trimPrefix;split
 .rw[BP];omega
 .exact AB _
theorem AO9(x:DW×DW)(h:True):Tot (strings_TrimPrefix x) (λr:DW=>r.length<=x.1.length):=DY.2 (trimPrefix_len _ _)
theorem AOA(x:DW×DW)(h:True):Tot (strings_CutPrefix x) (λr:DW×Bool=>r.1.length<=x.1.length):=DY.2 (trimPrefix_len _ _)
theorem A6r(x:DW×DW)(h:x.1.length<=1048576):Tot (strings_Cut x) (λr:DW×DW×Bool=>r.1.length<=x.1.length/\r.2.1.length<=x.1.length):=by
 unfold strings_Cut HQ;rw[A7 o5];refine DY.2 ?_;unfold Lib.cut;split
 .simp only[B4,BP];omega
 .simp
theorem AOB(x:DW×Int)(h:x.1.length<=1048576):Tot (strings_LastIndexByte x) (λr:Int=>-1<=r/\r<x.1.length):=by
 unfold strings_LastIndexByte HQ;rw[A7 o5];refine DY.2 ?_;have hs:(⟨x.1.toArray⟩:ByteArray).size=x.1.length:=by simp[ByteArray.size]
 rcases Lib.lastIndexByte_spec ⟨x.1.toArray⟩ x.2 with⟨e,_⟩|⟨i,hi,e,_⟩<;>rw[e]<;>omega
theorem AOC:∀(k u m:Nat),u<10 ^ m->1<=m->(KY k u).length<=m:=by
 intro k;induction k with
 |zero=>intro u m _ _;simp[KY]
 |succ k ih=>
  intro u m hu hm;simp only[KY];split
  .simpa using hm
  .rename_i h;obtain⟨j,rfl⟩:∃j,m=j+1:=⟨m-1,o5⟩
   have hj:1<=j:=by
    rcases j with _|j
    .simp at hu;omega
    .omega
   have:=ih (u / 10) j (by rw[Nat.pow_succ]at hu;omega) hj;simp only[A6,AF,AW];omega
theorem AOD:∀(k u:Nat),1<=k->1<=(KY k u).length:=by
 intro k u h;obtain⟨j,rfl⟩:∃j,k=j+1:=⟨k-1,o5⟩;simp only[KY];split<;>simp
theorem IP(x:Int)(h:True):Tot (strconv_Itoa x) (λr:DW=>1<=r.length/\r.length<=21/\(0<=x->x<=999999999999999999->r.length<=18)):=by
 refine DY.2 ⟨?_,xF x,?_⟩
 .unfold NP;split
  .simp
  .exact AOD 20 _ od
 .intro h0 h1;unfold NP;rw[if_neg o5];exact AOC 20 _ 18 (by have h18:(10:Nat) ^ 18=1000000000000000000:=(od);omega) od
def S3(b:UInt8):Prop:=48<=b.toNat/\b.toNat<=57
theorem AOE:∀(l:DW) (acc k:Nat),(∀b∈l,S3 b)->acc<10 ^ k->l.length+k<=18->∃u,Lib.parseUint10 acc l=.ok u/\u<10 ^ 18:=by
 intro l;induction l with
 |nil=>intro acc k _ h1 h2;exact⟨acc,rfl,B0 h1 (DK od oq)⟩
 |cons c r ih=>
  intro acc k hd h1 h2;have hl:r.length+1+k<=18:=oq
  have hp:10 ^ k<=10 ^ 17:=DK od o5;have e17:(10:Nat) ^ 17=100000000000000000:=od
  have hc:48<=c.toNat/\c.toNat<=57:=hd c AI;simp only[Lib.parseUint10];rw[if_pos hc,if_neg o5,if_neg o5];exact ih _ (k+1) (λb hb=>hd b (AD _ hb)) (by rw[Nat.pow_succ];omega) o5
theorem rK(s:DW)(h0:s≠[])(hd:∀b∈s,S3 b)(hl:s.length<=18):∃u:Nat,Lib.atoiAll s=.ok (u:Int)/\u<1000000000000000000:=by
 cases s with
 |nil=>exact absurd rfl h0
 |cons c r=>
  have hc:=hd c AI;unfold S3 at hc;obtain⟨u,e,hu⟩:=AOE (c::r) 0 0 hd od hl;have e18:(10:Nat) ^ 18=1000000000000000000:=od
  rw[e18]at hu;refine⟨u,?_,hu⟩;unfold Lib.atoiAll;simp only;rw[if_neg o5];unfold Lib.parseMag;rw[if_neg oc,e];simp only;rw[if_neg o5,if_neg o5,if_neg o5]
theorem AOF(x:DW)(h:x.length<=1048576):Tot (YT x) (λr:Int×Unit=>x≠[]->(∀b∈x,S3 b)->x.length<=18->0<=r.1/\r.1<=999999999999999999):=by
 unfold YT HQ;rw[A7 o5];show Tot (match Lib.atoiAll x with| .ok v=>some (v,())| .range=>some (Lib.atoiSat x,())|_=>some (0,())) _;cases e:Lib.atoiAll x with
 |ok v=>
  refine DY.2 λh1 h2 h3=>?_;obtain⟨u,e2,hu⟩:=rK x h1 h2 h3;rw[e]at e2;injection e2 with e2;subst e2;dsimp only;omega
 |range=>exact DY.2 λh1 h2 h3=>by obtain⟨u,e2,_⟩:=rK x h1 h2 h3;rw[e]at e2;cases e2
 |_=>exact DY.2 λh1 h2 h3=>by obtain⟨u,e2,_⟩:=rK x h1 h2 h3;rw[e]at e2;cases e2
theorem AOG(x:DW×Int)(h:x.1.length=1/\0<=x.2/\x.2<=1048576):Tot (strings_Repeat x) (λr:DW=>(r.length:Int)=x.2):=by
 unfold strings_Repeat HQ;rw[A7 (by rw[h.1];omega)];refine DY.2 ?_;rw[Lib.repeatL_length,h.1];omega
theorem AOH(r:Int):(Lib.encodeRune r).length<=4:=by
 unfold Lib.encodeRune Lib.encodeRuneZ;rw[B2]
 repeat' split
 all_goals simp
theorem AOI(f:Int->Int):∀(n:Nat) (l:DW),(Lib.mapGoD f n l).length<=4*n:=by
 intro n;induction n with
 |zero=>intro l;simp[Lib.mapGoD]
 |succ n ih=>
  intro l;simp only[Lib.mapGoD];split
  .simp
  .rw[A6];have h1:=ih (l.drop (Lib.decodeL l).2)
   have h2:(if 0<=f (Lib.decodeL l).1 then Lib.encodeRune (f (Lib.decodeL l).1)else []).length<=4:=by
    split
    .exact AOH _
    .simp
   omega
theorem A6s(x:DW)(h:x.length<=1048576):Tot (U5 x) (λr:DW=>r.length<=4*x.length):=by
 unfold U5 HQ;rw[A7 o5];have h1:(Lib.toLowerD x).length<=4*x.length:=AOI _ _ _;show Tot (str? _) _;unfold str?;rw[A7 o5];exact DY.2 h1
theorem AOJ(p:Nat->Bool)(s:ByteArray):∀(f pos:Nat) (st:Option Nat) (acc:List (Nat×Nat)),(Lib.spansFromP p s f pos st acc).1.length<=acc.length+f:=by
 intro f;induction f with
 |zero=>intro pos st acc;simp[Lib.spansFromP]
 |succ f ih=>
  intro pos st acc;simp only[Lib.spansFromP];split
  .split
   .cases st with
    |some a=>have:=ih (pos+(Utf8.decode s pos).2) none (acc++[(a,pos)]);simp only[A6,AF,AW]at this ⊢;omega
    |none=>have:=ih (pos+(Utf8.decode s pos).2) none acc;dsimp only;omega
   .cases st with
    |some a=>have:=ih (pos+(Utf8.decode s pos).2) (some a) acc;dsimp only;omega
    |none=>have:=ih (pos+(Utf8.decode s pos).2) (some pos) acc;dsimp only;omega
  .simp
theorem AOK(p:Nat->Bool)(s:ByteArray):(Lib.goFieldsP p s).length<=s.size+1:=by
 unfold Lib.goFieldsP Lib.spansOfP Lib.closeSpans;rw[B2];have:=AOJ p s s.size 0 none [];simp only[AW]at this;split
 .rw[A6];simp only[AF,AW];omega
 .omega
theorem AOL(p:Nat->Bool)(s:ByteArray):∀b∈Lib.goFieldsP p s,b.size<=s.size:=by
 intro b hb;unfold Lib.goFieldsP at hb;obtain⟨x,_,rfl⟩:=C2.1 hb;rw[C_];omega
theorem AOM(x:DW×M5)(h:x.1.length<=1048576/\∀c,Tot (x.2 c) λ_=>True):Tot (QZ x) (λr:List DW=>r.length<=x.1.length+1/\∀s∈r,s.length<=x.1.length):=by
 have hs:(⟨x.1.toArray⟩:ByteArray).size=x.1.length:=by simp[ByteArray.size]
 have hl:=λp=>AOK p ⟨x.1.toArray⟩;rw[hs]at hl;unfold QZ HQ;rw[@decide_eq_true _ (Classical.propDecidable _) ⟨o5,λr _=>let ⟨b,e,_⟩:=h.2 r;⟨b,e⟩,by have:=hl λr=>(x.2 (r:Int)).getD false;omega⟩];refine DY.2 ⟨?_,?_⟩
 .rw[B2];exact hl _
 .intro s h1;obtain⟨b,hb,rfl⟩:=C2.1 h1;have:=AOL _ _ b hb;rw[hs]at this;have e:b.data.toList.length=b.size:=by rw[BR];rfl
  omega
abbrev Nm(n:Int):Prop:=0<=n/\n<=999999999999999999
abbrev Nm1(n:Int):Prop:=-1<=n/\n<=999999999999999999
abbrev LS(l:List DW):Prop:=l.length<=1002/\∀s∈l,s.length<=1000
abbrev NS(l:List Int):Prop:=l.length<=1002/\∀n∈l,0<=n/\n<=999999999999999999
abbrev TS(l:List G7):Prop:=l.length<=1002/\∀t∈l,t.2.1.length<=5000/\0<=t.2.2/\t.2.2<=999999999999999999
abbrev Dt:=(List Int)×(List DW)
abbrev Rv:=Int×DW×DW×Bool
abbrev Sg:=Int×(List Int)×Int×Int×Int×Int×(List DW)
abbrev Ql:=List G7
abbrev Vr:=Sum LN (Sum KZ (Sum FY (Sum (List G7) (Sum Int Unit))))
abbrev eK(v:Dt):Prop:=v.1.length=3/\(∀n∈v.1,0<=n/\n<=999999999999999999)/\v.2.length<=1002/\∀s∈v.2,s.length<=1000
abbrev PG(v:Rv):Prop:=Nm v.1/\v.2.1.length<=1000/\v.2.2.1.length<=1000
abbrev MD(v:Sg):Prop:=Nm v.1/\NS v.2.1/\(0<=v.2.2.1/\v.2.2.1<=3)/\Nm v.2.2.2.1/\Nm1 v.2.2.2.2.1/\Nm1 v.2.2.2.2.2.1/\LS v.2.2.2.2.2.2
def J1(v:Vr):Prop:=match v with
 | .inl d=>eK d
 | .inr (.inl r)=>PG r
 | .inr (.inr (.inl s))=>MD s
 | .inr (.inr (.inr (.inl q)))=>TS q
 | .inr (.inr (.inr (.inr (.inl n))))=>Nm n
 | .inr (.inr (.inr (.inr (.inr _))))=>False
theorem AON(d:Dt):J1 (.inl d)=eK d:=rfl
theorem AOO(d:Rv):J1 (.inr (.inl d))=PG d:=rfl
theorem AOP(d:Sg):J1 (.inr (.inr (.inl d)))=MD d:=rfl
theorem AOQ(d:Ql):J1 (.inr (.inr (.inr (.inl d))))=TS d:=rfl
theorem AOR(d:Int):J1 (.inr (.inr (.inr (.inr (.inl d)))))=Nm d:=rfl
theorem EL{α:Type}{l:List α}{i j:Nat}{a:α}:a∈(l.take i).drop j->a∈l:=λh=>DA (List.mem_of_mem_drop h)
theorem EJ{α:Type}(l:List α)(i j:Nat):((l.take i).drop j).length=min i l.length-j:=oc
theorem eL{xs:List DW}{sep:DW}{m k c:Nat}:(∀s∈xs,s.length<=m)->xs.length<=k->sep.length<=c->(Lib.join xs sep).length<=k*(m+c):=λh hk hc=>
 AU (rD sep m xs h) (Nat.mul_le_mul hk o5)
theorem EM(s:DW):EG s []=decide (s.length=0):=by rw[E3];cases s<;>simp
theorem AOS(x:DW×Int×M5×Int)(h:0<=x.2.2.2/\0<=x.2.1/\x.2.1+x.2.2.2<=x.1.length/\x.1.length<=1048576/\(∀c,Tot (x.2.2.1 c) λ_=>True)/\(∀j:Nat,x.2.1<=j->j<x.2.1+x.2.2.2->∀c,x.1[j]?=some c->x.2.2.1 (c.toNat:Int)=some true)):
 Tot (lA x) (λr:Int=>x.2.2.2<=r/\x.2.1+r<=x.1.length/\(∀j:Nat,x.2.1<=j->j<x.2.1+r->∀c,x.1[j]?=some c->x.2.2.1 (c.toNat:Int)=some true)/\∀c,x.1[(x.2.1+r).toNat]?=some c->x.2.2.1 (c.toNat:Int)=some false):=by
 obtain⟨s,at_,f,n⟩:=x;dsimp only at h ⊢
 refine E_ (R:=λr:Int=>n<=r/\at_+r<=s.length/\(∀j:Nat,at_<=j->j<at_+r->∀c,s[j]?=some c->f (c.toNat:Int)=some true)/\∀c,s[(at_+r).toNat]?=some c->f (c.toNat:Int)=some false)
  (λy:DW×Int×M5×Int=>y.1=s/\y.2.1=at_/\y.2.2.1=f/\n<=y.2.2.2/\at_+y.2.2.2<=s.length/\(∀j:Nat,at_<=j->j<at_+y.2.2.2->∀c,s[j]?=some c->f (c.toNat:Int)=some true)) (λy=>(s.length-at_-y.2.2.2).toNat) ?_ _ _ ⟨rfl,rfl,rfl,BF _,h.2.2.1,h.2.2.2.2.2⟩ (by unfold fuel;dsimp only;omega)
 rintro next ⟨s',at',f',m⟩ hI hn
 dsimp only at hI hn;obtain⟨rfl,rfl,rfl,h1,h2,h3⟩:=hI;obtain⟨g1,g2,g3,g4,g5,_⟩:=h;unfold yN;dsimp only;rw[EW o5 o5];by_cases hc:at'+m<s'.length
 .rw[A7 hc];simp only[AA,CE];refine DX.2 (EZ.2 ⟨⟨o5,o5⟩,λb hb=>?_⟩);obtain⟨r,hr,_⟩:=g5 (b.toNat:Int);rw[hr];refine DX.2 (DY.2 ?_);refine DZ.2 ⟨λe=>?_,λe=>DY.2 ⟨h1,h2,h3,λc hc'=>?_⟩⟩
  .subst e;rw[EW o5 o5];refine hn _ ⟨rfl,rfl,rfl,o7,o7,?_⟩ o7;intro j hj1 hj2 c hjc;dsimp only at hj2;by_cases hj3:(j:Int)<at'+m
   .exact h3 j hj1 hj3 c hjc
   .have:j=(at'+m).toNat:=o5
    subst this;rw[hb]at hjc;cases hjc;exact hr
  .subst e;rw[hb]at hc';cases hc';exact hr
 .rw[AE hc];simp only[AC,D6];refine DX.2 (DY.2 ?_);refine DX.2 (DY.2 ?_);refine DY.2 ⟨h1,h2,h3,λc hc'=>?_⟩;have:=(A8.1 hc').1;omega
theorem eM(x:DW×Int×M5)(h:0<=x.2.1/\x.2.1<=x.1.length/\x.1.length<=1048576/\(∀c,Tot (x.2.2 c) λ_=>True)):
 Tot (HU x) (λr:Int=>0<=r/\x.2.1+r<=x.1.length/\(∀j:Nat,x.2.1<=j->j<x.2.1+r->∀c,x.1[j]?=some c->x.2.2 (c.toNat:Int)=some true)/\∀c,x.1[(x.2.1+r).toNat]?=some c->x.2.2 (c.toNat:Int)=some false):=by
 obtain⟨s,a,f⟩:=x;dsimp only at h ⊢;unfold HU;refine DX.2 ((AOS _ ⟨BF _,h.1,o7,h.2.2.1,h.2.2.2,λj h1 h2=>by dsimp only at h1 h2;omega⟩).mono λr hr=>DY.2 ?_);exact hr
theorem AOT(x:DW×Int×M5)(h:0<=x.2.1/\x.2.1<=x.1.length/\x.1.length<=1048576/\(∀c,Tot (x.2.2 c) λ_=>True)):
 Tot (HU x) (λr:Int=>0<=r/\x.2.1+r<=x.1.length):=(eM x h).mono λ_ hr=>⟨hr.1,hr.2.1⟩
theorem LU(x:DW×Int×M5)(hf:∀c,Tot (x.2.2 c) (λ_=>True))(h:0<=x.2.1/\x.2.1<=x.1.length/\x.1.length<=1048576):
 Tot (HU x) (λr:Int=>0<=r/\x.2.1+r<=x.1.length):=AOT x ⟨h.1,h.2.1,h.2.2,hf⟩
theorem GR{α β:Type}{f:α->Option β}{P:β->Prop}{c:α}(h:Tot (f c) P):Tot ((f c).bind λr=>some r) λ_=>True:=DX.2 (h.mono λ_ _=>DY.2 trivial)
theorem A6t(c:Int):Tot ((H3 c).bind λr=>some r) λ_=>True:=⟨_,rfl,trivial⟩
theorem H4(c:Int)(h:True):Tot (H3 c) λ_=>True:=⟨_,rfl,trivial⟩
theorem I7(c:Int)(h:True):Tot (MQ c) λ_=>True:=⟨_,rfl,trivial⟩
theorem AOU(c:Int)(h:True):Tot (lG c) λ_=>True:=⟨_,rfl,trivial⟩
theorem A6u(c:Int)(h:True):Tot (lJ c) λ_=>True:=⟨_,rfl,trivial⟩
theorem AOV(b:UInt8)(h:((H3 (b.toNat:Int)).bind λr=>some r)=some true):S3 b:=by
 unfold H3 at h;simp at h;unfold S3;omega
theorem JW(s:DW)(h:s.length<=1048576):Tot (IL s) (λr:Int×Bool=>0<=r.1/\r.1<=999999999999999999):=by
 unfold IL;dsimp only;cases hv:(EG s []||decide ((18:Int)<(s.length:Int)))with
 |true=>simp only[C0,AC,Bool.true_or,AA];exact DX.2 (DY.2 (DY.2 od))
 |false=>
  simp only[D7,AA,CC];refine DX.2 ((eM _ ⟨BF _,o7,h,A6t⟩).mono λr hr=>?_);refine DZ.2 ⟨λ_=>DY.2 od,λe=>?_⟩;refine DX.2 ((AOF s h).mono λr3 h3=>DY.2 ?_);have hv1:=(BS.1 hv);have e1:r=s.length:=by simpa[E0]using e
  dsimp only at hr;refine h3 (by simpa[E3]using hv1.1) (λb hb=>?_) (by have:=AO hv1.2;omega);obtain⟨j,hj,hjb⟩:=List.mem_iff_getElem.1 hb;exact AOV b (hr.2.2.1 j o5 o5 b (by rw[<-hjb];exact A0 hj))
theorem AOW(x:(List E5)×Int×H2×Int)(h:(∀p,Tot (x.2.2.1 p) λ_=>True)/\0<=x.2.1/\x.2.1<=x.2.2.2/\x.2.2.2<x.1.length/\x.1.length<=1048576):
 Tot (mJ x) (λr:List E5=>r.length=x.1.length/\∀q∈r,q∈x.1):=by
 refine E_ (R:=λr:List E5=>r.length=x.1.length/\∀q∈r,q∈x.1) (λy:(List E5)×Int×H2×Int=>(∀p,Tot (y.2.2.1 p) λ_=>True)/\0<=y.2.1/\y.2.1<=y.2.2.2/\y.2.2.2<y.1.length/\y.1.length<=1048576/\y.1.length=x.1.length/\∀q∈y.1,q∈x.1)
  (λy=>y.2.2.2.toNat) ?_ _ _ ⟨h.1,h.2.1,h.2.2.1,h.2.2.2.1,h.2.2.2.2,rfl,λq hq=>hq⟩ (by obtain⟨_,_,_,_,_⟩:=h;unfold fuel;omega)
 rintro next ⟨data_0,a_1,cmp_3,j_9⟩ h hn
 dsimp only at h hn;obtain⟨h0,h1,h2,h3,h4,h5,h6⟩:=h;unfold zR;dsimp only;by_cases hc:a_1<j_9
 .have hw:i64.wrap (j_9-1)=j_9-1:=EW o5 o5;simp only[hw,A7 hc,AA,CE];refine DX.2 (FD.2 ⟨⟨o5,o5⟩,?_⟩);refine DX.2 (FD.2 ⟨⟨o5,o5⟩,?_⟩);refine DX.2 ((h0 _).mono λr3 _=>?_);refine DZ.2 ⟨λ_=>?_,λ_=>DY.2 ⟨h5,h6⟩⟩;refine DX.2 (FD.2 ⟨⟨o5,o5⟩,?_⟩);refine DX.2 (FD.2 ⟨⟨o5,o5⟩,?_⟩);refine DX.2 (FD.2 ⟨⟨o5,o5⟩,?_⟩);refine DX.2 (FD.2 ⟨⟨o5,by rw[AP];omega⟩,?_⟩);refine hn _ ⟨h0,h1,o7,by simp only[AP];omega,by simp only[AP];omega,by simp only[AP];omega,λq hq=>?_⟩ o7;rcases ED hq with hq|rfl
  .rcases ED hq with hq|rfl
   .exact h6 q hq
   .exact h6 _ (EC o5)
  .exact h6 _ (EC o5)
 .simp only[AE hc,AC,D6];refine DX.2 (DY.2 ?_);refine DX.2 (DY.2 ?_);refine DX.2 (DY.2 ?_);exact DY.2 ⟨h5,h6⟩
theorem AOX(x:(List E5)×Int×Int×H2×Int)(h:(∀p,Tot (x.2.2.2.1 p) λ_=>True)/\0<=x.2.1/\x.2.1<=x.2.2.2.2/\x.2.2.1<=x.1.length/\x.2.2.2.2<=1048577/\x.1.length<=1048576):
 Tot (mK x) (λr:List E5=>r.length=x.1.length/\∀q∈r,q∈x.1):=by
 refine E_ (R:=λr:List E5=>r.length=x.1.length/\∀q∈r,q∈x.1) (λy:(List E5)×Int×Int×H2×Int=>(∀p,Tot (y.2.2.2.1 p) λ_=>True)/\0<=y.2.1/\y.2.1<=y.2.2.2.2/\y.2.2.1<=y.1.length/\y.2.2.2.2<=1048577/\y.1.length<=1048576/\y.1.length=x.1.length/\∀q∈y.1,q∈x.1)
  (λy=>(y.2.2.1-y.2.2.2.2).toNat) ?_ _ _ ⟨h.1,h.2.1,h.2.2.1,h.2.2.2.1,h.2.2.2.2.1,h.2.2.2.2.2,rfl,λq hq=>hq⟩ (by obtain⟨_,_,_,_,_,_⟩:=h;unfold fuel;omega)
 rintro next ⟨data_0,a_1,b_2,cmp_3,i_8⟩ h hn
 dsimp only at h hn;obtain⟨h0,h1,h2,h3,h4,h5,h6,h7⟩:=h;unfold zS;dsimp only;refine DZ.2 ⟨λhc=>?_,λ_=>DY.2 ⟨h6,h7⟩⟩;have hc:=A9 hc;have hw:i64.wrap (i_8+1)=i_8+1:=EW o5 o5;rw[hw];refine DX.2 ((AOW _ ⟨h0,h1,h2,o7,h5⟩).mono λr hr=>?_);dsimp only at hr;obtain⟨e1,e2⟩:=hr;exact hn _ ⟨h0,h1,o7,o7,o7,o7,o7,λq hq=>h7 q (e2 q hq)⟩ o7
theorem A6v(x:(List E5)×Int×Int×H2)(h:(∀p,Tot (x.2.2.2 p) λ_=>True)/\0<=x.2.1/\x.2.1<=1048576/\x.2.2.1<=x.1.length/\x.1.length<=1048576):
 Tot (V0 x) (λr:List E5=>r.length=x.1.length/\∀q∈r,q∈x.1):=by
 obtain⟨data_0,a_1,b_2,cmp_3⟩:=x;dsimp only at h;obtain⟨h0,h1,h2,h3,h4⟩:=h;unfold V0;dsimp only;rw[EW o5 o5];exact DX.2 ((AOX _ ⟨h0,h1,o7,h3,o7,h4⟩).mono λr hr=>DY.2 hr)
theorem AOY(x:(List E5)×Int×Int×Int×Int)(h:0<=x.2.1/\0<=x.2.2.1/\x.2.1+x.2.2.2.1<=x.1.length/\x.2.2.1+x.2.2.2.1<=x.1.length/\0<=x.2.2.2.2/\x.1.length<=1048576):
 Tot (mL x) (λr:List E5=>r.length=x.1.length/\∀q∈r,q∈x.1):=by
 refine E_ (R:=λr:List E5=>r.length=x.1.length/\∀q∈r,q∈x.1) (λy:(List E5)×Int×Int×Int×Int=>0<=y.2.1/\0<=y.2.2.1/\y.2.1+y.2.2.2.1<=y.1.length/\y.2.2.1+y.2.2.2.1<=y.1.length/\0<=y.2.2.2.2/\y.1.length<=1048576/\y.1.length=x.1.length/\∀q∈y.1,q∈x.1)
  (λy=>(y.2.2.2.1-y.2.2.2.2).toNat) ?_ _ _ ⟨h.1,h.2.1,h.2.2.1,h.2.2.2.1,h.2.2.2.2.1,h.2.2.2.2.2,rfl,λq hq=>hq⟩ (by obtain⟨_,_,_,_,_,_⟩:=h;unfold fuel;omega)
 rintro next ⟨data_0,a_1,b_2,n_3,i_10⟩ h hn
 dsimp only at h hn;obtain⟨h1,h2,h3,h4,h5,h6,h7,h8⟩:=h;unfold zT;dsimp only;refine DZ.2 ⟨λhc=>?_,λ_=>DY.2 ⟨h7,h8⟩⟩;have hc:=A9 hc;have hw1:i64.wrap (a_1+i_10)=a_1+i_10:=EW o5 o5;have hw2:i64.wrap (b_2+i_10)=b_2+i_10:=EW o5 o5;have hw3:i64.wrap (i_10+1)=i_10+1:=EW o5 o5;rw[hw1,hw2,hw3];refine DX.2 (FD.2 ⟨⟨o5,o5⟩,?_⟩);refine DX.2 (FD.2 ⟨⟨o5,o5⟩,?_⟩);refine DX.2 (FD.2 ⟨⟨o5,o5⟩,?_⟩);refine DX.2 (FD.2 ⟨⟨o5,by rw[AP];omega⟩,?_⟩);refine hn _ ⟨h1,h2,by simp only[AP];omega,by simp only[AP];omega,o7,by simp only[AP];omega,by simp only[AP];omega,λq hq=>?_⟩ o7;rcases ED hq with hq|rfl
 .rcases ED hq with hq|rfl
  .exact h8 q hq
  .exact h8 _ (EC o5)
 .exact h8 _ (EC o5)
theorem rL(x:(List E5)×Int×Int×Int×H2)(h:0<=x.2.1/\0<=x.2.2.1/\x.2.1+x.2.2.2.1<=x.1.length/\x.2.2.1+x.2.2.2.1<=x.1.length/\x.1.length<=1048576):
 Tot (RN x) (λr:List E5=>r.length=x.1.length/\∀q∈r,q∈x.1):=by
 obtain⟨data_0,a_1,b_2,n_3,cmp_4⟩:=x;obtain⟨h1,h2,h3,h4,h5⟩:=h;unfold RN;dsimp only;exact DX.2 ((AOY _ ⟨h1,h2,h3,h4,BF _,h5⟩).mono λr hr=>DY.2 hr)
theorem AOZ(x:(List E5)×Int×H2×Int×Int)(h:0<x.2.2.2.1/\0<x.2.2.2.2/\x.2.2.2.1<=x.2.1/\x.2.1+x.2.2.2.2<=x.1.length/\x.1.length<=1048576):
 Tot (mM x) (λr:(List E5)×Int=>r.1.length=x.1.length/\(∀q∈r.1,q∈x.1)/\0<r.2/\r.2<=x.2.1/\x.2.1+r.2<=x.1.length):=by
 refine E_ (R:=λr:(List E5)×Int=>r.1.length=x.1.length/\(∀q∈r.1,q∈x.1)/\0<r.2/\r.2<=x.2.1/\x.2.1+r.2<=x.1.length) (λy:(List E5)×Int×H2×Int×Int=>0<y.2.2.2.1/\0<y.2.2.2.2/\y.2.2.2.1<=y.2.1/\y.2.1+y.2.2.2.2<=y.1.length/\y.1.length<=1048576/\y.1.length=x.1.length/\(∀q∈y.1,q∈x.1)/\y.2.1=x.2.1)
  (λy=>(y.2.2.2.1+y.2.2.2.2).toNat) ?_ _ _ ⟨h.1,h.2.1,h.2.2.1,h.2.2.2.1,h.2.2.2.2,rfl,(λq hq=>hq),rfl⟩ (by obtain⟨_,_,_,_,_⟩:=h;unfold fuel;omega)
 rintro next ⟨data_0,m_2,cmp_4,i_10,j_11⟩ h hn
 dsimp only at h hn;obtain⟨h1,h2,h3,h4,h5,h6,h7,h8⟩:=h;unfold zU;dsimp only;refine DZ.2 ⟨λhc=>?_,λhc=>DY.2 ⟨h6,h7,h1,o7,?_⟩⟩
 .have hc:i_10≠j_11:=by rw[E0]at hc;simpa using hc
  have hw1:i64.wrap (m_2-i_10)=m_2-i_10:=EW o5 o5;have hw2:i64.wrap (m_2+j_11)=m_2+j_11:=EW o5 o5;have hw3:i64.wrap (m_2+j_11-i_10)=m_2+j_11-i_10:=EW o5 o5;have hw4:i64.wrap (i_10-j_11)=i_10-j_11:=EW o5 o5;have hw5:i64.wrap (j_11-i_10)=j_11-i_10:=EW o5 o5;rw[hw1,hw2,hw3,hw4,hw5];refine DZ.2 ⟨λhd=>?_,λhd=>?_⟩
  .have hd:=A9 hd;refine DX.2 ((rL _ ⟨o7,o7,o7,o7,h5⟩).mono λr hr=>?_);dsimp only at hr;exact hn _ ⟨o7,h2,o7,o7,o7,o7,λq hq=>h7 q (hr.2 q hq),h8⟩ o7
  .have hd:=AO hd;refine DX.2 ((rL _ ⟨o7,o7,o7,o7,h5⟩).mono λr hr=>?_);dsimp only at hr;exact hn _ ⟨h1,o7,h3,o7,o7,o7,λq hq=>h7 q (hr.2 q hq),h8⟩ o7
 .have hc:i_10=j_11:=by rw[E0]at hc;simpa using hc
  omega
theorem AO_(x:(List E5)×Int×Int×Int×H2)(h:0<=x.2.1/\x.2.1<x.2.2.1/\x.2.2.1<x.2.2.2.1/\x.2.2.2.1<=x.1.length/\x.1.length<=1048576):
 Tot (bQ x) (λr:List E5=>r.length=x.1.length/\∀q∈r,q∈x.1):=by
 obtain⟨data_0,a_1,m_2,b_3,cmp_4⟩:=x;dsimp only at h;obtain⟨h1,h2,h3,h4,h5⟩:=h;unfold bQ;dsimp only;rw[EW (n:=m_2-a_1) o5 o5,EW (n:=b_3-m_2) o5 o5];refine DX.2 ((AOZ _ ⟨o7,o7,o7,o7,h5⟩).mono λr hr=>?_);dsimp only at hr;obtain⟨e1,e2,e3,e4,e5⟩:=hr;rw[EW (n:=m_2-r.2) o5 o5];refine DX.2 ((rL _ ⟨o7,o7,o7,o7,o7⟩).mono λr4 hr=>DY.2 ?_);dsimp only at hr;exact⟨o5,λq hq=>e2 q (hr.2 q hq)⟩
theorem AOa(slf:(List E5)×Int×Int×Int×H2->Option (List E5))(x:(List E5)×Int×H2×Int×Int)(h:(∀p,Tot (x.2.2.1 p) λ_=>True)/\0<=x.2.1/\x.2.1<x.1.length/\0<=x.2.2.2.1/\x.2.2.2.1<=x.2.2.2.2/\x.2.2.2.2<=x.1.length/\x.1.length<=1048576):
 Tot (mN slf x) (λr:(List E5)×Int=>r.1=x.1/\x.2.2.2.1<=r.2/\r.2<=x.2.2.2.2):=by
 refine E_ (R:=λr:(List E5)×Int=>r.1=x.1/\x.2.2.2.1<=r.2/\r.2<=x.2.2.2.2) (λy:(List E5)×Int×H2×Int×Int=>(∀p,Tot (y.2.2.1 p) λ_=>True)/\0<=y.2.1/\y.2.1<y.1.length/\0<=y.2.2.2.1/\y.2.2.2.1<=y.2.2.2.2/\y.2.2.2.2<=y.1.length/\y.1.length<=1048576/\y.1=x.1/\x.2.2.2.1<=y.2.2.2.1/\y.2.2.2.2<=x.2.2.2.2)
  (λy=>(y.2.2.2.2-y.2.2.2.1).toNat) ?_ _ _ ⟨h.1,h.2.1,h.2.2.1,h.2.2.2.1,h.2.2.2.2.1,h.2.2.2.2.2.1,h.2.2.2.2.2.2,rfl,BF _,BF _⟩ (by obtain⟨_,_,_,_,_,_,_⟩:=h;unfold fuel;omega)
 rintro next ⟨data_0,a_1,cmp_4,i_10,j_11⟩ h hn
 dsimp only at h hn;obtain⟨h0,h1,h2,h3,h4,h5,h6,h7,h8,h9⟩:=h;unfold zV;dsimp only;refine DZ.2 ⟨λhc=>?_,λhc=>DY.2 ⟨h7,h8,o7⟩⟩;have hc:=A9 hc;refine DX.2 (NX o5 o5 o5 o5 ?_);have hw1:i64.wrap ((i_10+j_11) / 2)=(i_10+j_11) / 2:=EW o5 o5;have hw2:i64.wrap ((i_10+j_11) / 2+1)=(i_10+j_11) / 2+1:=EW o5 o5;rw[hw1,hw2];refine DX.2 (FD.2 ⟨⟨o5,o5⟩,?_⟩);refine DX.2 (FD.2 ⟨⟨o5,o5⟩,?_⟩);refine DX.2 ((h0 _).mono λr4 _=>?_);refine DZ.2 ⟨λ_=>?_,λ_=>?_⟩
 .exact hn _ ⟨h0,h1,h2,o7,o7,h5,h6,h7,o7,h9⟩ o7
 .exact hn _ ⟨h0,h1,h2,h3,o7,o7,h6,h7,h8,o7⟩ o7
theorem AOb(slf:(List E5)×Int×Int×Int×H2->Option (List E5))(x:(List E5)×Int×Int)(h:0<=x.2.1/\x.2.1<=x.1.length/\0<=x.2.2/\x.1.length<=1048576):
 Tot (mO slf x) (λr:List E5=>r.length=x.1.length/\∀q∈r,q∈x.1):=by
 refine E_ (R:=λr:List E5=>r.length=x.1.length/\∀q∈r,q∈x.1) (λy:(List E5)×Int×Int=>0<=y.2.1/\y.2.1<=y.1.length/\0<=y.2.2/\y.1.length<=1048576/\y.1.length=x.1.length/\∀q∈y.1,q∈x.1)
  (λy=>(y.2.1-y.2.2).toNat) ?_ _ _ ⟨h.1,h.2.1,h.2.2.1,h.2.2.2,rfl,λq hq=>hq⟩ (by obtain⟨_,_,_,_⟩:=h;unfold fuel;omega)
 rintro next ⟨data_0,i_10,k_13⟩ h hn
 dsimp only at h hn;obtain⟨h1,h2,h3,h4,h5,h6⟩:=h;unfold zW;dsimp only;rw[EW (n:=i_10-1) o5 o5];refine DZ.2 ⟨λhc=>?_,λhc=>DY.2 ⟨h5,h6⟩⟩;have hc:=A9 hc;have hw:i64.wrap (k_13+1)=k_13+1:=EW o5 o5;rw[hw];refine DX.2 (FD.2 ⟨⟨o5,o5⟩,?_⟩);refine DX.2 (FD.2 ⟨⟨o5,o5⟩,?_⟩);refine DX.2 (FD.2 ⟨⟨o5,o5⟩,?_⟩);refine DX.2 (FD.2 ⟨⟨o5,by rw[AP];omega⟩,?_⟩);refine hn _ ⟨h1,by simp only[AP];omega,o7,by simp only[AP];omega,by simp only[AP];omega,λq hq=>?_⟩ o7;rcases ED hq with hq|rfl
 .rcases ED hq with hq|rfl
  .exact h6 q hq
  .exact h6 _ (EC o5)
 .exact h6 _ (EC o5)
theorem AOc(slf:(List E5)×Int×Int×Int×H2->Option (List E5))(x:(List E5)×Int×Int)(h:0<=x.2.1/\x.2.2<x.1.length/\x.1.length<=1048576):
 Tot (mQ slf x) (λr:List E5=>r.length=x.1.length/\∀q∈r,q∈x.1):=by
 refine E_ (R:=λr:List E5=>r.length=x.1.length/\∀q∈r,q∈x.1) (λy:(List E5)×Int×Int=>0<=y.2.1/\y.2.2<y.1.length/\y.1.length<=1048576/\y.1.length=x.1.length/\∀q∈y.1,q∈x.1)
  (λy=>(y.2.2-y.2.1).toNat) ?_ _ _ ⟨h.1,h.2.1,h.2.2,rfl,λq hq=>hq⟩ (by obtain⟨_,_,_⟩:=h;unfold fuel;omega)
 rintro next ⟨data_0,i_14,k_17⟩ h hn
 dsimp only at h hn;obtain⟨h1,h2,h4,h5,h6⟩:=h;unfold zY;dsimp only;refine DZ.2 ⟨λhc=>?_,λhc=>DY.2 ⟨h5,h6⟩⟩;have hc:=A9 hc;have hw:i64.wrap (k_17-1)=k_17-1:=EW o5 o5;rw[hw];refine DX.2 (FD.2 ⟨⟨o5,o5⟩,?_⟩);refine DX.2 (FD.2 ⟨⟨o5,o5⟩,?_⟩);refine DX.2 (FD.2 ⟨⟨o5,o5⟩,?_⟩);refine DX.2 (FD.2 ⟨⟨o5,by rw[AP];omega⟩,?_⟩);refine hn _ ⟨h1,by simp only[AP];omega,by simp only[AP];omega,by simp only[AP];omega,λq hq=>?_⟩ o7;rcases ED hq with hq|rfl
 .rcases ED hq with hq|rfl
  .exact h6 q hq
  .exact h6 _ (EC o5)
 .exact h6 _ (EC o5)
theorem AOd(slf:(List E5)×Int×Int×Int×H2->Option (List E5))(x:(List E5)×Int×H2×Int×Int)(h:(∀p,Tot (x.2.2.1 p) λ_=>True)/\0<=x.2.1/\x.2.1<x.1.length/\0<=x.2.2.2.1/\x.2.2.2.1<=x.2.2.2.2/\x.2.2.2.2<=x.1.length/\x.1.length<=1048576):
 Tot (mP slf x) (λr:(List E5)×Int=>r.1=x.1/\x.2.2.2.1<=r.2/\r.2<=x.2.2.2.2):=by
 refine E_ (R:=λr:(List E5)×Int=>r.1=x.1/\x.2.2.2.1<=r.2/\r.2<=x.2.2.2.2) (λy:(List E5)×Int×H2×Int×Int=>(∀p,Tot (y.2.2.1 p) λ_=>True)/\0<=y.2.1/\y.2.1<y.1.length/\0<=y.2.2.2.1/\y.2.2.2.1<=y.2.2.2.2/\y.2.2.2.2<=y.1.length/\y.1.length<=1048576/\y.1=x.1/\x.2.2.2.1<=y.2.2.2.1/\y.2.2.2.2<=x.2.2.2.2)
  (λy=>(y.2.2.2.2-y.2.2.2.1).toNat) ?_ _ _ ⟨h.1,h.2.1,h.2.2.1,h.2.2.2.1,h.2.2.2.2.1,h.2.2.2.2.2.1,h.2.2.2.2.2.2,rfl,BF _,BF _⟩ (by obtain⟨_,_,_,_,_,_,_⟩:=h;unfold fuel;omega)
 rintro next ⟨data_0,m_2,cmp_4,i_14,j_15⟩ h hn
 dsimp only at h hn;obtain⟨h0,h1,h2,h3,h4,h5,h6,h7,h8,h9⟩:=h;unfold zX;dsimp only;refine DZ.2 ⟨λhc=>?_,λhc=>DY.2 ⟨h7,h8,o7⟩⟩;have hc:=A9 hc;refine DX.2 (NX o5 o5 o5 o5 ?_);have hw1:i64.wrap ((i_14+j_15) / 2)=(i_14+j_15) / 2:=EW o5 o5;have hw2:i64.wrap ((i_14+j_15) / 2+1)=(i_14+j_15) / 2+1:=EW o5 o5;rw[hw1,hw2];refine DX.2 (FD.2 ⟨⟨o5,o5⟩,?_⟩);refine DX.2 (FD.2 ⟨⟨o5,o5⟩,?_⟩);refine DX.2 ((h0 _).mono λr13 _=>?_);refine DZ.2 ⟨λ_=>?_,λ_=>?_⟩
 .exact hn _ ⟨h0,h1,h2,o7,o7,h5,h6,h7,o7,h9⟩ o7
 .exact hn _ ⟨h0,h1,h2,h3,o7,o7,h6,h7,h8,o7⟩ o7
theorem AOe(slf:(List E5)×Int×Int×Int×H2->Option (List E5))(x:(List E5)×H2×Int×Int×Int)(h:(∀p,Tot (x.2.1 p) λ_=>True)/\0<=x.2.2.1/\x.2.2.1<=x.2.2.2.1/\x.2.2.2.1<=x.1.length/\x.2.2.2.1-1<=x.2.2.2.2/\x.2.2.2.2-x.2.2.1<x.1.length/\x.1.length<=1048576):
 Tot (mR slf x) (λr:(List E5)×Int=>r.1=x.1/\x.2.2.1<=r.2/\r.2<=x.2.2.2.1):=by
 refine E_ (R:=λr:(List E5)×Int=>r.1=x.1/\x.2.2.1<=r.2/\r.2<=x.2.2.2.1) (λy:(List E5)×H2×Int×Int×Int=>(∀p,Tot (y.2.1 p) λ_=>True)/\0<=y.2.2.1/\y.2.2.1<=y.2.2.2.1/\y.2.2.2.1<=y.1.length/\y.2.2.2.1-1<=y.2.2.2.2/\y.2.2.2.2-y.2.2.1<y.1.length/\y.1.length<=1048576/\y.1=x.1/\x.2.2.1<=y.2.2.1/\y.2.2.2.1<=x.2.2.2.1)
  (λy=>(y.2.2.2.1-y.2.2.1).toNat) ?_ _ _ ⟨h.1,h.2.1,h.2.2.1,h.2.2.2.1,h.2.2.2.2.1,h.2.2.2.2.2.1,h.2.2.2.2.2.2,rfl,BF _,BF _⟩ (by obtain⟨_,_,_,_,_,_,_⟩:=h;unfold fuel;omega)
 rintro next ⟨data_0,cmp_4,start_20,r_21,p_22⟩ h hn
 dsimp only at h hn;obtain⟨h0,h1,h2,h3,h4,h5,h6,h7,h8,h9⟩:=h;unfold zZ;dsimp only;refine DZ.2 ⟨λhc=>?_,λhc=>DY.2 ⟨h7,h8,o7⟩⟩;have hc:=A9 hc;refine DX.2 (NX o5 o5 o5 o5 ?_);have hw1:i64.wrap ((start_20+r_21) / 2)=(start_20+r_21) / 2:=EW o5 o5;have hw2:i64.wrap ((start_20+r_21) / 2+1)=(start_20+r_21) / 2+1:=EW o5 o5;have hw3:i64.wrap (p_22-(start_20+r_21) / 2)=p_22-(start_20+r_21) / 2:=EW o5 o5;rw[hw1,hw2,hw3];refine DX.2 (FD.2 ⟨⟨o5,o5⟩,?_⟩);refine DX.2 (FD.2 ⟨⟨o5,o5⟩,?_⟩);refine DX.2 ((h0 _).mono λr4 _=>?_);refine DZ.2 ⟨λ_=>?_,λ_=>?_⟩
 .exact hn _ ⟨h0,o7,o7,h3,h4,o7,h6,h7,o7,h9⟩ o7
 .exact hn _ ⟨h0,h1,o7,o7,o7,h5,h6,h7,h8,o7⟩ o7
theorem AOf(slf:(List E5)×Int×Int×Int×H2->Option (List E5))(x:(List E5)×Int×H2×Int×Int×Bool)(h:x.1.length<=1048576/\(x.2.2.2.2.2=true->0<=x.2.2.2.1/\x.2.2.2.1<x.2.1/\x.2.1<x.2.2.2.2.1/\x.2.2.2.2.1<=x.1.length)):
 Tot (bT slf x) (λr:List E5=>r.length=x.1.length/\∀q∈r,q∈x.1):=by
 obtain⟨data_0,m_2,cmp_4,start_20,end_24,t185⟩:=x;dsimp only at h;unfold bT;dsimp only;refine DZ.2 ⟨λhc=>?_,λ_=>DY.2 ⟨rfl,λq hq=>hq⟩⟩;obtain⟨h1,h2,h3,h4⟩:=h.2 hc;exact DX.2 ((AO_ _ ⟨h1,h2,h3,h4,h.1⟩).mono λr hr=>DY.2 hr)
theorem AOg(slf:(List E5)×Int×Int×Int×H2->Option (List E5))(K:Int)(ih:∀y:(List E5)×Int×Int×Int×H2,((∀p,Tot (y.2.2.2.2 p) λ_=>True)/\0<=y.2.1/\y.2.1<y.2.2.1/\y.2.2.1<y.2.2.2.1/\y.2.2.2.1<=y.1.length/\y.1.length<=1048576)->y.2.2.2.1-y.2.1<=K->Tot (slf y) (λr:List E5=>r.length=y.1.length/\∀q∈r,q∈y.1))(x:(List E5)×Int×Int×Int×H2)(h:(∀p,Tot (x.2.2.2.2 p) λ_=>True)/\0<=x.2.1/\x.2.1<x.2.2.1/\x.2.2.1<x.2.2.2.1/\x.2.2.2.1<=x.1.length/\x.1.length<=1048576)(hK:x.2.2.2.1-x.2.1<=2*K):
 Tot (mS slf x) (λr:List E5=>r.length=x.1.length/\∀q∈r,q∈x.1):=by
 obtain⟨data_0,a_1,m_2,b_3,cmp_4⟩:=x;dsimp only at h hK;obtain⟨h0,h1,h2,h3,h4,h5⟩:=h;unfold mS;dsimp only;rw[EW (n:=m_2-a_1) o5 o5,EW (n:=b_3-m_2) o5 o5];refine DZ.2 ⟨λ_=>?_,λ_=>DZ.2 ⟨λ_=>?_,λ_=>?_⟩⟩
 .refine DX.2 ((AOa slf _ ⟨h0,h1,o7,o7,o7,h4,h5⟩).mono λr5 hr=>?_);dsimp only at hr;obtain⟨e1,e2,e3⟩:=hr;refine DX.2 ((AOb slf _ ⟨o7,by dsimp only;rw[e1];omega,h1,by dsimp only;rw[e1];exact h5⟩).mono λr9 hr=>DY.2 ?_);dsimp only at hr;rw[e1]at hr;exact hr
 .refine DX.2 ((AOd slf _ ⟨h0,o7,o7,h1,o7,o7,h5⟩).mono λr5 hr=>?_);dsimp only at hr;obtain⟨e1,e2,e3⟩:=hr;refine DX.2 ((AOc slf _ ⟨o7,by dsimp only;rw[e1];omega,by dsimp only;rw[e1];exact h5⟩).mono λr9 hr=>DY.2 ?_);dsimp only at hr;rw[e1]at hr;exact hr
 .refine DX.2 (NX o5 o5 o5 o5 ?_);generalize hmid:(a_1+b_3) / 2=mid;rw[EW (n:=mid) o5 o5,EW (n:=mid+m_2) o5 o5,EW (n:=mid+m_2-1) o5 o5]
  have hp:Tot (bR slf (a_1,m_2,b_3,mid,mid+m_2,decide (mid<m_2))) λr:Int×Int=>0<=r.1/\a_1<=r.1/\mid+m_2-b_3<=r.1/\r.1<=r.2/\r.2<=m_2/\r.2<=mid+m_2/\mid+m_2-1-r.1<data_0.length:=by
   unfold bR;dsimp only;refine DZ.2 ⟨λhc=>DY.2 ?_,λhc=>DY.2 ?_⟩
   .have hc:=A9 hc;rw[EW o5 o5];dsimp only;omega
   .have hc:=AO hc;dsimp only;omega
  refine DX.2 (hp.mono λr20 hr=>?_);obtain⟨f1,f2,f3,f4,f5,f6,f7⟩:=hr;refine DX.2 ((AOe slf _ ⟨h0,f1,f4,o7,o7,f7,h5⟩).mono λr26 hr=>?_);dsimp only at hr;obtain⟨e1,e2,e3⟩:=hr;rw[EW (n:=mid+m_2-r26.2) o5 o5];refine DX.2 ((AOf slf _ ⟨by dsimp only;rw[e1];exact h5,λhc=>?_⟩).mono λr29 hr=>?_)
  .dsimp only at hc ⊢;rw[A4,AX,AX]at hc;rw[e1];omega
  dsimp only at hr;rw[e1]at hr;obtain⟨g1,g2⟩:=hr
  have hq:Tot (bU slf (r29,a_1,cmp_4,mid,r26.2,decide (a_1<r26.2)&&decide (r26.2<mid))) λr:List E5=>r.length=data_0.length/\∀q∈r,q∈data_0:=by
   unfold bU;dsimp only;refine DZ.2 ⟨λhc=>?_,λ_=>DY.2 ⟨g1,g2⟩⟩;rw[A4,AX,AX]at hc;refine DX.2 ((ih _ ⟨h0,h1,o7,o7,o7,o7⟩ o7).mono λr31 hr=>DY.2 ?_);dsimp only at hr;exact⟨o5,λq hq=>g2 q (hr.2 q hq)⟩
  refine DX.2 (hq.mono λr32 hr=>?_);obtain⟨k1,k2⟩:=hr;refine DZ.2 ⟨λhc=>?_,λ_=>DY.2 ⟨k1,k2⟩⟩;rw[A4,AX,AX]at hc;refine DX.2 ((ih _ ⟨h0,o7,o7,o7,o7,o7⟩ o7).mono λr34 hr=>DY.2 ?_);dsimp only at hr;exact⟨o5,λq hq=>k2 q (hr.2 q hq)⟩
theorem AOh:∀(n:Nat) (x:(List E5)×Int×Int×Int×H2) (h:(∀p,Tot (x.2.2.2.2 p) λ_=>True)/\0<=x.2.1/\x.2.1<x.2.2.1/\x.2.2.1<x.2.2.2.1/\x.2.2.2.1<=x.1.length/\x.1.length<=1048576) (hK:x.2.2.2.1-x.2.1<=2 ^ n),Tot (KE n x) (λr:List E5=>r.length=x.1.length/\∀q∈r,q∈x.1):=by
 intro n;induction n with
 |zero=>
  intro x h hK;obtain⟨_,h1,h2,h3,_,_⟩:=h;rw[Int.pow_zero]at hK;omega
 |succ n ih=>
  intro x h hK;refine AOg (KE n) (2 ^ n) (λy hy hk=>ih y hy hk) x h ?_;rw[Int.pow_succ]at hK;omega
theorem A6w(x:(List E5)×Int×Int×Int×H2)(h:(∀p,Tot (x.2.2.2.2 p) λ_=>True)/\0<=x.2.1/\x.2.1<x.2.2.1/\x.2.2.1<x.2.2.2.1/\x.2.2.2.1<=x.1.length/\x.1.length<=1048576):Tot (V1 x) (λr:List E5=>r.length=x.1.length/\∀q∈r,q∈x.1):=by
 unfold V1;refine AOh 100 x h ?_;obtain⟨_,h1,h2,h3,h4,h5⟩:=h;have:(1048576:Int)<=2 ^ 100:=od
 omega
theorem rM:∀(x y:DW),Op.bytesLess x y=decide (x<y):=by
 intro x;induction x with
 |nil=>intro y;cases y<;>simp[Op.bytesLess]
 |cons a x ih=>
  intro y;cases y with
  |nil=>simp[Op.bytesLess]
  |cons b y=>
   rw[Op.bytesLess,ih y];simp only[List.cons_lt_cons_iff];by_cases h1:a<b<;>by_cases h2:a=b<;>by_cases h3:x<y<;>simp[h1,h2,h3]
theorem I8(a:DW):¬a<a:=List.lt_irrefl a
theorem ME{a b c:DW}(h1:a<b)(h2:b<c):a<c:=List.lt_trans h1 h2
theorem NY(a b:DW):a<b\/a=b\/b<a:=by
 by_cases h1:a<b
 .exact Or.inl h1
 .by_cases h2:b<a
  .exact Or.inr (Or.inr h2)
  .exact Or.inr (Or.inl (List.le_antisymm (List.not_lt.1 h2) (List.not_lt.1 h1)))
theorem A6x{a b c:DW}(h1:¬a<b)(h2:¬b<c):¬a<c:=by
 intro h;rcases NY a b with h3|h3|h3
 .exact h1 h3
 .subst h3;exact h2 h
 .exact h2 (ME h3 h)
theorem S4{a b:DW}(h1:a<b):¬b<a:=λh2=>I8 a (ME h1 h2)
def J2(a b:DW):Int:=if a<b then -1 else if a=b then 0 else 1
theorem rN(a b:DW):LO (a,b)=some (J2 a b):=by
 unfold LO RB J2;have e:∀s:DW,EG s s=true:=λs=>by rw[E3];simp
 simp only[e,C0,A1,AC,rM,E3];by_cases h2:a=b
 .subst h2;simp[I8]
 .by_cases h1:a<b<;>simp[h1,h2]
theorem rP(a b:DW):J2 a b<0<->a<b:=by
 unfold J2;by_cases h2:a=b
 .subst h2;simp[I8]
 .by_cases h1:a<b<;>simp[h1,h2]
def eN(a b:Int):Int:=if a<b then -1 else if b<a then 1 else 0
theorem A6y(a b:Int):RH (a,b)=some (eN a b):=by
 unfold RH bA eN;have e:∀s:Int,E1 s s=true:=λs=>by rw[E0];simp
 simp only[e,C0,A1,AC];by_cases h1:a<b<;>by_cases h2:b<a<;>simp[h1,h2]
section
variable{T:Type}
theorem A6z(xs:List T)(F:T×T->Option Int)(h:Q_ xs F):Tot (KA xs F) (λr=>r.Perm xs/\r.Pairwise (λa b=>∀c,F (b,a)=some c->0<=c)):=by
 unfold KA;split
 .rename_i h0;unfold HQ;rw[A7 h];refine DY.2 ?_
  letI:Inhabited (Fin xs.length):=⟨⟨0,h0⟩⟩
  have hs:Sort.SWO (HZ xs F):=⟨h.2.1,h.2.2.1,h.2.2.2⟩;have hp:=Sort.pdq_sorts (HZ xs F) hs (Array.ofFn id) 0 xs.length (Lib.bitLen xs.length) true true (BQ _) oc (Or.inl rfl);have e:H6 xs F h0=Sort.pdq (HZ xs F) (Array.ofFn id) 0 xs.length (Lib.bitLen xs.length) true true:=jP xs F h0;rw[e];generalize Sort.pdq (HZ xs F) (Array.ofFn id) 0 xs.length (Lib.bitLen xs.length) true true=d at hp;obtain⟨⟨h1,_,h3⟩,h4⟩:=hp;have hsz:d.size=xs.length:=by rw[h1];simp
  have e1:d.extract 0 xs.length=d:=by
   have:=Array.extract_size (xs:=d);rwa[hsz]at this
  have e2:(Array.ofFn (id:Fin xs.length->Fin xs.length)).extract 0 xs.length=Array.ofFn id:=by
   have:=Array.extract_size (xs:=Array.ofFn (id:Fin xs.length->Fin xs.length));rwa[Array.size_ofFn]at this
  rw[e1,e2]at h3;constructor
  .have h5:=h3.map xs.get
   have e3:(Array.ofFn (id:Fin xs.length->Fin xs.length)).toList.map xs.get=xs:=by
    rw[Array.toList_ofFn,List.map_ofFn];apply List.ext_getElem
    .simp
    .intro i h1 h2;simp
   rwa[e3]at h5
  .rw[List.pairwise_map,BZ];intro i j hi hj hij c hc;have hl:d.toList.length=xs.length:=by rw[BR];exact hsz
   have h6:=h4 i j (BQ _) hij o5;rw[getElem!_pos d i o5,getElem!_pos d j o5]at h6;unfold HZ IY at h6;rw[Array.getElem_toList,Array.getElem_toList]at hc;rw[hc]at h6;simpa using h6
 .rename_i h0;have:xs=[]:=CD.1 o5;subst this;exact DY.2 ⟨List.Perm.refl _,List.Pairwise.nil⟩
theorem AOi(xs:List T)(F:T×T->Option Int)(key:T->DW)(hF:∀a b,F (a,b)=some (J2 (key a) (key b))):Q_ xs F:=by
 have e:∀i j,HZ xs F i j=decide (key (xs.get i)<key (xs.get j)):=by
  intro i j;unfold HZ IY;rw[hF];simp[rP]
 refine⟨λi j=>by rw[hF];rfl,λi=>?_,λi j k=>?_,λi j k=>?_⟩
 .rw[e];simp[I8]
 .rw[e,e,e];simp only[AX];exact ME
 .rw[e,e,e];simp only[D4];exact A6x
theorem AOj(xs:List T)(F:T×T->Option Int)(key:T->DW)(hF:∀a b,F (a,b)=some (J2 (key a) (key b))):
 Tot (KA xs F) (λr=>r.Perm xs/\r.Pairwise (λa b=>¬key b<key a)):=
 (A6z xs F (AOi xs F key hF)).mono λr hr=>⟨hr.1,hr.2.imp λ{a b} h hlt=>by
  have:=h _ (hF b a);have:=(rP (key b) (key a)).2 hlt;omega⟩
end
abbrev Edge:=Int×DW×Bool×DW
abbrev HM:=Edge×Edge
def eo(a b:Edge):Int:=if a.1≠b.1\/a.1≠0 then eN a.1 b.1 else if J2 a.2.1 b.2.1≠0\/a.2.2.1=b.2.2.1 then J2 a.2.1 b.2.1 else if a.2.2.1 then 1 else -1
theorem A70(a b:Edge):L0 (a,b)=some (eo a b):=by
 unfold L0 eo;dsimp only;rw[A6y,rN];simp only[A1,E0];by_cases h1:a.1=b.1
 .by_cases h2:a.1=0
  .have hb:J7 a.2.2.1 b.2.2.1=decide (a.2.2.1=b.2.2.1):=by cases a.2.2.1<;>cases b.2.2.1<;>rfl
   rw[hb];by_cases h3:J2 a.2.1 b.2.1=0<;>by_cases h4:a.2.2.1=b.2.2.1<;>simp[<-h1,h2,h3,h4]<;>(cases a.2.2.1<;>simp)
  .simp[<-h1,h2]
 .simp[h1]
def JF(a b:Edge):Prop:=a.1<b.1\/(a.1=b.1/\a.1=0/\(a.2.1<b.2.1\/(a.2.1=b.2.1/\a.2.2.1=false/\b.2.2.1=true)))
theorem A71(a b:Edge):eo a b<0<->JF a b:=by
 unfold eo JF eN;by_cases h1:a.1=b.1
 .by_cases h2:a.1=0
  .have hb:b.1=0:=o5
   have g1:¬(a.1≠b.1\/a.1≠0):=o5
   rw[if_neg g1];rcases NY a.2.1 b.2.1 with h3|h3|h3
   .have:J2 a.2.1 b.2.1= -1:=by unfold J2;rw[if_pos h3]
    rw[this];simp[h1,hb,h3]
   .have:J2 a.2.1 b.2.1=0:=by unfold J2;rw[if_neg (by rw[h3];exact I8 _),if_pos h3]
    rw[this,h3];cases ha:a.2.2.1<;>cases hb':b.2.2.1<;>simp[h1,hb,I8]
   .have e:¬a.2.1=b.2.1:=λe=>by rw[e]at h3;exact I8 _ h3
    have:J2 a.2.1 b.2.1=1:=by unfold J2;rw[if_neg (S4 h3),if_neg e]
    rw[this];simp[h1,hb,S4 h3,e]
  .have hb:¬b.1=0:=o5
   simp[h1,hb]
 .simp only[ne_eq,h1,not_false_eq_true,true_or,if_true,DP,or_false];by_cases h2:a.1<b.1
  .simp[h2]
  .by_cases h3:b.1<a.1
   .simp[h2,h3]
   .omega
instance(a b:Edge):Decidable (JF a b):=by unfold JF;infer_instance
theorem AOk(a:Edge):¬JF a a:=by
 rintro(h|⟨_,_,h|⟨_,h1,h2⟩⟩)
 .omega
 .exact I8 _ h
 .rw[h1]at h2;cases h2
theorem AOl{a b c:Edge}(h1:JF a b)(h2:JF b c):JF a c:=by
 unfold JF at *;rcases h1 with h1|⟨p1,p2,p3⟩
 .rcases h2 with h2|⟨q1,q2,q3⟩<;>exact Or.inl o5
 .rcases h2 with h2|⟨q1,q2,q3⟩
  .exact Or.inl o5
  .refine Or.inr ⟨o5,p2,?_⟩;rcases p3 with p3|⟨p3,p4,p5⟩
   .rcases q3 with q3|⟨q3,q4,q5⟩
    .exact Or.inl (ME p3 q3)
    .exact Or.inl (q3▸p3)
   .rcases q3 with q3|⟨q3,q4,q5⟩
    .exact Or.inl (p3▸q3)
    .rw[p5]at q4;cases q4
theorem AOm{a b c:Edge}(h1:¬JF a b)(h2:¬JF b c):¬JF a c:=by
 intro h;unfold JF at *;simp only[not_or,not_and]at h1 h2;obtain⟨a1,a2⟩:=h1;obtain⟨b1,b2⟩:=h2;rcases h with h|⟨p1,p2,p3⟩
 .omega
 .have e1:a.1=b.1:=o5
  have e2:b.1=c.1:=o5
  obtain⟨a3,a4⟩:=a2 e1 p2;obtain⟨b3,b4⟩:=b2 e2 o5;rcases p3 with p3|⟨p3,p4,p5⟩
  .exact A6x a3 b3 p3
  .rcases NY a.2.1 b.2.1 with g|g|g
   .exact a3 g
   .have g2:b.2.1=c.2.1:=g▸p3;have:=a4 g p4;have:=b4 g2 (by cases hb:b.2.2.1<;>simp_all);exact this p5
   .exact b3 (p3▸g)
theorem AOn(xs:List HM):Tot (jQ (xs,λx=>(MY x).bind λr=>some r)) (λr=>r.Perm xs/\r.Pairwise λa b=>¬JF b.1 a.1):=by
 have hF:∀a b:HM,(MY (a,b)).bind (λr=>some r)=some (eo a.1 b.1):=by
  intro a b;unfold MY;dsimp only;rw[A70];rfl
 have e:∀i j,HZ xs (λx=>(MY x).bind λr=>some r) i j=decide (JF (xs.get i).1 (xs.get j).1):=by
  intro i j;unfold HZ IY;show decide ((((MY (xs.get i,xs.get j)).bind λr=>some r).getD 0)<0)=_;rw[hF];simp only[DC];exact decide_eq_decide.2 (A71 _ _)
 have hs:Q_ xs (λx=>(MY x).bind λr=>some r):=by
  refine⟨λi j=>by show((MY (xs.get i,xs.get j)).bind λr=>some r).isSome=true;rw[hF];rfl,λi=>?_,λi j k=>?_,λi j k=>?_⟩
  .rw[e];simp[AOk]
  .rw[e,e,e];simp only[AX];exact AOl
  .rw[e,e,e];simp only[D4];exact AOm
 refine(A6z xs _ hs).mono λr hr=>⟨hr.1,hr.2.imp λ{a b} h hlt=>?_⟩;have:=h _ (hF b a);have:=(A71 b.1 a.1).2 hlt;omega
abbrev Af:=DW×Int×I5×(List DW)×(List DW)
abbrev L5:=DW×(List DW)×DW×Int×Bool×DW×(List Af)
abbrev Bnd:=Bool×Bool×DW
abbrev S5:=Bnd×Bnd
def N5(a:Af):Prop:=a.1.length<=1048576/\a.2.2.1.length<=1048576/\(∀v∈a.2.2.1,v.2.length<=1048576)/\a.2.2.2.1.length<=1048576/\(∀s∈a.2.2.2.1,s.length<=1048576)/\a.2.2.2.2.length<=1048576/\(∀s∈a.2.2.2.2,s.length<=1048576)
def rQ(a:Af):Prop:=a.2.2.1.length<=100/\(∀v∈a.2.2.1,1<=v.1/\v.1<=3)/\a.2.2.2.1.length<=500
def N6(a:L5):Prop:=a.1.length<=1048576/\a.2.1.length<=1048576/\(∀s∈a.2.1,s.length<=1048576)/\a.2.2.1.length<=1048576/\a.2.2.2.2.2.1.length<=1048576/\a.2.2.2.2.2.2.length<=1048576/\∀x∈a.2.2.2.2.2.2,N5 x
abbrev HG(s:S5):Prop:=s.1.2.2.length<=100/\s.2.2.2.length<=100
abbrev H5(s:HM):Prop:=s.1.2.2.2.length<=100/\s.2.2.2.2.length<=100
theorem N7{α:Type}{l:List α}{i:Nat}{x:α}(h:l[i]?=some x):x∈l:=B5 h
theorem AOo(x:Int×Int)(h:True):Tot (RH x) λ_=>True:=⟨_,A6y x.1 x.2,trivial⟩
theorem PH(x:Edge×Edge)(h:True):Tot (L0 x) λ_=>True:=⟨_,A70 x.1 x.2,trivial⟩
theorem qi{p:Prop}(h:p:=by grind[E8,E7,EB,E3,E0,EA,E9,E6,EC,ED,EL,EJ,EM,EN,EP,EQ,ER]):p:=h
theorem eO(x:DW)(h:x.length<=1048576):Tot (OR x) (λr:Int×Bool=>0<=r.1/\r.1<=999999999999999999):=by
 unfold OR
 repeat' first
  |(with_reducible first|refine DZ.2 ⟨λ_=>?_,λ_=>?_⟩|refine DX.2 ?_|refine DY.2 ?_|refine EZ.2 ⟨?_,λ_ _=>?_⟩|refine(JW _ ?_).mono λ_ _=>?_)
  |dsimp only
 all_goals exact qi
theorem A72(x:Int)(h:True):Tot (ZM x) (λr:Bool=>True):=by
 unfold ZM
 repeat' first
  |(with_reducible first|refine DZ.2 ⟨λ_=>?_,λ_=>?_⟩|refine DX.2 ?_|refine DY.2 ?_|refine(H4 _ ?_).mono λ_ _=>?_|refine(I7 _ ?_).mono λ_ _=>?_)
  |dsimp only
 all_goals exact qi
theorem AOp(x:(List DW)×Int×Int)(h:0<=x.2.2/\x.2.2<=x.2.1/\x.2.1=x.1.length/\x.2.1<=281474976710656/\∀s∈x.1,s.length<=1000):Tot (lB x) (λr:Sum (Unit) KC=>∀y,r=.inr y->y.1=[]/\y.2=false):=by
 refine E_ (R:=λr:Sum (Unit) KC=>∀y,r=.inr y->y.1=[]/\y.2=false) (λy:(List DW)×Int×Int=>(0<=y.2.2/\y.2.2<=y.2.1/\y.2.1=y.1.length/\y.2.1<=281474976710656/\∀s∈y.1,s.length<=1000)) (λy:(List DW)×Int×Int=>(y.2.1-y.2.2).toNat) ?_ _ _ oi (by unfold fuel;grind);rintro next ⟨t9,t10,t11⟩ h hn
 try dsimp only at h hn
 unfold yO
 repeat' first
  |(with_reducible first|refine DZ.2 ⟨λ_=>?_,λ_=>?_⟩|refine DX.2 ?_|refine DY.2 ?_|refine EZ.2 ⟨?_,λ_ _=>?_⟩|refine(A72 _ ?_).mono λ_ _=>?_|refine(LU _ ?_ ?_).mono λ_ _=>?_)
  |exact λc=>GR (H4 c trivial)
  |exact λc=>GR (I7 c trivial)
  |exact λc=>GR (A72 c trivial)
  |with_reducible refine hn _ ?_ ?_
  |dsimp only
 all_goals exact qi
theorem A73(x:DW)(h:x.length<=1000):Tot (UI x) (λr:(List DW)×Bool=>LS r.1):=by
 unfold UI
 repeat' first
  |(with_reducible first|refine DX.2 ?_|refine DY.2 ?_|refine(A6d _ ?_).mono λ_ _=>?_|refine(AOp _ ?_).mono λ_ _=>?_)
  |split
  |dsimp only
 all_goals exact qi
theorem AOq(x:(List DW)×Int×Int)(h:0<=x.2.2/\x.2.2<=x.2.1/\x.2.1=x.1.length/\x.2.1<=281474976710656/\∀s∈x.1,s.length<=1000):Tot (lC x) (λr:Sum (Unit) KC=>∀y,r=.inr y->y.1=[]/\y.2=false):=by
 refine E_ (R:=λr:Sum (Unit) KC=>∀y,r=.inr y->y.1=[]/\y.2=false) (λy:(List DW)×Int×Int=>(0<=y.2.2/\y.2.2<=y.2.1/\y.2.1=y.1.length/\y.2.1<=281474976710656/\∀s∈y.1,s.length<=1000)) (λy:(List DW)×Int×Int=>(y.2.1-y.2.2).toNat) ?_ _ _ oi (by unfold fuel;grind);rintro next ⟨t15,t16,t17⟩ h hn
 try dsimp only at h hn
 unfold yP
 repeat' first
  |(with_reducible first|refine DZ.2 ⟨λ_=>?_,λ_=>?_⟩|refine DX.2 ?_|refine DY.2 ?_|refine EZ.2 ⟨?_,λ_ _=>?_⟩|refine(H4 _ ?_).mono λ_ _=>?_|refine(eO _ ?_).mono λ_ _=>?_|refine(LU _ ?_ ?_).mono λ_ _=>?_)
  |exact λc=>GR (H4 c trivial)
  |exact λc=>GR (I7 c trivial)
  |with_reducible refine hn _ ?_ ?_
  |dsimp only
 all_goals exact qi
theorem AOr(x:DW)(h:x.length<=1000):Tot (ZN x) (λr:(List DW)×Bool=>LS r.1):=by
 unfold ZN
 repeat' first
  |(with_reducible first|refine DX.2 ?_|refine DY.2 ?_|refine(A73 _ ?_).mono λ_ _=>?_|refine(AOq _ ?_).mono λ_ _=>?_)
  |split
  |dsimp only
 all_goals exact qi
theorem AOs(x:DW)(h:x.length<=1000):Tot (ZO x) (λr:(List DW)×Bool=>LS r.1):=by
 unfold ZO
 repeat' first
  |(with_reducible first|refine DZ.2 ⟨λ_=>?_,λ_=>?_⟩|refine DX.2 ?_|refine DY.2 ?_|refine EZ.2 ⟨?_,λ_ _=>?_⟩|refine HD.2 ⟨?_,?_⟩|refine(A6r _ ?_).mono λ_ _=>?_|refine(A73 _ ?_).mono λ_ _=>?_|refine(AOr _ ?_).mono λ_ _=>?_)
  |dsimp only
 all_goals exact qi
theorem AOt(x:DW×Int×Bool)(h:0<=x.2.1/\x.2.1<=x.1.length/\x.1.length<=1000):Tot (ZP x) (λr:Sum (Int) (GY×Bool)=>(∀y,r=.inl y->0<=y/\y<=x.1.length)/\∀y,r=.inr y->y.2=false):=by
 obtain⟨s_0,at_5,t16⟩:=x;try dsimp only at h ⊢
 unfold ZP
 repeat' first
  |(with_reducible first|refine DZ.2 ⟨λ_=>?_,λ_=>?_⟩|refine DX.2 ?_|refine DY.2 ?_|refine EZ.2 ⟨?_,λ_ _=>?_⟩)
  |dsimp only
 all_goals exact qi
theorem AOu(x:DW×LN×Int×Int)(h:0<=x.2.2.2/\x.2.2.2<=3/\0<=x.2.2.1/\x.2.2.1<=x.1.length/\x.1.length<=1000/\x.2.1.1.length=3/\(∀n∈x.2.1.1,0<=n/\n<=999999999999999999)):Tot (lD x) (λr:Sum (LN×Int) (GY×Bool)=>(∀y,r=.inl y->y.1.1.length=3/\(∀n∈y.1.1,0<=n/\n<=999999999999999999)/\0<=y.2/\y.2<=x.1.length)/\∀y,r=.inr y->y.2=false):=by
 refine E_ (R:=λr:Sum (LN×Int) (GY×Bool)=>(∀y,r=.inl y->y.1.1.length=3/\(∀n∈y.1.1,0<=n/\n<=999999999999999999)/\0<=y.2/\y.2<=x.1.length)/\∀y,r=.inr y->y.2=false) (λy:DW×LN×Int×Int=>(0<=y.2.2.2/\y.2.2.2<=3/\0<=y.2.2.1/\y.2.2.1<=y.1.length/\y.1.length<=1000/\y.2.1.1.length=3/\(∀n∈y.2.1.1,0<=n/\n<=999999999999999999))/\y.1=x.1) (λy:DW×LN×Int×Int=>(3-y.2.2.2).toNat) ?_ _ _ oi (by unfold fuel;grind);rintro next ⟨s_0,v_4,at_5,t12⟩ h hn
 try dsimp only at h hn
 unfold yQ
 repeat' first
  |(with_reducible first|refine DZ.2 ⟨λ_=>?_,λ_=>?_⟩|refine DX.2 ?_|refine DY.2 ?_|refine FD.2 ⟨?_,?_⟩|refine HD.2 ⟨?_,?_⟩|refine(AOt _ ?_).mono λ_ _=>?_|refine(H4 _ ?_).mono λ_ _=>?_|refine(eO _ ?_).mono λ_ _=>?_|refine(LU _ ?_ ?_).mono λ_ _=>?_)
  |exact λc=>GR (H4 c trivial)
  |exact λc=>GR (I7 c trivial)
  |with_reducible refine hn _ ?_ ?_
  |split
  |dsimp only
 all_goals exact qi
theorem AOv(x:DW)(h:x.length<=1000):Tot (ZQ x) (λr:GY×Bool=>r.2=true->J1 r.1):=by
 unfold ZQ
 repeat' first
  |(with_reducible first|refine DX.2 ?_|refine DY.2 ?_|refine HD.2 ⟨?_,?_⟩|refine(AOu _ ?_).mono λ_ _=>?_|refine(AOs _ ?_).mono λ_ _=>?_)
  |split
  |dsimp only
 all_goals grind[E8,E7,EB,E3,E0,EA,E9,E6,EC,ED,EL,EJ,EM,EN,EP,EQ,ER,AON]
theorem A74(x:Int)(h:True):Tot (ZR x) (λr:Bool=>True):=by
 unfold ZR
 repeat' first
  |(with_reducible first|refine DZ.2 ⟨λ_=>?_,λ_=>?_⟩|refine DX.2 ?_|refine DY.2 ?_|refine(H4 _ ?_).mono λ_ _=>?_|refine(I7 _ ?_).mono λ_ _=>?_|refine(PE _ ?_).mono λ_ _=>?_)
  |dsimp only
 all_goals exact qi
theorem AOw(x:DW×Int)(h:0<=x.2/\x.2<=x.1.length/\x.1.length<=1000):Tot (lE x) (λr:Sum (Unit) (Bool)=>True):=by
 refine E_ (R:=λr:Sum (Unit) (Bool)=>True) (λy:DW×Int=>(0<=y.2/\y.2<=y.1.length/\y.1.length<=1000)/\y.1=x.1) (λy:DW×Int=>(y.1.length-y.2:Int).toNat) ?_ _ _ oi (by unfold fuel;grind);rintro next ⟨s_0,at_3⟩ h hn
 try dsimp only at h hn
 unfold yR
 repeat' first
  |(with_reducible first|refine DZ.2 ⟨λ_=>?_,λ_=>?_⟩|refine DX.2 ?_|refine DY.2 ?_|refine(H4 _ ?_).mono λ_ _=>?_|refine(LU _ ?_ ?_).mono λ_ _=>?_)
  |exact λc=>GR (H4 c trivial)
  |exact λc=>GR (I7 c trivial)
  |with_reducible refine hn _ ?_ ?_
  |dsimp only
 all_goals grind[E8,E7,EB,E3,E0,EA,E9,E6,EC,ED,EL,EJ,EM,EN,EP,EQ,ER,T5]
theorem AOx(x:DW)(h:x.length<=1000):Tot (ZS x) (λr:Bool=>True):=by
 unfold ZS
 repeat' first
  |(with_reducible first|refine DX.2 ?_|refine DY.2 ?_|refine(AOw _ ?_).mono λ_ _=>?_)
  |split
  |dsimp only
 all_goals exact qi
theorem AOy(x:DW×KZ×DW×DW×Bool)(h:x.1.length<=1000/\x.2.2.2.1.length<=1000/\x.2.2.1.length<=1000/\x.2.1.1=0):Tot (ZT x) (λr:Sum (DW×KZ) (GY×Bool)=>(∀y,r=.inl y->y.1.length<=1000/\0<=y.2.1/\y.2.1<=999999999999999999/\y.2.2=x.2.1.2)/\∀y,r=.inr y->y.2=false):=by
 obtain⟨s_0,v_4,epoch_5,rest_6,t18⟩:=x;try dsimp only at h ⊢
 unfold ZT
 repeat' first
  |(with_reducible first|refine DZ.2 ⟨λ_=>?_,λ_=>?_⟩|refine DX.2 ?_|refine DY.2 ?_|refine(eO _ ?_).mono λ_ _=>?_)
  |dsimp only
 all_goals exact qi
set_option maxHeartbeats 4000000 in
theorem AOz(x:DW)(h:x.length<=1000):Tot (ZU x) (λr:GY×Bool=>r.2=true->J1 r.1):=by
 unfold ZU
 repeat' first
  |(with_reducible first|refine DZ.2 ⟨λ_=>?_,λ_=>?_⟩|refine DX.2 ?_|refine DY.2 ?_|refine EZ.2 ⟨?_,λ_ _=>?_⟩|refine HD.2 ⟨?_,?_⟩|refine(A6r _ ?_).mono λ_ _=>?_|refine(AOy _ ?_).mono λ_ _=>?_|refine(H4 _ ?_).mono λ_ _=>?_|refine(A74 _ ?_).mono λ_ _=>?_|refine(AOx _ ?_).mono λ_ _=>?_|refine(AOB _ ?_).mono λ_ _=>?_|refine(PE _ ?_).mono λ_ _=>?_|refine(LU _ ?_ ?_).mono λ_ _=>?_)
  |exact λc=>GR (H4 c trivial)
  |exact λc=>GR (I7 c trivial)
  |exact λc=>GR (A74 c trivial)
  |split
  |dsimp only
 all_goals grind[E8,E7,EB,E3,E0,EA,E9,E6,EC,ED,EL,EJ,EM,EN,EP,EQ,ER,AOO]
theorem AP0(x:DW×(List Int))(h:x.1.length<=1000/\x.2.length+x.1.length<=1001/\(∀n∈x.2,0<=n/\n<=999999999999999999)):Tot (lF x) (λr:(List Int)×DW×Bool=>NS r.1/\r.2.1.length<=1000):=by
 refine E_ (R:=λr:(List Int)×DW×Bool=>NS r.1/\r.2.1.length<=1000) (λy:DW×(List Int)=>(y.1.length<=1000/\y.2.length+y.1.length<=1001/\(∀n∈y.2,0<=n/\n<=999999999999999999))) (λy:DW×(List Int)=>y.1.length) ?_ _ _ oi (by unfold fuel;grind);rintro next ⟨s_0,out_5⟩ h hn
 try dsimp only at h hn
 unfold yS
 repeat' first
  |(with_reducible first|refine DZ.2 ⟨λ_=>?_,λ_=>?_⟩|refine DX.2 ?_|refine DY.2 ?_|refine EZ.2 ⟨?_,λ_ _=>?_⟩|refine HD.2 ⟨?_,?_⟩|refine FU.2 ⟨?_,?_⟩|refine(H4 _ ?_).mono λ_ _=>?_|refine(JW _ ?_).mono λ_ _=>?_|refine(LU _ ?_ ?_).mono λ_ _=>?_)
  |exact λc=>GR (H4 c trivial)
  |exact λc=>GR (I7 c trivial)
  |with_reducible refine hn _ ?_ ?_
  |dsimp only
 all_goals exact qi
theorem AP1(x:DW)(h:x.length<=1000):Tot (ZV x) (λr:(List Int)×DW×Bool=>NS r.1/\r.2.1.length<=1000):=by
 unfold ZV
 repeat' first
  |(with_reducible first|refine DX.2 ?_|refine DY.2 ?_|refine(AP0 _ ?_).mono λ_ _=>?_)
  |dsimp only
 all_goals exact qi
theorem AP2(x:DW×M5)(h:∀c,Tot (x.2 c) λ_=>True):Tot (UJ x) (λr:Int=>0<=r/\r<=1/\r<=x.1.length):=by
 obtain⟨s_0,is_1⟩:=x;try dsimp only at h ⊢
 unfold UJ
 repeat' first
  |(with_reducible first|refine DZ.2 ⟨λ_=>?_,λ_=>?_⟩|refine DX.2 ?_|refine DY.2 ?_|refine EZ.2 ⟨?_,λ_ _=>?_⟩|refine(AOU _ ?_).mono λ_ _=>?_|refine(h _).mono λ_ _=>?_)
  |dsimp only
 all_goals exact qi
theorem AP3(x:DW×DW×(List DW)×Int×Int)(h:0<=x.2.2.2.2/\x.2.2.2.2<=x.2.2.2.1/\x.2.2.2.1=x.2.2.1.length/\x.2.2.2.1<=281474976710656/\x.2.1=[]):Tot (lH x) (λr:DW=>r.length<=x.1.length):=by
 refine E_ (R:=λr:DW=>r.length<=x.1.length) (λy:DW×DW×(List DW)×Int×Int=>(0<=y.2.2.2.2/\y.2.2.2.2<=y.2.2.2.1/\y.2.2.2.1=y.2.2.1.length/\y.2.2.2.1<=281474976710656/\y.2.1=[])/\y.1=x.1/\y.2.1=x.2.1) (λy:DW×DW×(List DW)×Int×Int=>(y.2.2.2.1-y.2.2.2.2).toNat) ?_ _ _ oi (by unfold fuel;grind);rintro next ⟨s_0,word_2,t7,t8,t9⟩ h hn
 try dsimp only at h hn
 unfold yT
 repeat' first
  |(with_reducible first|refine DZ.2 ⟨λ_=>?_,λ_=>?_⟩|refine DX.2 ?_|refine DY.2 ?_|refine EZ.2 ⟨?_,λ_ _=>?_⟩|refine(AO8 _ ?_).mono λ_ _=>?_|refine hn _ ?_ ?_)
  |dsimp only
 all_goals exact qi
theorem AP4(x:DW×Bool)(h:True):Tot (ZW x) (λr:Bool=>True):=by
 obtain⟨t18,t21⟩:=x;try dsimp only at h ⊢
 unfold ZW
 repeat' first
  |(with_reducible first|refine DZ.2 ⟨λ_=>?_,λ_=>?_⟩|refine DY.2 ?_)
  |dsimp only
 all_goals exact qi
theorem AP5(x:DW×Bool)(h:True):Tot (ZX x) (λr:Bool=>True):=by
 obtain⟨t18,t25⟩:=x;try dsimp only at h ⊢
 unfold ZX
 repeat' first
  |(with_reducible first|refine DZ.2 ⟨λ_=>?_,λ_=>?_⟩|refine DY.2 ?_)
  |dsimp only
 all_goals exact qi
theorem AP6(x:DW×Bool)(h:True):Tot (ZY x) (λr:Bool=>True):=by
 obtain⟨t18,t29⟩:=x;try dsimp only at h ⊢
 unfold ZY
 repeat' first
  |(with_reducible first|refine DZ.2 ⟨λ_=>?_,λ_=>?_⟩|refine DY.2 ?_)
  |dsimp only
 all_goals exact qi
theorem AP7(x:DW)(h:True):Tot (ZZ x) (λr:DW×Int×Int=>x.length<=281474976710656->r.1.length<=x.length/\(r.1≠[]->1<=r.2.1)/\r.2.1<=3/\0<=r.2.2/\r.2.2<=3):=by
 unfold ZZ
 repeat' first
  |(with_reducible first|refine DZ.2 ⟨λ_=>?_,λ_=>?_⟩|refine DX.2 ?_|refine DY.2 ?_|refine(AP3 _ ?_).mono λ_ _=>?_|refine(AP4 _ ?_).mono λ_ _=>?_|refine(AP5 _ ?_).mono λ_ _=>?_|refine(AP6 _ ?_).mono λ_ _=>?_)
  |dsimp only
 all_goals exact qi
theorem AP8(x:DW×Int×Int×Bool)(h:0<=x.2.2.1/\x.2.2.1<=x.1.length/\x.1.length<=1000/\0<=x.2.1/\x.2.1<=999999999999999999):Tot (Z_ x) (λr:Sum (DW×Int) (DW×Bool)=>(∀y,r=.inl y->y.1.length<=x.1.length/\0<=y.2/\y.2<=999999999999999999)/\∀y,r=.inr y->y.2=false/\y.1=[]):=by
 obtain⟨rest_7,n_11,k_12,t49⟩:=x;try dsimp only at h ⊢
 unfold Z_
 repeat' first
  |(with_reducible first|refine DZ.2 ⟨λ_=>?_,λ_=>?_⟩|refine DX.2 ?_|refine DY.2 ?_|refine HD.2 ⟨?_,?_⟩|refine(H4 _ ?_).mono λ_ _=>?_|refine(JW _ ?_).mono λ_ _=>?_|refine(LU _ ?_ ?_).mono λ_ _=>?_)
  |exact λc=>GR (H4 c trivial)
  |exact λc=>GR (I7 c trivial)
  |dsimp only
 all_goals exact qi
set_option maxHeartbeats 1000000 in
theorem AP9(x:FY×DW×Int)(h:x.2.1.length<=1000/\0<=x.2.2/\x.2.2<=3/\MD x.1):Tot (lI x) (λr:FY×DW×Bool=>MD r.1/\r.2.1.length<=1000):=by
 refine E_ (R:=λr:FY×DW×Bool=>MD r.1/\r.2.1.length<=1000) (λy:FY×DW×Int=>(y.2.1.length<=1000/\0<=y.2.2/\y.2.2<=3/\MD y.1)) (λy:FY×DW×Int=>(4-y.2.2).toNat) ?_ _ _ oi (by unfold fuel;grind);rintro next ⟨v_0,s_1,last_6⟩ h hn
 try dsimp only at h hn
 unfold yU
 repeat' first
  |(with_reducible first|refine DZ.2 ⟨λ_=>?_,λ_=>?_⟩|refine DX.2 ?_|refine DY.2 ?_|refine EZ.2 ⟨?_,λ_ _=>?_⟩|refine HD.2 ⟨?_,?_⟩|refine(AP2 _ ?_).mono λ_ _=>?_|refine(I7 _ ?_).mono λ_ _=>?_|refine(AP7 _ ?_).mono λ_ _=>?_|refine(H4 _ ?_).mono λ_ _=>?_|refine(AP8 _ ?_).mono λ_ _=>?_)
  |exact λc=>GR (H4 c trivial)
  |exact λc=>GR (I7 c trivial)
  |with_reducible refine hn _ ?_ ?_
  |split
  |dsimp only
 all_goals exact qi
theorem APA(x:FY×DW)(h:x.2.length<=1000/\MD x.1):Tot (aA x) (λr:DW×Bool×FY=>r.1.length<=1000/\MD r.2.2):=by
 obtain⟨v_0,s_1⟩:=x;try dsimp only at h ⊢
 unfold aA
 repeat' first
  |(with_reducible first|refine DX.2 ?_|refine DY.2 ?_|refine(AP9 _ ?_).mono λ_ _=>?_)
  |dsimp only
 all_goals exact qi
theorem A75(x:Int)(h:True):Tot (aB x) (λr:Bool=>True):=by
 unfold aB
 repeat' first
  |(with_reducible first|refine DZ.2 ⟨λ_=>?_,λ_=>?_⟩|refine DX.2 ?_|refine DY.2 ?_|refine(H4 _ ?_).mono λ_ _=>?_|refine(I7 _ ?_).mono λ_ _=>?_)
  |dsimp only
 all_goals exact qi
theorem APB(x:Int×(List DW)×Int×Int)(h:0<=x.2.2.2/\x.2.2.2<=x.2.2.1/\x.2.2.1=x.2.1.length/\x.2.2.1<=281474976710656/\0<=x.1/\x.1<=1048576+1000*x.2.2.2/\(∀s∈x.2.1,s.length<=1000)/\x.2.2.1<=1048576):Tot (lK x) (λr:Sum (Int) KC=>∀y,r=.inr y->y.1=[]):=by
 refine E_ (R:=λr:Sum (Int) KC=>∀y,r=.inr y->y.1=[]) (λy:Int×(List DW)×Int×Int=>(0<=y.2.2.2/\y.2.2.2<=y.2.2.1/\y.2.2.1=y.2.1.length/\y.2.2.1<=281474976710656/\0<=y.1/\y.1<=1048576+1000*y.2.2.2/\(∀s∈y.2.1,s.length<=1000)/\y.2.2.1<=1048576)) (λy:Int×(List DW)×Int×Int=>(y.2.2.1-y.2.2.2).toNat) ?_ _ _ oi (by unfold fuel;grind);rintro next ⟨n_5,t13,t14,t15⟩ h hn
 try dsimp only at h hn
 unfold yV
 repeat' first
  |(with_reducible first|refine DZ.2 ⟨λ_=>?_,λ_=>?_⟩|refine DX.2 ?_|refine DY.2 ?_|refine EZ.2 ⟨?_,λ_ _=>?_⟩|refine(H4 _ ?_).mono λ_ _=>?_|refine(A75 _ ?_).mono λ_ _=>?_|refine(LU _ ?_ ?_).mono λ_ _=>?_)
  |exact λc=>GR (H4 c trivial)
  |exact λc=>GR (I7 c trivial)
  |exact λc=>GR (A75 c trivial)
  |with_reducible refine hn _ ?_ ?_
  |dsimp only
 all_goals exact qi
theorem APC(x:DW)(h:x.length<=1000):Tot (aC x) (λr:(List DW)×Bool=>LS r.1):=by
 unfold aC
 repeat' first
  |(with_reducible first|refine DX.2 ?_|refine DY.2 ?_|refine(A6u _ ?_).mono λ_ _=>?_|refine(APB _ ?_).mono λ_ _=>?_|refine(AOM _ ⟨?_,?_⟩).mono λ_ _=>?_)
  |exact λc=>GR (A6u c trivial)
  |split
  |dsimp only
 all_goals exact qi
theorem APD(x:DW×FY×Int×Bool)(h:x.1.length<=1000/\x.2.1.1=0/\0<=x.2.2.1/\x.2.2.1<=x.1.length/\(x.2.2.2=true->x.2.2.1<x.1.length)):Tot (aD x) (λr:Sum (DW×FY) (GY×Bool)=>(∀y,r=.inl y->y.1.length<=1000/\0<=y.2.1/\y.2.1<=999999999999999999/\y.2.2=x.2.1.2)/\∀y,r=.inr y->y.2=false):=by
 obtain⟨s_0,v_4,n_5,t29⟩:=x;try dsimp only at h ⊢
 unfold aD
 repeat' first
  |(with_reducible first|refine DZ.2 ⟨λ_=>?_,λ_=>?_⟩|refine DX.2 ?_|refine DY.2 ?_|refine HD.2 ⟨?_,?_⟩|refine(JW _ ?_).mono λ_ _=>?_)
  |dsimp only
 all_goals exact qi
theorem APE(x:DW)(h:x.length<=1000):Tot (aF x) (λr:GY×Bool=>r.2=true->J1 r.1):=by
 unfold aF
 repeat' first
  |(with_reducible first|refine DZ.2 ⟨λ_=>?_,λ_=>?_⟩|refine DX.2 ?_|refine DY.2 ?_|refine EZ.2 ⟨?_,λ_ _=>?_⟩|refine(AO9 _ ?_).mono λ_ _=>?_|refine(H4 _ ?_).mono λ_ _=>?_|refine(APD _ ?_).mono λ_ _=>?_|refine(AP1 _ ?_).mono λ_ _=>?_|refine(APA _ ?_).mono λ_ _=>?_|refine(AOA _ ?_).mono λ_ _=>?_|refine(APC _ ?_).mono λ_ _=>?_|refine(LU _ ?_ ?_).mono λ_ _=>?_)
  |exact λc=>GR (H4 c trivial)
  |exact λc=>GR (I7 c trivial)
  |split
  |dsimp only
 all_goals grind[E8,E7,EB,E3,E0,EA,E9,E6,EC,ED,EL,EJ,EM,EN,EP,EQ,ER,AOP]
theorem APF(x:DW×Bool)(h:x.1.length<=1000):Tot (aG x) (λr:DW=>r.length<=5000):=by
 obtain⟨w_0,followed_1⟩:=x;try dsimp only at h ⊢
 unfold aG
 repeat' first
  |(with_reducible first|refine DZ.2 ⟨λ_=>?_,λ_=>?_⟩|refine DX.2 ?_|refine DY.2 ?_|refine(A6s _ ?_).mono λ_ _=>?_)
  |dsimp only
 all_goals exact qi
theorem rR(x:Bool×DW×Int)(h:True):Tot (RF x) (λr:Bool=>True):=by
 unfold RF
 repeat' first
  |with_reducible refine DY.2 ?_
  |dsimp only
 all_goals exact qi
theorem APG(x:DW×Int×Bool)(h:0<=x.2.1/\x.2.1<x.1.length/\x.1.length<=1000):Tot (aH x) (λr:Sum (Int) (GY×Bool)=>(∀y,r=.inl y->x.2.1<=y/\y<=x.1.length)/\∀y,r=.inr y->y.2=false):=by
 obtain⟨s_0,at_5,t24⟩:=x;try dsimp only at h ⊢
 unfold aH
 repeat' first
  |(with_reducible first|refine DZ.2 ⟨λ_=>?_,λ_=>?_⟩|refine DX.2 ?_|refine DY.2 ?_|refine EZ.2 ⟨?_,λ_ _=>?_⟩|refine(H4 _ ?_).mono λ_ _=>?_|refine(I7 _ ?_).mono λ_ _=>?_)
  |dsimp only
 all_goals exact qi
set_option maxHeartbeats 1000000 in
theorem APH(x:DW×(List G7)×Int)(h:0<=x.2.2/\(x.1.length:Int)<=281474976710656/\x.2.2<=(x.1.length:Int)/\x.1.length<=1000/\x.2.1.length<=x.2.2/\(∀t∈x.2.1,t.2.1.length<=5000/\0<=t.2.2/\t.2.2<=999999999999999999)):Tot (lL x) (λr:Sum (List G7) (GY×Bool)=>(∀y,r=.inl y->TS y)/\∀y,r=.inr y->y.2=false):=by
 refine E_ (R:=λr:Sum (List G7) (GY×Bool)=>(∀y,r=.inl y->TS y)/\∀y,r=.inr y->y.2=false) (λy:DW×(List G7)×Int=>(0<=y.2.2/\(y.1.length:Int)<=281474976710656/\y.2.2<=(y.1.length:Int)/\y.1.length<=1000/\y.2.1.length<=y.2.2/\(∀t∈y.2.1,t.2.1.length<=5000/\0<=t.2.2/\t.2.2<=999999999999999999))) (λy:DW×(List G7)×Int=>((y.1.length:Int)-y.2.2).toNat) ?_ _ _ oi (by unfold fuel;grind);rintro next ⟨s_0,v_4,at_5⟩ h hn
 try dsimp only at h hn
 unfold yW
 repeat' first
  |(with_reducible first|refine DZ.2 ⟨λ_=>?_,λ_=>?_⟩|refine DX.2 ?_|refine DY.2 ?_|refine EZ.2 ⟨?_,λ_ _=>?_⟩|refine HD.2 ⟨?_,?_⟩|refine FU.2 ⟨?_,?_⟩|refine(APG _ ?_).mono λ_ _=>?_|refine(H4 _ ?_).mono λ_ _=>?_|refine(JW _ ?_).mono λ_ _=>?_|refine(I7 _ ?_).mono λ_ _=>?_|refine(APF _ ?_).mono λ_ _=>?_|refine(LU _ ?_ ?_).mono λ_ _=>?_)
  |exact λc=>GR (H4 c trivial)
  |exact λc=>GR (I7 c trivial)
  |with_reducible refine hn _ ?_ ?_
  |split
  |dsimp only
 all_goals exact qi
theorem API(x:List G7)(h:TS x):Tot (lM x) (λr:List G7=>TS r):=by
 refine E_ (R:=λr=>TS r) (λy=>TS y) (λy=>y.length) ?_ _ _ h (by unfold fuel;have:=h.1;omega);intro next v h hn
 unfold yX;by_cases hc:(0:Int)<v.length
 .rw[EW o5 (by have:=h.1;omega),A7 hc];simp only[AA,CE];refine DX.2 (EZ.2 ⟨⟨o5,o5⟩,λb hb=>?_⟩);refine DX.2 ((rR _ trivial).mono λr _=>?_);refine DZ.2 ⟨λ_=>DX.2 (HD.2 ⟨⟨o5,o5,o5⟩,?_⟩),λ_=>DY.2 h⟩;refine hn _ ⟨?_,λt ht=>h.2 t (EL ht)⟩ ?_
  .rw[EJ];have:=h.1;omega
  .rw[EJ];omega
 .rw[AE hc];simp only[AC,D6];exact DX.2 (DY.2 (DX.2 (DY.2 (DY.2 h))))
theorem APJ(x:DW)(h:x.length<=1000):Tot (aI x) (λr:GY×Bool=>r.2=true->J1 r.1):=by
 unfold aI
 repeat' first
  |(with_reducible first|refine DX.2 ?_|refine DY.2 ?_|refine(APH _ ?_).mono λ_ _=>?_|refine(API _ ?_).mono λ_ _=>?_)
  |split
  |dsimp only
 all_goals grind[E8,E7,EB,E3,E0,EA,E9,E6,EC,ED,EL,EJ,EM,EN,EP,EQ,ER,AOQ]
theorem APK(x:DW)(h:x.length<=1000):Tot (aJ x) (λr:GY×Bool=>r.2=true->J1 r.1):=by
 unfold aJ
 repeat' first
  |(with_reducible first|refine DX.2 ?_|refine DY.2 ?_|refine(eO _ ?_).mono λ_ _=>?_)
  |dsimp only
 all_goals grind[E8,E7,EB,E3,E0,EA,E9,E6,EC,ED,EL,EJ,EM,EN,EP,EQ,ER,AOR]
theorem NZ(x:Int×DW)(h:x.2.length<=1048576):Tot (IC x) (λr:GY×Int=>r.2=0->J1 r.1):=by
 obtain⟨kind_0,s_1⟩:=x;try dsimp only at h ⊢
 unfold IC
 repeat' first
  |(with_reducible first|refine DZ.2 ⟨λ_=>?_,λ_=>?_⟩|refine DX.2 ?_|refine DY.2 ?_|refine(AOv _ ?_).mono λ_ _=>?_|refine(AOz _ ?_).mono λ_ _=>?_|refine(A6s _ ?_).mono λ_ _=>?_|refine(APE _ ?_).mono λ_ _=>?_|refine(APJ _ ?_).mono λ_ _=>?_|refine(APK _ ?_).mono λ_ _=>?_)
  |dsimp only
 all_goals exact qi
theorem APL(x:(List DW)×(List Int)×Int×Int)(h:0<=x.2.2.2/\x.2.2.2<=x.2.2.1/\x.2.2.1=x.2.1.length/\x.2.2.1<=281474976710656/\x.1.length<=x.2.2.2/\(∀s∈x.1,s.length<=21)/\x.2.2.1<=1002):Tot (lN x) (λr:List DW=>r.length<=1002/\∀s∈r,s.length<=21):=by
 refine E_ (R:=λr:List DW=>r.length<=1002/\∀s∈r,s.length<=21) (λy:(List DW)×(List Int)×Int×Int=>(0<=y.2.2.2/\y.2.2.2<=y.2.2.1/\y.2.2.1=y.2.1.length/\y.2.2.1<=281474976710656/\y.1.length<=y.2.2.2/\(∀s∈y.1,s.length<=21)/\y.2.2.1<=1002)) (λy:(List DW)×(List Int)×Int×Int=>(y.2.2.1-y.2.2.2).toNat) ?_ _ _ oi (by unfold fuel;grind);rintro next ⟨parts_3,t6,t7,t8⟩ h hn
 try dsimp only at h hn
 unfold yY
 repeat' first
  |(with_reducible first|refine DZ.2 ⟨λ_=>?_,λ_=>?_⟩|refine DX.2 ?_|refine DY.2 ?_|refine EZ.2 ⟨?_,λ_ _=>?_⟩|refine FU.2 ⟨?_,?_⟩|refine(IP _ ?_).mono λ_ _=>?_|refine hn _ ?_ ?_)
  |dsimp only
 all_goals exact qi
theorem A76(x:List Int)(h:x.length<=1002):Tot (UK x) (λr:DW=>r.length<=30000):=by
 unfold UK;refine DX.2 ((APL _ ⟨oc,oc,rfl,og,oc,oc,og⟩).mono λr hr=>?_);have hj:(Lib.join r [46]).length<=1002*(21+1):=eL hr.2 hr.1 oc;exact DX.2 ((S0 _ ⟨og,o7⟩).mono λs hs=>DY.2 (by rw[hs];dsimp only;omega))
theorem rS(x:(List Int)×(List DW))(h:eK x):Tot (UL x) (λr:DW=>r.length<=1048576):=by
 unfold UL;obtain⟨h1,h2,h3,h4⟩:=h;have hj:(Lib.join x.2 [46]).length<=1002*(1000+1):=eL h4 h3 oc;refine DX.2 (HD.2 ⟨⟨o5,o5,o5⟩,?_⟩);refine DX.2 ((A76 _ (by rw[EJ];omega)).mono λr hr=>?_);refine DZ.2 ⟨λ_=>?_,λ_=>DY.2 o5⟩;refine DX.2 ((S0 _ ⟨o7,o7⟩).mono λs hs=>?_);dsimp only at hs;rw[<-hs]at hj;refine DX.2 (FS.2 ⟨og,?_⟩);refine DX.2 (FS.2 ⟨og,?_⟩);exact DY.2 og
theorem APM(x:DW×(List Int)×Int)(h:0<=x.2.2/\x.2.2<=x.1.length/\x.1.length<=1000/\x.2.1.length<=21*x.2.2):Tot (lO x) (λr:List Int=>r.length<=21000):=by
 refine E_ (R:=λr:List Int=>r.length<=21000) (λy:DW×(List Int)×Int=>(0<=y.2.2/\y.2.2<=y.1.length/\y.1.length<=1000/\y.2.1.length<=21*y.2.2)/\y.1=x.1) (λy:DW×(List Int)×Int=>(y.1.length-y.2.2:Int).toNat) ?_ _ _ oi (by unfold fuel;grind);rintro next ⟨s_0,b_3,at_4⟩ h hn
 try dsimp only at h hn
 unfold yZ
 repeat' first
  |(with_reducible first|refine DZ.2 ⟨λ_=>?_,λ_=>?_⟩|refine DX.2 ?_|refine DY.2 ?_|refine EZ.2 ⟨?_,λ_ _=>?_⟩|refine HD.2 ⟨?_,?_⟩|refine(H4 _ ?_).mono λ_ _=>?_|refine(VM _ ?_).mono λ_ _=>?_|refine(JW _ ?_).mono λ_ _=>?_|refine(IP _ ?_).mono λ_ _=>?_|refine(VN _ ?_).mono λ_ _=>?_|refine(LU _ ?_ ?_).mono λ_ _=>?_)
  |exact λc=>GR (H4 c trivial)
  |exact λc=>GR (I7 c trivial)
  |with_reducible refine hn _ ?_ ?_
  |dsimp only
 all_goals exact qi
theorem APN(x:DW)(h:x.length<=1000):Tot (UM x) (λr:DW=>r.length<=21000):=by
 unfold UM
 repeat' first
  |(with_reducible first|refine DX.2 ?_|refine DY.2 ?_|refine(APM _ ?_).mono λ_ _=>?_|refine(PF _ ?_).mono λ_ _=>?_)
  |dsimp only
 all_goals exact qi
theorem A77(x:Int×DW×DW×Bool)(h:PG x):Tot (UN x) (λr:DW=>r.length<=1000):=by
 unfold UN
 repeat' first
  |(with_reducible first|refine DZ.2 ⟨λ_=>?_,λ_=>?_⟩|refine DY.2 ?_)
  |dsimp only
 all_goals exact qi
theorem APO(x:DW×(List Int)×Int×Int)(h:0<=x.2.2.2/\x.2.2.2<=x.2.2.1/\x.2.2.1=x.1.length/\x.2.2.1<=281474976710656/\x.2.2.1<=1000/\x.2.1.length<=x.2.2.2):Tot (lP x) (λr:List Int=>r.length<=x.1.length):=by
 refine E_ (R:=λr:List Int=>r.length<=x.1.length) (λy:DW×(List Int)×Int×Int=>(0<=y.2.2.2/\y.2.2.2<=y.2.2.1/\y.2.2.1=y.1.length/\y.2.2.1<=281474976710656/\y.2.2.1<=1000/\y.2.1.length<=y.2.2.2)/\y.1=x.1) (λy:DW×(List Int)×Int×Int=>(y.2.2.1-y.2.2.2).toNat) ?_ _ _ oi (by unfold fuel;grind);rintro next ⟨s_0,b_3,t6,t7⟩ h hn
 try dsimp only at h hn
 unfold y_
 repeat' first
  |(with_reducible first|refine DZ.2 ⟨λ_=>?_,λ_=>?_⟩|refine DX.2 ?_|refine DY.2 ?_|refine EZ.2 ⟨?_,λ_ _=>?_⟩|refine(VM _ ?_).mono λ_ _=>?_|refine(I7 _ ?_).mono λ_ _=>?_|refine hn _ ?_ ?_)
  |dsimp only
 all_goals exact qi
theorem APP(x:DW)(h:x.length<=1000):Tot (aM x) (λr:DW=>r.length<=x.length+1):=by
 unfold aM
 repeat' first
  |(with_reducible first|refine DX.2 ?_|refine DY.2 ?_|refine EZ.2 ⟨?_,λ_ _=>?_⟩|refine FS.2 ⟨?_,?_⟩|refine(APO _ ?_).mono λ_ _=>?_|refine(PF _ ?_).mono λ_ _=>?_)
  |dsimp only
 all_goals exact qi
theorem JG(x:Int)(h:0<=x/\x<=999999999999999999):Tot (IM x) (λr:DW=>r.length=18):=by
 unfold IM
 repeat' first
  |(with_reducible first|refine DX.2 ?_|refine DY.2 ?_|refine EZ.2 ⟨?_,λ_ _=>?_⟩|refine FS.2 ⟨?_,?_⟩|refine(IP _ ?_).mono λ_ _=>?_|refine(AOG _ ?_).mono λ_ _=>?_)
  |dsimp only
 all_goals exact qi
theorem APQ(x:DW×(List Int))(h:x.1.length<=1000/\x.2.length+40*x.1.length<=50000):Tot (lQ x) (λr:List Int=>r.length<=50000):=by
 refine E_ (R:=λr:List Int=>r.length<=50000) (λy:DW×(List Int)=>y.1.length<=1000/\y.2.length+40*y.1.length<=50000) (λy:DW×(List Int)=>y.1.length) ?_ _ _ h (by unfold fuel;have:=h.1;omega);rintro next ⟨s,b⟩ h hn
 dsimp only at h hn;unfold z7;dsimp only;refine DZ.2 ⟨λhc=>?_,λ_=>DY.2 o5⟩
 have hne:0<s.length:=by
  rw[EM]at hc;simp only[BI,D4]at hc;omega
 have f1:∀c,Tot ((aL c).bind λr=>some r) λ_=>True:=λc=>⟨_,rfl,trivial⟩;refine DX.2 ((eM _ ⟨BF _,o7,o7,f1⟩).mono λr1 hr1=>?_);dsimp only at hr1;obtain⟨a0,a1,_,a3⟩:=hr1;rw[Int.zero_add]at a1 a3;refine DX.2 ((eM _ ⟨a0,o7,o7,A6t⟩).mono λr2 hr2=>?_);dsimp only at hr2;obtain⟨b0,b1,_,b3⟩:=hr2
 have hpos:0<r1+r2:=by
  rcases Int.lt_or_le 0 (r1+r2)with h'|h'
  .exact h'
  .exfalso;have e1:r1=0:=o5
   have e2:r2=0:=o5
   subst e1 e2;have g:s[(0:Int).toNat]?=some (s[0]'hne):=A0 hne;have g1:=a3 _ g;have g2:=b3 _ g;unfold aL at g1;unfold H3 at g1 g2;simp at g1 g2;omega
 rw[EW o5 o5];refine DX.2 (HD.2 ⟨⟨o5,o5,o5⟩,?_⟩);refine DX.2 ((JW _ (by rw[EJ];omega)).mono λr4 h4=>?_);refine DX.2 (HD.2 ⟨⟨o5,o5,o5⟩,?_⟩);refine DX.2 ((APP _ (by rw[EJ];omega)).mono λr6 h6=>?_);rw[EJ]at h6;refine DX.2 ((JG _ h4).mono λr7 h7=>?_);refine DX.2 (FS.2 ⟨o5,?_⟩);refine DX.2 ((VN _ ⟨o7,by dsimp only;rw[A6];omega⟩).mono λr9 h9=>?_);dsimp only at h9;rw[A6]at h9;refine DX.2 (HD.2 ⟨⟨o5,o5,o5⟩,?_⟩);refine hn _ ⟨?_,?_⟩ ?_<;>(dsimp only;rw[EJ];omega)
theorem A78(x:DW)(h:x.length<=1000):Tot (OT x) (λr:DW=>r.length<=50010):=by
 unfold OT
 repeat' first
  |(with_reducible first|refine DX.2 ?_|refine DY.2 ?_|refine EZ.2 ⟨?_,λ_ _=>?_⟩|refine FS.2 ⟨?_,?_⟩|refine(APQ _ ?_).mono λ_ _=>?_|refine(PF _ ?_).mono λ_ _=>?_)
  |dsimp only
 all_goals exact qi
theorem APR(x:KZ×DW×Bool)(h:x.2.1.length<=1000000):Tot (aN x) (λr:KZ×DW=>r.1=x.1/\r.2.length<=x.2.1.length+30):=by
 obtain⟨v_1,s_3,t9⟩:=x;try dsimp only at h ⊢
 unfold aN
 repeat' first
  |(with_reducible first|refine DZ.2 ⟨λ_=>?_,λ_=>?_⟩|refine DX.2 ?_|refine DY.2 ?_|refine EZ.2 ⟨?_,λ_ _=>?_⟩|refine FS.2 ⟨?_,?_⟩|refine(IP _ ?_).mono λ_ _=>?_)
  |dsimp only
 all_goals exact qi
theorem rT(x:Int×DW×DW×Bool)(h:PG x):Tot (UO x) (λr:DW=>r.length<=1048576):=by
 unfold UO
 repeat' first
  |(with_reducible first|refine DZ.2 ⟨λ_=>?_,λ_=>?_⟩|refine DX.2 ?_|refine DY.2 ?_|refine EZ.2 ⟨?_,λ_ _=>?_⟩|refine FS.2 ⟨?_,?_⟩|refine(APN _ ?_).mono λ_ _=>?_|refine(APR _ ?_).mono λ_ _=>?_|refine(A77 _ ?_).mono λ_ _=>?_|refine(A78 _ ?_).mono λ_ _=>?_)
  |dsimp only
 all_goals exact qi
theorem APS(x:List Int)(h:NS x):Tot (lR x) (λr:List Int=>NS r):=by
 refine E_ (R:=λr=>NS r) (λy=>NS y) (λy=>y.length) ?_ _ _ h (by unfold fuel;have:=h.1;omega);intro next v h hn
 unfold z8;by_cases hc:(0:Int)<v.length
 .rw[EW o5 (by have:=h.1;omega),A7 hc];simp only[AA,CE];refine DX.2 (EZ.2 ⟨⟨o5,o5⟩,λb hb=>?_⟩);refine DZ.2 ⟨λ_=>DX.2 (HD.2 ⟨⟨o5,o5,o5⟩,?_⟩),λ_=>DY.2 h⟩;refine hn _ ⟨?_,λt ht=>h.2 t (EL ht)⟩ ?_
  .rw[EJ];have:=h.1;omega
  .rw[EJ];omega
 .rw[AE hc];simp only[AC,D6];exact DX.2 (DY.2 (DY.2 h))
theorem A79(x:List Int)(h:NS x):Tot (UP x) (λr:List Int=>NS r):=by
 unfold UP
 repeat' first
  |(with_reducible first|refine DX.2 ?_|refine DY.2 ?_|refine(APS _ ?_).mono λ_ _=>?_)
  |dsimp only
 all_goals exact qi
theorem APT(x:FY×DW×Bool)(h:x.2.1.length<=10):Tot (aO x) (λr:FY×DW=>r.1=x.1/\r.2.length<=30):=by
 obtain⟨v_1,s_3,t11⟩:=x;try dsimp only at h ⊢
 unfold aO
 repeat' first
  |(with_reducible first|refine DZ.2 ⟨λ_=>?_,λ_=>?_⟩|refine DX.2 ?_|refine DY.2 ?_|refine EZ.2 ⟨?_,λ_ _=>?_⟩|refine FS.2 ⟨?_,?_⟩|refine(IP _ ?_).mono λ_ _=>?_)
  |dsimp only
 all_goals exact qi
theorem APU(x:DW×(List Int)×Bool)(h:x.1.length<=30/\x.2.1.length<=1002):Tot (aP x) (λr:DW=>r.length<=31000):=by
 obtain⟨s_3,l_4,t21⟩:=x;try dsimp only at h ⊢
 unfold aP
 repeat' first
  |(with_reducible first|refine DZ.2 ⟨λ_=>?_,λ_=>?_⟩|refine DX.2 ?_|refine DY.2 ?_|refine EZ.2 ⟨?_,λ_ _=>?_⟩|refine FS.2 ⟨?_,?_⟩|refine(A76 _ ?_).mono λ_ _=>?_)
  |dsimp only
 all_goals exact qi
theorem APV(x:FY×DW×Bool)(h:x.2.1.length<=31000/\0<=x.1.2.2.1/\x.1.2.2.1<=3):Tot (aQ x) (λr:FY×DW=>r.1=x.1/\r.2.length<=31100):=by
 obtain⟨v_1,s_3,t30⟩:=x;try dsimp only at h ⊢
 unfold aQ
 repeat' first
  |(with_reducible first|refine DZ.2 ⟨λ_=>?_,λ_=>?_⟩|refine DX.2 ?_|refine DY.2 ?_|refine EZ.2 ⟨?_,λ_ _=>?_⟩|refine FS.2 ⟨?_,?_⟩|refine(IP _ ?_).mono λ_ _=>?_)
  |dsimp only
 all_goals exact qi
theorem APW(x:FY×DW×Bool)(h:x.2.1.length<=31100):Tot (aR x) (λr:FY×DW=>r.1=x.1/\r.2.length<=31200):=by
 obtain⟨v_1,s_3,t44⟩:=x;try dsimp only at h ⊢
 unfold aR
 repeat' first
  |(with_reducible first|refine DZ.2 ⟨λ_=>?_,λ_=>?_⟩|refine DX.2 ?_|refine DY.2 ?_|refine EZ.2 ⟨?_,λ_ _=>?_⟩|refine FS.2 ⟨?_,?_⟩|refine(IP _ ?_).mono λ_ _=>?_)
  |dsimp only
 all_goals exact qi
theorem APX(x:FY×DW×Bool)(h:x.2.1.length<=31200):Tot (aS x) (λr:FY×DW=>r.1=x.1/\r.2.length<=31300):=by
 obtain⟨v_1,s_3,t53⟩:=x;try dsimp only at h ⊢
 unfold aS
 repeat' first
  |(with_reducible first|refine DZ.2 ⟨λ_=>?_,λ_=>?_⟩|refine DX.2 ?_|refine DY.2 ?_|refine EZ.2 ⟨?_,λ_ _=>?_⟩|refine FS.2 ⟨?_,?_⟩|refine(IP _ ?_).mono λ_ _=>?_)
  |dsimp only
 all_goals exact qi
theorem APY(x:DW×Int×Bool)(h:True):Tot (aT x) (λr:DW=>r.length<=x.1.length+21):=by
 obtain⟨p_6,n_7,t73⟩:=x;try dsimp only at h ⊢
 unfold aT
 repeat' first
  |(with_reducible first|refine DZ.2 ⟨λ_=>?_,λ_=>?_⟩|refine DX.2 ?_|refine DY.2 ?_|refine(IP _ ?_).mono λ_ _=>?_)
  |dsimp only
 all_goals exact qi
theorem APZ(x:DW×(List DW)×Int×Int)(h:0<=x.2.2.2/\x.2.2.2<=x.2.2.1/\x.2.2.1=x.2.1.length/\x.2.2.1<=281474976710656/\x.1.length<=40000+1030*x.2.2.2/\x.2.2.1<=1002/\∀s∈x.2.1,s.length<=1000):Tot (lS x) (λr:DW=>r.length<=10000000):=by
 refine E_ (R:=λr:DW=>r.length<=10000000) (λy:DW×(List DW)×Int×Int=>(0<=y.2.2.2/\y.2.2.2<=y.2.2.1/\y.2.2.1=y.2.1.length/\y.2.2.1<=281474976710656/\y.1.length<=40000+1030*y.2.2.2/\y.2.2.1<=1002/\∀s∈y.2.1,s.length<=1000)) (λy:DW×(List DW)×Int×Int=>(y.2.2.1-y.2.2.2).toNat) ?_ _ _ oi (by unfold fuel;grind);rintro next ⟨s_3,t61,t62,t63⟩ h hn
 try dsimp only at h hn
 unfold zA
 repeat' first
  |(with_reducible first|refine DZ.2 ⟨λ_=>?_,λ_=>?_⟩|refine DX.2 ?_|refine DY.2 ?_|refine EZ.2 ⟨?_,λ_ _=>?_⟩|refine FS.2 ⟨?_,?_⟩|refine(JW _ ?_).mono λ_ _=>?_|refine(APY _ ?_).mono λ_ _=>?_|refine hn _ ?_ ?_)
  |dsimp only
 all_goals exact qi
theorem rU(x:Int×(List Int)×Int×Int×Int×Int×(List DW))(h:MD x):Tot (UQ x) (λr:DW=>r.length<=10000000):=by
 unfold UQ
 repeat' first
  |(with_reducible first|refine DX.2 ?_|refine DY.2 ?_|refine(APT _ ?_).mono λ_ _=>?_|refine(A79 _ ?_).mono λ_ _=>?_|refine(APU _ ?_).mono λ_ _=>?_|refine(APV _ ?_).mono λ_ _=>?_|refine(APW _ ?_).mono λ_ _=>?_|refine(APX _ ?_).mono λ_ _=>?_|refine(APZ _ ?_).mono λ_ _=>?_)
  |dsimp only
 all_goals exact qi
theorem AP_(x:(List DW)×(List G7)×Int×Int)(h:0<=x.2.2.2/\x.2.2.2<=x.2.2.1/\x.2.2.1=x.2.1.length/\x.2.2.1<=281474976710656/\x.1.length<=x.2.2.2/\(∀s∈x.1,s.length<=5000)/\x.2.2.1<=1002/\∀t∈x.2.1,t.2.1.length<=5000):Tot (lT x) (λr:List DW=>r.length<=1002/\∀s∈r,s.length<=5000):=by
 refine E_ (R:=λr:List DW=>r.length<=1002/\∀s∈r,s.length<=5000) (λy:(List DW)×(List G7)×Int×Int=>(0<=y.2.2.2/\y.2.2.2<=y.2.2.1/\y.2.2.1=y.2.1.length/\y.2.2.1<=281474976710656/\y.1.length<=y.2.2.2/\(∀s∈y.1,s.length<=5000)/\y.2.2.1<=1002/\∀t∈y.2.1,t.2.1.length<=5000)) (λy:(List DW)×(List G7)×Int×Int=>(y.2.2.1-y.2.2.2).toNat) ?_ _ _ oi (by unfold fuel;grind);rintro next ⟨l_3,t7,t8,t9⟩ h hn
 try dsimp only at h hn
 unfold zB
 repeat' first
  |(with_reducible first|refine DZ.2 ⟨λ_=>?_,λ_=>?_⟩|refine DX.2 ?_|refine DY.2 ?_|refine EZ.2 ⟨?_,λ_ _=>?_⟩|refine FU.2 ⟨?_,?_⟩|refine(rR _ ?_).mono λ_ _=>?_|refine(IP _ ?_).mono λ_ _=>?_|refine hn _ ?_ ?_)
  |dsimp only
 all_goals exact qi
theorem rV(x:List G7)(h:TS x):Tot (UR x) (λr:DW=>r.length<=10000000):=by
 unfold UR;refine DX.2 ((AP_ _ ⟨oc,oc,rfl,by have:=h.1;simp;omega,oc,oc,by have:=h.1;simp;omega,λt ht=>(h.2 t ht).1⟩).mono λr hr=>?_);have hj:(Lib.join r [45]).length<=1002*(5000+1):=eL hr.2 hr.1 oc;refine DZ.2 ⟨λ_=>DY.2 oc,λ_=>?_⟩;exact DX.2 ((S0 _ ⟨o7,o7⟩).mono λs hs=>DY.2 (by rw[hs];dsimp only;omega))
theorem rW(x:Int)(h:True):Tot (US x) (λr:DW=>r.length<=10000000):=by
 unfold US
 repeat' first
  |(with_reducible first|refine DX.2 ?_|refine DY.2 ?_|refine(IP _ ?_).mono λ_ _=>?_)
  |dsimp only
 all_goals exact qi
theorem APa(x:Sum LN (Sum KZ (Sum FY (Sum (List G7) (Sum Int Unit)))))(h:J1 x):Tot (bL x) (λr:DW×Int=>r.1.length<=100):=by
 unfold bL;refine DX.2 (Tot.mono (P:=λr:DW=>r.length<=10000000) ?_ λr1 hr=>?_)
 .rcases x with x|x|x|x|x|x
  .exact DX.2 ((rS _ h).mono λ_ h=>DY.2 o5)
  .exact DX.2 ((rT _ h).mono λ_ h=>DY.2 o5)
  .exact DX.2 ((rU _ h).mono λ_ h=>DY.2 h)
  .exact DX.2 ((rV _ h).mono λ_ h=>DY.2 h)
  .exact DX.2 ((rW _ trivial).mono λ_ h=>DY.2 h)
  .exact h.elim
 .refine DZ.2 ⟨λ_=>DY.2 oc,λhc=>DY.2 ?_⟩;have:=AO hc;dsimp only;omega
theorem eP(x:Int×DW)(h:x.2.length<=1048576):Tot (OV x) (λr:DW×Int=>r.1.length<=100):=by
 obtain⟨kind_0,s_1⟩:=x;try dsimp only at h ⊢
 unfold OV
 repeat' first
  |(with_reducible first|refine DZ.2 ⟨λ_=>?_,λ_=>?_⟩|refine DX.2 ?_|refine DY.2 ?_|refine(NZ _ ?_).mono λ_ _=>?_|refine(APa _ ?_).mono λ_ _=>?_)
  |dsimp only
 all_goals exact qi
theorem APb(x:D_×Int×FI×Int×Int×Int)(h:(∀p,Tot (x.2.2.1 p) λ_=>True)/\x.2.2.2.1=20/\0<=x.2.2.2.2.1/\x.2.2.2.2.2=x.2.2.2.2.1+20/\x.2.1=x.1.length/\x.2.1<=1048576/\x.2.2.2.2.1<=x.2.1):Tot (kL x) (λr:D_×Int=>r.1.length=x.1.length/\(∀q∈r.1,q∈x.1)/\0<=r.2/\r.2<=x.2.1):=by
 refine E_ (R:=λr:D_×Int=>r.1.length=x.1.length/\(∀q∈r.1,q∈x.1)/\0<=r.2/\r.2<=x.2.1) (λy:D_×Int×FI×Int×Int×Int=>((∀p,Tot (y.2.2.1 p) λ_=>True)/\y.2.2.2.1=20/\0<=y.2.2.2.2.1/\y.2.2.2.2.2=y.2.2.2.2.1+20/\y.2.1=y.1.length/\y.2.1<=1048576/\y.2.2.2.2.1<=y.2.1)/\y.2.1=x.2.1/\y.2.2.1=x.2.2.1/\y.2.2.2.1=x.2.2.2.1/\y.1.length=x.1.length/\∀q∈y.1,q∈x.1) (λy:D_×Int×FI×Int×Int×Int=>(y.2.1-y.2.2.2.2.1).toNat) ?_ _ _ oi (by unfold fuel;grind);rintro next ⟨data_0,n_1,cmp_2,blockSize_6,a_7,b_8⟩ h hn
 try dsimp only at h hn
 unfold xY
 repeat' first
  |(with_reducible first|refine DZ.2 ⟨λ_=>?_,λ_=>?_⟩|refine DX.2 ?_|refine DY.2 ?_|refine(A6p _ ?_).mono λ_ _=>?_|refine hn _ ?_ ?_)
  |dsimp only
 all_goals exact qi
theorem APc(x:D_×Int×FI×Int×Int×Int)(h:(∀p,Tot (x.2.2.1 p) λ_=>True)/\0<x.2.2.2.1/\x.2.2.2.1<x.2.1/\0<=x.2.2.2.2.1/\x.2.2.2.2.2=x.2.2.2.2.1+2*x.2.2.2.1/\x.2.1=x.1.length/\x.2.1<=1048576/\x.2.2.2.2.1<=x.2.1):Tot (kM x) (λr:D_×Int=>r.1.length=x.1.length/\(∀q∈r.1,q∈x.1)/\0<=r.2/\r.2<=x.2.1):=by
 refine E_ (R:=λr:D_×Int=>r.1.length=x.1.length/\(∀q∈r.1,q∈x.1)/\0<=r.2/\r.2<=x.2.1) (λy:D_×Int×FI×Int×Int×Int=>((∀p,Tot (y.2.2.1 p) λ_=>True)/\0<y.2.2.2.1/\y.2.2.2.1<y.2.1/\0<=y.2.2.2.2.1/\y.2.2.2.2.2=y.2.2.2.2.1+2*y.2.2.2.1/\y.2.1=y.1.length/\y.2.1<=1048576/\y.2.2.2.2.1<=y.2.1)/\y.2.1=x.2.1/\y.2.2.1=x.2.2.1/\y.2.2.2.1=x.2.2.2.1/\y.1.length=x.1.length/\∀q∈y.1,q∈x.1) (λy:D_×Int×FI×Int×Int×Int=>(y.2.1-y.2.2.2.2.1).toNat) ?_ _ _ oi (by unfold fuel;grind);rintro next ⟨data_0,n_1,cmp_2,blockSize_6,a_7,b_8⟩ h hn
 try dsimp only at h hn
 unfold xZ
 repeat' first
  |(with_reducible first|refine DZ.2 ⟨λ_=>?_,λ_=>?_⟩|refine DX.2 ?_|refine DY.2 ?_|refine(A6q _ ?_).mono λ_ _=>?_|refine hn _ ?_ ?_)
  |dsimp only
 all_goals exact qi
theorem APd(x:D_×Int×FI×Int)(h:(∀p,Tot (x.2.2.1 p) λ_=>True)/\0<x.2.2.2/\x.2.2.2<=2097152/\x.2.1=x.1.length/\x.2.1<=1048576):Tot (kN x) (λr:List (DW×DW)=>r.length=x.1.length/\(∀q∈r,q∈x.1)):=by
 refine E_ (R:=λr:List (DW×DW)=>r.length=x.1.length/\(∀q∈r,q∈x.1)) (λy:D_×Int×FI×Int=>((∀p,Tot (y.2.2.1 p) λ_=>True)/\0<y.2.2.2/\y.2.2.2<=2097152/\y.2.1=y.1.length/\y.2.1<=1048576)/\y.2.1=x.2.1/\y.2.2.1=x.2.2.1/\y.1.length=x.1.length/\∀q∈y.1,q∈x.1) (λy:D_×Int×FI×Int=>(2097153-y.2.2.2).toNat) ?_ _ _ oi (by unfold fuel;grind);rintro next ⟨data_0,n_1,cmp_2,blockSize_6⟩ h hn
 try dsimp only at h hn
 unfold x_
 repeat' first
  |(with_reducible first|refine DZ.2 ⟨λ_=>?_,λ_=>?_⟩|refine DX.2 ?_|refine DY.2 ?_|refine(APc _ ?_).mono λ_ _=>?_|refine(A6q _ ?_).mono λ_ _=>?_|refine hn _ ?_ ?_)
  |dsimp only
 all_goals exact qi
theorem APe(x:D_×Int×FI)(h:(∀p,Tot (x.2.2 p) λ_=>True)/\x.2.1=x.1.length/\x.2.1<=1048576):Tot (ZA x) (λr:List (DW×DW)=>r.length=x.1.length/\(∀q∈r,q∈x.1)):=by
 obtain⟨data_0,n_1,cmp_2⟩:=x;try dsimp only at h ⊢
 unfold ZA
 repeat' first
  |(with_reducible first|refine DX.2 ?_|refine DY.2 ?_|refine(APb _ ?_).mono λ_ _=>?_|refine(A6p _ ?_).mono λ_ _=>?_|refine(APd _ ?_).mono λ_ _=>?_)
  |dsimp only
 all_goals exact qi
theorem APf(x:D_×FI)(h:(∀p,Tot (x.2 p) λ_=>True)/\x.1.length<=1048576):Tot (ZB x) (λr:List (DW×DW)=>r.length=x.1.length/\(∀q∈r,q∈x.1)):=by
 obtain⟨x_0,cmp_1⟩:=x;try dsimp only at h ⊢
 unfold ZB
 repeat' first
  |(with_reducible first|refine DX.2 ?_|refine DY.2 ?_|refine(APe _ ?_).mono λ_ _=>?_)
  |dsimp only
 all_goals exact qi
theorem APg(x:(List E5)×Int×FJ×Int×Int×Int)(h:(∀p,Tot (x.2.2.1 p) λ_=>True)/\x.2.2.2.1=20/\0<=x.2.2.2.2.1/\x.2.2.2.2.2=x.2.2.2.2.1+20/\x.2.1=x.1.length/\x.2.1<=1048576/\x.2.2.2.2.1<=x.2.1):Tot (mT x) (λr:(List E5)×Int=>r.1.length=x.1.length/\(∀q∈r.1,q∈x.1)/\0<=r.2/\r.2<=x.2.1):=by
 refine E_ (R:=λr:(List E5)×Int=>r.1.length=x.1.length/\(∀q∈r.1,q∈x.1)/\0<=r.2/\r.2<=x.2.1) (λy:(List E5)×Int×FJ×Int×Int×Int=>((∀p,Tot (y.2.2.1 p) λ_=>True)/\y.2.2.2.1=20/\0<=y.2.2.2.2.1/\y.2.2.2.2.2=y.2.2.2.2.1+20/\y.2.1=y.1.length/\y.2.1<=1048576/\y.2.2.2.2.1<=y.2.1)/\y.2.1=x.2.1/\y.2.2.1=x.2.2.1/\y.2.2.2.1=x.2.2.2.1/\y.1.length=x.1.length/\∀q∈y.1,q∈x.1) (λy:(List E5)×Int×FJ×Int×Int×Int=>(y.2.1-y.2.2.2.2.1).toNat) ?_ _ _ oi (by unfold fuel;grind);rintro next ⟨data_0,n_1,cmp_2,blockSize_6,a_7,b_8⟩ h hn
 try dsimp only at h hn
 unfold z_
 repeat' first
  |(with_reducible first|refine DZ.2 ⟨λ_=>?_,λ_=>?_⟩|refine DX.2 ?_|refine DY.2 ?_|refine(A6v _ ?_).mono λ_ _=>?_|refine hn _ ?_ ?_)
  |dsimp only
 all_goals exact qi
theorem APh(x:(List E5)×Int×FJ×Int×Int×Int)(h:(∀p,Tot (x.2.2.1 p) λ_=>True)/\0<x.2.2.2.1/\x.2.2.2.1<x.2.1/\0<=x.2.2.2.2.1/\x.2.2.2.2.2=x.2.2.2.2.1+2*x.2.2.2.1/\x.2.1=x.1.length/\x.2.1<=1048576/\x.2.2.2.2.1<=x.2.1):Tot (mU x) (λr:(List E5)×Int=>r.1.length=x.1.length/\(∀q∈r.1,q∈x.1)/\0<=r.2/\r.2<=x.2.1):=by
 refine E_ (R:=λr:(List E5)×Int=>r.1.length=x.1.length/\(∀q∈r.1,q∈x.1)/\0<=r.2/\r.2<=x.2.1) (λy:(List E5)×Int×FJ×Int×Int×Int=>((∀p,Tot (y.2.2.1 p) λ_=>True)/\0<y.2.2.2.1/\y.2.2.2.1<y.2.1/\0<=y.2.2.2.2.1/\y.2.2.2.2.2=y.2.2.2.2.1+2*y.2.2.2.1/\y.2.1=y.1.length/\y.2.1<=1048576/\y.2.2.2.2.1<=y.2.1)/\y.2.1=x.2.1/\y.2.2.1=x.2.2.1/\y.2.2.2.1=x.2.2.2.1/\y.1.length=x.1.length/\∀q∈y.1,q∈x.1) (λy:(List E5)×Int×FJ×Int×Int×Int=>(y.2.1-y.2.2.2.2.1).toNat) ?_ _ _ oi (by unfold fuel;grind);rintro next ⟨data_0,n_1,cmp_2,blockSize_6,a_7,b_8⟩ h hn
 try dsimp only at h hn
 unfold A00
 repeat' first
  |(with_reducible first|refine DZ.2 ⟨λ_=>?_,λ_=>?_⟩|refine DX.2 ?_|refine DY.2 ?_|refine(A6w _ ?_).mono λ_ _=>?_|refine hn _ ?_ ?_)
  |dsimp only
 all_goals exact qi
theorem APi(x:(List E5)×Int×FJ×Int)(h:(∀p,Tot (x.2.2.1 p) λ_=>True)/\0<x.2.2.2/\x.2.2.2<=2097152/\x.2.1=x.1.length/\x.2.1<=1048576):Tot (mV x) (λr:List E5=>r.length=x.1.length/\(∀q∈r,q∈x.1)):=by
 refine E_ (R:=λr:List E5=>r.length=x.1.length/\(∀q∈r,q∈x.1)) (λy:(List E5)×Int×FJ×Int=>((∀p,Tot (y.2.2.1 p) λ_=>True)/\0<y.2.2.2/\y.2.2.2<=2097152/\y.2.1=y.1.length/\y.2.1<=1048576)/\y.2.1=x.2.1/\y.2.2.1=x.2.2.1/\y.1.length=x.1.length/\∀q∈y.1,q∈x.1) (λy:(List E5)×Int×FJ×Int=>(2097153-y.2.2.2).toNat) ?_ _ _ oi (by unfold fuel;grind);rintro next ⟨data_0,n_1,cmp_2,blockSize_6⟩ h hn
 try dsimp only at h hn
 unfold A01
 repeat' first
  |(with_reducible first|refine DZ.2 ⟨λ_=>?_,λ_=>?_⟩|refine DX.2 ?_|refine DY.2 ?_|refine(APh _ ?_).mono λ_ _=>?_|refine(A6w _ ?_).mono λ_ _=>?_|refine hn _ ?_ ?_)
  |dsimp only
 all_goals exact qi
theorem APj(x:(List E5)×Int×FJ)(h:(∀p,Tot (x.2.2 p) λ_=>True)/\x.2.1=x.1.length/\x.2.1<=1048576):Tot (bV x) (λr:List E5=>r.length=x.1.length/\(∀q∈r,q∈x.1)):=by
 obtain⟨data_0,n_1,cmp_2⟩:=x;try dsimp only at h ⊢
 unfold bV
 repeat' first
  |(with_reducible first|refine DX.2 ?_|refine DY.2 ?_|refine(APg _ ?_).mono λ_ _=>?_|refine(A6v _ ?_).mono λ_ _=>?_|refine(APi _ ?_).mono λ_ _=>?_)
  |dsimp only
 all_goals exact qi
theorem APk(x:(List E5)×FJ)(h:(∀p,Tot (x.2 p) λ_=>True)/\x.1.length<=1048576):Tot (bW x) (λr:List E5=>r.length=x.1.length/\(∀q∈r,q∈x.1)):=by
 obtain⟨x_0,cmp_1⟩:=x;try dsimp only at h ⊢
 unfold bW
 repeat' first
  |(with_reducible first|refine DX.2 ?_|refine DY.2 ?_|refine(APj _ ?_).mono λ_ _=>?_)
  |dsimp only
 all_goals exact qi
theorem APl(x:DW)(h:True):Tot (RB x) (λr:Bool=>True):=by
 unfold RB
 repeat' first
  |with_reducible refine DY.2 ?_
  |dsimp only
 all_goals exact qi
theorem A7A(x:DW×DW)(h:True):Tot (LO x) (λr:Int=>-1<=r/\r<=1):=by
 obtain⟨x_0,y_1⟩:=x;try dsimp only at h ⊢
 unfold LO
 repeat' first
  |(with_reducible first|refine DZ.2 ⟨λ_=>?_,λ_=>?_⟩|refine DX.2 ?_|refine DY.2 ?_|refine(APl _ ?_).mono λ_ _=>?_)
  |dsimp only
 all_goals exact qi
theorem APm(x:(DW×DW)×(DW×DW))(h:True):Tot (ZC x) (λr:Int=>True):=by
 obtain⟨a_0,b_1⟩:=x;try dsimp only at h ⊢
 unfold ZC
 repeat' first
  |(with_reducible first|refine DX.2 ?_|refine DY.2 ?_|refine(A7A _ ?_).mono λ_ _=>?_)
  |dsimp only
 all_goals exact qi
theorem APn(x:DW×Int×Int)(h:x.1.length<=3000/\x.2.1=0/\x.2.2= -1):Tot (Z5 x) (λr:HF×F0=>r.1.2.2.2.2.1.length<=1048576):=by
 unfold Z5;obtain⟨g1,g2,g3⟩:=h;refine DX.2 ((ANL _ ⟨o7,o7,o7⟩).mono λr1 h1=>?_);dsimp only at h1;refine DZ.2 ⟨λ_=>DY.2 oc,λ_=>?_⟩;refine DX.2 ((A6a _ ⟨by rw[h1.1];omega,h1.2.1,by rw[h1.1];exact h1.2.2.1⟩).mono λr2 h2=>?_);obtain⟨a1,a2,a3,a4,a5,a6⟩:=h2;rw[h1.1]at a1 a3;rw[EW o5 o5];refine DX.2 (HD.2 ⟨⟨o5,o5,o5⟩,?_⟩);have hj:(Lib.join ((r2.1.take ((r2.1.length:Int)-1).toNat).drop (0:Int).toNat) [47]).length<=1048577*(1048576+1):=eL (λs hs=>a6 s (EL hs)) (by rw[EJ];omega) oc;refine DX.2 ((S0 _ ⟨by dsimp only;rw[EJ];omega,o7⟩).mono λr4 h4=>?_);refine DX.2 (EZ.2 ⟨⟨o5,o5⟩,λy5 hy5=>?_⟩);refine DX.2 (Tot.mono (P:=λr6:Int=>r6=0\/r2.2.2.1<r2.2.1.length) ?_ λr6 h6=>?_)
 .refine DZ.2 ⟨λ_=>(S2 _ ⟨_,rfl,o5⟩).mono λr hr=>?_,λ_=>DY.2 (Or.inl rfl)⟩;rcases hr.2 with h|⟨y,hy,h⟩
  .exact Or.inl h
  .cases hy;exact Or.inr h
 refine DX.2 ((ANU _ ⟨by dsimp only;rw[a1];omega,o7,by dsimp only;rw[a1];omega,λhe=>?_,oc⟩).mono λr8 h8=>?_)
 .dsimp only at he ⊢;rcases h6 with h6|h6
  .subst h6;simp[E0]at he
  .exact h6
 dsimp only at h8;obtain⟨b1,b2,b3,b4,b5,b6,b7,b8⟩:=h8;rw[a1]at b1 b3;refine DX.2 ((ANV _ ⟨by dsimp only;rw[b1];omega,o7,by dsimp only;rw[b1];omega,?_,o7,?_⟩).mono λr13 h13=>?_)
 .dsimp only;rw[b8];simp;omega
 .dsimp only;rw[b8];simp
 dsimp only at h13;obtain⟨c1,c2,c3,c4,c5,c6,c7,c8,c9,c10⟩:=h13;rw[b1]at c1 c3;refine DX.2 (Tot.mono (P:=λr14:Int=>r14=0\/r13.1.2.1<r13.1.1.length) ?_ λr14 h14=>?_)
 .refine DZ.2 ⟨λ_=>(S2 _ ⟨_,rfl,o5⟩).mono λr hr=>?_,λ_=>DY.2 (Or.inl rfl)⟩;rcases hr.2 with h|⟨y,hy,h⟩
  .exact Or.inl h
  .cases hy;exact Or.inr h
 refine DX.2 ((AN_ _ ⟨by dsimp only;rw[c1];omega,o7,by dsimp only;rw[c1];omega,λhe=>?_,?_⟩).mono λr17 h17=>?_)
 .dsimp only at he ⊢;rcases h14 with h14|h14
  .subst h14;simp[E0]at he
  .exact h14
 .dsimp only;rw[c8,b8];simp
 dsimp only at h17;obtain⟨d1,d2,d3,d4,d5,d6,d7,d8,d9⟩:=h17;refine DZ.2 ⟨λ_=>DX.2 ((S1 _ trivial).mono λr19 _=>DY.2 ?_),λ_=>DY.2 ?_⟩<;>
 .dsimp only;rw[d8];exact c9
theorem APo(x:IZ×HF×Int)(h:1<=x.2.2/\x.2.1.2.2.2.2.1.length<=1048576):Tot (kY x) (λr:Sum (IZ×HF) (IZ×Int×Int)=>(∀y,r=.inl y->y.2.2.2.2.2.1.length<=1048576)/\∀y,r=.inr y->y.2.2≠0):=by
 refine E_ (R:=λr:Sum (IZ×HF) (IZ×Int×Int)=>(∀y,r=.inl y->y.2.2.2.2.2.1.length<=1048576)/\∀y,r=.inr y->y.2.2≠0)
  (λy:IZ×HF×Int=>1<=y.2.2/\y.2.1.2.2.2.2.1.length<=1048576) (λy:IZ×HF×Int=>(y.2.1.2.2.2.2.1.length-y.2.2:Int).toNat) ?_ _ _ h (by unfold fuel;omega)
 rintro next ⟨t2,p,i⟩ h hn
 dsimp only at h hn;unfold yK;dsimp only;refine DZ.2 ⟨λhc=>?_,λ_=>DY.2 ⟨λy hy=>by cases hy;exact h.2,λy hy=>by cases hy⟩⟩;have hc:=A9 hc;rw[EW o5 o5,EW o5 o5];refine DX.2 (FD.2 ⟨⟨o5,o5⟩,?_⟩);refine DX.2 (FD.2 ⟨⟨o5,o5⟩,?_⟩);refine DZ.2 ⟨λ_=>DY.2 ⟨λy hy=>(by cases hy),λy hy=>(by cases hy;simp)⟩,λ_=>?_⟩;exact hn _ ⟨o7,o7⟩ o7
theorem A7B(x:DW)(h:x.length<=1048576):Tot (UG x) (λr:IZ×Int×Int=>r.2.2=0->r.1.2.2.2.2.1.length<=1048576):=by
 unfold UG;refine DZ.2 ⟨λ_=>DY.2 oc,λhc=>?_⟩;have hc:=AO hc;refine DX.2 ((APn _ ⟨o7,rfl,rfl⟩).mono λr2 h2=>?_);refine DZ.2 ⟨λ_=>DY.2 oc,λ_=>?_⟩;refine DX.2 ((APf _ ⟨λc=>GR (APm c trivial),h2⟩).mono λr4 h4=>?_);refine DX.2 ((APo _ ⟨o7,by dsimp only;rw[h4.1];exact h2⟩).mono λr8 h8=>?_);rcases r8 with y|y
 .have hy:=h8.1 y rfl;refine DX.2 ((A6m _ hy).mono λr11 h11=>?_);refine DZ.2 ⟨λhe=>DY.2 λh0=>?_,λhe=>?_⟩
  .dsimp only at h0;rw[h0,E0]at he;simp at he
  .rw[E0]at he;have h0:r11=0:=by simpa using he
   have hb:=h11 h0;refine DX.2 ((A6l _ hb).mono λr14 h14=>DY.2 λ_=>?_);have:=h14.2.2.2.2.2.1;dsimp only;omega
 .exact DY.2 λh0=>absurd h0 (h8.2 y rfl)
theorem APp(x:DW)(h:x.length<=1048576):Tot (bK x) (λr:Bool=>True):=by
 unfold bK
 repeat' first
  |(with_reducible first|refine DZ.2 ⟨λ_=>?_,λ_=>?_⟩|refine DX.2 ?_|refine DY.2 ?_|refine(A7B _ ?_).mono λ_ _=>?_|refine(A6o _ ?_).mono λ_ _=>?_)
  |dsimp only
 all_goals exact qi
theorem APq(x:GX×I5×Int×Int)(h:0<=x.2.2.2/\x.2.2.2<=x.2.2.1/\x.2.2.1=x.2.1.length/\x.2.2.1<=281474976710656/\(∀v∈x.2.1,v.2.length<=1048576)/\(∀j:Nat,(j:Int)<x.2.2.2->∀v,x.2.1[j]?=some v->1<=v.1/\v.1<=3)):Tot (mF x) (λr:Sum (Unit) (Int)=>(∀y,r=.inl y->∀v∈x.2.1,1<=v.1/\v.1<=3)/\∀y,r=.inr y->y≠0):=by
 refine E_ (R:=λr:Sum Unit Int=>(∀y,r=.inl y->∀v∈x.2.1,1<=v.1/\v.1<=3)/\∀y,r=.inr y->y≠0)
  (λy:Af×I5×Int×Int=>0<=y.2.2.2/\y.2.2.2<=y.2.2.1/\y.2.2.1=y.2.1.length/\y.2.2.1<=281474976710656/\y.2.1=x.2.1/\(∀v∈y.2.1,v.2.length<=1048576)/\∀j:Nat,(j:Int)<y.2.2.2->∀v,y.2.1[j]?=some v->1<=v.1/\v.1<=3)
  (λy=>(y.2.2.1-y.2.2.2).toNat) ?_ _ _ ⟨h.1,h.2.1,h.2.2.1,h.2.2.2.1,rfl,h.2.2.2.2⟩ (by unfold fuel;have:=h.2.2.2.1;omega)
 rintro next ⟨a,l,n,i⟩ hI hn
 dsimp only at hI hn;obtain⟨i0,i1,i2,i3,i4,i5,i6⟩:=hI;unfold zN;dsimp only;refine DZ.2 ⟨λhc=>?_,λhc=>DY.2 ⟨λy _ v hv=>?_,λy hy=>(by cases hy)⟩⟩
 .have hc:=A9 hc;rw[EW o5 o5];refine DX.2 (EZ.2 ⟨⟨i0,o5⟩,λv hv=>?_⟩);refine DZ.2 ⟨λ_=>DY.2 ⟨λy hy=>(by cases hy),λy hy=>(by cases hy;decide)⟩,λhk=>?_⟩
  have hk:1<=v.1/\v.1<=3:=by
   have:=BS.1 hk;have h1:=AO this.1;have h2:=AO this.2;omega
  have hstep:∀j:Nat,(j:Int)<i+1->∀v,l[j]?=some v->1<=v.1/\v.1<=3:=by
   intro j hj w hw;by_cases hj':(j:Int)<i
   .exact i6 j hj' w hw
   .have:j=i.toNat:=o5
    subst this;rw[hv]at hw;cases hw;exact hk
  have hgo:Tot (next (a,l,n,i+1)) (λr:Sum Unit Int=>(∀y,r=.inl y->∀v∈x.2.1,1<=v.1/\v.1<=3)/\∀y,r=.inr y->y≠0):=
   hn _ ⟨o7,o7,i2,i3,i4,i5,hstep⟩ o7
  refine DZ.2 ⟨λ_=>DZ.2 ⟨λ_=>DY.2 ⟨λy hy=>(by cases hy),λy hy=>(by cases hy;decide)⟩,λ_=>hgo⟩,λ_=>?_⟩;refine DX.2 ((eP (a.2.1,v.2) (i5 v (N7 hv))).mono λr _=>?_);refine DZ.2 ⟨λhe=>DY.2 ⟨λy hy=>(by cases hy),λy hy=>?_⟩,λ_=>hgo⟩;cases hy;rw[E0]at he;simpa using he
 .have hc:=AO hc;rw[<-i4]at hv;obtain⟨j,hj,hjv⟩:=List.mem_iff_getElem.1 hv;exact i6 j o5 v (by rw[<-hjv];exact A0 hj)
theorem APr(x:DW×Int×I5×(List DW)×(List DW))(h:N5 x):Tot (bM x) (λr:Int=>r=0->x.2.2.1.length<=100/\∀v∈x.2.2.1,1<=v.1/\v.1<=3):=by
 unfold bM;refine DZ.2 ⟨λ_=>DY.2 λh0=>absurd h0 od,λhc=>?_⟩;have hc:=AO hc;refine DX.2 ((APq _ ⟨BF _,BN _,rfl,o7,h.2.2.1,λj hj=>by dsimp only at hj;omega⟩).mono λr hr=>?_);rcases r with r|r
 .exact DY.2 λ_=>⟨o5,hr.1 r rfl⟩
 .exact DY.2 λh0=>absurd h0 (hr.2 r rfl)
set_option maxHeartbeats 1000000 in
theorem APs(x:DW×Bool×Int×Int)(h:0<=x.2.2.2/\x.2.2.2<=x.2.2.1/\x.2.2.1<=281474976710656/\x.2.2.1=x.1.length/\x.2.2.1<=1048576):Tot (mG x) (λr:Bool=>True):=by
 refine E_ (R:=λr:Bool=>True) (λy:DW×Bool×Int×Int=>(0<=y.2.2.2/\y.2.2.2<=y.2.2.1/\y.2.2.1<=281474976710656/\y.2.2.1=y.1.length/\y.2.2.1<=1048576)) (λy:DW×Bool×Int×Int=>(y.2.2.1-y.2.2.2).toNat) ?_ _ _ oi (by unfold fuel;grind);rintro next ⟨s_4,bad_5,t25,t26⟩ h hn
 try dsimp only at h hn
 unfold zO
 repeat' first
  |(with_reducible first|refine DZ.2 ⟨λ_=>?_,λ_=>?_⟩|refine DX.2 ?_|refine DY.2 ?_|refine EZ.2 ⟨?_,λ_ _=>?_⟩|refine hn _ ?_ ?_)
  |dsimp only
 all_goals exact qi
theorem APt(x:(List DW)×(List DW)×Int×Int)(h:0<=x.2.2.2/\x.2.2.2<=x.2.2.1/\x.2.2.1=x.2.1.length/\x.2.2.1<=281474976710656/\x.1=x.2.1/\∀s∈x.2.1,s.length<=1048576):Tot (mH x) (λr:Sum (Unit) (Int)=>∀y,r=.inr y->y≠0):=by
 refine E_ (R:=λr:Sum Unit Int=>∀y,r=.inr y->y≠0)
  (λy:(List DW)×(List DW)×Int×Int=>0<=y.2.2.2/\y.2.2.2<=y.2.2.1/\y.2.2.1=y.2.1.length/\y.2.2.1<=281474976710656/\y.1=y.2.1/\∀v∈y.2.1,v.length<=1048576)
  (λy=>(y.2.2.1-y.2.2.2).toNat) ?_ _ _ h (by unfold fuel;have:=h.2.2.2.1;omega)
 rintro next ⟨a,l,n,i⟩ hI hn
 dsimp only at hI hn;obtain⟨i0,i1,i2,i3,i4,i5⟩:=hI;subst i4;unfold zP;dsimp only;refine DZ.2 ⟨λhc=>?_,λhc=>DY.2 λy hy=>(by cases hy)⟩;have hc:=A9 hc;rw[EW (n:=i+1) o5 o5,EW o5 o5];refine DX.2 (EZ.2 ⟨⟨i0,o5⟩,λv hv=>?_⟩);have hvl:=i5 v (N7 hv);refine DX.2 ((APs _ ⟨BF _,BN _,o7,rfl,o7⟩).mono λr _=>?_);refine DZ.2 ⟨λ_=>DY.2 λy hy=>(by cases hy;decide),λ_=>?_⟩;refine DX.2 (Tot.mono (P:=λ_=>True) (DZ.2 ⟨λhz=>?_,λ_=>DY.2 trivial⟩) λy7 _=>?_)
 .have hz:=A9 hz;exact EZ.2 ⟨⟨o5,o5⟩,λ_ _=>trivial⟩
 .refine DZ.2 ⟨λ_=>DY.2 λy hy=>(by cases hy;decide),λ_=>?_⟩;exact hn _ ⟨o7,o7,i2,i3,rfl,i5⟩ o7
theorem APu(x:List DW)(h:∀s∈x,s.length<=1048576):Tot (bN x) (λr:Int=>True):=by
 unfold bN
 repeat' first
  |(with_reducible first|refine DZ.2 ⟨λ_=>?_,λ_=>?_⟩|refine DX.2 ?_|refine DY.2 ?_|refine(APt _ ?_).mono λ_ _=>?_)
  |split
  |dsimp only
 all_goals exact qi
theorem APv(x:GX×(List DW)×Int×Int)(h:0<=x.2.2.2/\x.2.2.2<=x.2.2.1/\x.2.2.1=x.2.1.length/\x.2.2.1<=281474976710656/\∀s∈x.2.1,s.length<=1048576):Tot (mI x) (λr:Sum GX (Int)=>(∀y,r=.inl y->y=x.1)/\∀y,r=.inr y->y≠0):=by
 refine E_ (R:=λr:Sum GX (Int)=>(∀y,r=.inl y->y=x.1)/\∀y,r=.inr y->y≠0) (λy:GX×(List DW)×Int×Int=>(0<=y.2.2.2/\y.2.2.2<=y.2.2.1/\y.2.2.1=y.2.1.length/\y.2.2.1<=281474976710656/\∀s∈y.2.1,s.length<=1048576)/\y.1=x.1) (λy:GX×(List DW)×Int×Int=>(y.2.2.1-y.2.2.2).toNat) ?_ _ _ oi (by unfold fuel;grind);rintro next ⟨a_1,t32,t33,t34⟩ h hn
 try dsimp only at h hn
 unfold zQ
 repeat' first
  |(with_reducible first|refine DZ.2 ⟨λ_=>?_,λ_=>?_⟩|refine DX.2 ?_|refine DY.2 ?_|refine EZ.2 ⟨?_,λ_ _=>?_⟩|refine(eP _ ?_).mono λ_ _=>?_|refine hn _ ?_ ?_)
  |dsimp only
 all_goals exact qi
theorem APw(x:DW×Int×I5×(List DW)×(List DW))(h:N5 x):Tot (bO x) (λr:Int=>r=0->rQ x):=by
 unfold bO;refine DX.2 ((APp _ h.1).mono λr1 _=>?_);refine DZ.2 ⟨λ_=>DY.2 λh0=>absurd h0 od,λ_=>?_⟩;refine DZ.2 ⟨λ_=>DY.2 λh0=>absurd h0 od,λ_=>?_⟩;refine DX.2 ((APr _ h).mono λr3 h3=>?_);refine DZ.2 ⟨λhe=>DY.2 λh0=>?_,λhe=>?_⟩
 .rw[E0,h0]at he;simp at he
 have h30:r3=0:=by rw[E0]at he;simpa using he
 refine DZ.2 ⟨λ_=>DY.2 λh0=>absurd h0 od,λhc=>?_⟩;have hc:=AO hc;refine DX.2 ((APv _ ⟨BF _,BN _,rfl,o7,h.2.2.2.2.1⟩).mono λr6 h6=>?_);rcases r6 with y|y
 .have:=h6.1 y rfl;subst this;exact DX.2 ((APu _ h.2.2.2.2.2.2).mono λr8 _=>DY.2 λ_=>⟨(h3 h30).1,(h3 h30).2,o5⟩)
 .exact DY.2 λh0=>absurd h0 (h6.2 y rfl)
theorem APx(x:Unit)(h:True):Tot (bP x) (λr:List Int=>r.length=4):=by
 unfold bP
 repeat' first
  |with_reducible refine DY.2 ?_
  |dsimp only
 all_goals exact qi
theorem APy(x:(Int->Option DW)×(List Int)×(List Int)×Int×Int)(h:0<=x.2.2.2.2/\x.2.2.2.2<=x.2.2.2.1/\x.2.2.2.1=x.2.2.1.length/\x.2.2.2.1<=281474976710656/\(∀n∈x.2.2.1,Tot (x.1 n) λs=>s.length<=100)/\x.2.2.2.1<=1002/\x.2.1.length<=100*x.2.2.2.2):Tot (lU x) (λr:List Int=>r.length<=100200):=by
 refine E_ (R:=λr:List Int=>r.length<=100200) (λy:(Int->Option DW)×(List Int)×(List Int)×Int×Int=>0<=y.2.2.2.2/\y.2.2.2.2<=y.2.2.2.1/\y.2.2.2.1=y.2.2.1.length/\y.2.2.2.1<=281474976710656/\(∀n∈y.2.2.1,Tot (y.1 n) λs=>s.length<=100)/\y.2.2.2.1<=1002/\y.2.1.length<=100*y.2.2.2.2)
  (λy=>(y.2.2.2.1-y.2.2.2.2).toNat) ?_ _ _ h (by unfold fuel;have:=h.2.2.2.1;omega)
 rintro next ⟨f,b,l,n,i⟩ hI hn
 dsimp only at hI hn;obtain⟨i0,i1,i2,i3,i4,i5,i6⟩:=hI;unfold zC;dsimp only;refine DZ.2 ⟨λhc=>?_,λhc=>DY.2 o5⟩;have hc:=A9 hc;rw[EW o5 o5];refine DX.2 (EZ.2 ⟨⟨i0,o5⟩,λv hv=>?_⟩);refine DX.2 ((i4 v (N7 hv)).mono λs hs=>?_);refine DX.2 ((VN _ ⟨o7,o7⟩).mono λr3 h3=>?_);dsimp only at h3;exact hn _ ⟨o7,o7,i2,i3,i4,i5,o7⟩ o7
theorem A7C(x:(List Int)×DW×(Int->Option DW))(h:(∀n∈x.1,Tot (x.2.2 n) λs=>s.length<=100)/\x.1.length<=1002/\x.2.1.length<=10):Tot (UT x) (λr:DW=>r.length<=100210):=by
 obtain⟨l,e,f⟩:=x;dsimp only at h ⊢;unfold UT;obtain⟨h1,h2,h3⟩:=h;dsimp only;refine DX.2 ((APy _ ⟨BF _,BN _,rfl,o7,h1,o7,oc⟩).mono λr hr=>?_);refine DX.2 ((PF _ trivial).mono λs hs=>?_);exact DX.2 (FS.2 ⟨o5,DY.2 (by rw[A6];omega)⟩)
theorem APz(x:(DW->Option DW)×(List Int)×(List DW)×Int×Int)(h:0<=x.2.2.2.2/\x.2.2.2.2<=x.2.2.2.1/\x.2.2.2.1=x.2.2.1.length/\x.2.2.2.1<=281474976710656/\(∀n∈x.2.2.1,Tot (x.1 n) λs=>s.length<=3000)/\x.2.2.2.1<=1002/\x.2.1.length<=3000*x.2.2.2.2):Tot (lV x) (λr:List Int=>r.length<=3006000):=by
 refine E_ (R:=λr:List Int=>r.length<=3006000) (λy:(DW->Option DW)×(List Int)×(List DW)×Int×Int=>0<=y.2.2.2.2/\y.2.2.2.2<=y.2.2.2.1/\y.2.2.2.1=y.2.2.1.length/\y.2.2.2.1<=281474976710656/\(∀n∈y.2.2.1,Tot (y.1 n) λs=>s.length<=3000)/\y.2.2.2.1<=1002/\y.2.1.length<=3000*y.2.2.2.2)
  (λy=>(y.2.2.2.1-y.2.2.2.2).toNat) ?_ _ _ h (by unfold fuel;have:=h.2.2.2.1;omega)
 rintro next ⟨f,b,l,n,i⟩ hI hn
 dsimp only at hI hn;obtain⟨i0,i1,i2,i3,i4,i5,i6⟩:=hI;unfold zD;dsimp only;refine DZ.2 ⟨λhc=>?_,λhc=>DY.2 o5⟩;have hc:=A9 hc;rw[EW o5 o5];refine DX.2 (EZ.2 ⟨⟨i0,o5⟩,λv hv=>?_⟩);refine DX.2 ((i4 v (N7 hv)).mono λs hs=>?_);refine DX.2 ((VN _ ⟨o7,o7⟩).mono λr3 h3=>?_);dsimp only at h3;exact hn _ ⟨o7,o7,i2,i3,i4,i5,o7⟩ o7
theorem A7D(x:(List DW)×DW×(DW->Option DW))(h:(∀n∈x.1,Tot (x.2.2 n) λs=>s.length<=3000)/\x.1.length<=1002/\x.2.1.length<=10):Tot (UU x) (λr:DW=>r.length<=3006010):=by
 obtain⟨l,e,f⟩:=x;dsimp only at h ⊢;unfold UU;obtain⟨h1,h2,h3⟩:=h;dsimp only;refine DX.2 ((APz _ ⟨BF _,BN _,rfl,o7,h1,o7,oc⟩).mono λr hr=>?_);refine DX.2 ((PF _ trivial).mono λs hs=>?_);exact DX.2 (FS.2 ⟨o5,DY.2 (by rw[A6];omega)⟩)
theorem AQ0(x:DW)(h:x.length<=1000):Tot (aU x) (λr:DW=>r.length<=3000):=by
 unfold aU
 repeat' first
  |(with_reducible first|refine DZ.2 ⟨λ_=>?_,λ_=>?_⟩|refine DX.2 ?_|refine DY.2 ?_|refine EZ.2 ⟨?_,λ_ _=>?_⟩|refine FS.2 ⟨?_,?_⟩|refine(JW _ ?_).mono λ_ _=>?_|refine(JG _ ?_).mono λ_ _=>?_)
  |dsimp only
 all_goals exact qi
theorem eQ(x:(List Int)×(List DW))(h:eK x):Tot (MR x) (λr:DW=>r.length<=10000000):=by
 unfold MR;obtain⟨h1,h2,h3,h4⟩:=h;refine DX.2 (HD.2 ⟨⟨o5,o5,o5⟩,?_⟩);refine DX.2 ((A7C _ ⟨λn hn=>DX.2 ((JG n (h2 n (EL hn))).mono λr hr=>DY.2 o5),by dsimp only;rw[EJ];omega,oc⟩).mono λr2 hr2=>?_);refine DZ.2 ⟨λ_=>DX.2 (FS.2 ⟨og,DY.2 og⟩),λ_=>?_⟩;refine DX.2 (FS.2 ⟨og,?_⟩);refine DX.2 ((A7D _ ⟨λs hs=>DX.2 ((AQ0 s (h4 s hs)).mono λr hr=>DY.2 hr),h3,oc⟩).mono λr5 hr5=>?_);exact DX.2 (FS.2 ⟨og,DY.2 og⟩)
theorem eR(x:Int×DW×DW×Bool)(h:PG x):Tot (MS x) (λr:DW=>r.length<=10000000):=by
 unfold MS
 repeat' first
  |(with_reducible first|refine DX.2 ?_|refine DY.2 ?_|refine EZ.2 ⟨?_,λ_ _=>?_⟩|refine FS.2 ⟨?_,?_⟩|refine(JG _ ?_).mono λ_ _=>?_|refine(A78 _ ?_).mono λ_ _=>?_|refine(A77 _ ?_).mono λ_ _=>?_)
  |dsimp only
 all_goals exact qi
theorem AQ1(x:Int)(h:0<=x/\x<=999999999999999999):Tot (aV x) (λr:DW=>r.length<=100):=by
 unfold aV
 repeat' first
  |(with_reducible first|refine DX.2 ?_|refine DY.2 ?_|refine EZ.2 ⟨?_,λ_ _=>?_⟩|refine FS.2 ⟨?_,?_⟩|refine(JG _ ?_).mono λ_ _=>?_)
  |dsimp only
 all_goals exact qi
theorem AQ2(x:Int×(List Int)×Int×Int×Int×Int×(List DW))(h:0<=x.2.2.1/\x.2.2.1<=3):Tot (aW x) (λr:Int=>0<=r/\r<=4):=by
 unfold aW
 repeat' first
  |(with_reducible first|refine DZ.2 ⟨λ_=>?_,λ_=>?_⟩|refine DY.2 ?_)
  |dsimp only
 all_goals exact qi
theorem AQ3(x:Int)(h:x<=999999999999999999):Tot (aX x) (λr:DW=>r.length<=30):=by
 unfold aX
 repeat' first
  |(with_reducible first|refine DZ.2 ⟨λ_=>?_,λ_=>?_⟩|refine DX.2 ?_|refine DY.2 ?_|refine EZ.2 ⟨?_,λ_ _=>?_⟩|refine FS.2 ⟨?_,?_⟩|refine(JG _ ?_).mono λ_ _=>?_)
  |dsimp only
 all_goals exact qi
theorem AQ4(x:DW)(h:x.length<=1000):Tot (aY x) (λr:DW=>r.length<=3000):=by
 unfold aY
 repeat' first
  |(with_reducible first|refine DZ.2 ⟨λ_=>?_,λ_=>?_⟩|refine DX.2 ?_|refine DY.2 ?_|refine EZ.2 ⟨?_,λ_ _=>?_⟩|refine FS.2 ⟨?_,?_⟩|refine(JW _ ?_).mono λ_ _=>?_|refine(JG _ ?_).mono λ_ _=>?_)
  |dsimp only
 all_goals exact qi
theorem AQ5(x:FY×DW×Bool)(h:(x.2.2=true->0<=x.1.2.2.2.2.2.1/\x.1.2.2.2.2.2.1<=999999999999999999)/\x.2.1.length<=10000000):Tot (aZ x) (λr:FY×DW=>r.1=x.1/\r.2.length<=x.2.1.length+30):=by
 obtain⟨v_1,s_3,t27⟩:=x;try dsimp only at h ⊢
 unfold aZ
 repeat' first
  |(with_reducible first|refine DZ.2 ⟨λ_=>?_,λ_=>?_⟩|refine DX.2 ?_|refine DY.2 ?_|refine EZ.2 ⟨?_,λ_ _=>?_⟩|refine FS.2 ⟨?_,?_⟩|refine(JG _ ?_).mono λ_ _=>?_)
  |dsimp only
 all_goals exact qi
theorem eS(x:Int×(List Int)×Int×Int×Int×Int×(List DW))(h:MD x):Tot (MT x) (λr:DW=>r.length<=10000000):=by
 unfold MT;obtain⟨h1,h2,h3,h4,h5,h6,h7⟩:=h;refine DX.2 ((JG _ h1).mono λr1 g1=>?_);refine DX.2 ((A79 _ h2).mono λr2 g2=>?_);refine DX.2 ((A7C _ ⟨λn hn=>DX.2 ((AQ1 n (g2.2 n hn)).mono λr hr=>DY.2 hr),g2.1,oc⟩).mono λr3 g3=>?_);refine DX.2 (FS.2 ⟨o5,?_⟩);refine DX.2 ((AQ2 _ h3).mono λr5 g5=>?_);refine DX.2 ((IP _ trivial).mono λr6 g6=>?_);refine DX.2 ((JG _ h4).mono λr7 g7=>?_);refine DX.2 (FS.2 ⟨o5,?_⟩);refine DX.2 ((AQ3 _ h5.2).mono λr9 g9=>?_);refine DX.2 (FS.2 ⟨by rw[A6];omega,?_⟩);refine DX.2 (FS.2 ⟨by simp only[A6];omega,?_⟩);refine DX.2 ((AQ5 _ ⟨λhe=>⟨A9 he,h6.2⟩,by simp only[A6];omega⟩).mono λr16 g16=>?_);simp only[A6]at g16;refine DZ.2 ⟨λ_=>DX.2 (FS.2 ⟨og,DY.2 og⟩),λ_=>?_⟩;refine DX.2 (FS.2 ⟨og,?_⟩);refine DX.2 ((A7D _ ⟨λs hs=>DX.2 ((AQ4 s (h7.2 s (by rw[g16.1]at hs;exact hs))).mono λr hr=>DY.2 hr),by dsimp only;rw[g16.1];exact h7.1,oc⟩).mono λr19 g19=>?_);exact DX.2 (FS.2 ⟨og,DY.2 og⟩)
theorem A7E(x:Unit)(h:True):Tot (UV x) (λr:List DW=>r.length=5):=by
 unfold UV
 repeat' first
  |with_reducible refine DY.2 ?_
  |dsimp only
 all_goals exact qi
theorem AQ6(x:(List DW)×DW×Int×Int)(h:0<=x.2.2.2/\x.2.2.2<=x.2.2.1/\x.2.2.1=x.1.length/\x.2.2.1<=281474976710656):Tot (b9 x) (λr:Sum (Unit) (Int)=>∀y,r=.inr y->0<=y/\y<x.1.length):=by
 refine E_ (R:=λr:Sum (Unit) (Int)=>∀y,r=.inr y->0<=y/\y<x.1.length) (λy:(List DW)×DW×Int×Int=>(0<=y.2.2.2/\y.2.2.2<=y.2.2.1/\y.2.2.1=y.1.length/\y.2.2.1<=281474976710656)/\y.1=x.1) (λy:(List DW)×DW×Int×Int=>(y.2.2.1-y.2.2.2).toNat) ?_ _ _ oi (by unfold fuel;grind);rintro next ⟨s_0,v_1,t7,t8⟩ h hn
 try dsimp only at h hn
 unfold a_
 repeat' first
  |(with_reducible first|refine DZ.2 ⟨λ_=>?_,λ_=>?_⟩|refine DX.2 ?_|refine DY.2 ?_|refine EZ.2 ⟨?_,λ_ _=>?_⟩|refine hn _ ?_ ?_)
  |dsimp only
 all_goals exact qi
theorem A7F(x:(List DW)×DW)(h:x.1.length<=1048576):Tot (MU x) (λr:Int=>-1<=r/\r<x.1.length):=by
 obtain⟨s_0,v_1⟩:=x;try dsimp only at h ⊢
 unfold MU
 repeat' first
  |(with_reducible first|refine DX.2 ?_|refine DY.2 ?_|refine(AQ6 _ ?_).mono λ_ _=>?_)
  |split
  |dsimp only
 all_goals exact qi
theorem AQ7(x:(List DW)×DW)(h:x.1.length<=1048576):Tot (OU x) (λr:Bool=>True):=by
 obtain⟨s_0,v_1⟩:=x;try dsimp only at h ⊢
 unfold OU
 repeat' first
  |(with_reducible first|refine DX.2 ?_|refine DY.2 ?_|refine(A7F _ ?_).mono λ_ _=>?_)
  |dsimp only
 all_goals exact qi
theorem rX(x:Bool×DW×Int)(h:True):Tot (RG x) (λr:Bool=>True):=by
 unfold RG
 repeat' first
  |(with_reducible first|refine DZ.2 ⟨λ_=>?_,λ_=>?_⟩|refine DX.2 ?_|refine DY.2 ?_|refine(A7E _ ?_).mono λ_ _=>?_|refine(AQ7 _ ?_).mono λ_ _=>?_)
  |dsimp only
 all_goals exact qi
theorem AQ8(x:Bool×DW×Int)(h:x.2.1.length<=5000/\0<=x.2.2/\x.2.2<=999999999999999999):Tot (UW x) (λr:DW=>r.length<=6000):=by
 unfold UW
 repeat' first
  |(with_reducible first|refine DZ.2 ⟨λ_=>?_,λ_=>?_⟩|refine DX.2 ?_|refine DY.2 ?_|refine EZ.2 ⟨?_,λ_ _=>?_⟩|refine FS.2 ⟨?_,?_⟩|refine(JG _ ?_).mono λ_ _=>?_|refine(rX _ ?_).mono λ_ _=>?_|refine(A7E _ ?_).mono λ_ _=>?_|refine(A7F _ ?_).mono λ_ _=>?_|refine(IP _ ?_).mono λ_ _=>?_)
  |dsimp only
 all_goals exact qi
theorem AQ9(x:DW×Int×(List G7)×Int×Int)(h:0<=x.2.2.2.2/\x.2.2.2.2<=x.2.2.2.1/\x.2.2.2.1=x.2.2.1.length/\x.2.2.2.1<=281474976710656/\x.1.length<=7000*x.2.2.2.2/\0<=x.2.1/\x.2.1<=x.2.2.2.2/\x.2.2.2.1<=1002/\(∀t∈x.2.2.1,t.2.1.length<=5000/\0<=t.2.2/\t.2.2<=999999999999999999)):Tot (lW x) (λr:DW=>r.length<=7014000):=by
 refine E_ (R:=λr:DW=>r.length<=7014000) (λy:DW×Int×(List G7)×Int×Int=>(0<=y.2.2.2.2/\y.2.2.2.2<=y.2.2.2.1/\y.2.2.2.1=y.2.2.1.length/\y.2.2.2.1<=281474976710656/\y.1.length<=7000*y.2.2.2.2/\0<=y.2.1/\y.2.1<=y.2.2.2.2/\y.2.2.2.1<=1002/\(∀t∈y.2.2.1,t.2.1.length<=5000/\0<=t.2.2/\t.2.2<=999999999999999999))) (λy:DW×Int×(List G7)×Int×Int=>(y.2.2.2.1-y.2.2.2.2).toNat) ?_ _ _ oi (by unfold fuel;grind);rintro next ⟨s_3,blanks_4,t8,t9,t10⟩ h hn
 try dsimp only at h hn
 unfold zF
 repeat' first
  |(with_reducible first|refine DZ.2 ⟨λ_=>?_,λ_=>?_⟩|refine DX.2 ?_|refine DY.2 ?_|refine EZ.2 ⟨?_,λ_ _=>?_⟩|refine FS.2 ⟨?_,?_⟩|refine(rR _ ?_).mono λ_ _=>?_|refine(rX _ ?_).mono λ_ _=>?_|refine(IP _ ?_).mono λ_ _=>?_|refine(AQ8 _ ?_).mono λ_ _=>?_|refine hn _ ?_ ?_)
  |dsimp only
 all_goals exact qi
theorem eT(x:List G7)(h:TS x):Tot (MV x) (λr:DW=>r.length<=10000000):=by
 unfold MV
 repeat' first
  |(with_reducible first|refine DX.2 ?_|refine DY.2 ?_|refine EZ.2 ⟨?_,λ_ _=>?_⟩|refine FS.2 ⟨?_,?_⟩|refine(AQ9 _ ?_).mono λ_ _=>?_)
  |dsimp only
 all_goals exact qi
theorem eU(x:Int)(h:0<=x/\x<=999999999999999999):Tot (MW x) (λr:DW=>r.length<=10000000):=by
 unfold MW
 repeat' first
  |(with_reducible first|refine DX.2 ?_|refine DY.2 ?_|refine(JG _ ?_).mono λ_ _=>?_)
  |dsimp only
 all_goals exact qi
theorem AQA(x:Int×DW)(h:x.2.length<=1048576):Tot (RM x) (λr:DW×Int=>r.1.length<=10000000):=by
 unfold RM;refine DX.2 ((NZ _ h).mono λr1 h1=>?_);refine DZ.2 ⟨λ_=>DY.2 oc,λhe=>?_⟩;have h0:r1.2=0:=by rw[E0]at he;simpa using he
 have hv:=h1 h0;revert hv;generalize r1.1=v;intro hv;refine DX.2 (Tot.mono (P:=λr:DW=>r.length<=10000000) ?_ λr2 hr=>DY.2 hr)
 .rcases v with x|x|x|x|x|x
  .exact DX.2 ((eQ _ hv).mono λ_ h=>DY.2 o5)
  .exact DX.2 ((eR _ hv).mono λ_ h=>DY.2 o5)
  .exact DX.2 ((eS _ hv).mono λ_ h=>DY.2 o5)
  .exact DX.2 ((eT _ hv).mono λ_ h=>DY.2 o5)
  .exact DX.2 ((eU _ hv).mono λ_ h=>DY.2 o5)
  .exact hv.elim
theorem AQB(x:Int×(List Int)×Int×Int)(h:0<=x.2.2.2/\x.2.2.2<=x.2.2.1/\x.2.2.1=x.2.1.length/\x.2.2.1<=281474976710656):Tot (mW x) (λr:Sum (Unit) (Int)=>True):=by
 refine E_ (R:=λr:Sum (Unit) (Int)=>True) (λy:Int×(List Int)×Int×Int=>(0<=y.2.2.2/\y.2.2.2<=y.2.2.1/\y.2.2.1=y.2.1.length/\y.2.2.1<=281474976710656)) (λy:Int×(List Int)×Int×Int=>(y.2.2.1-y.2.2.2).toNat) ?_ _ _ oi (by unfold fuel;grind);rintro next ⟨zero_3,t6,t7,t8⟩ h hn
 try dsimp only at h hn
 unfold A02
 repeat' first
  |(with_reducible first|refine DZ.2 ⟨λ_=>?_,λ_=>?_⟩|refine DX.2 ?_|refine DY.2 ?_|refine EZ.2 ⟨?_,λ_ _=>?_⟩|refine hn _ ?_ ?_)
  |dsimp only
 all_goals exact qi
theorem AQC(x:List Int)(h:x.length<=1048576):Tot (bX x) (λr:Int=>True):=by
 unfold bX
 repeat' first
  |(with_reducible first|refine DX.2 ?_|refine DY.2 ?_|refine(AQB _ ?_).mono λ_ _=>?_)
  |split
  |dsimp only
 all_goals exact qi
theorem AQD(x:E5×E5)(h:True):Tot (bY x) (λr:Int=>True):=by
 obtain⟨x_0,y_1⟩:=x;try dsimp only at h ⊢
 unfold bY
 repeat' first
  |(with_reducible first|refine DX.2 ?_|refine DY.2 ?_|refine(A7A _ ?_).mono λ_ _=>?_|refine(AOo _ ?_).mono λ_ _=>?_|refine(AQC _ ?_).mono λ_ _=>?_)
  |dsimp only
 all_goals exact qi
theorem AQE(x:GX×(List E5)×I5×Int×Int)(h:0<=x.2.2.2.2/\x.2.2.2.2<=x.2.2.2.1/\x.2.2.2.1=x.2.2.1.length/\x.2.2.2.1<=281474976710656/\x.2.1.length<=x.2.2.2.2/\(∀m∈x.2.1,m.2.2.1.length<=100)/\(∀v∈x.2.2.1,v.2.length<=1048576/\1<=v.1/\v.1<=3)/\x.2.2.2.1<=100):Tot (mX x) (λr:List E5=>r.length<=100/\∀m∈r,m.2.2.1.length<=100):=by
 refine E_ (R:=λr:List E5=>r.length<=100/\∀m∈r,m.2.2.1.length<=100) (λy:GX×(List E5)×I5×Int×Int=>(0<=y.2.2.2.2/\y.2.2.2.2<=y.2.2.2.1/\y.2.2.2.1=y.2.2.1.length/\y.2.2.2.1<=281474976710656/\y.2.1.length<=y.2.2.2.2/\(∀m∈y.2.1,m.2.2.1.length<=100)/\(∀v∈y.2.2.1,v.2.length<=1048576/\1<=v.1/\v.1<=3)/\y.2.2.2.1<=100)) (λy:GX×(List E5)×I5×Int×Int=>(y.2.2.2.1-y.2.2.2.2).toNat) ?_ _ _ oi (by unfold fuel;grind);rintro next ⟨a_1,out_3,t8,t9,t10⟩ h hn
 try dsimp only at h hn
 unfold A03
 repeat' first
  |(with_reducible first|refine DZ.2 ⟨λ_=>?_,λ_=>?_⟩|refine DX.2 ?_|refine DY.2 ?_|refine EZ.2 ⟨?_,λ_ _=>?_⟩|refine FU.2 ⟨?_,?_⟩|refine(APx _ ?_).mono λ_ _=>?_|refine(AQA _ ?_).mono λ_ _=>?_|refine(eP _ ?_).mono λ_ _=>?_|refine hn _ ?_ ?_)
  |dsimp only
 all_goals exact qi
theorem AQF(x:DW×Int×I5×(List DW)×(List DW))(h:N5 x/\rQ x):Tot (bZ x) (λr:List E5=>r.length<=100/\∀m∈r,m.2.2.1.length<=100):=by
 unfold bZ;obtain⟨h1,h2,h3,h4⟩:=h;refine DX.2 ((AQE _ ⟨BF _,BN _,rfl,o7,oc,oc,λv hv=>⟨h1.2.2.1 v hv,h3 v hv⟩,o7⟩).mono λr hr=>?_);refine DX.2 ((APk _ ⟨λc=>GR (AQD c trivial),o7⟩).mono λr2 hr2=>DY.2 ?_);dsimp only at hr2;exact⟨o5,λm hm=>hr.2 m (hr2.2 m hm)⟩
theorem AQG(x:FE×Bool×G9×(List E5)×Int×Int)(h:0<=x.2.2.2.2.2/\x.2.2.2.2.2<=x.2.2.2.2.1/\x.2.2.2.2.1=x.2.2.2.1.length/\x.2.2.2.2.1<=281474976710656/\x.1.length<=x.2.2.2.2.2/\(∀s∈x.1,HG s)/\x.2.2.1.2.2.length<=100/\x.2.2.2.2.1<=100/\∀m∈x.2.2.2.1,m.2.2.1.length<=100):Tot (mY x) (λr:FE×Bool×G9=>r.1.length<=100/\(∀s∈r.1,HG s)/\r.2.2.2.2.length<=100):=by
 refine E_ (R:=λr:FE×Bool×G9=>r.1.length<=100/\(∀s∈r.1,HG s)/\r.2.2.2.2.length<=100) (λy:FE×Bool×G9×(List E5)×Int×Int=>(0<=y.2.2.2.2.2/\y.2.2.2.2.2<=y.2.2.2.2.1/\y.2.2.2.2.1=y.2.2.2.1.length/\y.2.2.2.2.1<=281474976710656/\y.1.length<=y.2.2.2.2.2/\(∀s∈y.1,HG s)/\y.2.2.1.2.2.length<=100/\y.2.2.2.2.1<=100/\∀m∈y.2.2.2.1,m.2.2.1.length<=100)) (λy:FE×Bool×G9×(List E5)×Int×Int=>(y.2.2.2.2.1-y.2.2.2.2.2).toNat) ?_ _ _ oi (by unfold fuel;grind);rintro next ⟨out_3,on_4,low_5,t15,t16,t17⟩ h hn
 try dsimp only at h hn
 unfold A04
 repeat' first
  |(with_reducible first|refine DZ.2 ⟨λ_=>?_,λ_=>?_⟩|refine DX.2 ?_|refine DY.2 ?_|refine EZ.2 ⟨?_,λ_ _=>?_⟩|refine FU.2 ⟨?_,?_⟩|refine hn _ ?_ ?_)
  |dsimp only
 all_goals exact qi
theorem AQH(x:FE×G9×Bool)(h:x.1.length<=100/\(∀s∈x.1,HG s)/\x.2.1.2.2.length<=100):Tot (b_ x) (λr:List (G9×G9)=>r.length<=101/\(∀s∈r,HG s)):=by
 obtain⟨out_3,low_5,t56⟩:=x;try dsimp only at h ⊢
 unfold b_
 repeat' first
  |(with_reducible first|refine DZ.2 ⟨λ_=>?_,λ_=>?_⟩|refine DX.2 ?_|refine DY.2 ?_|refine FU.2 ⟨?_,?_⟩)
  |dsimp only
 all_goals exact qi
theorem AQI(x:GX×FE×(List DW)×Int×Int)(h:0<=x.2.2.2.2/\x.2.2.2.2<=x.2.2.2.1/\x.2.2.2.1=x.2.2.1.length/\x.2.2.2.1<=281474976710656/\x.2.1.length<=101+x.2.2.2.2/\(∀s∈x.2.1,HG s)/\x.2.2.2.1<=500/\∀m∈x.2.2.1,m.length<=1048576):Tot (mZ x) (λr:List (G9×G9)=>r.length<=601/\(∀s∈r,HG s)):=by
 refine E_ (R:=λr:List (G9×G9)=>r.length<=601/\(∀s∈r,HG s)) (λy:GX×FE×(List DW)×Int×Int=>(0<=y.2.2.2.2/\y.2.2.2.2<=y.2.2.2.1/\y.2.2.2.1=y.2.2.1.length/\y.2.2.2.1<=281474976710656/\y.2.1.length<=101+y.2.2.2.2/\(∀s∈y.2.1,HG s)/\y.2.2.2.1<=500/\∀m∈y.2.2.1,m.length<=1048576)) (λy:GX×FE×(List DW)×Int×Int=>(y.2.2.2.1-y.2.2.2.2).toNat) ?_ _ _ oi (by unfold fuel;grind);rintro next ⟨a_1,out_3,t63,t64,t65⟩ h hn
 try dsimp only at h hn
 unfold A05
 repeat' first
  |(with_reducible first|refine DZ.2 ⟨λ_=>?_,λ_=>?_⟩|refine DX.2 ?_|refine DY.2 ?_|refine EZ.2 ⟨?_,λ_ _=>?_⟩|refine FU.2 ⟨?_,?_⟩|refine(eP _ ?_).mono λ_ _=>?_|refine hn _ ?_ ?_)
  |dsimp only
 all_goals exact qi
theorem AQJ(x:DW×Int×I5×(List DW)×(List DW))(h:N5 x/\rQ x):Tot (cA x) (λr:List (G9×G9)=>r.length<=601/\(∀s∈r,HG s)):=by
 unfold cA;refine DX.2 ((AQF _ h).mono λr hr=>?_);obtain⟨h1,h2,h3,h4⟩:=h;refine DX.2 ((AQG _ ⟨BF _,BN _,rfl,o7,oc,oc,oc,o7,hr.2⟩).mono λr5 h5=>?_);refine DX.2 ((AQH _ h5).mono λr8 h8=>?_);exact DX.2 ((AQI _ ⟨BF _,BN _,rfl,o7,o7,h8.2,o7,h1.2.2.2.2.1⟩).mono λr13 h13=>DY.2 h13)
theorem AQK(x:Int×G9)(h:x.2.2.2.length<=1048576):Tot (MX x) (λr:DW×Int=>True):=by
 unfold MX;refine DZ.2 ⟨λ_=>DZ.2 ⟨λ_=>DY.2 trivial,λ_=>DY.2 trivial⟩,λ_=>?_⟩;refine DX.2 ((NZ _ h).mono λr1 h1=>?_);refine DZ.2 ⟨λ_=>DY.2 trivial,λhe=>?_⟩;have h0:r1.2=0:=by rw[E0]at he;simpa using he
 have hv:=h1 h0;revert hv;generalize r1.1=v;intro hv;refine DX.2 (Tot.mono (P:=λr:DW=>r.length<=10000000) ?_ λr2 hr=>?_)
 .rcases v with x|x|x|x|x|x
  .exact DX.2 ((rS _ hv).mono λ_ h=>DY.2 o5)
  .exact DX.2 ((rT _ hv).mono λ_ h=>DY.2 o5)
  .exact DX.2 ((rU _ hv).mono λ_ h=>DY.2 o5)
  .exact DX.2 ((rV _ hv).mono λ_ h=>DY.2 o5)
  .exact DX.2 ((rW _ trivial).mono λ_ h=>DY.2 o5)
  .exact hv.elim
 refine DZ.2 ⟨λ_=>DY.2 trivial,λ_=>?_⟩;refine DX.2 (Tot.mono (P:=λr:DW=>r.length<=10000000) ?_ λr2 hr=>DY.2 trivial)
 .rcases v with x|x|x|x|x|x
  .exact DX.2 ((eQ _ hv).mono λ_ h=>DY.2 o5)
  .exact DX.2 ((eR _ hv).mono λ_ h=>DY.2 o5)
  .exact DX.2 ((eS _ hv).mono λ_ h=>DY.2 o5)
  .exact DX.2 ((eT _ hv).mono λ_ h=>DY.2 o5)
  .exact DX.2 ((eU _ hv).mono λ_ h=>DY.2 o5)
  .exact hv.elim
theorem A7G(x:G9×DW)(h:x.1.2.2.length<=100):Tot (UX x) (λr:Int×DW×Bool×DW=>r.2.2.2.length<=100):=by
 obtain⟨b_0,key_1⟩:=x;try dsimp only at h ⊢
 unfold UX
 repeat' first
  |(with_reducible first|refine DZ.2 ⟨λ_=>?_,λ_=>?_⟩|refine DY.2 ?_)
  |dsimp only
 all_goals exact qi
theorem A7H(x:G9×DW)(h:x.1.2.2.length<=100):Tot (UY x) (λr:Int×DW×Bool×DW=>r.2.2.2.length<=100):=by
 obtain⟨b_0,key_1⟩:=x;try dsimp only at h ⊢
 unfold UY
 repeat' first
  |(with_reducible first|refine DZ.2 ⟨λ_=>?_,λ_=>?_⟩|refine DY.2 ?_)
  |dsimp only
 all_goals exact qi
theorem AQL(x:FF×Int×Bool)(h:x.1.1.2.2.2.length<=100/\x.2.1=0):Tot (cB x) (λr:FF×Int=>r.1=x.1/\0<=r.2/\r.2<=1000000000000000000):=by
 obtain⟨s_1,first_5,t10⟩:=x;try dsimp only at h ⊢
 unfold cB
 repeat' first
  |(with_reducible first|refine DZ.2 ⟨λ_=>?_,λ_=>?_⟩|refine DX.2 ?_|refine DY.2 ?_|refine(JW _ ?_).mono λ_ _=>?_)
  |dsimp only
 all_goals exact qi
set_option maxHeartbeats 1000000 in
theorem AQM(x:JO×JO)(h:x.1.2.2.2.length<=100/\x.2.2.2.2.length<=100):Tot (cC x) (λr:Int×Int×Bool=>0<=r.1/\r.2.1<=999999999999999999/\(r.2.2=true->r.1<=r.2.1)):=by
 unfold cC
 repeat' first
  |(with_reducible first|refine DZ.2 ⟨λ_=>?_,λ_=>?_⟩|refine DX.2 ?_|refine DY.2 ?_|refine(AQL _ ?_).mono λ_ _=>?_|refine(JW _ ?_).mono λ_ _=>?_)
  |dsimp only
 all_goals exact qi
theorem AQN(x:Int×JO×Bool)(h:0<=x.1/\x.1<=999999999999999999/\x.2.1.2.2.2.length<=100):Tot (cD x) (λr:Int×DW×Bool×DW=>r.2.2.2.length<=100):=by
 obtain⟨last_8,high_10,t27⟩:=x;try dsimp only at h ⊢
 unfold cD
 repeat' first
  |(with_reducible first|refine DZ.2 ⟨λ_=>?_,λ_=>?_⟩|refine DX.2 ?_|refine DY.2 ?_|refine(JG _ ?_).mono λ_ _=>?_|refine(IP _ ?_).mono λ_ _=>?_)
  |dsimp only
 all_goals exact qi
theorem AQO(x:(List FF)×Int×(List FF)×Int×Int)(h:0<=x.2.2.2.2/\x.2.2.2.2<=x.2.2.2.1/\x.2.2.2.1=x.2.2.1.length/\x.2.2.2.1<=281474976710656/\x.1.length<=x.2.2.2.2/\(∀s∈x.1,H5 s)/\(∀s∈x.2.2.1,H5 s)/\x.2.2.2.1<=1048576/\ -2<=x.2.1/\x.2.1<=999999999999999999):Tot (m_ x) (λr:List FF=>r.length<=1048576/\∀s∈r,H5 s):=by
 refine E_ (R:=λr:List HM=>r.length<=1048576/\∀s∈r,H5 s) (λy:(List HM)×Int×(List HM)×Int×Int=>0<=y.2.2.2.2/\y.2.2.2.2<=y.2.2.2.1/\y.2.2.2.1=y.2.2.1.length/\y.2.2.2.1<=281474976710656/\y.1.length<=y.2.2.2.2/\(∀s∈y.1,H5 s)/\(∀s∈y.2.2.1,H5 s)/\y.2.2.2.1<=1048576/\ -2<=y.2.1/\y.2.1<=999999999999999999)
  (λy=>(y.2.2.2.1-y.2.2.2.2).toNat) ?_ _ _ h (by unfold fuel;have:=h.2.2.2.1;omega)
 rintro next ⟨out,e,l,n,i⟩ hI hn
 dsimp only at hI hn;obtain⟨i0,i1,i2,i3,i4,i5,i6,i7,i8,i9⟩:=hI;unfold A06;dsimp only;refine DZ.2 ⟨λhc=>?_,λhc=>DY.2 ⟨o5,i5⟩⟩;have hc:=A9 hc;rw[EW (n:=i+1) o5 o5,EW (n:=e+1) o5 o5];refine DX.2 (EZ.2 ⟨⟨i0,o5⟩,λv hv=>?_⟩);have hvb:=i6 v (N7 hv);refine DX.2 ((AQM _ hvb).mono λr2 h2=>?_);obtain⟨j1,j2,j3⟩:=h2;refine DZ.2 ⟨λ_=>hn _ ⟨o7,o7,i2,i3,o7,i5,i6,i7,i8,i9⟩ o7,λhb=>?_⟩;have hle:=j3 (by simpa using hb);refine DX.2 (Tot.mono (P:=λr:Edge=>r.2.2.2.length<=100) ((AQN _ ⟨o7,o7,oc⟩)) λr5 h5=>?_);by_cases hl:(0:Int)<out.length
 .rw[EW (n:=(out.length:Int)-1) o5 o5];refine DZ.2 ⟨λ_=>?_,λ_=>?_⟩
  .refine DX.2 (FD.2 ⟨⟨o5,o5⟩,?_⟩);refine hn _ ⟨o7,o7,i2,i3,by dsimp only;rw[AP];omega,λs hs=>?_,i6,i7,o7,o7⟩ o7;dsimp only at hs;rcases ED hs with hs|hs
   .exact i5 s hs
   .subst hs;exact⟨(i5 _ (EC o5)).1,h5⟩
  .refine DX.2 ((JG _ ⟨j1,o5⟩).mono λr8 h8=>?_);refine DX.2 ((IP _ trivial).mono λr9 h9=>?_);refine DX.2 (FU.2 ⟨by simp only[AF,AW];omega,?_⟩);refine hn _ ⟨o7,o7,i2,i3,by dsimp only;rw[A6];simp only[AF,AW];omega,λs hs=>?_,i6,i7,o7,o7⟩ o7;dsimp only at hs;rcases AL.1 hs with hs|hs
   .exact i5 s hs
   .rw[AN]at hs;subst hs;exact⟨o7,h5⟩
 .rw[AE hl,D6];simp only[AC];refine DX.2 ((JG _ ⟨j1,o5⟩).mono λr8 h8=>?_);refine DX.2 ((IP _ trivial).mono λr9 h9=>?_);refine DX.2 (FU.2 ⟨by simp only[AF,AW];omega,?_⟩);refine hn _ ⟨o7,o7,i2,i3,by dsimp only;rw[A6];simp only[AF,AW];omega,λs hs=>?_,i6,i7,o7,o7⟩ o7;dsimp only at hs;rcases AL.1 hs with hs|hs
  .exact i5 s hs
  .rw[AN]at hs;subst hs;exact⟨o7,h5⟩
theorem AQP(x:List FF)(h:(∀s∈x,H5 s)/\x.length<=1048576):Tot (cE x) (λr:List FF=>r.length<=1048576/\∀s∈r,H5 s):=by
 unfold cE
 repeat' first
  |(with_reducible first|refine DX.2 ?_|refine DY.2 ?_|refine(AQO _ ?_).mono λ_ _=>?_)
  |dsimp only
 all_goals exact qi
theorem AQQ(x:(List FF)×Bool)(h:(∀s∈x.1,H5 s)/\x.1.length<=1048576):Tot (cF x) (λr:List FF=>r.length<=1048576/\∀s∈r,H5 s):=by
 obtain⟨l_1,t11⟩:=x;try dsimp only at h ⊢
 unfold cF
 repeat' first
  |(with_reducible first|refine DZ.2 ⟨λ_=>?_,λ_=>?_⟩|refine DX.2 ?_|refine DY.2 ?_|refine(AQP _ ?_).mono λ_ _=>?_)
  |dsimp only
 all_goals exact qi
theorem AQR(x:FF×(G9×G9)×Bool)(h:H5 x.1/\HG x.2.1):Tot (cG x) (λr:FF×(G9×G9)=>r.1=x.1/\HG r.2):=by
 obtain⟨s_8,x_9,t29⟩:=x;try dsimp only at h ⊢
 unfold cG
 repeat' first
  |(with_reducible first|refine DZ.2 ⟨λ_=>?_,λ_=>?_⟩|refine DY.2 ?_)
  |dsimp only
 all_goals exact qi
set_option maxHeartbeats 1000000 in
theorem AQS(x:(Int×FE)×(List FF)×Int×Int)(h:0<=x.2.2.2/\x.2.2.2<=x.2.2.1/\x.2.2.1=x.2.1.length/\x.2.2.1<=281474976710656/\x.1.2.length<=x.2.2.2/\x.2.2.1<=200/\(∀s∈x.2.1,H5 s)/\(∀s∈x.1.2,HG s)):Tot (nA x) (λr:Int×FE=>r.1=x.1.1/\r.2.length<=200/\∀s∈r.2,HG s):=by
 refine E_ (R:=λr:Int×FE=>r.1=x.1.1/\r.2.length<=200/\∀s∈r.2,HG s) (λy:(Int×FE)×(List FF)×Int×Int=>(0<=y.2.2.2/\y.2.2.2<=y.2.2.1/\y.2.2.1=y.2.1.length/\y.2.2.1<=281474976710656/\y.1.2.length<=y.2.2.2/\y.2.2.1<=200/\(∀s∈y.2.1,H5 s)/\(∀s∈y.1.2,HG s))/\y.1.1=x.1.1) (λy:(Int×FE)×(List FF)×Int×Int=>(y.2.2.1-y.2.2.2).toNat) ?_ _ _ oi (by unfold fuel;grind);rintro next ⟨r_6,t20,t21,t22⟩ h hn
 try dsimp only at h hn
 unfold A07
 repeat' first
  |(with_reducible first|refine DZ.2 ⟨λ_=>?_,λ_=>?_⟩|refine DX.2 ?_|refine DY.2 ?_|refine EZ.2 ⟨?_,λ_ _=>?_⟩|refine FU.2 ⟨?_,?_⟩|refine(AQR _ ?_).mono λ_ _=>?_|refine hn _ ?_ ?_)
  |dsimp only
 all_goals exact qi
theorem AQT(x:Int×(List FF))(h:(∀s∈x.2,H5 s)/\x.2.length<=1048576):Tot (cH x) (λr:(Int×FE)×Int=>r.1.2.length<=200/\∀s∈r.1.2,HG s):=by
 obtain⟨kind_0,l_1⟩:=x;try dsimp only at h ⊢
 unfold cH
 repeat' first
  |(with_reducible first|refine DZ.2 ⟨λ_=>?_,λ_=>?_⟩|refine DX.2 ?_|refine DY.2 ?_|refine(AQQ _ ?_).mono λ_ _=>?_|refine(AQS _ ?_).mono λ_ _=>?_)
  |dsimp only
 all_goals exact qi
set_option maxHeartbeats 1000000 in
theorem AQU(x:Int×(Int×FE)×(List FF)×FE×Int×Int)(h:0<=x.2.2.2.2.2/\x.2.2.2.2.2<=x.2.2.2.2.1/\x.2.2.2.2.1=x.2.2.2.1.length/\x.2.2.2.2.1<=281474976710656/\x.2.2.1.length<=x.2.2.2.2.2/\(∀s∈x.2.2.1,H5 s)/\x.2.2.2.2.1<=1048576/\(∀s∈x.2.2.2.1,HG s)):Tot (nB x) (λr:Sum ((Int×FE)×(List FF)) ((Int×FE)×Int)=>(∀y,r=.inl y->y.2.length<=1048576/\∀s∈y.2,H5 s)/\∀y,r=.inr y->y.1.2=[]):=by
 refine E_ (R:=λr:Sum ((Int×FE)×(List FF)) ((Int×FE)×Int)=>(∀y,r=.inl y->y.2.length<=1048576/\∀s∈y.2,H5 s)/\∀y,r=.inr y->y.1.2=[]) (λy:Int×(Int×FE)×(List FF)×FE×Int×Int=>(0<=y.2.2.2.2.2/\y.2.2.2.2.2<=y.2.2.2.2.1/\y.2.2.2.2.1=y.2.2.2.1.length/\y.2.2.2.2.1<=281474976710656/\y.2.2.1.length<=y.2.2.2.2.2/\(∀s∈y.2.2.1,H5 s)/\y.2.2.2.2.1<=1048576/\(∀s∈y.2.2.2.1,HG s))) (λy:Int×(Int×FE)×(List FF)×FE×Int×Int=>(y.2.2.2.2.1-y.2.2.2.2.2).toNat) ?_ _ _ oi (by unfold fuel;grind);rintro next ⟨kind_0,t4,all_6,t17,t18,t19⟩ h hn
 try dsimp only at h hn
 unfold A08
 repeat' first
  |(with_reducible first|refine DZ.2 ⟨λ_=>?_,λ_=>?_⟩|refine DX.2 ?_|refine DY.2 ?_|refine EZ.2 ⟨?_,λ_ _=>?_⟩|refine FU.2 ⟨?_,?_⟩|refine(AQK _ ?_).mono λ_ _=>?_|refine(A7G _ ?_).mono λ_ _=>?_|refine(A7H _ ?_).mono λ_ _=>?_|refine(PH _ ?_).mono λ_ _=>?_|refine hn _ ?_ ?_)
  |dsimp only
 all_goals exact qi
theorem AQV(x:(List FF)×(List FF)×Int×Int)(h:0<=x.2.2.2/\x.2.2.2<=x.2.2.1/\x.2.2.1=x.2.1.length/\x.2.2.1<=281474976710656/\x.1.length<=x.2.2.2/\(∀s∈x.1,H5 s)/\x.2.2.1<=1048576/\(∀s∈x.2.1,H5 s)):Tot (nC x) (λr:List FF=>r.length<=1048576/\∀s∈r,H5 s):=by
 refine E_ (R:=λr:List HM=>r.length<=1048576/\∀s∈r,H5 s) (λy:(List HM)×(List HM)×Int×Int=>0<=y.2.2.2/\y.2.2.2<=y.2.2.1/\y.2.2.1=y.2.1.length/\y.2.2.1<=281474976710656/\y.1.length<=y.2.2.2/\(∀s∈y.1,H5 s)/\y.2.2.1<=1048576/\(∀s∈y.2.1,H5 s))
  (λy=>(y.2.2.1-y.2.2.2).toNat) ?_ _ _ h (by unfold fuel;have:=h.2.2.2.1;omega)
 rintro next ⟨out,l,n,i⟩ hI hn
 dsimp only at hI hn;obtain⟨i0,i1,i2,i3,i4,i5,i6,i7⟩:=hI;unfold A09;dsimp only;refine DZ.2 ⟨λhc=>?_,λhc=>DY.2 ⟨o5,i5⟩⟩;have hc:=A9 hc;rw[EW (n:=i+1) o5 o5];refine DX.2 (FD.2 ⟨⟨i0,o5⟩,?_⟩);have hv:=i7 _ (EC (l:=l) (i:=i.toNat) (d:=((0,(([]:DW),(false,([]:DW)))),(0,(([]:DW),(false,([]:DW)))))) o5);generalize l.getD i.toNat ((0,(([]:DW),(false,([]:DW)))),(0,(([]:DW),(false,([]:DW)))))=v at hv;have happ:∀(Q:List HM->Prop),Q (out++[v])->Tot (app? 192 out [v]) Q:=λQ hQ=>FU.2 ⟨by simp only[AF,AW];omega,hQ⟩
 have hgo:Tot (next (out++[v],l,n,i+1)) (λr:List HM=>r.length<=1048576/\∀s∈r,H5 s):=by
  refine hn _ ⟨o7,o7,i2,i3,by dsimp only;rw[A6];simp only[AF,AW];omega,λs hs=>?_,i6,i7⟩ o7;dsimp only at hs;rcases AL.1 hs with hs|hs
  .exact i5 s hs
  .rw[AN]at hs;subst hs;exact hv
 by_cases hl:(out.length:Int)=0
 .have e:E1 (out.length:Int) 0=true:=by rw[E0];exact A7 hl
  rw[e];simp only[C0,AC,Bool.true_or,AA];refine DX.2 (DY.2 (DX.2 (DY.2 (DX.2 (happ _ hgo)))))
 .have e:E1 (out.length:Int) 0=false:=by rw[E0];exact AE hl
  rw[e,EW (n:=(out.length:Int)-1) o5 o5];simp only[D7,AA,CC];refine DX.2 (FD.2 ⟨⟨o5,o5⟩,?_⟩);refine DX.2 ((PH _ trivial).mono λr16 _=>?_);refine DZ.2 ⟨λ_=>DX.2 (happ _ hgo),λ_=>?_⟩;refine DX.2 (FD.2 ⟨⟨o5,o5⟩,?_⟩);refine DX.2 ((PH _ trivial).mono λr21 _=>?_);refine DZ.2 ⟨λ_=>?_,λ_=>hn _ ⟨o7,o7,i2,i3,o7,i5,i6,i7⟩ o7⟩;refine DX.2 (FD.2 ⟨⟨o5,o5⟩,?_⟩);refine hn _ ⟨o7,o7,i2,i3,by dsimp only;rw[AP];omega,λs hs=>?_,i6,i7⟩ o7;dsimp only at hs;rcases ED hs with hs|hs
  .exact i5 s hs
  .subst hs;exact⟨(i5 _ (EC o5)).1,hv.2⟩
theorem AQW(x:Int×FE)(h:(∀s∈x.2,HG s)/\x.2.length<=1048576):Tot (cI x) (λr:(Int×FE)×Int=>r.1.2.length<=200/\∀s∈r.1.2,HG s):=by
 unfold cI;obtain⟨h1,h2⟩:=h;refine DX.2 ((AQU _ ⟨BF _,BN _,rfl,o7,oc,oc,o7,h1⟩).mono λr hr=>?_);rcases r with y|y
 .obtain⟨g1,g2⟩:=hr.1 y rfl;refine DX.2 ((AOn y.2).mono λr13 h13=>?_);have l13:=h13.1.length_eq;refine DX.2 ((AQV _ ⟨BF _,BN _,rfl,o7,oc,oc,o7,λs hs=>g2 s (h13.1.mem_iff.1 hs)⟩).mono λr23 h23=>?_);exact DX.2 ((AQT _ ⟨h23.2,h23.1⟩).mono λr24 h24=>DY.2 h24)
 .have:=hr.2 y rfl;refine DY.2 ?_;dsimp only;rw[this];simp
theorem AQX(x:DW×Int×I5×(List DW)×(List DW))(h:N5 x):Tot (cJ x) (λr:(Int×FE)×Int=>r.1.2.length<=200/\(∀s∈r.1.2,HG s)):=by
 unfold cJ;refine DX.2 ((APw _ h).mono λr1 h1=>?_);refine DZ.2 ⟨λ_=>DY.2 oc,λhe=>?_⟩;have h0:r1=0:=by rw[E0]at he;simpa using he
 refine DX.2 ((AQJ _ ⟨h,h1 h0⟩).mono λr3 h3=>?_);exact DX.2 ((AQW _ ⟨h3.2,o7⟩).mono λr4 h4=>DY.2 h4)
theorem AQY(x:KB×(List DW)×Int×Int)(h:0<=x.2.2.2/\x.2.2.2<=x.2.2.1/\x.2.2.1=x.2.1.length/\x.2.2.1<=281474976710656/\(∀s∈x.2.1,s.length<=1048576)/\x.2.1=x.1.2.1):Tot (mD x) (λr:Sum (Unit) (Int)=>True):=by
 refine E_ (R:=λr:Sum Unit Int=>True)
  (λy:L5×(List DW)×Int×Int=>0<=y.2.2.2/\y.2.2.2<=y.2.2.1/\y.2.2.1=y.2.1.length/\y.2.2.1<=281474976710656/\(∀v∈y.2.1,v.length<=1048576)/\y.2.1=y.1.2.1)
  (λy=>(y.2.2.1-y.2.2.2).toNat) ?_ _ _ h (by unfold fuel;have:=h.2.2.2.1;omega)
 rintro next ⟨a,l,n,i⟩ hI hn
 dsimp only at hI hn;obtain⟨i0,i1,i2,i3,i4,i5⟩:=hI;unfold zL;dsimp only;refine DZ.2 ⟨λhc=>?_,λhc=>DY.2 trivial⟩;have hc:=A9 hc;rw[EW (n:=i+1) o5 o5,EW o5 o5];refine DX.2 (EZ.2 ⟨⟨i0,o5⟩,λv hv=>?_⟩);have hvl:=i4 v (N7 hv);refine DX.2 ((A6Z _ o5).mono λr _=>?_);refine DZ.2 ⟨λ_=>DY.2 trivial,λ_=>?_⟩;refine DZ.2 ⟨λ_=>DY.2 trivial,λ_=>?_⟩;refine DX.2 (Tot.mono (P:=λ_=>True) (DZ.2 ⟨λhz=>?_,λ_=>DY.2 trivial⟩) λy7 _=>?_)
 .have hz:=A9 hz;exact EZ.2 ⟨⟨o5,by rw[<-i5];omega⟩,λ_ _=>trivial⟩
 .refine DZ.2 ⟨λ_=>DY.2 trivial,λ_=>?_⟩;exact hn _ ⟨o7,o7,i2,i3,i4,i5⟩ o7
theorem AQZ(x:DW×(List DW)×DW×Int×Bool×DW×(List GX))(h:∀s∈x.2.1,s.length<=1048576):Tot (bH x) (λr:Int=>True):=by
 unfold bH
 repeat' first
  |(with_reducible first|refine DZ.2 ⟨λ_=>?_,λ_=>?_⟩|refine DX.2 ?_|refine DY.2 ?_|refine(AQY _ ?_).mono λ_ _=>?_)
  |split
  |dsimp only
 all_goals exact qi
theorem AQ_(x:Unit)(h:True):Tot (bI x) (λr:List (List (Int×Int))=>r.length=6):=by
 unfold bI
 repeat' first
  |with_reducible refine DY.2 ?_
  |dsimp only
 all_goals exact qi
theorem AQa(x:DW×(List Int)×(List (List (Int×Int)))×Int)(h:0<=x.2.2.2/\x.2.2.2<=6/\x.2.2.1.length=6/\x.1.length=6):Tot (mE x) (λr:Sum (List Int) (Int×Int)=>True):=by
 refine E_ (R:=λr:Sum (List Int) (Int×Int)=>True) (λy:DW×(List Int)×(List (List (Int×Int)))×Int=>(0<=y.2.2.2/\y.2.2.2<=6/\y.2.2.1.length=6/\y.1.length=6)) (λy:DW×(List Int)×(List (List (Int×Int)))×Int=>(6-y.2.2.2).toNat) ?_ _ _ oi (by unfold fuel;grind);rintro next ⟨vector_0,w_5,t16,t17⟩ h hn
 try dsimp only at h hn
 unfold zM
 repeat' first
  |(with_reducible first|refine DZ.2 ⟨λ_=>?_,λ_=>?_⟩|refine DX.2 ?_|refine DY.2 ?_|refine EZ.2 ⟨?_,λ_ _=>?_⟩|refine FD.2 ⟨?_,?_⟩|refine hn _ ?_ ?_)
  |dsimp only
 all_goals exact qi
theorem AQb(x:DW)(h:True):Tot (bJ x) (λr:Int×Int=>True):=by
 unfold bJ
 repeat' first
  |(with_reducible first|refine DZ.2 ⟨λ_=>?_,λ_=>?_⟩|refine DX.2 ?_|refine DY.2 ?_|refine(AQ_ _ ?_).mono λ_ _=>?_|refine(AQa _ ?_).mono λ_ _=>?_|refine rF.2 ⟨?_,?_⟩)
  |split
  |dsimp only
 all_goals exact qi
theorem AQc(x:KB×Bool)(h:True):Tot (cK x) (λr:Sum KB (JQ×Int)=>∀y,r=.inl y->y=x.1):=by
 obtain⟨a_1,t37⟩:=x;try dsimp only at h ⊢
 unfold cK
 repeat' first
  |(with_reducible first|refine DZ.2 ⟨λ_=>?_,λ_=>?_⟩|refine DX.2 ?_|refine DY.2 ?_|refine(AQb _ ?_).mono λ_ _=>?_)
  |dsimp only
 all_goals exact qi
theorem AQd(x:JQ×(List GX)×Int×Int)(h:0<=x.2.2.2/\x.2.2.2<=x.2.2.1/\x.2.2.1=x.2.1.length/\x.2.2.1<=281474976710656/\x.2.2.1<=50/\x.1.length<=x.2.2.2/\∀z∈x.2.1,N5 z):Tot (nD x) (λr:Sum JQ (JQ×Int)=>True):=by
 refine E_ (R:=λr:Sum JQ (JQ×Int)=>True) (λy:JQ×(List GX)×Int×Int=>(0<=y.2.2.2/\y.2.2.2<=y.2.2.1/\y.2.2.1=y.2.1.length/\y.2.2.1<=281474976710656/\y.2.2.1<=50/\y.1.length<=y.2.2.2/\∀z∈y.2.1,N5 z)) (λy:JQ×(List GX)×Int×Int=>(y.2.2.1-y.2.2.2).toNat) ?_ _ _ oi (by unfold fuel;grind);rintro next ⟨out_7,t52,t53,t54⟩ h hn
 try dsimp only at h hn
 unfold A0A
 repeat' first
  |(with_reducible first|refine DZ.2 ⟨λ_=>?_,λ_=>?_⟩|refine DX.2 ?_|refine DY.2 ?_|refine EZ.2 ⟨?_,λ_ _=>?_⟩|refine FU.2 ⟨?_,?_⟩|refine(AQX _ ?_).mono λ_ _=>?_|refine hn _ ?_ ?_)
  |dsimp only
 all_goals exact qi
theorem AQe(x:DW×(List DW)×DW×Int×Bool×DW×(List GX))(h:N6 x):Tot (cL x) (λr:JQ×Int=>True):=by
 unfold cL
 repeat' first
  |(with_reducible first|refine DZ.2 ⟨λ_=>?_,λ_=>?_⟩|refine DX.2 ?_|refine DY.2 ?_|refine(A6Z _ ?_).mono λ_ _=>?_|refine(AQZ _ ?_).mono λ_ _=>?_|refine(AQc _ ?_).mono λ_ _=>?_|refine(AQd _ ?_).mono λ_ _=>?_)
  |split
  |dsimp only
 all_goals grind[E8,E7,EB,E3,E0,EA,E9,E6,EC,ED,EL,EJ,EM,EN,EP,EQ,ER,N6]
theorem AQf(x:DW×(List DW)×DW×Int×Bool×DW×(List GX))(h:N6 x):Tot (RO x) (λr:Int=>True):=by
 unfold RO
 repeat' first
  |(with_reducible first|refine DX.2 ?_|refine DY.2 ?_|refine(AQe _ ?_).mono λ_ _=>?_)
  |dsimp only
 all_goals exact qi
theorem GJ{α:Type}{l:List α}{i:Nat}{a:α}(h:l[i]?=some a):l.take (i+1)=l.take i++[a]:=by
 rw[List.take_add_one,h];rfl
abbrev Rg:=Int×(List S5)
noncomputable def PI(v:Vr):Option DW:=(λz=>Sum.casesOn (motive:=λ_=>Option DW) z (λx=>(MR x).bind λr=>some r) (λz=>Sum.casesOn (motive:=λ_=>Option DW) z (λx=>(MS x).bind λr=>some r) (λz=>Sum.casesOn (motive:=λ_=>Option DW) z (λx=>(MT x).bind λr=>some r) (λz=>Sum.casesOn (motive:=λ_=>Option DW) z (λx=>(MV x).bind λr=>some r) (λz=>Sum.casesOn (motive:=λ_=>Option DW) z (λx=>(MW x).bind λr=>some r) (λ_=>none)))))) v
theorem A7I{v:Vr}(hv:J1 v):Tot (PI v) (λ_=>True):=by
 unfold PI;rcases v with x|x|x|x|x|x
 .exact DX.2 ((eQ _ hv).mono λ_ h=>DY.2 trivial)
 .exact DX.2 ((eR _ hv).mono λ_ h=>DY.2 trivial)
 .exact DX.2 ((eS _ hv).mono λ_ h=>DY.2 trivial)
 .exact DX.2 ((eT _ hv).mono λ_ h=>DY.2 trivial)
 .exact DX.2 ((eU _ hv).mono λ_ h=>DY.2 trivial)
 .exact hv.elim
def Vs(k:Int)(w:DW)(v:Vr)(s:DW):Prop:=IC (k,w)=some (v,0)/\PI v=some s
theorem AQg{k:Int}{w:DW}{v:Vr}(hw:w.length<=1048576)(h:IC (k,w)=some (v,0)):∃s,Vs k w v s:=by
 obtain⟨r,h1,h2⟩:=NZ (k,w) hw;rw[h]at h1;cases h1;obtain⟨s,h3,_⟩:=A7I (h2 rfl);exact⟨s,h,h3⟩
theorem AQh{k:Int}{w:DW}{v:Vr}{s:DW}(h:Vs k w v s):RM (k,w)=some (s,0):=by
 show((IC (k,w)).bind λr1=>bif (!(E1 r1.2 (0:Int)))then some (([]:DW),r1.2)else(PI r1.1).bind λr2=>some (r2,(0:Int)))=_;rw[h.1];simp only[A1,E0,decide_true,C0,AC];rw[h.2];rfl
theorem AQi{k:Int}{w:DW}{v:Vr}{s:DW}(h:Vs k w v s):w≠[]:=by
 rintro rfl;have h1:=h.1;unfold IC at h1;dsimp only at h1;have e:EG ([]:DW) ([]:DW)=true:=rfl;rw[e]at h1;cases hc:(decide (k<(1:Int))||decide ((5:Int)<k))with
 |true=>rw[hc]at h1;simp at h1
 |false=>rw[hc]at h1;simp at h1
noncomputable def ky(k:Int)(w:DW):DW:=((RM (k,w)).getD ([],0)).1
theorem AQj{k:Int}{w:DW}{v:Vr}{s:DW}(h:Vs k w v s):ky k w=s:=by unfold ky;rw[AQh h];rfl
def Ok(k:Int)(w:DW):Prop:=∃v,Vs k w v (ky k w)
theorem AQk{k:Int}{w:DW}{v:Vr}{s:DW}(h:Vs k w v s):Ok k w:=⟨v,by rw[AQj h];exact h⟩
theorem AQl(k:Int)(w:DW)(hw:w.length<=1048576):Tot (aK (k,w)) (λr=>r=0->Ok k w):=by
 unfold aK;dsimp only;obtain⟨⟨v,e⟩,h1,h2⟩:=NZ (k,w) hw;rw[h1];refine DX.2 (DY.2 (DY.2 λhe=>?_));dsimp only at he;subst he;obtain⟨s,hs⟩:=AQg hw h1;exact AQk hs
theorem AQm(s:S5)(b:List HM)(hs:HG s)(hb:∀x∈b,H5 x)(hl:b.length<=1048576):Tot (bB (s,b)) (λ_=>True):=by
 unfold bB;dsimp only;refine DZ.2 ⟨λ_=>DY.2 trivial,λ_=>DZ.2 ⟨λhc=>?_,λ_=>DY.2 trivial⟩⟩;have hc:=A9 hc;rw[EW (n:=(b.length:Int)-1) o5 o5];refine DX.2 ((JW _ (by have:=hs.1;omega)).mono λr hr=>DX.2 (EZ.2 ⟨⟨o5,o5⟩,λy hy=>?_⟩));refine DX.2 ((JW _ (by have:=(hb y (N7 hy)).2;omega)).mono λr' hr'=>?_);exact DZ.2 ⟨λ_=>DY.2 trivial,λ_=>DY.2 trivial⟩
theorem AQn(l:List HM)(k:DW)(hl:l.length<=1048576):Tot (RP (l,k)) (λ_=>True):=by
 unfold RP nP;dsimp only;refine DX.2 (DX.2 (Tot.mono (P:=λ_=>True) ?_ λq _=>by rcases q with y|y<;>exact DY.2 (DY.2 trivial)));generalize hf:(λx:HM=>(cQ (x,(some ((0:Int),(k,(false,([]:DW))))))).bind λr=>some r)=f
 have hF:∀x,Tot (f x) λ_=>True:=by
  intro x;subst hf;unfold cQ;dsimp only;refine DX.2 (DX.2 (DY.2 (DX.2 ((PH _ trivial).mono λr2 _=>?_))));refine DX.2 (Tot.mono (P:=λ_=>True) (DZ.2 ⟨λ_=>DY.2 trivial,λ_=>DY.2 trivial⟩) λp3 _=>?_);exact DX.2 (Tot.mono (P:=λ_=>True) (DZ.2 ⟨λ_=>PH _ trivial,λ_=>DY.2 trivial⟩) λr4 _=>DY.2 (DY.2 trivial))
 clear hf
 refine E_ (R:=λ_:Sum Unit Int=>True) (λy:(List HM)×(HM->Option Bool)×Int×Int=>y.1=l/\y.2.1=f/\y.2.2.1=l.length/\0<=y.2.2.2/\y.2.2.2<=l.length)
  (λy=>((l.length:Int)-y.2.2.2).toNat) ?_ _ _ ⟨rfl,rfl,rfl,BF _,BN _⟩ (by unfold fuel;dsimp only;omega)
 rintro next ⟨l',f',n,i⟩ hI hn
 dsimp only at hI hn;obtain⟨rfl,rfl,rfl,i0,i1⟩:=hI;unfold A0C;dsimp only;refine DZ.2 ⟨λhc=>?_,λhc=>DY.2 trivial⟩;have hc:=A9 hc;rw[EW (n:=i+1) o5 o5];refine DX.2 (EZ.2 ⟨⟨i0,hc⟩,λs hx=>?_⟩);refine DX.2 ((hF s).mono λr _=>DZ.2 ⟨λ_=>DY.2 trivial,λ_=>?_⟩);exact hn _ ⟨rfl,rfl,rfl,o7,o7⟩ o7
noncomputable def inn(L:List HM)(k:Int)(w:DW):Bool:=decide (0<=(RP (L,ky k w)).getD 0)
theorem AQo(k:Int)(u w:DW):bF (k,u,w)=(bE (k,u,w)).bind λr1=>bif (!(E1 r1.2.2 (0:Int)))then some ((0:Int),r1.2.2)else(PI r1.1).bind λr2=>(PI r1.2.1).bind λr3=>(LO (r2,r3)).bind λr4=>some (r4,(0:Int)):=rfl
theorem AQp{k:Int}{u w:DW}(hu:Ok k u)(hw:Ok k w):bF (k,u,w)=some (J2 (ky k u) (ky k w),0):=by
 obtain⟨v,hv⟩:=hu;obtain⟨v',hv'⟩:=hw;rw[AQo];unfold bE;dsimp only;rw[hv.1];simp only[A1,E0,decide_true,C0,AC];rw[hv'.1];simp only[A1,decide_true,C0,AC];rw[hv.2,hv'.2];simp only[A1];rw[rN];rfl
abbrev Bs:=Int×(List L5)×(List Int)
abbrev Dl:=Int×Int×(List L5)×(List DW)
noncomputable def VO(a:L5):Int:=(RO a).getD 1
theorem AQq{a:L5}(h:N6 a):RO a=some (VO a):=by
 obtain⟨r,hr,_⟩:=AQf a h;unfold VO;rw[hr];rfl
def okR(l:List L5)(i:Nat):Prop:=∀a,l[i]?=some a->VO a=0/\(0<i->∀a',l[i-1]?=some a'->a'.1<a.1)
def S6(b:Bs)(i:Nat):Prop:=okR b.2.1 i/\∀s,b.2.2[i]?=some s->0<=s/\s<=b.1
theorem VP(a b:DW):(Op.bytesLess a b||EG a b)= !decide (b<a):=by
 rw[rM,E3];rcases NY a b with h|h|h
 .simp[h,S4 h]
 .subst h;simp[I8]
 .have:a≠b:=λe=>by subst e;exact I8 _ h
  simp[h,S4 h,this]
theorem AQr(b:Bs)(hb:∀a∈b.2.1,N6 a)(hl:b.2.2.length=b.2.1.length)(hm:b.2.1.length<=2000):
 Tot (nE (b,b.2.1,(b.2.1.length:Int),0)) (λr=>(∀u,r=.inl u->∀j,j<b.2.1.length->S6 b j)/\∀e,r=.inr e->e≠0/\¬∀j,j<b.2.1.length->S6 b j):=by
 refine E_ (R:=λr:Sum Unit Int=>(∀u,r=.inl u->∀j,j<b.2.1.length->S6 b j)/\∀e,r=.inr e->e≠0/\¬∀j,j<b.2.1.length->S6 b j)
  (λy:Bs×(List L5)×Int×Int=>y.1=b/\y.2.1=b.2.1/\y.2.2.1=b.2.1.length/\0<=y.2.2.2/\y.2.2.2<=b.2.1.length/\∀j:Nat,(j:Int)<y.2.2.2->S6 b j)
  (λy=>((b.2.1.length:Int)-y.2.2.2).toNat) ?_ _ _ ⟨rfl,rfl,rfl,BF _,BN _,λj hj=>by dsimp only at hj;omega⟩ (by unfold fuel;dsimp only;omega)
 rintro next ⟨b',l,n,i⟩ hI hn
 dsimp only at hI hn;obtain⟨rfl,rfl,rfl,i0,i1,i2⟩:=hI;unfold A0B;dsimp only;refine DZ.2 ⟨λhc=>?_,λhc=>DY.2 ⟨λu _ j hj=>?_,λe he=>(by cases he)⟩⟩
 .have hc:=A9 hc;rw[EW (n:=i+1) o5 o5,EW o5 o5];refine DX.2 (EZ.2 ⟨⟨i0,hc⟩,λa ha=>?_⟩);rw[AQq (hb a (N7 ha))];refine DX.2 (DY.2 ?_);have hlt:i.toNat<b'.2.1.length:=o5
  refine DZ.2 ⟨λhe=>DY.2 ⟨λu hu=>(by cases hu),λe he'=>?_⟩,λhe=>?_⟩
  .cases he';rw[E0]at he;have he:¬VO a=0:=by simpa using he
   exact⟨he,λh=>he ((h i.toNat hlt).1 a ha).1⟩
  have hk:VO a=0:=by rw[E0]at he;simpa using he
  refine DX.2 (Tot.mono (P:=λy4:L5=>0<i->b'.2.1[i.toNat-1]?=some y4) (DZ.2 ⟨λhz=>?_,λhz=>DY.2 λh0=>absurd h0 (AO hz)⟩) λy4 h4=>?_)
  .have hz:=A9 hz;refine EZ.2 ⟨⟨o5,o5⟩,λw hw _=>?_⟩;rw[show i.toNat-1=(i-1).toNat by omega];exact hw
  rw[VP];refine DZ.2 ⟨λhe2=>DY.2 ⟨λu hu=>(by cases hu),λe he'=>?_⟩,λhe2=>?_⟩
  .cases he';have h2:=D1.1 he2;have hz:=A9 h2.1;have hnl:¬y4.1<a.1:=by simpa using h2.2
   exact⟨od,λh=>hnl (((h i.toNat hlt).1 a ha).2 o5 y4 (h4 hz))⟩
  have hasc:0<i.toNat->∀a',b'.2.1[i.toNat-1]?=some a'->a'.1<a.1:=by
   intro hz a' ha';have hz':0<i:=o5
   rw[h4 hz']at ha';cases ha';rw[A7 hz',CE]at he2;simpa using he2
  refine DX.2 (EZ.2 ⟨⟨i0,o5⟩,λs hs=>?_⟩);refine DX.2 (Tot.mono (P:=λy7:Int=>0<=s->y7=s) (DZ.2 ⟨λhz=>EZ.2 ⟨⟨i0,o5⟩,λw hw _=>?_⟩,λhz=>DY.2 λh0=>?_⟩) λy7 h7=>?_)
  .rw[hs]at hw;cases hw;rfl
  .exfalso;simp at hz;omega
  refine DZ.2 ⟨λhe3=>DY.2 ⟨λu hu=>(by cases hu),λe he'=>?_⟩,λhe3=>?_⟩
  .cases he';refine⟨od,λh=>?_⟩;have h8:=(h i.toNat hlt).2 s hs;have h9:=h7 h8.1;rw[h9]at he3;simp at he3;omega
  .have h8:=BS.1 he3;have h9:=AO h8.1;have h10:=AO h8.2;have h11:=h7 o5;refine hn _ ⟨rfl,rfl,rfl,o7,o7,λj hj=>?_⟩ o7;dsimp only at hj;by_cases hj':(j:Int)<i
   .exact i2 j hj'
   .have:j=i.toNat:=o5
    subst this;refine⟨λa' ha'=>?_,λs' hs'=>?_⟩
    .rw[ha]at ha';cases ha';exact⟨hk,hasc⟩
    .rw[hs]at hs';cases hs';omega
 .have hc:=AO hc;exact i2 j o5
def BB(b:Bs):Prop:=∀a∈b.2.1,N6 a
def rY(b:Bs):Prop:=(0<=b.1/\b.1<=1000000000)/\b.2.1.length<=2000/\b.2.2.length=b.2.1.length/\∀j,j<b.2.1.length->S6 b j
theorem AQs(b:Bs)(hb:BB b):Tot (cM b) (λr=>r=0<->rY b):=by
 unfold cM rY;refine DZ.2 ⟨λh=>DY.2 ⟨λh0=>absurd h0 od,λhk=>?_⟩,λh1=>?_⟩
 .simp at h;omega
 have h1':=BS.1 h1;have g1:=AO h1'.1;have g2:=AO h1'.2;refine DZ.2 ⟨λh=>DY.2 ⟨λh0=>absurd h0 od,λhk=>?_⟩,λh2=>?_⟩
 .have:=A9 h;omega
 have g3:=AO h2;refine DZ.2 ⟨λh=>DY.2 ⟨λh0=>absurd h0 od,λhk=>?_⟩,λh3=>?_⟩
 .rw[E0,hk.2.2.1]at h;simp at h
 have g4:b.2.2.length=b.2.1.length:=by
  rw[E0]at h3;have:((b.2.2.length:Nat):Int)=b.2.1.length:=by simpa using h3
  omega
 refine DX.2 ((AQr b hb g4 o5).mono λr hr=>?_);rcases r with r|r
 .exact DY.2 ⟨λ_=>⟨o5,o5,g4,hr.1 r rfl⟩,λ_=>rfl⟩
 .exact DY.2 ⟨λh0=>absurd h0 (hr.2 r rfl).1,λhk=>absurd hk.2.2.2 (hr.2 r rfl).2⟩
def DB(d:Dl):Prop:=d.2.2.1.length<=1048576/\∀a∈d.2.2.1,N6 a
theorem AQt{α:Type}{B:Nat}(l:List α)(h:l.length*B<=70368744177664):app? B [] l=some l:=by
 unfold app?;rw[A7 (by simpa using h)];rfl
theorem AQu{l:List DW}(h:l.length<=1048576):cT l=some l:=by
 unfold cT o8;rw[AQt l o5];rfl
theorem AQv(k k':DW)(v:Bool):∀m:List (DW×Bool),FQ EG k (FH EG k' v m)=if k=k' then some v else FQ EG k m:=by
 intro m;induction m with
 |nil=>
  unfold FH FQ;rw[E3];by_cases h:k=k'<;>simp[h,FQ]
 |cons e r ih=>
  unfold FH;rw[E3];by_cases h1:k'=e.1
  .rw[A7 h1];simp only[AA];unfold FQ;rw[E3,E3];by_cases h:k=k'
   .simp[h]
   .have:¬k=e.1:=λe'=>h (e'.trans h1.symm);simp[h,this]
  .rw[AE h1];simp only[AC];unfold FQ;rw[E3,ih];by_cases h:k=e.1
   .have h2:¬e.1=k':=λe'=>h1 e'.symm;simp[h,h2]
   .simp[h]
section
variable{b:Bs}{d:Dl}(hb:BB b)(hbl:b.2.1.length<=1048576)(hd:DB d)(h0:d.2.2.2=[])
end
end Go.Ev.Pv
