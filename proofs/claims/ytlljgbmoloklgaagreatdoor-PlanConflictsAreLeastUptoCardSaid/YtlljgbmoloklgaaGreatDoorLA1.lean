/-
  The law as plain Lean, first part: that there are answers: names, versions, ranges, advisories.
-/
import Derived.Test.YtlljgbmoloklgaaGreatDoorLE4
import Derived.Test.YtlljgbmoloklgaaGreatDoorLD
import Derived.Sort.AssemblyPlain
import Derived.KernelRfl
set_option linter.unusedVariables false
set_option linter.unusedSimpArgs false
set_option linter.unusedSectionVars false
set_option maxRecDepth 100000
open Go.IntKind hiding min max bits signed
namespace Go.Ev
theorem ES{α:Type}{a:α}{l:List α}:(a::l).length=l.length+1:=AG
theorem ET{α:Type}:([]:List α).length=0:=AV
theorem EU{α:Type}{a:α}{i:Nat}{l:List α}(h:a∈l.take i):a∈l:=DM h
theorem EV{α:Type}{a:α}{i:Nat}{l:List α}(h:a∈l.drop i):a∈l:=List.mem_of_mem_drop h
def Tot{α:Type}(m:Option α)(Q:α->Prop):Prop:=∃x,m=some x/\Q x
section
variable{α β:Type}{m n:Option α}{P Q:α->Prop}
theorem Tot.mono(h:Tot m P)(k:∀x,P x->Q x):Tot m Q:=let ⟨x,h1,h2⟩:=h;⟨x,h1,k x h2⟩
theorem E2{x:α}:Tot (some x) Q<->Q x:=⟨fun⟨_,h1,h2⟩=>A4 h1▸h2,fun h=>⟨x,rfl,h⟩⟩
theorem E1{f:α->Option β}{R:β->Prop}:Tot (m.bind f) R<->Tot m fun x=>Tot (f x) R:=by
 constructor
 ·rintro⟨y,h1,h2⟩;obtain⟨x,h3,h4⟩:=BX.1 h1;exact⟨x,h3,y,h4,h2⟩
 ·rintro⟨x,rfl,y,h1,h2⟩;exact⟨y,h1,h2⟩
theorem E3{b:Bool}:Tot (bif b then m else n) Q<->(b=true->Tot m Q)/\(b=false->Tot n Q):=by
 cases b
 ·exact⟨fun h=>⟨fun e=>(by cases e),fun _=>h⟩,fun h=>h.2 rfl⟩
 ·exact⟨fun h=>⟨fun _=>h,fun e=>(by cases e)⟩,fun h=>h.1 rfl⟩
theorem FF{n:Nat}{i:Int}{Q:Unit->Prop}:Tot (in? n i) Q<->(0<=i/\i<n)/\Q ():=by
 unfold in? Tot;by_cases h1:0<=i<;>by_cases h2:i<n<;>simp[h1,h2]
 exact⟨fun⟨_,h⟩=>h,fun h=>⟨(),h⟩⟩
theorem FT{a b:E0}{Q:E0->Prop}:Tot (cat? a b) Q<->a.length+b.length<=281474976710656/\Q (a++b):=by
 unfold cat? Tot;by_cases h:a.length+b.length<=281474976710656<;>simp[h]
theorem GH{B:Nat}{a b:List α}{Q:List α->Prop}:Tot (app? B a b) Q<->(a.length+b.length)*B<=70368744177664/\Q (a++b):=by
 unfold app? Tot;by_cases h:(a.length+b.length)*B<=70368744177664<;>simp[h]
theorem HG{l:List α}{lo hi:Int}{Q:List α->Prop}:Tot (cut? l lo hi) Q<->(0<=lo/\lo<=hi/\hi<=l.length)/\Q ((l.take hi.toNat).drop lo.toNat):=by
 unfold cut? Tot;by_cases h1:0<=lo<;>by_cases h2:lo<=hi<;>by_cases h3:hi<=l.length<;>simp[h1,h2,h3]
theorem AIx{l:List α}{i:Int}{Q:α->Prop}(h1:0<=i)(h2:i<l.length)(h3:∀x,x∈l->l[i.toNat]?=some x->Q x):Tot (at? l i) Q:=by
 have hlt:i.toNat<l.length:=by omega
 refine⟨l[i.toNat],?_,h3 _ (BF hlt) (A0 hlt)⟩;unfold at?;rw[A7 h1];exact A0 hlt
theorem F0{l:List α}{i:Int}{Q:α->Prop}:Tot (at? l i) Q<->(0<=i/\i<l.length)/\∀x,l[i.toNat]?=some x->Q x:=by
 constructor
 ·rintro⟨x,h1,h2⟩;unfold at? at h1;by_cases h0:0<=i
  ·rw[A7 h0]at h1;have h1:l[i.toNat]?=some x:=h1;have hlt:=(AA.1 h1).1;exact⟨⟨h0,by omega⟩,fun y hy=>by rw[h1]at hy;cases hy;exact h2⟩
  ·rw[AC h0]at h1;cases h1
 ·rintro⟨⟨h1,h2⟩,h3⟩;exact AIx h1 h2 fun x _ hx=>h3 x hx
theorem oW:Tot m (fun _=>True)<->∃x,m=some x:=⟨fun⟨x,h,_⟩=>⟨x,h⟩,fun⟨x,h⟩=>⟨x,h,trivial⟩⟩
theorem F4{r:(α->Option β)->α->Option β}{R:β->Prop}(I:α->Prop)(μ:α->Nat)(h:∀next x,I x->(∀y,I y->μ y<μ x->Tot (next y) R)->Tot (r next x) R):
 ∀(k:Nat) (x:α),I x->μ x<k->Tot (EK r k x) R:=by
 intro k;induction k with
 |zero=>intro x _ h;omega
 |succ k ih=>intro x hx hk;exact h _ x hx fun y hy hm=>ih y hy (by omega)
theorem EY{n:Int}(h1:-9223372036854775808<=n)(h2:n<=9223372036854775807):i64.wrap n=n:=by
 simp only[IntKind.wrap,IntKind.bits,IntKind.signed];simp;omega
theorem oX{n:Int}(h1:0<=n)(h2:n<=255):u8.wrap n=n:=by
 simp only[IntKind.wrap,IntKind.bits,IntKind.signed];simp;omega
theorem AIy(n:Int):0<=u8.wrap n/\u8.wrap n<=255:=by
 simp only[IntKind.wrap,IntKind.bits,IntKind.signed];simp;omega
end
end Go.Ev
namespace Go.Ev.Pv
theorem ED{n:Int}:-9223372036854775808<=n->n<=9223372036854775807->i64.wrap n=n:=fun h1 h2=>EY h1 h2
theorem EB(b:UInt8):b.toNat<=255:=by have:=b.toNat_lt;omega
theorem EE{n:Int}:0<=n->n<=255->u8.wrap n=n:=fun h1 h2=>oX h1 h2
theorem EF(n:Int):0<=u8.wrap n/\u8.wrap n<=255:=AIy n
theorem EG(s:E0):(FY s).length=s.length:=by simp[FY]
theorem EC(s:List Int):(HA s).length=s.length:=by simp[HA]
theorem EA(s t:E0):EW s t=decide (s=t):=by unfold EW;by_cases h:s=t<;>simp[h]
theorem E4(s t:Int):E6 s t=decide (s=t):=by unfold E6;by_cases h:s=t<;>simp[h]
theorem OX(x:E0×Int)(h:x.1.length<=1048576):Tot (strings_IndexByte x) (fun r:Int=>-1<=r):=by
 unfold strings_IndexByte HQ;rw[A7 (by omega)];exact E2.2 (Lib.indexByte_ge _ _)
theorem oY(sep:E0)(m:Nat):∀xs:List E0,(∀s∈xs,s.length<=m)->(Lib.join xs sep).length<=xs.length*(m+sep.length):=by
 intro xs;induction xs with
 |nil=>intro _;simp[Lib.join,List.intercalate]
 |cons a r ih=>
  intro h;have h1:=h a AN;have h2:=ih fun s hs=>h s (AH _ hs);cases r with
  |nil=>simp[Lib.join,List.intercalate];omega
  |cons b r=>
   have e:Lib.join (a::b::r) sep=a++(sep++Lib.join (b::r) sep):=by simp[Lib.join,List.intercalate,List.intersperse]
   rw[e];simp only[A9,AG]at h2 ⊢;have e2:(r.length+1+1)*(m+sep.length)=(r.length+1)*(m+sep.length)+(m+sep.length):=by rw[CN (r.length+1)];omega
   rw[e2];omega
theorem AIz{xs:List E0}(h1:xs.length<=1048577)(h2:∀s∈xs,s.length<=1048576):(Lib.join xs [47]).length<=1099513724929:=by
 have h:=oY [47] 1048576 xs h2;have:xs.length*(1048576+[(47:UInt8)].length)<=1048577*(1048576+1):=Nat.mul_le_mul h1 (AI _);omega
theorem RG(x:(List E0)×E0)(h:x.1.length<=140737488355328/\(Lib.join x.1 x.2).length<=140737488355328):Tot (strings_Join x) (fun r=>r=Lib.join x.1 x.2):=by
 unfold strings_Join HQ;rw[A7 h];exact E2.2 rfl
theorem AJ0(x:E0×Int×Int)(h:0<=x.2.2/\x.2.2<=x.2.1/\x.2.1=x.1.length/\x.2.1<=281474976710656):Tot (kI x) (fun r:Sum (Unit) (Bool)=>True):=by
 refine F4 (R:=fun r:Sum (Unit) (Bool)=>True) (fun y:E0×Int×Int=>(0<=y.2.2/\y.2.2<=y.2.1/\y.2.1=y.1.length/\y.2.1<=281474976710656)) (fun y:E0×Int×Int=>(y.2.1-y.2.2).toNat) ?_ _ _ (by grind) (by unfold fuel;grind);rintro next ⟨s_0,t6,t7⟩ h hn
 try dsimp only at h hn
 unfold x4
 repeat' first
  |(with_reducible first|refine E3.2 ⟨fun _=>?_,fun _=>?_⟩|refine E1.2 ?_|refine E2.2 ?_|refine F0.2 ⟨?_,fun _ _=>?_⟩|refine hn _ ?_ ?_)
  |dsimp only
 all_goals grind[ED,EC,EG,EA,E4,EF,EE,EB]
theorem A49(x:E0)(h:x.length<=1048576):Tot (QW x) (fun r:Bool=>True):=by
 unfold QW
 repeat' first
  |(with_reducible first|refine E1.2 ?_|refine E2.2 ?_|refine(AJ0 _ ?_).mono fun _ _=>?_)
  |split
  |dsimp only
 all_goals grind[ED,EC,EG,EA,E4,EF,EE,EB]
theorem AJ1(x:(List Int)×Int×Int)(h:0<=x.2.2/\x.2.2<=x.2.1/\x.2.1=x.1.length/\x.2.1<=281474976710656):Tot (iC x) (fun r:List Int=>r.length=x.1.length):=by
 refine F4 (R:=fun r:List Int=>r.length=x.1.length) (fun y:(List Int)×Int×Int=>(0<=y.2.2/\y.2.2<=y.2.1/\y.2.1=y.1.length/\y.2.1<=281474976710656)/\y.1.length=x.1.length) (fun y:(List Int)×Int×Int=>(y.2.1-y.2.2).toNat) ?_ _ _ (by grind) (by unfold fuel;grind);rintro next ⟨b_3,t9,t10⟩ h hn
 try dsimp only at h hn
 unfold vC
 repeat' first
  |(with_reducible first|refine E3.2 ⟨fun _=>?_,fun _=>?_⟩|refine E1.2 ?_|refine E2.2 ?_|refine FF.2 ⟨?_,?_⟩|refine hn _ ?_ ?_)
  |dsimp only
 all_goals grind[ED,EC,EG,EA,E4,EF,EE,EB]
theorem oZ(x:E0)(h:x.length<=1048576):Tot (OI x) (fun r:E0=>r.length=x.length):=by
 unfold OI
 repeat' first
  |(with_reducible first|refine E1.2 ?_|refine E2.2 ?_|refine F0.2 ⟨?_,fun _ _=>?_⟩|refine FT.2 ⟨?_,?_⟩|refine(AJ1 _ ?_).mono fun _ _=>?_)
  |dsimp only
 all_goals grind[ED,EC,EG,EA,E4,EF,EE,EB]
theorem RH(x:F5×Int)(h:True):Tot (MJ x) (fun r:E0×Int×Int=>r.1=x.1.1/\r.2.1=x.1.2.1/\(0<=x.2->0<=r.2.2)):=by
 obtain⟨r_0,at_1⟩:=x;try dsimp only at h ⊢
 unfold MJ
 repeat' first
  |(with_reducible first|refine E3.2 ⟨fun _=>?_,fun _=>?_⟩|refine E2.2 ?_)
  |dsimp only
 all_goals grind[ED,EC,EG,EA,E4,EF,EE,EB]
theorem RI(x:Option F5)(h:∃y,x=some y/\0<=y.2.1):Tot (LX x) (fun r:Int=>0<=r/\(r=0\/∃y,x=some y/\y.2.1<y.1.length)):=by
 unfold LX;obtain⟨y,rfl,h⟩:=h
 repeat' first
  |(with_reducible first|refine E3.2 ⟨fun _=>?_,fun _=>?_⟩|refine E1.2 ?_|refine E2.2 ?_|refine F0.2 ⟨?_,fun _ _=>?_⟩)
  |dsimp only
 all_goals grind[ED,EC,EG,EA,E4,EF,EE,EB]
theorem A4A(x:Int)(h:True):Tot (TK x) (fun r:Bool=>True):=by
 unfold TK
 repeat' first
  |with_reducible refine E2.2 ?_
  |dsimp only
 all_goals grind[ED,EC,EG,EA,E4,EF,EE,EB]
theorem AJ2(x:F5×Int)(h:0<=x.2/\x.2<=(4:Int)/\(4:Int)<=281474976710656/\x.1.1.length<=1048576/\0<=x.1.2.1/\x.1.2.1<=x.1.1.length/\x.2<=x.1.1.length):Tot (iD x) (fun r:Sum F5 (F5×E0)=>match r with| .inl q=>q=x.1/\4<=x.1.1.length| .inr q=>q.1.1=x.1.1/\q.1.2.1=x.1.2.1/\q.2=[]):=by
 refine F4 (R:=fun r:Sum F5 (F5×E0)=>match r with| .inl q=>q=x.1/\4<=x.1.1.length| .inr q=>q.1.1=x.1.1/\q.1.2.1=x.1.2.1/\q.2=[]) (fun y:F5×Int=>(0<=y.2/\y.2<=(4:Int)/\(4:Int)<=281474976710656/\y.1.1.length<=1048576/\0<=y.1.2.1/\y.1.2.1<=y.1.1.length/\y.2<=y.1.1.length)/\y.1=x.1) (fun y:F5×Int=>((4:Int)-y.2).toNat) ?_ _ _ (by grind) (by unfold fuel;grind);rintro next ⟨r_0,t7⟩ h hn
 try dsimp only at h hn
 unfold vD
 repeat' first
  |(with_reducible first|refine E3.2 ⟨fun _=>?_,fun _=>?_⟩|refine E1.2 ?_|refine E2.2 ?_|refine HG.2 ⟨?_,?_⟩|refine(oZ _ ?_).mono fun _ _=>?_|refine(RH _ ?_).mono fun _ _=>?_|refine hn _ ?_ ?_)
  |dsimp only
 all_goals grind[ED,EC,EG,EA,E4,EF,EE,EB]
theorem AJ3(x:E0×Int×Int)(h:x.1.length<=1048576/\0<=x.2.1/\x.2.1<=x.1.length):Tot (iE x) (fun r:E0×Int×Int=>r.1=x.1/\r.2.2=x.2.2/\x.2.1<=r.2.1/\r.2.1<=r.1.length):=by
 refine F4 (R:=fun r:E0×Int×Int=>r.1=x.1/\r.2.2=x.2.2/\x.2.1<=r.2.1/\r.2.1<=r.1.length) (fun y:E0×Int×Int=>(y.1.length<=1048576/\0<=y.2.1/\y.2.1<=y.1.length)/\y.1=x.1/\y.2.2=x.2.2/\x.2.1<=y.2.1) (fun y:E0×Int×Int=>(y.1.length-y.2.1).toNat) ?_ _ _ (by grind) (by unfold fuel;grind);rintro next r_0 h hn
 try dsimp only at h hn
 unfold vE
 repeat' first
  |(with_reducible first|refine E3.2 ⟨fun _=>?_,fun _=>?_⟩|refine E1.2 ?_|refine E2.2 ?_|refine F0.2 ⟨?_,fun _ _=>?_⟩|refine(A4A _ ?_).mono fun _ _=>?_|refine hn _ ?_ ?_)
  |dsimp only
 all_goals grind[ED,EC,EG,EA,E4,EF,EE,EB]
theorem AJ4(x:F5×Bool)(h:x.1.1.length<=1048576/\0<=x.1.2.1/\x.1.2.1<=x.1.1.length/\(x.2=true->x.1.2.1<x.1.1.length)):Tot (XS x) (fun r:E0×Int×Int=>r.1=x.1.1/\x.1.2.1<=r.2.1/\r.2.1<=r.1.length):=by
 obtain⟨r_0,t45⟩:=x;try dsimp only at h ⊢
 unfold XS
 repeat' first
  |(with_reducible first|refine E3.2 ⟨fun _=>?_,fun _=>?_⟩|refine E1.2 ?_|refine E2.2 ?_|refine(AJ3 _ ?_).mono fun _ _=>?_)
  |dsimp only
 all_goals grind[ED,EC,EG,EA,E4,EF,EE,EB]
theorem AJ5(x:F5×Bool)(h:x.1.1.length<=1048576/\0<=x.1.2.1/\x.1.2.1<=x.1.1.length):Tot (XT x) (fun r:E0×F5=>r.2.1=x.1.1/\0<=r.2.2.1/\r.2.2.1<=x.1.1.length/\r.1.length<=x.1.1.length):=by
 obtain⟨r_0,star_1⟩:=x;try dsimp only at h ⊢
 unfold XT
 repeat' first
  |(with_reducible first|refine E3.2 ⟨fun _=>?_,fun _=>?_⟩|refine E1.2 ?_|refine E2.2 ?_|refine HG.2 ⟨?_,?_⟩|refine(AJ2 _ ?_).mono fun _ _=>?_|refine(RI _ ?_).mono fun _ _=>?_|refine(AJ4 _ ?_).mono fun _ _=>?_|refine(RH _ ?_).mono fun _ _=>?_|refine(oZ _ ?_).mono fun _ _=>?_)
  |split
  |dsimp only
 all_goals grind[ED,EC,EG,EA,E4,EF,EE,EB]
theorem AJ6(x:Int)(h:0<=x/\x<=255):Tot (XU x) (fun r:Int=>-1<=r/\r<=15):=by
 unfold XU
 repeat' first
  |(with_reducible first|refine E3.2 ⟨fun _=>?_,fun _=>?_⟩|refine E2.2 ?_)
  |dsimp only
 all_goals grind[ED,EC,EG,EA,E4,EF,EE,EB]
theorem AJ7(x:F5×Int×Int×Bool)(h:x.1.1.length<=1048576/\0<=x.1.2.1/\x.1.2.1<=x.1.1.length/\1<=x.2.1/\x.2.1<=2/\x.2.2.1= -1/\(x.2.2.2=true->x.1.2.1+x.2.1<x.1.1.length)):Tot (XV x) (fun r:F5×Int=>r.1=x.1/\(x.2.2.2=true\/r.2= -1)):=by
 obtain⟨r_0,i_6,d_7,t63⟩:=x;try dsimp only at h ⊢
 unfold XV
 repeat' first
  |(with_reducible first|refine E3.2 ⟨fun _=>?_,fun _=>?_⟩|refine E1.2 ?_|refine E2.2 ?_|refine F0.2 ⟨?_,fun _ _=>?_⟩|refine(AJ6 _ ?_).mono fun _ _=>?_)
  |dsimp only
 all_goals grind[ED,EC,EG,EA,E4,EF,EE,EB]
theorem AJ8(x:F5×Int×Int)(h:x.1.1.length<=1048576/\0<=x.1.2.1/\x.1.2.1<=x.1.1.length/\1<=x.2.2/\x.2.2<=3/\x.1.2.1+x.2.2<=x.1.1.length):Tot (iF x) (fun r:Sum (F5×Int) (F5×Int×Bool)=>match r with| .inl q=>q.1=x.1/\x.1.2.1+3<=x.1.1.length| .inr q=>q.1.1=x.1.1/\q.1.2.1=x.1.2.1/\q.2.2=false):=by
 refine F4 (R:=fun r:Sum (F5×Int) (F5×Int×Bool)=>match r with| .inl q=>q.1=x.1/\x.1.2.1+3<=x.1.1.length| .inr q=>q.1.1=x.1.1/\q.1.2.1=x.1.2.1/\q.2.2=false) (fun y:F5×Int×Int=>(y.1.1.length<=1048576/\0<=y.1.2.1/\y.1.2.1<=y.1.1.length/\1<=y.2.2/\y.2.2<=3/\y.1.2.1+y.2.2<=y.1.1.length)/\y.1=x.1) (fun y:F5×Int×Int=>(3-y.2.2).toNat) ?_ _ _ (by grind) (by unfold fuel;grind);rintro next ⟨r_0,n_5,i_6⟩ h hn
 try dsimp only at h hn
 unfold vF
 repeat' first
  |(with_reducible first|refine E3.2 ⟨fun _=>?_,fun _=>?_⟩|refine E1.2 ?_|refine E2.2 ?_|refine(AJ7 _ ?_).mono fun _ _=>?_|refine(RH _ ?_).mono fun _ _=>?_|refine hn _ ?_ ?_)
  |dsimp only
 all_goals grind[ED,EC,EG,EA,E4,EF,EE,EB]
theorem AJ9(x:E0×Int×Int)(h:x.1.length<=1048576/\0<=x.2.1/\x.2.1<=x.1.length):Tot (XW x) (fun r:Int×Bool×F5=>r.2.2.1=x.1/\x.2.1<=r.2.2.2.1/\r.2.2.2.1<=x.1.length/\(r.2.1=true->x.2.1<r.2.2.2.1)):=by
 unfold XW
 repeat' first
  |(with_reducible first|refine E3.2 ⟨fun _=>?_,fun _=>?_⟩|refine E1.2 ?_|refine E2.2 ?_|refine F0.2 ⟨?_,fun _ _=>?_⟩|refine(OX _ ?_).mono fun _ _=>?_|refine(AJ8 _ ?_).mono fun _ _=>?_)
  |split
  |dsimp only
 all_goals grind[ED,EC,EG,EA,E4,EF,EE,EB]
theorem AJA(x:F5×(List Int))(h:x.1.1.length<=1048576/\0<=x.1.2.1/\x.1.2.1<=x.1.1.length/\x.2.length<=x.1.2.1):Tot (iG x) (fun r:F5×(List Int)=>r.1.1=x.1.1/\x.1.2.1<=r.1.2.1/\r.1.2.1<=x.1.1.length/\r.2.length<=r.1.2.1):=by
 refine F4 (R:=fun r:F5×(List Int)=>r.1.1=x.1.1/\x.1.2.1<=r.1.2.1/\r.1.2.1<=x.1.1.length/\r.2.length<=r.1.2.1) (fun y:F5×(List Int)=>(y.1.1.length<=1048576/\0<=y.1.2.1/\y.1.2.1<=y.1.1.length/\y.2.length<=y.1.2.1)/\y.1.1=x.1.1/\x.1.2.1<=y.1.2.1) (fun y:F5×(List Int)=>(y.1.1.length-y.1.2.1).toNat) ?_ _ _ (by grind) (by unfold fuel;grind);rintro next ⟨r_0,b_3⟩ h hn
 try dsimp only at h hn
 unfold vG
 repeat' first
  |(with_reducible first|refine E3.2 ⟨fun _=>?_,fun _=>?_⟩|refine E1.2 ?_|refine E2.2 ?_|refine GH.2 ⟨?_,?_⟩|refine(AJ9 _ ?_).mono fun _ _=>?_|refine hn _ ?_ ?_)
  |dsimp only
 all_goals grind[ED,EC,EG,EA,E4,EF,EE,EB]
theorem cO(x:E0×Int×Int)(h:x.1.length<=1048576/\0<=x.2.1/\x.2.1<=x.1.length):Tot (OJ x) (fun r:E0×F5=>r.2.1=x.1/\x.2.1<=r.2.2.1/\r.2.2.1<=x.1.length/\r.1.length<=x.1.length):=by
 unfold OJ
 repeat' first
  |(with_reducible first|refine E3.2 ⟨fun _=>?_,fun _=>?_⟩|refine E1.2 ?_|refine E2.2 ?_|refine F0.2 ⟨?_,fun _ _=>?_⟩|refine FT.2 ⟨?_,?_⟩|refine(AJA _ ?_).mono fun _ _=>?_|refine(RH _ ?_).mono fun _ _=>?_)
  |dsimp only
 all_goals grind[ED,EC,EG,EA,E4,EF,EE,EB]
theorem AJB(x:F5×(List E0))(h:x.1.1.length<=1048576/\0<=x.1.2.1/\x.1.2.1<=x.1.1.length/\x.2.length<=x.1.2.1+1/\∀s∈x.2,s.length<=1048576):Tot (iH x) (fun r:F5×(List E0)=>r.1.1=x.1.1/\x.1.2.1<=r.1.2.1/\r.1.2.1<=x.1.1.length/\x.2.length<=r.2.length/\r.2.length<=1048577/\∀s∈r.2,s.length<=1048576):=by
 refine F4 (R:=fun r:F5×(List E0)=>r.1.1=x.1.1/\x.1.2.1<=r.1.2.1/\r.1.2.1<=x.1.1.length/\x.2.length<=r.2.length/\r.2.length<=1048577/\∀s∈r.2,s.length<=1048576) (fun y:F5×(List E0)=>(y.1.1.length<=1048576/\0<=y.1.2.1/\y.1.2.1<=y.1.1.length/\y.2.length<=y.1.2.1+1/\∀s∈y.2,s.length<=1048576)/\y.1.1=x.1.1/\x.1.2.1<=y.1.2.1/\x.2.length<=y.2.length) (fun y:F5×(List E0)=>(y.1.1.length-y.1.2.1).toNat) ?_ _ _ (by grind) (by unfold fuel;grind);rintro next ⟨r_0,l_3⟩ h hn
 try dsimp only at h hn
 unfold vH
 repeat' first
  |(with_reducible first|refine E3.2 ⟨fun _=>?_,fun _=>?_⟩|refine E1.2 ?_|refine E2.2 ?_|refine GH.2 ⟨?_,?_⟩|refine(RI _ ?_).mono fun _ _=>?_|refine(cO _ ?_).mono fun _ _=>?_|refine hn _ ?_ ?_)
  |dsimp only
 all_goals grind[ED,EC,EG,EA,E4,EF,EE,EB]
theorem A4B(x:E0×Int×Int)(h:x.1.length<=1048576/\0<=x.2.1/\x.2.1<=x.1.length):Tot (TL x) (fun r:(List E0)×F5=>r.2.1=x.1/\x.2.1<=r.2.2.1/\r.2.2.1<=x.1.length/\1<=r.1.length/\r.1.length<=1048577/\∀s∈r.1,s.length<=1048576):=by
 unfold TL
 repeat' first
  |(with_reducible first|refine E1.2 ?_|refine E2.2 ?_|refine(cO _ ?_).mono fun _ _=>?_|refine(AJB _ ?_).mono fun _ _=>?_)
  |dsimp only
 all_goals grind[ED,EC,EG,EA,E4,EF,EE,EB]
theorem A4C(x:Int×Bool)(h:True):Tot (TM x) (fun r:Bool=>True):=by
 obtain⟨c_0,first_1⟩:=x;try dsimp only at h ⊢
 unfold TM
 repeat' first
  |(with_reducible first|refine E3.2 ⟨fun _=>?_,fun _=>?_⟩|refine E2.2 ?_)
  |dsimp only
 all_goals grind[ED,EC,EG,EA,E4,EF,EE,EB]
theorem AJC(x:F5×Int)(h:x.1.1.length<=1048576/\0<=x.1.2.1/\x.1.2.1<=x.1.1.length):Tot (iI x) (fun r:E0×Int×Int=>r.1=x.1.1/\x.1.2.1<=r.2.1/\r.2.1<=x.1.1.length):=by
 refine F4 (R:=fun r:E0×Int×Int=>r.1=x.1.1/\x.1.2.1<=r.2.1/\r.2.1<=x.1.1.length) (fun y:F5×Int=>(y.1.1.length<=1048576/\0<=y.1.2.1/\y.1.2.1<=y.1.1.length)/\y.1.1=x.1.1/\y.1.2.2=x.1.2.2/\x.1.2.1<=y.1.2.1) (fun y:F5×Int=>(y.1.1.length-y.1.2.1).toNat) ?_ _ _ (by grind) (by unfold fuel;grind);rintro next ⟨r_0,from_3⟩ h hn
 try dsimp only at h hn
 unfold vI
 repeat' first
  |(with_reducible first|refine E3.2 ⟨fun _=>?_,fun _=>?_⟩|refine E1.2 ?_|refine E2.2 ?_|refine F0.2 ⟨?_,fun _ _=>?_⟩|refine(A4C _ ?_).mono fun _ _=>?_|refine hn _ ?_ ?_)
  |dsimp only
 all_goals grind[ED,EC,EG,EA,E4,EF,EE,EB]
theorem AJD(x:E0×Int×Int)(h:x.1.length<=1048576/\0<=x.2.1/\x.2.1<=x.1.length):Tot (XX x) (fun r:(E0×E0)×F5=>r.2.1=x.1/\x.2.1<=r.2.2.1/\r.2.2.1<=x.1.length/\r.1.1.length<=1048576/\r.1.2.length<=1048576):=by
 unfold XX
 repeat' first
  |(with_reducible first|refine E3.2 ⟨fun _=>?_,fun _=>?_⟩|refine E1.2 ?_|refine E2.2 ?_|refine HG.2 ⟨?_,?_⟩|refine(AJC _ ?_).mono fun _ _=>?_|refine(RI _ ?_).mono fun _ _=>?_|refine(RH _ ?_).mono fun _ _=>?_|refine(cO _ ?_).mono fun _ _=>?_)
  |dsimp only
 all_goals grind[ED,EC,EG,EA,E4,EF,EE,EB]
theorem AJE(x:F5×H7×Bool)(h:x.1.1.length<=1048576/\0<=x.1.2.1/\x.1.2.1<=x.1.1.length/\(x.2.2=true->x.1.2.1<x.1.1.length)/\x.2.1.2.2.2.1.length<=1048576):Tot (XY x) (fun r:F5×H7=>r.1.1=x.1.1/\x.1.2.1<=r.1.2.1/\r.1.2.1<=x.1.1.length/\r.2.1=x.2.1.1/\r.2.2.1=x.2.1.2.1/\r.2.2.2.1=x.2.1.2.2.1/\r.2.2.2.2.1.length<=1048576/\r.2.2.2.2.2=x.2.1.2.2.2.2):=by
 obtain⟨r_0,p_3,t40⟩:=x;try dsimp only at h ⊢
 unfold XY
 repeat' first
  |(with_reducible first|refine E3.2 ⟨fun _=>?_,fun _=>?_⟩|refine E1.2 ?_|refine E2.2 ?_|refine(cO _ ?_).mono fun _ _=>?_)
  |dsimp only
 all_goals grind[ED,EC,EG,EA,E4,EF,EE,EB]
theorem AJF(x:F5×H7×Int)(h:x.1.1.length<=1048576/\0<=x.1.2.1/\x.1.2.1<=x.1.1.length/\x.2.1.2.2.2.2.1.length<=x.1.2.1/\x.2.2≠0/\∀q∈x.2.1.2.2.2.2.1,q.1.length<=1048576/\q.2.length<=1048576):Tot (iJ x) (fun r:F5×H7=>r.1.1=x.1.1/\x.1.2.1<=r.1.2.1/\r.1.2.1<=x.1.1.length/\r.2.1=x.2.1.1/\r.2.2.1=x.2.1.2.1/\r.2.2.2.1=x.2.1.2.2.1/\r.2.2.2.2.1=x.2.1.2.2.2.1/\r.2.2.2.2.2.2=x.2.1.2.2.2.2.2/\r.2.2.2.2.2.1.length<=1048576/\∀q∈r.2.2.2.2.2.1,q.1.length<=1048576/\q.2.length<=1048576):=by
 refine F4 (R:=fun r:F5×H7=>r.1.1=x.1.1/\x.1.2.1<=r.1.2.1/\r.1.2.1<=x.1.1.length/\r.2.1=x.2.1.1/\r.2.2.1=x.2.1.2.1/\r.2.2.2.1=x.2.1.2.2.1/\r.2.2.2.2.1=x.2.1.2.2.2.1/\r.2.2.2.2.2.2=x.2.1.2.2.2.2.2/\r.2.2.2.2.2.1.length<=1048576/\∀q∈r.2.2.2.2.2.1,q.1.length<=1048576/\q.2.length<=1048576) (fun y:F5×H7×Int=>(y.1.1.length<=1048576/\0<=y.1.2.1/\y.1.2.1<=y.1.1.length/\y.2.1.2.2.2.2.1.length<=y.1.2.1/\y.2.2≠0/\∀q∈y.2.1.2.2.2.2.1,q.1.length<=1048576/\q.2.length<=1048576)/\y.1.1=x.1.1/\y.2.1.1=x.2.1.1/\y.2.1.2.1=x.2.1.2.1/\y.2.1.2.2.1=x.2.1.2.2.1/\y.2.1.2.2.2.1=x.2.1.2.2.2.1/\y.2.1.2.2.2.2.2=x.2.1.2.2.2.2.2/\x.1.2.1<=y.1.2.1) (fun y:F5×H7×Int=>(y.1.1.length-y.1.2.1).toNat) ?_ _ _ (by grind) (by unfold fuel;grind);rintro next ⟨r_0,p_3,sign_5⟩ h hn
 try dsimp only at h hn
 unfold vJ
 repeat' first
  |(with_reducible first|refine E3.2 ⟨fun _=>?_,fun _=>?_⟩|refine E1.2 ?_|refine E2.2 ?_|refine GH.2 ⟨?_,?_⟩|refine(RI _ ?_).mono fun _ _=>?_|refine(AJD _ ?_).mono fun _ _=>?_|refine hn _ ?_ ?_)
  |dsimp only
 all_goals grind[ED,EC,EG,EA,E4,EF,EE,EB]
end Go.Ev.Pv
namespace Go.Ev.Pv
theorem o_{k:IntKind}{a b:Int}{Q:Int->Prop}:Tot (div? k a b) Q<->b≠0/\Q (k.wrap (a.tdiv b)):=by
 unfold div? Tot;by_cases h:b=0
 ·subst h;simp
 ·have e:(b==0)=false:=by simpa using h
  rw[e];simp[h]
theorem A4D{a b:Int}{Q:Int->Prop}:Tot (mod? a b) Q<->b≠0/\Q (a.tmod b):=by
 unfold mod? Tot;by_cases h:b=0
 ·subst h;simp
 ·have e:(b==0)=false:=by simpa using h
  rw[e];simp[h]
theorem AJG{a:Int}(h0:0<=a)(h1:a<=255):0<=a.tdiv 16/\a.tdiv 16<=15:=by rw[Int.tdiv_eq_ediv_of_nonneg h0];omega
theorem AJH{a:Int}(h0:0<=a)(h1:a<=255):0<=a.tmod 16/\a.tmod 16<=15:=by rw[Int.tmod_eq_emod_of_nonneg h0];omega
theorem AJI(b:UInt8):0<=((b.toNat:Int)).tdiv 16/\((b.toNat:Int)).tdiv 16<=15:=AJG (by omega) (by have:=EB b;omega)
theorem AJJ(b:UInt8):0<=((b.toNat:Int)).tmod 16/\((b.toNat:Int)).tmod 16<=15:=AJH (by omega) (by have:=EB b;omega)
theorem EH{α:Type}{l:List α}{i:Nat}{d:α}:i<l.length->l.getD i d∈l:=fun h=>by
 rw[A2,A0 h];exact BF h
theorem EI{α:Type}{l:List α}{i:Nat}{a b:α}:a∈l.set i b->a∈l\/a=b:=List.mem_or_eq_of_mem_set
theorem A4E(x:E0×E0)(h:x.1.length<4294967281/\1<=x.2.length):Tot (strings_Split x) (fun r:List E0=>r.length<=x.1.length+2/\∀s∈r,s.length<=x.1.length):=by
 unfold strings_Split HQ;rw[A7 h];refine E2.2 ⟨?_,?_⟩
 ·rw[AO];have h1:=Lib.splitB_length_le ⟨x.2.toArray⟩ 0 (Lib.countB ⟨x.1.toArray⟩ ⟨x.2.toArray⟩) ⟨x.1.toArray⟩;have h2:Lib.countB ⟨x.1.toArray⟩ ⟨x.2.toArray⟩<=x.1.length+1:=Lib.count_le x.1 x.2;omega
 ·intro s hs;obtain⟨b,hb,rfl⟩:=B_.1 hs
  have:∀(k:Nat) (s:ByteArray),∀y∈Lib.splitB ⟨x.2.toArray⟩ 0 k s,y.size<=s.size:=by
   intro k;induction k with
   |zero=>intro s y hy;rw[Lib.splitB_zero,AU]at hy;subst hy;exact AI _
   |succ k ih=>
    intro s y hy;unfold Lib.splitB at hy;split at hy
    ·rw[AU]at hy;subst hy;exact AI _
    ·rcases B7.1 hy with rfl|hy
     ·rw[D0];omega
     ·have:=ih _ y hy;rw[D0]at this;omega
  have:=this _ _ b hb;have e:(⟨x.1.toArray⟩:ByteArray).size=x.1.length:=rfl;rw[e]at this;exact this
theorem A4F(x:List Int)(h:True):Tot (XM x) (fun r:List Int=>r=x):=E2.2 rfl
theorem OY(x:List Int)(h:True):Tot (ME x) (fun r:E0=>r.length=x.length):=E2.2 (EC x)
theorem AJK(x:F5×H7×Bool)(h:x.1.1.length<=1048576/\0<=x.1.2.1/\x.1.2.1<=x.1.1.length/\(x.2.2=true->x.1.2.1<x.1.1.length)/\x.2.1.2.2.2.2.2.length<=1048576):Tot (XZ x) (fun r:F5×H7=>r.1.1=x.1.1/\x.1.2.1<=r.1.2.1/\r.1.2.1<=x.1.1.length/\r.2.1=x.2.1.1/\r.2.2.1=x.2.1.2.1/\r.2.2.2.1=x.2.1.2.2.1/\r.2.2.2.2.1=x.2.1.2.2.2.1/\r.2.2.2.2.2.1=x.2.1.2.2.2.2.1/\r.2.2.2.2.2.2.length<=1099513724929):=by
 obtain⟨r_0,p_3,t97⟩:=x;try dsimp only at h ⊢
 unfold XZ
 repeat' first
  |(with_reducible first|refine E3.2 ⟨fun _=>?_,fun _=>?_⟩|refine E1.2 ?_|refine E2.2 ?_|refine(A4B _ ?_).mono fun _ _=>?_|refine(RG _ ?_).mono fun _ _=>?_)
  |dsimp only
 all_goals grind[ED,EC,EG,EA,E4,EF,EE,EB,EH,EI,AIz]
theorem A4G(x:Unit)(h:True):Tot (Y7 x) (fun r=>r.length=5/\∀z∈r,z.1.length<=20):=⟨_,rfl,rfl,by decide⟩
theorem AJL(x:E0×(List OH)×Int)(h:0<=x.2.2/\x.2.2<=(5:Int)/\x.2.1.length=(5:Int)/\(5:Int)<=281474976710656/\∀z∈x.2.1,z.1.length<=20):Tot (iX x) (fun r:Sum (Unit) (Int)=>match r with| .inl _=>True| .inr r=>0<=r/\r<5/\x.1.length<=20):=by
 refine F4 (R:=fun r:Sum (Unit) (Int)=>match r with| .inl _=>True| .inr r=>0<=r/\r<5/\x.1.length<=20) (fun y:E0×(List OH)×Int=>(0<=y.2.2/\y.2.2<=(5:Int)/\y.2.1.length=(5:Int)/\(5:Int)<=281474976710656/\∀z∈y.2.1,z.1.length<=20)/\y.1=x.1) (fun y:E0×(List OH)×Int=>((5:Int)-y.2.2).toNat) ?_ _ _ (by grind) (by unfold fuel;grind);rintro next ⟨kind_0,t5,t6⟩ h hn
 try dsimp only at h hn
 unfold vW
 repeat' first
  |(with_reducible first|refine E3.2 ⟨fun _=>?_,fun _=>?_⟩|refine E1.2 ?_|refine E2.2 ?_|refine F0.2 ⟨?_,fun _ _=>?_⟩|refine hn _ ?_ ?_)
  |dsimp only
 all_goals grind[ED,EC,EG,EA,E4,EF,EE,EB,EH,EI]
theorem AJM(x:E0)(h:True):Tot (Y8 x) (fun r:Int=>r<5/\(0<=r->x.length<=20)):=by
 unfold Y8
 repeat' first
  |(with_reducible first|refine E1.2 ?_|refine E2.2 ?_|refine(A4G _ ?_).mono fun _ _=>?_|refine(AJL _ ?_).mono fun _ _=>?_)
  |split
  |dsimp only
 all_goals grind[ED,EC,EG,EA,E4,EF,EE,EB,EH,EI]
theorem pA(x:E0)(h:True):Tot (QL x) (fun r:OH×Int=>r.2=0->x.length<=20):=by
 unfold QL
 repeat' first
  |(with_reducible first|refine E3.2 ⟨fun _=>?_,fun _=>?_⟩|refine E1.2 ?_|refine E2.2 ?_|refine F0.2 ⟨?_,fun _ _=>?_⟩|refine(AJM _ ?_).mono fun _ _=>?_|refine(A4G _ ?_).mono fun _ _=>?_)
  |dsimp only
 all_goals grind[ED,EC,EG,EA,E4,EF,EE,EB,EH,EI]
theorem AJN(x:(List E0)×Int×Int)(h:0<=x.2.2/\x.2.2<=x.2.1/\x.2.1=x.1.length/\x.2.1<=281474976710656):Tot (iY x) (fun r:Sum (Unit) (Bool)=>match r with| .inl _=>(∀j:Nat,x.2.2<=j->∀s,x.1[j]?=some s->s.length<=200)| .inr r=>r=true):=by
 refine F4 (R:=fun r:Sum (Unit) (Bool)=>match r with| .inl _=>(∀j:Nat,x.2.2<=j->∀s,x.1[j]?=some s->s.length<=200)| .inr r=>r=true) (fun y:(List E0)×Int×Int=>(0<=y.2.2/\y.2.2<=y.2.1/\y.2.1=y.1.length/\y.2.1<=281474976710656)/\y.1=x.1/\(∀j:Nat,x.2.2<=j->(j:Int)<y.2.2->∀s,y.1[j]?=some s->s.length<=200)/\x.2.2<=y.2.2) (fun y:(List E0)×Int×Int=>(y.2.1-y.2.2).toNat) ?_ _ _ (by grind) (by unfold fuel;grind);rintro next ⟨t15,t16,t17⟩ h hn
 try dsimp only at h hn
 unfold vX
 repeat' first
  |(with_reducible first|refine E3.2 ⟨fun _=>?_,fun _=>?_⟩|refine E1.2 ?_|refine E2.2 ?_|refine F0.2 ⟨?_,fun _ _=>?_⟩|refine hn _ ?_ ?_)
  |dsimp only
 all_goals grind[ED,EC,EG,EA,E4,EF,EE,EB,EH,EI]
end Go.Ev.Pv
namespace Go.Ev.Pv
theorem A4H{α:Type}{l:List α}{P:α->Prop}(h:∀j:Nat,(0:Int)<=j->∀s,l[j]?=some s->P s):∀s∈l,P s:=fun s hs=>let ⟨j,hj⟩:=D3 hs;h j (BI j) s hj
theorem AJO(x:E5×Int×Int)(h:0<=x.2.2/\x.2.2<=x.2.1/\x.2.1=x.1.length/\x.2.1<=281474976710656):Tot (iZ x) (fun r:Sum (Unit) (Bool)=>match r with| .inl _=>(∀j:Nat,x.2.2<=j->∀s,x.1[j]?=some s->s.1.length<=200/\s.2.length<=200)| .inr r=>r=true):=by
 refine F4 (R:=fun r:Sum (Unit) (Bool)=>match r with| .inl _=>(∀j:Nat,x.2.2<=j->∀s,x.1[j]?=some s->s.1.length<=200/\s.2.length<=200)| .inr r=>r=true) (fun y:E5×Int×Int=>(0<=y.2.2/\y.2.2<=y.2.1/\y.2.1=y.1.length/\y.2.1<=281474976710656)/\y.1=x.1/\(∀j:Nat,x.2.2<=j->(j:Int)<y.2.2->∀s,y.1[j]?=some s->s.1.length<=200/\s.2.length<=200)/\x.2.2<=y.2.2) (fun y:E5×Int×Int=>(y.2.1-y.2.2).toNat) ?_ _ _ (by grind) (by unfold fuel;grind);rintro next ⟨t26,t27,t28⟩ h hn
 try dsimp only at h hn
 unfold vY
 repeat' first
  |(with_reducible first|refine E3.2 ⟨fun _=>?_,fun _=>?_⟩|refine E1.2 ?_|refine E2.2 ?_|refine F0.2 ⟨?_,fun _ _=>?_⟩|refine hn _ ?_ ?_)
  |dsimp only
 all_goals grind[ED,EC,EG,EA,E4,EF,EE,EB,EH,EI]
theorem AJP(x:E0×E0×E0×E0×E5×E0)(h:x.2.2.2.2.1.length<=1048576):Tot (Y9 x) (fun r:Bool=>r=false->(x.2.1.length<=200/\x.2.2.1.length<=200/\x.2.2.2.1.length<=200/\x.2.2.2.2.2.length<=200/\x.2.2.2.2.1.length<=10/\∀q∈x.2.2.2.2.1,q.1.length<=200/\q.2.length<=200)):=by
 unfold Y9;dsimp only;refine E1.2 ((AJN _ (by simp)).mono fun r hr=>?_);rcases r with r|r
 ·have hr:=A4H hr;refine E1.2 ((AJO _ (by dsimp only;omega)).mono fun r2 hr2=>?_);rcases r2 with r2|r2
  ·have hr2:=A4H hr2;refine E2.2 fun he=>?_;have he:=AF he;refine⟨hr _ (by simp),hr _ (by simp),hr _ (by simp),hr _ (by simp),by omega,hr2⟩
  ·have hr2:r2=true:=hr2;subst hr2;exact E2.2 fun he=>by cases he
 ·have hr:r=true:=hr;subst hr;exact E2.2 fun he=>by cases he
theorem pB(x:E0)(h:x.length<4294967281):Tot (QN x) (fun r:List E0=>r.length<=x.length+2/\∀s∈r,s.length<=x.length):=by
 unfold QN
 repeat' first
  |(with_reducible first|refine E3.2 ⟨fun _=>?_,fun _=>?_⟩|refine E1.2 ?_|refine E2.2 ?_|refine(A4E _ ?_).mono fun _ _=>?_)
  |dsimp only
 all_goals grind[ED,EC,EG,EA,E4,EF,EE,EB,EH,EI]
theorem AJQ(x:Bool×(List E0)×Int×Int)(h:0<=x.2.2.2/\x.2.2.2<=x.2.2.1/\x.2.2.1=x.2.1.length/\x.2.2.1<=281474976710656):Tot (i_ x) (fun r:Sum (Unit) (Bool)=>True):=by
 refine F4 (R:=fun r:Sum (Unit) (Bool)=>True) (fun y:Bool×(List E0)×Int×Int=>(0<=y.2.2.2/\y.2.2.2<=y.2.2.1/\y.2.2.1=y.2.1.length/\y.2.2.1<=281474976710656)) (fun y:Bool×(List E0)×Int×Int=>(y.2.2.1-y.2.2.2).toNat) ?_ _ _ (by grind) (by unfold fuel;grind);rintro next ⟨dots_1,t7,t8,t9⟩ h hn
 try dsimp only at h hn
 unfold vZ
 repeat' first
  |(with_reducible first|refine E3.2 ⟨fun _=>?_,fun _=>?_⟩|refine E1.2 ?_|refine E2.2 ?_|refine F0.2 ⟨?_,fun _ _=>?_⟩|refine hn _ ?_ ?_)
  |dsimp only
 all_goals grind[ED,EC,EG,EA,E4,EF,EE,EB,EH,EI]
theorem A4I(x:(List E0)×Bool)(h:x.1.length<=1048576):Tot (TP x) (fun r:Bool=>True):=by
 obtain⟨l_0,dots_1⟩:=x;try dsimp only at h ⊢
 unfold TP
 repeat' first
  |(with_reducible first|refine E1.2 ?_|refine E2.2 ?_|refine(AJQ _ ?_).mono fun _ _=>?_)
  |split
  |dsimp only
 all_goals grind[ED,EC,EG,EA,E4,EF,EE,EB,EH,EI]
theorem AJR(x:E0×Int×Int)(h:0<=x.2.2/\x.2.2<=x.2.1/\x.2.1=x.1.length/\x.2.1<=281474976710656):Tot (j0 x) (fun r:Sum (Unit) (Bool)=>True):=by
 refine F4 (R:=fun r:Sum (Unit) (Bool)=>True) (fun y:E0×Int×Int=>(0<=y.2.2/\y.2.2<=y.2.1/\y.2.1=y.1.length/\y.2.1<=281474976710656)) (fun y:E0×Int×Int=>(y.2.1-y.2.2).toNat) ?_ _ _ (by grind) (by unfold fuel;grind);rintro next ⟨s_0,t5,t6⟩ h hn
 try dsimp only at h hn
 unfold v_
 repeat' first
  |(with_reducible first|refine E3.2 ⟨fun _=>?_,fun _=>?_⟩|refine E1.2 ?_|refine E2.2 ?_|refine F0.2 ⟨?_,fun _ _=>?_⟩|refine(A4C _ ?_).mono fun _ _=>?_|refine hn _ ?_ ?_)
  |dsimp only
 all_goals grind[ED,EC,EG,EA,E4,EF,EE,EB,EH,EI]
theorem AJS(x:E0)(h:x.length<=1048576):Tot (YA x) (fun r:Bool=>True):=by
 unfold YA
 repeat' first
  |(with_reducible first|refine E1.2 ?_|refine E2.2 ?_|refine(AJR _ ?_).mono fun _ _=>?_)
  |split
  |dsimp only
 all_goals grind[ED,EC,EG,EA,E4,EF,EE,EB,EH,EI]
theorem AJT(x:E5×E5×Int×Int)
 (h:0<=x.2.2.2/\x.2.2.2<=x.2.2.1/\x.2.2.1=x.2.1.length/\x.2.2.1<=281474976710656/\x.1.length=x.2.1.length/\∀q∈x.2.1,q.1.length<=1048576):Tot (j5 x) (fun r=>True):=by
 refine F4 (fun x:E5×E5×Int×Int=>0<=x.2.2.2/\x.2.2.2<=x.2.2.1/\x.2.2.1=x.2.1.length/\x.2.2.1<=281474976710656/\x.1.length=x.2.1.length/\∀q∈x.2.1,q.1.length<=1048576)
  (fun x=>(x.2.2.1-x.2.2.2).toNat) ?_ _ _ h (by unfold fuel;omega)
 rintro next ⟨l_0,t5,t6,t7⟩ h hn
 dsimp only at h hn;obtain⟨h1,h2,h3,h4,h5,h6⟩:=h;unfold w4;dsimp only;refine E3.2 ⟨fun hc=>?_,fun _=>E2.2 trivial⟩;have hc:=A6 hc;refine E1.2 (F0.2 ⟨⟨by omega,by omega⟩,fun y hy=>?_⟩);refine E1.2 ((AJS _ (h6 _ (B0 hy))).mono fun r _=>?_);refine E3.2 ⟨fun _=>E2.2 trivial,fun _=>?_⟩;refine E3.2 ⟨fun _=>E2.2 trivial,fun _=>?_⟩;refine E1.2 (Tot.mono (P:=fun _=>True) ?_ fun y3 _=>?_)
 ·refine E3.2 ⟨fun hd=>?_,fun _=>E2.2 trivial⟩;have hd:=A6 hd;rw[EY (by omega) (by omega)];exact F0.2 ⟨⟨by omega,by omega⟩,fun _ _=>trivial⟩
 ·refine E3.2 ⟨fun _=>E2.2 trivial,fun _=>?_⟩;rw[EY (n:=t7+1) (by omega) (by omega)];exact hn _ ⟨by dsimp only;omega,by dsimp only;omega,h3,h4,h5,h6⟩ (by dsimp only;omega)
theorem AJU(x:List (E0×E0))(h:x.length<=1048576/\∀q∈x,q.1.length<=1048576):Tot (YB x) (fun r:Int=>True):=by
 unfold YB
 repeat' first
  |(with_reducible first|refine E1.2 ?_|refine E2.2 ?_|refine(AJT _ ?_).mono fun _ _=>?_)
  |split
  |dsimp only
 all_goals grind[ED,EC,EG,EA,E4,EF,EE,EB,EH,EI]
theorem AJV(x:E0×Int×Int)(h:0<=x.2.2/\x.2.2<=x.2.1/\x.2.1=x.1.length/\x.2.1<=281474976710656):Tot (j6 x) (fun r:Sum (Unit) (Bool)=>True):=by
 refine F4 (R:=fun r:Sum (Unit) (Bool)=>True) (fun y:E0×Int×Int=>(0<=y.2.2/\y.2.2<=y.2.1/\y.2.1=y.1.length/\y.2.1<=281474976710656)) (fun y:E0×Int×Int=>(y.2.1-y.2.2).toNat) ?_ _ _ (by grind) (by unfold fuel;grind);rintro next ⟨s_0,t5,t6⟩ h hn
 try dsimp only at h hn
 unfold w5
 repeat' first
  |(with_reducible first|refine E3.2 ⟨fun _=>?_,fun _=>?_⟩|refine E1.2 ?_|refine E2.2 ?_|refine F0.2 ⟨?_,fun _ _=>?_⟩|refine hn _ ?_ ?_)
  |dsimp only
 all_goals grind[ED,EC,EG,EA,E4,EF,EE,EB,EH,EI]
theorem A4J(x:E0)(h:x.length<=1048576):Tot (TQ x) (fun r:Bool=>True):=by
 unfold TQ
 repeat' first
  |(with_reducible first|refine E1.2 ?_|refine E2.2 ?_|refine(AJV _ ?_).mono fun _ _=>?_)
  |split
  |dsimp only
 all_goals grind[ED,EC,EG,EA,E4,EF,EE,EB,EH,EI]
theorem AJW(x:(List E0)×Int×Int)(h:0<=x.2.2/\x.2.2<=x.2.1/\x.2.1=x.1.length/\x.2.1<=281474976710656/\∀z∈x.1,z.length<=1048576):Tot (j7 x) (fun r:Sum (Unit) (Int)=>∀z,r=.inr z->z=8):=by
 refine F4 (R:=fun r:Sum (Unit) (Int)=>∀z,r=.inr z->z=8) (fun y:(List E0)×Int×Int=>(0<=y.2.2/\y.2.2<=y.2.1/\y.2.1=y.1.length/\y.2.1<=281474976710656/\∀z∈y.1,z.length<=1048576)) (fun y:(List E0)×Int×Int=>(y.2.1-y.2.2).toNat) ?_ _ _ (by grind) (by unfold fuel;grind);rintro next ⟨t75,t76,t77⟩ h hn
 try dsimp only at h hn
 unfold w6
 repeat' first
  |(with_reducible first|refine E3.2 ⟨fun _=>?_,fun _=>?_⟩|refine E1.2 ?_|refine E2.2 ?_|refine F0.2 ⟨?_,fun _ _=>?_⟩|refine(A4J _ ?_).mono fun _ _=>?_|refine hn _ ?_ ?_)
  |dsimp only
 all_goals grind[ED,EC,EG,EA,E4,EF,EE,EB,EH,EI]
theorem AJX(x:E5×Int×Int)(h:0<=x.2.2/\x.2.2<=x.2.1/\x.2.1=x.1.length/\x.2.1<=281474976710656/\∀z∈x.1,z.2.length<=1048576):Tot (j8 x) (fun r:Sum (Unit) (Int)=>∀z,r=.inr z->z=8):=by
 refine F4 (R:=fun r:Sum (Unit) (Int)=>∀z,r=.inr z->z=8) (fun y:E5×Int×Int=>(0<=y.2.2/\y.2.2<=y.2.1/\y.2.1=y.1.length/\y.2.1<=281474976710656/\∀z∈y.1,z.2.length<=1048576)) (fun y:E5×Int×Int=>(y.2.1-y.2.2).toNat) ?_ _ _ (by grind) (by unfold fuel;grind);rintro next ⟨t85,t86,t87⟩ h hn
 try dsimp only at h hn
 unfold w7
 repeat' first
  |(with_reducible first|refine E3.2 ⟨fun _=>?_,fun _=>?_⟩|refine E1.2 ?_|refine E2.2 ?_|refine F0.2 ⟨?_,fun _ _=>?_⟩|refine(A4J _ ?_).mono fun _ _=>?_|refine hn _ ?_ ?_)
  |dsimp only
 all_goals grind[ED,EC,EG,EA,E4,EF,EE,EB,EH,EI]
end Go.Ev.Pv
namespace Go.Ev.Pv
theorem A4K(x:Int)(h:True):Tot (TT x) (fun r:Bool=>True):=by
 unfold TT
 repeat' first
  |with_reducible refine E2.2 ?_
  |dsimp only
 all_goals grind[ED,EC,EG,EA,E4,EF,EE,EB,EH,EI]
theorem UY(x:(List Int)×Int)(h:x.1.length<=1048576000):Tot (LZ x) (fun r:Unit×(List Int)=>r.2.length=x.1.length+1):=by
 obtain⟨b_0,c_1⟩:=x;try dsimp only at h ⊢
 unfold LZ
 repeat' first
  |(with_reducible first|refine E1.2 ?_|refine E2.2 ?_|refine GH.2 ⟨?_,?_⟩|refine(A4F _ ?_).mono fun _ _=>?_)
  |dsimp only
 all_goals grind[ED,EC,EG,EA,E4,EF,EE,EB,EH,EI]
theorem UZ(x:(List Int)×E0)(h:x.1.length<=1048576000/\x.2.length<=1048576000):Tot (NK x) (fun r:Int×Unit×(List Int)=>r.2.2.length=x.1.length+x.2.length):=by
 obtain⟨b_0,s_1⟩:=x;try dsimp only at h ⊢
 unfold NK
 repeat' first
  |(with_reducible first|refine E1.2 ?_|refine E2.2 ?_|refine GH.2 ⟨?_,?_⟩|refine(A4F _ ?_).mono fun _ _=>?_)
  |dsimp only
 all_goals grind[ED,EC,EG,EA,E4,EF,EE,EB,EH,EI]
theorem AJY(x:E0×(List Int)×Int×Int)(h:0<=x.2.2.2/\x.2.2.2<=x.2.2.1/\x.2.2.1=x.1.length/\x.2.1.length<=x.2.2.2/\x.1.length<=1048576):Tot (j9 x) (fun r:List Int=>r.length<=x.1.length):=by
 refine F4 (R:=fun r:List Int=>r.length<=x.1.length) (fun y:E0×(List Int)×Int×Int=>y.1=x.1/\0<=y.2.2.2/\y.2.2.2<=y.2.2.1/\y.2.2.1=y.1.length/\y.2.1.length<=y.2.2.2/\y.1.length<=1048576)
  (fun y=>(y.2.2.1-y.2.2.2).toNat) ?_ _ _ ⟨rfl,h⟩ (by unfold fuel;omega)
 rintro next ⟨s_0,b_3,t6,t7⟩ h hn
 dsimp only at h hn;obtain⟨h0,h1,h2,h3,h4,h5⟩:=h;unfold w8;dsimp only;refine E3.2 ⟨fun hc=>?_,fun hc=>E2.2 ?_⟩
 ·have hc:=A6 hc;have hw:i64.wrap (t7+1)=t7+1:=EY (by omega) (by omega);rw[hw];refine E1.2 (F0.2 ⟨⟨h1,by omega⟩,fun b _=>?_⟩);refine E1.2 ((A4K _ trivial).mono fun r _=>?_);refine E3.2 ⟨fun _=>?_,fun _=>?_⟩
  ·refine E1.2 (F0.2 ⟨⟨h1,by omega⟩,fun b2 _=>?_⟩);refine E1.2 ((UY _ (by dsimp only;omega)).mono fun r2 hr=>?_);dsimp only at hr;exact hn _ ⟨h0,by dsimp only;omega,by dsimp only;omega,h3,by dsimp only;omega,h5⟩ (by dsimp only;omega)
  ·refine E1.2 (Tot.mono (P:=fun _=>True) ?_ fun b5 _=>?_)
   ·refine E3.2 ⟨fun hd=>?_,fun _=>E2.2 trivial⟩
    have hd:t7≠0:=by
     rw[E4]at hd;simpa using hd
    rw[EY (by omega) (by omega)];exact F0.2 ⟨⟨by omega,by omega⟩,fun _ _=>trivial⟩
   ·refine E1.2 (Tot.mono (P:=fun _=>True) ?_ fun r6 _=>?_)
    ·exact E3.2 ⟨fun _=>(A4K _ trivial).mono fun _ _=>trivial,fun _=>E2.2 trivial⟩
    ·refine E3.2 ⟨fun _=>?_,fun _=>?_⟩
     ·refine E1.2 ((UY _ (by dsimp only;omega)).mono fun r7 hr=>?_);dsimp only at hr;exact hn _ ⟨h0,by dsimp only;omega,by dsimp only;omega,h3,by dsimp only;omega,h5⟩ (by dsimp only;omega)
     ·exact hn _ ⟨h0,by dsimp only;omega,by dsimp only;omega,h3,by dsimp only;omega,h5⟩ (by dsimp only;omega)
 ·have hc:=AF hc;rw[<-h0];omega
theorem AJZ(x:E0)(h:x.length<=1048576):Tot (YC x) (fun r:E0=>r.length<=x.length):=by
 unfold YC
 repeat' first
  |(with_reducible first|refine E1.2 ?_|refine E2.2 ?_|refine(AJY _ ?_).mono fun _ _=>?_|refine(OY _ ?_).mono fun _ _=>?_)
  |dsimp only
 all_goals grind[ED,EC,EG,EA,E4,EF,EE,EB,EH,EI]
theorem AJ_(x:J0×Bool)(h:x.1.2.1.length<=1048576/\x.1.2.2.1.length<=1048576):Tot (YD x) (fun r:E0×E0×E0×E0×E5×E0=>r.1=x.1.1/\r.2.1.length=x.1.2.1.length/\r.2.2.1.length=x.1.2.2.1.length/\r.2.2.2=x.1.2.2.2):=by
 obtain⟨p_1,t12⟩:=x;try dsimp only at h ⊢
 unfold YD
 repeat' first
  |(with_reducible first|refine E3.2 ⟨fun _=>?_,fun _=>?_⟩|refine E1.2 ?_|refine E2.2 ?_|refine(oZ _ ?_).mono fun _ _=>?_)
  |dsimp only
 all_goals grind[ED,EC,EG,EA,E4,EF,EE,EB,EH,EI]
end Go.Ev.Pv
namespace Go.Ev.Pv
theorem A4L{α:Type}{a b:List α}{Q:List α->Prop}(h1:a.length+b.length<=1099511627776)(h2:Q (a++b)):Tot (app? 48 a b) Q:=GH.2 ⟨by omega,h2⟩
theorem A4M(x:E0×E0×E0×E0×E5×E0)(h:x.1.length<=20/\x.2.1.length<=200/\x.2.2.1.length<=200/\x.2.2.2.1.length<=200/\x.2.2.2.2.2.length<=200/\x.2.2.2.2.1.length<=10/\(∀q∈x.2.2.2.2.1,q.1.length<=200/\q.2.length<=200)):Tot (TU x) (fun r:E0×E0×E0×E0×E5×E0=>r.1.length<=20/\r.2.1.length<=200/\r.2.2.1.length<=200/\r.2.2.2.1.length<=200/\r.2.2.2.2.2.length<=200/\r.2.2.2.2.1.length<=10/\(∀q∈r.2.2.2.2.1,q.1.length<=200/\q.2.length<=200)):=by
 obtain⟨g1,g2,g3,g4,g5,g6,g7⟩:=h;unfold TU;try dsimp only
 refine E1.2 ((pA _ trivial).mono fun r1 _=>?_);refine E1.2 ((AJ_ _ ⟨by dsimp only;omega,by dsimp only;omega⟩).mono fun r4 hr=>?_);try dsimp only at hr
 obtain⟨e1,e2,e3,e4⟩:=hr;have k1:r4.1.length<=20:=by rw[e1];exact g1
 have k4:r4.2.2.2.1.length<=200:=by rw[e4];exact g4
 have k5:r4.2.2.2.2.1.length<=10:=by rw[e4];exact g6
 have k6:r4.2.2.2.2.2.length<=200:=by rw[e4];exact g5
 have k7:∀q∈r4.2.2.2.2.1,q.1.length<=200/\q.2.length<=200:=by rw[e4];exact g7
 refine E3.2 ⟨fun _=>?_,fun _=>?_⟩
 ·refine E1.2 ((AJZ _ (by omega)).mono fun r5 h5=>?_);refine E1.2 (A4L (by simp;omega) ?_);exact E2.2 ⟨k1,by dsimp only;omega,by dsimp only;omega,k4,k6,by simpa using k5,by simpa using k7⟩
 ·refine E1.2 (A4L (by simp;omega) ?_);exact E2.2 ⟨k1,by dsimp only;omega,by dsimp only;omega,k4,k6,by simpa using k5,by simpa using k7⟩
theorem A4N(x:E0×E0×E0×E0×E5×E0)(h:x.2.2.2.2.1.length<=1048576):Tot (TR x) (fun r:Int=>r=0->(x.1.length<=20/\x.2.1.length<=200/\x.2.2.1.length<=200/\x.2.2.2.1.length<=200/\x.2.2.2.2.2.length<=200/\x.2.2.2.2.1.length<=10/\(∀q∈x.2.2.2.2.1,q.1.length<=200/\q.2.length<=200))):=by
 unfold TR;try dsimp only
 refine E1.2 ((pA _ trivial).mono fun r1 h1=>?_);refine E3.2 ⟨fun hc=>E2.2 fun he=>?_,fun hc=>?_⟩
 ·rw[E4,he]at hc;simp at hc
 have g1:x.1.length<=20:=h1 (by rw[E4]at hc;simpa using hc);refine E1.2 ((AJP _ h).mono fun r2 h2=>?_);refine E3.2 ⟨fun _=>E2.2 fun he=>absurd he (by decide),fun hc2=>?_⟩;obtain⟨a1,a2,a3,a4,a5,a6⟩:=h2 hc2;refine E3.2 ⟨fun _=>E2.2 fun he=>absurd he (by decide),fun _=>?_⟩;refine E1.2 ((pB _ (by omega)).mono fun r5 h5=>?_);refine E1.2 ((A4I _ (by(try dsimp only);omega)).mono fun r6 _=>?_);refine E3.2 ⟨fun _=>E2.2 fun he=>absurd he (by decide),fun _=>?_⟩;refine E1.2 (Tot.mono (P:=fun _=>True) (E3.2 ⟨fun _=>(OX _ (by(try dsimp only);omega)).mono fun _ _=>trivial,fun _=>E2.2 trivial⟩) fun r7 _=>?_);refine E3.2 ⟨fun _=>E2.2 fun he=>absurd he (by decide),fun _=>?_⟩;refine E1.2 ((AJU _ ⟨by omega,fun q hq=>by have:=a6 q hq;omega⟩).mono fun r9 _=>?_);refine E3.2 ⟨fun hc=>E2.2 fun he=>?_,fun _=>?_⟩
 ·rw[E4,he]at hc;simp at hc
 refine E1.2 ((pB _ (by omega)).mono fun r10 h10=>?_);refine E1.2 ((A4I _ (by(try dsimp only);omega)).mono fun r11 _=>?_);refine E3.2 ⟨fun _=>E2.2 fun he=>absurd he (by decide),fun _=>?_⟩;refine E1.2 ((AJW _ ⟨B6 _,by simp,rfl,by simp,fun z hz=>?_⟩).mono fun r15 h15=>?_)
 ·simp only[B7,List.not_mem_nil,or_false]at hz;rcases hz with rfl|rfl|rfl|rfl<;>omega
 rcases r15 with r15|r15
 ·refine E1.2 ((AJX _ ⟨B6 _,BI _,rfl,(by show((x.2.2.2.2.1.length:Nat):Int)<=281474976710656;omega),fun z hz=>by have:=a6 z hz;omega⟩).mono fun r19 h19=>?_);rcases r19 with r19|r19
  ·exact E2.2 fun _=>⟨g1,a1,a2,a3,a4,a5,a6⟩
  ·exact E2.2 fun he=>by have:=h19 _ rfl;omega
 ·exact E2.2 fun he=>by have:=h15 _ rfl;omega
end Go.Ev.Pv
namespace Go.Ev.Pv
theorem A4O{q:Int}{Q:E0->Prop}(l:E0)(hl:l.length=16)(h0:0<=q)(h1:q<=15)(h:∀s:E0,s.length=1->Q s):Tot (cut? l q (u8.wrap (q+1))) Q:=by
 rw[oX (by omega) (by omega)];refine HG.2 ⟨⟨h0,by omega,by omega⟩,h _ ?_⟩;rw[C5,B2];omega
theorem AJa(x:E0×(List Int)×Int×Int)(h:0<=x.2.2.2/\x.2.2.2<=x.2.2.1/\x.2.2.1=x.1.length/\x.2.1.length<=3*x.2.2.2/\x.1.length<=1048576):Tot (jB x) (fun r:List Int=>r.length<=3*x.1.length):=by
 refine F4 (R:=fun r:List Int=>r.length<=3*x.1.length) (fun y:E0×(List Int)×Int×Int=>y.1=x.1/\0<=y.2.2.2/\y.2.2.2<=y.2.2.1/\y.2.2.1=y.1.length/\y.2.1.length<=3*y.2.2.2/\y.1.length<=1048576)
  (fun y=>(y.2.2.1-y.2.2.2).toNat) ?_ _ _ ⟨rfl,h⟩ (by unfold fuel;omega)
 rintro next ⟨s_0,b_3,t7,t8⟩ h hn
 dsimp only at h hn;obtain⟨h0,h1,h2,h3,h4,h5⟩:=h;unfold wA;dsimp only;refine E3.2 ⟨fun hc=>?_,fun hc=>E2.2 ?_⟩
 ·have hc:=A6 hc;have hw:i64.wrap (t8+1)=t8+1:=EY (by omega) (by omega);rw[hw];refine E1.2 (F0.2 ⟨⟨h1,by omega⟩,fun b _=>?_⟩);refine E1.2 ((A4A _ trivial).mono fun r _=>?_);refine E1.2 (Tot.mono (P:=fun _=>True) (E3.2 ⟨fun _=>(OX _ (by show 4<=1048576;decide)).mono fun _ _=>trivial,fun _=>E2.2 trivial⟩) fun r4 _=>?_);refine E3.2 ⟨fun _=>?_,fun _=>?_⟩
  ·refine E1.2 ((UY _ (by dsimp only;omega)).mono fun r5 hr=>?_);dsimp only at hr;exact hn _ ⟨h0,by dsimp only;omega,by dsimp only;omega,h3,by dsimp only;omega,h5⟩ (by dsimp only;omega)
  ·obtain⟨d1,d2⟩:=AJI b;obtain⟨m1,m2⟩:=AJJ b;have hq:u8.wrap ((b.toNat:Int).tdiv 16)=(b.toNat:Int).tdiv 16:=oX d1 (by omega);refine E1.2 (o_.2 ⟨by decide,?_⟩);refine E1.2 (o_.2 ⟨by decide,?_⟩);rw[hq];refine E1.2 (A4O _ rfl d1 d2 fun s8 e8=>?_);refine E1.2 (FT.2 ⟨by simp[e8],?_⟩);refine E1.2 (A4D.2 ⟨by decide,?_⟩);refine E1.2 (A4D.2 ⟨by decide,?_⟩);refine E1.2 (A4O _ rfl m1 m2 fun s12 e12=>?_);refine E1.2 (FT.2 ⟨by simp[e8,e12],?_⟩);have e13:([37]++s8++s12:E0).length=3:=by simp[e8,e12]
   refine E1.2 ((UZ _ ⟨by dsimp only;omega,by rw[e13];decide⟩).mono fun r14 hr=>?_);rw[e13]at hr;dsimp only at hr;exact hn _ ⟨h0,by dsimp only;omega,by dsimp only;omega,h3,by dsimp only;omega,h5⟩ (by dsimp only;omega)
 ·have hc:=AF hc;rw[<-h0];omega
theorem pC(x:E0)(h:x.length<=1048576):Tot (QO x) (fun r:E0=>r.length<=3*x.length):=by
 unfold QO
 repeat' first
  |(with_reducible first|refine E1.2 ?_|refine E2.2 ?_|refine(AJa _ ?_).mono fun _ _=>?_|refine(OY _ ?_).mono fun _ _=>?_)
  |dsimp only
 all_goals grind[ED,EC,EG,EA,E4,EF,EE,EB,EH,EI]
end Go.Ev.Pv
namespace Go.Ev.Pv
theorem AJb(x:(List E0)×(List E0)×Int×Int)(h:0<=x.2.2.2/\x.2.2.2<=x.2.2.1/\x.2.2.1=x.2.1.length/\x.2.2.1<=202/\x.1.length<=x.2.2.2/\(∀z∈x.2.1,z.length<=200)/\(∀z∈x.1,z.length<=600)):
 Tot (jC x) (fun r:List E0=>r.length<=202/\∀z∈r,z.length<=600):=by
 refine F4 (R:=fun r:List E0=>r.length<=202/\∀z∈r,z.length<=600) (fun x:(List E0)×(List E0)×Int×Int=>0<=x.2.2.2/\x.2.2.2<=x.2.2.1/\x.2.2.1=x.2.1.length/\x.2.2.1<=202/\x.1.length<=x.2.2.2/\(∀z∈x.2.1,z.length<=200)/\(∀z∈x.1,z.length<=600))
  (fun y=>(y.2.2.1-y.2.2.2).toNat) ?_ _ _ h (by unfold fuel;omega)
 rintro next ⟨l_3,t7,t8,t9⟩ h hn
 dsimp only at h hn;obtain⟨h1,h2,h3,h4,h5,h6,h7⟩:=h;unfold wB;dsimp only;refine E3.2 ⟨fun hc=>?_,fun hc=>E2.2 ⟨by omega,h7⟩⟩;have hc:=A6 hc;have hw:i64.wrap (t9+1)=t9+1:=EY (by omega) (by omega);rw[hw];refine E1.2 (F0.2 ⟨⟨h1,by omega⟩,fun y2 hy=>?_⟩);have hy:=h6 _ (B0 hy);refine E1.2 ((pC _ (by omega)).mono fun r3 hr=>?_);refine E1.2 (GH.2 ⟨by simp;omega,?_⟩);refine hn _ ⟨by dsimp only;omega,by dsimp only;omega,h3,h4,by simp;omega,h6,fun z hz=>?_⟩ (by dsimp only;omega);rcases AP.1 hz with hz|hz
 ·exact h7 z hz
 ·rw[AU]at hz;subst hz;omega
theorem AJc(x:E0)(h:x.length<=200):Tot (YE x) (fun r:E0=>r.length<=121402):=by
 unfold YE;refine E1.2 ((pB _ (by omega)).mono fun r1 h1=>?_);refine E1.2 ((AJb _ ⟨B6 _,BI _,rfl,(by show((r1.length:Nat):Int)<=202;omega),(by simp),(fun z hz=>by have:=h1.2 z hz;omega),(fun z hz=>by cases hz)⟩).mono fun r5 h5=>?_);have hj:=oY [47] 600 r5 h5.2;have hm:r5.length*(600+[(47:UInt8)].length)<=202*(600+1):=Nat.mul_le_mul h5.1 (AI _);refine E1.2 ((RG _ ⟨by have:=h5.1;dsimp only;omega,by dsimp only;omega⟩).mono fun r6 h6=>E2.2 ?_);rw[h6];dsimp only;omega
theorem AJd(x:E0×E0×E0×E0×E5×E0)(h:x.1.length<=20/\x.2.1.length<=200/\x.2.2.1.length<=200/\x.2.2.2.1.length<=200/\x.2.2.2.2.2.length<=200/\x.2.2.2.2.1.length<=10/\(∀q∈x.2.2.2.2.1,q.1.length<=200/\q.2.length<=200)):Tot (YF x) (fun r:E0=>r.length<=200000):=by
 obtain⟨g1,g2,g3,g4,g5,g6,g7⟩:=h;unfold YF;refine E1.2 (FT.2 ⟨by simp;omega,?_⟩);refine E1.2 (FT.2 ⟨by simp;omega,?_⟩);refine E3.2 ⟨fun _=>?_,fun _=>?_⟩
 ·refine E1.2 ((AJc _ g2).mono fun r3 h3=>?_);refine E1.2 (FT.2 ⟨by simp;omega,?_⟩);refine E1.2 (FT.2 ⟨by simp;omega,?_⟩);refine E1.2 ((pC _ (by omega)).mono fun r6 h6=>?_);refine E1.2 (FT.2 ⟨by simp;omega,?_⟩);exact E2.2 (by simp;omega)
 ·refine E1.2 ((pC _ (by omega)).mono fun r6 h6=>?_);refine E1.2 (FT.2 ⟨by simp;omega,?_⟩);exact E2.2 (by simp;omega)
theorem A4P(x:E0×E0×E0×E0×E5×E0)(h:x.2.2.2.2.1.length<=1048576):Tot (TW x) (fun r:E0×Int=>r.1.length<=200000):=by
 unfold TW;refine E1.2 ((A4N _ h).mono fun r1 h1=>?_);refine E3.2 ⟨fun _=>E2.2 (by simp),fun hc=>?_⟩;have h1:=h1 (by rw[E4]at hc;simpa using hc);refine E1.2 ((A4M _ h1).mono fun r2 h2=>?_);exact E1.2 ((AJd _ h2).mono fun r3 h3=>E2.2 h3)
end Go.Ev.Pv
namespace Go.Ev.Pv
theorem AJe(x:E5×Int×G_×Int)(h:(∀p,Tot (x.2.2.1 p) fun _=>True)/\0<=x.2.1/\x.2.1<=x.2.2.2/\x.2.2.2<x.1.length/\x.1.length<=1048576):
 Tot (iK x) (fun r:List (E0×E0)=>r.length=x.1.length/\∀q∈r,q∈x.1):=by
 refine F4 (R:=fun r:List (E0×E0)=>r.length=x.1.length/\∀q∈r,q∈x.1) (fun y:E5×Int×G_×Int=>(∀p,Tot (y.2.2.1 p) fun _=>True)/\0<=y.2.1/\y.2.1<=y.2.2.2/\y.2.2.2<y.1.length/\y.1.length<=1048576/\y.1.length=x.1.length/\∀q∈y.1,q∈x.1)
  (fun y=>y.2.2.2.toNat) ?_ _ _ ⟨h.1,h.2.1,h.2.2.1,h.2.2.2.1,h.2.2.2.2,rfl,fun q hq=>hq⟩ (by obtain⟨_,_,_,_,_⟩:=h;unfold fuel;omega)
 rintro next ⟨data_0,a_1,cmp_3,j_9⟩ h hn
 dsimp only at h hn;obtain⟨h0,h1,h2,h3,h4,h5,h6⟩:=h;unfold vK;dsimp only;by_cases hc:a_1<j_9
 ·have hw:i64.wrap (j_9-1)=j_9-1:=EY (by omega) (by omega);simp only[hw,A7 hc,AB,CA];refine E1.2 (FF.2 ⟨⟨by omega,by omega⟩,?_⟩);refine E1.2 (FF.2 ⟨⟨by omega,by omega⟩,?_⟩);refine E1.2 ((h0 _).mono fun r3 _=>?_);refine E3.2 ⟨fun _=>?_,fun _=>E2.2 ⟨h5,h6⟩⟩;refine E1.2 (FF.2 ⟨⟨by omega,by omega⟩,?_⟩);refine E1.2 (FF.2 ⟨⟨by omega,by omega⟩,?_⟩);refine E1.2 (FF.2 ⟨⟨by omega,by omega⟩,?_⟩);refine E1.2 (FF.2 ⟨⟨by omega,by rw[AD];omega⟩,?_⟩);refine hn _ ⟨h0,h1,by dsimp only;omega,by simp only[AD];omega,by simp only[AD];omega,by simp only[AD];omega,fun q hq=>?_⟩ (by dsimp only;omega);rcases EI hq with hq|rfl
  ·rcases EI hq with hq|rfl
   ·exact h6 q hq
   ·exact h6 _ (EH (by omega))
  ·exact h6 _ (EH (by omega))
 ·simp only[AC hc,AE,CJ];refine E1.2 (E2.2 ?_);refine E1.2 (E2.2 ?_);refine E1.2 (E2.2 ?_);exact E2.2 ⟨h5,h6⟩
theorem AJf(x:E5×Int×Int×G_×Int)(h:(∀p,Tot (x.2.2.2.1 p) fun _=>True)/\0<=x.2.1/\x.2.1<=x.2.2.2.2/\x.2.2.1<=x.1.length/\x.2.2.2.2<=1048577/\x.1.length<=1048576):
 Tot (iL x) (fun r:List (E0×E0)=>r.length=x.1.length/\∀q∈r,q∈x.1):=by
 refine F4 (R:=fun r:List (E0×E0)=>r.length=x.1.length/\∀q∈r,q∈x.1) (fun y:E5×Int×Int×G_×Int=>(∀p,Tot (y.2.2.2.1 p) fun _=>True)/\0<=y.2.1/\y.2.1<=y.2.2.2.2/\y.2.2.1<=y.1.length/\y.2.2.2.2<=1048577/\y.1.length<=1048576/\y.1.length=x.1.length/\∀q∈y.1,q∈x.1)
  (fun y=>(y.2.2.1-y.2.2.2.2).toNat) ?_ _ _ ⟨h.1,h.2.1,h.2.2.1,h.2.2.2.1,h.2.2.2.2.1,h.2.2.2.2.2,rfl,fun q hq=>hq⟩ (by obtain⟨_,_,_,_,_,_⟩:=h;unfold fuel;omega)
 rintro next ⟨data_0,a_1,b_2,cmp_3,i_8⟩ h hn
 dsimp only at h hn;obtain⟨h0,h1,h2,h3,h4,h5,h6,h7⟩:=h;unfold vL;dsimp only;refine E3.2 ⟨fun hc=>?_,fun _=>E2.2 ⟨h6,h7⟩⟩;have hc:=A6 hc;have hw:i64.wrap (i_8+1)=i_8+1:=EY (by omega) (by omega);rw[hw];refine E1.2 ((AJe _ ⟨h0,h1,h2,by dsimp only;omega,h5⟩).mono fun r hr=>?_);dsimp only at hr;obtain⟨e1,e2⟩:=hr;exact hn _ ⟨h0,h1,by dsimp only;omega,by dsimp only;omega,by dsimp only;omega,by dsimp only;omega,by dsimp only;omega,fun q hq=>h7 q (e2 q hq)⟩ (by dsimp only;omega)
theorem A4Q(x:E5×Int×Int×G_)(h:(∀p,Tot (x.2.2.2 p) fun _=>True)/\0<=x.2.1/\x.2.1<=1048576/\x.2.2.1<=x.1.length/\x.1.length<=1048576):
 Tot (TN x) (fun r:List (E0×E0)=>r.length=x.1.length/\∀q∈r,q∈x.1):=by
 obtain⟨data_0,a_1,b_2,cmp_3⟩:=x;dsimp only at h;obtain⟨h0,h1,h2,h3,h4⟩:=h;unfold TN;dsimp only;rw[EY (by omega) (by omega)];exact E1.2 ((AJf _ ⟨h0,h1,by dsimp only;omega,h3,by dsimp only;omega,h4⟩).mono fun r hr=>E2.2 hr)
theorem AJg(x:E5×Int×Int×Int×Int)(h:0<=x.2.1/\0<=x.2.2.1/\x.2.1+x.2.2.2.1<=x.1.length/\x.2.2.1+x.2.2.2.1<=x.1.length/\0<=x.2.2.2.2/\x.1.length<=1048576):
 Tot (iM x) (fun r:List (E0×E0)=>r.length=x.1.length/\∀q∈r,q∈x.1):=by
 refine F4 (R:=fun r:List (E0×E0)=>r.length=x.1.length/\∀q∈r,q∈x.1) (fun y:E5×Int×Int×Int×Int=>0<=y.2.1/\0<=y.2.2.1/\y.2.1+y.2.2.2.1<=y.1.length/\y.2.2.1+y.2.2.2.1<=y.1.length/\0<=y.2.2.2.2/\y.1.length<=1048576/\y.1.length=x.1.length/\∀q∈y.1,q∈x.1)
  (fun y=>(y.2.2.2.1-y.2.2.2.2).toNat) ?_ _ _ ⟨h.1,h.2.1,h.2.2.1,h.2.2.2.1,h.2.2.2.2.1,h.2.2.2.2.2,rfl,fun q hq=>hq⟩ (by obtain⟨_,_,_,_,_,_⟩:=h;unfold fuel;omega)
 rintro next ⟨data_0,a_1,b_2,n_3,i_10⟩ h hn
 dsimp only at h hn;obtain⟨h1,h2,h3,h4,h5,h6,h7,h8⟩:=h;unfold vM;dsimp only;refine E3.2 ⟨fun hc=>?_,fun _=>E2.2 ⟨h7,h8⟩⟩;have hc:=A6 hc;have hw1:i64.wrap (a_1+i_10)=a_1+i_10:=EY (by omega) (by omega);have hw2:i64.wrap (b_2+i_10)=b_2+i_10:=EY (by omega) (by omega);have hw3:i64.wrap (i_10+1)=i_10+1:=EY (by omega) (by omega);rw[hw1,hw2,hw3];refine E1.2 (FF.2 ⟨⟨by omega,by omega⟩,?_⟩);refine E1.2 (FF.2 ⟨⟨by omega,by omega⟩,?_⟩);refine E1.2 (FF.2 ⟨⟨by omega,by omega⟩,?_⟩);refine E1.2 (FF.2 ⟨⟨by omega,by rw[AD];omega⟩,?_⟩);refine hn _ ⟨h1,h2,by simp only[AD];omega,by simp only[AD];omega,by dsimp only;omega,by simp only[AD];omega,by simp only[AD];omega,fun q hq=>?_⟩ (by dsimp only;omega);rcases EI hq with hq|rfl
 ·rcases EI hq with hq|rfl
  ·exact h8 q hq
  ·exact h8 _ (EH (by omega))
 ·exact h8 _ (EH (by omega))
end Go.Ev.Pv
namespace Go.Ev.Pv
theorem pD(x:E5×Int×Int×Int×G_)(h:0<=x.2.1/\0<=x.2.2.1/\x.2.1+x.2.2.2.1<=x.1.length/\x.2.2.1+x.2.2.2.1<=x.1.length/\x.1.length<=1048576):
 Tot (QJ x) (fun r:List (E0×E0)=>r.length=x.1.length/\∀q∈r,q∈x.1):=by
 obtain⟨data_0,a_1,b_2,n_3,cmp_4⟩:=x;obtain⟨h1,h2,h3,h4,h5⟩:=h;unfold QJ;dsimp only;exact E1.2 ((AJg _ ⟨h1,h2,h3,h4,B6 _,h5⟩).mono fun r hr=>E2.2 hr)
theorem AJh(x:E5×Int×G_×Int×Int)(h:0<x.2.2.2.1/\0<x.2.2.2.2/\x.2.2.2.1<=x.2.1/\x.2.1+x.2.2.2.2<=x.1.length/\x.1.length<=1048576):
 Tot (iN x) (fun r:E5×Int=>r.1.length=x.1.length/\(∀q∈r.1,q∈x.1)/\0<r.2/\r.2<=x.2.1/\x.2.1+r.2<=x.1.length):=by
 refine F4 (R:=fun r:E5×Int=>r.1.length=x.1.length/\(∀q∈r.1,q∈x.1)/\0<r.2/\r.2<=x.2.1/\x.2.1+r.2<=x.1.length) (fun y:E5×Int×G_×Int×Int=>0<y.2.2.2.1/\0<y.2.2.2.2/\y.2.2.2.1<=y.2.1/\y.2.1+y.2.2.2.2<=y.1.length/\y.1.length<=1048576/\y.1.length=x.1.length/\(∀q∈y.1,q∈x.1)/\y.2.1=x.2.1)
  (fun y=>(y.2.2.2.1+y.2.2.2.2).toNat) ?_ _ _ ⟨h.1,h.2.1,h.2.2.1,h.2.2.2.1,h.2.2.2.2,rfl,(fun q hq=>hq),rfl⟩ (by obtain⟨_,_,_,_,_⟩:=h;unfold fuel;omega)
 rintro next ⟨data_0,m_2,cmp_4,i_10,j_11⟩ h hn
 dsimp only at h hn;obtain⟨h1,h2,h3,h4,h5,h6,h7,h8⟩:=h;unfold vN;dsimp only;refine E3.2 ⟨fun hc=>?_,fun hc=>E2.2 ⟨h6,h7,h1,by dsimp only;omega,?_⟩⟩
 ·have hc:i_10≠j_11:=by rw[E4]at hc;simpa using hc
  have hw1:i64.wrap (m_2-i_10)=m_2-i_10:=EY (by omega) (by omega);have hw2:i64.wrap (m_2+j_11)=m_2+j_11:=EY (by omega) (by omega);have hw3:i64.wrap (m_2+j_11-i_10)=m_2+j_11-i_10:=EY (by omega) (by omega);have hw4:i64.wrap (i_10-j_11)=i_10-j_11:=EY (by omega) (by omega);have hw5:i64.wrap (j_11-i_10)=j_11-i_10:=EY (by omega) (by omega);rw[hw1,hw2,hw3,hw4,hw5];refine E3.2 ⟨fun hd=>?_,fun hd=>?_⟩
  ·have hd:=A6 hd;refine E1.2 ((pD _ ⟨by dsimp only;omega,by dsimp only;omega,by dsimp only;omega,by dsimp only;omega,h5⟩).mono fun r hr=>?_);dsimp only at hr;exact hn _ ⟨by dsimp only;omega,h2,by dsimp only;omega,by dsimp only;omega,by dsimp only;omega,by dsimp only;omega,fun q hq=>h7 q (hr.2 q hq),h8⟩ (by dsimp only;omega)
  ·have hd:=AF hd;refine E1.2 ((pD _ ⟨by dsimp only;omega,by dsimp only;omega,by dsimp only;omega,by dsimp only;omega,h5⟩).mono fun r hr=>?_);dsimp only at hr;exact hn _ ⟨h1,by dsimp only;omega,h3,by dsimp only;omega,by dsimp only;omega,by dsimp only;omega,fun q hq=>h7 q (hr.2 q hq),h8⟩ (by dsimp only;omega)
 ·have hc:i_10=j_11:=by rw[E4]at hc;simpa using hc
  omega
theorem AJi(x:E5×Int×Int×Int×G_)(h:0<=x.2.1/\x.2.1<x.2.2.1/\x.2.2.1<x.2.2.2.1/\x.2.2.2.1<=x.1.length/\x.1.length<=1048576):
 Tot (Y0 x) (fun r:List (E0×E0)=>r.length=x.1.length/\∀q∈r,q∈x.1):=by
 obtain⟨data_0,a_1,m_2,b_3,cmp_4⟩:=x;dsimp only at h;obtain⟨h1,h2,h3,h4,h5⟩:=h;unfold Y0;dsimp only;rw[EY (n:=m_2-a_1) (by omega) (by omega),EY (n:=b_3-m_2) (by omega) (by omega)];refine E1.2 ((AJh _ ⟨by dsimp only;omega,by dsimp only;omega,by dsimp only;omega,by dsimp only;omega,h5⟩).mono fun r hr=>?_);dsimp only at hr;obtain⟨e1,e2,e3,e4,e5⟩:=hr;rw[EY (n:=m_2-r.2) (by omega) (by omega)];refine E1.2 ((pD _ ⟨by dsimp only;omega,by dsimp only;omega,by dsimp only;omega,by dsimp only;omega,by dsimp only;omega⟩).mono fun r4 hr=>E2.2 ?_);dsimp only at hr;exact⟨by omega,fun q hq=>e2 q (hr.2 q hq)⟩
end Go.Ev.Pv
namespace Go.Ev.Pv
theorem NP{i j:Int}{Q:Int->Prop}(h1:0<=i)(h2:0<=j)(h3:i<=4611686018427387903)(h4:j<=4611686018427387903)(h:Q ((i+j) / 2)):Tot (shr? u64 (u64.wrap (i64.wrap (i+j))) (1:Int)) Q:=by
 have e1:i64.wrap (i+j)=i+j:=EY (by omega) (by omega)
 have e2:u64.wrap (i+j)=i+j:=by
  simp only[IntKind.wrap,IntKind.bits,IntKind.signed];simp;omega
 rw[e1,e2]
 have e3:(i+j).fdiv (2 ^ min (1:Int).toNat u64.bits)=(i+j) / 2:=by
  have:(2:Int) ^ min (1:Int).toNat u64.bits=2:=by decide
  rw[this,DO _ (by decide)]
 unfold shr?;rw[e3];exact E2.2 h
theorem AJj(slf:E5×Int×Int×Int×G_->Option E5)(x:E5×Int×G_×Int×Int)(h:(∀p,Tot (x.2.2.1 p) fun _=>True)/\0<=x.2.1/\x.2.1<x.1.length/\0<=x.2.2.2.1/\x.2.2.2.1<=x.2.2.2.2/\x.2.2.2.2<=x.1.length/\x.1.length<=1048576):
 Tot (iO slf x) (fun r:E5×Int=>r.1=x.1/\x.2.2.2.1<=r.2/\r.2<=x.2.2.2.2):=by
 refine F4 (R:=fun r:E5×Int=>r.1=x.1/\x.2.2.2.1<=r.2/\r.2<=x.2.2.2.2) (fun y:E5×Int×G_×Int×Int=>(∀p,Tot (y.2.2.1 p) fun _=>True)/\0<=y.2.1/\y.2.1<y.1.length/\0<=y.2.2.2.1/\y.2.2.2.1<=y.2.2.2.2/\y.2.2.2.2<=y.1.length/\y.1.length<=1048576/\y.1=x.1/\x.2.2.2.1<=y.2.2.2.1/\y.2.2.2.2<=x.2.2.2.2)
  (fun y=>(y.2.2.2.2-y.2.2.2.1).toNat) ?_ _ _ ⟨h.1,h.2.1,h.2.2.1,h.2.2.2.1,h.2.2.2.2.1,h.2.2.2.2.2.1,h.2.2.2.2.2.2,rfl,B6 _,B6 _⟩ (by obtain⟨_,_,_,_,_,_,_⟩:=h;unfold fuel;omega)
 rintro next ⟨data_0,a_1,cmp_4,i_10,j_11⟩ h hn
 dsimp only at h hn;obtain⟨h0,h1,h2,h3,h4,h5,h6,h7,h8,h9⟩:=h;unfold vO;dsimp only;refine E3.2 ⟨fun hc=>?_,fun hc=>E2.2 ⟨h7,h8,by dsimp only;omega⟩⟩;have hc:=A6 hc;refine E1.2 (NP (by omega) (by omega) (by omega) (by omega) ?_);have hw1:i64.wrap ((i_10+j_11) / 2)=(i_10+j_11) / 2:=EY (by omega) (by omega);have hw2:i64.wrap ((i_10+j_11) / 2+1)=(i_10+j_11) / 2+1:=EY (by omega) (by omega);rw[hw1,hw2];refine E1.2 (FF.2 ⟨⟨by omega,by omega⟩,?_⟩);refine E1.2 (FF.2 ⟨⟨by omega,by omega⟩,?_⟩);refine E1.2 ((h0 _).mono fun r4 _=>?_);refine E3.2 ⟨fun _=>?_,fun _=>?_⟩
 ·exact hn _ ⟨h0,h1,h2,by dsimp only;omega,by dsimp only;omega,h5,h6,h7,by dsimp only;omega,h9⟩ (by dsimp only;omega)
 ·exact hn _ ⟨h0,h1,h2,h3,by dsimp only;omega,by dsimp only;omega,h6,h7,h8,by dsimp only;omega⟩ (by dsimp only;omega)
end Go.Ev.Pv
namespace Go.Ev.Pv
theorem AJk(slf:E5×Int×Int×Int×G_->Option E5)(x:E5×Int×Int)(h:0<=x.2.1/\x.2.1<=x.1.length/\0<=x.2.2/\x.1.length<=1048576):
 Tot (iP slf x) (fun r:List (E0×E0)=>r.length=x.1.length/\∀q∈r,q∈x.1):=by
 refine F4 (R:=fun r:List (E0×E0)=>r.length=x.1.length/\∀q∈r,q∈x.1) (fun y:E5×Int×Int=>0<=y.2.1/\y.2.1<=y.1.length/\0<=y.2.2/\y.1.length<=1048576/\y.1.length=x.1.length/\∀q∈y.1,q∈x.1)
  (fun y=>(y.2.1-y.2.2).toNat) ?_ _ _ ⟨h.1,h.2.1,h.2.2.1,h.2.2.2,rfl,fun q hq=>hq⟩ (by obtain⟨_,_,_,_⟩:=h;unfold fuel;omega)
 rintro next ⟨data_0,i_10,k_13⟩ h hn
 dsimp only at h hn;obtain⟨h1,h2,h3,h4,h5,h6⟩:=h;unfold vP;dsimp only;rw[EY (n:=i_10-1) (by omega) (by omega)];refine E3.2 ⟨fun hc=>?_,fun hc=>E2.2 ⟨h5,h6⟩⟩;have hc:=A6 hc;have hw:i64.wrap (k_13+1)=k_13+1:=EY (by omega) (by omega);rw[hw];refine E1.2 (FF.2 ⟨⟨by omega,by omega⟩,?_⟩);refine E1.2 (FF.2 ⟨⟨by omega,by omega⟩,?_⟩);refine E1.2 (FF.2 ⟨⟨by omega,by omega⟩,?_⟩);refine E1.2 (FF.2 ⟨⟨by omega,by rw[AD];omega⟩,?_⟩);refine hn _ ⟨h1,by simp only[AD];omega,by dsimp only;omega,by simp only[AD];omega,by simp only[AD];omega,fun q hq=>?_⟩ (by dsimp only;omega);rcases EI hq with hq|rfl
 ·rcases EI hq with hq|rfl
  ·exact h6 q hq
  ·exact h6 _ (EH (by omega))
 ·exact h6 _ (EH (by omega))
theorem AJl(slf:E5×Int×Int×Int×G_->Option E5)(x:E5×Int×Int)(h:0<=x.2.1/\x.2.2<x.1.length/\x.1.length<=1048576):
 Tot (iR slf x) (fun r:List (E0×E0)=>r.length=x.1.length/\∀q∈r,q∈x.1):=by
 refine F4 (R:=fun r:List (E0×E0)=>r.length=x.1.length/\∀q∈r,q∈x.1) (fun y:E5×Int×Int=>0<=y.2.1/\y.2.2<y.1.length/\y.1.length<=1048576/\y.1.length=x.1.length/\∀q∈y.1,q∈x.1)
  (fun y=>(y.2.2-y.2.1).toNat) ?_ _ _ ⟨h.1,h.2.1,h.2.2,rfl,fun q hq=>hq⟩ (by obtain⟨_,_,_⟩:=h;unfold fuel;omega)
 rintro next ⟨data_0,i_14,k_17⟩ h hn
 dsimp only at h hn;obtain⟨h1,h2,h4,h5,h6⟩:=h;unfold vR;dsimp only;refine E3.2 ⟨fun hc=>?_,fun hc=>E2.2 ⟨h5,h6⟩⟩;have hc:=A6 hc;have hw:i64.wrap (k_17-1)=k_17-1:=EY (by omega) (by omega);rw[hw];refine E1.2 (FF.2 ⟨⟨by omega,by omega⟩,?_⟩);refine E1.2 (FF.2 ⟨⟨by omega,by omega⟩,?_⟩);refine E1.2 (FF.2 ⟨⟨by omega,by omega⟩,?_⟩);refine E1.2 (FF.2 ⟨⟨by omega,by rw[AD];omega⟩,?_⟩);refine hn _ ⟨h1,by simp only[AD];omega,by simp only[AD];omega,by simp only[AD];omega,fun q hq=>?_⟩ (by dsimp only;omega);rcases EI hq with hq|rfl
 ·rcases EI hq with hq|rfl
  ·exact h6 q hq
  ·exact h6 _ (EH (by omega))
 ·exact h6 _ (EH (by omega))
end Go.Ev.Pv
namespace Go.Ev.Pv
theorem AJm(slf:E5×Int×Int×Int×G_->Option E5)(x:E5×Int×G_×Int×Int)(h:(∀p,Tot (x.2.2.1 p) fun _=>True)/\0<=x.2.1/\x.2.1<x.1.length/\0<=x.2.2.2.1/\x.2.2.2.1<=x.2.2.2.2/\x.2.2.2.2<=x.1.length/\x.1.length<=1048576):
 Tot (iQ slf x) (fun r:E5×Int=>r.1=x.1/\x.2.2.2.1<=r.2/\r.2<=x.2.2.2.2):=by
 refine F4 (R:=fun r:E5×Int=>r.1=x.1/\x.2.2.2.1<=r.2/\r.2<=x.2.2.2.2) (fun y:E5×Int×G_×Int×Int=>(∀p,Tot (y.2.2.1 p) fun _=>True)/\0<=y.2.1/\y.2.1<y.1.length/\0<=y.2.2.2.1/\y.2.2.2.1<=y.2.2.2.2/\y.2.2.2.2<=y.1.length/\y.1.length<=1048576/\y.1=x.1/\x.2.2.2.1<=y.2.2.2.1/\y.2.2.2.2<=x.2.2.2.2)
  (fun y=>(y.2.2.2.2-y.2.2.2.1).toNat) ?_ _ _ ⟨h.1,h.2.1,h.2.2.1,h.2.2.2.1,h.2.2.2.2.1,h.2.2.2.2.2.1,h.2.2.2.2.2.2,rfl,B6 _,B6 _⟩ (by obtain⟨_,_,_,_,_,_,_⟩:=h;unfold fuel;omega)
 rintro next ⟨data_0,m_2,cmp_4,i_14,j_15⟩ h hn
 dsimp only at h hn;obtain⟨h0,h1,h2,h3,h4,h5,h6,h7,h8,h9⟩:=h;unfold vQ;dsimp only;refine E3.2 ⟨fun hc=>?_,fun hc=>E2.2 ⟨h7,h8,by dsimp only;omega⟩⟩;have hc:=A6 hc;refine E1.2 (NP (by omega) (by omega) (by omega) (by omega) ?_);have hw1:i64.wrap ((i_14+j_15) / 2)=(i_14+j_15) / 2:=EY (by omega) (by omega);have hw2:i64.wrap ((i_14+j_15) / 2+1)=(i_14+j_15) / 2+1:=EY (by omega) (by omega);rw[hw1,hw2];refine E1.2 (FF.2 ⟨⟨by omega,by omega⟩,?_⟩);refine E1.2 (FF.2 ⟨⟨by omega,by omega⟩,?_⟩);refine E1.2 ((h0 _).mono fun r13 _=>?_);refine E3.2 ⟨fun _=>?_,fun _=>?_⟩
 ·exact hn _ ⟨h0,h1,h2,by dsimp only;omega,by dsimp only;omega,h5,h6,h7,by dsimp only;omega,h9⟩ (by dsimp only;omega)
 ·exact hn _ ⟨h0,h1,h2,h3,by dsimp only;omega,by dsimp only;omega,h6,h7,h8,by dsimp only;omega⟩ (by dsimp only;omega)
end Go.Ev.Pv
namespace Go.Ev.Pv
theorem AJn(slf:E5×Int×Int×Int×G_->Option E5)(x:E5×G_×Int×Int×Int)(h:(∀p,Tot (x.2.1 p) fun _=>True)/\0<=x.2.2.1/\x.2.2.1<=x.2.2.2.1/\x.2.2.2.1<=x.1.length/\x.2.2.2.1-1<=x.2.2.2.2/\x.2.2.2.2-x.2.2.1<x.1.length/\x.1.length<=1048576):
 Tot (iS slf x) (fun r:E5×Int=>r.1=x.1/\x.2.2.1<=r.2/\r.2<=x.2.2.2.1):=by
 refine F4 (R:=fun r:E5×Int=>r.1=x.1/\x.2.2.1<=r.2/\r.2<=x.2.2.2.1) (fun y:E5×G_×Int×Int×Int=>(∀p,Tot (y.2.1 p) fun _=>True)/\0<=y.2.2.1/\y.2.2.1<=y.2.2.2.1/\y.2.2.2.1<=y.1.length/\y.2.2.2.1-1<=y.2.2.2.2/\y.2.2.2.2-y.2.2.1<y.1.length/\y.1.length<=1048576/\y.1=x.1/\x.2.2.1<=y.2.2.1/\y.2.2.2.1<=x.2.2.2.1)
  (fun y=>(y.2.2.2.1-y.2.2.1).toNat) ?_ _ _ ⟨h.1,h.2.1,h.2.2.1,h.2.2.2.1,h.2.2.2.2.1,h.2.2.2.2.2.1,h.2.2.2.2.2.2,rfl,B6 _,B6 _⟩ (by obtain⟨_,_,_,_,_,_,_⟩:=h;unfold fuel;omega)
 rintro next ⟨data_0,cmp_4,start_20,r_21,p_22⟩ h hn
 dsimp only at h hn;obtain⟨h0,h1,h2,h3,h4,h5,h6,h7,h8,h9⟩:=h;unfold vS;dsimp only;refine E3.2 ⟨fun hc=>?_,fun hc=>E2.2 ⟨h7,h8,by dsimp only;omega⟩⟩;have hc:=A6 hc;refine E1.2 (NP (by omega) (by omega) (by omega) (by omega) ?_);have hw1:i64.wrap ((start_20+r_21) / 2)=(start_20+r_21) / 2:=EY (by omega) (by omega);have hw2:i64.wrap ((start_20+r_21) / 2+1)=(start_20+r_21) / 2+1:=EY (by omega) (by omega);have hw3:i64.wrap (p_22-(start_20+r_21) / 2)=p_22-(start_20+r_21) / 2:=EY (by omega) (by omega);rw[hw1,hw2,hw3];refine E1.2 (FF.2 ⟨⟨by omega,by omega⟩,?_⟩);refine E1.2 (FF.2 ⟨⟨by omega,by omega⟩,?_⟩);refine E1.2 ((h0 _).mono fun r4 _=>?_);refine E3.2 ⟨fun _=>?_,fun _=>?_⟩
 ·exact hn _ ⟨h0,by dsimp only;omega,by dsimp only;omega,h3,h4,by dsimp only;omega,h6,h7,by dsimp only;omega,h9⟩ (by dsimp only;omega)
 ·exact hn _ ⟨h0,h1,by dsimp only;omega,by dsimp only;omega,by dsimp only;omega,h5,h6,h7,h8,by dsimp only;omega⟩ (by dsimp only;omega)
end Go.Ev.Pv
namespace Go.Ev.Pv
theorem AJo(slf:E5×Int×Int×Int×G_->Option E5)(x:E5×Int×G_×Int×Int×Bool)(h:x.1.length<=1048576/\(x.2.2.2.2.2=true->0<=x.2.2.2.1/\x.2.2.2.1<x.2.1/\x.2.1<x.2.2.2.2.1/\x.2.2.2.2.1<=x.1.length)):
 Tot (Y2 slf x) (fun r:List (E0×E0)=>r.length=x.1.length/\∀q∈r,q∈x.1):=by
 obtain⟨data_0,m_2,cmp_4,start_20,end_24,t185⟩:=x;dsimp only at h;unfold Y2;dsimp only;refine E3.2 ⟨fun hc=>?_,fun _=>E2.2 ⟨rfl,fun q hq=>hq⟩⟩;obtain⟨h1,h2,h3,h4⟩:=h.2 hc;exact E1.2 ((AJi _ ⟨h1,h2,h3,h4,h.1⟩).mono fun r hr=>E2.2 hr)
end Go.Ev.Pv
namespace Go.Ev.Pv
theorem AJp(slf:E5×Int×Int×Int×G_->Option E5)(K:Int)(ih:∀y:E5×Int×Int×Int×G_,((∀p,Tot (y.2.2.2.2 p) fun _=>True)/\0<=y.2.1/\y.2.1<y.2.2.1/\y.2.2.1<y.2.2.2.1/\y.2.2.2.1<=y.1.length/\y.1.length<=1048576)->y.2.2.2.1-y.2.1<=K->Tot (slf y) (fun r:List (E0×E0)=>r.length=y.1.length/\∀q∈r,q∈y.1))(x:E5×Int×Int×Int×G_)(h:(∀p,Tot (x.2.2.2.2 p) fun _=>True)/\0<=x.2.1/\x.2.1<x.2.2.1/\x.2.2.1<x.2.2.2.1/\x.2.2.2.1<=x.1.length/\x.1.length<=1048576)(hK:x.2.2.2.1-x.2.1<=2*K):
 Tot (iT slf x) (fun r:List (E0×E0)=>r.length=x.1.length/\∀q∈r,q∈x.1):=by
 obtain⟨data_0,a_1,m_2,b_3,cmp_4⟩:=x;dsimp only at h hK;obtain⟨h0,h1,h2,h3,h4,h5⟩:=h;unfold iT;dsimp only;rw[EY (n:=m_2-a_1) (by omega) (by omega),EY (n:=b_3-m_2) (by omega) (by omega)];refine E3.2 ⟨fun _=>?_,fun _=>E3.2 ⟨fun _=>?_,fun _=>?_⟩⟩
 ·refine E1.2 ((AJj slf _ ⟨h0,h1,by dsimp only;omega,by dsimp only;omega,by dsimp only;omega,h4,h5⟩).mono fun r5 hr=>?_);dsimp only at hr;obtain⟨e1,e2,e3⟩:=hr;refine E1.2 ((AJk slf _ ⟨by dsimp only;omega,by dsimp only;rw[e1];omega,h1,by dsimp only;rw[e1];exact h5⟩).mono fun r9 hr=>E2.2 ?_);dsimp only at hr;rw[e1]at hr;exact hr
 ·refine E1.2 ((AJm slf _ ⟨h0,by dsimp only;omega,by dsimp only;omega,h1,by dsimp only;omega,by dsimp only;omega,h5⟩).mono fun r5 hr=>?_);dsimp only at hr;obtain⟨e1,e2,e3⟩:=hr;refine E1.2 ((AJl slf _ ⟨by dsimp only;omega,by dsimp only;rw[e1];omega,by dsimp only;rw[e1];exact h5⟩).mono fun r9 hr=>E2.2 ?_);dsimp only at hr;rw[e1]at hr;exact hr
 ·refine E1.2 (NP (by omega) (by omega) (by omega) (by omega) ?_);generalize hmid:(a_1+b_3) / 2=mid;rw[EY (n:=mid) (by omega) (by omega),EY (n:=mid+m_2) (by omega) (by omega),EY (n:=mid+m_2-1) (by omega) (by omega)]
  have hp:Tot (Y1 slf (a_1,m_2,b_3,mid,mid+m_2,decide (mid<m_2))) fun r:Int×Int=>0<=r.1/\a_1<=r.1/\mid+m_2-b_3<=r.1/\r.1<=r.2/\r.2<=m_2/\r.2<=mid+m_2/\mid+m_2-1-r.1<data_0.length:=by
   unfold Y1;dsimp only;refine E3.2 ⟨fun hc=>E2.2 ?_,fun hc=>E2.2 ?_⟩
   ·have hc:=A6 hc;rw[EY (by omega) (by omega)];dsimp only;omega
   ·have hc:=AF hc;dsimp only;omega
  refine E1.2 (hp.mono fun r20 hr=>?_);obtain⟨f1,f2,f3,f4,f5,f6,f7⟩:=hr;refine E1.2 ((AJn slf _ ⟨h0,f1,f4,by dsimp only;omega,by dsimp only;omega,f7,h5⟩).mono fun r26 hr=>?_);dsimp only at hr;obtain⟨e1,e2,e3⟩:=hr;rw[EY (n:=mid+m_2-r26.2) (by omega) (by omega)];refine E1.2 ((AJo slf _ ⟨by dsimp only;rw[e1];exact h5,fun hc=>?_⟩).mono fun r29 hr=>?_)
  ·dsimp only at hc ⊢;rw[A5,AZ,AZ]at hc;rw[e1];omega
  dsimp only at hr;rw[e1]at hr;obtain⟨g1,g2⟩:=hr
  have hq:Tot (Y3 slf (r29,a_1,cmp_4,mid,r26.2,decide (a_1<r26.2)&&decide (r26.2<mid))) fun r:List (E0×E0)=>r.length=data_0.length/\∀q∈r,q∈data_0:=by
   unfold Y3;dsimp only;refine E3.2 ⟨fun hc=>?_,fun _=>E2.2 ⟨g1,g2⟩⟩;rw[A5,AZ,AZ]at hc;refine E1.2 ((ih _ ⟨h0,h1,by dsimp only;omega,by dsimp only;omega,by dsimp only;omega,by dsimp only;omega⟩ (by dsimp only;omega)).mono fun r31 hr=>E2.2 ?_);dsimp only at hr;exact⟨by omega,fun q hq=>g2 q (hr.2 q hq)⟩
  refine E1.2 (hq.mono fun r32 hr=>?_);obtain⟨k1,k2⟩:=hr;refine E3.2 ⟨fun hc=>?_,fun _=>E2.2 ⟨k1,k2⟩⟩;rw[A5,AZ,AZ]at hc;refine E1.2 ((ih _ ⟨h0,by dsimp only;omega,by dsimp only;omega,by dsimp only;omega,by dsimp only;omega,by dsimp only;omega⟩ (by dsimp only;omega)).mono fun r34 hr=>E2.2 ?_);dsimp only at hr;exact⟨by omega,fun q hq=>k2 q (hr.2 q hq)⟩
end Go.Ev.Pv
namespace Go.Ev.Pv
theorem AJq:∀(n:Nat) (x:E5×Int×Int×Int×G_) (h:(∀p,Tot (x.2.2.2.2 p) fun _=>True)/\0<=x.2.1/\x.2.1<x.2.2.1/\x.2.2.1<x.2.2.2.1/\x.2.2.2.1<=x.1.length/\x.1.length<=1048576) (hK:x.2.2.2.1-x.2.1<=2 ^ n),Tot (K7 n x) (fun r:List (E0×E0)=>r.length=x.1.length/\∀q∈r,q∈x.1):=by
 intro n;induction n with
 |zero=>
  intro x h hK;obtain⟨_,h1,h2,h3,_,_⟩:=h;rw[Int.pow_zero]at hK;omega
 |succ n ih=>
  intro x h hK;refine AJp (K7 n) (2 ^ n) (fun y hy hk=>ih y hy hk) x h ?_;rw[Int.pow_succ]at hK;omega
theorem A4R(x:E5×Int×Int×Int×G_)(h:(∀p,Tot (x.2.2.2.2 p) fun _=>True)/\0<=x.2.1/\x.2.1<x.2.2.1/\x.2.2.1<x.2.2.2.1/\x.2.2.2.1<=x.1.length/\x.1.length<=1048576):Tot (TO x) (fun r:List (E0×E0)=>r.length=x.1.length/\∀q∈r,q∈x.1):=by
 unfold TO;refine AJq 100 x h ?_;obtain⟨_,h1,h2,h3,h4,h5⟩:=h;have:(1048576:Int)<=2 ^ 100:=by decide
 omega
end Go.Ev.Pv
namespace Go.Ev.Pv
theorem AJr{s p:E0}(h:Lib.hasPrefix s p=true):p.length<=s.length:=(List.isPrefixOf_iff_prefix.1 h).length_le
theorem AJs(x:E0×E0)(h:True):Tot (strings_HasPrefix x) (fun r:Bool=>r=true->x.2.length<=x.1.length):=E2.2 AJr
theorem trimPrefix_len(s p:E0):(Lib.trimPrefix s p).length<=s.length:=by
 unfold Lib.trimPrefix;split
 ·rw[C5];omega
 ·exact AI _
theorem AJt(x:E0×E0)(h:True):Tot (strings_TrimPrefix x) (fun r:E0=>r.length<=x.1.length):=E2.2 (trimPrefix_len _ _)
theorem AJu(x:E0×E0)(h:True):Tot (strings_CutPrefix x) (fun r:E0×Bool=>r.1.length<=x.1.length):=E2.2 (trimPrefix_len _ _)
theorem A4S(x:E0×E0)(h:x.1.length<=1048576):Tot (strings_Cut x) (fun r:E0×E0×Bool=>r.1.length<=x.1.length/\r.2.1.length<=x.1.length):=by
 unfold strings_Cut HQ;rw[A7 (by omega)];refine E2.2 ?_;unfold Lib.cut;split
 ·simp only[B2,C5];omega
 ·simp
theorem AJv(x:E0×Int)(h:x.1.length<=1048576):Tot (strings_LastIndexByte x) (fun r:Int=>-1<=r/\r<x.1.length):=by
 unfold strings_LastIndexByte HQ;rw[A7 (by omega)];refine E2.2 ?_;have hs:(⟨x.1.toArray⟩:ByteArray).size=x.1.length:=by simp[ByteArray.size]
 rcases Lib.lastIndexByte_spec ⟨x.1.toArray⟩ x.2 with⟨e,_⟩|⟨i,hi,e,_⟩<;>rw[e]<;>omega
theorem AJw:∀(k u m:Nat),u<10 ^ m->1<=m->(KO k u).length<=m:=by
 intro k;induction k with
 |zero=>intro u m _ _;simp[KO]
 |succ k ih=>
  intro u m hu hm;simp only[KO];split
  ·simpa using hm
  ·rename_i h;obtain⟨j,rfl⟩:∃j,m=j+1:=⟨m-1,by omega⟩
   have hj:1<=j:=by
    rcases j with _|j
    ·simp at hu;omega
    ·omega
   have:=ih (u / 10) j (by rw[Nat.pow_succ]at hu;omega) hj;simp only[A9,AG,AV];omega
theorem AJx:∀(k u:Nat),1<=k->1<=(KO k u).length:=by
 intro k u h;obtain⟨j,rfl⟩:∃j,k=j+1:=⟨k-1,by omega⟩;simp only[KO];split<;>simp
theorem IN(x:Int)(h:True):Tot (strconv_Itoa x) (fun r:E0=>1<=r.length/\r.length<=21/\(0<=x->x<=999999999999999999->r.length<=18)):=by
 refine E2.2 ⟨?_,u_ x,?_⟩
 ·unfold NJ;split
  ·simp
  ·exact AJx 20 _ (by decide)
 ·intro h0 h1;unfold NJ;rw[if_neg (by omega)];exact AJw 20 _ 18 (by have h18:(10:Nat) ^ 18=1000000000000000000:=(by decide);omega) (by decide)
def RJ(b:UInt8):Prop:=48<=b.toNat/\b.toNat<=57
theorem AJy:∀(l:E0) (acc k:Nat),(∀b∈l,RJ b)->acc<10 ^ k->l.length+k<=18->∃u,Lib.parseUint10 acc l=.ok u/\u<10 ^ 18:=by
 intro l;induction l with
 |nil=>intro acc k _ h1 h2;exact⟨acc,rfl,BH h1 (DD (by decide) (by simpa using h2))⟩
 |cons c r ih=>
  intro acc k hd h1 h2;have hl:r.length+1+k<=18:=by simpa using h2
  have hp:10 ^ k<=10 ^ 17:=DD (by decide) (by omega);have e17:(10:Nat) ^ 17=100000000000000000:=by decide
  have hc:48<=c.toNat/\c.toNat<=57:=hd c AN;simp only[Lib.parseUint10];rw[if_pos hc,if_neg (by omega),if_neg (by omega)];exact ih _ (k+1) (fun b hb=>hd b (AH _ hb)) (by rw[Nat.pow_succ];omega) (by omega)
theorem pE(s:E0)(h0:s≠[])(hd:∀b∈s,RJ b)(hl:s.length<=18):∃u:Nat,Lib.atoiAll s=.ok (u:Int)/\u<1000000000000000000:=by
 cases s with
 |nil=>exact absurd rfl h0
 |cons c r=>
  have hc:=hd c AN;unfold RJ at hc;obtain⟨u,e,hu⟩:=AJy (c::r) 0 0 hd (by decide) hl;have e18:(10:Nat) ^ 18=1000000000000000000:=by decide
  rw[e18]at hu;refine⟨u,?_,hu⟩;unfold Lib.atoiAll;simp only;rw[if_neg (by omega)];unfold Lib.parseMag;rw[if_neg (by simp),e];simp only;rw[if_neg (by omega),if_neg (by omega),if_neg (by omega)]
theorem AJz(x:E0)(h:x.length<=1048576):Tot (XL x) (fun r:Int×Unit=>x≠[]->(∀b∈x,RJ b)->x.length<=18->0<=r.1/\r.1<=999999999999999999):=by
 unfold XL HQ;rw[A7 (by omega)];show Tot (match Lib.atoiAll x with| .ok v=>some (v,())| .range=>some (Lib.atoiSat x,())|_=>some (0,())) _;cases e:Lib.atoiAll x with
 |ok v=>
  refine E2.2 fun h1 h2 h3=>?_;obtain⟨u,e2,hu⟩:=pE x h1 h2 h3;rw[e]at e2;injection e2 with e2;subst e2;dsimp only;omega
 |range=>exact E2.2 fun h1 h2 h3=>by obtain⟨u,e2,_⟩:=pE x h1 h2 h3;rw[e]at e2;cases e2
 |_=>exact E2.2 fun h1 h2 h3=>by obtain⟨u,e2,_⟩:=pE x h1 h2 h3;rw[e]at e2;cases e2
theorem AK0(x:E0×Int)(h:x.1.length=1/\0<=x.2/\x.2<=1048576):Tot (strings_Repeat x) (fun r:E0=>(r.length:Int)=x.2):=by
 unfold strings_Repeat HQ;rw[A7 (by rw[h.1];omega)];refine E2.2 ?_;rw[Lib.repeatL_length,h.1];omega
theorem AK1(r:Int):(Lib.encodeRune r).length<=4:=by
 unfold Lib.encodeRune Lib.encodeRuneZ;rw[AO]
 repeat' split
 all_goals simp
theorem AK2(f:Int->Int):∀(n:Nat) (l:E0),(Lib.mapGoD f n l).length<=4*n:=by
 intro n;induction n with
 |zero=>intro l;simp[Lib.mapGoD]
 |succ n ih=>
  intro l;simp only[Lib.mapGoD];split
  ·simp
  ·rw[A9];have h1:=ih (l.drop (Lib.decodeL l).2)
   have h2:(if 0<=f (Lib.decodeL l).1 then Lib.encodeRune (f (Lib.decodeL l).1)else []).length<=4:=by
    split
    ·exact AK1 _
    ·simp
   omega
theorem A4T(x:E0)(h:x.length<=1048576):Tot (TH x) (fun r:E0=>r.length<=4*x.length):=by
 unfold TH HQ;rw[A7 (by omega)];have h1:(Lib.toLowerD x).length<=4*x.length:=AK2 _ _ _;show Tot (str? _) _;unfold str?;rw[A7 (by omega)];exact E2.2 h1
theorem AK3(p:Nat->Bool)(s:ByteArray):∀(f pos:Nat) (st:Option Nat) (acc:List (Nat×Nat)),(Lib.spansFromP p s f pos st acc).1.length<=acc.length+f:=by
 intro f;induction f with
 |zero=>intro pos st acc;simp[Lib.spansFromP]
 |succ f ih=>
  intro pos st acc;simp only[Lib.spansFromP];split
  ·split
   ·cases st with
    |some a=>have:=ih (pos+(Utf8.decode s pos).2) none (acc++[(a,pos)]);simp only[A9,AG,AV]at this ⊢;omega
    |none=>have:=ih (pos+(Utf8.decode s pos).2) none acc;dsimp only;omega
   ·cases st with
    |some a=>have:=ih (pos+(Utf8.decode s pos).2) (some a) acc;dsimp only;omega
    |none=>have:=ih (pos+(Utf8.decode s pos).2) (some pos) acc;dsimp only;omega
  ·simp
theorem AK4(p:Nat->Bool)(s:ByteArray):(Lib.goFieldsP p s).length<=s.size+1:=by
 unfold Lib.goFieldsP Lib.spansOfP Lib.closeSpans;rw[AO];have:=AK3 p s s.size 0 none [];simp only[AV]at this;split
 ·rw[A9];simp only[AG,AV];omega
 ·omega
theorem AK5(p:Nat->Bool)(s:ByteArray):∀b∈Lib.goFieldsP p s,b.size<=s.size:=by
 intro b hb;unfold Lib.goFieldsP at hb;obtain⟨x,_,rfl⟩:=B_.1 hb;rw[D0];omega
theorem AK6(x:E0×LV)(h:x.1.length<=1048576/\∀c,Tot (x.2 c) fun _=>True):Tot (QI x) (fun r:List E0=>r.length<=x.1.length+1/\∀s∈r,s.length<=x.1.length):=by
 have hs:(⟨x.1.toArray⟩:ByteArray).size=x.1.length:=by simp[ByteArray.size]
 have hl:=fun p=>AK4 p ⟨x.1.toArray⟩;rw[hs]at hl;unfold QI HQ;rw[@decide_eq_true _ (Classical.propDecidable _) ⟨by omega,fun r _=>let ⟨b,e,_⟩:=h.2 r;⟨b,e⟩,by have:=hl fun r=>(x.2 (r:Int)).getD false;omega⟩];refine E2.2 ⟨?_,?_⟩
 ·rw[AO];exact hl _
 ·intro s h1;obtain⟨b,hb,rfl⟩:=B_.1 h1;have:=AK5 _ _ b hb;rw[hs]at this;have e:b.data.toList.length=b.size:=by rw[BU];rfl
  omega
end Go.Ev.Pv
namespace Go.Ev.Pv
abbrev Nm(n:Int):Prop:=0<=n/\n<=999999999999999999
abbrev Nm1(n:Int):Prop:=-1<=n/\n<=999999999999999999
abbrev LS(l:List E0):Prop:=l.length<=1002/\∀s∈l,s.length<=1000
abbrev NS(l:List Int):Prop:=l.length<=1002/\∀n∈l,0<=n/\n<=999999999999999999
abbrev TS(l:List GB):Prop:=l.length<=1002/\∀t∈l,t.2.1.length<=5000/\0<=t.2.2/\t.2.2<=999999999999999999
abbrev Dt:=(List Int)×(List E0)
abbrev Rv:=Int×E0×E0×Bool
abbrev Sg:=Int×(List Int)×Int×Int×Int×Int×(List E0)
abbrev Ql:=List GB
abbrev Vr:=Sum LE (Sum KP (Sum G7 (Sum (List GB) (Sum Int Unit))))
abbrev cP(v:Dt):Prop:=v.1.length=3/\(∀n∈v.1,0<=n/\n<=999999999999999999)/\v.2.length<=1002/\∀s∈v.2,s.length<=1000
abbrev OZ(v:Rv):Prop:=Nm v.1/\v.2.1.length<=1000/\v.2.2.1.length<=1000
abbrev M2(v:Sg):Prop:=Nm v.1/\NS v.2.1/\(0<=v.2.2.1/\v.2.2.1<=3)/\Nm v.2.2.2.1/\Nm1 v.2.2.2.2.1/\Nm1 v.2.2.2.2.2.1/\LS v.2.2.2.2.2.2
def J3(v:Vr):Prop:=match v with
 | .inl d=>cP d
 | .inr (.inl r)=>OZ r
 | .inr (.inr (.inl s))=>M2 s
 | .inr (.inr (.inr (.inl q)))=>TS q
 | .inr (.inr (.inr (.inr (.inl n))))=>Nm n
 | .inr (.inr (.inr (.inr (.inr _))))=>False
theorem AK7(d:Dt):J3 (.inl d)=cP d:=rfl
theorem AK8(d:Rv):J3 (.inr (.inl d))=OZ d:=rfl
theorem AK9(d:Sg):J3 (.inr (.inr (.inl d)))=M2 d:=rfl
theorem AKA(d:Ql):J3 (.inr (.inr (.inr (.inl d))))=TS d:=rfl
theorem AKB(d:Int):J3 (.inr (.inr (.inr (.inr (.inl d)))))=Nm d:=rfl
theorem EP{α:Type}{l:List α}{i j:Nat}{a:α}:a∈(l.take i).drop j->a∈l:=fun h=>DM (List.mem_of_mem_drop h)
theorem EL{α:Type}(l:List α)(i j:Nat):((l.take i).drop j).length=min i l.length-j:=by simp
theorem cQ{xs:List E0}{sep:E0}{m k c:Nat}:(∀s∈xs,s.length<=m)->xs.length<=k->sep.length<=c->(Lib.join xs sep).length<=k*(m+c):=fun h hk hc=>
 AY (oY sep m xs h) (Nat.mul_le_mul hk (by omega))
theorem ER(s:E0):EW s []=decide (s.length=0):=by rw[EA];cases s<;>simp
theorem AKC(x:E0×Int×LV×Int)(h:0<=x.2.2.2/\0<=x.2.1/\x.2.1+x.2.2.2<=x.1.length/\x.1.length<=1048576/\(∀c,Tot (x.2.2.1 c) fun _=>True)/\(∀j:Nat,x.2.1<=j->j<x.2.1+x.2.2.2->∀c,x.1[j]?=some c->x.2.2.1 (c.toNat:Int)=some true)):
 Tot (jD x) (fun r:Int=>x.2.2.2<=r/\x.2.1+r<=x.1.length/\(∀j:Nat,x.2.1<=j->j<x.2.1+r->∀c,x.1[j]?=some c->x.2.2.1 (c.toNat:Int)=some true)/\∀c,x.1[(x.2.1+r).toNat]?=some c->x.2.2.1 (c.toNat:Int)=some false):=by
 obtain⟨s,at_,f,n⟩:=x;dsimp only at h ⊢
 refine F4 (R:=fun r:Int=>n<=r/\at_+r<=s.length/\(∀j:Nat,at_<=j->j<at_+r->∀c,s[j]?=some c->f (c.toNat:Int)=some true)/\∀c,s[(at_+r).toNat]?=some c->f (c.toNat:Int)=some false)
  (fun y:E0×Int×LV×Int=>y.1=s/\y.2.1=at_/\y.2.2.1=f/\n<=y.2.2.2/\at_+y.2.2.2<=s.length/\(∀j:Nat,at_<=j->j<at_+y.2.2.2->∀c,s[j]?=some c->f (c.toNat:Int)=some true)) (fun y=>(s.length-at_-y.2.2.2).toNat) ?_ _ _ ⟨rfl,rfl,rfl,B6 _,h.2.2.1,h.2.2.2.2.2⟩ (by unfold fuel;dsimp only;omega)
 rintro next ⟨s',at',f',m⟩ hI hn
 dsimp only at hI hn;obtain⟨rfl,rfl,rfl,h1,h2,h3⟩:=hI;obtain⟨g1,g2,g3,g4,g5,_⟩:=h;unfold wC;dsimp only;rw[EY (by omega) (by omega)];by_cases hc:at'+m<s'.length
 ·rw[A7 hc];simp only[AB,CA];refine E1.2 (F0.2 ⟨⟨by omega,by omega⟩,fun b hb=>?_⟩);obtain⟨r,hr,_⟩:=g5 (b.toNat:Int);rw[hr];refine E1.2 (E2.2 ?_);refine E3.2 ⟨fun e=>?_,fun e=>E2.2 ⟨h1,h2,h3,fun c hc'=>?_⟩⟩
  ·subst e;rw[EY (by omega) (by omega)];refine hn _ ⟨rfl,rfl,rfl,by dsimp only;omega,by dsimp only;omega,?_⟩ (by dsimp only;omega);intro j hj1 hj2 c hjc;dsimp only at hj2;by_cases hj3:(j:Int)<at'+m
   ·exact h3 j hj1 hj3 c hjc
   ·have:j=(at'+m).toNat:=by omega
    subst this;rw[hb]at hjc;cases hjc;exact hr
  ·subst e;rw[hb]at hc';cases hc';exact hr
 ·rw[AC hc];simp only[AE,CJ];refine E1.2 (E2.2 ?_);refine E1.2 (E2.2 ?_);refine E2.2 ⟨h1,h2,h3,fun c hc'=>?_⟩;have:=(AA.1 hc').1;omega
theorem cR(x:E0×Int×LV)(h:0<=x.2.1/\x.2.1<=x.1.length/\x.1.length<=1048576/\(∀c,Tot (x.2.2 c) fun _=>True)):
 Tot (HR x) (fun r:Int=>0<=r/\x.2.1+r<=x.1.length/\(∀j:Nat,x.2.1<=j->j<x.2.1+r->∀c,x.1[j]?=some c->x.2.2 (c.toNat:Int)=some true)/\∀c,x.1[(x.2.1+r).toNat]?=some c->x.2.2 (c.toNat:Int)=some false):=by
 obtain⟨s,a,f⟩:=x;dsimp only at h ⊢;unfold HR;refine E1.2 ((AKC _ ⟨B6 _,h.1,by dsimp only;omega,h.2.2.1,h.2.2.2,fun j h1 h2=>by dsimp only at h1 h2;omega⟩).mono fun r hr=>E2.2 ?_);exact hr
theorem AKD(x:E0×Int×LV)(h:0<=x.2.1/\x.2.1<=x.1.length/\x.1.length<=1048576/\(∀c,Tot (x.2.2 c) fun _=>True)):
 Tot (HR x) (fun r:Int=>0<=r/\x.2.1+r<=x.1.length):=(cR x h).mono fun _ hr=>⟨hr.1,hr.2.1⟩
theorem LI(x:E0×Int×LV)(hf:∀c,Tot (x.2.2 c) (fun _=>True))(h:0<=x.2.1/\x.2.1<=x.1.length/\x.1.length<=1048576):
 Tot (HR x) (fun r:Int=>0<=r/\x.2.1+r<=x.1.length):=AKD x ⟨h.1,h.2.1,h.2.2,hf⟩
theorem GT{α β:Type}{f:α->Option β}{P:β->Prop}{c:α}(h:Tot (f c) P):Tot ((f c).bind fun r=>some r) fun _=>True:=E1.2 (h.mono fun _ _=>E2.2 trivial)
theorem A4U(c:Int):Tot ((H1 c).bind fun r=>some r) fun _=>True:=⟨_,rfl,trivial⟩
theorem H2(c:Int)(h:True):Tot (H1 c) fun _=>True:=⟨_,rfl,trivial⟩
theorem I3(c:Int)(h:True):Tot (MK c) fun _=>True:=⟨_,rfl,trivial⟩
theorem AKE(c:Int)(h:True):Tot (jJ c) fun _=>True:=⟨_,rfl,trivial⟩
theorem A4V(c:Int)(h:True):Tot (jM c) fun _=>True:=⟨_,rfl,trivial⟩
theorem AKF(b:UInt8)(h:((H1 (b.toNat:Int)).bind fun r=>some r)=some true):RJ b:=by
 unfold H1 at h;simp at h;unfold RJ;omega
theorem JO(s:E0)(h:s.length<=1048576):Tot (II s) (fun r:Int×Bool=>0<=r.1/\r.1<=999999999999999999):=by
 unfold II;dsimp only;cases hv:(EW s []||decide ((18:Int)<(s.length:Int)))with
 |true=>simp only[BV,AE,Bool.true_or,AB];exact E1.2 (E2.2 (E2.2 (by decide)))
 |false=>
  simp only[D9,AB,CM];refine E1.2 ((cR _ ⟨B6 _,by dsimp only;omega,h,A4U⟩).mono fun r hr=>?_);refine E3.2 ⟨fun _=>E2.2 (by decide),fun e=>?_⟩;refine E1.2 ((AJz s h).mono fun r3 h3=>E2.2 ?_);have hv1:=(BZ.1 hv);have e1:r=s.length:=by simpa[E4]using e
  dsimp only at hr;refine h3 (by simpa[EA]using hv1.1) (fun b hb=>?_) (by have:=AF hv1.2;omega);obtain⟨j,hj,hjb⟩:=List.mem_iff_getElem.1 hb;exact AKF b (hr.2.2.1 j (by omega) (by omega) b (by rw[<-hjb];exact A0 hj))
end Go.Ev.Pv
namespace Go.Ev.Pv
theorem AKG(x:(List E9)×Int×H0×Int)(h:(∀p,Tot (x.2.2.1 p) fun _=>True)/\0<=x.2.1/\x.2.1<=x.2.2.2/\x.2.2.2<x.1.length/\x.1.length<=1048576):
 Tot (kP x) (fun r:List E9=>r.length=x.1.length/\∀q∈r,q∈x.1):=by
 refine F4 (R:=fun r:List E9=>r.length=x.1.length/\∀q∈r,q∈x.1) (fun y:(List E9)×Int×H0×Int=>(∀p,Tot (y.2.2.1 p) fun _=>True)/\0<=y.2.1/\y.2.1<=y.2.2.2/\y.2.2.2<y.1.length/\y.1.length<=1048576/\y.1.length=x.1.length/\∀q∈y.1,q∈x.1)
  (fun y=>y.2.2.2.toNat) ?_ _ _ ⟨h.1,h.2.1,h.2.2.1,h.2.2.2.1,h.2.2.2.2,rfl,fun q hq=>hq⟩ (by obtain⟨_,_,_,_,_⟩:=h;unfold fuel;omega)
 rintro next ⟨data_0,a_1,cmp_3,j_9⟩ h hn
 dsimp only at h hn;obtain⟨h0,h1,h2,h3,h4,h5,h6⟩:=h;unfold xB;dsimp only;by_cases hc:a_1<j_9
 ·have hw:i64.wrap (j_9-1)=j_9-1:=EY (by omega) (by omega);simp only[hw,A7 hc,AB,CA];refine E1.2 (FF.2 ⟨⟨by omega,by omega⟩,?_⟩);refine E1.2 (FF.2 ⟨⟨by omega,by omega⟩,?_⟩);refine E1.2 ((h0 _).mono fun r3 _=>?_);refine E3.2 ⟨fun _=>?_,fun _=>E2.2 ⟨h5,h6⟩⟩;refine E1.2 (FF.2 ⟨⟨by omega,by omega⟩,?_⟩);refine E1.2 (FF.2 ⟨⟨by omega,by omega⟩,?_⟩);refine E1.2 (FF.2 ⟨⟨by omega,by omega⟩,?_⟩);refine E1.2 (FF.2 ⟨⟨by omega,by rw[AD];omega⟩,?_⟩);refine hn _ ⟨h0,h1,by dsimp only;omega,by simp only[AD];omega,by simp only[AD];omega,by simp only[AD];omega,fun q hq=>?_⟩ (by dsimp only;omega);rcases EI hq with hq|rfl
  ·rcases EI hq with hq|rfl
   ·exact h6 q hq
   ·exact h6 _ (EH (by omega))
  ·exact h6 _ (EH (by omega))
 ·simp only[AC hc,AE,CJ];refine E1.2 (E2.2 ?_);refine E1.2 (E2.2 ?_);refine E1.2 (E2.2 ?_);exact E2.2 ⟨h5,h6⟩
theorem AKH(x:(List E9)×Int×Int×H0×Int)(h:(∀p,Tot (x.2.2.2.1 p) fun _=>True)/\0<=x.2.1/\x.2.1<=x.2.2.2.2/\x.2.2.1<=x.1.length/\x.2.2.2.2<=1048577/\x.1.length<=1048576):
 Tot (kQ x) (fun r:List E9=>r.length=x.1.length/\∀q∈r,q∈x.1):=by
 refine F4 (R:=fun r:List E9=>r.length=x.1.length/\∀q∈r,q∈x.1) (fun y:(List E9)×Int×Int×H0×Int=>(∀p,Tot (y.2.2.2.1 p) fun _=>True)/\0<=y.2.1/\y.2.1<=y.2.2.2.2/\y.2.2.1<=y.1.length/\y.2.2.2.2<=1048577/\y.1.length<=1048576/\y.1.length=x.1.length/\∀q∈y.1,q∈x.1)
  (fun y=>(y.2.2.1-y.2.2.2.2).toNat) ?_ _ _ ⟨h.1,h.2.1,h.2.2.1,h.2.2.2.1,h.2.2.2.2.1,h.2.2.2.2.2,rfl,fun q hq=>hq⟩ (by obtain⟨_,_,_,_,_,_⟩:=h;unfold fuel;omega)
 rintro next ⟨data_0,a_1,b_2,cmp_3,i_8⟩ h hn
 dsimp only at h hn;obtain⟨h0,h1,h2,h3,h4,h5,h6,h7⟩:=h;unfold xC;dsimp only;refine E3.2 ⟨fun hc=>?_,fun _=>E2.2 ⟨h6,h7⟩⟩;have hc:=A6 hc;have hw:i64.wrap (i_8+1)=i_8+1:=EY (by omega) (by omega);rw[hw];refine E1.2 ((AKG _ ⟨h0,h1,h2,by dsimp only;omega,h5⟩).mono fun r hr=>?_);dsimp only at hr;obtain⟨e1,e2⟩:=hr;exact hn _ ⟨h0,h1,by dsimp only;omega,by dsimp only;omega,by dsimp only;omega,by dsimp only;omega,by dsimp only;omega,fun q hq=>h7 q (e2 q hq)⟩ (by dsimp only;omega)
theorem A4W(x:(List E9)×Int×Int×H0)(h:(∀p,Tot (x.2.2.2 p) fun _=>True)/\0<=x.2.1/\x.2.1<=1048576/\x.2.2.1<=x.1.length/\x.1.length<=1048576):
 Tot (UE x) (fun r:List E9=>r.length=x.1.length/\∀q∈r,q∈x.1):=by
 obtain⟨data_0,a_1,b_2,cmp_3⟩:=x;dsimp only at h;obtain⟨h0,h1,h2,h3,h4⟩:=h;unfold UE;dsimp only;rw[EY (by omega) (by omega)];exact E1.2 ((AKH _ ⟨h0,h1,by dsimp only;omega,h3,by dsimp only;omega,h4⟩).mono fun r hr=>E2.2 hr)
theorem AKI(x:(List E9)×Int×Int×Int×Int)(h:0<=x.2.1/\0<=x.2.2.1/\x.2.1+x.2.2.2.1<=x.1.length/\x.2.2.1+x.2.2.2.1<=x.1.length/\0<=x.2.2.2.2/\x.1.length<=1048576):
 Tot (kR x) (fun r:List E9=>r.length=x.1.length/\∀q∈r,q∈x.1):=by
 refine F4 (R:=fun r:List E9=>r.length=x.1.length/\∀q∈r,q∈x.1) (fun y:(List E9)×Int×Int×Int×Int=>0<=y.2.1/\0<=y.2.2.1/\y.2.1+y.2.2.2.1<=y.1.length/\y.2.2.1+y.2.2.2.1<=y.1.length/\0<=y.2.2.2.2/\y.1.length<=1048576/\y.1.length=x.1.length/\∀q∈y.1,q∈x.1)
  (fun y=>(y.2.2.2.1-y.2.2.2.2).toNat) ?_ _ _ ⟨h.1,h.2.1,h.2.2.1,h.2.2.2.1,h.2.2.2.2.1,h.2.2.2.2.2,rfl,fun q hq=>hq⟩ (by obtain⟨_,_,_,_,_,_⟩:=h;unfold fuel;omega)
 rintro next ⟨data_0,a_1,b_2,n_3,i_10⟩ h hn
 dsimp only at h hn;obtain⟨h1,h2,h3,h4,h5,h6,h7,h8⟩:=h;unfold xD;dsimp only;refine E3.2 ⟨fun hc=>?_,fun _=>E2.2 ⟨h7,h8⟩⟩;have hc:=A6 hc;have hw1:i64.wrap (a_1+i_10)=a_1+i_10:=EY (by omega) (by omega);have hw2:i64.wrap (b_2+i_10)=b_2+i_10:=EY (by omega) (by omega);have hw3:i64.wrap (i_10+1)=i_10+1:=EY (by omega) (by omega);rw[hw1,hw2,hw3];refine E1.2 (FF.2 ⟨⟨by omega,by omega⟩,?_⟩);refine E1.2 (FF.2 ⟨⟨by omega,by omega⟩,?_⟩);refine E1.2 (FF.2 ⟨⟨by omega,by omega⟩,?_⟩);refine E1.2 (FF.2 ⟨⟨by omega,by rw[AD];omega⟩,?_⟩);refine hn _ ⟨h1,h2,by simp only[AD];omega,by simp only[AD];omega,by dsimp only;omega,by simp only[AD];omega,by simp only[AD];omega,fun q hq=>?_⟩ (by dsimp only;omega);rcases EI hq with hq|rfl
 ·rcases EI hq with hq|rfl
  ·exact h8 q hq
  ·exact h8 _ (EH (by omega))
 ·exact h8 _ (EH (by omega))
theorem pF(x:(List E9)×Int×Int×Int×H0)(h:0<=x.2.1/\0<=x.2.2.1/\x.2.1+x.2.2.2.1<=x.1.length/\x.2.2.1+x.2.2.2.1<=x.1.length/\x.1.length<=1048576):
 Tot (QY x) (fun r:List E9=>r.length=x.1.length/\∀q∈r,q∈x.1):=by
 obtain⟨data_0,a_1,b_2,n_3,cmp_4⟩:=x;obtain⟨h1,h2,h3,h4,h5⟩:=h;unfold QY;dsimp only;exact E1.2 ((AKI _ ⟨h1,h2,h3,h4,B6 _,h5⟩).mono fun r hr=>E2.2 hr)
theorem AKJ(x:(List E9)×Int×H0×Int×Int)(h:0<x.2.2.2.1/\0<x.2.2.2.2/\x.2.2.2.1<=x.2.1/\x.2.1+x.2.2.2.2<=x.1.length/\x.1.length<=1048576):
 Tot (kS x) (fun r:(List E9)×Int=>r.1.length=x.1.length/\(∀q∈r.1,q∈x.1)/\0<r.2/\r.2<=x.2.1/\x.2.1+r.2<=x.1.length):=by
 refine F4 (R:=fun r:(List E9)×Int=>r.1.length=x.1.length/\(∀q∈r.1,q∈x.1)/\0<r.2/\r.2<=x.2.1/\x.2.1+r.2<=x.1.length) (fun y:(List E9)×Int×H0×Int×Int=>0<y.2.2.2.1/\0<y.2.2.2.2/\y.2.2.2.1<=y.2.1/\y.2.1+y.2.2.2.2<=y.1.length/\y.1.length<=1048576/\y.1.length=x.1.length/\(∀q∈y.1,q∈x.1)/\y.2.1=x.2.1)
  (fun y=>(y.2.2.2.1+y.2.2.2.2).toNat) ?_ _ _ ⟨h.1,h.2.1,h.2.2.1,h.2.2.2.1,h.2.2.2.2,rfl,(fun q hq=>hq),rfl⟩ (by obtain⟨_,_,_,_,_⟩:=h;unfold fuel;omega)
 rintro next ⟨data_0,m_2,cmp_4,i_10,j_11⟩ h hn
 dsimp only at h hn;obtain⟨h1,h2,h3,h4,h5,h6,h7,h8⟩:=h;unfold xE;dsimp only;refine E3.2 ⟨fun hc=>?_,fun hc=>E2.2 ⟨h6,h7,h1,by dsimp only;omega,?_⟩⟩
 ·have hc:i_10≠j_11:=by rw[E4]at hc;simpa using hc
  have hw1:i64.wrap (m_2-i_10)=m_2-i_10:=EY (by omega) (by omega);have hw2:i64.wrap (m_2+j_11)=m_2+j_11:=EY (by omega) (by omega);have hw3:i64.wrap (m_2+j_11-i_10)=m_2+j_11-i_10:=EY (by omega) (by omega);have hw4:i64.wrap (i_10-j_11)=i_10-j_11:=EY (by omega) (by omega);have hw5:i64.wrap (j_11-i_10)=j_11-i_10:=EY (by omega) (by omega);rw[hw1,hw2,hw3,hw4,hw5];refine E3.2 ⟨fun hd=>?_,fun hd=>?_⟩
  ·have hd:=A6 hd;refine E1.2 ((pF _ ⟨by dsimp only;omega,by dsimp only;omega,by dsimp only;omega,by dsimp only;omega,h5⟩).mono fun r hr=>?_);dsimp only at hr;exact hn _ ⟨by dsimp only;omega,h2,by dsimp only;omega,by dsimp only;omega,by dsimp only;omega,by dsimp only;omega,fun q hq=>h7 q (hr.2 q hq),h8⟩ (by dsimp only;omega)
  ·have hd:=AF hd;refine E1.2 ((pF _ ⟨by dsimp only;omega,by dsimp only;omega,by dsimp only;omega,by dsimp only;omega,h5⟩).mono fun r hr=>?_);dsimp only at hr;exact hn _ ⟨h1,by dsimp only;omega,h3,by dsimp only;omega,by dsimp only;omega,by dsimp only;omega,fun q hq=>h7 q (hr.2 q hq),h8⟩ (by dsimp only;omega)
 ·have hc:i_10=j_11:=by rw[E4]at hc;simpa using hc
  omega
theorem AKK(x:(List E9)×Int×Int×Int×H0)(h:0<=x.2.1/\x.2.1<x.2.2.1/\x.2.2.1<x.2.2.2.1/\x.2.2.2.1<=x.1.length/\x.1.length<=1048576):
 Tot (aD x) (fun r:List E9=>r.length=x.1.length/\∀q∈r,q∈x.1):=by
 obtain⟨data_0,a_1,m_2,b_3,cmp_4⟩:=x;dsimp only at h;obtain⟨h1,h2,h3,h4,h5⟩:=h;unfold aD;dsimp only;rw[EY (n:=m_2-a_1) (by omega) (by omega),EY (n:=b_3-m_2) (by omega) (by omega)];refine E1.2 ((AKJ _ ⟨by dsimp only;omega,by dsimp only;omega,by dsimp only;omega,by dsimp only;omega,h5⟩).mono fun r hr=>?_);dsimp only at hr;obtain⟨e1,e2,e3,e4,e5⟩:=hr;rw[EY (n:=m_2-r.2) (by omega) (by omega)];refine E1.2 ((pF _ ⟨by dsimp only;omega,by dsimp only;omega,by dsimp only;omega,by dsimp only;omega,by dsimp only;omega⟩).mono fun r4 hr=>E2.2 ?_);dsimp only at hr;exact⟨by omega,fun q hq=>e2 q (hr.2 q hq)⟩
theorem AKL(slf:(List E9)×Int×Int×Int×H0->Option (List E9))(x:(List E9)×Int×H0×Int×Int)(h:(∀p,Tot (x.2.2.1 p) fun _=>True)/\0<=x.2.1/\x.2.1<x.1.length/\0<=x.2.2.2.1/\x.2.2.2.1<=x.2.2.2.2/\x.2.2.2.2<=x.1.length/\x.1.length<=1048576):
 Tot (kT slf x) (fun r:(List E9)×Int=>r.1=x.1/\x.2.2.2.1<=r.2/\r.2<=x.2.2.2.2):=by
 refine F4 (R:=fun r:(List E9)×Int=>r.1=x.1/\x.2.2.2.1<=r.2/\r.2<=x.2.2.2.2) (fun y:(List E9)×Int×H0×Int×Int=>(∀p,Tot (y.2.2.1 p) fun _=>True)/\0<=y.2.1/\y.2.1<y.1.length/\0<=y.2.2.2.1/\y.2.2.2.1<=y.2.2.2.2/\y.2.2.2.2<=y.1.length/\y.1.length<=1048576/\y.1=x.1/\x.2.2.2.1<=y.2.2.2.1/\y.2.2.2.2<=x.2.2.2.2)
  (fun y=>(y.2.2.2.2-y.2.2.2.1).toNat) ?_ _ _ ⟨h.1,h.2.1,h.2.2.1,h.2.2.2.1,h.2.2.2.2.1,h.2.2.2.2.2.1,h.2.2.2.2.2.2,rfl,B6 _,B6 _⟩ (by obtain⟨_,_,_,_,_,_,_⟩:=h;unfold fuel;omega)
 rintro next ⟨data_0,a_1,cmp_4,i_10,j_11⟩ h hn
 dsimp only at h hn;obtain⟨h0,h1,h2,h3,h4,h5,h6,h7,h8,h9⟩:=h;unfold xF;dsimp only;refine E3.2 ⟨fun hc=>?_,fun hc=>E2.2 ⟨h7,h8,by dsimp only;omega⟩⟩;have hc:=A6 hc;refine E1.2 (NP (by omega) (by omega) (by omega) (by omega) ?_);have hw1:i64.wrap ((i_10+j_11) / 2)=(i_10+j_11) / 2:=EY (by omega) (by omega);have hw2:i64.wrap ((i_10+j_11) / 2+1)=(i_10+j_11) / 2+1:=EY (by omega) (by omega);rw[hw1,hw2];refine E1.2 (FF.2 ⟨⟨by omega,by omega⟩,?_⟩);refine E1.2 (FF.2 ⟨⟨by omega,by omega⟩,?_⟩);refine E1.2 ((h0 _).mono fun r4 _=>?_);refine E3.2 ⟨fun _=>?_,fun _=>?_⟩
 ·exact hn _ ⟨h0,h1,h2,by dsimp only;omega,by dsimp only;omega,h5,h6,h7,by dsimp only;omega,h9⟩ (by dsimp only;omega)
 ·exact hn _ ⟨h0,h1,h2,h3,by dsimp only;omega,by dsimp only;omega,h6,h7,h8,by dsimp only;omega⟩ (by dsimp only;omega)
theorem AKM(slf:(List E9)×Int×Int×Int×H0->Option (List E9))(x:(List E9)×Int×Int)(h:0<=x.2.1/\x.2.1<=x.1.length/\0<=x.2.2/\x.1.length<=1048576):
 Tot (kU slf x) (fun r:List E9=>r.length=x.1.length/\∀q∈r,q∈x.1):=by
 refine F4 (R:=fun r:List E9=>r.length=x.1.length/\∀q∈r,q∈x.1) (fun y:(List E9)×Int×Int=>0<=y.2.1/\y.2.1<=y.1.length/\0<=y.2.2/\y.1.length<=1048576/\y.1.length=x.1.length/\∀q∈y.1,q∈x.1)
  (fun y=>(y.2.1-y.2.2).toNat) ?_ _ _ ⟨h.1,h.2.1,h.2.2.1,h.2.2.2,rfl,fun q hq=>hq⟩ (by obtain⟨_,_,_,_⟩:=h;unfold fuel;omega)
 rintro next ⟨data_0,i_10,k_13⟩ h hn
 dsimp only at h hn;obtain⟨h1,h2,h3,h4,h5,h6⟩:=h;unfold xG;dsimp only;rw[EY (n:=i_10-1) (by omega) (by omega)];refine E3.2 ⟨fun hc=>?_,fun hc=>E2.2 ⟨h5,h6⟩⟩;have hc:=A6 hc;have hw:i64.wrap (k_13+1)=k_13+1:=EY (by omega) (by omega);rw[hw];refine E1.2 (FF.2 ⟨⟨by omega,by omega⟩,?_⟩);refine E1.2 (FF.2 ⟨⟨by omega,by omega⟩,?_⟩);refine E1.2 (FF.2 ⟨⟨by omega,by omega⟩,?_⟩);refine E1.2 (FF.2 ⟨⟨by omega,by rw[AD];omega⟩,?_⟩);refine hn _ ⟨h1,by simp only[AD];omega,by dsimp only;omega,by simp only[AD];omega,by simp only[AD];omega,fun q hq=>?_⟩ (by dsimp only;omega);rcases EI hq with hq|rfl
 ·rcases EI hq with hq|rfl
  ·exact h6 q hq
  ·exact h6 _ (EH (by omega))
 ·exact h6 _ (EH (by omega))
theorem AKN(slf:(List E9)×Int×Int×Int×H0->Option (List E9))(x:(List E9)×Int×Int)(h:0<=x.2.1/\x.2.2<x.1.length/\x.1.length<=1048576):
 Tot (kW slf x) (fun r:List E9=>r.length=x.1.length/\∀q∈r,q∈x.1):=by
 refine F4 (R:=fun r:List E9=>r.length=x.1.length/\∀q∈r,q∈x.1) (fun y:(List E9)×Int×Int=>0<=y.2.1/\y.2.2<y.1.length/\y.1.length<=1048576/\y.1.length=x.1.length/\∀q∈y.1,q∈x.1)
  (fun y=>(y.2.2-y.2.1).toNat) ?_ _ _ ⟨h.1,h.2.1,h.2.2,rfl,fun q hq=>hq⟩ (by obtain⟨_,_,_⟩:=h;unfold fuel;omega)
 rintro next ⟨data_0,i_14,k_17⟩ h hn
 dsimp only at h hn;obtain⟨h1,h2,h4,h5,h6⟩:=h;unfold xI;dsimp only;refine E3.2 ⟨fun hc=>?_,fun hc=>E2.2 ⟨h5,h6⟩⟩;have hc:=A6 hc;have hw:i64.wrap (k_17-1)=k_17-1:=EY (by omega) (by omega);rw[hw];refine E1.2 (FF.2 ⟨⟨by omega,by omega⟩,?_⟩);refine E1.2 (FF.2 ⟨⟨by omega,by omega⟩,?_⟩);refine E1.2 (FF.2 ⟨⟨by omega,by omega⟩,?_⟩);refine E1.2 (FF.2 ⟨⟨by omega,by rw[AD];omega⟩,?_⟩);refine hn _ ⟨h1,by simp only[AD];omega,by simp only[AD];omega,by simp only[AD];omega,fun q hq=>?_⟩ (by dsimp only;omega);rcases EI hq with hq|rfl
 ·rcases EI hq with hq|rfl
  ·exact h6 q hq
  ·exact h6 _ (EH (by omega))
 ·exact h6 _ (EH (by omega))
theorem AKO(slf:(List E9)×Int×Int×Int×H0->Option (List E9))(x:(List E9)×Int×H0×Int×Int)(h:(∀p,Tot (x.2.2.1 p) fun _=>True)/\0<=x.2.1/\x.2.1<x.1.length/\0<=x.2.2.2.1/\x.2.2.2.1<=x.2.2.2.2/\x.2.2.2.2<=x.1.length/\x.1.length<=1048576):
 Tot (kV slf x) (fun r:(List E9)×Int=>r.1=x.1/\x.2.2.2.1<=r.2/\r.2<=x.2.2.2.2):=by
 refine F4 (R:=fun r:(List E9)×Int=>r.1=x.1/\x.2.2.2.1<=r.2/\r.2<=x.2.2.2.2) (fun y:(List E9)×Int×H0×Int×Int=>(∀p,Tot (y.2.2.1 p) fun _=>True)/\0<=y.2.1/\y.2.1<y.1.length/\0<=y.2.2.2.1/\y.2.2.2.1<=y.2.2.2.2/\y.2.2.2.2<=y.1.length/\y.1.length<=1048576/\y.1=x.1/\x.2.2.2.1<=y.2.2.2.1/\y.2.2.2.2<=x.2.2.2.2)
  (fun y=>(y.2.2.2.2-y.2.2.2.1).toNat) ?_ _ _ ⟨h.1,h.2.1,h.2.2.1,h.2.2.2.1,h.2.2.2.2.1,h.2.2.2.2.2.1,h.2.2.2.2.2.2,rfl,B6 _,B6 _⟩ (by obtain⟨_,_,_,_,_,_,_⟩:=h;unfold fuel;omega)
 rintro next ⟨data_0,m_2,cmp_4,i_14,j_15⟩ h hn
 dsimp only at h hn;obtain⟨h0,h1,h2,h3,h4,h5,h6,h7,h8,h9⟩:=h;unfold xH;dsimp only;refine E3.2 ⟨fun hc=>?_,fun hc=>E2.2 ⟨h7,h8,by dsimp only;omega⟩⟩;have hc:=A6 hc;refine E1.2 (NP (by omega) (by omega) (by omega) (by omega) ?_);have hw1:i64.wrap ((i_14+j_15) / 2)=(i_14+j_15) / 2:=EY (by omega) (by omega);have hw2:i64.wrap ((i_14+j_15) / 2+1)=(i_14+j_15) / 2+1:=EY (by omega) (by omega);rw[hw1,hw2];refine E1.2 (FF.2 ⟨⟨by omega,by omega⟩,?_⟩);refine E1.2 (FF.2 ⟨⟨by omega,by omega⟩,?_⟩);refine E1.2 ((h0 _).mono fun r13 _=>?_);refine E3.2 ⟨fun _=>?_,fun _=>?_⟩
 ·exact hn _ ⟨h0,h1,h2,by dsimp only;omega,by dsimp only;omega,h5,h6,h7,by dsimp only;omega,h9⟩ (by dsimp only;omega)
 ·exact hn _ ⟨h0,h1,h2,h3,by dsimp only;omega,by dsimp only;omega,h6,h7,h8,by dsimp only;omega⟩ (by dsimp only;omega)
theorem AKP(slf:(List E9)×Int×Int×Int×H0->Option (List E9))(x:(List E9)×H0×Int×Int×Int)(h:(∀p,Tot (x.2.1 p) fun _=>True)/\0<=x.2.2.1/\x.2.2.1<=x.2.2.2.1/\x.2.2.2.1<=x.1.length/\x.2.2.2.1-1<=x.2.2.2.2/\x.2.2.2.2-x.2.2.1<x.1.length/\x.1.length<=1048576):
 Tot (kX slf x) (fun r:(List E9)×Int=>r.1=x.1/\x.2.2.1<=r.2/\r.2<=x.2.2.2.1):=by
 refine F4 (R:=fun r:(List E9)×Int=>r.1=x.1/\x.2.2.1<=r.2/\r.2<=x.2.2.2.1) (fun y:(List E9)×H0×Int×Int×Int=>(∀p,Tot (y.2.1 p) fun _=>True)/\0<=y.2.2.1/\y.2.2.1<=y.2.2.2.1/\y.2.2.2.1<=y.1.length/\y.2.2.2.1-1<=y.2.2.2.2/\y.2.2.2.2-y.2.2.1<y.1.length/\y.1.length<=1048576/\y.1=x.1/\x.2.2.1<=y.2.2.1/\y.2.2.2.1<=x.2.2.2.1)
  (fun y=>(y.2.2.2.1-y.2.2.1).toNat) ?_ _ _ ⟨h.1,h.2.1,h.2.2.1,h.2.2.2.1,h.2.2.2.2.1,h.2.2.2.2.2.1,h.2.2.2.2.2.2,rfl,B6 _,B6 _⟩ (by obtain⟨_,_,_,_,_,_,_⟩:=h;unfold fuel;omega)
 rintro next ⟨data_0,cmp_4,start_20,r_21,p_22⟩ h hn
 dsimp only at h hn;obtain⟨h0,h1,h2,h3,h4,h5,h6,h7,h8,h9⟩:=h;unfold xJ;dsimp only;refine E3.2 ⟨fun hc=>?_,fun hc=>E2.2 ⟨h7,h8,by dsimp only;omega⟩⟩;have hc:=A6 hc;refine E1.2 (NP (by omega) (by omega) (by omega) (by omega) ?_);have hw1:i64.wrap ((start_20+r_21) / 2)=(start_20+r_21) / 2:=EY (by omega) (by omega);have hw2:i64.wrap ((start_20+r_21) / 2+1)=(start_20+r_21) / 2+1:=EY (by omega) (by omega);have hw3:i64.wrap (p_22-(start_20+r_21) / 2)=p_22-(start_20+r_21) / 2:=EY (by omega) (by omega);rw[hw1,hw2,hw3];refine E1.2 (FF.2 ⟨⟨by omega,by omega⟩,?_⟩);refine E1.2 (FF.2 ⟨⟨by omega,by omega⟩,?_⟩);refine E1.2 ((h0 _).mono fun r4 _=>?_);refine E3.2 ⟨fun _=>?_,fun _=>?_⟩
 ·exact hn _ ⟨h0,by dsimp only;omega,by dsimp only;omega,h3,h4,by dsimp only;omega,h6,h7,by dsimp only;omega,h9⟩ (by dsimp only;omega)
 ·exact hn _ ⟨h0,h1,by dsimp only;omega,by dsimp only;omega,by dsimp only;omega,h5,h6,h7,h8,by dsimp only;omega⟩ (by dsimp only;omega)
theorem AKQ(slf:(List E9)×Int×Int×Int×H0->Option (List E9))(x:(List E9)×Int×H0×Int×Int×Bool)(h:x.1.length<=1048576/\(x.2.2.2.2.2=true->0<=x.2.2.2.1/\x.2.2.2.1<x.2.1/\x.2.1<x.2.2.2.2.1/\x.2.2.2.2.1<=x.1.length)):
 Tot (aG slf x) (fun r:List E9=>r.length=x.1.length/\∀q∈r,q∈x.1):=by
 obtain⟨data_0,m_2,cmp_4,start_20,end_24,t185⟩:=x;dsimp only at h;unfold aG;dsimp only;refine E3.2 ⟨fun hc=>?_,fun _=>E2.2 ⟨rfl,fun q hq=>hq⟩⟩;obtain⟨h1,h2,h3,h4⟩:=h.2 hc;exact E1.2 ((AKK _ ⟨h1,h2,h3,h4,h.1⟩).mono fun r hr=>E2.2 hr)
theorem AKR(slf:(List E9)×Int×Int×Int×H0->Option (List E9))(K:Int)(ih:∀y:(List E9)×Int×Int×Int×H0,((∀p,Tot (y.2.2.2.2 p) fun _=>True)/\0<=y.2.1/\y.2.1<y.2.2.1/\y.2.2.1<y.2.2.2.1/\y.2.2.2.1<=y.1.length/\y.1.length<=1048576)->y.2.2.2.1-y.2.1<=K->Tot (slf y) (fun r:List E9=>r.length=y.1.length/\∀q∈r,q∈y.1))(x:(List E9)×Int×Int×Int×H0)(h:(∀p,Tot (x.2.2.2.2 p) fun _=>True)/\0<=x.2.1/\x.2.1<x.2.2.1/\x.2.2.1<x.2.2.2.1/\x.2.2.2.1<=x.1.length/\x.1.length<=1048576)(hK:x.2.2.2.1-x.2.1<=2*K):
 Tot (kY slf x) (fun r:List E9=>r.length=x.1.length/\∀q∈r,q∈x.1):=by
 obtain⟨data_0,a_1,m_2,b_3,cmp_4⟩:=x;dsimp only at h hK;obtain⟨h0,h1,h2,h3,h4,h5⟩:=h;unfold kY;dsimp only;rw[EY (n:=m_2-a_1) (by omega) (by omega),EY (n:=b_3-m_2) (by omega) (by omega)];refine E3.2 ⟨fun _=>?_,fun _=>E3.2 ⟨fun _=>?_,fun _=>?_⟩⟩
 ·refine E1.2 ((AKL slf _ ⟨h0,h1,by dsimp only;omega,by dsimp only;omega,by dsimp only;omega,h4,h5⟩).mono fun r5 hr=>?_);dsimp only at hr;obtain⟨e1,e2,e3⟩:=hr;refine E1.2 ((AKM slf _ ⟨by dsimp only;omega,by dsimp only;rw[e1];omega,h1,by dsimp only;rw[e1];exact h5⟩).mono fun r9 hr=>E2.2 ?_);dsimp only at hr;rw[e1]at hr;exact hr
 ·refine E1.2 ((AKO slf _ ⟨h0,by dsimp only;omega,by dsimp only;omega,h1,by dsimp only;omega,by dsimp only;omega,h5⟩).mono fun r5 hr=>?_);dsimp only at hr;obtain⟨e1,e2,e3⟩:=hr;refine E1.2 ((AKN slf _ ⟨by dsimp only;omega,by dsimp only;rw[e1];omega,by dsimp only;rw[e1];exact h5⟩).mono fun r9 hr=>E2.2 ?_);dsimp only at hr;rw[e1]at hr;exact hr
 ·refine E1.2 (NP (by omega) (by omega) (by omega) (by omega) ?_);generalize hmid:(a_1+b_3) / 2=mid;rw[EY (n:=mid) (by omega) (by omega),EY (n:=mid+m_2) (by omega) (by omega),EY (n:=mid+m_2-1) (by omega) (by omega)]
  have hp:Tot (aF slf (a_1,m_2,b_3,mid,mid+m_2,decide (mid<m_2))) fun r:Int×Int=>0<=r.1/\a_1<=r.1/\mid+m_2-b_3<=r.1/\r.1<=r.2/\r.2<=m_2/\r.2<=mid+m_2/\mid+m_2-1-r.1<data_0.length:=by
   unfold aF;dsimp only;refine E3.2 ⟨fun hc=>E2.2 ?_,fun hc=>E2.2 ?_⟩
   ·have hc:=A6 hc;rw[EY (by omega) (by omega)];dsimp only;omega
   ·have hc:=AF hc;dsimp only;omega
  refine E1.2 (hp.mono fun r20 hr=>?_);obtain⟨f1,f2,f3,f4,f5,f6,f7⟩:=hr;refine E1.2 ((AKP slf _ ⟨h0,f1,f4,by dsimp only;omega,by dsimp only;omega,f7,h5⟩).mono fun r26 hr=>?_);dsimp only at hr;obtain⟨e1,e2,e3⟩:=hr;rw[EY (n:=mid+m_2-r26.2) (by omega) (by omega)];refine E1.2 ((AKQ slf _ ⟨by dsimp only;rw[e1];exact h5,fun hc=>?_⟩).mono fun r29 hr=>?_)
  ·dsimp only at hc ⊢;rw[A5,AZ,AZ]at hc;rw[e1];omega
  dsimp only at hr;rw[e1]at hr;obtain⟨g1,g2⟩:=hr
  have hq:Tot (aH slf (r29,a_1,cmp_4,mid,r26.2,decide (a_1<r26.2)&&decide (r26.2<mid))) fun r:List E9=>r.length=data_0.length/\∀q∈r,q∈data_0:=by
   unfold aH;dsimp only;refine E3.2 ⟨fun hc=>?_,fun _=>E2.2 ⟨g1,g2⟩⟩;rw[A5,AZ,AZ]at hc;refine E1.2 ((ih _ ⟨h0,h1,by dsimp only;omega,by dsimp only;omega,by dsimp only;omega,by dsimp only;omega⟩ (by dsimp only;omega)).mono fun r31 hr=>E2.2 ?_);dsimp only at hr;exact⟨by omega,fun q hq=>g2 q (hr.2 q hq)⟩
  refine E1.2 (hq.mono fun r32 hr=>?_);obtain⟨k1,k2⟩:=hr;refine E3.2 ⟨fun hc=>?_,fun _=>E2.2 ⟨k1,k2⟩⟩;rw[A5,AZ,AZ]at hc;refine E1.2 ((ih _ ⟨h0,by dsimp only;omega,by dsimp only;omega,by dsimp only;omega,by dsimp only;omega,by dsimp only;omega⟩ (by dsimp only;omega)).mono fun r34 hr=>E2.2 ?_);dsimp only at hr;exact⟨by omega,fun q hq=>k2 q (hr.2 q hq)⟩
theorem AKS:∀(n:Nat) (x:(List E9)×Int×Int×Int×H0) (h:(∀p,Tot (x.2.2.2.2 p) fun _=>True)/\0<=x.2.1/\x.2.1<x.2.2.1/\x.2.2.1<x.2.2.2.1/\x.2.2.2.1<=x.1.length/\x.1.length<=1048576) (hK:x.2.2.2.1-x.2.1<=2 ^ n),Tot (K8 n x) (fun r:List E9=>r.length=x.1.length/\∀q∈r,q∈x.1):=by
 intro n;induction n with
 |zero=>
  intro x h hK;obtain⟨_,h1,h2,h3,_,_⟩:=h;rw[Int.pow_zero]at hK;omega
 |succ n ih=>
  intro x h hK;refine AKR (K8 n) (2 ^ n) (fun y hy hk=>ih y hy hk) x h ?_;rw[Int.pow_succ]at hK;omega
theorem A4X(x:(List E9)×Int×Int×Int×H0)(h:(∀p,Tot (x.2.2.2.2 p) fun _=>True)/\0<=x.2.1/\x.2.1<x.2.2.1/\x.2.2.1<x.2.2.2.1/\x.2.2.2.1<=x.1.length/\x.1.length<=1048576):Tot (UF x) (fun r:List E9=>r.length=x.1.length/\∀q∈r,q∈x.1):=by
 unfold UF;refine AKS 100 x h ?_;obtain⟨_,h1,h2,h3,h4,h5⟩:=h;have:(1048576:Int)<=2 ^ 100:=by decide
 omega
end Go.Ev.Pv
namespace Go.Ev.Pv
theorem pG:∀(x y:E0),Op.bytesLess x y=decide (x<y):=by
 intro x;induction x with
 |nil=>intro y;cases y<;>simp[Op.bytesLess]
 |cons a x ih=>
  intro y;cases y with
  |nil=>simp[Op.bytesLess]
  |cons b y=>
   rw[Op.bytesLess,ih y];simp only[List.cons_lt_cons_iff];by_cases h1:a<b<;>by_cases h2:a=b<;>by_cases h3:x<y<;>simp[h1,h2,h3]
theorem I4(a:E0):¬a<a:=List.lt_irrefl a
theorem NQ{a b c:E0}(h1:a<b)(h2:b<c):a<c:=List.lt_trans h1 h2
theorem U_(a b:E0):a<b\/a=b\/b<a:=by
 by_cases h1:a<b
 ·exact Or.inl h1
 ·by_cases h2:b<a
  ·exact Or.inr (Or.inr h2)
  ·exact Or.inr (Or.inl (List.le_antisymm (List.not_lt.1 h2) (List.not_lt.1 h1)))
theorem AKT{a b c:E0}(h1:¬a<b)(h2:¬b<c):¬a<c:=by
 intro h;rcases U_ a b with h3|h3|h3
 ·exact h1 h3
 ·subst h3;exact h2 h
 ·exact h2 (NQ h3 h)
theorem cS{a b:E0}(h1:a<b):¬b<a:=fun h2=>I4 a (NQ h1 h2)
def JP(a b:E0):Int:=if a<b then -1 else if a=b then 0 else 1
theorem A4Y(a b:E0):LY (a,b)=some (JP a b):=by
 unfold LY QK JP;have e:∀s:E0,EW s s=true:=fun s=>by rw[EA];simp
 simp only[e,BV,A1,AE,pG,EA];by_cases h2:a=b
 ·subst h2;simp[I4]
 ·by_cases h1:a<b<;>simp[h1,h2]
theorem AKU(a b:E0):JP a b<0<->a<b:=by
 unfold JP;by_cases h2:a=b
 ·subst h2;simp[I4]
 ·by_cases h1:a<b<;>simp[h1,h2]
def cT(a b:Int):Int:=if a<b then -1 else if b<a then 1 else 0
theorem A4Z(a b:Int):QR (a,b)=some (cT a b):=by
 unfold QR ZM cT;have e:∀s:Int,E6 s s=true:=fun s=>by rw[E4];simp
 simp only[e,BV,A1,AE];by_cases h1:a<b<;>by_cases h2:b<a<;>simp[h1,h2]
section
variable{T:Type}
theorem AKV(xs:List T)(F:T×T->Option Int)(h:TI xs F):Tot (OF xs F) (fun r=>r.Perm xs/\r.Pairwise (fun a b=>∀c,F (b,a)=some c->0<=c)):=by
 unfold OF;split
 ·rename_i h0;unfold HQ;rw[A7 h];refine E2.2 ?_
  letI:Inhabited (Fin xs.length):=⟨⟨0,h0⟩⟩
  have hs:Sort.SWO (IA xs F):=⟨h.2.1,h.2.2.1,h.2.2.2⟩;have hp:=Sort.pdq_sorts (IA xs F) hs (Array.ofFn id) 0 xs.length (Lib.bitLen xs.length) true true (BQ _) (by simp) (Or.inl rfl);have e:J8 xs F h0=Sort.pdq (IA xs F) (Array.ofFn id) 0 xs.length (Lib.bitLen xs.length) true true:=vA xs F h0;rw[e];generalize Sort.pdq (IA xs F) (Array.ofFn id) 0 xs.length (Lib.bitLen xs.length) true true=d at hp;obtain⟨⟨h1,_,h3⟩,h4⟩:=hp;have hsz:d.size=xs.length:=by rw[h1];simp
  have e1:d.extract 0 xs.length=d:=by
   have:=Array.extract_size (xs:=d);rwa[hsz]at this
  have e2:(Array.ofFn (id:Fin xs.length->Fin xs.length)).extract 0 xs.length=Array.ofFn id:=by
   have:=Array.extract_size (xs:=Array.ofFn (id:Fin xs.length->Fin xs.length));rwa[Array.size_ofFn]at this
  rw[e1,e2]at h3;constructor
  ·have h5:=h3.map xs.get
   have e3:(Array.ofFn (id:Fin xs.length->Fin xs.length)).toList.map xs.get=xs:=by
    rw[Array.toList_ofFn,List.map_ofFn];apply List.ext_getElem
    ·simp
    ·intro i h1 h2;simp
   rwa[e3]at h5
  ·rw[List.pairwise_map,CS];intro i j hi hj hij c hc;have hl:d.toList.length=xs.length:=by rw[BU];exact hsz
   have h6:=h4 i j (BQ _) hij (by omega);rw[getElem!_pos d i (by omega),getElem!_pos d j (by omega)]at h6;unfold IA MF at h6;rw[Array.getElem_toList,Array.getElem_toList]at hc;rw[hc]at h6;simpa using h6
 ·rename_i h0;have:xs=[]:=CW.1 (by omega);subst this;exact E2.2 ⟨List.Perm.refl _,List.Pairwise.nil⟩
end
abbrev Edge:=Int×E0×Bool×E0
abbrev HH:=Edge×Edge
def eo(a b:Edge):Int:=if a.1≠b.1\/a.1≠0 then cT a.1 b.1 else if JP a.2.1 b.2.1≠0\/a.2.2.1=b.2.2.1 then JP a.2.1 b.2.1 else if a.2.2.1 then 1 else -1
theorem A4_(a b:Edge):KR (a,b)=some (eo a b):=by
 unfold KR eo;dsimp only;rw[A4Z,A4Y];simp only[A1,E4];by_cases h1:a.1=b.1
 ·by_cases h2:a.1=0
  ·have hb:IV a.2.2.1 b.2.2.1=decide (a.2.2.1=b.2.2.1):=by cases a.2.2.1<;>cases b.2.2.1<;>rfl
   rw[hb];by_cases h3:JP a.2.1 b.2.1=0<;>by_cases h4:a.2.2.1=b.2.2.1<;>simp[<-h1,h2,h3,h4]<;>(cases a.2.2.1<;>simp)
  ·simp[<-h1,h2]
 ·simp[h1]
def JA(a b:Edge):Prop:=a.1<b.1\/(a.1=b.1/\a.1=0/\(a.2.1<b.2.1\/(a.2.1=b.2.1/\a.2.2.1=false/\b.2.2.1=true)))
theorem A4a(a b:Edge):eo a b<0<->JA a b:=by
 unfold eo JA cT;by_cases h1:a.1=b.1
 ·by_cases h2:a.1=0
  ·have hb:b.1=0:=by omega
   have g1:¬(a.1≠b.1\/a.1≠0):=by omega
   rw[if_neg g1];rcases U_ a.2.1 b.2.1 with h3|h3|h3
   ·have:JP a.2.1 b.2.1= -1:=by unfold JP;rw[if_pos h3]
    rw[this];simp[h1,hb,h3]
   ·have:JP a.2.1 b.2.1=0:=by unfold JP;rw[if_neg (by rw[h3];exact I4 _),if_pos h3]
    rw[this,h3];cases ha:a.2.2.1<;>cases hb':b.2.2.1<;>simp[h1,hb,I4]
   ·have e:¬a.2.1=b.2.1:=fun e=>by rw[e]at h3;exact I4 _ h3
    have:JP a.2.1 b.2.1=1:=by unfold JP;rw[if_neg (cS h3),if_neg e]
    rw[this];simp[h1,hb,cS h3,e]
  ·have hb:¬b.1=0:=by omega
   simp[h1,hb]
 ·simp only[ne_eq,h1,not_false_eq_true,true_or,if_true,DW,or_false];by_cases h2:a.1<b.1
  ·simp[h2]
  ·by_cases h3:b.1<a.1
   ·simp[h2,h3]
   ·omega
instance(a b:Edge):Decidable (JA a b):=by unfold JA;infer_instance
theorem AKW(a:Edge):¬JA a a:=by
 rintro(h|⟨_,_,h|⟨_,h1,h2⟩⟩)
 ·omega
 ·exact I4 _ h
 ·rw[h1]at h2;cases h2
theorem AKX{a b c:Edge}(h1:JA a b)(h2:JA b c):JA a c:=by
 unfold JA at *;rcases h1 with h1|⟨p1,p2,p3⟩
 ·rcases h2 with h2|⟨q1,q2,q3⟩<;>exact Or.inl (by omega)
 ·rcases h2 with h2|⟨q1,q2,q3⟩
  ·exact Or.inl (by omega)
  ·refine Or.inr ⟨by omega,p2,?_⟩;rcases p3 with p3|⟨p3,p4,p5⟩
   ·rcases q3 with q3|⟨q3,q4,q5⟩
    ·exact Or.inl (NQ p3 q3)
    ·exact Or.inl (q3▸p3)
   ·rcases q3 with q3|⟨q3,q4,q5⟩
    ·exact Or.inl (p3▸q3)
    ·rw[p5]at q4;cases q4
theorem AKY{a b c:Edge}(h1:¬JA a b)(h2:¬JA b c):¬JA a c:=by
 intro h;unfold JA at *;simp only[not_or,not_and]at h1 h2;obtain⟨a1,a2⟩:=h1;obtain⟨b1,b2⟩:=h2;rcases h with h|⟨p1,p2,p3⟩
 ·omega
 ·have e1:a.1=b.1:=by omega
  have e2:b.1=c.1:=by omega
  obtain⟨a3,a4⟩:=a2 e1 p2;obtain⟨b3,b4⟩:=b2 e2 (by omega);rcases p3 with p3|⟨p3,p4,p5⟩
  ·exact AKT a3 b3 p3
  ·rcases U_ a.2.1 b.2.1 with g|g|g
   ·exact a3 g
   ·have g2:b.2.1=c.2.1:=g▸p3;have:=a4 g p4;have:=b4 g2 (by cases hb:b.2.2.1<;>simp_all);exact this p5
   ·exact b3 (p3▸g)
theorem AKZ(xs:List HH):Tot (hP (xs,fun x=>(MS x).bind fun r=>some r)) (fun r=>r.Perm xs/\r.Pairwise fun a b=>¬JA b.1 a.1):=by
 have hF:∀a b:HH,(MS (a,b)).bind (fun r=>some r)=some (eo a.1 b.1):=by
  intro a b;unfold MS;dsimp only;rw[A4_];rfl
 have e:∀i j,IA xs (fun x=>(MS x).bind fun r=>some r) i j=decide (JA (xs.get i).1 (xs.get j).1):=by
  intro i j;unfold IA MF;show decide ((((MS (xs.get i,xs.get j)).bind fun r=>some r).getD 0)<0)=_;rw[hF];simp only[DE];exact decide_eq_decide.2 (A4a _ _)
 have hs:TI xs (fun x=>(MS x).bind fun r=>some r):=by
  refine⟨fun i j=>by show((MS (xs.get i,xs.get j)).bind fun r=>some r).isSome=true;rw[hF];rfl,fun i=>?_,fun i j k=>?_,fun i j k=>?_⟩
  ·rw[e];simp[AKW]
  ·rw[e,e,e];simp only[AZ];exact AKX
  ·rw[e,e,e];simp only[DG];exact AKY
 refine(AKV xs _ hs).mono fun r hr=>⟨hr.1,hr.2.imp fun {a b} h hlt=>?_⟩;have:=h _ (hF b a);have:=(A4a b.1 a.1).2 hlt;omega
end Go.Ev.Pv
namespace Go.Ev.Pv
abbrev Af:=E0×Int×HZ×(List E0)×(List E0)
abbrev KT:=E0×(List E0)×E0×Int×Bool×E0×(List Af)
abbrev Bnd:=Bool×Bool×E0
abbrev NR:=Bnd×Bnd
def M_(a:Af):Prop:=a.1.length<=1048576/\a.2.2.1.length<=1048576/\(∀v∈a.2.2.1,v.2.length<=1048576)/\a.2.2.2.1.length<=1048576/\(∀s∈a.2.2.2.1,s.length<=1048576)/\a.2.2.2.2.length<=1048576/\(∀s∈a.2.2.2.2,s.length<=1048576)
def pH(a:Af):Prop:=a.2.2.1.length<=100/\(∀v∈a.2.2.1,1<=v.1/\v.1<=3)/\a.2.2.2.1.length<=500
def N0(a:KT):Prop:=a.1.length<=1048576/\a.2.1.length<=1048576/\(∀s∈a.2.1,s.length<=1048576)/\a.2.2.1.length<=1048576/\a.2.2.2.2.2.1.length<=1048576/\a.2.2.2.2.2.2.length<=1048576/\∀x∈a.2.2.2.2.2.2,M_ x
abbrev H8(s:NR):Prop:=s.1.2.2.length<=100/\s.2.2.2.length<=100
abbrev H3(s:HH):Prop:=s.1.2.2.2.length<=100/\s.2.2.2.2.length<=100
theorem N1{α:Type}{l:List α}{i:Nat}{x:α}(h:l[i]?=some x):x∈l:=B0 h
theorem AK_(x:Int×Int)(h:True):Tot (QR x) fun _=>True:=⟨_,A4Z x.1 x.2,trivial⟩
theorem O_(x:Edge×Edge)(h:True):Tot (KR x) fun _=>True:=⟨_,A4_ x.1 x.2,trivial⟩
end Go.Ev.Pv
namespace Go.Ev.Pv
theorem cU(x:E0)(h:x.length<=1048576):Tot (OK x) (fun r:Int×Bool=>0<=r.1/\r.1<=999999999999999999):=by
 unfold OK
 repeat' first
  |(with_reducible first|refine E3.2 ⟨fun _=>?_,fun _=>?_⟩|refine E1.2 ?_|refine E2.2 ?_|refine F0.2 ⟨?_,fun _ _=>?_⟩|refine(JO _ ?_).mono fun _ _=>?_)
  |dsimp only
 all_goals grind[ED,EC,EG,EA,E4,EF,EE,EB,EH,EI,EP,EL,ER,ES,ET,EU,EV]
theorem A4b(x:Int)(h:True):Tot (YG x) (fun r:Bool=>True):=by
 unfold YG
 repeat' first
  |(with_reducible first|refine E3.2 ⟨fun _=>?_,fun _=>?_⟩|refine E1.2 ?_|refine E2.2 ?_|refine(H2 _ ?_).mono fun _ _=>?_|refine(I3 _ ?_).mono fun _ _=>?_)
  |dsimp only
 all_goals grind[ED,EC,EG,EA,E4,EF,EE,EB,EH,EI,EP,EL,ER,ES,ET,EU,EV]
theorem AKa(x:(List E0)×Int×Int)(h:0<=x.2.2/\x.2.2<=x.2.1/\x.2.1=x.1.length/\x.2.1<=281474976710656/\∀s∈x.1,s.length<=1000):Tot (jE x) (fun r:Sum (Unit) K6=>∀y,r=.inr y->y.1=[]/\y.2=false):=by
 refine F4 (R:=fun r:Sum (Unit) K6=>∀y,r=.inr y->y.1=[]/\y.2=false) (fun y:(List E0)×Int×Int=>(0<=y.2.2/\y.2.2<=y.2.1/\y.2.1=y.1.length/\y.2.1<=281474976710656/\∀s∈y.1,s.length<=1000)) (fun y:(List E0)×Int×Int=>(y.2.1-y.2.2).toNat) ?_ _ _ (by grind) (by unfold fuel;grind);rintro next ⟨t9,t10,t11⟩ h hn
 try dsimp only at h hn
 unfold wD
 repeat' first
  |(with_reducible first|refine E3.2 ⟨fun _=>?_,fun _=>?_⟩|refine E1.2 ?_|refine E2.2 ?_|refine F0.2 ⟨?_,fun _ _=>?_⟩|refine(A4b _ ?_).mono fun _ _=>?_|refine(LI _ ?_ ?_).mono fun _ _=>?_)
  |exact fun c=>GT (H2 c trivial)
  |exact fun c=>GT (I3 c trivial)
  |exact fun c=>GT (A4b c trivial)
  |with_reducible refine hn _ ?_ ?_
  |dsimp only
 all_goals grind[ED,EC,EG,EA,E4,EF,EE,EB,EH,EI,EP,EL,ER,ES,ET,EU,EV]
theorem A4c(x:E0)(h:x.length<=1000):Tot (TX x) (fun r:(List E0)×Bool=>LS r.1):=by
 unfold TX
 repeat' first
  |(with_reducible first|refine E1.2 ?_|refine E2.2 ?_|refine(A4E _ ?_).mono fun _ _=>?_|refine(AKa _ ?_).mono fun _ _=>?_)
  |split
  |dsimp only
 all_goals grind[ED,EC,EG,EA,E4,EF,EE,EB,EH,EI,EP,EL,ER,ES,ET,EU,EV]
theorem AKb(x:(List E0)×Int×Int)(h:0<=x.2.2/\x.2.2<=x.2.1/\x.2.1=x.1.length/\x.2.1<=281474976710656/\∀s∈x.1,s.length<=1000):Tot (jF x) (fun r:Sum (Unit) K6=>∀y,r=.inr y->y.1=[]/\y.2=false):=by
 refine F4 (R:=fun r:Sum (Unit) K6=>∀y,r=.inr y->y.1=[]/\y.2=false) (fun y:(List E0)×Int×Int=>(0<=y.2.2/\y.2.2<=y.2.1/\y.2.1=y.1.length/\y.2.1<=281474976710656/\∀s∈y.1,s.length<=1000)) (fun y:(List E0)×Int×Int=>(y.2.1-y.2.2).toNat) ?_ _ _ (by grind) (by unfold fuel;grind);rintro next ⟨t15,t16,t17⟩ h hn
 try dsimp only at h hn
 unfold wE
 repeat' first
  |(with_reducible first|refine E3.2 ⟨fun _=>?_,fun _=>?_⟩|refine E1.2 ?_|refine E2.2 ?_|refine F0.2 ⟨?_,fun _ _=>?_⟩|refine(H2 _ ?_).mono fun _ _=>?_|refine(cU _ ?_).mono fun _ _=>?_|refine(LI _ ?_ ?_).mono fun _ _=>?_)
  |exact fun c=>GT (H2 c trivial)
  |exact fun c=>GT (I3 c trivial)
  |with_reducible refine hn _ ?_ ?_
  |dsimp only
 all_goals grind[ED,EC,EG,EA,E4,EF,EE,EB,EH,EI,EP,EL,ER,ES,ET,EU,EV]
theorem AKc(x:E0)(h:x.length<=1000):Tot (YH x) (fun r:(List E0)×Bool=>LS r.1):=by
 unfold YH
 repeat' first
  |(with_reducible first|refine E1.2 ?_|refine E2.2 ?_|refine(A4c _ ?_).mono fun _ _=>?_|refine(AKb _ ?_).mono fun _ _=>?_)
  |split
  |dsimp only
 all_goals grind[ED,EC,EG,EA,E4,EF,EE,EB,EH,EI,EP,EL,ER,ES,ET,EU,EV]
theorem AKd(x:E0)(h:x.length<=1000):Tot (YI x) (fun r:(List E0)×Bool=>LS r.1):=by
 unfold YI
 repeat' first
  |(with_reducible first|refine E3.2 ⟨fun _=>?_,fun _=>?_⟩|refine E1.2 ?_|refine E2.2 ?_|refine F0.2 ⟨?_,fun _ _=>?_⟩|refine HG.2 ⟨?_,?_⟩|refine(A4S _ ?_).mono fun _ _=>?_|refine(A4c _ ?_).mono fun _ _=>?_|refine(AKc _ ?_).mono fun _ _=>?_)
  |dsimp only
 all_goals grind[ED,EC,EG,EA,E4,EF,EE,EB,EH,EI,EP,EL,ER,ES,ET,EU,EV]
theorem AKe(x:E0×Int×Bool)(h:0<=x.2.1/\x.2.1<=x.1.length/\x.1.length<=1000):Tot (YJ x) (fun r:Sum (Int) (GY×Bool)=>(∀y,r=.inl y->0<=y/\y<=x.1.length)/\∀y,r=.inr y->y.2=false):=by
 obtain⟨s_0,at_5,t16⟩:=x;try dsimp only at h ⊢
 unfold YJ
 repeat' first
  |(with_reducible first|refine E3.2 ⟨fun _=>?_,fun _=>?_⟩|refine E1.2 ?_|refine E2.2 ?_|refine F0.2 ⟨?_,fun _ _=>?_⟩)
  |dsimp only
 all_goals grind[ED,EC,EG,EA,E4,EF,EE,EB,EH,EI,EP,EL,ER,ES,ET,EU,EV]
theorem AKf(x:E0×LE×Int×Int)(h:0<=x.2.2.2/\x.2.2.2<=3/\0<=x.2.2.1/\x.2.2.1<=x.1.length/\x.1.length<=1000/\x.2.1.1.length=3/\(∀n∈x.2.1.1,0<=n/\n<=999999999999999999)):Tot (jG x) (fun r:Sum (LE×Int) (GY×Bool)=>(∀y,r=.inl y->y.1.1.length=3/\(∀n∈y.1.1,0<=n/\n<=999999999999999999)/\0<=y.2/\y.2<=x.1.length)/\∀y,r=.inr y->y.2=false):=by
 refine F4 (R:=fun r:Sum (LE×Int) (GY×Bool)=>(∀y,r=.inl y->y.1.1.length=3/\(∀n∈y.1.1,0<=n/\n<=999999999999999999)/\0<=y.2/\y.2<=x.1.length)/\∀y,r=.inr y->y.2=false) (fun y:E0×LE×Int×Int=>(0<=y.2.2.2/\y.2.2.2<=3/\0<=y.2.2.1/\y.2.2.1<=y.1.length/\y.1.length<=1000/\y.2.1.1.length=3/\(∀n∈y.2.1.1,0<=n/\n<=999999999999999999))/\y.1=x.1) (fun y:E0×LE×Int×Int=>(3-y.2.2.2).toNat) ?_ _ _ (by grind) (by unfold fuel;grind);rintro next ⟨s_0,v_4,at_5,t12⟩ h hn
 try dsimp only at h hn
 unfold wF
 repeat' first
  |(with_reducible first|refine E3.2 ⟨fun _=>?_,fun _=>?_⟩|refine E1.2 ?_|refine E2.2 ?_|refine FF.2 ⟨?_,?_⟩|refine HG.2 ⟨?_,?_⟩|refine(AKe _ ?_).mono fun _ _=>?_|refine(H2 _ ?_).mono fun _ _=>?_|refine(cU _ ?_).mono fun _ _=>?_|refine(LI _ ?_ ?_).mono fun _ _=>?_)
  |exact fun c=>GT (H2 c trivial)
  |exact fun c=>GT (I3 c trivial)
  |with_reducible refine hn _ ?_ ?_
  |split
  |dsimp only
 all_goals grind[ED,EC,EG,EA,E4,EF,EE,EB,EH,EI,EP,EL,ER,ES,ET,EU,EV]
theorem AKg(x:E0)(h:x.length<=1000):Tot (YK x) (fun r:GY×Bool=>r.2=true->J3 r.1):=by
 unfold YK
 repeat' first
  |(with_reducible first|refine E1.2 ?_|refine E2.2 ?_|refine HG.2 ⟨?_,?_⟩|refine(AKf _ ?_).mono fun _ _=>?_|refine(AKd _ ?_).mono fun _ _=>?_)
  |split
  |dsimp only
 all_goals grind[ED,EC,EG,EA,E4,EF,EE,EB,EH,EI,EP,EL,ER,ES,ET,EU,EV,AK7]
theorem A4d(x:Int)(h:True):Tot (YL x) (fun r:Bool=>True):=by
 unfold YL
 repeat' first
  |(with_reducible first|refine E3.2 ⟨fun _=>?_,fun _=>?_⟩|refine E1.2 ?_|refine E2.2 ?_|refine(H2 _ ?_).mono fun _ _=>?_|refine(I3 _ ?_).mono fun _ _=>?_|refine(OX _ ?_).mono fun _ _=>?_)
  |dsimp only
 all_goals grind[ED,EC,EG,EA,E4,EF,EE,EB,EH,EI,EP,EL,ER,ES,ET,EU,EV]
theorem AKh(x:E0×Int)(h:0<=x.2/\x.2<=x.1.length/\x.1.length<=1000):Tot (jH x) (fun r:Sum (Unit) (Bool)=>True):=by
 refine F4 (R:=fun r:Sum (Unit) (Bool)=>True) (fun y:E0×Int=>(0<=y.2/\y.2<=y.1.length/\y.1.length<=1000)/\y.1=x.1) (fun y:E0×Int=>(y.1.length-y.2:Int).toNat) ?_ _ _ (by grind) (by unfold fuel;grind);rintro next ⟨s_0,at_3⟩ h hn
 try dsimp only at h hn
 unfold wG
 repeat' first
  |(with_reducible first|refine E3.2 ⟨fun _=>?_,fun _=>?_⟩|refine E1.2 ?_|refine E2.2 ?_|refine(H2 _ ?_).mono fun _ _=>?_|refine(LI _ ?_ ?_).mono fun _ _=>?_)
  |exact fun c=>GT (H2 c trivial)
  |exact fun c=>GT (I3 c trivial)
  |with_reducible refine hn _ ?_ ?_
  |dsimp only
 all_goals grind[ED,EC,EG,EA,E4,EF,EE,EB,EH,EI,EP,EL,ER,ES,ET,EU,EV,SJ]
theorem AKi(x:E0)(h:x.length<=1000):Tot (YM x) (fun r:Bool=>True):=by
 unfold YM
 repeat' first
  |(with_reducible first|refine E1.2 ?_|refine E2.2 ?_|refine(AKh _ ?_).mono fun _ _=>?_)
  |split
  |dsimp only
 all_goals grind[ED,EC,EG,EA,E4,EF,EE,EB,EH,EI,EP,EL,ER,ES,ET,EU,EV]
theorem AKj(x:E0×KP×E0×E0×Bool)(h:x.1.length<=1000/\x.2.2.2.1.length<=1000/\x.2.2.1.length<=1000/\x.2.1.1=0):Tot (YN x) (fun r:Sum (E0×KP) (GY×Bool)=>(∀y,r=.inl y->y.1.length<=1000/\0<=y.2.1/\y.2.1<=999999999999999999/\y.2.2=x.2.1.2)/\∀y,r=.inr y->y.2=false):=by
 obtain⟨s_0,v_4,epoch_5,rest_6,t18⟩:=x;try dsimp only at h ⊢
 unfold YN
 repeat' first
  |(with_reducible first|refine E3.2 ⟨fun _=>?_,fun _=>?_⟩|refine E1.2 ?_|refine E2.2 ?_|refine(cU _ ?_).mono fun _ _=>?_)
  |dsimp only
 all_goals grind[ED,EC,EG,EA,E4,EF,EE,EB,EH,EI,EP,EL,ER,ES,ET,EU,EV]
set_option maxHeartbeats 4000000 in
theorem AKk(x:E0)(h:x.length<=1000):Tot (YO x) (fun r:GY×Bool=>r.2=true->J3 r.1):=by
 unfold YO
 repeat' first
  |(with_reducible first|refine E3.2 ⟨fun _=>?_,fun _=>?_⟩|refine E1.2 ?_|refine E2.2 ?_|refine F0.2 ⟨?_,fun _ _=>?_⟩|refine HG.2 ⟨?_,?_⟩|refine(A4S _ ?_).mono fun _ _=>?_|refine(AKj _ ?_).mono fun _ _=>?_|refine(H2 _ ?_).mono fun _ _=>?_|refine(A4d _ ?_).mono fun _ _=>?_|refine(AKi _ ?_).mono fun _ _=>?_|refine(AJv _ ?_).mono fun _ _=>?_|refine(OX _ ?_).mono fun _ _=>?_|refine(LI _ ?_ ?_).mono fun _ _=>?_)
  |exact fun c=>GT (H2 c trivial)
  |exact fun c=>GT (I3 c trivial)
  |exact fun c=>GT (A4d c trivial)
  |split
  |dsimp only
 all_goals grind[ED,EC,EG,EA,E4,EF,EE,EB,EH,EI,EP,EL,ER,ES,ET,EU,EV,AK8]
theorem AKl(x:E0×(List Int))(h:x.1.length<=1000/\x.2.length+x.1.length<=1001/\(∀n∈x.2,0<=n/\n<=999999999999999999)):Tot (jI x) (fun r:(List Int)×E0×Bool=>NS r.1/\r.2.1.length<=1000):=by
 refine F4 (R:=fun r:(List Int)×E0×Bool=>NS r.1/\r.2.1.length<=1000) (fun y:E0×(List Int)=>(y.1.length<=1000/\y.2.length+y.1.length<=1001/\(∀n∈y.2,0<=n/\n<=999999999999999999))) (fun y:E0×(List Int)=>y.1.length) ?_ _ _ (by grind) (by unfold fuel;grind);rintro next ⟨s_0,out_5⟩ h hn
 try dsimp only at h hn
 unfold wH
 repeat' first
  |(with_reducible first|refine E3.2 ⟨fun _=>?_,fun _=>?_⟩|refine E1.2 ?_|refine E2.2 ?_|refine F0.2 ⟨?_,fun _ _=>?_⟩|refine HG.2 ⟨?_,?_⟩|refine GH.2 ⟨?_,?_⟩|refine(H2 _ ?_).mono fun _ _=>?_|refine(JO _ ?_).mono fun _ _=>?_|refine(LI _ ?_ ?_).mono fun _ _=>?_)
  |exact fun c=>GT (H2 c trivial)
  |exact fun c=>GT (I3 c trivial)
  |with_reducible refine hn _ ?_ ?_
  |dsimp only
 all_goals grind[ED,EC,EG,EA,E4,EF,EE,EB,EH,EI,EP,EL,ER,ES,ET,EU,EV]
theorem AKm(x:E0)(h:x.length<=1000):Tot (YP x) (fun r:(List Int)×E0×Bool=>NS r.1/\r.2.1.length<=1000):=by
 unfold YP
 repeat' first
  |(with_reducible first|refine E1.2 ?_|refine E2.2 ?_|refine(AKl _ ?_).mono fun _ _=>?_)
  |dsimp only
 all_goals grind[ED,EC,EG,EA,E4,EF,EE,EB,EH,EI,EP,EL,ER,ES,ET,EU,EV]
theorem AKn(x:E0×LV)(h:∀c,Tot (x.2 c) fun _=>True):Tot (TY x) (fun r:Int=>0<=r/\r<=1/\r<=x.1.length):=by
 obtain⟨s_0,is_1⟩:=x;try dsimp only at h ⊢
 unfold TY
 repeat' first
  |(with_reducible first|refine E3.2 ⟨fun _=>?_,fun _=>?_⟩|refine E1.2 ?_|refine E2.2 ?_|refine F0.2 ⟨?_,fun _ _=>?_⟩|refine(AKE _ ?_).mono fun _ _=>?_|refine(h _).mono fun _ _=>?_)
  |dsimp only
 all_goals grind[ED,EC,EG,EA,E4,EF,EE,EB,EH,EI,EP,EL,ER,ES,ET,EU,EV]
theorem AKo(x:E0×E0×(List E0)×Int×Int)(h:0<=x.2.2.2.2/\x.2.2.2.2<=x.2.2.2.1/\x.2.2.2.1=x.2.2.1.length/\x.2.2.2.1<=281474976710656/\x.2.1=[]):Tot (jK x) (fun r:E0=>r.length<=x.1.length):=by
 refine F4 (R:=fun r:E0=>r.length<=x.1.length) (fun y:E0×E0×(List E0)×Int×Int=>(0<=y.2.2.2.2/\y.2.2.2.2<=y.2.2.2.1/\y.2.2.2.1=y.2.2.1.length/\y.2.2.2.1<=281474976710656/\y.2.1=[])/\y.1=x.1/\y.2.1=x.2.1) (fun y:E0×E0×(List E0)×Int×Int=>(y.2.2.2.1-y.2.2.2.2).toNat) ?_ _ _ (by grind) (by unfold fuel;grind);rintro next ⟨s_0,word_2,t7,t8,t9⟩ h hn
 try dsimp only at h hn
 unfold wI
 repeat' first
  |(with_reducible first|refine E3.2 ⟨fun _=>?_,fun _=>?_⟩|refine E1.2 ?_|refine E2.2 ?_|refine F0.2 ⟨?_,fun _ _=>?_⟩|refine(AJs _ ?_).mono fun _ _=>?_|refine hn _ ?_ ?_)
  |dsimp only
 all_goals grind[ED,EC,EG,EA,E4,EF,EE,EB,EH,EI,EP,EL,ER,ES,ET,EU,EV]
theorem AKp(x:E0×Bool)(h:True):Tot (YQ x) (fun r:Bool=>True):=by
 obtain⟨t18,t21⟩:=x;try dsimp only at h ⊢
 unfold YQ
 repeat' first
  |(with_reducible first|refine E3.2 ⟨fun _=>?_,fun _=>?_⟩|refine E2.2 ?_)
  |dsimp only
 all_goals grind[ED,EC,EG,EA,E4,EF,EE,EB,EH,EI,EP,EL,ER,ES,ET,EU,EV]
theorem AKq(x:E0×Bool)(h:True):Tot (YR x) (fun r:Bool=>True):=by
 obtain⟨t18,t25⟩:=x;try dsimp only at h ⊢
 unfold YR
 repeat' first
  |(with_reducible first|refine E3.2 ⟨fun _=>?_,fun _=>?_⟩|refine E2.2 ?_)
  |dsimp only
 all_goals grind[ED,EC,EG,EA,E4,EF,EE,EB,EH,EI,EP,EL,ER,ES,ET,EU,EV]
theorem AKr(x:E0×Bool)(h:True):Tot (YS x) (fun r:Bool=>True):=by
 obtain⟨t18,t29⟩:=x;try dsimp only at h ⊢
 unfold YS
 repeat' first
  |(with_reducible first|refine E3.2 ⟨fun _=>?_,fun _=>?_⟩|refine E2.2 ?_)
  |dsimp only
 all_goals grind[ED,EC,EG,EA,E4,EF,EE,EB,EH,EI,EP,EL,ER,ES,ET,EU,EV]
theorem AKs(x:E0)(h:True):Tot (YT x) (fun r:E0×Int×Int=>x.length<=281474976710656->r.1.length<=x.length/\(r.1≠[]->1<=r.2.1)/\r.2.1<=3/\0<=r.2.2/\r.2.2<=3):=by
 unfold YT
 repeat' first
  |(with_reducible first|refine E3.2 ⟨fun _=>?_,fun _=>?_⟩|refine E1.2 ?_|refine E2.2 ?_|refine(AKo _ ?_).mono fun _ _=>?_|refine(AKp _ ?_).mono fun _ _=>?_|refine(AKq _ ?_).mono fun _ _=>?_|refine(AKr _ ?_).mono fun _ _=>?_)
  |dsimp only
 all_goals grind[ED,EC,EG,EA,E4,EF,EE,EB,EH,EI,EP,EL,ER,ES,ET,EU,EV]
theorem AKt(x:E0×Int×Int×Bool)(h:0<=x.2.2.1/\x.2.2.1<=x.1.length/\x.1.length<=1000/\0<=x.2.1/\x.2.1<=999999999999999999):Tot (YU x) (fun r:Sum (E0×Int) (E0×Bool)=>(∀y,r=.inl y->y.1.length<=x.1.length/\0<=y.2/\y.2<=999999999999999999)/\∀y,r=.inr y->y.2=false/\y.1=[]):=by
 obtain⟨rest_7,n_11,k_12,t49⟩:=x;try dsimp only at h ⊢
 unfold YU
 repeat' first
  |(with_reducible first|refine E3.2 ⟨fun _=>?_,fun _=>?_⟩|refine E1.2 ?_|refine E2.2 ?_|refine HG.2 ⟨?_,?_⟩|refine(H2 _ ?_).mono fun _ _=>?_|refine(JO _ ?_).mono fun _ _=>?_|refine(LI _ ?_ ?_).mono fun _ _=>?_)
  |exact fun c=>GT (H2 c trivial)
  |exact fun c=>GT (I3 c trivial)
  |dsimp only
 all_goals grind[ED,EC,EG,EA,E4,EF,EE,EB,EH,EI,EP,EL,ER,ES,ET,EU,EV]
set_option maxHeartbeats 1000000 in
theorem AKu(x:G7×E0×Int)(h:x.2.1.length<=1000/\0<=x.2.2/\x.2.2<=3/\M2 x.1):Tot (jL x) (fun r:G7×E0×Bool=>M2 r.1/\r.2.1.length<=1000):=by
 refine F4 (R:=fun r:G7×E0×Bool=>M2 r.1/\r.2.1.length<=1000) (fun y:G7×E0×Int=>(y.2.1.length<=1000/\0<=y.2.2/\y.2.2<=3/\M2 y.1)) (fun y:G7×E0×Int=>(4-y.2.2).toNat) ?_ _ _ (by grind) (by unfold fuel;grind);rintro next ⟨v_0,s_1,last_6⟩ h hn
 try dsimp only at h hn
 unfold wJ
 repeat' first
  |(with_reducible first|refine E3.2 ⟨fun _=>?_,fun _=>?_⟩|refine E1.2 ?_|refine E2.2 ?_|refine F0.2 ⟨?_,fun _ _=>?_⟩|refine HG.2 ⟨?_,?_⟩|refine(AKn _ ?_).mono fun _ _=>?_|refine(I3 _ ?_).mono fun _ _=>?_|refine(AKs _ ?_).mono fun _ _=>?_|refine(H2 _ ?_).mono fun _ _=>?_|refine(AKt _ ?_).mono fun _ _=>?_)
  |exact fun c=>GT (H2 c trivial)
  |exact fun c=>GT (I3 c trivial)
  |with_reducible refine hn _ ?_ ?_
  |split
  |dsimp only
 all_goals grind[ED,EC,EG,EA,E4,EF,EE,EB,EH,EI,EP,EL,ER,ES,ET,EU,EV]
theorem AKv(x:G7×E0)(h:x.2.length<=1000/\M2 x.1):Tot (YV x) (fun r:E0×Bool×G7=>r.1.length<=1000/\M2 r.2.2):=by
 obtain⟨v_0,s_1⟩:=x;try dsimp only at h ⊢
 unfold YV
 repeat' first
  |(with_reducible first|refine E1.2 ?_|refine E2.2 ?_|refine(AKu _ ?_).mono fun _ _=>?_)
  |dsimp only
 all_goals grind[ED,EC,EG,EA,E4,EF,EE,EB,EH,EI,EP,EL,ER,ES,ET,EU,EV]
theorem A4e(x:Int)(h:True):Tot (YW x) (fun r:Bool=>True):=by
 unfold YW
 repeat' first
  |(with_reducible first|refine E3.2 ⟨fun _=>?_,fun _=>?_⟩|refine E1.2 ?_|refine E2.2 ?_|refine(H2 _ ?_).mono fun _ _=>?_|refine(I3 _ ?_).mono fun _ _=>?_)
  |dsimp only
 all_goals grind[ED,EC,EG,EA,E4,EF,EE,EB,EH,EI,EP,EL,ER,ES,ET,EU,EV]
theorem AKw(x:Int×(List E0)×Int×Int)(h:0<=x.2.2.2/\x.2.2.2<=x.2.2.1/\x.2.2.1=x.2.1.length/\x.2.2.1<=281474976710656/\0<=x.1/\x.1<=1048576+1000*x.2.2.2/\(∀s∈x.2.1,s.length<=1000)/\x.2.2.1<=1048576):Tot (jN x) (fun r:Sum (Int) K6=>∀y,r=.inr y->y.1=[]):=by
 refine F4 (R:=fun r:Sum (Int) K6=>∀y,r=.inr y->y.1=[]) (fun y:Int×(List E0)×Int×Int=>(0<=y.2.2.2/\y.2.2.2<=y.2.2.1/\y.2.2.1=y.2.1.length/\y.2.2.1<=281474976710656/\0<=y.1/\y.1<=1048576+1000*y.2.2.2/\(∀s∈y.2.1,s.length<=1000)/\y.2.2.1<=1048576)) (fun y:Int×(List E0)×Int×Int=>(y.2.2.1-y.2.2.2).toNat) ?_ _ _ (by grind) (by unfold fuel;grind);rintro next ⟨n_5,t13,t14,t15⟩ h hn
 try dsimp only at h hn
 unfold wK
 repeat' first
  |(with_reducible first|refine E3.2 ⟨fun _=>?_,fun _=>?_⟩|refine E1.2 ?_|refine E2.2 ?_|refine F0.2 ⟨?_,fun _ _=>?_⟩|refine(H2 _ ?_).mono fun _ _=>?_|refine(A4e _ ?_).mono fun _ _=>?_|refine(LI _ ?_ ?_).mono fun _ _=>?_)
  |exact fun c=>GT (H2 c trivial)
  |exact fun c=>GT (I3 c trivial)
  |exact fun c=>GT (A4e c trivial)
  |with_reducible refine hn _ ?_ ?_
  |dsimp only
 all_goals grind[ED,EC,EG,EA,E4,EF,EE,EB,EH,EI,EP,EL,ER,ES,ET,EU,EV]
theorem AKx(x:E0)(h:x.length<=1000):Tot (YX x) (fun r:(List E0)×Bool=>LS r.1):=by
 unfold YX
 repeat' first
  |(with_reducible first|refine E1.2 ?_|refine E2.2 ?_|refine(A4V _ ?_).mono fun _ _=>?_|refine(AKw _ ?_).mono fun _ _=>?_|refine(AK6 _ ⟨?_,?_⟩).mono fun _ _=>?_)
  |exact fun c=>GT (A4V c trivial)
  |split
  |dsimp only
 all_goals grind[ED,EC,EG,EA,E4,EF,EE,EB,EH,EI,EP,EL,ER,ES,ET,EU,EV]
theorem AKy(x:E0×G7×Int×Bool)(h:x.1.length<=1000/\x.2.1.1=0/\0<=x.2.2.1/\x.2.2.1<=x.1.length/\(x.2.2.2=true->x.2.2.1<x.1.length)):Tot (YY x) (fun r:Sum (E0×G7) (GY×Bool)=>(∀y,r=.inl y->y.1.length<=1000/\0<=y.2.1/\y.2.1<=999999999999999999/\y.2.2=x.2.1.2)/\∀y,r=.inr y->y.2=false):=by
 obtain⟨s_0,v_4,n_5,t29⟩:=x;try dsimp only at h ⊢
 unfold YY
 repeat' first
  |(with_reducible first|refine E3.2 ⟨fun _=>?_,fun _=>?_⟩|refine E1.2 ?_|refine E2.2 ?_|refine HG.2 ⟨?_,?_⟩|refine(JO _ ?_).mono fun _ _=>?_)
  |dsimp only
 all_goals grind[ED,EC,EG,EA,E4,EF,EE,EB,EH,EI,EP,EL,ER,ES,ET,EU,EV]
theorem AKz(x:E0)(h:x.length<=1000):Tot (YZ x) (fun r:GY×Bool=>r.2=true->J3 r.1):=by
 unfold YZ
 repeat' first
  |(with_reducible first|refine E3.2 ⟨fun _=>?_,fun _=>?_⟩|refine E1.2 ?_|refine E2.2 ?_|refine F0.2 ⟨?_,fun _ _=>?_⟩|refine(AJt _ ?_).mono fun _ _=>?_|refine(H2 _ ?_).mono fun _ _=>?_|refine(AKy _ ?_).mono fun _ _=>?_|refine(AKm _ ?_).mono fun _ _=>?_|refine(AKv _ ?_).mono fun _ _=>?_|refine(AJu _ ?_).mono fun _ _=>?_|refine(AKx _ ?_).mono fun _ _=>?_|refine(LI _ ?_ ?_).mono fun _ _=>?_)
  |exact fun c=>GT (H2 c trivial)
  |exact fun c=>GT (I3 c trivial)
  |split
  |dsimp only
 all_goals grind[ED,EC,EG,EA,E4,EF,EE,EB,EH,EI,EP,EL,ER,ES,ET,EU,EV,AK9]
theorem AL0(x:E0×Bool)(h:x.1.length<=1000):Tot (Y_ x) (fun r:E0=>r.length<=5000):=by
 obtain⟨w_0,followed_1⟩:=x;try dsimp only at h ⊢
 unfold Y_
 repeat' first
  |(with_reducible first|refine E3.2 ⟨fun _=>?_,fun _=>?_⟩|refine E1.2 ?_|refine E2.2 ?_|refine(A4T _ ?_).mono fun _ _=>?_)
  |dsimp only
 all_goals grind[ED,EC,EG,EA,E4,EF,EE,EB,EH,EI,EP,EL,ER,ES,ET,EU,EV]
theorem pI(x:Bool×E0×Int)(h:True):Tot (QP x) (fun r:Bool=>True):=by
 unfold QP
 repeat' first
  |with_reducible refine E2.2 ?_
  |dsimp only
 all_goals grind[ED,EC,EG,EA,E4,EF,EE,EB,EH,EI,EP,EL,ER,ES,ET,EU,EV]
theorem AL1(x:E0×Int×Bool)(h:0<=x.2.1/\x.2.1<x.1.length/\x.1.length<=1000):Tot (Z0 x) (fun r:Sum (Int) (GY×Bool)=>(∀y,r=.inl y->x.2.1<=y/\y<=x.1.length)/\∀y,r=.inr y->y.2=false):=by
 obtain⟨s_0,at_5,t24⟩:=x;try dsimp only at h ⊢
 unfold Z0
 repeat' first
  |(with_reducible first|refine E3.2 ⟨fun _=>?_,fun _=>?_⟩|refine E1.2 ?_|refine E2.2 ?_|refine F0.2 ⟨?_,fun _ _=>?_⟩|refine(H2 _ ?_).mono fun _ _=>?_|refine(I3 _ ?_).mono fun _ _=>?_)
  |dsimp only
 all_goals grind[ED,EC,EG,EA,E4,EF,EE,EB,EH,EI,EP,EL,ER,ES,ET,EU,EV]
set_option maxHeartbeats 1000000 in
theorem AL2(x:E0×(List GB)×Int)(h:0<=x.2.2/\(x.1.length:Int)<=281474976710656/\x.2.2<=(x.1.length:Int)/\x.1.length<=1000/\x.2.1.length<=x.2.2/\(∀t∈x.2.1,t.2.1.length<=5000/\0<=t.2.2/\t.2.2<=999999999999999999)):Tot (jO x) (fun r:Sum (List GB) (GY×Bool)=>(∀y,r=.inl y->TS y)/\∀y,r=.inr y->y.2=false):=by
 refine F4 (R:=fun r:Sum (List GB) (GY×Bool)=>(∀y,r=.inl y->TS y)/\∀y,r=.inr y->y.2=false) (fun y:E0×(List GB)×Int=>(0<=y.2.2/\(y.1.length:Int)<=281474976710656/\y.2.2<=(y.1.length:Int)/\y.1.length<=1000/\y.2.1.length<=y.2.2/\(∀t∈y.2.1,t.2.1.length<=5000/\0<=t.2.2/\t.2.2<=999999999999999999))) (fun y:E0×(List GB)×Int=>((y.1.length:Int)-y.2.2).toNat) ?_ _ _ (by grind) (by unfold fuel;grind);rintro next ⟨s_0,v_4,at_5⟩ h hn
 try dsimp only at h hn
 unfold wL
 repeat' first
  |(with_reducible first|refine E3.2 ⟨fun _=>?_,fun _=>?_⟩|refine E1.2 ?_|refine E2.2 ?_|refine F0.2 ⟨?_,fun _ _=>?_⟩|refine HG.2 ⟨?_,?_⟩|refine GH.2 ⟨?_,?_⟩|refine(AL1 _ ?_).mono fun _ _=>?_|refine(H2 _ ?_).mono fun _ _=>?_|refine(JO _ ?_).mono fun _ _=>?_|refine(I3 _ ?_).mono fun _ _=>?_|refine(AL0 _ ?_).mono fun _ _=>?_|refine(LI _ ?_ ?_).mono fun _ _=>?_)
  |exact fun c=>GT (H2 c trivial)
  |exact fun c=>GT (I3 c trivial)
  |with_reducible refine hn _ ?_ ?_
  |split
  |dsimp only
 all_goals grind[ED,EC,EG,EA,E4,EF,EE,EB,EH,EI,EP,EL,ER,ES,ET,EU,EV]
theorem AL3(x:List GB)(h:TS x):Tot (jP x) (fun r:List GB=>TS r):=by
 refine F4 (R:=fun r=>TS r) (fun y=>TS y) (fun y=>y.length) ?_ _ _ h (by unfold fuel;have:=h.1;omega);intro next v h hn
 unfold wM;by_cases hc:(0:Int)<v.length
 ·rw[EY (by omega) (by have:=h.1;omega),A7 hc];simp only[AB,CA];refine E1.2 (F0.2 ⟨⟨by omega,by omega⟩,fun b hb=>?_⟩);refine E1.2 ((pI _ trivial).mono fun r _=>?_);refine E3.2 ⟨fun _=>E1.2 (HG.2 ⟨⟨by omega,by omega,by omega⟩,?_⟩),fun _=>E2.2 h⟩;refine hn _ ⟨?_,fun t ht=>h.2 t (EP ht)⟩ ?_
  ·rw[EL];have:=h.1;omega
  ·rw[EL];omega
 ·rw[AC hc];simp only[AE,CJ];exact E1.2 (E2.2 (E1.2 (E2.2 (E2.2 h))))
theorem AL4(x:E0)(h:x.length<=1000):Tot (Z1 x) (fun r:GY×Bool=>r.2=true->J3 r.1):=by
 unfold Z1
 repeat' first
  |(with_reducible first|refine E1.2 ?_|refine E2.2 ?_|refine(AL2 _ ?_).mono fun _ _=>?_|refine(AL3 _ ?_).mono fun _ _=>?_)
  |split
  |dsimp only
 all_goals grind[ED,EC,EG,EA,E4,EF,EE,EB,EH,EI,EP,EL,ER,ES,ET,EU,EV,AKA]
theorem AL5(x:E0)(h:x.length<=1000):Tot (Z2 x) (fun r:GY×Bool=>r.2=true->J3 r.1):=by
 unfold Z2
 repeat' first
  |(with_reducible first|refine E1.2 ?_|refine E2.2 ?_|refine(cU _ ?_).mono fun _ _=>?_)
  |dsimp only
 all_goals grind[ED,EC,EG,EA,E4,EF,EE,EB,EH,EI,EP,EL,ER,ES,ET,EU,EV,AKB]
theorem NT(x:Int×E0)(h:x.2.length<=1048576):Tot (IJ x) (fun r:GY×Int=>r.2=0->J3 r.1):=by
 obtain⟨kind_0,s_1⟩:=x;try dsimp only at h ⊢
 unfold IJ
 repeat' first
  |(with_reducible first|refine E3.2 ⟨fun _=>?_,fun _=>?_⟩|refine E1.2 ?_|refine E2.2 ?_|refine(AKg _ ?_).mono fun _ _=>?_|refine(AKk _ ?_).mono fun _ _=>?_|refine(A4T _ ?_).mono fun _ _=>?_|refine(AKz _ ?_).mono fun _ _=>?_|refine(AL4 _ ?_).mono fun _ _=>?_|refine(AL5 _ ?_).mono fun _ _=>?_)
  |dsimp only
 all_goals grind[ED,EC,EG,EA,E4,EF,EE,EB,EH,EI,EP,EL,ER,ES,ET,EU,EV]
end Go.Ev.Pv
namespace Go.Ev.Pv
theorem AL6(x:(List E0)×(List Int)×Int×Int)(h:0<=x.2.2.2/\x.2.2.2<=x.2.2.1/\x.2.2.1=x.2.1.length/\x.2.2.1<=281474976710656/\x.1.length<=x.2.2.2/\(∀s∈x.1,s.length<=21)/\x.2.2.1<=1002):Tot (jQ x) (fun r:List E0=>r.length<=1002/\∀s∈r,s.length<=21):=by
 refine F4 (R:=fun r:List E0=>r.length<=1002/\∀s∈r,s.length<=21) (fun y:(List E0)×(List Int)×Int×Int=>(0<=y.2.2.2/\y.2.2.2<=y.2.2.1/\y.2.2.1=y.2.1.length/\y.2.2.1<=281474976710656/\y.1.length<=y.2.2.2/\(∀s∈y.1,s.length<=21)/\y.2.2.1<=1002)) (fun y:(List E0)×(List Int)×Int×Int=>(y.2.2.1-y.2.2.2).toNat) ?_ _ _ (by grind) (by unfold fuel;grind);rintro next ⟨parts_3,t6,t7,t8⟩ h hn
 try dsimp only at h hn
 unfold wO
 repeat' first
  |(with_reducible first|refine E3.2 ⟨fun _=>?_,fun _=>?_⟩|refine E1.2 ?_|refine E2.2 ?_|refine F0.2 ⟨?_,fun _ _=>?_⟩|refine GH.2 ⟨?_,?_⟩|refine(IN _ ?_).mono fun _ _=>?_|refine hn _ ?_ ?_)
  |dsimp only
 all_goals grind[ED,EC,EG,EA,E4,EF,EE,EB,EH,EI,EP,EL,ER,ES,ET,EU,EV]
theorem A4f(x:List Int)(h:x.length<=1002):Tot (TZ x) (fun r:E0=>r.length<=30000):=by
 unfold TZ;refine E1.2 ((AL6 _ ⟨by simp,by simp,rfl,by simp;omega,by simp,by simp,by simp;omega⟩).mono fun r hr=>?_);have hj:(Lib.join r [46]).length<=1002*(21+1):=cQ hr.2 hr.1 (by simp);exact E1.2 ((RG _ ⟨by simp;omega,by dsimp only;omega⟩).mono fun s hs=>E2.2 (by rw[hs];dsimp only;omega))
theorem pJ(x:(List Int)×(List E0))(h:cP x):Tot (T_ x) (fun r:E0=>r.length<=1048576):=by
 unfold T_;obtain⟨h1,h2,h3,h4⟩:=h;have hj:(Lib.join x.2 [46]).length<=1002*(1000+1):=cQ h4 h3 (by simp);refine E1.2 (HG.2 ⟨⟨by omega,by omega,by omega⟩,?_⟩);refine E1.2 ((A4f _ (by rw[EL];omega)).mono fun r hr=>?_);refine E3.2 ⟨fun _=>?_,fun _=>E2.2 (by omega)⟩;refine E1.2 ((RG _ ⟨by dsimp only;omega,by dsimp only;omega⟩).mono fun s hs=>?_);dsimp only at hs;rw[<-hs]at hj;refine E1.2 (FT.2 ⟨by simp;omega,?_⟩);refine E1.2 (FT.2 ⟨by simp;omega,?_⟩);exact E2.2 (by simp;omega)
theorem AL7(x:E0×(List Int)×Int)(h:0<=x.2.2/\x.2.2<=x.1.length/\x.1.length<=1000/\x.2.1.length<=21*x.2.2):Tot (jR x) (fun r:List Int=>r.length<=21000):=by
 refine F4 (R:=fun r:List Int=>r.length<=21000) (fun y:E0×(List Int)×Int=>(0<=y.2.2/\y.2.2<=y.1.length/\y.1.length<=1000/\y.2.1.length<=21*y.2.2)/\y.1=x.1) (fun y:E0×(List Int)×Int=>(y.1.length-y.2.2:Int).toNat) ?_ _ _ (by grind) (by unfold fuel;grind);rintro next ⟨s_0,b_3,at_4⟩ h hn
 try dsimp only at h hn
 unfold wP
 repeat' first
  |(with_reducible first|refine E3.2 ⟨fun _=>?_,fun _=>?_⟩|refine E1.2 ?_|refine E2.2 ?_|refine F0.2 ⟨?_,fun _ _=>?_⟩|refine HG.2 ⟨?_,?_⟩|refine(H2 _ ?_).mono fun _ _=>?_|refine(UY _ ?_).mono fun _ _=>?_|refine(JO _ ?_).mono fun _ _=>?_|refine(IN _ ?_).mono fun _ _=>?_|refine(UZ _ ?_).mono fun _ _=>?_|refine(LI _ ?_ ?_).mono fun _ _=>?_)
  |exact fun c=>GT (H2 c trivial)
  |exact fun c=>GT (I3 c trivial)
  |with_reducible refine hn _ ?_ ?_
  |dsimp only
 all_goals grind[ED,EC,EG,EA,E4,EF,EE,EB,EH,EI,EP,EL,ER,ES,ET,EU,EV]
theorem AL8(x:E0)(h:x.length<=1000):Tot (U0 x) (fun r:E0=>r.length<=21000):=by
 unfold U0
 repeat' first
  |(with_reducible first|refine E1.2 ?_|refine E2.2 ?_|refine(AL7 _ ?_).mono fun _ _=>?_|refine(OY _ ?_).mono fun _ _=>?_)
  |dsimp only
 all_goals grind[ED,EC,EG,EA,E4,EF,EE,EB,EH,EI,EP,EL,ER,ES,ET,EU,EV]
theorem A4g(x:Int×E0×E0×Bool)(h:OZ x):Tot (U1 x) (fun r:E0=>r.length<=1000):=by
 unfold U1
 repeat' first
  |(with_reducible first|refine E3.2 ⟨fun _=>?_,fun _=>?_⟩|refine E2.2 ?_)
  |dsimp only
 all_goals grind[ED,EC,EG,EA,E4,EF,EE,EB,EH,EI,EP,EL,ER,ES,ET,EU,EV]
theorem AL9(x:E0×(List Int)×Int×Int)(h:0<=x.2.2.2/\x.2.2.2<=x.2.2.1/\x.2.2.1=x.1.length/\x.2.2.1<=281474976710656/\x.2.2.1<=1000/\x.2.1.length<=x.2.2.2):Tot (jS x) (fun r:List Int=>r.length<=x.1.length):=by
 refine F4 (R:=fun r:List Int=>r.length<=x.1.length) (fun y:E0×(List Int)×Int×Int=>(0<=y.2.2.2/\y.2.2.2<=y.2.2.1/\y.2.2.1=y.1.length/\y.2.2.1<=281474976710656/\y.2.2.1<=1000/\y.2.1.length<=y.2.2.2)/\y.1=x.1) (fun y:E0×(List Int)×Int×Int=>(y.2.2.1-y.2.2.2).toNat) ?_ _ _ (by grind) (by unfold fuel;grind);rintro next ⟨s_0,b_3,t6,t7⟩ h hn
 try dsimp only at h hn
 unfold wQ
 repeat' first
  |(with_reducible first|refine E3.2 ⟨fun _=>?_,fun _=>?_⟩|refine E1.2 ?_|refine E2.2 ?_|refine F0.2 ⟨?_,fun _ _=>?_⟩|refine(UY _ ?_).mono fun _ _=>?_|refine(I3 _ ?_).mono fun _ _=>?_|refine hn _ ?_ ?_)
  |dsimp only
 all_goals grind[ED,EC,EG,EA,E4,EF,EE,EB,EH,EI,EP,EL,ER,ES,ET,EU,EV]
theorem ALA(x:E0)(h:x.length<=1000):Tot (Z5 x) (fun r:E0=>r.length<=x.length+1):=by
 unfold Z5
 repeat' first
  |(with_reducible first|refine E1.2 ?_|refine E2.2 ?_|refine F0.2 ⟨?_,fun _ _=>?_⟩|refine FT.2 ⟨?_,?_⟩|refine(AL9 _ ?_).mono fun _ _=>?_|refine(OY _ ?_).mono fun _ _=>?_)
  |dsimp only
 all_goals grind[ED,EC,EG,EA,E4,EF,EE,EB,EH,EI,EP,EL,ER,ES,ET,EU,EV]
theorem JB(x:Int)(h:0<=x/\x<=999999999999999999):Tot (IK x) (fun r:E0=>r.length=18):=by
 unfold IK
 repeat' first
  |(with_reducible first|refine E1.2 ?_|refine E2.2 ?_|refine F0.2 ⟨?_,fun _ _=>?_⟩|refine FT.2 ⟨?_,?_⟩|refine(IN _ ?_).mono fun _ _=>?_|refine(AK0 _ ?_).mono fun _ _=>?_)
  |dsimp only
 all_goals grind[ED,EC,EG,EA,E4,EF,EE,EB,EH,EI,EP,EL,ER,ES,ET,EU,EV]
theorem ALB(x:E0×(List Int))(h:x.1.length<=1000/\x.2.length+40*x.1.length<=50000):Tot (jT x) (fun r:List Int=>r.length<=50000):=by
 refine F4 (R:=fun r:List Int=>r.length<=50000) (fun y:E0×(List Int)=>y.1.length<=1000/\y.2.length+40*y.1.length<=50000) (fun y:E0×(List Int)=>y.1.length) ?_ _ _ h (by unfold fuel;have:=h.1;omega);rintro next ⟨s,b⟩ h hn
 dsimp only at h hn;unfold wR;dsimp only;refine E3.2 ⟨fun hc=>?_,fun _=>E2.2 (by omega)⟩
 have hne:0<s.length:=by
  rw[ER]at hc;simp only[BM,DG]at hc;omega
 have f1:∀c,Tot ((Z4 c).bind fun r=>some r) fun _=>True:=fun c=>⟨_,rfl,trivial⟩;refine E1.2 ((cR _ ⟨B6 _,by dsimp only;omega,by dsimp only;omega,f1⟩).mono fun r1 hr1=>?_);dsimp only at hr1;obtain⟨a0,a1,_,a3⟩:=hr1;rw[Int.zero_add]at a1 a3;refine E1.2 ((cR _ ⟨a0,by dsimp only;omega,by dsimp only;omega,A4U⟩).mono fun r2 hr2=>?_);dsimp only at hr2;obtain⟨b0,b1,_,b3⟩:=hr2
 have hpos:0<r1+r2:=by
  rcases Int.lt_or_le 0 (r1+r2)with h'|h'
  ·exact h'
  ·exfalso;have e1:r1=0:=by omega
   have e2:r2=0:=by omega
   subst e1 e2;have g:s[(0:Int).toNat]?=some (s[0]'hne):=A0 hne;have g1:=a3 _ g;have g2:=b3 _ g;unfold Z4 at g1;unfold H1 at g1 g2;simp at g1 g2;omega
 rw[EY (by omega) (by omega)];refine E1.2 (HG.2 ⟨⟨by omega,by omega,by omega⟩,?_⟩);refine E1.2 ((JO _ (by rw[EL];omega)).mono fun r4 h4=>?_);refine E1.2 (HG.2 ⟨⟨by omega,by omega,by omega⟩,?_⟩);refine E1.2 ((ALA _ (by rw[EL];omega)).mono fun r6 h6=>?_);rw[EL]at h6;refine E1.2 ((JB _ h4).mono fun r7 h7=>?_);refine E1.2 (FT.2 ⟨by omega,?_⟩);refine E1.2 ((UZ _ ⟨by dsimp only;omega,by dsimp only;rw[A9];omega⟩).mono fun r9 h9=>?_);dsimp only at h9;rw[A9]at h9;refine E1.2 (HG.2 ⟨⟨by omega,by omega,by omega⟩,?_⟩);refine hn _ ⟨?_,?_⟩ ?_<;>(dsimp only;rw[EL];omega)
theorem A4h(x:E0)(h:x.length<=1000):Tot (OM x) (fun r:E0=>r.length<=50010):=by
 unfold OM
 repeat' first
  |(with_reducible first|refine E1.2 ?_|refine E2.2 ?_|refine F0.2 ⟨?_,fun _ _=>?_⟩|refine FT.2 ⟨?_,?_⟩|refine(ALB _ ?_).mono fun _ _=>?_|refine(OY _ ?_).mono fun _ _=>?_)
  |dsimp only
 all_goals grind[ED,EC,EG,EA,E4,EF,EE,EB,EH,EI,EP,EL,ER,ES,ET,EU,EV]
theorem ALC(x:KP×E0×Bool)(h:x.2.1.length<=1000000):Tot (Z6 x) (fun r:KP×E0=>r.1=x.1/\r.2.length<=x.2.1.length+30):=by
 obtain⟨v_1,s_3,t9⟩:=x;try dsimp only at h ⊢
 unfold Z6
 repeat' first
  |(with_reducible first|refine E3.2 ⟨fun _=>?_,fun _=>?_⟩|refine E1.2 ?_|refine E2.2 ?_|refine F0.2 ⟨?_,fun _ _=>?_⟩|refine FT.2 ⟨?_,?_⟩|refine(IN _ ?_).mono fun _ _=>?_)
  |dsimp only
 all_goals grind[ED,EC,EG,EA,E4,EF,EE,EB,EH,EI,EP,EL,ER,ES,ET,EU,EV]
theorem pK(x:Int×E0×E0×Bool)(h:OZ x):Tot (U2 x) (fun r:E0=>r.length<=1048576):=by
 unfold U2
 repeat' first
  |(with_reducible first|refine E3.2 ⟨fun _=>?_,fun _=>?_⟩|refine E1.2 ?_|refine E2.2 ?_|refine F0.2 ⟨?_,fun _ _=>?_⟩|refine FT.2 ⟨?_,?_⟩|refine(AL8 _ ?_).mono fun _ _=>?_|refine(ALC _ ?_).mono fun _ _=>?_|refine(A4g _ ?_).mono fun _ _=>?_|refine(A4h _ ?_).mono fun _ _=>?_)
  |dsimp only
 all_goals grind[ED,EC,EG,EA,E4,EF,EE,EB,EH,EI,EP,EL,ER,ES,ET,EU,EV]
theorem ALD(x:List Int)(h:NS x):Tot (jU x) (fun r:List Int=>NS r):=by
 refine F4 (R:=fun r=>NS r) (fun y=>NS y) (fun y=>y.length) ?_ _ _ h (by unfold fuel;have:=h.1;omega);intro next v h hn
 unfold wS;by_cases hc:(0:Int)<v.length
 ·rw[EY (by omega) (by have:=h.1;omega),A7 hc];simp only[AB,CA];refine E1.2 (F0.2 ⟨⟨by omega,by omega⟩,fun b hb=>?_⟩);refine E3.2 ⟨fun _=>E1.2 (HG.2 ⟨⟨by omega,by omega,by omega⟩,?_⟩),fun _=>E2.2 h⟩;refine hn _ ⟨?_,fun t ht=>h.2 t (EP ht)⟩ ?_
  ·rw[EL];have:=h.1;omega
  ·rw[EL];omega
 ·rw[AC hc];simp only[AE,CJ];exact E1.2 (E2.2 (E2.2 h))
theorem A4i(x:List Int)(h:NS x):Tot (U3 x) (fun r:List Int=>NS r):=by
 unfold U3
 repeat' first
  |(with_reducible first|refine E1.2 ?_|refine E2.2 ?_|refine(ALD _ ?_).mono fun _ _=>?_)
  |dsimp only
 all_goals grind[ED,EC,EG,EA,E4,EF,EE,EB,EH,EI,EP,EL,ER,ES,ET,EU,EV]
theorem ALE(x:G7×E0×Bool)(h:x.2.1.length<=10):Tot (Z7 x) (fun r:G7×E0=>r.1=x.1/\r.2.length<=30):=by
 obtain⟨v_1,s_3,t11⟩:=x;try dsimp only at h ⊢
 unfold Z7
 repeat' first
  |(with_reducible first|refine E3.2 ⟨fun _=>?_,fun _=>?_⟩|refine E1.2 ?_|refine E2.2 ?_|refine F0.2 ⟨?_,fun _ _=>?_⟩|refine FT.2 ⟨?_,?_⟩|refine(IN _ ?_).mono fun _ _=>?_)
  |dsimp only
 all_goals grind[ED,EC,EG,EA,E4,EF,EE,EB,EH,EI,EP,EL,ER,ES,ET,EU,EV]
theorem ALF(x:E0×(List Int)×Bool)(h:x.1.length<=30/\x.2.1.length<=1002):Tot (Z8 x) (fun r:E0=>r.length<=31000):=by
 obtain⟨s_3,l_4,t21⟩:=x;try dsimp only at h ⊢
 unfold Z8
 repeat' first
  |(with_reducible first|refine E3.2 ⟨fun _=>?_,fun _=>?_⟩|refine E1.2 ?_|refine E2.2 ?_|refine F0.2 ⟨?_,fun _ _=>?_⟩|refine FT.2 ⟨?_,?_⟩|refine(A4f _ ?_).mono fun _ _=>?_)
  |dsimp only
 all_goals grind[ED,EC,EG,EA,E4,EF,EE,EB,EH,EI,EP,EL,ER,ES,ET,EU,EV]
theorem ALG(x:G7×E0×Bool)(h:x.2.1.length<=31000/\0<=x.1.2.2.1/\x.1.2.2.1<=3):Tot (Z9 x) (fun r:G7×E0=>r.1=x.1/\r.2.length<=31100):=by
 obtain⟨v_1,s_3,t30⟩:=x;try dsimp only at h ⊢
 unfold Z9
 repeat' first
  |(with_reducible first|refine E3.2 ⟨fun _=>?_,fun _=>?_⟩|refine E1.2 ?_|refine E2.2 ?_|refine F0.2 ⟨?_,fun _ _=>?_⟩|refine FT.2 ⟨?_,?_⟩|refine(IN _ ?_).mono fun _ _=>?_)
  |dsimp only
 all_goals grind[ED,EC,EG,EA,E4,EF,EE,EB,EH,EI,EP,EL,ER,ES,ET,EU,EV]
theorem ALH(x:G7×E0×Bool)(h:x.2.1.length<=31100):Tot (ZA x) (fun r:G7×E0=>r.1=x.1/\r.2.length<=31200):=by
 obtain⟨v_1,s_3,t44⟩:=x;try dsimp only at h ⊢
 unfold ZA
 repeat' first
  |(with_reducible first|refine E3.2 ⟨fun _=>?_,fun _=>?_⟩|refine E1.2 ?_|refine E2.2 ?_|refine F0.2 ⟨?_,fun _ _=>?_⟩|refine FT.2 ⟨?_,?_⟩|refine(IN _ ?_).mono fun _ _=>?_)
  |dsimp only
 all_goals grind[ED,EC,EG,EA,E4,EF,EE,EB,EH,EI,EP,EL,ER,ES,ET,EU,EV]
theorem ALI(x:G7×E0×Bool)(h:x.2.1.length<=31200):Tot (ZB x) (fun r:G7×E0=>r.1=x.1/\r.2.length<=31300):=by
 obtain⟨v_1,s_3,t53⟩:=x;try dsimp only at h ⊢
 unfold ZB
 repeat' first
  |(with_reducible first|refine E3.2 ⟨fun _=>?_,fun _=>?_⟩|refine E1.2 ?_|refine E2.2 ?_|refine F0.2 ⟨?_,fun _ _=>?_⟩|refine FT.2 ⟨?_,?_⟩|refine(IN _ ?_).mono fun _ _=>?_)
  |dsimp only
 all_goals grind[ED,EC,EG,EA,E4,EF,EE,EB,EH,EI,EP,EL,ER,ES,ET,EU,EV]
theorem ALJ(x:E0×Int×Bool)(h:True):Tot (ZC x) (fun r:E0=>r.length<=x.1.length+21):=by
 obtain⟨p_6,n_7,t73⟩:=x;try dsimp only at h ⊢
 unfold ZC
 repeat' first
  |(with_reducible first|refine E3.2 ⟨fun _=>?_,fun _=>?_⟩|refine E1.2 ?_|refine E2.2 ?_|refine(IN _ ?_).mono fun _ _=>?_)
  |dsimp only
 all_goals grind[ED,EC,EG,EA,E4,EF,EE,EB,EH,EI,EP,EL,ER,ES,ET,EU,EV]
theorem ALK(x:E0×(List E0)×Int×Int)(h:0<=x.2.2.2/\x.2.2.2<=x.2.2.1/\x.2.2.1=x.2.1.length/\x.2.2.1<=281474976710656/\x.1.length<=40000+1030*x.2.2.2/\x.2.2.1<=1002/\∀s∈x.2.1,s.length<=1000):Tot (jV x) (fun r:E0=>r.length<=10000000):=by
 refine F4 (R:=fun r:E0=>r.length<=10000000) (fun y:E0×(List E0)×Int×Int=>(0<=y.2.2.2/\y.2.2.2<=y.2.2.1/\y.2.2.1=y.2.1.length/\y.2.2.1<=281474976710656/\y.1.length<=40000+1030*y.2.2.2/\y.2.2.1<=1002/\∀s∈y.2.1,s.length<=1000)) (fun y:E0×(List E0)×Int×Int=>(y.2.2.1-y.2.2.2).toNat) ?_ _ _ (by grind) (by unfold fuel;grind);rintro next ⟨s_3,t61,t62,t63⟩ h hn
 try dsimp only at h hn
 unfold wT
 repeat' first
  |(with_reducible first|refine E3.2 ⟨fun _=>?_,fun _=>?_⟩|refine E1.2 ?_|refine E2.2 ?_|refine F0.2 ⟨?_,fun _ _=>?_⟩|refine FT.2 ⟨?_,?_⟩|refine(JO _ ?_).mono fun _ _=>?_|refine(ALJ _ ?_).mono fun _ _=>?_|refine hn _ ?_ ?_)
  |dsimp only
 all_goals grind[ED,EC,EG,EA,E4,EF,EE,EB,EH,EI,EP,EL,ER,ES,ET,EU,EV]
theorem pL(x:Int×(List Int)×Int×Int×Int×Int×(List E0))(h:M2 x):Tot (U4 x) (fun r:E0=>r.length<=10000000):=by
 unfold U4
 repeat' first
  |(with_reducible first|refine E1.2 ?_|refine E2.2 ?_|refine(ALE _ ?_).mono fun _ _=>?_|refine(A4i _ ?_).mono fun _ _=>?_|refine(ALF _ ?_).mono fun _ _=>?_|refine(ALG _ ?_).mono fun _ _=>?_|refine(ALH _ ?_).mono fun _ _=>?_|refine(ALI _ ?_).mono fun _ _=>?_|refine(ALK _ ?_).mono fun _ _=>?_)
  |dsimp only
 all_goals grind[ED,EC,EG,EA,E4,EF,EE,EB,EH,EI,EP,EL,ER,ES,ET,EU,EV]
theorem ALL(x:(List E0)×(List GB)×Int×Int)(h:0<=x.2.2.2/\x.2.2.2<=x.2.2.1/\x.2.2.1=x.2.1.length/\x.2.2.1<=281474976710656/\x.1.length<=x.2.2.2/\(∀s∈x.1,s.length<=5000)/\x.2.2.1<=1002/\∀t∈x.2.1,t.2.1.length<=5000):Tot (jW x) (fun r:List E0=>r.length<=1002/\∀s∈r,s.length<=5000):=by
 refine F4 (R:=fun r:List E0=>r.length<=1002/\∀s∈r,s.length<=5000) (fun y:(List E0)×(List GB)×Int×Int=>(0<=y.2.2.2/\y.2.2.2<=y.2.2.1/\y.2.2.1=y.2.1.length/\y.2.2.1<=281474976710656/\y.1.length<=y.2.2.2/\(∀s∈y.1,s.length<=5000)/\y.2.2.1<=1002/\∀t∈y.2.1,t.2.1.length<=5000)) (fun y:(List E0)×(List GB)×Int×Int=>(y.2.2.1-y.2.2.2).toNat) ?_ _ _ (by grind) (by unfold fuel;grind);rintro next ⟨l_3,t7,t8,t9⟩ h hn
 try dsimp only at h hn
 unfold wU
 repeat' first
  |(with_reducible first|refine E3.2 ⟨fun _=>?_,fun _=>?_⟩|refine E1.2 ?_|refine E2.2 ?_|refine F0.2 ⟨?_,fun _ _=>?_⟩|refine GH.2 ⟨?_,?_⟩|refine(pI _ ?_).mono fun _ _=>?_|refine(IN _ ?_).mono fun _ _=>?_|refine hn _ ?_ ?_)
  |dsimp only
 all_goals grind[ED,EC,EG,EA,E4,EF,EE,EB,EH,EI,EP,EL,ER,ES,ET,EU,EV]
theorem pM(x:List GB)(h:TS x):Tot (U5 x) (fun r:E0=>r.length<=10000000):=by
 unfold U5;refine E1.2 ((ALL _ ⟨by simp,by simp,rfl,by have:=h.1;simp;omega,by simp,by simp,by have:=h.1;simp;omega,fun t ht=>(h.2 t ht).1⟩).mono fun r hr=>?_);have hj:(Lib.join r [45]).length<=1002*(5000+1):=cQ hr.2 hr.1 (by simp);refine E3.2 ⟨fun _=>E2.2 (by simp),fun _=>?_⟩;exact E1.2 ((RG _ ⟨by dsimp only;omega,by dsimp only;omega⟩).mono fun s hs=>E2.2 (by rw[hs];dsimp only;omega))
theorem pN(x:Int)(h:True):Tot (U6 x) (fun r:E0=>r.length<=10000000):=by
 unfold U6
 repeat' first
  |(with_reducible first|refine E1.2 ?_|refine E2.2 ?_|refine(IN _ ?_).mono fun _ _=>?_)
  |dsimp only
 all_goals grind[ED,EC,EG,EA,E4,EF,EE,EB,EH,EI,EP,EL,ER,ES,ET,EU,EV]
theorem ALM(x:Sum LE (Sum KP (Sum G7 (Sum (List GB) (Sum Int Unit)))))(h:J3 x):Tot (ZZ x) (fun r:E0×Int=>r.1.length<=100):=by
 unfold ZZ;refine E1.2 (Tot.mono (P:=fun r:E0=>r.length<=10000000) ?_ fun r1 hr=>?_)
 ·rcases x with x|x|x|x|x|x
  ·exact E1.2 ((pJ _ h).mono fun _ h=>E2.2 (by omega))
  ·exact E1.2 ((pK _ h).mono fun _ h=>E2.2 (by omega))
  ·exact E1.2 ((pL _ h).mono fun _ h=>E2.2 h)
  ·exact E1.2 ((pM _ h).mono fun _ h=>E2.2 h)
  ·exact E1.2 ((pN _ trivial).mono fun _ h=>E2.2 h)
  ·exact h.elim
 ·refine E3.2 ⟨fun _=>E2.2 (by simp),fun hc=>E2.2 ?_⟩;have:=AF hc;dsimp only;omega
theorem cV(x:Int×E0)(h:x.2.length<=1048576):Tot (ON x) (fun r:E0×Int=>r.1.length<=100):=by
 obtain⟨kind_0,s_1⟩:=x;try dsimp only at h ⊢
 unfold ON
 repeat' first
  |(with_reducible first|refine E3.2 ⟨fun _=>?_,fun _=>?_⟩|refine E1.2 ?_|refine E2.2 ?_|refine(NT _ ?_).mono fun _ _=>?_|refine(ALM _ ?_).mono fun _ _=>?_)
  |dsimp only
 all_goals grind[ED,EC,EG,EA,E4,EF,EE,EB,EH,EI,EP,EL,ER,ES,ET,EU,EV]
end Go.Ev.Pv
namespace Go.Ev.Pv
theorem ALN(x:E5×Int×FM×Int×Int×Int)(h:(∀p,Tot (x.2.2.1 p) fun _=>True)/\x.2.2.2.1=20/\0<=x.2.2.2.2.1/\x.2.2.2.2.2=x.2.2.2.2.1+20/\x.2.1=x.1.length/\x.2.1<=1048576/\x.2.2.2.2.1<=x.2.1):Tot (iU x) (fun r:E5×Int=>r.1.length=x.1.length/\(∀q∈r.1,q∈x.1)/\0<=r.2/\r.2<=x.2.1):=by
 refine F4 (R:=fun r:E5×Int=>r.1.length=x.1.length/\(∀q∈r.1,q∈x.1)/\0<=r.2/\r.2<=x.2.1) (fun y:E5×Int×FM×Int×Int×Int=>((∀p,Tot (y.2.2.1 p) fun _=>True)/\y.2.2.2.1=20/\0<=y.2.2.2.2.1/\y.2.2.2.2.2=y.2.2.2.2.1+20/\y.2.1=y.1.length/\y.2.1<=1048576/\y.2.2.2.2.1<=y.2.1)/\y.2.1=x.2.1/\y.2.2.1=x.2.2.1/\y.2.2.2.1=x.2.2.2.1/\y.1.length=x.1.length/\∀q∈y.1,q∈x.1) (fun y:E5×Int×FM×Int×Int×Int=>(y.2.1-y.2.2.2.2.1).toNat) ?_ _ _ (by grind) (by unfold fuel;grind);rintro next ⟨data_0,n_1,cmp_2,blockSize_6,a_7,b_8⟩ h hn
 try dsimp only at h hn
 unfold vT
 repeat' first
  |(with_reducible first|refine E3.2 ⟨fun _=>?_,fun _=>?_⟩|refine E1.2 ?_|refine E2.2 ?_|refine(A4Q _ ?_).mono fun _ _=>?_|refine hn _ ?_ ?_)
  |dsimp only
 all_goals grind[ED,EC,EG,EA,E4,EF,EE,EB,EH,EI,EP,EL,ER,ES,ET,EU,EV]
theorem ALO(x:E5×Int×FM×Int×Int×Int)(h:(∀p,Tot (x.2.2.1 p) fun _=>True)/\0<x.2.2.2.1/\x.2.2.2.1<x.2.1/\0<=x.2.2.2.2.1/\x.2.2.2.2.2=x.2.2.2.2.1+2*x.2.2.2.1/\x.2.1=x.1.length/\x.2.1<=1048576/\x.2.2.2.2.1<=x.2.1):Tot (iV x) (fun r:E5×Int=>r.1.length=x.1.length/\(∀q∈r.1,q∈x.1)/\0<=r.2/\r.2<=x.2.1):=by
 refine F4 (R:=fun r:E5×Int=>r.1.length=x.1.length/\(∀q∈r.1,q∈x.1)/\0<=r.2/\r.2<=x.2.1) (fun y:E5×Int×FM×Int×Int×Int=>((∀p,Tot (y.2.2.1 p) fun _=>True)/\0<y.2.2.2.1/\y.2.2.2.1<y.2.1/\0<=y.2.2.2.2.1/\y.2.2.2.2.2=y.2.2.2.2.1+2*y.2.2.2.1/\y.2.1=y.1.length/\y.2.1<=1048576/\y.2.2.2.2.1<=y.2.1)/\y.2.1=x.2.1/\y.2.2.1=x.2.2.1/\y.2.2.2.1=x.2.2.2.1/\y.1.length=x.1.length/\∀q∈y.1,q∈x.1) (fun y:E5×Int×FM×Int×Int×Int=>(y.2.1-y.2.2.2.2.1).toNat) ?_ _ _ (by grind) (by unfold fuel;grind);rintro next ⟨data_0,n_1,cmp_2,blockSize_6,a_7,b_8⟩ h hn
 try dsimp only at h hn
 unfold vU
 repeat' first
  |(with_reducible first|refine E3.2 ⟨fun _=>?_,fun _=>?_⟩|refine E1.2 ?_|refine E2.2 ?_|refine(A4R _ ?_).mono fun _ _=>?_|refine hn _ ?_ ?_)
  |dsimp only
 all_goals grind[ED,EC,EG,EA,E4,EF,EE,EB,EH,EI,EP,EL,ER,ES,ET,EU,EV]
theorem ALP(x:E5×Int×FM×Int)(h:(∀p,Tot (x.2.2.1 p) fun _=>True)/\0<x.2.2.2/\x.2.2.2<=2097152/\x.2.1=x.1.length/\x.2.1<=1048576):Tot (iW x) (fun r:List (E0×E0)=>r.length=x.1.length/\(∀q∈r,q∈x.1)):=by
 refine F4 (R:=fun r:List (E0×E0)=>r.length=x.1.length/\(∀q∈r,q∈x.1)) (fun y:E5×Int×FM×Int=>((∀p,Tot (y.2.2.1 p) fun _=>True)/\0<y.2.2.2/\y.2.2.2<=2097152/\y.2.1=y.1.length/\y.2.1<=1048576)/\y.2.1=x.2.1/\y.2.2.1=x.2.2.1/\y.1.length=x.1.length/\∀q∈y.1,q∈x.1) (fun y:E5×Int×FM×Int=>(2097153-y.2.2.2).toNat) ?_ _ _ (by grind) (by unfold fuel;grind);rintro next ⟨data_0,n_1,cmp_2,blockSize_6⟩ h hn
 try dsimp only at h hn
 unfold vV
 repeat' first
  |(with_reducible first|refine E3.2 ⟨fun _=>?_,fun _=>?_⟩|refine E1.2 ?_|refine E2.2 ?_|refine(ALO _ ?_).mono fun _ _=>?_|refine(A4R _ ?_).mono fun _ _=>?_|refine hn _ ?_ ?_)
  |dsimp only
 all_goals grind[ED,EC,EG,EA,E4,EF,EE,EB,EH,EI,EP,EL,ER,ES,ET,EU,EV]
theorem ALQ(x:E5×Int×FM)(h:(∀p,Tot (x.2.2 p) fun _=>True)/\x.2.1=x.1.length/\x.2.1<=1048576):Tot (Y4 x) (fun r:List (E0×E0)=>r.length=x.1.length/\(∀q∈r,q∈x.1)):=by
 obtain⟨data_0,n_1,cmp_2⟩:=x;try dsimp only at h ⊢
 unfold Y4
 repeat' first
  |(with_reducible first|refine E1.2 ?_|refine E2.2 ?_|refine(ALN _ ?_).mono fun _ _=>?_|refine(A4Q _ ?_).mono fun _ _=>?_|refine(ALP _ ?_).mono fun _ _=>?_)
  |dsimp only
 all_goals grind[ED,EC,EG,EA,E4,EF,EE,EB,EH,EI,EP,EL,ER,ES,ET,EU,EV]
theorem ALR(x:E5×FM)(h:(∀p,Tot (x.2 p) fun _=>True)/\x.1.length<=1048576):Tot (Y5 x) (fun r:List (E0×E0)=>r.length=x.1.length/\(∀q∈r,q∈x.1)):=by
 obtain⟨x_0,cmp_1⟩:=x;try dsimp only at h ⊢
 unfold Y5
 repeat' first
  |(with_reducible first|refine E1.2 ?_|refine E2.2 ?_|refine(ALQ _ ?_).mono fun _ _=>?_)
  |dsimp only
 all_goals grind[ED,EC,EG,EA,E4,EF,EE,EB,EH,EI,EP,EL,ER,ES,ET,EU,EV]
theorem ALS(x:(List E9)×Int×FN×Int×Int×Int)(h:(∀p,Tot (x.2.2.1 p) fun _=>True)/\x.2.2.2.1=20/\0<=x.2.2.2.2.1/\x.2.2.2.2.2=x.2.2.2.2.1+20/\x.2.1=x.1.length/\x.2.1<=1048576/\x.2.2.2.2.1<=x.2.1):Tot (kZ x) (fun r:(List E9)×Int=>r.1.length=x.1.length/\(∀q∈r.1,q∈x.1)/\0<=r.2/\r.2<=x.2.1):=by
 refine F4 (R:=fun r:(List E9)×Int=>r.1.length=x.1.length/\(∀q∈r.1,q∈x.1)/\0<=r.2/\r.2<=x.2.1) (fun y:(List E9)×Int×FN×Int×Int×Int=>((∀p,Tot (y.2.2.1 p) fun _=>True)/\y.2.2.2.1=20/\0<=y.2.2.2.2.1/\y.2.2.2.2.2=y.2.2.2.2.1+20/\y.2.1=y.1.length/\y.2.1<=1048576/\y.2.2.2.2.1<=y.2.1)/\y.2.1=x.2.1/\y.2.2.1=x.2.2.1/\y.2.2.2.1=x.2.2.2.1/\y.1.length=x.1.length/\∀q∈y.1,q∈x.1) (fun y:(List E9)×Int×FN×Int×Int×Int=>(y.2.1-y.2.2.2.2.1).toNat) ?_ _ _ (by grind) (by unfold fuel;grind);rintro next ⟨data_0,n_1,cmp_2,blockSize_6,a_7,b_8⟩ h hn
 try dsimp only at h hn
 unfold xK
 repeat' first
  |(with_reducible first|refine E3.2 ⟨fun _=>?_,fun _=>?_⟩|refine E1.2 ?_|refine E2.2 ?_|refine(A4W _ ?_).mono fun _ _=>?_|refine hn _ ?_ ?_)
  |dsimp only
 all_goals grind[ED,EC,EG,EA,E4,EF,EE,EB,EH,EI,EP,EL,ER,ES,ET,EU,EV]
theorem ALT(x:(List E9)×Int×FN×Int×Int×Int)(h:(∀p,Tot (x.2.2.1 p) fun _=>True)/\0<x.2.2.2.1/\x.2.2.2.1<x.2.1/\0<=x.2.2.2.2.1/\x.2.2.2.2.2=x.2.2.2.2.1+2*x.2.2.2.1/\x.2.1=x.1.length/\x.2.1<=1048576/\x.2.2.2.2.1<=x.2.1):Tot (k_ x) (fun r:(List E9)×Int=>r.1.length=x.1.length/\(∀q∈r.1,q∈x.1)/\0<=r.2/\r.2<=x.2.1):=by
 refine F4 (R:=fun r:(List E9)×Int=>r.1.length=x.1.length/\(∀q∈r.1,q∈x.1)/\0<=r.2/\r.2<=x.2.1) (fun y:(List E9)×Int×FN×Int×Int×Int=>((∀p,Tot (y.2.2.1 p) fun _=>True)/\0<y.2.2.2.1/\y.2.2.2.1<y.2.1/\0<=y.2.2.2.2.1/\y.2.2.2.2.2=y.2.2.2.2.1+2*y.2.2.2.1/\y.2.1=y.1.length/\y.2.1<=1048576/\y.2.2.2.2.1<=y.2.1)/\y.2.1=x.2.1/\y.2.2.1=x.2.2.1/\y.2.2.2.1=x.2.2.2.1/\y.1.length=x.1.length/\∀q∈y.1,q∈x.1) (fun y:(List E9)×Int×FN×Int×Int×Int=>(y.2.1-y.2.2.2.2.1).toNat) ?_ _ _ (by grind) (by unfold fuel;grind);rintro next ⟨data_0,n_1,cmp_2,blockSize_6,a_7,b_8⟩ h hn
 try dsimp only at h hn
 unfold xL
 repeat' first
  |(with_reducible first|refine E3.2 ⟨fun _=>?_,fun _=>?_⟩|refine E1.2 ?_|refine E2.2 ?_|refine(A4X _ ?_).mono fun _ _=>?_|refine hn _ ?_ ?_)
  |dsimp only
 all_goals grind[ED,EC,EG,EA,E4,EF,EE,EB,EH,EI,EP,EL,ER,ES,ET,EU,EV]
theorem ALU(x:(List E9)×Int×FN×Int)(h:(∀p,Tot (x.2.2.1 p) fun _=>True)/\0<x.2.2.2/\x.2.2.2<=2097152/\x.2.1=x.1.length/\x.2.1<=1048576):Tot (lA x) (fun r:List E9=>r.length=x.1.length/\(∀q∈r,q∈x.1)):=by
 refine F4 (R:=fun r:List E9=>r.length=x.1.length/\(∀q∈r,q∈x.1)) (fun y:(List E9)×Int×FN×Int=>((∀p,Tot (y.2.2.1 p) fun _=>True)/\0<y.2.2.2/\y.2.2.2<=2097152/\y.2.1=y.1.length/\y.2.1<=1048576)/\y.2.1=x.2.1/\y.2.2.1=x.2.2.1/\y.1.length=x.1.length/\∀q∈y.1,q∈x.1) (fun y:(List E9)×Int×FN×Int=>(2097153-y.2.2.2).toNat) ?_ _ _ (by grind) (by unfold fuel;grind);rintro next ⟨data_0,n_1,cmp_2,blockSize_6⟩ h hn
 try dsimp only at h hn
 unfold xM
 repeat' first
  |(with_reducible first|refine E3.2 ⟨fun _=>?_,fun _=>?_⟩|refine E1.2 ?_|refine E2.2 ?_|refine(ALT _ ?_).mono fun _ _=>?_|refine(A4X _ ?_).mono fun _ _=>?_|refine hn _ ?_ ?_)
  |dsimp only
 all_goals grind[ED,EC,EG,EA,E4,EF,EE,EB,EH,EI,EP,EL,ER,ES,ET,EU,EV]
theorem ALV(x:(List E9)×Int×FN)(h:(∀p,Tot (x.2.2 p) fun _=>True)/\x.2.1=x.1.length/\x.2.1<=1048576):Tot (aI x) (fun r:List E9=>r.length=x.1.length/\(∀q∈r,q∈x.1)):=by
 obtain⟨data_0,n_1,cmp_2⟩:=x;try dsimp only at h ⊢
 unfold aI
 repeat' first
  |(with_reducible first|refine E1.2 ?_|refine E2.2 ?_|refine(ALS _ ?_).mono fun _ _=>?_|refine(A4W _ ?_).mono fun _ _=>?_|refine(ALU _ ?_).mono fun _ _=>?_)
  |dsimp only
 all_goals grind[ED,EC,EG,EA,E4,EF,EE,EB,EH,EI,EP,EL,ER,ES,ET,EU,EV]
theorem ALW(x:(List E9)×FN)(h:(∀p,Tot (x.2 p) fun _=>True)/\x.1.length<=1048576):Tot (aJ x) (fun r:List E9=>r.length=x.1.length/\(∀q∈r,q∈x.1)):=by
 obtain⟨x_0,cmp_1⟩:=x;try dsimp only at h ⊢
 unfold aJ
 repeat' first
  |(with_reducible first|refine E1.2 ?_|refine E2.2 ?_|refine(ALV _ ?_).mono fun _ _=>?_)
  |dsimp only
 all_goals grind[ED,EC,EG,EA,E4,EF,EE,EB,EH,EI,EP,EL,ER,ES,ET,EU,EV]
theorem ALX(x:E0)(h:True):Tot (QK x) (fun r:Bool=>True):=by
 unfold QK
 repeat' first
  |with_reducible refine E2.2 ?_
  |dsimp only
 all_goals grind[ED,EC,EG,EA,E4,EF,EE,EB,EH,EI,EP,EL,ER,ES,ET,EU,EV]
theorem A4j(x:E0×E0)(h:True):Tot (LY x) (fun r:Int=>-1<=r/\r<=1):=by
 obtain⟨x_0,y_1⟩:=x;try dsimp only at h ⊢
 unfold LY
 repeat' first
  |(with_reducible first|refine E3.2 ⟨fun _=>?_,fun _=>?_⟩|refine E1.2 ?_|refine E2.2 ?_|refine(ALX _ ?_).mono fun _ _=>?_)
  |dsimp only
 all_goals grind[ED,EC,EG,EA,E4,EF,EE,EB,EH,EI,EP,EL,ER,ES,ET,EU,EV]
theorem ALY(x:(E0×E0)×(E0×E0))(h:True):Tot (Y6 x) (fun r:Int=>True):=by
 obtain⟨a_0,b_1⟩:=x;try dsimp only at h ⊢
 unfold Y6
 repeat' first
  |(with_reducible first|refine E1.2 ?_|refine E2.2 ?_|refine(A4j _ ?_).mono fun _ _=>?_)
  |dsimp only
 all_goals grind[ED,EC,EG,EA,E4,EF,EE,EB,EH,EI,EP,EL,ER,ES,ET,EU,EV]
theorem ALZ(x:E0×Int×Int)(h:x.1.length<=3000/\x.2.1=0/\x.2.2= -1):Tot (X_ x) (fun r:H7×F5=>r.1.2.2.2.2.1.length<=1048576):=by
 unfold X_;obtain⟨g1,g2,g3⟩:=h;refine E1.2 ((AJ5 _ ⟨by dsimp only;omega,by dsimp only;omega,by dsimp only;omega⟩).mono fun r1 h1=>?_);dsimp only at h1;refine E3.2 ⟨fun _=>E2.2 (by simp),fun _=>?_⟩;refine E1.2 ((A4B _ ⟨by rw[h1.1];omega,h1.2.1,by rw[h1.1];exact h1.2.2.1⟩).mono fun r2 h2=>?_);obtain⟨a1,a2,a3,a4,a5,a6⟩:=h2;rw[h1.1]at a1 a3;rw[EY (by omega) (by omega)];refine E1.2 (HG.2 ⟨⟨by omega,by omega,by omega⟩,?_⟩);have hj:(Lib.join ((r2.1.take ((r2.1.length:Int)-1).toNat).drop (0:Int).toNat) [47]).length<=1048577*(1048576+1):=cQ (fun s hs=>a6 s (EP hs)) (by rw[EL];omega) (by simp);refine E1.2 ((RG _ ⟨by dsimp only;rw[EL];omega,by dsimp only;omega⟩).mono fun r4 h4=>?_);refine E1.2 (F0.2 ⟨⟨by omega,by omega⟩,fun y5 hy5=>?_⟩);refine E1.2 (Tot.mono (P:=fun r6:Int=>r6=0\/r2.2.2.1<r2.2.1.length) ?_ fun r6 h6=>?_)
 ·refine E3.2 ⟨fun _=>(RI _ ⟨_,rfl,by omega⟩).mono fun r hr=>?_,fun _=>E2.2 (Or.inl rfl)⟩;rcases hr.2 with h|⟨y,hy,h⟩
  ·exact Or.inl h
  ·cases hy;exact Or.inr h
 refine E1.2 ((AJE _ ⟨by dsimp only;rw[a1];omega,by dsimp only;omega,by dsimp only;rw[a1];omega,fun he=>?_,by simp⟩).mono fun r8 h8=>?_)
 ·dsimp only at he ⊢;rcases h6 with h6|h6
  ·subst h6;simp[E4]at he
  ·exact h6
 dsimp only at h8;obtain⟨b1,b2,b3,b4,b5,b6,b7,b8⟩:=h8;rw[a1]at b1 b3;refine E1.2 ((AJF _ ⟨by dsimp only;rw[b1];omega,by dsimp only;omega,by dsimp only;rw[b1];omega,?_,by dsimp only;omega,?_⟩).mono fun r13 h13=>?_)
 ·dsimp only;rw[b8];simp;omega
 ·dsimp only;rw[b8];simp
 dsimp only at h13;obtain⟨c1,c2,c3,c4,c5,c6,c7,c8,c9,c10⟩:=h13;rw[b1]at c1 c3;refine E1.2 (Tot.mono (P:=fun r14:Int=>r14=0\/r13.1.2.1<r13.1.1.length) ?_ fun r14 h14=>?_)
 ·refine E3.2 ⟨fun _=>(RI _ ⟨_,rfl,by omega⟩).mono fun r hr=>?_,fun _=>E2.2 (Or.inl rfl)⟩;rcases hr.2 with h|⟨y,hy,h⟩
  ·exact Or.inl h
  ·cases hy;exact Or.inr h
 refine E1.2 ((AJK _ ⟨by dsimp only;rw[c1];omega,by dsimp only;omega,by dsimp only;rw[c1];omega,fun he=>?_,?_⟩).mono fun r17 h17=>?_)
 ·dsimp only at he ⊢;rcases h14 with h14|h14
  ·subst h14;simp[E4]at he
  ·exact h14
 ·dsimp only;rw[c8,b8];simp
 dsimp only at h17;obtain⟨d1,d2,d3,d4,d5,d6,d7,d8,d9⟩:=h17;refine E3.2 ⟨fun _=>E1.2 ((RH _ trivial).mono fun r19 _=>E2.2 ?_),fun _=>E2.2 ?_⟩<;>
 ·dsimp only;rw[d8];exact c9
theorem AL_(x:J0×H7×Int)(h:1<=x.2.2/\x.2.1.2.2.2.2.1.length<=1048576):Tot (jA x) (fun r:Sum (J0×H7) (J0×Int×Int)=>(∀y,r=.inl y->y.2.2.2.2.2.1.length<=1048576)/\∀y,r=.inr y->y.2.2≠0):=by
 refine F4 (R:=fun r:Sum (J0×H7) (J0×Int×Int)=>(∀y,r=.inl y->y.2.2.2.2.2.1.length<=1048576)/\∀y,r=.inr y->y.2.2≠0)
  (fun y:J0×H7×Int=>1<=y.2.2/\y.2.1.2.2.2.2.1.length<=1048576) (fun y:J0×H7×Int=>(y.2.1.2.2.2.2.1.length-y.2.2:Int).toNat) ?_ _ _ h (by unfold fuel;omega)
 rintro next ⟨t2,p,i⟩ h hn
 dsimp only at h hn;unfold w9;dsimp only;refine E3.2 ⟨fun hc=>?_,fun _=>E2.2 ⟨fun y hy=>by cases hy;exact h.2,fun y hy=>by cases hy⟩⟩;have hc:=A6 hc;rw[EY (by omega) (by omega),EY (by omega) (by omega)];refine E1.2 (FF.2 ⟨⟨by omega,by omega⟩,?_⟩);refine E1.2 (FF.2 ⟨⟨by omega,by omega⟩,?_⟩);refine E3.2 ⟨fun _=>E2.2 ⟨fun y hy=>(by cases hy),fun y hy=>(by cases hy;simp)⟩,fun _=>?_⟩;exact hn _ ⟨by dsimp only;omega,by dsimp only;omega⟩ (by dsimp only;omega)
theorem A4k(x:E0)(h:x.length<=1048576):Tot (TV x) (fun r:J0×Int×Int=>r.2.2=0->r.1.2.2.2.2.1.length<=1048576):=by
 unfold TV;refine E3.2 ⟨fun _=>E2.2 (by simp),fun hc=>?_⟩;have hc:=AF hc;refine E1.2 ((ALZ _ ⟨by dsimp only;omega,rfl,rfl⟩).mono fun r2 h2=>?_);refine E3.2 ⟨fun _=>E2.2 (by simp),fun _=>?_⟩;refine E1.2 ((ALR _ ⟨fun c=>GT (ALY c trivial),h2⟩).mono fun r4 h4=>?_);refine E1.2 ((AL_ _ ⟨by dsimp only;omega,by dsimp only;rw[h4.1];exact h2⟩).mono fun r8 h8=>?_);rcases r8 with y|y
 ·have hy:=h8.1 y rfl;refine E1.2 ((A4N _ hy).mono fun r11 h11=>?_);refine E3.2 ⟨fun he=>E2.2 fun h0=>?_,fun he=>?_⟩
  ·dsimp only at h0;rw[h0,E4]at he;simp at he
  ·rw[E4]at he;have h0:r11=0:=by simpa using he
   have hb:=h11 h0;refine E1.2 ((A4M _ hb).mono fun r14 h14=>E2.2 fun _=>?_);have:=h14.2.2.2.2.2.1;dsimp only;omega
 ·exact E2.2 fun h0=>absurd h0 (h8.2 y rfl)
theorem ALa(x:E0)(h:x.length<=1048576):Tot (ZY x) (fun r:Bool=>True):=by
 unfold ZY
 repeat' first
  |(with_reducible first|refine E3.2 ⟨fun _=>?_,fun _=>?_⟩|refine E1.2 ?_|refine E2.2 ?_|refine(A4k _ ?_).mono fun _ _=>?_|refine(A4P _ ?_).mono fun _ _=>?_)
  |dsimp only
 all_goals grind[ED,EC,EG,EA,E4,EF,EE,EB,EH,EI,EP,EL,ER,ES,ET,EU,EV]
end Go.Ev.Pv
namespace Go.Ev.Pv
theorem ALb(x:GX×HZ×Int×Int)(h:0<=x.2.2.2/\x.2.2.2<=x.2.2.1/\x.2.2.1=x.2.1.length/\x.2.2.1<=281474976710656/\(∀v∈x.2.1,v.2.length<=1048576)/\(∀j:Nat,(j:Int)<x.2.2.2->∀v,x.2.1[j]?=some v->1<=v.1/\v.1<=3)):Tot (kL x) (fun r:Sum (Unit) (Int)=>(∀y,r=.inl y->∀v∈x.2.1,1<=v.1/\v.1<=3)/\∀y,r=.inr y->y≠0):=by
 refine F4 (R:=fun r:Sum Unit Int=>(∀y,r=.inl y->∀v∈x.2.1,1<=v.1/\v.1<=3)/\∀y,r=.inr y->y≠0)
  (fun y:Af×HZ×Int×Int=>0<=y.2.2.2/\y.2.2.2<=y.2.2.1/\y.2.2.1=y.2.1.length/\y.2.2.1<=281474976710656/\y.2.1=x.2.1/\(∀v∈y.2.1,v.2.length<=1048576)/\∀j:Nat,(j:Int)<y.2.2.2->∀v,y.2.1[j]?=some v->1<=v.1/\v.1<=3)
  (fun y=>(y.2.2.1-y.2.2.2).toNat) ?_ _ _ ⟨h.1,h.2.1,h.2.2.1,h.2.2.2.1,rfl,h.2.2.2.2⟩ (by unfold fuel;have:=h.2.2.2.1;omega)
 rintro next ⟨a,l,n,i⟩ hI hn
 dsimp only at hI hn;obtain⟨i0,i1,i2,i3,i4,i5,i6⟩:=hI;unfold x7;dsimp only;refine E3.2 ⟨fun hc=>?_,fun hc=>E2.2 ⟨fun y _ v hv=>?_,fun y hy=>(by cases hy)⟩⟩
 ·have hc:=A6 hc;rw[EY (by omega) (by omega)];refine E1.2 (F0.2 ⟨⟨i0,by omega⟩,fun v hv=>?_⟩);refine E3.2 ⟨fun _=>E2.2 ⟨fun y hy=>(by cases hy),fun y hy=>(by cases hy;decide)⟩,fun hk=>?_⟩
  have hk:1<=v.1/\v.1<=3:=by
   have:=BZ.1 hk;have h1:=AF this.1;have h2:=AF this.2;omega
  have hstep:∀j:Nat,(j:Int)<i+1->∀v,l[j]?=some v->1<=v.1/\v.1<=3:=by
   intro j hj w hw;by_cases hj':(j:Int)<i
   ·exact i6 j hj' w hw
   ·have:j=i.toNat:=by omega
    subst this;rw[hv]at hw;cases hw;exact hk
  have hgo:Tot (next (a,l,n,i+1)) (fun r:Sum Unit Int=>(∀y,r=.inl y->∀v∈x.2.1,1<=v.1/\v.1<=3)/\∀y,r=.inr y->y≠0):=
   hn _ ⟨by dsimp only;omega,by dsimp only;omega,i2,i3,i4,i5,hstep⟩ (by dsimp only;omega)
  refine E3.2 ⟨fun _=>E3.2 ⟨fun _=>E2.2 ⟨fun y hy=>(by cases hy),fun y hy=>(by cases hy;decide)⟩,fun _=>hgo⟩,fun _=>?_⟩;refine E1.2 ((cV (a.2.1,v.2) (i5 v (N1 hv))).mono fun r _=>?_);refine E3.2 ⟨fun he=>E2.2 ⟨fun y hy=>(by cases hy),fun y hy=>?_⟩,fun _=>hgo⟩;cases hy;rw[E4]at he;simpa using he
 ·have hc:=AF hc;rw[<-i4]at hv;obtain⟨j,hj,hjv⟩:=List.mem_iff_getElem.1 hv;exact i6 j (by omega) v (by rw[<-hjv];exact A0 hj)
theorem ALc(x:E0×Int×HZ×(List E0)×(List E0))(h:M_ x):Tot (Z_ x) (fun r:Int=>r=0->x.2.2.1.length<=100/\∀v∈x.2.2.1,1<=v.1/\v.1<=3):=by
 unfold Z_;refine E3.2 ⟨fun _=>E2.2 fun h0=>absurd h0 (by decide),fun hc=>?_⟩;have hc:=AF hc;refine E1.2 ((ALb _ ⟨B6 _,BI _,rfl,by dsimp only;omega,h.2.2.1,fun j hj=>by dsimp only at hj;omega⟩).mono fun r hr=>?_);rcases r with r|r
 ·exact E2.2 fun _=>⟨by omega,hr.1 r rfl⟩
 ·exact E2.2 fun h0=>absurd h0 (hr.2 r rfl)
set_option maxHeartbeats 1000000 in
theorem ALd(x:E0×Bool×Int×Int)(h:0<=x.2.2.2/\x.2.2.2<=x.2.2.1/\x.2.2.1<=281474976710656/\x.2.2.1=x.1.length/\x.2.2.1<=1048576):Tot (kM x) (fun r:Bool=>True):=by
 refine F4 (R:=fun r:Bool=>True) (fun y:E0×Bool×Int×Int=>(0<=y.2.2.2/\y.2.2.2<=y.2.2.1/\y.2.2.1<=281474976710656/\y.2.2.1=y.1.length/\y.2.2.1<=1048576)) (fun y:E0×Bool×Int×Int=>(y.2.2.1-y.2.2.2).toNat) ?_ _ _ (by grind) (by unfold fuel;grind);rintro next ⟨s_4,bad_5,t25,t26⟩ h hn
 try dsimp only at h hn
 unfold x8
 repeat' first
  |(with_reducible first|refine E3.2 ⟨fun _=>?_,fun _=>?_⟩|refine E1.2 ?_|refine E2.2 ?_|refine F0.2 ⟨?_,fun _ _=>?_⟩|refine hn _ ?_ ?_)
  |dsimp only
 all_goals grind[ED,EC,EG,EA,E4,EF,EE,EB,EH,EI,EP,EL,ER,ES,ET,EU,EV]
theorem ALe(x:(List E0)×(List E0)×Int×Int)(h:0<=x.2.2.2/\x.2.2.2<=x.2.2.1/\x.2.2.1=x.2.1.length/\x.2.2.1<=281474976710656/\x.1=x.2.1/\∀s∈x.2.1,s.length<=1048576):Tot (kN x) (fun r:Sum (Unit) (Int)=>∀y,r=.inr y->y≠0):=by
 refine F4 (R:=fun r:Sum Unit Int=>∀y,r=.inr y->y≠0)
  (fun y:(List E0)×(List E0)×Int×Int=>0<=y.2.2.2/\y.2.2.2<=y.2.2.1/\y.2.2.1=y.2.1.length/\y.2.2.1<=281474976710656/\y.1=y.2.1/\∀v∈y.2.1,v.length<=1048576)
  (fun y=>(y.2.2.1-y.2.2.2).toNat) ?_ _ _ h (by unfold fuel;have:=h.2.2.2.1;omega)
 rintro next ⟨a,l,n,i⟩ hI hn
 dsimp only at hI hn;obtain⟨i0,i1,i2,i3,i4,i5⟩:=hI;subst i4;unfold x9;dsimp only;refine E3.2 ⟨fun hc=>?_,fun hc=>E2.2 fun y hy=>(by cases hy)⟩;have hc:=A6 hc;rw[EY (n:=i+1) (by omega) (by omega),EY (by omega) (by omega)];refine E1.2 (F0.2 ⟨⟨i0,by omega⟩,fun v hv=>?_⟩);have hvl:=i5 v (N1 hv);refine E1.2 ((ALd _ ⟨B6 _,BI _,by dsimp only;omega,rfl,by dsimp only;omega⟩).mono fun r _=>?_);refine E3.2 ⟨fun _=>E2.2 fun y hy=>(by cases hy;decide),fun _=>?_⟩;refine E1.2 (Tot.mono (P:=fun _=>True) (E3.2 ⟨fun hz=>?_,fun _=>E2.2 trivial⟩) fun y7 _=>?_)
 ·have hz:=A6 hz;exact F0.2 ⟨⟨by omega,by omega⟩,fun _ _=>trivial⟩
 ·refine E3.2 ⟨fun _=>E2.2 fun y hy=>(by cases hy;decide),fun _=>?_⟩;exact hn _ ⟨by dsimp only;omega,by dsimp only;omega,i2,i3,rfl,i5⟩ (by dsimp only;omega)
theorem ALf(x:List E0)(h:∀s∈x,s.length<=1048576):Tot (aA x) (fun r:Int=>True):=by
 unfold aA
 repeat' first
  |(with_reducible first|refine E3.2 ⟨fun _=>?_,fun _=>?_⟩|refine E1.2 ?_|refine E2.2 ?_|refine(ALe _ ?_).mono fun _ _=>?_)
  |split
  |dsimp only
 all_goals grind[ED,EC,EG,EA,E4,EF,EE,EB,EH,EI,EP,EL,ER,ES,ET,EU,EV]
theorem ALg(x:GX×(List E0)×Int×Int)(h:0<=x.2.2.2/\x.2.2.2<=x.2.2.1/\x.2.2.1=x.2.1.length/\x.2.2.1<=281474976710656/\∀s∈x.2.1,s.length<=1048576):Tot (kO x) (fun r:Sum GX (Int)=>(∀y,r=.inl y->y=x.1)/\∀y,r=.inr y->y≠0):=by
 refine F4 (R:=fun r:Sum GX (Int)=>(∀y,r=.inl y->y=x.1)/\∀y,r=.inr y->y≠0) (fun y:GX×(List E0)×Int×Int=>(0<=y.2.2.2/\y.2.2.2<=y.2.2.1/\y.2.2.1=y.2.1.length/\y.2.2.1<=281474976710656/\∀s∈y.2.1,s.length<=1048576)/\y.1=x.1) (fun y:GX×(List E0)×Int×Int=>(y.2.2.1-y.2.2.2).toNat) ?_ _ _ (by grind) (by unfold fuel;grind);rintro next ⟨a_1,t32,t33,t34⟩ h hn
 try dsimp only at h hn
 unfold xA
 repeat' first
  |(with_reducible first|refine E3.2 ⟨fun _=>?_,fun _=>?_⟩|refine E1.2 ?_|refine E2.2 ?_|refine F0.2 ⟨?_,fun _ _=>?_⟩|refine(cV _ ?_).mono fun _ _=>?_|refine hn _ ?_ ?_)
  |dsimp only
 all_goals grind[ED,EC,EG,EA,E4,EF,EE,EB,EH,EI,EP,EL,ER,ES,ET,EU,EV]
theorem ALh(x:E0×Int×HZ×(List E0)×(List E0))(h:M_ x):Tot (aB x) (fun r:Int=>r=0->pH x):=by
 unfold aB;refine E1.2 ((ALa _ h.1).mono fun r1 _=>?_);refine E3.2 ⟨fun _=>E2.2 fun h0=>absurd h0 (by decide),fun _=>?_⟩;refine E3.2 ⟨fun _=>E2.2 fun h0=>absurd h0 (by decide),fun _=>?_⟩;refine E1.2 ((ALc _ h).mono fun r3 h3=>?_);refine E3.2 ⟨fun he=>E2.2 fun h0=>?_,fun he=>?_⟩
 ·rw[E4,h0]at he;simp at he
 have h30:r3=0:=by rw[E4]at he;simpa using he
 refine E3.2 ⟨fun _=>E2.2 fun h0=>absurd h0 (by decide),fun hc=>?_⟩;have hc:=AF hc;refine E1.2 ((ALg _ ⟨B6 _,BI _,rfl,by dsimp only;omega,h.2.2.2.2.1⟩).mono fun r6 h6=>?_);rcases r6 with y|y
 ·have:=h6.1 y rfl;subst this;exact E1.2 ((ALf _ h.2.2.2.2.2.2).mono fun r8 _=>E2.2 fun _=>⟨(h3 h30).1,(h3 h30).2,by omega⟩)
 ·exact E2.2 fun h0=>absurd h0 (h6.2 y rfl)
theorem ALi(x:Unit)(h:True):Tot (aC x) (fun r:List Int=>r.length=4):=by
 unfold aC
 repeat' first
  |with_reducible refine E2.2 ?_
  |dsimp only
 all_goals grind[ED,EC,EG,EA,E4,EF,EE,EB,EH,EI,EP,EL,ER,ES,ET,EU,EV]
theorem ALj(x:(Int->Option E0)×(List Int)×(List Int)×Int×Int)(h:0<=x.2.2.2.2/\x.2.2.2.2<=x.2.2.2.1/\x.2.2.2.1=x.2.2.1.length/\x.2.2.2.1<=281474976710656/\(∀n∈x.2.2.1,Tot (x.1 n) fun s=>s.length<=100)/\x.2.2.2.1<=1002/\x.2.1.length<=100*x.2.2.2.2):Tot (jX x) (fun r:List Int=>r.length<=100200):=by
 refine F4 (R:=fun r:List Int=>r.length<=100200) (fun y:(Int->Option E0)×(List Int)×(List Int)×Int×Int=>0<=y.2.2.2.2/\y.2.2.2.2<=y.2.2.2.1/\y.2.2.2.1=y.2.2.1.length/\y.2.2.2.1<=281474976710656/\(∀n∈y.2.2.1,Tot (y.1 n) fun s=>s.length<=100)/\y.2.2.2.1<=1002/\y.2.1.length<=100*y.2.2.2.2)
  (fun y=>(y.2.2.2.1-y.2.2.2.2).toNat) ?_ _ _ h (by unfold fuel;have:=h.2.2.2.1;omega)
 rintro next ⟨f,b,l,n,i⟩ hI hn
 dsimp only at hI hn;obtain⟨i0,i1,i2,i3,i4,i5,i6⟩:=hI;unfold wV;dsimp only;refine E3.2 ⟨fun hc=>?_,fun hc=>E2.2 (by omega)⟩;have hc:=A6 hc;rw[EY (by omega) (by omega)];refine E1.2 (F0.2 ⟨⟨i0,by omega⟩,fun v hv=>?_⟩);refine E1.2 ((i4 v (N1 hv)).mono fun s hs=>?_);refine E1.2 ((UZ _ ⟨by dsimp only;omega,by dsimp only;omega⟩).mono fun r3 h3=>?_);dsimp only at h3;exact hn _ ⟨by dsimp only;omega,by dsimp only;omega,i2,i3,i4,i5,by dsimp only;omega⟩ (by dsimp only;omega)
theorem A4l(x:(List Int)×E0×(Int->Option E0))(h:(∀n∈x.1,Tot (x.2.2 n) fun s=>s.length<=100)/\x.1.length<=1002/\x.2.1.length<=10):Tot (U7 x) (fun r:E0=>r.length<=100210):=by
 obtain⟨l,e,f⟩:=x;dsimp only at h ⊢;unfold U7;obtain⟨h1,h2,h3⟩:=h;dsimp only;refine E1.2 ((ALj _ ⟨B6 _,BI _,rfl,by dsimp only;omega,h1,by dsimp only;omega,by simp⟩).mono fun r hr=>?_);refine E1.2 ((OY _ trivial).mono fun s hs=>?_);exact E1.2 (FT.2 ⟨by omega,E2.2 (by rw[A9];omega)⟩)
theorem ALk(x:(E0->Option E0)×(List Int)×(List E0)×Int×Int)(h:0<=x.2.2.2.2/\x.2.2.2.2<=x.2.2.2.1/\x.2.2.2.1=x.2.2.1.length/\x.2.2.2.1<=281474976710656/\(∀n∈x.2.2.1,Tot (x.1 n) fun s=>s.length<=3000)/\x.2.2.2.1<=1002/\x.2.1.length<=3000*x.2.2.2.2):Tot (jY x) (fun r:List Int=>r.length<=3006000):=by
 refine F4 (R:=fun r:List Int=>r.length<=3006000) (fun y:(E0->Option E0)×(List Int)×(List E0)×Int×Int=>0<=y.2.2.2.2/\y.2.2.2.2<=y.2.2.2.1/\y.2.2.2.1=y.2.2.1.length/\y.2.2.2.1<=281474976710656/\(∀n∈y.2.2.1,Tot (y.1 n) fun s=>s.length<=3000)/\y.2.2.2.1<=1002/\y.2.1.length<=3000*y.2.2.2.2)
  (fun y=>(y.2.2.2.1-y.2.2.2.2).toNat) ?_ _ _ h (by unfold fuel;have:=h.2.2.2.1;omega)
 rintro next ⟨f,b,l,n,i⟩ hI hn
 dsimp only at hI hn;obtain⟨i0,i1,i2,i3,i4,i5,i6⟩:=hI;unfold wW;dsimp only;refine E3.2 ⟨fun hc=>?_,fun hc=>E2.2 (by omega)⟩;have hc:=A6 hc;rw[EY (by omega) (by omega)];refine E1.2 (F0.2 ⟨⟨i0,by omega⟩,fun v hv=>?_⟩);refine E1.2 ((i4 v (N1 hv)).mono fun s hs=>?_);refine E1.2 ((UZ _ ⟨by dsimp only;omega,by dsimp only;omega⟩).mono fun r3 h3=>?_);dsimp only at h3;exact hn _ ⟨by dsimp only;omega,by dsimp only;omega,i2,i3,i4,i5,by dsimp only;omega⟩ (by dsimp only;omega)
theorem A4m(x:(List E0)×E0×(E0->Option E0))(h:(∀n∈x.1,Tot (x.2.2 n) fun s=>s.length<=3000)/\x.1.length<=1002/\x.2.1.length<=10):Tot (U8 x) (fun r:E0=>r.length<=3006010):=by
 obtain⟨l,e,f⟩:=x;dsimp only at h ⊢;unfold U8;obtain⟨h1,h2,h3⟩:=h;dsimp only;refine E1.2 ((ALk _ ⟨B6 _,BI _,rfl,by dsimp only;omega,h1,by dsimp only;omega,by simp⟩).mono fun r hr=>?_);refine E1.2 ((OY _ trivial).mono fun s hs=>?_);exact E1.2 (FT.2 ⟨by omega,E2.2 (by rw[A9];omega)⟩)
theorem ALl(x:E0)(h:x.length<=1000):Tot (ZD x) (fun r:E0=>r.length<=3000):=by
 unfold ZD
 repeat' first
  |(with_reducible first|refine E3.2 ⟨fun _=>?_,fun _=>?_⟩|refine E1.2 ?_|refine E2.2 ?_|refine F0.2 ⟨?_,fun _ _=>?_⟩|refine FT.2 ⟨?_,?_⟩|refine(JO _ ?_).mono fun _ _=>?_|refine(JB _ ?_).mono fun _ _=>?_)
  |dsimp only
 all_goals grind[ED,EC,EG,EA,E4,EF,EE,EB,EH,EI,EP,EL,ER,ES,ET,EU,EV]
theorem cW(x:(List Int)×(List E0))(h:cP x):Tot (ML x) (fun r:E0=>r.length<=10000000):=by
 unfold ML;obtain⟨h1,h2,h3,h4⟩:=h;refine E1.2 (HG.2 ⟨⟨by omega,by omega,by omega⟩,?_⟩);refine E1.2 ((A4l _ ⟨fun n hn=>E1.2 ((JB n (h2 n (EP hn))).mono fun r hr=>E2.2 (by omega)),by dsimp only;rw[EL];omega,by simp⟩).mono fun r2 hr2=>?_);refine E3.2 ⟨fun _=>E1.2 (FT.2 ⟨by simp;omega,E2.2 (by simp;omega)⟩),fun _=>?_⟩;refine E1.2 (FT.2 ⟨by simp;omega,?_⟩);refine E1.2 ((A4m _ ⟨fun s hs=>E1.2 ((ALl s (h4 s hs)).mono fun r hr=>E2.2 hr),h3,by simp⟩).mono fun r5 hr5=>?_);exact E1.2 (FT.2 ⟨by simp;omega,E2.2 (by simp;omega)⟩)
theorem cX(x:Int×E0×E0×Bool)(h:OZ x):Tot (MM x) (fun r:E0=>r.length<=10000000):=by
 unfold MM
 repeat' first
  |(with_reducible first|refine E1.2 ?_|refine E2.2 ?_|refine F0.2 ⟨?_,fun _ _=>?_⟩|refine FT.2 ⟨?_,?_⟩|refine(JB _ ?_).mono fun _ _=>?_|refine(A4h _ ?_).mono fun _ _=>?_|refine(A4g _ ?_).mono fun _ _=>?_)
  |dsimp only
 all_goals grind[ED,EC,EG,EA,E4,EF,EE,EB,EH,EI,EP,EL,ER,ES,ET,EU,EV]
theorem ALm(x:Int)(h:0<=x/\x<=999999999999999999):Tot (ZE x) (fun r:E0=>r.length<=100):=by
 unfold ZE
 repeat' first
  |(with_reducible first|refine E1.2 ?_|refine E2.2 ?_|refine F0.2 ⟨?_,fun _ _=>?_⟩|refine FT.2 ⟨?_,?_⟩|refine(JB _ ?_).mono fun _ _=>?_)
  |dsimp only
 all_goals grind[ED,EC,EG,EA,E4,EF,EE,EB,EH,EI,EP,EL,ER,ES,ET,EU,EV]
theorem ALn(x:Int×(List Int)×Int×Int×Int×Int×(List E0))(h:0<=x.2.2.1/\x.2.2.1<=3):Tot (ZF x) (fun r:Int=>0<=r/\r<=4):=by
 unfold ZF
 repeat' first
  |(with_reducible first|refine E3.2 ⟨fun _=>?_,fun _=>?_⟩|refine E2.2 ?_)
  |dsimp only
 all_goals grind[ED,EC,EG,EA,E4,EF,EE,EB,EH,EI,EP,EL,ER,ES,ET,EU,EV]
theorem ALo(x:Int)(h:x<=999999999999999999):Tot (ZG x) (fun r:E0=>r.length<=30):=by
 unfold ZG
 repeat' first
  |(with_reducible first|refine E3.2 ⟨fun _=>?_,fun _=>?_⟩|refine E1.2 ?_|refine E2.2 ?_|refine F0.2 ⟨?_,fun _ _=>?_⟩|refine FT.2 ⟨?_,?_⟩|refine(JB _ ?_).mono fun _ _=>?_)
  |dsimp only
 all_goals grind[ED,EC,EG,EA,E4,EF,EE,EB,EH,EI,EP,EL,ER,ES,ET,EU,EV]
theorem ALp(x:E0)(h:x.length<=1000):Tot (ZH x) (fun r:E0=>r.length<=3000):=by
 unfold ZH
 repeat' first
  |(with_reducible first|refine E3.2 ⟨fun _=>?_,fun _=>?_⟩|refine E1.2 ?_|refine E2.2 ?_|refine F0.2 ⟨?_,fun _ _=>?_⟩|refine FT.2 ⟨?_,?_⟩|refine(JO _ ?_).mono fun _ _=>?_|refine(JB _ ?_).mono fun _ _=>?_)
  |dsimp only
 all_goals grind[ED,EC,EG,EA,E4,EF,EE,EB,EH,EI,EP,EL,ER,ES,ET,EU,EV]
theorem ALq(x:G7×E0×Bool)(h:(x.2.2=true->0<=x.1.2.2.2.2.2.1/\x.1.2.2.2.2.2.1<=999999999999999999)/\x.2.1.length<=10000000):Tot (ZI x) (fun r:G7×E0=>r.1=x.1/\r.2.length<=x.2.1.length+30):=by
 obtain⟨v_1,s_3,t27⟩:=x;try dsimp only at h ⊢
 unfold ZI
 repeat' first
  |(with_reducible first|refine E3.2 ⟨fun _=>?_,fun _=>?_⟩|refine E1.2 ?_|refine E2.2 ?_|refine F0.2 ⟨?_,fun _ _=>?_⟩|refine FT.2 ⟨?_,?_⟩|refine(JB _ ?_).mono fun _ _=>?_)
  |dsimp only
 all_goals grind[ED,EC,EG,EA,E4,EF,EE,EB,EH,EI,EP,EL,ER,ES,ET,EU,EV]
theorem cY(x:Int×(List Int)×Int×Int×Int×Int×(List E0))(h:M2 x):Tot (MN x) (fun r:E0=>r.length<=10000000):=by
 unfold MN;obtain⟨h1,h2,h3,h4,h5,h6,h7⟩:=h;refine E1.2 ((JB _ h1).mono fun r1 g1=>?_);refine E1.2 ((A4i _ h2).mono fun r2 g2=>?_);refine E1.2 ((A4l _ ⟨fun n hn=>E1.2 ((ALm n (g2.2 n hn)).mono fun r hr=>E2.2 hr),g2.1,by simp⟩).mono fun r3 g3=>?_);refine E1.2 (FT.2 ⟨by omega,?_⟩);refine E1.2 ((ALn _ h3).mono fun r5 g5=>?_);refine E1.2 ((IN _ trivial).mono fun r6 g6=>?_);refine E1.2 ((JB _ h4).mono fun r7 g7=>?_);refine E1.2 (FT.2 ⟨by omega,?_⟩);refine E1.2 ((ALo _ h5.2).mono fun r9 g9=>?_);refine E1.2 (FT.2 ⟨by rw[A9];omega,?_⟩);refine E1.2 (FT.2 ⟨by simp only[A9];omega,?_⟩);refine E1.2 ((ALq _ ⟨fun he=>⟨A6 he,h6.2⟩,by simp only[A9];omega⟩).mono fun r16 g16=>?_);simp only[A9]at g16;refine E3.2 ⟨fun _=>E1.2 (FT.2 ⟨by simp;omega,E2.2 (by simp;omega)⟩),fun _=>?_⟩;refine E1.2 (FT.2 ⟨by simp;omega,?_⟩);refine E1.2 ((A4m _ ⟨fun s hs=>E1.2 ((ALp s (h7.2 s (by rw[g16.1]at hs;exact hs))).mono fun r hr=>E2.2 hr),by dsimp only;rw[g16.1];exact h7.1,by simp⟩).mono fun r19 g19=>?_);exact E1.2 (FT.2 ⟨by simp;omega,E2.2 (by simp;omega)⟩)
theorem A4n(x:Unit)(h:True):Tot (U9 x) (fun r:List E0=>r.length=5):=by
 unfold U9
 repeat' first
  |with_reducible refine E2.2 ?_
  |dsimp only
 all_goals grind[ED,EC,EG,EA,E4,EF,EE,EB,EH,EI,EP,EL,ER,ES,ET,EU,EV]
theorem ALr(x:(List E0)×E0×Int×Int)(h:0<=x.2.2.2/\x.2.2.2<=x.2.2.1/\x.2.2.1=x.1.length/\x.2.2.1<=281474976710656):Tot (ZK x) (fun r:Sum (Unit) (Int)=>∀y,r=.inr y->0<=y/\y<x.1.length):=by
 refine F4 (R:=fun r:Sum (Unit) (Int)=>∀y,r=.inr y->0<=y/\y<x.1.length) (fun y:(List E0)×E0×Int×Int=>(0<=y.2.2.2/\y.2.2.2<=y.2.2.1/\y.2.2.1=y.1.length/\y.2.2.1<=281474976710656)/\y.1=x.1) (fun y:(List E0)×E0×Int×Int=>(y.2.2.1-y.2.2.2).toNat) ?_ _ _ (by grind) (by unfold fuel;grind);rintro next ⟨s_0,v_1,t7,t8⟩ h hn
 try dsimp only at h hn
 unfold ZJ
 repeat' first
  |(with_reducible first|refine E3.2 ⟨fun _=>?_,fun _=>?_⟩|refine E1.2 ?_|refine E2.2 ?_|refine F0.2 ⟨?_,fun _ _=>?_⟩|refine hn _ ?_ ?_)
  |dsimp only
 all_goals grind[ED,EC,EG,EA,E4,EF,EE,EB,EH,EI,EP,EL,ER,ES,ET,EU,EV]
theorem A4o(x:(List E0)×E0)(h:x.1.length<=1048576):Tot (MO x) (fun r:Int=>-1<=r/\r<x.1.length):=by
 obtain⟨s_0,v_1⟩:=x;try dsimp only at h ⊢
 unfold MO
 repeat' first
  |(with_reducible first|refine E1.2 ?_|refine E2.2 ?_|refine(ALr _ ?_).mono fun _ _=>?_)
  |split
  |dsimp only
 all_goals grind[ED,EC,EG,EA,E4,EF,EE,EB,EH,EI,EP,EL,ER,ES,ET,EU,EV]
theorem ALs(x:(List E0)×E0)(h:x.1.length<=1048576):Tot (ZL x) (fun r:Bool=>True):=by
 obtain⟨s_0,v_1⟩:=x;try dsimp only at h ⊢
 unfold ZL
 repeat' first
  |(with_reducible first|refine E1.2 ?_|refine E2.2 ?_|refine(A4o _ ?_).mono fun _ _=>?_)
  |dsimp only
 all_goals grind[ED,EC,EG,EA,E4,EF,EE,EB,EH,EI,EP,EL,ER,ES,ET,EU,EV]
theorem pO(x:Bool×E0×Int)(h:True):Tot (QQ x) (fun r:Bool=>True):=by
 unfold QQ
 repeat' first
  |(with_reducible first|refine E3.2 ⟨fun _=>?_,fun _=>?_⟩|refine E1.2 ?_|refine E2.2 ?_|refine(A4n _ ?_).mono fun _ _=>?_|refine(ALs _ ?_).mono fun _ _=>?_)
  |dsimp only
 all_goals grind[ED,EC,EG,EA,E4,EF,EE,EB,EH,EI,EP,EL,ER,ES,ET,EU,EV]
theorem ALt(x:Bool×E0×Int)(h:x.2.1.length<=5000/\0<=x.2.2/\x.2.2<=999999999999999999):Tot (UA x) (fun r:E0=>r.length<=6000):=by
 unfold UA
 repeat' first
  |(with_reducible first|refine E3.2 ⟨fun _=>?_,fun _=>?_⟩|refine E1.2 ?_|refine E2.2 ?_|refine F0.2 ⟨?_,fun _ _=>?_⟩|refine FT.2 ⟨?_,?_⟩|refine(JB _ ?_).mono fun _ _=>?_|refine(pO _ ?_).mono fun _ _=>?_|refine(A4n _ ?_).mono fun _ _=>?_|refine(A4o _ ?_).mono fun _ _=>?_|refine(IN _ ?_).mono fun _ _=>?_)
  |dsimp only
 all_goals grind[ED,EC,EG,EA,E4,EF,EE,EB,EH,EI,EP,EL,ER,ES,ET,EU,EV]
theorem ALu(x:E0×Int×(List GB)×Int×Int)(h:0<=x.2.2.2.2/\x.2.2.2.2<=x.2.2.2.1/\x.2.2.2.1=x.2.2.1.length/\x.2.2.2.1<=281474976710656/\x.1.length<=7000*x.2.2.2.2/\0<=x.2.1/\x.2.1<=x.2.2.2.2/\x.2.2.2.1<=1002/\(∀t∈x.2.2.1,t.2.1.length<=5000/\0<=t.2.2/\t.2.2<=999999999999999999)):Tot (jZ x) (fun r:E0=>r.length<=7014000):=by
 refine F4 (R:=fun r:E0=>r.length<=7014000) (fun y:E0×Int×(List GB)×Int×Int=>(0<=y.2.2.2.2/\y.2.2.2.2<=y.2.2.2.1/\y.2.2.2.1=y.2.2.1.length/\y.2.2.2.1<=281474976710656/\y.1.length<=7000*y.2.2.2.2/\0<=y.2.1/\y.2.1<=y.2.2.2.2/\y.2.2.2.1<=1002/\(∀t∈y.2.2.1,t.2.1.length<=5000/\0<=t.2.2/\t.2.2<=999999999999999999))) (fun y:E0×Int×(List GB)×Int×Int=>(y.2.2.2.1-y.2.2.2.2).toNat) ?_ _ _ (by grind) (by unfold fuel;grind);rintro next ⟨s_3,blanks_4,t8,t9,t10⟩ h hn
 try dsimp only at h hn
 unfold wX
 repeat' first
  |(with_reducible first|refine E3.2 ⟨fun _=>?_,fun _=>?_⟩|refine E1.2 ?_|refine E2.2 ?_|refine F0.2 ⟨?_,fun _ _=>?_⟩|refine FT.2 ⟨?_,?_⟩|refine(pI _ ?_).mono fun _ _=>?_|refine(pO _ ?_).mono fun _ _=>?_|refine(IN _ ?_).mono fun _ _=>?_|refine(ALt _ ?_).mono fun _ _=>?_|refine hn _ ?_ ?_)
  |dsimp only
 all_goals grind[ED,EC,EG,EA,E4,EF,EE,EB,EH,EI,EP,EL,ER,ES,ET,EU,EV]
theorem cZ(x:List GB)(h:TS x):Tot (MP x) (fun r:E0=>r.length<=10000000):=by
 unfold MP
 repeat' first
  |(with_reducible first|refine E1.2 ?_|refine E2.2 ?_|refine F0.2 ⟨?_,fun _ _=>?_⟩|refine FT.2 ⟨?_,?_⟩|refine(ALu _ ?_).mono fun _ _=>?_)
  |dsimp only
 all_goals grind[ED,EC,EG,EA,E4,EF,EE,EB,EH,EI,EP,EL,ER,ES,ET,EU,EV]
theorem c_(x:Int)(h:0<=x/\x<=999999999999999999):Tot (MQ x) (fun r:E0=>r.length<=10000000):=by
 unfold MQ
 repeat' first
  |(with_reducible first|refine E1.2 ?_|refine E2.2 ?_|refine(JB _ ?_).mono fun _ _=>?_)
  |dsimp only
 all_goals grind[ED,EC,EG,EA,E4,EF,EE,EB,EH,EI,EP,EL,ER,ES,ET,EU,EV]
theorem ALv(x:Int×E0)(h:x.2.length<=1048576):Tot (QX x) (fun r:E0×Int=>r.1.length<=10000000):=by
 unfold QX;refine E1.2 ((NT _ h).mono fun r1 h1=>?_);refine E3.2 ⟨fun _=>E2.2 (by simp),fun he=>?_⟩;have h0:r1.2=0:=by rw[E4]at he;simpa using he
 have hv:=h1 h0;revert hv;generalize r1.1=v;intro hv;refine E1.2 (Tot.mono (P:=fun r:E0=>r.length<=10000000) ?_ fun r2 hr=>E2.2 hr)
 ·rcases v with x|x|x|x|x|x
  ·exact E1.2 ((cW _ hv).mono fun _ h=>E2.2 (by omega))
  ·exact E1.2 ((cX _ hv).mono fun _ h=>E2.2 (by omega))
  ·exact E1.2 ((cY _ hv).mono fun _ h=>E2.2 (by omega))
  ·exact E1.2 ((cZ _ hv).mono fun _ h=>E2.2 (by omega))
  ·exact E1.2 ((c_ _ hv).mono fun _ h=>E2.2 (by omega))
  ·exact hv.elim
theorem ALw(x:Int×(List Int)×Int×Int)(h:0<=x.2.2.2/\x.2.2.2<=x.2.2.1/\x.2.2.1=x.2.1.length/\x.2.2.1<=281474976710656):Tot (lB x) (fun r:Sum (Unit) (Int)=>True):=by
 refine F4 (R:=fun r:Sum (Unit) (Int)=>True) (fun y:Int×(List Int)×Int×Int=>(0<=y.2.2.2/\y.2.2.2<=y.2.2.1/\y.2.2.1=y.2.1.length/\y.2.2.1<=281474976710656)) (fun y:Int×(List Int)×Int×Int=>(y.2.2.1-y.2.2.2).toNat) ?_ _ _ (by grind) (by unfold fuel;grind);rintro next ⟨zero_3,t6,t7,t8⟩ h hn
 try dsimp only at h hn
 unfold xN
 repeat' first
  |(with_reducible first|refine E3.2 ⟨fun _=>?_,fun _=>?_⟩|refine E1.2 ?_|refine E2.2 ?_|refine F0.2 ⟨?_,fun _ _=>?_⟩|refine hn _ ?_ ?_)
  |dsimp only
 all_goals grind[ED,EC,EG,EA,E4,EF,EE,EB,EH,EI,EP,EL,ER,ES,ET,EU,EV]
theorem ALx(x:List Int)(h:x.length<=1048576):Tot (aK x) (fun r:Int=>True):=by
 unfold aK
 repeat' first
  |(with_reducible first|refine E1.2 ?_|refine E2.2 ?_|refine(ALw _ ?_).mono fun _ _=>?_)
  |split
  |dsimp only
 all_goals grind[ED,EC,EG,EA,E4,EF,EE,EB,EH,EI,EP,EL,ER,ES,ET,EU,EV]
theorem ALy(x:E9×E9)(h:True):Tot (aL x) (fun r:Int=>True):=by
 obtain⟨x_0,y_1⟩:=x;try dsimp only at h ⊢
 unfold aL
 repeat' first
  |(with_reducible first|refine E1.2 ?_|refine E2.2 ?_|refine(A4j _ ?_).mono fun _ _=>?_|refine(AK_ _ ?_).mono fun _ _=>?_|refine(ALx _ ?_).mono fun _ _=>?_)
  |dsimp only
 all_goals grind[ED,EC,EG,EA,E4,EF,EE,EB,EH,EI,EP,EL,ER,ES,ET,EU,EV]
theorem ALz(x:GX×(List E9)×HZ×Int×Int)(h:0<=x.2.2.2.2/\x.2.2.2.2<=x.2.2.2.1/\x.2.2.2.1=x.2.2.1.length/\x.2.2.2.1<=281474976710656/\x.2.1.length<=x.2.2.2.2/\(∀m∈x.2.1,m.2.2.1.length<=100)/\(∀v∈x.2.2.1,v.2.length<=1048576/\1<=v.1/\v.1<=3)/\x.2.2.2.1<=100):Tot (lC x) (fun r:List E9=>r.length<=100/\∀m∈r,m.2.2.1.length<=100):=by
 refine F4 (R:=fun r:List E9=>r.length<=100/\∀m∈r,m.2.2.1.length<=100) (fun y:GX×(List E9)×HZ×Int×Int=>(0<=y.2.2.2.2/\y.2.2.2.2<=y.2.2.2.1/\y.2.2.2.1=y.2.2.1.length/\y.2.2.2.1<=281474976710656/\y.2.1.length<=y.2.2.2.2/\(∀m∈y.2.1,m.2.2.1.length<=100)/\(∀v∈y.2.2.1,v.2.length<=1048576/\1<=v.1/\v.1<=3)/\y.2.2.2.1<=100)) (fun y:GX×(List E9)×HZ×Int×Int=>(y.2.2.2.1-y.2.2.2.2).toNat) ?_ _ _ (by grind) (by unfold fuel;grind);rintro next ⟨a_1,out_3,t8,t9,t10⟩ h hn
 try dsimp only at h hn
 unfold xO
 repeat' first
  |(with_reducible first|refine E3.2 ⟨fun _=>?_,fun _=>?_⟩|refine E1.2 ?_|refine E2.2 ?_|refine F0.2 ⟨?_,fun _ _=>?_⟩|refine GH.2 ⟨?_,?_⟩|refine(ALi _ ?_).mono fun _ _=>?_|refine(ALv _ ?_).mono fun _ _=>?_|refine(cV _ ?_).mono fun _ _=>?_|refine hn _ ?_ ?_)
  |dsimp only
 all_goals grind[ED,EC,EG,EA,E4,EF,EE,EB,EH,EI,EP,EL,ER,ES,ET,EU,EV]
theorem AM0(x:E0×Int×HZ×(List E0)×(List E0))(h:M_ x/\pH x):Tot (aM x) (fun r:List E9=>r.length<=100/\∀m∈r,m.2.2.1.length<=100):=by
 unfold aM;obtain⟨h1,h2,h3,h4⟩:=h;refine E1.2 ((ALz _ ⟨B6 _,BI _,rfl,by dsimp only;omega,by simp,by simp,fun v hv=>⟨h1.2.2.1 v hv,h3 v hv⟩,by dsimp only;omega⟩).mono fun r hr=>?_);refine E1.2 ((ALW _ ⟨fun c=>GT (ALy c trivial),by dsimp only;omega⟩).mono fun r2 hr2=>E2.2 ?_);dsimp only at hr2;exact⟨by omega,fun m hm=>hr.2 m (hr2.2 m hm)⟩
theorem AM1(x:FG×Bool×G6×(List E9)×Int×Int)(h:0<=x.2.2.2.2.2/\x.2.2.2.2.2<=x.2.2.2.2.1/\x.2.2.2.2.1=x.2.2.2.1.length/\x.2.2.2.2.1<=281474976710656/\x.1.length<=x.2.2.2.2.2/\(∀s∈x.1,H8 s)/\x.2.2.1.2.2.length<=100/\x.2.2.2.2.1<=100/\∀m∈x.2.2.2.1,m.2.2.1.length<=100):Tot (lD x) (fun r:FG×Bool×G6=>r.1.length<=100/\(∀s∈r.1,H8 s)/\r.2.2.2.2.length<=100):=by
 refine F4 (R:=fun r:FG×Bool×G6=>r.1.length<=100/\(∀s∈r.1,H8 s)/\r.2.2.2.2.length<=100) (fun y:FG×Bool×G6×(List E9)×Int×Int=>(0<=y.2.2.2.2.2/\y.2.2.2.2.2<=y.2.2.2.2.1/\y.2.2.2.2.1=y.2.2.2.1.length/\y.2.2.2.2.1<=281474976710656/\y.1.length<=y.2.2.2.2.2/\(∀s∈y.1,H8 s)/\y.2.2.1.2.2.length<=100/\y.2.2.2.2.1<=100/\∀m∈y.2.2.2.1,m.2.2.1.length<=100)) (fun y:FG×Bool×G6×(List E9)×Int×Int=>(y.2.2.2.2.1-y.2.2.2.2.2).toNat) ?_ _ _ (by grind) (by unfold fuel;grind);rintro next ⟨out_3,on_4,low_5,t15,t16,t17⟩ h hn
 try dsimp only at h hn
 unfold xP
 repeat' first
  |(with_reducible first|refine E3.2 ⟨fun _=>?_,fun _=>?_⟩|refine E1.2 ?_|refine E2.2 ?_|refine F0.2 ⟨?_,fun _ _=>?_⟩|refine GH.2 ⟨?_,?_⟩|refine hn _ ?_ ?_)
  |dsimp only
 all_goals grind[ED,EC,EG,EA,E4,EF,EE,EB,EH,EI,EP,EL,ER,ES,ET,EU,EV]
theorem AM2(x:FG×G6×Bool)(h:x.1.length<=100/\(∀s∈x.1,H8 s)/\x.2.1.2.2.length<=100):Tot (aN x) (fun r:List (G6×G6)=>r.length<=101/\(∀s∈r,H8 s)):=by
 obtain⟨out_3,low_5,t56⟩:=x;try dsimp only at h ⊢
 unfold aN
 repeat' first
  |(with_reducible first|refine E3.2 ⟨fun _=>?_,fun _=>?_⟩|refine E1.2 ?_|refine E2.2 ?_|refine GH.2 ⟨?_,?_⟩)
  |dsimp only
 all_goals grind[ED,EC,EG,EA,E4,EF,EE,EB,EH,EI,EP,EL,ER,ES,ET,EU,EV]
theorem AM3(x:GX×FG×(List E0)×Int×Int)(h:0<=x.2.2.2.2/\x.2.2.2.2<=x.2.2.2.1/\x.2.2.2.1=x.2.2.1.length/\x.2.2.2.1<=281474976710656/\x.2.1.length<=101+x.2.2.2.2/\(∀s∈x.2.1,H8 s)/\x.2.2.2.1<=500/\∀m∈x.2.2.1,m.length<=1048576):Tot (lE x) (fun r:List (G6×G6)=>r.length<=601/\(∀s∈r,H8 s)):=by
 refine F4 (R:=fun r:List (G6×G6)=>r.length<=601/\(∀s∈r,H8 s)) (fun y:GX×FG×(List E0)×Int×Int=>(0<=y.2.2.2.2/\y.2.2.2.2<=y.2.2.2.1/\y.2.2.2.1=y.2.2.1.length/\y.2.2.2.1<=281474976710656/\y.2.1.length<=101+y.2.2.2.2/\(∀s∈y.2.1,H8 s)/\y.2.2.2.1<=500/\∀m∈y.2.2.1,m.length<=1048576)) (fun y:GX×FG×(List E0)×Int×Int=>(y.2.2.2.1-y.2.2.2.2).toNat) ?_ _ _ (by grind) (by unfold fuel;grind);rintro next ⟨a_1,out_3,t63,t64,t65⟩ h hn
 try dsimp only at h hn
 unfold xQ
 repeat' first
  |(with_reducible first|refine E3.2 ⟨fun _=>?_,fun _=>?_⟩|refine E1.2 ?_|refine E2.2 ?_|refine F0.2 ⟨?_,fun _ _=>?_⟩|refine GH.2 ⟨?_,?_⟩|refine(cV _ ?_).mono fun _ _=>?_|refine hn _ ?_ ?_)
  |dsimp only
 all_goals grind[ED,EC,EG,EA,E4,EF,EE,EB,EH,EI,EP,EL,ER,ES,ET,EU,EV]
theorem AM4(x:E0×Int×HZ×(List E0)×(List E0))(h:M_ x/\pH x):Tot (aO x) (fun r:List (G6×G6)=>r.length<=601/\(∀s∈r,H8 s)):=by
 unfold aO;refine E1.2 ((AM0 _ h).mono fun r hr=>?_);obtain⟨h1,h2,h3,h4⟩:=h;refine E1.2 ((AM1 _ ⟨B6 _,BI _,rfl,by dsimp only;omega,by simp,by simp,by simp,by dsimp only;omega,hr.2⟩).mono fun r5 h5=>?_);refine E1.2 ((AM2 _ h5).mono fun r8 h8=>?_);exact E1.2 ((AM3 _ ⟨B6 _,BI _,rfl,by dsimp only;omega,by dsimp only;omega,h8.2,by dsimp only;omega,h1.2.2.2.2.1⟩).mono fun r13 h13=>E2.2 h13)
theorem AM5(x:Int×G6)(h:x.2.2.2.length<=1048576):Tot (MR x) (fun r:E0×Int=>True):=by
 unfold MR;refine E3.2 ⟨fun _=>E3.2 ⟨fun _=>E2.2 trivial,fun _=>E2.2 trivial⟩,fun _=>?_⟩;refine E1.2 ((NT _ h).mono fun r1 h1=>?_);refine E3.2 ⟨fun _=>E2.2 trivial,fun he=>?_⟩;have h0:r1.2=0:=by rw[E4]at he;simpa using he
 have hv:=h1 h0;revert hv;generalize r1.1=v;intro hv;refine E1.2 (Tot.mono (P:=fun r:E0=>r.length<=10000000) ?_ fun r2 hr=>?_)
 ·rcases v with x|x|x|x|x|x
  ·exact E1.2 ((pJ _ hv).mono fun _ h=>E2.2 (by omega))
  ·exact E1.2 ((pK _ hv).mono fun _ h=>E2.2 (by omega))
  ·exact E1.2 ((pL _ hv).mono fun _ h=>E2.2 (by omega))
  ·exact E1.2 ((pM _ hv).mono fun _ h=>E2.2 (by omega))
  ·exact E1.2 ((pN _ trivial).mono fun _ h=>E2.2 (by omega))
  ·exact hv.elim
 refine E3.2 ⟨fun _=>E2.2 trivial,fun _=>?_⟩;refine E1.2 (Tot.mono (P:=fun r:E0=>r.length<=10000000) ?_ fun r2 hr=>E2.2 trivial)
 ·rcases v with x|x|x|x|x|x
  ·exact E1.2 ((cW _ hv).mono fun _ h=>E2.2 (by omega))
  ·exact E1.2 ((cX _ hv).mono fun _ h=>E2.2 (by omega))
  ·exact E1.2 ((cY _ hv).mono fun _ h=>E2.2 (by omega))
  ·exact E1.2 ((cZ _ hv).mono fun _ h=>E2.2 (by omega))
  ·exact E1.2 ((c_ _ hv).mono fun _ h=>E2.2 (by omega))
  ·exact hv.elim
theorem A4p(x:G6×E0)(h:x.1.2.2.length<=100):Tot (UB x) (fun r:Int×E0×Bool×E0=>r.2.2.2.length<=100):=by
 obtain⟨b_0,key_1⟩:=x;try dsimp only at h ⊢
 unfold UB
 repeat' first
  |(with_reducible first|refine E3.2 ⟨fun _=>?_,fun _=>?_⟩|refine E2.2 ?_)
  |dsimp only
 all_goals grind[ED,EC,EG,EA,E4,EF,EE,EB,EH,EI,EP,EL,ER,ES,ET,EU,EV]
theorem A4q(x:G6×E0)(h:x.1.2.2.length<=100):Tot (UC x) (fun r:Int×E0×Bool×E0=>r.2.2.2.length<=100):=by
 obtain⟨b_0,key_1⟩:=x;try dsimp only at h ⊢
 unfold UC
 repeat' first
  |(with_reducible first|refine E3.2 ⟨fun _=>?_,fun _=>?_⟩|refine E2.2 ?_)
  |dsimp only
 all_goals grind[ED,EC,EG,EA,E4,EF,EE,EB,EH,EI,EP,EL,ER,ES,ET,EU,EV]
theorem AM6(x:FJ×Int×Bool)(h:x.1.1.2.2.2.length<=100/\x.2.1=0):Tot (aP x) (fun r:FJ×Int=>r.1=x.1/\0<=r.2/\r.2<=1000000000000000000):=by
 obtain⟨s_1,first_5,t10⟩:=x;try dsimp only at h ⊢
 unfold aP
 repeat' first
  |(with_reducible first|refine E3.2 ⟨fun _=>?_,fun _=>?_⟩|refine E1.2 ?_|refine E2.2 ?_|refine(JO _ ?_).mono fun _ _=>?_)
  |dsimp only
 all_goals grind[ED,EC,EG,EA,E4,EF,EE,EB,EH,EI,EP,EL,ER,ES,ET,EU,EV]
set_option maxHeartbeats 1000000 in
theorem AM7(x:JI×JI)(h:x.1.2.2.2.length<=100/\x.2.2.2.2.length<=100):Tot (aQ x) (fun r:Int×Int×Bool=>0<=r.1/\r.2.1<=999999999999999999/\(r.2.2=true->r.1<=r.2.1)):=by
 unfold aQ
 repeat' first
  |(with_reducible first|refine E3.2 ⟨fun _=>?_,fun _=>?_⟩|refine E1.2 ?_|refine E2.2 ?_|refine(AM6 _ ?_).mono fun _ _=>?_|refine(JO _ ?_).mono fun _ _=>?_)
  |dsimp only
 all_goals grind[ED,EC,EG,EA,E4,EF,EE,EB,EH,EI,EP,EL,ER,ES,ET,EU,EV]
theorem AM8(x:Int×JI×Bool)(h:0<=x.1/\x.1<=999999999999999999/\x.2.1.2.2.2.length<=100):Tot (aR x) (fun r:Int×E0×Bool×E0=>r.2.2.2.length<=100):=by
 obtain⟨last_8,high_10,t27⟩:=x;try dsimp only at h ⊢
 unfold aR
 repeat' first
  |(with_reducible first|refine E3.2 ⟨fun _=>?_,fun _=>?_⟩|refine E1.2 ?_|refine E2.2 ?_|refine(JB _ ?_).mono fun _ _=>?_|refine(IN _ ?_).mono fun _ _=>?_)
  |dsimp only
 all_goals grind[ED,EC,EG,EA,E4,EF,EE,EB,EH,EI,EP,EL,ER,ES,ET,EU,EV]
theorem AM9(x:(List FJ)×Int×(List FJ)×Int×Int)(h:0<=x.2.2.2.2/\x.2.2.2.2<=x.2.2.2.1/\x.2.2.2.1=x.2.2.1.length/\x.2.2.2.1<=281474976710656/\x.1.length<=x.2.2.2.2/\(∀s∈x.1,H3 s)/\(∀s∈x.2.2.1,H3 s)/\x.2.2.2.1<=1048576/\ -2<=x.2.1/\x.2.1<=999999999999999999):Tot (lF x) (fun r:List FJ=>r.length<=1048576/\∀s∈r,H3 s):=by
 refine F4 (R:=fun r:List HH=>r.length<=1048576/\∀s∈r,H3 s) (fun y:(List HH)×Int×(List HH)×Int×Int=>0<=y.2.2.2.2/\y.2.2.2.2<=y.2.2.2.1/\y.2.2.2.1=y.2.2.1.length/\y.2.2.2.1<=281474976710656/\y.1.length<=y.2.2.2.2/\(∀s∈y.1,H3 s)/\(∀s∈y.2.2.1,H3 s)/\y.2.2.2.1<=1048576/\ -2<=y.2.1/\y.2.1<=999999999999999999)
  (fun y=>(y.2.2.2.1-y.2.2.2.2).toNat) ?_ _ _ h (by unfold fuel;have:=h.2.2.2.1;omega)
 rintro next ⟨out,e,l,n,i⟩ hI hn
 dsimp only at hI hn;obtain⟨i0,i1,i2,i3,i4,i5,i6,i7,i8,i9⟩:=hI;unfold xR;dsimp only;refine E3.2 ⟨fun hc=>?_,fun hc=>E2.2 ⟨by omega,i5⟩⟩;have hc:=A6 hc;rw[EY (n:=i+1) (by omega) (by omega),EY (n:=e+1) (by omega) (by omega)];refine E1.2 (F0.2 ⟨⟨i0,by omega⟩,fun v hv=>?_⟩);have hvb:=i6 v (N1 hv);refine E1.2 ((AM7 _ hvb).mono fun r2 h2=>?_);obtain⟨j1,j2,j3⟩:=h2;refine E3.2 ⟨fun _=>hn _ ⟨by dsimp only;omega,by dsimp only;omega,i2,i3,by dsimp only;omega,i5,i6,i7,i8,i9⟩ (by dsimp only;omega),fun hb=>?_⟩;have hle:=j3 (by simpa using hb);refine E1.2 (Tot.mono (P:=fun r:Edge=>r.2.2.2.length<=100) ((AM8 _ ⟨by dsimp only;omega,by dsimp only;omega,by simp⟩)) fun r5 h5=>?_);by_cases hl:(0:Int)<out.length
 ·rw[EY (n:=(out.length:Int)-1) (by omega) (by omega)];refine E3.2 ⟨fun _=>?_,fun _=>?_⟩
  ·refine E1.2 (FF.2 ⟨⟨by omega,by omega⟩,?_⟩);refine hn _ ⟨by dsimp only;omega,by dsimp only;omega,i2,i3,by dsimp only;rw[AD];omega,fun s hs=>?_,i6,i7,by dsimp only;omega,by dsimp only;omega⟩ (by dsimp only;omega);dsimp only at hs;rcases EI hs with hs|hs
   ·exact i5 s hs
   ·subst hs;exact⟨(i5 _ (EH (by omega))).1,h5⟩
  ·refine E1.2 ((JB _ ⟨j1,by omega⟩).mono fun r8 h8=>?_);refine E1.2 ((IN _ trivial).mono fun r9 h9=>?_);refine E1.2 (GH.2 ⟨by simp only[AG,AV];omega,?_⟩);refine hn _ ⟨by dsimp only;omega,by dsimp only;omega,i2,i3,by dsimp only;rw[A9];simp only[AG,AV];omega,fun s hs=>?_,i6,i7,by dsimp only;omega,by dsimp only;omega⟩ (by dsimp only;omega);dsimp only at hs;rcases AP.1 hs with hs|hs
   ·exact i5 s hs
   ·rw[AU]at hs;subst hs;exact⟨by dsimp only;omega,h5⟩
 ·rw[AC hl,CJ];simp only[AE];refine E1.2 ((JB _ ⟨j1,by omega⟩).mono fun r8 h8=>?_);refine E1.2 ((IN _ trivial).mono fun r9 h9=>?_);refine E1.2 (GH.2 ⟨by simp only[AG,AV];omega,?_⟩);refine hn _ ⟨by dsimp only;omega,by dsimp only;omega,i2,i3,by dsimp only;rw[A9];simp only[AG,AV];omega,fun s hs=>?_,i6,i7,by dsimp only;omega,by dsimp only;omega⟩ (by dsimp only;omega);dsimp only at hs;rcases AP.1 hs with hs|hs
  ·exact i5 s hs
  ·rw[AU]at hs;subst hs;exact⟨by dsimp only;omega,h5⟩
theorem AMA(x:List FJ)(h:(∀s∈x,H3 s)/\x.length<=1048576):Tot (aS x) (fun r:List FJ=>r.length<=1048576/\∀s∈r,H3 s):=by
 unfold aS
 repeat' first
  |(with_reducible first|refine E1.2 ?_|refine E2.2 ?_|refine(AM9 _ ?_).mono fun _ _=>?_)
  |dsimp only
 all_goals grind[ED,EC,EG,EA,E4,EF,EE,EB,EH,EI,EP,EL,ER,ES,ET,EU,EV]
theorem AMB(x:(List FJ)×Bool)(h:(∀s∈x.1,H3 s)/\x.1.length<=1048576):Tot (aT x) (fun r:List FJ=>r.length<=1048576/\∀s∈r,H3 s):=by
 obtain⟨l_1,t11⟩:=x;try dsimp only at h ⊢
 unfold aT
 repeat' first
  |(with_reducible first|refine E3.2 ⟨fun _=>?_,fun _=>?_⟩|refine E1.2 ?_|refine E2.2 ?_|refine(AMA _ ?_).mono fun _ _=>?_)
  |dsimp only
 all_goals grind[ED,EC,EG,EA,E4,EF,EE,EB,EH,EI,EP,EL,ER,ES,ET,EU,EV]
theorem AMC(x:FJ×(G6×G6)×Bool)(h:H3 x.1/\H8 x.2.1):Tot (aU x) (fun r:FJ×(G6×G6)=>r.1=x.1/\H8 r.2):=by
 obtain⟨s_8,x_9,t29⟩:=x;try dsimp only at h ⊢
 unfold aU
 repeat' first
  |(with_reducible first|refine E3.2 ⟨fun _=>?_,fun _=>?_⟩|refine E2.2 ?_)
  |dsimp only
 all_goals grind[ED,EC,EG,EA,E4,EF,EE,EB,EH,EI,EP,EL,ER,ES,ET,EU,EV]
set_option maxHeartbeats 1000000 in
theorem AMD(x:(Int×FG)×(List FJ)×Int×Int)(h:0<=x.2.2.2/\x.2.2.2<=x.2.2.1/\x.2.2.1=x.2.1.length/\x.2.2.1<=281474976710656/\x.1.2.length<=x.2.2.2/\x.2.2.1<=200/\(∀s∈x.2.1,H3 s)/\(∀s∈x.1.2,H8 s)):Tot (lG x) (fun r:Int×FG=>r.1=x.1.1/\r.2.length<=200/\∀s∈r.2,H8 s):=by
 refine F4 (R:=fun r:Int×FG=>r.1=x.1.1/\r.2.length<=200/\∀s∈r.2,H8 s) (fun y:(Int×FG)×(List FJ)×Int×Int=>(0<=y.2.2.2/\y.2.2.2<=y.2.2.1/\y.2.2.1=y.2.1.length/\y.2.2.1<=281474976710656/\y.1.2.length<=y.2.2.2/\y.2.2.1<=200/\(∀s∈y.2.1,H3 s)/\(∀s∈y.1.2,H8 s))/\y.1.1=x.1.1) (fun y:(Int×FG)×(List FJ)×Int×Int=>(y.2.2.1-y.2.2.2).toNat) ?_ _ _ (by grind) (by unfold fuel;grind);rintro next ⟨r_6,t20,t21,t22⟩ h hn
 try dsimp only at h hn
 unfold xS
 repeat' first
  |(with_reducible first|refine E3.2 ⟨fun _=>?_,fun _=>?_⟩|refine E1.2 ?_|refine E2.2 ?_|refine F0.2 ⟨?_,fun _ _=>?_⟩|refine GH.2 ⟨?_,?_⟩|refine(AMC _ ?_).mono fun _ _=>?_|refine hn _ ?_ ?_)
  |dsimp only
 all_goals grind[ED,EC,EG,EA,E4,EF,EE,EB,EH,EI,EP,EL,ER,ES,ET,EU,EV]
theorem AME(x:Int×(List FJ))(h:(∀s∈x.2,H3 s)/\x.2.length<=1048576):Tot (aV x) (fun r:(Int×FG)×Int=>r.1.2.length<=200/\∀s∈r.1.2,H8 s):=by
 obtain⟨kind_0,l_1⟩:=x;try dsimp only at h ⊢
 unfold aV
 repeat' first
  |(with_reducible first|refine E3.2 ⟨fun _=>?_,fun _=>?_⟩|refine E1.2 ?_|refine E2.2 ?_|refine(AMB _ ?_).mono fun _ _=>?_|refine(AMD _ ?_).mono fun _ _=>?_)
  |dsimp only
 all_goals grind[ED,EC,EG,EA,E4,EF,EE,EB,EH,EI,EP,EL,ER,ES,ET,EU,EV]
set_option maxHeartbeats 1000000 in
theorem AMF(x:Int×(Int×FG)×(List FJ)×FG×Int×Int)(h:0<=x.2.2.2.2.2/\x.2.2.2.2.2<=x.2.2.2.2.1/\x.2.2.2.2.1=x.2.2.2.1.length/\x.2.2.2.2.1<=281474976710656/\x.2.2.1.length<=x.2.2.2.2.2/\(∀s∈x.2.2.1,H3 s)/\x.2.2.2.2.1<=1048576/\(∀s∈x.2.2.2.1,H8 s)):Tot (lH x) (fun r:Sum ((Int×FG)×(List FJ)) ((Int×FG)×Int)=>(∀y,r=.inl y->y.2.length<=1048576/\∀s∈y.2,H3 s)/\∀y,r=.inr y->y.1.2=[]):=by
 refine F4 (R:=fun r:Sum ((Int×FG)×(List FJ)) ((Int×FG)×Int)=>(∀y,r=.inl y->y.2.length<=1048576/\∀s∈y.2,H3 s)/\∀y,r=.inr y->y.1.2=[]) (fun y:Int×(Int×FG)×(List FJ)×FG×Int×Int=>(0<=y.2.2.2.2.2/\y.2.2.2.2.2<=y.2.2.2.2.1/\y.2.2.2.2.1=y.2.2.2.1.length/\y.2.2.2.2.1<=281474976710656/\y.2.2.1.length<=y.2.2.2.2.2/\(∀s∈y.2.2.1,H3 s)/\y.2.2.2.2.1<=1048576/\(∀s∈y.2.2.2.1,H8 s))) (fun y:Int×(Int×FG)×(List FJ)×FG×Int×Int=>(y.2.2.2.2.1-y.2.2.2.2.2).toNat) ?_ _ _ (by grind) (by unfold fuel;grind);rintro next ⟨kind_0,t4,all_6,t17,t18,t19⟩ h hn
 try dsimp only at h hn
 unfold xT
 repeat' first
  |(with_reducible first|refine E3.2 ⟨fun _=>?_,fun _=>?_⟩|refine E1.2 ?_|refine E2.2 ?_|refine F0.2 ⟨?_,fun _ _=>?_⟩|refine GH.2 ⟨?_,?_⟩|refine(AM5 _ ?_).mono fun _ _=>?_|refine(A4p _ ?_).mono fun _ _=>?_|refine(A4q _ ?_).mono fun _ _=>?_|refine(O_ _ ?_).mono fun _ _=>?_|refine hn _ ?_ ?_)
  |dsimp only
 all_goals grind[ED,EC,EG,EA,E4,EF,EE,EB,EH,EI,EP,EL,ER,ES,ET,EU,EV]
theorem AMG(x:(List FJ)×(List FJ)×Int×Int)(h:0<=x.2.2.2/\x.2.2.2<=x.2.2.1/\x.2.2.1=x.2.1.length/\x.2.2.1<=281474976710656/\x.1.length<=x.2.2.2/\(∀s∈x.1,H3 s)/\x.2.2.1<=1048576/\(∀s∈x.2.1,H3 s)):Tot (lI x) (fun r:List FJ=>r.length<=1048576/\∀s∈r,H3 s):=by
 refine F4 (R:=fun r:List HH=>r.length<=1048576/\∀s∈r,H3 s) (fun y:(List HH)×(List HH)×Int×Int=>0<=y.2.2.2/\y.2.2.2<=y.2.2.1/\y.2.2.1=y.2.1.length/\y.2.2.1<=281474976710656/\y.1.length<=y.2.2.2/\(∀s∈y.1,H3 s)/\y.2.2.1<=1048576/\(∀s∈y.2.1,H3 s))
  (fun y=>(y.2.2.1-y.2.2.2).toNat) ?_ _ _ h (by unfold fuel;have:=h.2.2.2.1;omega)
 rintro next ⟨out,l,n,i⟩ hI hn
 dsimp only at hI hn;obtain⟨i0,i1,i2,i3,i4,i5,i6,i7⟩:=hI;unfold xU;dsimp only;refine E3.2 ⟨fun hc=>?_,fun hc=>E2.2 ⟨by omega,i5⟩⟩;have hc:=A6 hc;rw[EY (n:=i+1) (by omega) (by omega)];refine E1.2 (FF.2 ⟨⟨i0,by omega⟩,?_⟩);have hv:=i7 _ (EH (l:=l) (i:=i.toNat) (d:=((0,(([]:E0),(false,([]:E0)))),(0,(([]:E0),(false,([]:E0)))))) (by omega));generalize l.getD i.toNat ((0,(([]:E0),(false,([]:E0)))),(0,(([]:E0),(false,([]:E0)))))=v at hv;have happ:∀(Q:List HH->Prop),Q (out++[v])->Tot (app? 192 out [v]) Q:=fun Q hQ=>GH.2 ⟨by simp only[AG,AV];omega,hQ⟩
 have hgo:Tot (next (out++[v],l,n,i+1)) (fun r:List HH=>r.length<=1048576/\∀s∈r,H3 s):=by
  refine hn _ ⟨by dsimp only;omega,by dsimp only;omega,i2,i3,by dsimp only;rw[A9];simp only[AG,AV];omega,fun s hs=>?_,i6,i7⟩ (by dsimp only;omega);dsimp only at hs;rcases AP.1 hs with hs|hs
  ·exact i5 s hs
  ·rw[AU]at hs;subst hs;exact hv
 by_cases hl:(out.length:Int)=0
 ·have e:E6 (out.length:Int) 0=true:=by rw[E4];exact A7 hl
  rw[e];simp only[BV,AE,Bool.true_or,AB];refine E1.2 (E2.2 (E1.2 (E2.2 (E1.2 (happ _ hgo)))))
 ·have e:E6 (out.length:Int) 0=false:=by rw[E4];exact AC hl
  rw[e,EY (n:=(out.length:Int)-1) (by omega) (by omega)];simp only[D9,AB,CM];refine E1.2 (FF.2 ⟨⟨by omega,by omega⟩,?_⟩);refine E1.2 ((O_ _ trivial).mono fun r16 _=>?_);refine E3.2 ⟨fun _=>E1.2 (happ _ hgo),fun _=>?_⟩;refine E1.2 (FF.2 ⟨⟨by omega,by omega⟩,?_⟩);refine E1.2 ((O_ _ trivial).mono fun r21 _=>?_);refine E3.2 ⟨fun _=>?_,fun _=>hn _ ⟨by dsimp only;omega,by dsimp only;omega,i2,i3,by dsimp only;omega,i5,i6,i7⟩ (by dsimp only;omega)⟩;refine E1.2 (FF.2 ⟨⟨by omega,by omega⟩,?_⟩);refine hn _ ⟨by dsimp only;omega,by dsimp only;omega,i2,i3,by dsimp only;rw[AD];omega,fun s hs=>?_,i6,i7⟩ (by dsimp only;omega);dsimp only at hs;rcases EI hs with hs|hs
  ·exact i5 s hs
  ·subst hs;exact⟨(i5 _ (EH (by omega))).1,hv.2⟩
theorem AMH(x:Int×FG)(h:(∀s∈x.2,H8 s)/\x.2.length<=1048576):Tot (aW x) (fun r:(Int×FG)×Int=>r.1.2.length<=200/\∀s∈r.1.2,H8 s):=by
 unfold aW;obtain⟨h1,h2⟩:=h;refine E1.2 ((AMF _ ⟨B6 _,BI _,rfl,by dsimp only;omega,by simp,by simp,by dsimp only;omega,h1⟩).mono fun r hr=>?_);rcases r with y|y
 ·obtain⟨g1,g2⟩:=hr.1 y rfl;refine E1.2 ((AKZ y.2).mono fun r13 h13=>?_);have l13:=h13.1.length_eq;refine E1.2 ((AMG _ ⟨B6 _,BI _,rfl,by dsimp only;omega,by simp,by simp,by dsimp only;omega,fun s hs=>g2 s (h13.1.mem_iff.1 hs)⟩).mono fun r23 h23=>?_);exact E1.2 ((AME _ ⟨h23.2,h23.1⟩).mono fun r24 h24=>E2.2 h24)
 ·have:=hr.2 y rfl;refine E2.2 ?_;dsimp only;rw[this];simp
theorem AMI(x:E0×Int×HZ×(List E0)×(List E0))(h:M_ x):Tot (aX x) (fun r:(Int×FG)×Int=>r.1.2.length<=200/\(∀s∈r.1.2,H8 s)):=by
 unfold aX;refine E1.2 ((ALh _ h).mono fun r1 h1=>?_);refine E3.2 ⟨fun _=>E2.2 (by simp),fun he=>?_⟩;have h0:r1=0:=by rw[E4]at he;simpa using he
 refine E1.2 ((AM4 _ ⟨h,h1 h0⟩).mono fun r3 h3=>?_);exact E1.2 ((AMH _ ⟨h3.2,by dsimp only;omega⟩).mono fun r4 h4=>E2.2 h4)
end Go.Ev.Pv
namespace Go.Ev.Pv
theorem AMJ(x:MH×(List E0)×Int×Int)(h:0<=x.2.2.2/\x.2.2.2<=x.2.2.1/\x.2.2.1=x.2.1.length/\x.2.2.1<=281474976710656/\(∀s∈x.2.1,s.length<=1048576)/\x.2.1=x.1.2.1):Tot (kJ x) (fun r:Sum (Unit) (Int)=>True):=by
 refine F4 (R:=fun r:Sum Unit Int=>True)
  (fun y:KT×(List E0)×Int×Int=>0<=y.2.2.2/\y.2.2.2<=y.2.2.1/\y.2.2.1=y.2.1.length/\y.2.2.1<=281474976710656/\(∀v∈y.2.1,v.length<=1048576)/\y.2.1=y.1.2.1)
  (fun y=>(y.2.2.1-y.2.2.2).toNat) ?_ _ _ h (by unfold fuel;have:=h.2.2.2.1;omega)
 rintro next ⟨a,l,n,i⟩ hI hn
 dsimp only at hI hn;obtain⟨i0,i1,i2,i3,i4,i5⟩:=hI;unfold x5;dsimp only;refine E3.2 ⟨fun hc=>?_,fun hc=>E2.2 trivial⟩;have hc:=A6 hc;rw[EY (n:=i+1) (by omega) (by omega),EY (by omega) (by omega)];refine E1.2 (F0.2 ⟨⟨i0,by omega⟩,fun v hv=>?_⟩);have hvl:=i4 v (N1 hv);refine E1.2 ((A49 _ (by omega)).mono fun r _=>?_);refine E3.2 ⟨fun _=>E2.2 trivial,fun _=>?_⟩;refine E3.2 ⟨fun _=>E2.2 trivial,fun _=>?_⟩;refine E1.2 (Tot.mono (P:=fun _=>True) (E3.2 ⟨fun hz=>?_,fun _=>E2.2 trivial⟩) fun y7 _=>?_)
 ·have hz:=A6 hz;exact F0.2 ⟨⟨by omega,by rw[<-i5];omega⟩,fun _ _=>trivial⟩
 ·refine E3.2 ⟨fun _=>E2.2 trivial,fun _=>?_⟩;exact hn _ ⟨by dsimp only;omega,by dsimp only;omega,i2,i3,i4,i5⟩ (by dsimp only;omega)
theorem AMK(x:E0×(List E0)×E0×Int×Bool×E0×(List GX))(h:∀s∈x.2.1,s.length<=1048576):Tot (ZV x) (fun r:Int=>True):=by
 unfold ZV
 repeat' first
  |(with_reducible first|refine E3.2 ⟨fun _=>?_,fun _=>?_⟩|refine E1.2 ?_|refine E2.2 ?_|refine(AMJ _ ?_).mono fun _ _=>?_)
  |split
  |dsimp only
 all_goals grind[ED,EC,EG,EA,E4,EF,EE,EB,EH,EI,EP,EL,ER,ES,ET,EU,EV]
theorem AML(x:Unit)(h:True):Tot (ZW x) (fun r:List (List (Int×Int))=>r.length=6):=by
 unfold ZW
 repeat' first
  |with_reducible refine E2.2 ?_
  |dsimp only
 all_goals grind[ED,EC,EG,EA,E4,EF,EE,EB,EH,EI,EP,EL,ER,ES,ET,EU,EV]
theorem AMM(x:E0×(List Int)×(List (List (Int×Int)))×Int)(h:0<=x.2.2.2/\x.2.2.2<=6/\x.2.2.1.length=6/\x.1.length=6):Tot (kK x) (fun r:Sum (List Int) (Int×Int)=>True):=by
 refine F4 (R:=fun r:Sum (List Int) (Int×Int)=>True) (fun y:E0×(List Int)×(List (List (Int×Int)))×Int=>(0<=y.2.2.2/\y.2.2.2<=6/\y.2.2.1.length=6/\y.1.length=6)) (fun y:E0×(List Int)×(List (List (Int×Int)))×Int=>(6-y.2.2.2).toNat) ?_ _ _ (by grind) (by unfold fuel;grind);rintro next ⟨vector_0,w_5,t16,t17⟩ h hn
 try dsimp only at h hn
 unfold x6
 repeat' first
  |(with_reducible first|refine E3.2 ⟨fun _=>?_,fun _=>?_⟩|refine E1.2 ?_|refine E2.2 ?_|refine F0.2 ⟨?_,fun _ _=>?_⟩|refine FF.2 ⟨?_,?_⟩|refine hn _ ?_ ?_)
  |dsimp only
 all_goals grind[ED,EC,EG,EA,E4,EF,EE,EB,EH,EI,EP,EL,ER,ES,ET,EU,EV]
theorem AMN(x:E0)(h:True):Tot (ZX x) (fun r:Int×Int=>True):=by
 unfold ZX
 repeat' first
  |(with_reducible first|refine E3.2 ⟨fun _=>?_,fun _=>?_⟩|refine E1.2 ?_|refine E2.2 ?_|refine(AML _ ?_).mono fun _ _=>?_|refine(AMM _ ?_).mono fun _ _=>?_|refine o_.2 ⟨?_,?_⟩)
  |split
  |dsimp only
 all_goals grind[ED,EC,EG,EA,E4,EF,EE,EB,EH,EI,EP,EL,ER,ES,ET,EU,EV]
theorem AMO(x:MH×Bool)(h:True):Tot (aY x) (fun r:Sum MH (JJ×Int)=>∀y,r=.inl y->y=x.1):=by
 obtain⟨a_1,t37⟩:=x;try dsimp only at h ⊢
 unfold aY
 repeat' first
  |(with_reducible first|refine E3.2 ⟨fun _=>?_,fun _=>?_⟩|refine E1.2 ?_|refine E2.2 ?_|refine(AMN _ ?_).mono fun _ _=>?_)
  |dsimp only
 all_goals grind[ED,EC,EG,EA,E4,EF,EE,EB,EH,EI,EP,EL,ER,ES,ET,EU,EV]
theorem AMP(x:JJ×(List GX)×Int×Int)(h:0<=x.2.2.2/\x.2.2.2<=x.2.2.1/\x.2.2.1=x.2.1.length/\x.2.2.1<=281474976710656/\x.2.2.1<=50/\x.1.length<=x.2.2.2/\∀z∈x.2.1,M_ z):Tot (lJ x) (fun r:Sum JJ (JJ×Int)=>True):=by
 refine F4 (R:=fun r:Sum JJ (JJ×Int)=>True) (fun y:JJ×(List GX)×Int×Int=>(0<=y.2.2.2/\y.2.2.2<=y.2.2.1/\y.2.2.1=y.2.1.length/\y.2.2.1<=281474976710656/\y.2.2.1<=50/\y.1.length<=y.2.2.2/\∀z∈y.2.1,M_ z)) (fun y:JJ×(List GX)×Int×Int=>(y.2.2.1-y.2.2.2).toNat) ?_ _ _ (by grind) (by unfold fuel;grind);rintro next ⟨out_7,t52,t53,t54⟩ h hn
 try dsimp only at h hn
 unfold xV
 repeat' first
  |(with_reducible first|refine E3.2 ⟨fun _=>?_,fun _=>?_⟩|refine E1.2 ?_|refine E2.2 ?_|refine F0.2 ⟨?_,fun _ _=>?_⟩|refine GH.2 ⟨?_,?_⟩|refine(AMI _ ?_).mono fun _ _=>?_|refine hn _ ?_ ?_)
  |dsimp only
 all_goals grind[ED,EC,EG,EA,E4,EF,EE,EB,EH,EI,EP,EL,ER,ES,ET,EU,EV]
theorem AMQ(x:E0×(List E0)×E0×Int×Bool×E0×(List GX))(h:N0 x):Tot (aZ x) (fun r:JJ×Int=>True):=by
 unfold aZ
 repeat' first
  |(with_reducible first|refine E3.2 ⟨fun _=>?_,fun _=>?_⟩|refine E1.2 ?_|refine E2.2 ?_|refine(A49 _ ?_).mono fun _ _=>?_|refine(AMK _ ?_).mono fun _ _=>?_|refine(AMO _ ?_).mono fun _ _=>?_|refine(AMP _ ?_).mono fun _ _=>?_)
  |split
  |dsimp only
 all_goals grind[ED,EC,EG,EA,E4,EF,EE,EB,EH,EI,EP,EL,ER,ES,ET,EU,EV,N0]
theorem AMR(x:E0×(List E0)×E0×Int×Bool×E0×(List GX))(h:N0 x):Tot (QZ x) (fun r:Int=>True):=by
 unfold QZ
 repeat' first
  |(with_reducible first|refine E1.2 ?_|refine E2.2 ?_|refine(AMQ _ ?_).mono fun _ _=>?_)
  |dsimp only
 all_goals grind[ED,EC,EG,EA,E4,EF,EE,EB,EH,EI,EP,EL,ER,ES,ET,EU,EV]
end Go.Ev.Pv
namespace Go.Ev.Pv
theorem H4{α:Type}{l:List α}{i:Nat}{a:α}(h:l[i]?=some a):l.take (i+1)=l.take i++[a]:=by
 rw[List.take_add_one,h];rfl
abbrev Rg:=Int×(List NR)
noncomputable def P0(v:Vr):Option E0:=(fun z=>Sum.casesOn (motive:=fun _=>Option E0) z (fun x=>(ML x).bind fun r=>some r) (fun z=>Sum.casesOn (motive:=fun _=>Option E0) z (fun x=>(MM x).bind fun r=>some r) (fun z=>Sum.casesOn (motive:=fun _=>Option E0) z (fun x=>(MN x).bind fun r=>some r) (fun z=>Sum.casesOn (motive:=fun _=>Option E0) z (fun x=>(MP x).bind fun r=>some r) (fun z=>Sum.casesOn (motive:=fun _=>Option E0) z (fun x=>(MQ x).bind fun r=>some r) (fun _=>none)))))) v
theorem A4r{v:Vr}(hv:J3 v):Tot (P0 v) (fun _=>True):=by
 unfold P0;rcases v with x|x|x|x|x|x
 ·exact E1.2 ((cW _ hv).mono fun _ h=>E2.2 trivial)
 ·exact E1.2 ((cX _ hv).mono fun _ h=>E2.2 trivial)
 ·exact E1.2 ((cY _ hv).mono fun _ h=>E2.2 trivial)
 ·exact E1.2 ((cZ _ hv).mono fun _ h=>E2.2 trivial)
 ·exact E1.2 ((c_ _ hv).mono fun _ h=>E2.2 trivial)
 ·exact hv.elim
def Vs(k:Int)(w:E0)(v:Vr)(s:E0):Prop:=IJ (k,w)=some (v,0)/\P0 v=some s
theorem AMS{k:Int}{w:E0}{v:Vr}(hw:w.length<=1048576)(h:IJ (k,w)=some (v,0)):∃s,Vs k w v s:=by
 obtain⟨r,h1,h2⟩:=NT (k,w) hw;rw[h]at h1;cases h1;obtain⟨s,h3,_⟩:=A4r (h2 rfl);exact⟨s,h,h3⟩
theorem AMT{k:Int}{w:E0}{v:Vr}{s:E0}(h:Vs k w v s):QX (k,w)=some (s,0):=by
 show((IJ (k,w)).bind fun r1=>bif (!(E6 r1.2 (0:Int)))then some (([]:E0),r1.2)else(P0 r1.1).bind fun r2=>some (r2,(0:Int)))=_;rw[h.1];simp only[A1,E4,decide_true,BV,AE];rw[h.2];rfl
noncomputable def ky(k:Int)(w:E0):E0:=((QX (k,w)).getD ([],0)).1
theorem AMU{k:Int}{w:E0}{v:Vr}{s:E0}(h:Vs k w v s):ky k w=s:=by unfold ky;rw[AMT h];rfl
def Ok(k:Int)(w:E0):Prop:=∃v,Vs k w v (ky k w)
theorem AMV{k:Int}{w:E0}{v:Vr}{s:E0}(h:Vs k w v s):Ok k w:=⟨v,by rw[AMU h];exact h⟩
theorem AMW(k:Int)(w:E0)(hw:w.length<=1048576):Tot (Z3 (k,w)) (fun r=>r=0->Ok k w):=by
 unfold Z3;dsimp only;obtain⟨⟨v,e⟩,h1,h2⟩:=NT (k,w) hw;rw[h1];refine E1.2 (E2.2 (E2.2 fun he=>?_));dsimp only at he;subst he;obtain⟨s,hs⟩:=AMS hw h1;exact AMV hs
theorem AMX(s:NR)(b:List HH)(hs:H8 s)(hb:∀x∈b,H3 x)(hl:b.length<=1048576):Tot (ZN (s,b)) (fun _=>True):=by
 unfold ZN;dsimp only;refine E3.2 ⟨fun _=>E2.2 trivial,fun _=>E3.2 ⟨fun hc=>?_,fun _=>E2.2 trivial⟩⟩;have hc:=A6 hc;rw[EY (n:=(b.length:Int)-1) (by omega) (by omega)];refine E1.2 ((JO _ (by have:=hs.1;omega)).mono fun r hr=>E1.2 (F0.2 ⟨⟨by omega,by omega⟩,fun y hy=>?_⟩));refine E1.2 ((JO _ (by have:=(hb y (N1 hy)).2;omega)).mono fun r' hr'=>?_);exact E3.2 ⟨fun _=>E2.2 trivial,fun _=>E2.2 trivial⟩
theorem AMY(l:List HH)(k:E0)(hl:l.length<=1048576):Tot (RA (l,k)) (fun _=>True):=by
 unfold RA m6;dsimp only;refine E1.2 (E1.2 (Tot.mono (P:=fun _=>True) ?_ fun q _=>by rcases q with y|y<;>exact E2.2 (E2.2 trivial)));generalize hf:(fun x:HH=>(bE (x,(some ((0:Int),(k,(false,([]:E0))))))).bind fun r=>some r)=f
 have hF:∀x,Tot (f x) fun _=>True:=by
  intro x;subst hf;unfold bE;dsimp only;refine E1.2 (E1.2 (E2.2 (E1.2 ((O_ _ trivial).mono fun r2 _=>?_))));refine E1.2 (Tot.mono (P:=fun _=>True) (E3.2 ⟨fun _=>E2.2 trivial,fun _=>E2.2 trivial⟩) fun p3 _=>?_);exact E1.2 (Tot.mono (P:=fun _=>True) (E3.2 ⟨fun _=>O_ _ trivial,fun _=>E2.2 trivial⟩) fun r4 _=>E2.2 (E2.2 trivial))
 clear hf
 refine F4 (R:=fun _:Sum Unit Int=>True) (fun y:(List HH)×(HH->Option Bool)×Int×Int=>y.1=l/\y.2.1=f/\y.2.2.1=l.length/\0<=y.2.2.2/\y.2.2.2<=l.length)
  (fun y=>((l.length:Int)-y.2.2.2).toNat) ?_ _ _ ⟨rfl,rfl,rfl,B6 _,BI _⟩ (by unfold fuel;dsimp only;omega)
 rintro next ⟨l',f',n,i⟩ hI hn
 dsimp only at hI hn;obtain⟨rfl,rfl,rfl,i0,i1⟩:=hI;unfold yB;dsimp only;refine E3.2 ⟨fun hc=>?_,fun hc=>E2.2 trivial⟩;have hc:=A6 hc;rw[EY (n:=i+1) (by omega) (by omega)];refine E1.2 (F0.2 ⟨⟨i0,hc⟩,fun s hx=>?_⟩);refine E1.2 ((hF s).mono fun r _=>E3.2 ⟨fun _=>E2.2 trivial,fun _=>?_⟩);exact hn _ ⟨rfl,rfl,rfl,by dsimp only;omega,by dsimp only;omega⟩ (by dsimp only;omega)
noncomputable def inn(L:List HH)(k:Int)(w:E0):Bool:=decide (0<=(RA (L,ky k w)).getD 0)
end Go.Ev.Pv
namespace Go.Ev.Pv
theorem AMZ(k:Int)(u w:E0):ZR (k,u,w)=(ZQ (k,u,w)).bind fun r1=>bif (!(E6 r1.2.2 (0:Int)))then some ((0:Int),r1.2.2)else(P0 r1.1).bind fun r2=>(P0 r1.2.1).bind fun r3=>(LY (r2,r3)).bind fun r4=>some (r4,(0:Int)):=rfl
theorem AM_{k:Int}{u w:E0}(hu:Ok k u)(hw:Ok k w):ZR (k,u,w)=some (JP (ky k u) (ky k w),0):=by
 obtain⟨v,hv⟩:=hu;obtain⟨v',hv'⟩:=hw;rw[AMZ];unfold ZQ;dsimp only;rw[hv.1];simp only[A1,E4,decide_true,BV,AE];rw[hv'.1];simp only[A1,decide_true,BV,AE];rw[hv.2,hv'.2];simp only[A1];rw[A4Y];rfl
end Go.Ev.Pv
namespace Go.Ev.Pv
abbrev Bs:=Int×(List KT)×(List Int)
abbrev Dl:=Int×Int×(List KT)×(List E0)
noncomputable def V0(a:KT):Int:=(QZ a).getD 1
theorem AMa{a:KT}(h:N0 a):QZ a=some (V0 a):=by
 obtain⟨r,hr,_⟩:=AMR a h;unfold V0;rw[hr];rfl
def okR(l:List KT)(i:Nat):Prop:=∀a,l[i]?=some a->V0 a=0/\(0<i->∀a',l[i-1]?=some a'->a'.1<a.1)
def RK(b:Bs)(i:Nat):Prop:=okR b.2.1 i/\∀s,b.2.2[i]?=some s->0<=s/\s<=b.1
theorem dA(a b:E0):(Op.bytesLess a b||EW a b)= !decide (b<a):=by
 rw[pG,EA];rcases U_ a b with h|h|h
 ·simp[h,cS h]
 ·subst h;simp[I4]
 ·have:a≠b:=fun e=>by subst e;exact I4 _ h
  simp[h,cS h,this]
theorem AMb(b:Bs)(hb:∀a∈b.2.1,N0 a)(hl:b.2.2.length=b.2.1.length)(hm:b.2.1.length<=2000):
 Tot (lK (b,b.2.1,(b.2.1.length:Int),0)) (fun r=>(∀u,r=.inl u->∀j,j<b.2.1.length->RK b j)/\∀e,r=.inr e->e≠0/\¬∀j,j<b.2.1.length->RK b j):=by
 refine F4 (R:=fun r:Sum Unit Int=>(∀u,r=.inl u->∀j,j<b.2.1.length->RK b j)/\∀e,r=.inr e->e≠0/\¬∀j,j<b.2.1.length->RK b j)
  (fun y:Bs×(List KT)×Int×Int=>y.1=b/\y.2.1=b.2.1/\y.2.2.1=b.2.1.length/\0<=y.2.2.2/\y.2.2.2<=b.2.1.length/\∀j:Nat,(j:Int)<y.2.2.2->RK b j)
  (fun y=>((b.2.1.length:Int)-y.2.2.2).toNat) ?_ _ _ ⟨rfl,rfl,rfl,B6 _,BI _,fun j hj=>by dsimp only at hj;omega⟩ (by unfold fuel;dsimp only;omega)
 rintro next ⟨b',l,n,i⟩ hI hn
 dsimp only at hI hn;obtain⟨rfl,rfl,rfl,i0,i1,i2⟩:=hI;unfold xW;dsimp only;refine E3.2 ⟨fun hc=>?_,fun hc=>E2.2 ⟨fun u _ j hj=>?_,fun e he=>(by cases he)⟩⟩
 ·have hc:=A6 hc;rw[EY (n:=i+1) (by omega) (by omega),EY (by omega) (by omega)];refine E1.2 (F0.2 ⟨⟨i0,hc⟩,fun a ha=>?_⟩);rw[AMa (hb a (N1 ha))];refine E1.2 (E2.2 ?_);have hlt:i.toNat<b'.2.1.length:=by omega
  refine E3.2 ⟨fun he=>E2.2 ⟨fun u hu=>(by cases hu),fun e he'=>?_⟩,fun he=>?_⟩
  ·cases he';rw[E4]at he;have he:¬V0 a=0:=by simpa using he
   exact⟨he,fun h=>he ((h i.toNat hlt).1 a ha).1⟩
  have hk:V0 a=0:=by rw[E4]at he;simpa using he
  refine E1.2 (Tot.mono (P:=fun y4:KT=>0<i->b'.2.1[i.toNat-1]?=some y4) (E3.2 ⟨fun hz=>?_,fun hz=>E2.2 fun h0=>absurd h0 (AF hz)⟩) fun y4 h4=>?_)
  ·have hz:=A6 hz;refine F0.2 ⟨⟨by omega,by omega⟩,fun w hw _=>?_⟩;rw[show i.toNat-1=(i-1).toNat by omega];exact hw
  rw[dA];refine E3.2 ⟨fun he2=>E2.2 ⟨fun u hu=>(by cases hu),fun e he'=>?_⟩,fun he2=>?_⟩
  ·cases he';have h2:=D5.1 he2;have hz:=A6 h2.1;have hnl:¬y4.1<a.1:=by simpa using h2.2
   exact⟨by decide,fun h=>hnl (((h i.toNat hlt).1 a ha).2 (by omega) y4 (h4 hz))⟩
  have hasc:0<i.toNat->∀a',b'.2.1[i.toNat-1]?=some a'->a'.1<a.1:=by
   intro hz a' ha';have hz':0<i:=by omega
   rw[h4 hz']at ha';cases ha';rw[A7 hz',CA]at he2;simpa using he2
  refine E1.2 (F0.2 ⟨⟨i0,by omega⟩,fun s hs=>?_⟩);refine E1.2 (Tot.mono (P:=fun y7:Int=>0<=s->y7=s) (E3.2 ⟨fun hz=>F0.2 ⟨⟨i0,by omega⟩,fun w hw _=>?_⟩,fun hz=>E2.2 fun h0=>?_⟩) fun y7 h7=>?_)
  ·rw[hs]at hw;cases hw;rfl
  ·exfalso;simp at hz;omega
  refine E3.2 ⟨fun he3=>E2.2 ⟨fun u hu=>(by cases hu),fun e he'=>?_⟩,fun he3=>?_⟩
  ·cases he';refine⟨by decide,fun h=>?_⟩;have h8:=(h i.toNat hlt).2 s hs;have h9:=h7 h8.1;rw[h9]at he3;simp at he3;omega
  ·have h8:=BZ.1 he3;have h9:=AF h8.1;have h10:=AF h8.2;have h11:=h7 (by omega);refine hn _ ⟨rfl,rfl,rfl,by dsimp only;omega,by dsimp only;omega,fun j hj=>?_⟩ (by dsimp only;omega);dsimp only at hj;by_cases hj':(j:Int)<i
   ·exact i2 j hj'
   ·have:j=i.toNat:=by omega
    subst this;refine⟨fun a' ha'=>?_,fun s' hs'=>?_⟩
    ·rw[ha]at ha';cases ha';exact⟨hk,hasc⟩
    ·rw[hs]at hs';cases hs';omega
 ·have hc:=AF hc;exact i2 j (by omega)
def BB(b:Bs):Prop:=∀a∈b.2.1,N0 a
def pP(b:Bs):Prop:=(0<=b.1/\b.1<=1000000000)/\b.2.1.length<=2000/\b.2.2.length=b.2.1.length/\∀j,j<b.2.1.length->RK b j
theorem AMc(b:Bs)(hb:BB b):Tot (a_ b) (fun r=>r=0<->pP b):=by
 unfold a_ pP;refine E3.2 ⟨fun h=>E2.2 ⟨fun h0=>absurd h0 (by decide),fun hk=>?_⟩,fun h1=>?_⟩
 ·simp at h;omega
 have h1':=BZ.1 h1;have g1:=AF h1'.1;have g2:=AF h1'.2;refine E3.2 ⟨fun h=>E2.2 ⟨fun h0=>absurd h0 (by decide),fun hk=>?_⟩,fun h2=>?_⟩
 ·have:=A6 h;omega
 have g3:=AF h2;refine E3.2 ⟨fun h=>E2.2 ⟨fun h0=>absurd h0 (by decide),fun hk=>?_⟩,fun h3=>?_⟩
 ·rw[E4,hk.2.2.1]at h;simp at h
 have g4:b.2.2.length=b.2.1.length:=by
  rw[E4]at h3;have:((b.2.2.length:Nat):Int)=b.2.1.length:=by simpa using h3
  omega
 refine E1.2 ((AMb b hb g4 (by omega)).mono fun r hr=>?_);rcases r with r|r
 ·exact E2.2 ⟨fun _=>⟨by omega,by omega,g4,hr.1 r rfl⟩,fun _=>rfl⟩
 ·exact E2.2 ⟨fun h0=>absurd h0 (hr.2 r rfl).1,fun hk=>absurd hk.2.2.2 (hr.2 r rfl).2⟩
def DB(d:Dl):Prop:=d.2.2.1.length<=1048576/\∀a∈d.2.2.1,N0 a
end Go.Ev.Pv
namespace Go.Ev.Pv
end Go.Ev.Pv
namespace Go.Ev.Pv
section
variable{b:Bs}{d:Dl}(hb:BB b)(hbl:b.2.1.length<=1048576)(hd:DB d)(h0:d.2.2.2=[])
end
end Go.Ev.Pv
