/-
  The law as plain Lean, first part: that there are answers: names, versions, ranges, advisories.
-/
import Derived.Test.YtlljgbmoloklgaaGreatDoorE4
import Derived.Test.YtlljgbmoloklgaaGreatDoorD
import Derived.Sort.AssemblyPlain
import Derived.KernelRfl
set_option linter.unusedVariables false
set_option linter.unusedSimpArgs false
set_option linter.unusedSectionVars false
set_option maxRecDepth 100000
open Go.IntKind hiding min max bits signed
namespace Go.Ev
theorem ER{α:Type}{a:α}{l:List α}:(a::l).length=l.length+1:=AE
theorem ES{α:Type}:([]:List α).length=0:=AL
theorem ET{α:Type}{a:α}{i:Nat}{l:List α}(h:a∈l.take i):a∈l:=DC h
theorem EU{α:Type}{a:α}{i:Nat}{l:List α}(h:a∈l.drop i):a∈l:=List.mem_of_mem_drop h
def Tot{α:Type}(m:Option α)(Q:α->Prop):Prop:=∃x,m=some x/\Q x
section
variable{α β:Type}{m n:Option α}{P Q:α->Prop}
theorem Tot.mono(h:Tot m P)(k:∀x,P x->Q x):Tot m Q:=let ⟨x,h1,h2⟩:=h;⟨x,h1,k x h2⟩
theorem E0{x:α}:Tot (some x) Q<->Q x:=⟨fun⟨_,h1,h2⟩=>A4 h1▸h2,fun h=>⟨x,rfl,h⟩⟩
theorem D_{f:α->Option β}{R:β->Prop}:Tot (m.bind f) R<->Tot m fun x=>Tot (f x) R:=by
 constructor
 ·rintro⟨y,h1,h2⟩;obtain⟨x,h3,h4⟩:=C0.1 h1;exact⟨x,h3,y,h4,h2⟩
 ·rintro⟨x,rfl,y,h1,h2⟩;exact⟨y,h1,h2⟩
theorem E1{b:Bool}:Tot (bif b then m else n) Q<->(b=true->Tot m Q)/\(b=false->Tot n Q):=by
 cases b
 ·exact⟨fun h=>⟨fun e=>(by cases e),fun _=>h⟩,fun h=>h.2 rfl⟩
 ·exact⟨fun h=>⟨fun _=>h,fun e=>(by cases e)⟩,fun h=>h.1 rfl⟩
theorem FF{n:Nat}{i:Int}{Q:Unit->Prop}:Tot (in? n i) Q<->(0<=i/\i<n)/\Q ():=by
 unfold in? Tot;by_cases h1:0<=i<;>by_cases h2:i<n<;>simp[h1,h2]
 exact⟨fun⟨_,h⟩=>h,fun h=>⟨(),h⟩⟩
theorem FT{a b:DZ}{Q:DZ->Prop}:Tot (cat? a b) Q<->a.length+b.length<=281474976710656/\Q (a++b):=by
 unfold cat? Tot;by_cases h:a.length+b.length<=281474976710656<;>simp[h]
theorem FZ{B:Nat}{a b:List α}{Q:List α->Prop}:Tot (app? B a b) Q<->(a.length+b.length)*B<=70368744177664/\Q (a++b):=by
 unfold app? Tot;by_cases h:(a.length+b.length)*B<=70368744177664<;>simp[h]
theorem H4{l:List α}{lo hi:Int}{Q:List α->Prop}:Tot (cut? l lo hi) Q<->(0<=lo/\lo<=hi/\hi<=l.length)/\Q ((l.take hi.toNat).drop lo.toNat):=by
 unfold cut? Tot;by_cases h1:0<=lo<;>by_cases h2:lo<=hi<;>by_cases h3:hi<=l.length<;>simp[h1,h2,h3]
theorem AJp{l:List α}{i:Int}{Q:α->Prop}(h1:0<=i)(h2:i<l.length)(h3:∀x,x∈l->l[i.toNat]?=some x->Q x):Tot (at? l i) Q:=by
 have hlt:i.toNat<l.length:=by omega
 refine⟨l[i.toNat],?_,h3 _ (B9 hlt) (A0 hlt)⟩;unfold at?;rw[A6 h1];exact A0 hlt
theorem E_{l:List α}{i:Int}{Q:α->Prop}:Tot (at? l i) Q<->(0<=i/\i<l.length)/\∀x,l[i.toNat]?=some x->Q x:=by
 constructor
 ·rintro⟨x,h1,h2⟩;unfold at? at h1;by_cases h0:0<=i
  ·rw[A6 h0]at h1;have h1:l[i.toNat]?=some x:=h1;have hlt:=(AC.1 h1).1;exact⟨⟨h0,by omega⟩,fun y hy=>by rw[h1]at hy;cases hy;exact h2⟩
  ·rw[A9 h0]at h1;cases h1
 ·rintro⟨⟨h1,h2⟩,h3⟩;exact AJp h1 h2 fun x _ hx=>h3 x hx
theorem pX:Tot m (fun _=>True)<->∃x,m=some x:=⟨fun⟨x,h,_⟩=>⟨x,h⟩,fun⟨x,h⟩=>⟨x,h,trivial⟩⟩
theorem F3{r:(α->Option β)->α->Option β}{R:β->Prop}(I:α->Prop)(μ:α->Nat)(h:∀next x,I x->(∀y,I y->μ y<μ x->Tot (next y) R)->Tot (r next x) R):
 ∀(k:Nat) (x:α),I x->μ x<k->Tot (EI r k x) R:=by
 intro k;induction k with
 |zero=>intro x _ h;omega
 |succ k ih=>intro x hx hk;exact h _ x hx fun y hy hm=>ih y hy (by omega)
theorem EY{n:Int}(h1:-9223372036854775808<=n)(h2:n<=9223372036854775807):i64.wrap n=n:=by
 simp only[IntKind.wrap,IntKind.bits,IntKind.signed];simp;omega
theorem pY{n:Int}(h1:0<=n)(h2:n<=255):u8.wrap n=n:=by
 simp only[IntKind.wrap,IntKind.bits,IntKind.signed];simp;omega
theorem AJq(n:Int):0<=u8.wrap n/\u8.wrap n<=255:=by
 simp only[IntKind.wrap,IntKind.bits,IntKind.signed];simp;omega
end
end Go.Ev
namespace Go.Ev.Pv
theorem EB{n:Int}:-9223372036854775808<=n->n<=9223372036854775807->i64.wrap n=n:=fun h1 h2=>EY h1 h2
theorem E9(b:UInt8):b.toNat<=255:=by have:=b.toNat_lt;omega
theorem EC{n:Int}:0<=n->n<=255->u8.wrap n=n:=fun h1 h2=>pY h1 h2
theorem ED(n:Int):0<=u8.wrap n/\u8.wrap n<=255:=AJq n
theorem EE(s:DZ):(FX s).length=s.length:=by simp[FX]
theorem EA(s:List Int):(HA s).length=s.length:=by simp[HA]
theorem E6(s t:DZ):EN s t=decide (s=t):=by unfold EN;by_cases h:s=t<;>simp[h]
theorem E2(s t:Int):E4 s t=decide (s=t):=by unfold E4;by_cases h:s=t<;>simp[h]
theorem P0(x:DZ×Int)(h:x.1.length<=1048576):Tot (strings_IndexByte x) (fun r:Int=>-1<=r):=by
 unfold strings_IndexByte HQ;rw[A6 (by omega)];exact E0.2 (Lib.indexByte_ge _ _)
theorem pZ(sep:DZ)(m:Nat):∀xs:List DZ,(∀s∈xs,s.length<=m)->(Lib.join xs sep).length<=xs.length*(m+sep.length):=by
 intro xs;induction xs with
 |nil=>intro _;simp[Lib.join,List.intercalate]
 |cons a r ih=>
  intro h;have h1:=h a AM;have h2:=ih fun s hs=>h s (AH _ hs);cases r with
  |nil=>simp[Lib.join,List.intercalate];omega
  |cons b r=>
   have e:Lib.join (a::b::r) sep=a++(sep++Lib.join (b::r) sep):=by simp[Lib.join,List.intercalate,List.intersperse]
   rw[e];simp only[A7,AE]at h2 ⊢;have e2:(r.length+1+1)*(m+sep.length)=(r.length+1)*(m+sep.length)+(m+sep.length):=by rw[CQ (r.length+1)];omega
   rw[e2];omega
theorem AJr{xs:List DZ}(h1:xs.length<=1048577)(h2:∀s∈xs,s.length<=1048576):(Lib.join xs [47]).length<=1099513724929:=by
 have h:=pZ [47] 1048576 xs h2;have:xs.length*(1048576+[(47:UInt8)].length)<=1048577*(1048576+1):=Nat.mul_le_mul h1 (AJ _);omega
theorem RN(x:(List DZ)×DZ)(h:x.1.length<=140737488355328/\(Lib.join x.1 x.2).length<=140737488355328):Tot (strings_Join x) (fun r=>r=Lib.join x.1 x.2):=by
 unfold strings_Join HQ;rw[A6 h];exact E0.2 rfl
theorem AJs(x:DZ×Int×Int)(h:0<=x.2.2/\x.2.2<=x.2.1/\x.2.1=x.1.length/\x.2.1<=281474976710656):Tot (kW x) (fun r:Sum (Unit) (Bool)=>True):=by
 refine F3 (R:=fun r:Sum (Unit) (Bool)=>True) (fun y:DZ×Int×Int=>(0<=y.2.2/\y.2.2<=y.2.1/\y.2.1=y.1.length/\y.2.1<=281474976710656)) (fun y:DZ×Int×Int=>(y.2.1-y.2.2).toNat) ?_ _ _ (by grind) (by unfold fuel;grind);rintro next ⟨s_0,t6,t7⟩ h hn
 try dsimp only at h hn
 unfold xU
 repeat' first
  |(with_reducible first|refine E1.2 ⟨fun _=>?_,fun _=>?_⟩|refine D_.2 ?_|refine E0.2 ?_|refine E_.2 ⟨?_,fun _ _=>?_⟩|refine hn _ ?_ ?_)
  |dsimp only
 all_goals grind[EB,EA,EE,E6,E2,ED,EC,E9]
theorem A4i(x:DZ)(h:x.length<=1048576):Tot (R0 x) (fun r:Bool=>True):=by
 unfold R0
 repeat' first
  |(with_reducible first|refine D_.2 ?_|refine E0.2 ?_|refine(AJs _ ?_).mono fun _ _=>?_)
  |split
  |dsimp only
 all_goals grind[EB,EA,EE,E6,E2,ED,EC,E9]
theorem AJt(x:(List Int)×Int×Int)(h:0<=x.2.2/\x.2.2<=x.2.1/\x.2.1=x.1.length/\x.2.1<=281474976710656):Tot (iQ x) (fun r:List Int=>r.length=x.1.length):=by
 refine F3 (R:=fun r:List Int=>r.length=x.1.length) (fun y:(List Int)×Int×Int=>(0<=y.2.2/\y.2.2<=y.2.1/\y.2.1=y.1.length/\y.2.1<=281474976710656)/\y.1.length=x.1.length) (fun y:(List Int)×Int×Int=>(y.2.1-y.2.2).toNat) ?_ _ _ (by grind) (by unfold fuel;grind);rintro next ⟨b_3,t9,t10⟩ h hn
 try dsimp only at h hn
 unfold w5
 repeat' first
  |(with_reducible first|refine E1.2 ⟨fun _=>?_,fun _=>?_⟩|refine D_.2 ?_|refine E0.2 ?_|refine FF.2 ⟨?_,?_⟩|refine hn _ ?_ ?_)
  |dsimp only
 all_goals grind[EB,EA,EE,E6,E2,ED,EC,E9]
theorem p_(x:DZ)(h:x.length<=1048576):Tot (OM x) (fun r:DZ=>r.length=x.length):=by
 unfold OM
 repeat' first
  |(with_reducible first|refine D_.2 ?_|refine E0.2 ?_|refine E_.2 ⟨?_,fun _ _=>?_⟩|refine FT.2 ⟨?_,?_⟩|refine(AJt _ ?_).mono fun _ _=>?_)
  |dsimp only
 all_goals grind[EB,EA,EE,E6,E2,ED,EC,E9]
theorem RO(x:F4×Int)(h:True):Tot (ML x) (fun r:DZ×Int×Int=>r.1=x.1.1/\r.2.1=x.1.2.1/\(0<=x.2->0<=r.2.2)):=by
 obtain⟨r_0,at_1⟩:=x;try dsimp only at h ⊢
 unfold ML
 repeat' first
  |(with_reducible first|refine E1.2 ⟨fun _=>?_,fun _=>?_⟩|refine E0.2 ?_)
  |dsimp only
 all_goals grind[EB,EA,EE,E6,E2,ED,EC,E9]
theorem RP(x:Option F4)(h:∃y,x=some y/\0<=y.2.1):Tot (LZ x) (fun r:Int=>0<=r/\(r=0\/∃y,x=some y/\y.2.1<y.1.length)):=by
 unfold LZ;obtain⟨y,rfl,h⟩:=h
 repeat' first
  |(with_reducible first|refine E1.2 ⟨fun _=>?_,fun _=>?_⟩|refine D_.2 ?_|refine E0.2 ?_|refine E_.2 ⟨?_,fun _ _=>?_⟩)
  |dsimp only
 all_goals grind[EB,EA,EE,E6,E2,ED,EC,E9]
theorem A4j(x:Int)(h:True):Tot (TT x) (fun r:Bool=>True):=by
 unfold TT
 repeat' first
  |with_reducible refine E0.2 ?_
  |dsimp only
 all_goals grind[EB,EA,EE,E6,E2,ED,EC,E9]
theorem AJu(x:F4×Int)(h:0<=x.2/\x.2<=(4:Int)/\(4:Int)<=281474976710656/\x.1.1.length<=1048576/\0<=x.1.2.1/\x.1.2.1<=x.1.1.length/\x.2<=x.1.1.length):Tot (iR x) (fun r:Sum F4 (F4×DZ)=>match r with| .inl q=>q=x.1/\4<=x.1.1.length| .inr q=>q.1.1=x.1.1/\q.1.2.1=x.1.2.1/\q.2=[]):=by
 refine F3 (R:=fun r:Sum F4 (F4×DZ)=>match r with| .inl q=>q=x.1/\4<=x.1.1.length| .inr q=>q.1.1=x.1.1/\q.1.2.1=x.1.2.1/\q.2=[]) (fun y:F4×Int=>(0<=y.2/\y.2<=(4:Int)/\(4:Int)<=281474976710656/\y.1.1.length<=1048576/\0<=y.1.2.1/\y.1.2.1<=y.1.1.length/\y.2<=y.1.1.length)/\y.1=x.1) (fun y:F4×Int=>((4:Int)-y.2).toNat) ?_ _ _ (by grind) (by unfold fuel;grind);rintro next ⟨r_0,t7⟩ h hn
 try dsimp only at h hn
 unfold w6
 repeat' first
  |(with_reducible first|refine E1.2 ⟨fun _=>?_,fun _=>?_⟩|refine D_.2 ?_|refine E0.2 ?_|refine H4.2 ⟨?_,?_⟩|refine(p_ _ ?_).mono fun _ _=>?_|refine(RO _ ?_).mono fun _ _=>?_|refine hn _ ?_ ?_)
  |dsimp only
 all_goals grind[EB,EA,EE,E6,E2,ED,EC,E9]
theorem AJv(x:DZ×Int×Int)(h:x.1.length<=1048576/\0<=x.2.1/\x.2.1<=x.1.length):Tot (iS x) (fun r:DZ×Int×Int=>r.1=x.1/\r.2.2=x.2.2/\x.2.1<=r.2.1/\r.2.1<=r.1.length):=by
 refine F3 (R:=fun r:DZ×Int×Int=>r.1=x.1/\r.2.2=x.2.2/\x.2.1<=r.2.1/\r.2.1<=r.1.length) (fun y:DZ×Int×Int=>(y.1.length<=1048576/\0<=y.2.1/\y.2.1<=y.1.length)/\y.1=x.1/\y.2.2=x.2.2/\x.2.1<=y.2.1) (fun y:DZ×Int×Int=>(y.1.length-y.2.1).toNat) ?_ _ _ (by grind) (by unfold fuel;grind);rintro next r_0 h hn
 try dsimp only at h hn
 unfold w7
 repeat' first
  |(with_reducible first|refine E1.2 ⟨fun _=>?_,fun _=>?_⟩|refine D_.2 ?_|refine E0.2 ?_|refine E_.2 ⟨?_,fun _ _=>?_⟩|refine(A4j _ ?_).mono fun _ _=>?_|refine hn _ ?_ ?_)
  |dsimp only
 all_goals grind[EB,EA,EE,E6,E2,ED,EC,E9]
theorem AJw(x:F4×Bool)(h:x.1.1.length<=1048576/\0<=x.1.2.1/\x.1.2.1<=x.1.1.length/\(x.2=true->x.1.2.1<x.1.1.length)):Tot (Y2 x) (fun r:DZ×Int×Int=>r.1=x.1.1/\x.1.2.1<=r.2.1/\r.2.1<=r.1.length):=by
 obtain⟨r_0,t45⟩:=x;try dsimp only at h ⊢
 unfold Y2
 repeat' first
  |(with_reducible first|refine E1.2 ⟨fun _=>?_,fun _=>?_⟩|refine D_.2 ?_|refine E0.2 ?_|refine(AJv _ ?_).mono fun _ _=>?_)
  |dsimp only
 all_goals grind[EB,EA,EE,E6,E2,ED,EC,E9]
theorem AJx(x:F4×Bool)(h:x.1.1.length<=1048576/\0<=x.1.2.1/\x.1.2.1<=x.1.1.length):Tot (Y3 x) (fun r:DZ×F4=>r.2.1=x.1.1/\0<=r.2.2.1/\r.2.2.1<=x.1.1.length/\r.1.length<=x.1.1.length):=by
 obtain⟨r_0,star_1⟩:=x;try dsimp only at h ⊢
 unfold Y3
 repeat' first
  |(with_reducible first|refine E1.2 ⟨fun _=>?_,fun _=>?_⟩|refine D_.2 ?_|refine E0.2 ?_|refine H4.2 ⟨?_,?_⟩|refine(AJu _ ?_).mono fun _ _=>?_|refine(RP _ ?_).mono fun _ _=>?_|refine(AJw _ ?_).mono fun _ _=>?_|refine(RO _ ?_).mono fun _ _=>?_|refine(p_ _ ?_).mono fun _ _=>?_)
  |split
  |dsimp only
 all_goals grind[EB,EA,EE,E6,E2,ED,EC,E9]
theorem AJy(x:Int)(h:0<=x/\x<=255):Tot (Y4 x) (fun r:Int=>-1<=r/\r<=15):=by
 unfold Y4
 repeat' first
  |(with_reducible first|refine E1.2 ⟨fun _=>?_,fun _=>?_⟩|refine E0.2 ?_)
  |dsimp only
 all_goals grind[EB,EA,EE,E6,E2,ED,EC,E9]
theorem AJz(x:F4×Int×Int×Bool)(h:x.1.1.length<=1048576/\0<=x.1.2.1/\x.1.2.1<=x.1.1.length/\1<=x.2.1/\x.2.1<=2/\x.2.2.1= -1/\(x.2.2.2=true->x.1.2.1+x.2.1<x.1.1.length)):Tot (Y5 x) (fun r:F4×Int=>r.1=x.1/\(x.2.2.2=true\/r.2= -1)):=by
 obtain⟨r_0,i_6,d_7,t63⟩:=x;try dsimp only at h ⊢
 unfold Y5
 repeat' first
  |(with_reducible first|refine E1.2 ⟨fun _=>?_,fun _=>?_⟩|refine D_.2 ?_|refine E0.2 ?_|refine E_.2 ⟨?_,fun _ _=>?_⟩|refine(AJy _ ?_).mono fun _ _=>?_)
  |dsimp only
 all_goals grind[EB,EA,EE,E6,E2,ED,EC,E9]
theorem AK0(x:F4×Int×Int)(h:x.1.1.length<=1048576/\0<=x.1.2.1/\x.1.2.1<=x.1.1.length/\1<=x.2.2/\x.2.2<=3/\x.1.2.1+x.2.2<=x.1.1.length):Tot (iT x) (fun r:Sum (F4×Int) (F4×Int×Bool)=>match r with| .inl q=>q.1=x.1/\x.1.2.1+3<=x.1.1.length| .inr q=>q.1.1=x.1.1/\q.1.2.1=x.1.2.1/\q.2.2=false):=by
 refine F3 (R:=fun r:Sum (F4×Int) (F4×Int×Bool)=>match r with| .inl q=>q.1=x.1/\x.1.2.1+3<=x.1.1.length| .inr q=>q.1.1=x.1.1/\q.1.2.1=x.1.2.1/\q.2.2=false) (fun y:F4×Int×Int=>(y.1.1.length<=1048576/\0<=y.1.2.1/\y.1.2.1<=y.1.1.length/\1<=y.2.2/\y.2.2<=3/\y.1.2.1+y.2.2<=y.1.1.length)/\y.1=x.1) (fun y:F4×Int×Int=>(3-y.2.2).toNat) ?_ _ _ (by grind) (by unfold fuel;grind);rintro next ⟨r_0,n_5,i_6⟩ h hn
 try dsimp only at h hn
 unfold w8
 repeat' first
  |(with_reducible first|refine E1.2 ⟨fun _=>?_,fun _=>?_⟩|refine D_.2 ?_|refine E0.2 ?_|refine(AJz _ ?_).mono fun _ _=>?_|refine(RO _ ?_).mono fun _ _=>?_|refine hn _ ?_ ?_)
  |dsimp only
 all_goals grind[EB,EA,EE,E6,E2,ED,EC,E9]
theorem AK1(x:DZ×Int×Int)(h:x.1.length<=1048576/\0<=x.2.1/\x.2.1<=x.1.length):Tot (Y6 x) (fun r:Int×Bool×F4=>r.2.2.1=x.1/\x.2.1<=r.2.2.2.1/\r.2.2.2.1<=x.1.length/\(r.2.1=true->x.2.1<r.2.2.2.1)):=by
 unfold Y6
 repeat' first
  |(with_reducible first|refine E1.2 ⟨fun _=>?_,fun _=>?_⟩|refine D_.2 ?_|refine E0.2 ?_|refine E_.2 ⟨?_,fun _ _=>?_⟩|refine(P0 _ ?_).mono fun _ _=>?_|refine(AK0 _ ?_).mono fun _ _=>?_)
  |split
  |dsimp only
 all_goals grind[EB,EA,EE,E6,E2,ED,EC,E9]
theorem AK2(x:F4×(List Int))(h:x.1.1.length<=1048576/\0<=x.1.2.1/\x.1.2.1<=x.1.1.length/\x.2.length<=x.1.2.1):Tot (iU x) (fun r:F4×(List Int)=>r.1.1=x.1.1/\x.1.2.1<=r.1.2.1/\r.1.2.1<=x.1.1.length/\r.2.length<=r.1.2.1):=by
 refine F3 (R:=fun r:F4×(List Int)=>r.1.1=x.1.1/\x.1.2.1<=r.1.2.1/\r.1.2.1<=x.1.1.length/\r.2.length<=r.1.2.1) (fun y:F4×(List Int)=>(y.1.1.length<=1048576/\0<=y.1.2.1/\y.1.2.1<=y.1.1.length/\y.2.length<=y.1.2.1)/\y.1.1=x.1.1/\x.1.2.1<=y.1.2.1) (fun y:F4×(List Int)=>(y.1.1.length-y.1.2.1).toNat) ?_ _ _ (by grind) (by unfold fuel;grind);rintro next ⟨r_0,b_3⟩ h hn
 try dsimp only at h hn
 unfold w9
 repeat' first
  |(with_reducible first|refine E1.2 ⟨fun _=>?_,fun _=>?_⟩|refine D_.2 ?_|refine E0.2 ?_|refine FZ.2 ⟨?_,?_⟩|refine(AK1 _ ?_).mono fun _ _=>?_|refine hn _ ?_ ?_)
  |dsimp only
 all_goals grind[EB,EA,EE,E6,E2,ED,EC,E9]
theorem dB(x:DZ×Int×Int)(h:x.1.length<=1048576/\0<=x.2.1/\x.2.1<=x.1.length):Tot (ON x) (fun r:DZ×F4=>r.2.1=x.1/\x.2.1<=r.2.2.1/\r.2.2.1<=x.1.length/\r.1.length<=x.1.length):=by
 unfold ON
 repeat' first
  |(with_reducible first|refine E1.2 ⟨fun _=>?_,fun _=>?_⟩|refine D_.2 ?_|refine E0.2 ?_|refine E_.2 ⟨?_,fun _ _=>?_⟩|refine FT.2 ⟨?_,?_⟩|refine(AK2 _ ?_).mono fun _ _=>?_|refine(RO _ ?_).mono fun _ _=>?_)
  |dsimp only
 all_goals grind[EB,EA,EE,E6,E2,ED,EC,E9]
theorem AK3(x:F4×(List DZ))(h:x.1.1.length<=1048576/\0<=x.1.2.1/\x.1.2.1<=x.1.1.length/\x.2.length<=x.1.2.1+1/\∀s∈x.2,s.length<=1048576):Tot (iV x) (fun r:F4×(List DZ)=>r.1.1=x.1.1/\x.1.2.1<=r.1.2.1/\r.1.2.1<=x.1.1.length/\x.2.length<=r.2.length/\r.2.length<=1048577/\∀s∈r.2,s.length<=1048576):=by
 refine F3 (R:=fun r:F4×(List DZ)=>r.1.1=x.1.1/\x.1.2.1<=r.1.2.1/\r.1.2.1<=x.1.1.length/\x.2.length<=r.2.length/\r.2.length<=1048577/\∀s∈r.2,s.length<=1048576) (fun y:F4×(List DZ)=>(y.1.1.length<=1048576/\0<=y.1.2.1/\y.1.2.1<=y.1.1.length/\y.2.length<=y.1.2.1+1/\∀s∈y.2,s.length<=1048576)/\y.1.1=x.1.1/\x.1.2.1<=y.1.2.1/\x.2.length<=y.2.length) (fun y:F4×(List DZ)=>(y.1.1.length-y.1.2.1).toNat) ?_ _ _ (by grind) (by unfold fuel;grind);rintro next ⟨r_0,l_3⟩ h hn
 try dsimp only at h hn
 unfold wA
 repeat' first
  |(with_reducible first|refine E1.2 ⟨fun _=>?_,fun _=>?_⟩|refine D_.2 ?_|refine E0.2 ?_|refine FZ.2 ⟨?_,?_⟩|refine(RP _ ?_).mono fun _ _=>?_|refine(dB _ ?_).mono fun _ _=>?_|refine hn _ ?_ ?_)
  |dsimp only
 all_goals grind[EB,EA,EE,E6,E2,ED,EC,E9]
theorem A4k(x:DZ×Int×Int)(h:x.1.length<=1048576/\0<=x.2.1/\x.2.1<=x.1.length):Tot (TU x) (fun r:(List DZ)×F4=>r.2.1=x.1/\x.2.1<=r.2.2.1/\r.2.2.1<=x.1.length/\1<=r.1.length/\r.1.length<=1048577/\∀s∈r.1,s.length<=1048576):=by
 unfold TU
 repeat' first
  |(with_reducible first|refine D_.2 ?_|refine E0.2 ?_|refine(dB _ ?_).mono fun _ _=>?_|refine(AK3 _ ?_).mono fun _ _=>?_)
  |dsimp only
 all_goals grind[EB,EA,EE,E6,E2,ED,EC,E9]
theorem A4l(x:Int×Bool)(h:True):Tot (TV x) (fun r:Bool=>True):=by
 obtain⟨c_0,first_1⟩:=x;try dsimp only at h ⊢
 unfold TV
 repeat' first
  |(with_reducible first|refine E1.2 ⟨fun _=>?_,fun _=>?_⟩|refine E0.2 ?_)
  |dsimp only
 all_goals grind[EB,EA,EE,E6,E2,ED,EC,E9]
theorem AK4(x:F4×Int)(h:x.1.1.length<=1048576/\0<=x.1.2.1/\x.1.2.1<=x.1.1.length):Tot (iW x) (fun r:DZ×Int×Int=>r.1=x.1.1/\x.1.2.1<=r.2.1/\r.2.1<=x.1.1.length):=by
 refine F3 (R:=fun r:DZ×Int×Int=>r.1=x.1.1/\x.1.2.1<=r.2.1/\r.2.1<=x.1.1.length) (fun y:F4×Int=>(y.1.1.length<=1048576/\0<=y.1.2.1/\y.1.2.1<=y.1.1.length)/\y.1.1=x.1.1/\y.1.2.2=x.1.2.2/\x.1.2.1<=y.1.2.1) (fun y:F4×Int=>(y.1.1.length-y.1.2.1).toNat) ?_ _ _ (by grind) (by unfold fuel;grind);rintro next ⟨r_0,from_3⟩ h hn
 try dsimp only at h hn
 unfold wB
 repeat' first
  |(with_reducible first|refine E1.2 ⟨fun _=>?_,fun _=>?_⟩|refine D_.2 ?_|refine E0.2 ?_|refine E_.2 ⟨?_,fun _ _=>?_⟩|refine(A4l _ ?_).mono fun _ _=>?_|refine hn _ ?_ ?_)
  |dsimp only
 all_goals grind[EB,EA,EE,E6,E2,ED,EC,E9]
theorem AK5(x:DZ×Int×Int)(h:x.1.length<=1048576/\0<=x.2.1/\x.2.1<=x.1.length):Tot (Y7 x) (fun r:(DZ×DZ)×F4=>r.2.1=x.1/\x.2.1<=r.2.2.1/\r.2.2.1<=x.1.length/\r.1.1.length<=1048576/\r.1.2.length<=1048576):=by
 unfold Y7
 repeat' first
  |(with_reducible first|refine E1.2 ⟨fun _=>?_,fun _=>?_⟩|refine D_.2 ?_|refine E0.2 ?_|refine H4.2 ⟨?_,?_⟩|refine(AK4 _ ?_).mono fun _ _=>?_|refine(RP _ ?_).mono fun _ _=>?_|refine(RO _ ?_).mono fun _ _=>?_|refine(dB _ ?_).mono fun _ _=>?_)
  |dsimp only
 all_goals grind[EB,EA,EE,E6,E2,ED,EC,E9]
theorem AK6(x:F4×H6×Bool)(h:x.1.1.length<=1048576/\0<=x.1.2.1/\x.1.2.1<=x.1.1.length/\(x.2.2=true->x.1.2.1<x.1.1.length)/\x.2.1.2.2.2.1.length<=1048576):Tot (Y8 x) (fun r:F4×H6=>r.1.1=x.1.1/\x.1.2.1<=r.1.2.1/\r.1.2.1<=x.1.1.length/\r.2.1=x.2.1.1/\r.2.2.1=x.2.1.2.1/\r.2.2.2.1=x.2.1.2.2.1/\r.2.2.2.2.1.length<=1048576/\r.2.2.2.2.2=x.2.1.2.2.2.2):=by
 obtain⟨r_0,p_3,t40⟩:=x;try dsimp only at h ⊢
 unfold Y8
 repeat' first
  |(with_reducible first|refine E1.2 ⟨fun _=>?_,fun _=>?_⟩|refine D_.2 ?_|refine E0.2 ?_|refine(dB _ ?_).mono fun _ _=>?_)
  |dsimp only
 all_goals grind[EB,EA,EE,E6,E2,ED,EC,E9]
theorem AK7(x:F4×H6×Int)(h:x.1.1.length<=1048576/\0<=x.1.2.1/\x.1.2.1<=x.1.1.length/\x.2.1.2.2.2.2.1.length<=x.1.2.1/\x.2.2≠0/\∀q∈x.2.1.2.2.2.2.1,q.1.length<=1048576/\q.2.length<=1048576):Tot (iX x) (fun r:F4×H6=>r.1.1=x.1.1/\x.1.2.1<=r.1.2.1/\r.1.2.1<=x.1.1.length/\r.2.1=x.2.1.1/\r.2.2.1=x.2.1.2.1/\r.2.2.2.1=x.2.1.2.2.1/\r.2.2.2.2.1=x.2.1.2.2.2.1/\r.2.2.2.2.2.2=x.2.1.2.2.2.2.2/\r.2.2.2.2.2.1.length<=1048576/\∀q∈r.2.2.2.2.2.1,q.1.length<=1048576/\q.2.length<=1048576):=by
 refine F3 (R:=fun r:F4×H6=>r.1.1=x.1.1/\x.1.2.1<=r.1.2.1/\r.1.2.1<=x.1.1.length/\r.2.1=x.2.1.1/\r.2.2.1=x.2.1.2.1/\r.2.2.2.1=x.2.1.2.2.1/\r.2.2.2.2.1=x.2.1.2.2.2.1/\r.2.2.2.2.2.2=x.2.1.2.2.2.2.2/\r.2.2.2.2.2.1.length<=1048576/\∀q∈r.2.2.2.2.2.1,q.1.length<=1048576/\q.2.length<=1048576) (fun y:F4×H6×Int=>(y.1.1.length<=1048576/\0<=y.1.2.1/\y.1.2.1<=y.1.1.length/\y.2.1.2.2.2.2.1.length<=y.1.2.1/\y.2.2≠0/\∀q∈y.2.1.2.2.2.2.1,q.1.length<=1048576/\q.2.length<=1048576)/\y.1.1=x.1.1/\y.2.1.1=x.2.1.1/\y.2.1.2.1=x.2.1.2.1/\y.2.1.2.2.1=x.2.1.2.2.1/\y.2.1.2.2.2.1=x.2.1.2.2.2.1/\y.2.1.2.2.2.2.2=x.2.1.2.2.2.2.2/\x.1.2.1<=y.1.2.1) (fun y:F4×H6×Int=>(y.1.1.length-y.1.2.1).toNat) ?_ _ _ (by grind) (by unfold fuel;grind);rintro next ⟨r_0,p_3,sign_5⟩ h hn
 try dsimp only at h hn
 unfold wC
 repeat' first
  |(with_reducible first|refine E1.2 ⟨fun _=>?_,fun _=>?_⟩|refine D_.2 ?_|refine E0.2 ?_|refine FZ.2 ⟨?_,?_⟩|refine(RP _ ?_).mono fun _ _=>?_|refine(AK5 _ ?_).mono fun _ _=>?_|refine hn _ ?_ ?_)
  |dsimp only
 all_goals grind[EB,EA,EE,E6,E2,ED,EC,E9]
theorem qA{k:IntKind}{a b:Int}{Q:Int->Prop}:Tot (div? k a b) Q<->b≠0/\Q (k.wrap (a.tdiv b)):=by
 unfold div? Tot;by_cases h:b=0
 ·subst h;simp
 ·have e:(b==0)=false:=by simpa using h
  rw[e];simp[h]
theorem A4m{a b:Int}{Q:Int->Prop}:Tot (mod? a b) Q<->b≠0/\Q (a.tmod b):=by
 unfold mod? Tot;by_cases h:b=0
 ·subst h;simp
 ·have e:(b==0)=false:=by simpa using h
  rw[e];simp[h]
theorem AK8{a:Int}(h0:0<=a)(h1:a<=255):0<=a.tdiv 16/\a.tdiv 16<=15:=by rw[Int.tdiv_eq_ediv_of_nonneg h0];omega
theorem AK9{a:Int}(h0:0<=a)(h1:a<=255):0<=a.tmod 16/\a.tmod 16<=15:=by rw[Int.tmod_eq_emod_of_nonneg h0];omega
theorem AKA(b:UInt8):0<=((b.toNat:Int)).tdiv 16/\((b.toNat:Int)).tdiv 16<=15:=AK8 (by omega) (by have:=E9 b;omega)
theorem AKB(b:UInt8):0<=((b.toNat:Int)).tmod 16/\((b.toNat:Int)).tmod 16<=15:=AK9 (by omega) (by have:=E9 b;omega)
theorem EF{α:Type}{l:List α}{i:Nat}{d:α}:i<l.length->l.getD i d∈l:=fun h=>by
 rw[A2,A0 h];exact B9 h
theorem EG{α:Type}{l:List α}{i:Nat}{a b:α}:a∈l.set i b->a∈l\/a=b:=List.mem_or_eq_of_mem_set
theorem A4n(x:DZ×DZ)(h:x.1.length<4294967281/\1<=x.2.length):Tot (strings_Split x) (fun r:List DZ=>r.length<=x.1.length+2/\∀s∈r,s.length<=x.1.length):=by
 unfold strings_Split HQ;rw[A6 h];refine E0.2 ⟨?_,?_⟩
 ·rw[AK];have h1:=Lib.splitB_length_le ⟨x.2.toArray⟩ 0 (Lib.countB ⟨x.1.toArray⟩ ⟨x.2.toArray⟩) ⟨x.1.toArray⟩;have h2:Lib.countB ⟨x.1.toArray⟩ ⟨x.2.toArray⟩<=x.1.length+1:=Lib.count_le x.1 x.2;omega
 ·intro s hs;obtain⟨b,hb,rfl⟩:=C3.1 hs
  have:∀(k:Nat) (s:ByteArray),∀y∈Lib.splitB ⟨x.2.toArray⟩ 0 k s,y.size<=s.size:=by
   intro k;induction k with
   |zero=>intro s y hy;rw[Lib.splitB_zero,AR]at hy;subst hy;exact AJ _
   |succ k ih=>
    intro s y hy;unfold Lib.splitB at hy;split at hy
    ·rw[AR]at hy;subst hy;exact AJ _
    ·rcases B2.1 hy with rfl|hy
     ·rw[D0];omega
     ·have:=ih _ y hy;rw[D0]at this;omega
  have:=this _ _ b hb;have e:(⟨x.1.toArray⟩:ByteArray).size=x.1.length:=rfl;rw[e]at this;exact this
theorem A4o(x:List Int)(h:True):Tot (XY x) (fun r:List Int=>r=x):=E0.2 rfl
theorem P1(x:List Int)(h:True):Tot (MI x) (fun r:DZ=>r.length=x.length):=E0.2 (EA x)
theorem AKC(x:F4×H6×Bool)(h:x.1.1.length<=1048576/\0<=x.1.2.1/\x.1.2.1<=x.1.1.length/\(x.2.2=true->x.1.2.1<x.1.1.length)/\x.2.1.2.2.2.2.2.length<=1048576):Tot (Y9 x) (fun r:F4×H6=>r.1.1=x.1.1/\x.1.2.1<=r.1.2.1/\r.1.2.1<=x.1.1.length/\r.2.1=x.2.1.1/\r.2.2.1=x.2.1.2.1/\r.2.2.2.1=x.2.1.2.2.1/\r.2.2.2.2.1=x.2.1.2.2.2.1/\r.2.2.2.2.2.1=x.2.1.2.2.2.2.1/\r.2.2.2.2.2.2.length<=1099513724929):=by
 obtain⟨r_0,p_3,t97⟩:=x;try dsimp only at h ⊢
 unfold Y9
 repeat' first
  |(with_reducible first|refine E1.2 ⟨fun _=>?_,fun _=>?_⟩|refine D_.2 ?_|refine E0.2 ?_|refine(A4k _ ?_).mono fun _ _=>?_|refine(RN _ ?_).mono fun _ _=>?_)
  |dsimp only
 all_goals grind[EB,EA,EE,E6,E2,ED,EC,E9,EF,EG,AJr]
theorem A4p(x:Unit)(h:True):Tot (YI x) (fun r=>r.length=5/\∀z∈r,z.1.length<=20):=⟨_,rfl,rfl,by decide⟩
theorem AKD(x:DZ×(List OL)×Int)(h:0<=x.2.2/\x.2.2<=(5:Int)/\x.2.1.length=(5:Int)/\(5:Int)<=281474976710656/\∀z∈x.2.1,z.1.length<=20):Tot (jE x) (fun r:Sum (Unit) (Int)=>match r with| .inl _=>True| .inr r=>0<=r/\r<5/\x.1.length<=20):=by
 refine F3 (R:=fun r:Sum (Unit) (Int)=>match r with| .inl _=>True| .inr r=>0<=r/\r<5/\x.1.length<=20) (fun y:DZ×(List OL)×Int=>(0<=y.2.2/\y.2.2<=(5:Int)/\y.2.1.length=(5:Int)/\(5:Int)<=281474976710656/\∀z∈y.2.1,z.1.length<=20)/\y.1=x.1) (fun y:DZ×(List OL)×Int=>((5:Int)-y.2.2).toNat) ?_ _ _ (by grind) (by unfold fuel;grind);rintro next ⟨kind_0,t5,t6⟩ h hn
 try dsimp only at h hn
 unfold wQ
 repeat' first
  |(with_reducible first|refine E1.2 ⟨fun _=>?_,fun _=>?_⟩|refine D_.2 ?_|refine E0.2 ?_|refine E_.2 ⟨?_,fun _ _=>?_⟩|refine hn _ ?_ ?_)
  |dsimp only
 all_goals grind[EB,EA,EE,E6,E2,ED,EC,E9,EF,EG]
theorem AKE(x:DZ)(h:True):Tot (YJ x) (fun r:Int=>r<5/\(0<=r->x.length<=20)):=by
 unfold YJ
 repeat' first
  |(with_reducible first|refine D_.2 ?_|refine E0.2 ?_|refine(A4p _ ?_).mono fun _ _=>?_|refine(AKD _ ?_).mono fun _ _=>?_)
  |split
  |dsimp only
 all_goals grind[EB,EA,EE,E6,E2,ED,EC,E9,EF,EG]
theorem qB(x:DZ)(h:True):Tot (QS x) (fun r:OL×Int=>r.2=0->x.length<=20):=by
 unfold QS
 repeat' first
  |(with_reducible first|refine E1.2 ⟨fun _=>?_,fun _=>?_⟩|refine D_.2 ?_|refine E0.2 ?_|refine E_.2 ⟨?_,fun _ _=>?_⟩|refine(AKE _ ?_).mono fun _ _=>?_|refine(A4p _ ?_).mono fun _ _=>?_)
  |dsimp only
 all_goals grind[EB,EA,EE,E6,E2,ED,EC,E9,EF,EG]
theorem AKF(x:(List DZ)×Int×Int)(h:0<=x.2.2/\x.2.2<=x.2.1/\x.2.1=x.1.length/\x.2.1<=281474976710656):Tot (jF x) (fun r:Sum (Unit) (Bool)=>match r with| .inl _=>(∀j:Nat,x.2.2<=j->∀s,x.1[j]?=some s->s.length<=200)| .inr r=>r=true):=by
 refine F3 (R:=fun r:Sum (Unit) (Bool)=>match r with| .inl _=>(∀j:Nat,x.2.2<=j->∀s,x.1[j]?=some s->s.length<=200)| .inr r=>r=true) (fun y:(List DZ)×Int×Int=>(0<=y.2.2/\y.2.2<=y.2.1/\y.2.1=y.1.length/\y.2.1<=281474976710656)/\y.1=x.1/\(∀j:Nat,x.2.2<=j->(j:Int)<y.2.2->∀s,y.1[j]?=some s->s.length<=200)/\x.2.2<=y.2.2) (fun y:(List DZ)×Int×Int=>(y.2.1-y.2.2).toNat) ?_ _ _ (by grind) (by unfold fuel;grind);rintro next ⟨t15,t16,t17⟩ h hn
 try dsimp only at h hn
 unfold wR
 repeat' first
  |(with_reducible first|refine E1.2 ⟨fun _=>?_,fun _=>?_⟩|refine D_.2 ?_|refine E0.2 ?_|refine E_.2 ⟨?_,fun _ _=>?_⟩|refine hn _ ?_ ?_)
  |dsimp only
 all_goals grind[EB,EA,EE,E6,E2,ED,EC,E9,EF,EG]
theorem A4q{α:Type}{l:List α}{P:α->Prop}(h:∀j:Nat,(0:Int)<=j->∀s,l[j]?=some s->P s):∀s∈l,P s:=fun s hs=>let ⟨j,hj⟩:=D3 hs;h j (BJ j) s hj
theorem AKG(x:E3×Int×Int)(h:0<=x.2.2/\x.2.2<=x.2.1/\x.2.1=x.1.length/\x.2.1<=281474976710656):Tot (jG x) (fun r:Sum (Unit) (Bool)=>match r with| .inl _=>(∀j:Nat,x.2.2<=j->∀s,x.1[j]?=some s->s.1.length<=200/\s.2.length<=200)| .inr r=>r=true):=by
 refine F3 (R:=fun r:Sum (Unit) (Bool)=>match r with| .inl _=>(∀j:Nat,x.2.2<=j->∀s,x.1[j]?=some s->s.1.length<=200/\s.2.length<=200)| .inr r=>r=true) (fun y:E3×Int×Int=>(0<=y.2.2/\y.2.2<=y.2.1/\y.2.1=y.1.length/\y.2.1<=281474976710656)/\y.1=x.1/\(∀j:Nat,x.2.2<=j->(j:Int)<y.2.2->∀s,y.1[j]?=some s->s.1.length<=200/\s.2.length<=200)/\x.2.2<=y.2.2) (fun y:E3×Int×Int=>(y.2.1-y.2.2).toNat) ?_ _ _ (by grind) (by unfold fuel;grind);rintro next ⟨t26,t27,t28⟩ h hn
 try dsimp only at h hn
 unfold wS
 repeat' first
  |(with_reducible first|refine E1.2 ⟨fun _=>?_,fun _=>?_⟩|refine D_.2 ?_|refine E0.2 ?_|refine E_.2 ⟨?_,fun _ _=>?_⟩|refine hn _ ?_ ?_)
  |dsimp only
 all_goals grind[EB,EA,EE,E6,E2,ED,EC,E9,EF,EG]
theorem AKH(x:DZ×DZ×DZ×DZ×E3×DZ)(h:x.2.2.2.2.1.length<=1048576):Tot (YK x) (fun r:Bool=>r=false->(x.2.1.length<=200/\x.2.2.1.length<=200/\x.2.2.2.1.length<=200/\x.2.2.2.2.2.length<=200/\x.2.2.2.2.1.length<=10/\∀q∈x.2.2.2.2.1,q.1.length<=200/\q.2.length<=200)):=by
 unfold YK;dsimp only;refine D_.2 ((AKF _ (by simp)).mono fun r hr=>?_);rcases r with r|r
 ·have hr:=A4q hr;refine D_.2 ((AKG _ (by dsimp only;omega)).mono fun r2 hr2=>?_);rcases r2 with r2|r2
  ·have hr2:=A4q hr2;refine E0.2 fun he=>?_;have he:=AG he;refine⟨hr _ (by simp),hr _ (by simp),hr _ (by simp),hr _ (by simp),by omega,hr2⟩
  ·have hr2:r2=true:=hr2;subst hr2;exact E0.2 fun he=>by cases he
 ·have hr:r=true:=hr;subst hr;exact E0.2 fun he=>by cases he
theorem qC(x:DZ)(h:x.length<4294967281):Tot (QT x) (fun r:List DZ=>r.length<=x.length+2/\∀s∈r,s.length<=x.length):=by
 unfold QT
 repeat' first
  |(with_reducible first|refine E1.2 ⟨fun _=>?_,fun _=>?_⟩|refine D_.2 ?_|refine E0.2 ?_|refine(A4n _ ?_).mono fun _ _=>?_)
  |dsimp only
 all_goals grind[EB,EA,EE,E6,E2,ED,EC,E9,EF,EG]
theorem AKI(x:Bool×(List DZ)×Int×Int)(h:0<=x.2.2.2/\x.2.2.2<=x.2.2.1/\x.2.2.1=x.2.1.length/\x.2.2.1<=281474976710656):Tot (jH x) (fun r:Sum (Unit) (Bool)=>True):=by
 refine F3 (R:=fun r:Sum (Unit) (Bool)=>True) (fun y:Bool×(List DZ)×Int×Int=>(0<=y.2.2.2/\y.2.2.2<=y.2.2.1/\y.2.2.1=y.2.1.length/\y.2.2.1<=281474976710656)) (fun y:Bool×(List DZ)×Int×Int=>(y.2.2.1-y.2.2.2).toNat) ?_ _ _ (by grind) (by unfold fuel;grind);rintro next ⟨dots_1,t7,t8,t9⟩ h hn
 try dsimp only at h hn
 unfold wT
 repeat' first
  |(with_reducible first|refine E1.2 ⟨fun _=>?_,fun _=>?_⟩|refine D_.2 ?_|refine E0.2 ?_|refine E_.2 ⟨?_,fun _ _=>?_⟩|refine hn _ ?_ ?_)
  |dsimp only
 all_goals grind[EB,EA,EE,E6,E2,ED,EC,E9,EF,EG]
theorem A4r(x:(List DZ)×Bool)(h:x.1.length<=1048576):Tot (TY x) (fun r:Bool=>True):=by
 obtain⟨l_0,dots_1⟩:=x;try dsimp only at h ⊢
 unfold TY
 repeat' first
  |(with_reducible first|refine D_.2 ?_|refine E0.2 ?_|refine(AKI _ ?_).mono fun _ _=>?_)
  |split
  |dsimp only
 all_goals grind[EB,EA,EE,E6,E2,ED,EC,E9,EF,EG]
theorem AKJ(x:DZ×Int×Int)(h:0<=x.2.2/\x.2.2<=x.2.1/\x.2.1=x.1.length/\x.2.1<=281474976710656):Tot (jI x) (fun r:Sum (Unit) (Bool)=>True):=by
 refine F3 (R:=fun r:Sum (Unit) (Bool)=>True) (fun y:DZ×Int×Int=>(0<=y.2.2/\y.2.2<=y.2.1/\y.2.1=y.1.length/\y.2.1<=281474976710656)) (fun y:DZ×Int×Int=>(y.2.1-y.2.2).toNat) ?_ _ _ (by grind) (by unfold fuel;grind);rintro next ⟨s_0,t5,t6⟩ h hn
 try dsimp only at h hn
 unfold wU
 repeat' first
  |(with_reducible first|refine E1.2 ⟨fun _=>?_,fun _=>?_⟩|refine D_.2 ?_|refine E0.2 ?_|refine E_.2 ⟨?_,fun _ _=>?_⟩|refine(A4l _ ?_).mono fun _ _=>?_|refine hn _ ?_ ?_)
  |dsimp only
 all_goals grind[EB,EA,EE,E6,E2,ED,EC,E9,EF,EG]
theorem AKK(x:DZ)(h:x.length<=1048576):Tot (YL x) (fun r:Bool=>True):=by
 unfold YL
 repeat' first
  |(with_reducible first|refine D_.2 ?_|refine E0.2 ?_|refine(AKJ _ ?_).mono fun _ _=>?_)
  |split
  |dsimp only
 all_goals grind[EB,EA,EE,E6,E2,ED,EC,E9,EF,EG]
theorem AKL(x:E3×E3×Int×Int)
 (h:0<=x.2.2.2/\x.2.2.2<=x.2.2.1/\x.2.2.1=x.2.1.length/\x.2.2.1<=281474976710656/\x.1.length=x.2.1.length/\∀q∈x.2.1,q.1.length<=1048576):Tot (jJ x) (fun r=>True):=by
 refine F3 (fun x:E3×E3×Int×Int=>0<=x.2.2.2/\x.2.2.2<=x.2.2.1/\x.2.2.1=x.2.1.length/\x.2.2.1<=281474976710656/\x.1.length=x.2.1.length/\∀q∈x.2.1,q.1.length<=1048576)
  (fun x=>(x.2.2.1-x.2.2.2).toNat) ?_ _ _ h (by unfold fuel;omega)
 rintro next ⟨l_0,t5,t6,t7⟩ h hn
 dsimp only at h hn;obtain⟨h1,h2,h3,h4,h5,h6⟩:=h;unfold wV;dsimp only;refine E1.2 ⟨fun hc=>?_,fun _=>E0.2 trivial⟩;have hc:=A8 hc;refine D_.2 (E_.2 ⟨⟨by omega,by omega⟩,fun y hy=>?_⟩);refine D_.2 ((AKK _ (h6 _ (AX hy))).mono fun r _=>?_);refine E1.2 ⟨fun _=>E0.2 trivial,fun _=>?_⟩;refine E1.2 ⟨fun _=>E0.2 trivial,fun _=>?_⟩;refine D_.2 (Tot.mono (P:=fun _=>True) ?_ fun y3 _=>?_)
 ·refine E1.2 ⟨fun hd=>?_,fun _=>E0.2 trivial⟩;have hd:=A8 hd;rw[EY (by omega) (by omega)];exact E_.2 ⟨⟨by omega,by omega⟩,fun _ _=>trivial⟩
 ·refine E1.2 ⟨fun _=>E0.2 trivial,fun _=>?_⟩;rw[EY (n:=t7+1) (by omega) (by omega)];exact hn _ ⟨by dsimp only;omega,by dsimp only;omega,h3,h4,h5,h6⟩ (by dsimp only;omega)
theorem AKM(x:List (DZ×DZ))(h:x.length<=1048576/\∀q∈x,q.1.length<=1048576):Tot (YM x) (fun r:Int=>True):=by
 unfold YM
 repeat' first
  |(with_reducible first|refine D_.2 ?_|refine E0.2 ?_|refine(AKL _ ?_).mono fun _ _=>?_)
  |split
  |dsimp only
 all_goals grind[EB,EA,EE,E6,E2,ED,EC,E9,EF,EG]
theorem AKN(x:DZ×Int×Int)(h:0<=x.2.2/\x.2.2<=x.2.1/\x.2.1=x.1.length/\x.2.1<=281474976710656):Tot (jK x) (fun r:Sum (Unit) (Bool)=>True):=by
 refine F3 (R:=fun r:Sum (Unit) (Bool)=>True) (fun y:DZ×Int×Int=>(0<=y.2.2/\y.2.2<=y.2.1/\y.2.1=y.1.length/\y.2.1<=281474976710656)) (fun y:DZ×Int×Int=>(y.2.1-y.2.2).toNat) ?_ _ _ (by grind) (by unfold fuel;grind);rintro next ⟨s_0,t5,t6⟩ h hn
 try dsimp only at h hn
 unfold wW
 repeat' first
  |(with_reducible first|refine E1.2 ⟨fun _=>?_,fun _=>?_⟩|refine D_.2 ?_|refine E0.2 ?_|refine E_.2 ⟨?_,fun _ _=>?_⟩|refine hn _ ?_ ?_)
  |dsimp only
 all_goals grind[EB,EA,EE,E6,E2,ED,EC,E9,EF,EG]
theorem A4s(x:DZ)(h:x.length<=1048576):Tot (TZ x) (fun r:Bool=>True):=by
 unfold TZ
 repeat' first
  |(with_reducible first|refine D_.2 ?_|refine E0.2 ?_|refine(AKN _ ?_).mono fun _ _=>?_)
  |split
  |dsimp only
 all_goals grind[EB,EA,EE,E6,E2,ED,EC,E9,EF,EG]
theorem AKO(x:(List DZ)×Int×Int)(h:0<=x.2.2/\x.2.2<=x.2.1/\x.2.1=x.1.length/\x.2.1<=281474976710656/\∀z∈x.1,z.length<=1048576):Tot (jL x) (fun r:Sum (Unit) (Int)=>∀z,r=.inr z->z=8):=by
 refine F3 (R:=fun r:Sum (Unit) (Int)=>∀z,r=.inr z->z=8) (fun y:(List DZ)×Int×Int=>(0<=y.2.2/\y.2.2<=y.2.1/\y.2.1=y.1.length/\y.2.1<=281474976710656/\∀z∈y.1,z.length<=1048576)) (fun y:(List DZ)×Int×Int=>(y.2.1-y.2.2).toNat) ?_ _ _ (by grind) (by unfold fuel;grind);rintro next ⟨t75,t76,t77⟩ h hn
 try dsimp only at h hn
 unfold wX
 repeat' first
  |(with_reducible first|refine E1.2 ⟨fun _=>?_,fun _=>?_⟩|refine D_.2 ?_|refine E0.2 ?_|refine E_.2 ⟨?_,fun _ _=>?_⟩|refine(A4s _ ?_).mono fun _ _=>?_|refine hn _ ?_ ?_)
  |dsimp only
 all_goals grind[EB,EA,EE,E6,E2,ED,EC,E9,EF,EG]
theorem AKP(x:E3×Int×Int)(h:0<=x.2.2/\x.2.2<=x.2.1/\x.2.1=x.1.length/\x.2.1<=281474976710656/\∀z∈x.1,z.2.length<=1048576):Tot (jM x) (fun r:Sum (Unit) (Int)=>∀z,r=.inr z->z=8):=by
 refine F3 (R:=fun r:Sum (Unit) (Int)=>∀z,r=.inr z->z=8) (fun y:E3×Int×Int=>(0<=y.2.2/\y.2.2<=y.2.1/\y.2.1=y.1.length/\y.2.1<=281474976710656/\∀z∈y.1,z.2.length<=1048576)) (fun y:E3×Int×Int=>(y.2.1-y.2.2).toNat) ?_ _ _ (by grind) (by unfold fuel;grind);rintro next ⟨t85,t86,t87⟩ h hn
 try dsimp only at h hn
 unfold wY
 repeat' first
  |(with_reducible first|refine E1.2 ⟨fun _=>?_,fun _=>?_⟩|refine D_.2 ?_|refine E0.2 ?_|refine E_.2 ⟨?_,fun _ _=>?_⟩|refine(A4s _ ?_).mono fun _ _=>?_|refine hn _ ?_ ?_)
  |dsimp only
 all_goals grind[EB,EA,EE,E6,E2,ED,EC,E9,EF,EG]
theorem A4t(x:Int)(h:True):Tot (U0 x) (fun r:Bool=>True):=by
 unfold U0
 repeat' first
  |with_reducible refine E0.2 ?_
  |dsimp only
 all_goals grind[EB,EA,EE,E6,E2,ED,EC,E9,EF,EG]
theorem VA(x:(List Int)×Int)(h:x.1.length<=1048576000):Tot (M0 x) (fun r:Unit×(List Int)=>r.2.length=x.1.length+1):=by
 obtain⟨b_0,c_1⟩:=x;try dsimp only at h ⊢
 unfold M0
 repeat' first
  |(with_reducible first|refine D_.2 ?_|refine E0.2 ?_|refine FZ.2 ⟨?_,?_⟩|refine(A4o _ ?_).mono fun _ _=>?_)
  |dsimp only
 all_goals grind[EB,EA,EE,E6,E2,ED,EC,E9,EF,EG]
theorem VB(x:(List Int)×DZ)(h:x.1.length<=1048576000/\x.2.length<=1048576000):Tot (NM x) (fun r:Int×Unit×(List Int)=>r.2.2.length=x.1.length+x.2.length):=by
 obtain⟨b_0,s_1⟩:=x;try dsimp only at h ⊢
 unfold NM
 repeat' first
  |(with_reducible first|refine D_.2 ?_|refine E0.2 ?_|refine FZ.2 ⟨?_,?_⟩|refine(A4o _ ?_).mono fun _ _=>?_)
  |dsimp only
 all_goals grind[EB,EA,EE,E6,E2,ED,EC,E9,EF,EG]
theorem AKQ(x:DZ×(List Int)×Int×Int)(h:0<=x.2.2.2/\x.2.2.2<=x.2.2.1/\x.2.2.1=x.1.length/\x.2.1.length<=x.2.2.2/\x.1.length<=1048576):Tot (jN x) (fun r:List Int=>r.length<=x.1.length):=by
 refine F3 (R:=fun r:List Int=>r.length<=x.1.length) (fun y:DZ×(List Int)×Int×Int=>y.1=x.1/\0<=y.2.2.2/\y.2.2.2<=y.2.2.1/\y.2.2.1=y.1.length/\y.2.1.length<=y.2.2.2/\y.1.length<=1048576)
  (fun y=>(y.2.2.1-y.2.2.2).toNat) ?_ _ _ ⟨rfl,h⟩ (by unfold fuel;omega)
 rintro next ⟨s_0,b_3,t6,t7⟩ h hn
 dsimp only at h hn;obtain⟨h0,h1,h2,h3,h4,h5⟩:=h;unfold wZ;dsimp only;refine E1.2 ⟨fun hc=>?_,fun hc=>E0.2 ?_⟩
 ·have hc:=A8 hc;have hw:i64.wrap (t7+1)=t7+1:=EY (by omega) (by omega);rw[hw];refine D_.2 (E_.2 ⟨⟨h1,by omega⟩,fun b _=>?_⟩);refine D_.2 ((A4t _ trivial).mono fun r _=>?_);refine E1.2 ⟨fun _=>?_,fun _=>?_⟩
  ·refine D_.2 (E_.2 ⟨⟨h1,by omega⟩,fun b2 _=>?_⟩);refine D_.2 ((VA _ (by dsimp only;omega)).mono fun r2 hr=>?_);dsimp only at hr;exact hn _ ⟨h0,by dsimp only;omega,by dsimp only;omega,h3,by dsimp only;omega,h5⟩ (by dsimp only;omega)
  ·refine D_.2 (Tot.mono (P:=fun _=>True) ?_ fun b5 _=>?_)
   ·refine E1.2 ⟨fun hd=>?_,fun _=>E0.2 trivial⟩
    have hd:t7≠0:=by
     rw[E2]at hd;simpa using hd
    rw[EY (by omega) (by omega)];exact E_.2 ⟨⟨by omega,by omega⟩,fun _ _=>trivial⟩
   ·refine D_.2 (Tot.mono (P:=fun _=>True) ?_ fun r6 _=>?_)
    ·exact E1.2 ⟨fun _=>(A4t _ trivial).mono fun _ _=>trivial,fun _=>E0.2 trivial⟩
    ·refine E1.2 ⟨fun _=>?_,fun _=>?_⟩
     ·refine D_.2 ((VA _ (by dsimp only;omega)).mono fun r7 hr=>?_);dsimp only at hr;exact hn _ ⟨h0,by dsimp only;omega,by dsimp only;omega,h3,by dsimp only;omega,h5⟩ (by dsimp only;omega)
     ·exact hn _ ⟨h0,by dsimp only;omega,by dsimp only;omega,h3,by dsimp only;omega,h5⟩ (by dsimp only;omega)
 ·have hc:=AG hc;rw[<-h0];omega
theorem AKR(x:DZ)(h:x.length<=1048576):Tot (YN x) (fun r:DZ=>r.length<=x.length):=by
 unfold YN
 repeat' first
  |(with_reducible first|refine D_.2 ?_|refine E0.2 ?_|refine(AKQ _ ?_).mono fun _ _=>?_|refine(P1 _ ?_).mono fun _ _=>?_)
  |dsimp only
 all_goals grind[EB,EA,EE,E6,E2,ED,EC,E9,EF,EG]
theorem AKS(x:IZ×Bool)(h:x.1.2.1.length<=1048576/\x.1.2.2.1.length<=1048576):Tot (YO x) (fun r:DZ×DZ×DZ×DZ×E3×DZ=>r.1=x.1.1/\r.2.1.length=x.1.2.1.length/\r.2.2.1.length=x.1.2.2.1.length/\r.2.2.2=x.1.2.2.2):=by
 obtain⟨p_1,t12⟩:=x;try dsimp only at h ⊢
 unfold YO
 repeat' first
  |(with_reducible first|refine E1.2 ⟨fun _=>?_,fun _=>?_⟩|refine D_.2 ?_|refine E0.2 ?_|refine(p_ _ ?_).mono fun _ _=>?_)
  |dsimp only
 all_goals grind[EB,EA,EE,E6,E2,ED,EC,E9,EF,EG]
theorem A4u{α:Type}{a b:List α}{Q:List α->Prop}(h1:a.length+b.length<=1099511627776)(h2:Q (a++b)):Tot (app? 48 a b) Q:=FZ.2 ⟨by omega,h2⟩
theorem A4v(x:DZ×DZ×DZ×DZ×E3×DZ)(h:x.1.length<=20/\x.2.1.length<=200/\x.2.2.1.length<=200/\x.2.2.2.1.length<=200/\x.2.2.2.2.2.length<=200/\x.2.2.2.2.1.length<=10/\(∀q∈x.2.2.2.2.1,q.1.length<=200/\q.2.length<=200)):Tot (U1 x) (fun r:DZ×DZ×DZ×DZ×E3×DZ=>r.1.length<=20/\r.2.1.length<=200/\r.2.2.1.length<=200/\r.2.2.2.1.length<=200/\r.2.2.2.2.2.length<=200/\r.2.2.2.2.1.length<=10/\(∀q∈r.2.2.2.2.1,q.1.length<=200/\q.2.length<=200)):=by
 obtain⟨g1,g2,g3,g4,g5,g6,g7⟩:=h;unfold U1;try dsimp only
 refine D_.2 ((qB _ trivial).mono fun r1 _=>?_);refine D_.2 ((AKS _ ⟨by dsimp only;omega,by dsimp only;omega⟩).mono fun r4 hr=>?_);try dsimp only at hr
 obtain⟨e1,e2,e3,e4⟩:=hr;have k1:r4.1.length<=20:=by rw[e1];exact g1
 have k4:r4.2.2.2.1.length<=200:=by rw[e4];exact g4
 have k5:r4.2.2.2.2.1.length<=10:=by rw[e4];exact g6
 have k6:r4.2.2.2.2.2.length<=200:=by rw[e4];exact g5
 have k7:∀q∈r4.2.2.2.2.1,q.1.length<=200/\q.2.length<=200:=by rw[e4];exact g7
 refine E1.2 ⟨fun _=>?_,fun _=>?_⟩
 ·refine D_.2 ((AKR _ (by omega)).mono fun r5 h5=>?_);refine D_.2 (A4u (by simp;omega) ?_);exact E0.2 ⟨k1,by dsimp only;omega,by dsimp only;omega,k4,k6,by simpa using k5,by simpa using k7⟩
 ·refine D_.2 (A4u (by simp;omega) ?_);exact E0.2 ⟨k1,by dsimp only;omega,by dsimp only;omega,k4,k6,by simpa using k5,by simpa using k7⟩
theorem A4w(x:DZ×DZ×DZ×DZ×E3×DZ)(h:x.2.2.2.2.1.length<=1048576):Tot (T_ x) (fun r:Int=>r=0->(x.1.length<=20/\x.2.1.length<=200/\x.2.2.1.length<=200/\x.2.2.2.1.length<=200/\x.2.2.2.2.2.length<=200/\x.2.2.2.2.1.length<=10/\(∀q∈x.2.2.2.2.1,q.1.length<=200/\q.2.length<=200))):=by
 unfold T_;try dsimp only
 refine D_.2 ((qB _ trivial).mono fun r1 h1=>?_);refine E1.2 ⟨fun hc=>E0.2 fun he=>?_,fun hc=>?_⟩
 ·rw[E2,he]at hc;simp at hc
 have g1:x.1.length<=20:=h1 (by rw[E2]at hc;simpa using hc);refine D_.2 ((AKH _ h).mono fun r2 h2=>?_);refine E1.2 ⟨fun _=>E0.2 fun he=>absurd he (by decide),fun hc2=>?_⟩;obtain⟨a1,a2,a3,a4,a5,a6⟩:=h2 hc2;refine E1.2 ⟨fun _=>E0.2 fun he=>absurd he (by decide),fun _=>?_⟩;refine D_.2 ((qC _ (by omega)).mono fun r5 h5=>?_);refine D_.2 ((A4r _ (by(try dsimp only);omega)).mono fun r6 _=>?_);refine E1.2 ⟨fun _=>E0.2 fun he=>absurd he (by decide),fun _=>?_⟩;refine D_.2 (Tot.mono (P:=fun _=>True) (E1.2 ⟨fun _=>(P0 _ (by(try dsimp only);omega)).mono fun _ _=>trivial,fun _=>E0.2 trivial⟩) fun r7 _=>?_);refine E1.2 ⟨fun _=>E0.2 fun he=>absurd he (by decide),fun _=>?_⟩;refine D_.2 ((AKM _ ⟨by omega,fun q hq=>by have:=a6 q hq;omega⟩).mono fun r9 _=>?_);refine E1.2 ⟨fun hc=>E0.2 fun he=>?_,fun _=>?_⟩
 ·rw[E2,he]at hc;simp at hc
 refine D_.2 ((qC _ (by omega)).mono fun r10 h10=>?_);refine D_.2 ((A4r _ (by(try dsimp only);omega)).mono fun r11 _=>?_);refine E1.2 ⟨fun _=>E0.2 fun he=>absurd he (by decide),fun _=>?_⟩;refine D_.2 ((AKO _ ⟨B7 _,by simp,rfl,by simp,fun z hz=>?_⟩).mono fun r15 h15=>?_)
 ·simp only[B2,List.not_mem_nil,or_false]at hz;rcases hz with rfl|rfl|rfl|rfl<;>omega
 rcases r15 with r15|r15
 ·refine D_.2 ((AKP _ ⟨B7 _,BJ _,rfl,(by show((x.2.2.2.2.1.length:Nat):Int)<=281474976710656;omega),fun z hz=>by have:=a6 z hz;omega⟩).mono fun r19 h19=>?_);rcases r19 with r19|r19
  ·exact E0.2 fun _=>⟨g1,a1,a2,a3,a4,a5,a6⟩
  ·exact E0.2 fun he=>by have:=h19 _ rfl;omega
 ·exact E0.2 fun he=>by have:=h15 _ rfl;omega
theorem A4x{q:Int}{Q:DZ->Prop}(l:DZ)(hl:l.length=16)(h0:0<=q)(h1:q<=15)(h:∀s:DZ,s.length=1->Q s):Tot (cut? l q (u8.wrap (q+1))) Q:=by
 rw[pY (by omega) (by omega)];refine H4.2 ⟨⟨h0,by omega,by omega⟩,h _ ?_⟩;rw[CE,B4];omega
theorem AKT(x:DZ×(List Int)×Int×Int)(h:0<=x.2.2.2/\x.2.2.2<=x.2.2.1/\x.2.2.1=x.1.length/\x.2.1.length<=3*x.2.2.2/\x.1.length<=1048576):Tot (jP x) (fun r:List Int=>r.length<=3*x.1.length):=by
 refine F3 (R:=fun r:List Int=>r.length<=3*x.1.length) (fun y:DZ×(List Int)×Int×Int=>y.1=x.1/\0<=y.2.2.2/\y.2.2.2<=y.2.2.1/\y.2.2.1=y.1.length/\y.2.1.length<=3*y.2.2.2/\y.1.length<=1048576)
  (fun y=>(y.2.2.1-y.2.2.2).toNat) ?_ _ _ ⟨rfl,h⟩ (by unfold fuel;omega)
 rintro next ⟨s_0,b_3,t7,t8⟩ h hn
 dsimp only at h hn;obtain⟨h0,h1,h2,h3,h4,h5⟩:=h;unfold x3;dsimp only;refine E1.2 ⟨fun hc=>?_,fun hc=>E0.2 ?_⟩
 ·have hc:=A8 hc;have hw:i64.wrap (t8+1)=t8+1:=EY (by omega) (by omega);rw[hw];refine D_.2 (E_.2 ⟨⟨h1,by omega⟩,fun b _=>?_⟩);refine D_.2 ((A4j _ trivial).mono fun r _=>?_);refine D_.2 (Tot.mono (P:=fun _=>True) (E1.2 ⟨fun _=>(P0 _ (by show 4<=1048576;decide)).mono fun _ _=>trivial,fun _=>E0.2 trivial⟩) fun r4 _=>?_);refine E1.2 ⟨fun _=>?_,fun _=>?_⟩
  ·refine D_.2 ((VA _ (by dsimp only;omega)).mono fun r5 hr=>?_);dsimp only at hr;exact hn _ ⟨h0,by dsimp only;omega,by dsimp only;omega,h3,by dsimp only;omega,h5⟩ (by dsimp only;omega)
  ·obtain⟨d1,d2⟩:=AKA b;obtain⟨m1,m2⟩:=AKB b;have hq:u8.wrap ((b.toNat:Int).tdiv 16)=(b.toNat:Int).tdiv 16:=pY d1 (by omega);refine D_.2 (qA.2 ⟨by decide,?_⟩);refine D_.2 (qA.2 ⟨by decide,?_⟩);rw[hq];refine D_.2 (A4x _ rfl d1 d2 fun s8 e8=>?_);refine D_.2 (FT.2 ⟨by simp[e8],?_⟩);refine D_.2 (A4m.2 ⟨by decide,?_⟩);refine D_.2 (A4m.2 ⟨by decide,?_⟩);refine D_.2 (A4x _ rfl m1 m2 fun s12 e12=>?_);refine D_.2 (FT.2 ⟨by simp[e8,e12],?_⟩);have e13:([37]++s8++s12:DZ).length=3:=by simp[e8,e12]
   refine D_.2 ((VB _ ⟨by dsimp only;omega,by rw[e13];decide⟩).mono fun r14 hr=>?_);rw[e13]at hr;dsimp only at hr;exact hn _ ⟨h0,by dsimp only;omega,by dsimp only;omega,h3,by dsimp only;omega,h5⟩ (by dsimp only;omega)
 ·have hc:=AG hc;rw[<-h0];omega
theorem qD(x:DZ)(h:x.length<=1048576):Tot (QU x) (fun r:DZ=>r.length<=3*x.length):=by
 unfold QU
 repeat' first
  |(with_reducible first|refine D_.2 ?_|refine E0.2 ?_|refine(AKT _ ?_).mono fun _ _=>?_|refine(P1 _ ?_).mono fun _ _=>?_)
  |dsimp only
 all_goals grind[EB,EA,EE,E6,E2,ED,EC,E9,EF,EG]
theorem AKU(x:(List DZ)×(List DZ)×Int×Int)(h:0<=x.2.2.2/\x.2.2.2<=x.2.2.1/\x.2.2.1=x.2.1.length/\x.2.2.1<=202/\x.1.length<=x.2.2.2/\(∀z∈x.2.1,z.length<=200)/\(∀z∈x.1,z.length<=600)):
 Tot (jQ x) (fun r:List DZ=>r.length<=202/\∀z∈r,z.length<=600):=by
 refine F3 (R:=fun r:List DZ=>r.length<=202/\∀z∈r,z.length<=600) (fun x:(List DZ)×(List DZ)×Int×Int=>0<=x.2.2.2/\x.2.2.2<=x.2.2.1/\x.2.2.1=x.2.1.length/\x.2.2.1<=202/\x.1.length<=x.2.2.2/\(∀z∈x.2.1,z.length<=200)/\(∀z∈x.1,z.length<=600))
  (fun y=>(y.2.2.1-y.2.2.2).toNat) ?_ _ _ h (by unfold fuel;omega)
 rintro next ⟨l_3,t7,t8,t9⟩ h hn
 dsimp only at h hn;obtain⟨h1,h2,h3,h4,h5,h6,h7⟩:=h;unfold x4;dsimp only;refine E1.2 ⟨fun hc=>?_,fun hc=>E0.2 ⟨by omega,h7⟩⟩;have hc:=A8 hc;have hw:i64.wrap (t9+1)=t9+1:=EY (by omega) (by omega);rw[hw];refine D_.2 (E_.2 ⟨⟨h1,by omega⟩,fun y2 hy=>?_⟩);have hy:=h6 _ (AX hy);refine D_.2 ((qD _ (by omega)).mono fun r3 hr=>?_);refine D_.2 (FZ.2 ⟨by simp;omega,?_⟩);refine hn _ ⟨by dsimp only;omega,by dsimp only;omega,h3,h4,by simp;omega,h6,fun z hz=>?_⟩ (by dsimp only;omega);rcases AQ.1 hz with hz|hz
 ·exact h7 z hz
 ·rw[AR]at hz;subst hz;omega
theorem AKV(x:DZ)(h:x.length<=200):Tot (YP x) (fun r:DZ=>r.length<=121402):=by
 unfold YP;refine D_.2 ((qC _ (by omega)).mono fun r1 h1=>?_);refine D_.2 ((AKU _ ⟨B7 _,BJ _,rfl,(by show((r1.length:Nat):Int)<=202;omega),(by simp),(fun z hz=>by have:=h1.2 z hz;omega),(fun z hz=>by cases hz)⟩).mono fun r5 h5=>?_);have hj:=pZ [47] 600 r5 h5.2;have hm:r5.length*(600+[(47:UInt8)].length)<=202*(600+1):=Nat.mul_le_mul h5.1 (AJ _);refine D_.2 ((RN _ ⟨by have:=h5.1;dsimp only;omega,by dsimp only;omega⟩).mono fun r6 h6=>E0.2 ?_);rw[h6];dsimp only;omega
theorem AKW(x:DZ×DZ×DZ×DZ×E3×DZ)(h:x.1.length<=20/\x.2.1.length<=200/\x.2.2.1.length<=200/\x.2.2.2.1.length<=200/\x.2.2.2.2.2.length<=200/\x.2.2.2.2.1.length<=10/\(∀q∈x.2.2.2.2.1,q.1.length<=200/\q.2.length<=200)):Tot (YQ x) (fun r:DZ=>r.length<=200000):=by
 obtain⟨g1,g2,g3,g4,g5,g6,g7⟩:=h;unfold YQ;refine D_.2 (FT.2 ⟨by simp;omega,?_⟩);refine D_.2 (FT.2 ⟨by simp;omega,?_⟩);refine E1.2 ⟨fun _=>?_,fun _=>?_⟩
 ·refine D_.2 ((AKV _ g2).mono fun r3 h3=>?_);refine D_.2 (FT.2 ⟨by simp;omega,?_⟩);refine D_.2 (FT.2 ⟨by simp;omega,?_⟩);refine D_.2 ((qD _ (by omega)).mono fun r6 h6=>?_);refine D_.2 (FT.2 ⟨by simp;omega,?_⟩);exact E0.2 (by simp;omega)
 ·refine D_.2 ((qD _ (by omega)).mono fun r6 h6=>?_);refine D_.2 (FT.2 ⟨by simp;omega,?_⟩);exact E0.2 (by simp;omega)
theorem A4y(x:DZ×DZ×DZ×DZ×E3×DZ)(h:x.2.2.2.2.1.length<=1048576):Tot (U3 x) (fun r:DZ×Int=>r.1.length<=200000):=by
 unfold U3;refine D_.2 ((A4w _ h).mono fun r1 h1=>?_);refine E1.2 ⟨fun _=>E0.2 (by simp),fun hc=>?_⟩;have h1:=h1 (by rw[E2]at hc;simpa using hc);refine D_.2 ((A4v _ h1).mono fun r2 h2=>?_);exact D_.2 ((AKW _ h2).mono fun r3 h3=>E0.2 h3)
theorem AKX(x:E3×Int×GY×Int)(h:(∀p,Tot (x.2.2.1 p) fun _=>True)/\0<=x.2.1/\x.2.1<=x.2.2.2/\x.2.2.2<x.1.length/\x.1.length<=1048576):
 Tot (iY x) (fun r:List (DZ×DZ)=>r.length=x.1.length/\∀q∈r,q∈x.1):=by
 refine F3 (R:=fun r:List (DZ×DZ)=>r.length=x.1.length/\∀q∈r,q∈x.1) (fun y:E3×Int×GY×Int=>(∀p,Tot (y.2.2.1 p) fun _=>True)/\0<=y.2.1/\y.2.1<=y.2.2.2/\y.2.2.2<y.1.length/\y.1.length<=1048576/\y.1.length=x.1.length/\∀q∈y.1,q∈x.1)
  (fun y=>y.2.2.2.toNat) ?_ _ _ ⟨h.1,h.2.1,h.2.2.1,h.2.2.2.1,h.2.2.2.2,rfl,fun q hq=>hq⟩ (by obtain⟨_,_,_,_,_⟩:=h;unfold fuel;omega)
 rintro next ⟨data_0,a_1,cmp_3,j_9⟩ h hn
 dsimp only at h hn;obtain⟨h0,h1,h2,h3,h4,h5,h6⟩:=h;unfold wD;dsimp only;by_cases hc:a_1<j_9
 ·have hw:i64.wrap (j_9-1)=j_9-1:=EY (by omega) (by omega);simp only[hw,A6 hc,AB,CF];refine D_.2 (FF.2 ⟨⟨by omega,by omega⟩,?_⟩);refine D_.2 (FF.2 ⟨⟨by omega,by omega⟩,?_⟩);refine D_.2 ((h0 _).mono fun r3 _=>?_);refine E1.2 ⟨fun _=>?_,fun _=>E0.2 ⟨h5,h6⟩⟩;refine D_.2 (FF.2 ⟨⟨by omega,by omega⟩,?_⟩);refine D_.2 (FF.2 ⟨⟨by omega,by omega⟩,?_⟩);refine D_.2 (FF.2 ⟨⟨by omega,by omega⟩,?_⟩);refine D_.2 (FF.2 ⟨⟨by omega,by rw[AF];omega⟩,?_⟩);refine hn _ ⟨h0,h1,by dsimp only;omega,by simp only[AF];omega,by simp only[AF];omega,by simp only[AF];omega,fun q hq=>?_⟩ (by dsimp only;omega);rcases EG hq with hq|rfl
  ·rcases EG hq with hq|rfl
   ·exact h6 q hq
   ·exact h6 _ (EF (by omega))
  ·exact h6 _ (EF (by omega))
 ·simp only[A9 hc,AD,BZ];refine D_.2 (E0.2 ?_);refine D_.2 (E0.2 ?_);refine D_.2 (E0.2 ?_);exact E0.2 ⟨h5,h6⟩
theorem AKY(x:E3×Int×Int×GY×Int)(h:(∀p,Tot (x.2.2.2.1 p) fun _=>True)/\0<=x.2.1/\x.2.1<=x.2.2.2.2/\x.2.2.1<=x.1.length/\x.2.2.2.2<=1048577/\x.1.length<=1048576):
 Tot (iZ x) (fun r:List (DZ×DZ)=>r.length=x.1.length/\∀q∈r,q∈x.1):=by
 refine F3 (R:=fun r:List (DZ×DZ)=>r.length=x.1.length/\∀q∈r,q∈x.1) (fun y:E3×Int×Int×GY×Int=>(∀p,Tot (y.2.2.2.1 p) fun _=>True)/\0<=y.2.1/\y.2.1<=y.2.2.2.2/\y.2.2.1<=y.1.length/\y.2.2.2.2<=1048577/\y.1.length<=1048576/\y.1.length=x.1.length/\∀q∈y.1,q∈x.1)
  (fun y=>(y.2.2.1-y.2.2.2.2).toNat) ?_ _ _ ⟨h.1,h.2.1,h.2.2.1,h.2.2.2.1,h.2.2.2.2.1,h.2.2.2.2.2,rfl,fun q hq=>hq⟩ (by obtain⟨_,_,_,_,_,_⟩:=h;unfold fuel;omega)
 rintro next ⟨data_0,a_1,b_2,cmp_3,i_8⟩ h hn
 dsimp only at h hn;obtain⟨h0,h1,h2,h3,h4,h5,h6,h7⟩:=h;unfold wE;dsimp only;refine E1.2 ⟨fun hc=>?_,fun _=>E0.2 ⟨h6,h7⟩⟩;have hc:=A8 hc;have hw:i64.wrap (i_8+1)=i_8+1:=EY (by omega) (by omega);rw[hw];refine D_.2 ((AKX _ ⟨h0,h1,h2,by dsimp only;omega,h5⟩).mono fun r hr=>?_);dsimp only at hr;obtain⟨e1,e2⟩:=hr;exact hn _ ⟨h0,h1,by dsimp only;omega,by dsimp only;omega,by dsimp only;omega,by dsimp only;omega,by dsimp only;omega,fun q hq=>h7 q (e2 q hq)⟩ (by dsimp only;omega)
theorem A4z(x:E3×Int×Int×GY)(h:(∀p,Tot (x.2.2.2 p) fun _=>True)/\0<=x.2.1/\x.2.1<=1048576/\x.2.2.1<=x.1.length/\x.1.length<=1048576):
 Tot (TW x) (fun r:List (DZ×DZ)=>r.length=x.1.length/\∀q∈r,q∈x.1):=by
 obtain⟨data_0,a_1,b_2,cmp_3⟩:=x;dsimp only at h;obtain⟨h0,h1,h2,h3,h4⟩:=h;unfold TW;dsimp only;rw[EY (by omega) (by omega)];exact D_.2 ((AKY _ ⟨h0,h1,by dsimp only;omega,h3,by dsimp only;omega,h4⟩).mono fun r hr=>E0.2 hr)
theorem AKZ(x:E3×Int×Int×Int×Int)(h:0<=x.2.1/\0<=x.2.2.1/\x.2.1+x.2.2.2.1<=x.1.length/\x.2.2.1+x.2.2.2.1<=x.1.length/\0<=x.2.2.2.2/\x.1.length<=1048576):
 Tot (i_ x) (fun r:List (DZ×DZ)=>r.length=x.1.length/\∀q∈r,q∈x.1):=by
 refine F3 (R:=fun r:List (DZ×DZ)=>r.length=x.1.length/\∀q∈r,q∈x.1) (fun y:E3×Int×Int×Int×Int=>0<=y.2.1/\0<=y.2.2.1/\y.2.1+y.2.2.2.1<=y.1.length/\y.2.2.1+y.2.2.2.1<=y.1.length/\0<=y.2.2.2.2/\y.1.length<=1048576/\y.1.length=x.1.length/\∀q∈y.1,q∈x.1)
  (fun y=>(y.2.2.2.1-y.2.2.2.2).toNat) ?_ _ _ ⟨h.1,h.2.1,h.2.2.1,h.2.2.2.1,h.2.2.2.2.1,h.2.2.2.2.2,rfl,fun q hq=>hq⟩ (by obtain⟨_,_,_,_,_,_⟩:=h;unfold fuel;omega)
 rintro next ⟨data_0,a_1,b_2,n_3,i_10⟩ h hn
 dsimp only at h hn;obtain⟨h1,h2,h3,h4,h5,h6,h7,h8⟩:=h;unfold wF;dsimp only;refine E1.2 ⟨fun hc=>?_,fun _=>E0.2 ⟨h7,h8⟩⟩;have hc:=A8 hc;have hw1:i64.wrap (a_1+i_10)=a_1+i_10:=EY (by omega) (by omega);have hw2:i64.wrap (b_2+i_10)=b_2+i_10:=EY (by omega) (by omega);have hw3:i64.wrap (i_10+1)=i_10+1:=EY (by omega) (by omega);rw[hw1,hw2,hw3];refine D_.2 (FF.2 ⟨⟨by omega,by omega⟩,?_⟩);refine D_.2 (FF.2 ⟨⟨by omega,by omega⟩,?_⟩);refine D_.2 (FF.2 ⟨⟨by omega,by omega⟩,?_⟩);refine D_.2 (FF.2 ⟨⟨by omega,by rw[AF];omega⟩,?_⟩);refine hn _ ⟨h1,h2,by simp only[AF];omega,by simp only[AF];omega,by dsimp only;omega,by simp only[AF];omega,by simp only[AF];omega,fun q hq=>?_⟩ (by dsimp only;omega);rcases EG hq with hq|rfl
 ·rcases EG hq with hq|rfl
  ·exact h8 q hq
  ·exact h8 _ (EF (by omega))
 ·exact h8 _ (EF (by omega))
theorem qE(x:E3×Int×Int×Int×GY)(h:0<=x.2.1/\0<=x.2.2.1/\x.2.1+x.2.2.2.1<=x.1.length/\x.2.2.1+x.2.2.2.1<=x.1.length/\x.1.length<=1048576):
 Tot (QQ x) (fun r:List (DZ×DZ)=>r.length=x.1.length/\∀q∈r,q∈x.1):=by
 obtain⟨data_0,a_1,b_2,n_3,cmp_4⟩:=x;obtain⟨h1,h2,h3,h4,h5⟩:=h;unfold QQ;dsimp only;exact D_.2 ((AKZ _ ⟨h1,h2,h3,h4,B7 _,h5⟩).mono fun r hr=>E0.2 hr)
theorem AK_(x:E3×Int×GY×Int×Int)(h:0<x.2.2.2.1/\0<x.2.2.2.2/\x.2.2.2.1<=x.2.1/\x.2.1+x.2.2.2.2<=x.1.length/\x.1.length<=1048576):
 Tot (j0 x) (fun r:E3×Int=>r.1.length=x.1.length/\(∀q∈r.1,q∈x.1)/\0<r.2/\r.2<=x.2.1/\x.2.1+r.2<=x.1.length):=by
 refine F3 (R:=fun r:E3×Int=>r.1.length=x.1.length/\(∀q∈r.1,q∈x.1)/\0<r.2/\r.2<=x.2.1/\x.2.1+r.2<=x.1.length) (fun y:E3×Int×GY×Int×Int=>0<y.2.2.2.1/\0<y.2.2.2.2/\y.2.2.2.1<=y.2.1/\y.2.1+y.2.2.2.2<=y.1.length/\y.1.length<=1048576/\y.1.length=x.1.length/\(∀q∈y.1,q∈x.1)/\y.2.1=x.2.1)
  (fun y=>(y.2.2.2.1+y.2.2.2.2).toNat) ?_ _ _ ⟨h.1,h.2.1,h.2.2.1,h.2.2.2.1,h.2.2.2.2,rfl,(fun q hq=>hq),rfl⟩ (by obtain⟨_,_,_,_,_⟩:=h;unfold fuel;omega)
 rintro next ⟨data_0,m_2,cmp_4,i_10,j_11⟩ h hn
 dsimp only at h hn;obtain⟨h1,h2,h3,h4,h5,h6,h7,h8⟩:=h;unfold wG;dsimp only;refine E1.2 ⟨fun hc=>?_,fun hc=>E0.2 ⟨h6,h7,h1,by dsimp only;omega,?_⟩⟩
 ·have hc:i_10≠j_11:=by rw[E2]at hc;simpa using hc
  have hw1:i64.wrap (m_2-i_10)=m_2-i_10:=EY (by omega) (by omega);have hw2:i64.wrap (m_2+j_11)=m_2+j_11:=EY (by omega) (by omega);have hw3:i64.wrap (m_2+j_11-i_10)=m_2+j_11-i_10:=EY (by omega) (by omega);have hw4:i64.wrap (i_10-j_11)=i_10-j_11:=EY (by omega) (by omega);have hw5:i64.wrap (j_11-i_10)=j_11-i_10:=EY (by omega) (by omega);rw[hw1,hw2,hw3,hw4,hw5];refine E1.2 ⟨fun hd=>?_,fun hd=>?_⟩
  ·have hd:=A8 hd;refine D_.2 ((qE _ ⟨by dsimp only;omega,by dsimp only;omega,by dsimp only;omega,by dsimp only;omega,h5⟩).mono fun r hr=>?_);dsimp only at hr;exact hn _ ⟨by dsimp only;omega,h2,by dsimp only;omega,by dsimp only;omega,by dsimp only;omega,by dsimp only;omega,fun q hq=>h7 q (hr.2 q hq),h8⟩ (by dsimp only;omega)
  ·have hd:=AG hd;refine D_.2 ((qE _ ⟨by dsimp only;omega,by dsimp only;omega,by dsimp only;omega,by dsimp only;omega,h5⟩).mono fun r hr=>?_);dsimp only at hr;exact hn _ ⟨h1,by dsimp only;omega,h3,by dsimp only;omega,by dsimp only;omega,by dsimp only;omega,fun q hq=>h7 q (hr.2 q hq),h8⟩ (by dsimp only;omega)
 ·have hc:i_10=j_11:=by rw[E2]at hc;simpa using hc
  omega
theorem AKa(x:E3×Int×Int×Int×GY)(h:0<=x.2.1/\x.2.1<x.2.2.1/\x.2.2.1<x.2.2.2.1/\x.2.2.2.1<=x.1.length/\x.1.length<=1048576):
 Tot (YB x) (fun r:List (DZ×DZ)=>r.length=x.1.length/\∀q∈r,q∈x.1):=by
 obtain⟨data_0,a_1,m_2,b_3,cmp_4⟩:=x;dsimp only at h;obtain⟨h1,h2,h3,h4,h5⟩:=h;unfold YB;dsimp only;rw[EY (n:=m_2-a_1) (by omega) (by omega),EY (n:=b_3-m_2) (by omega) (by omega)];refine D_.2 ((AK_ _ ⟨by dsimp only;omega,by dsimp only;omega,by dsimp only;omega,by dsimp only;omega,h5⟩).mono fun r hr=>?_);dsimp only at hr;obtain⟨e1,e2,e3,e4,e5⟩:=hr;rw[EY (n:=m_2-r.2) (by omega) (by omega)];refine D_.2 ((qE _ ⟨by dsimp only;omega,by dsimp only;omega,by dsimp only;omega,by dsimp only;omega,by dsimp only;omega⟩).mono fun r4 hr=>E0.2 ?_);dsimp only at hr;exact⟨by omega,fun q hq=>e2 q (hr.2 q hq)⟩
theorem NR{i j:Int}{Q:Int->Prop}(h1:0<=i)(h2:0<=j)(h3:i<=4611686018427387903)(h4:j<=4611686018427387903)(h:Q ((i+j) / 2)):Tot (shr? u64 (u64.wrap (i64.wrap (i+j))) (1:Int)) Q:=by
 have e1:i64.wrap (i+j)=i+j:=EY (by omega) (by omega)
 have e2:u64.wrap (i+j)=i+j:=by
  simp only[IntKind.wrap,IntKind.bits,IntKind.signed];simp;omega
 rw[e1,e2]
 have e3:(i+j).fdiv (2 ^ min (1:Int).toNat u64.bits)=(i+j) / 2:=by
  have:(2:Int) ^ min (1:Int).toNat u64.bits=2:=by decide
  rw[this,DP _ (by decide)]
 unfold shr?;rw[e3];exact E0.2 h
theorem AKb(slf:E3×Int×Int×Int×GY->Option E3)(x:E3×Int×GY×Int×Int)(h:(∀p,Tot (x.2.2.1 p) fun _=>True)/\0<=x.2.1/\x.2.1<x.1.length/\0<=x.2.2.2.1/\x.2.2.2.1<=x.2.2.2.2/\x.2.2.2.2<=x.1.length/\x.1.length<=1048576):
 Tot (j5 slf x) (fun r:E3×Int=>r.1=x.1/\x.2.2.2.1<=r.2/\r.2<=x.2.2.2.2):=by
 refine F3 (R:=fun r:E3×Int=>r.1=x.1/\x.2.2.2.1<=r.2/\r.2<=x.2.2.2.2) (fun y:E3×Int×GY×Int×Int=>(∀p,Tot (y.2.2.1 p) fun _=>True)/\0<=y.2.1/\y.2.1<y.1.length/\0<=y.2.2.2.1/\y.2.2.2.1<=y.2.2.2.2/\y.2.2.2.2<=y.1.length/\y.1.length<=1048576/\y.1=x.1/\x.2.2.2.1<=y.2.2.2.1/\y.2.2.2.2<=x.2.2.2.2)
  (fun y=>(y.2.2.2.2-y.2.2.2.1).toNat) ?_ _ _ ⟨h.1,h.2.1,h.2.2.1,h.2.2.2.1,h.2.2.2.2.1,h.2.2.2.2.2.1,h.2.2.2.2.2.2,rfl,B7 _,B7 _⟩ (by obtain⟨_,_,_,_,_,_,_⟩:=h;unfold fuel;omega)
 rintro next ⟨data_0,a_1,cmp_4,i_10,j_11⟩ h hn
 dsimp only at h hn;obtain⟨h0,h1,h2,h3,h4,h5,h6,h7,h8,h9⟩:=h;unfold wH;dsimp only;refine E1.2 ⟨fun hc=>?_,fun hc=>E0.2 ⟨h7,h8,by dsimp only;omega⟩⟩;have hc:=A8 hc;refine D_.2 (NR (by omega) (by omega) (by omega) (by omega) ?_);have hw1:i64.wrap ((i_10+j_11) / 2)=(i_10+j_11) / 2:=EY (by omega) (by omega);have hw2:i64.wrap ((i_10+j_11) / 2+1)=(i_10+j_11) / 2+1:=EY (by omega) (by omega);rw[hw1,hw2];refine D_.2 (FF.2 ⟨⟨by omega,by omega⟩,?_⟩);refine D_.2 (FF.2 ⟨⟨by omega,by omega⟩,?_⟩);refine D_.2 ((h0 _).mono fun r4 _=>?_);refine E1.2 ⟨fun _=>?_,fun _=>?_⟩
 ·exact hn _ ⟨h0,h1,h2,by dsimp only;omega,by dsimp only;omega,h5,h6,h7,by dsimp only;omega,h9⟩ (by dsimp only;omega)
 ·exact hn _ ⟨h0,h1,h2,h3,by dsimp only;omega,by dsimp only;omega,h6,h7,h8,by dsimp only;omega⟩ (by dsimp only;omega)
theorem AKc(slf:E3×Int×Int×Int×GY->Option E3)(x:E3×Int×Int)(h:0<=x.2.1/\x.2.1<=x.1.length/\0<=x.2.2/\x.1.length<=1048576):
 Tot (j6 slf x) (fun r:List (DZ×DZ)=>r.length=x.1.length/\∀q∈r,q∈x.1):=by
 refine F3 (R:=fun r:List (DZ×DZ)=>r.length=x.1.length/\∀q∈r,q∈x.1) (fun y:E3×Int×Int=>0<=y.2.1/\y.2.1<=y.1.length/\0<=y.2.2/\y.1.length<=1048576/\y.1.length=x.1.length/\∀q∈y.1,q∈x.1)
  (fun y=>(y.2.1-y.2.2).toNat) ?_ _ _ ⟨h.1,h.2.1,h.2.2.1,h.2.2.2,rfl,fun q hq=>hq⟩ (by obtain⟨_,_,_,_⟩:=h;unfold fuel;omega)
 rintro next ⟨data_0,i_10,k_13⟩ h hn
 dsimp only at h hn;obtain⟨h1,h2,h3,h4,h5,h6⟩:=h;unfold wI;dsimp only;rw[EY (n:=i_10-1) (by omega) (by omega)];refine E1.2 ⟨fun hc=>?_,fun hc=>E0.2 ⟨h5,h6⟩⟩;have hc:=A8 hc;have hw:i64.wrap (k_13+1)=k_13+1:=EY (by omega) (by omega);rw[hw];refine D_.2 (FF.2 ⟨⟨by omega,by omega⟩,?_⟩);refine D_.2 (FF.2 ⟨⟨by omega,by omega⟩,?_⟩);refine D_.2 (FF.2 ⟨⟨by omega,by omega⟩,?_⟩);refine D_.2 (FF.2 ⟨⟨by omega,by rw[AF];omega⟩,?_⟩);refine hn _ ⟨h1,by simp only[AF];omega,by dsimp only;omega,by simp only[AF];omega,by simp only[AF];omega,fun q hq=>?_⟩ (by dsimp only;omega);rcases EG hq with hq|rfl
 ·rcases EG hq with hq|rfl
  ·exact h6 q hq
  ·exact h6 _ (EF (by omega))
 ·exact h6 _ (EF (by omega))
theorem AKd(slf:E3×Int×Int×Int×GY->Option E3)(x:E3×Int×Int)(h:0<=x.2.1/\x.2.2<x.1.length/\x.1.length<=1048576):
 Tot (j8 slf x) (fun r:List (DZ×DZ)=>r.length=x.1.length/\∀q∈r,q∈x.1):=by
 refine F3 (R:=fun r:List (DZ×DZ)=>r.length=x.1.length/\∀q∈r,q∈x.1) (fun y:E3×Int×Int=>0<=y.2.1/\y.2.2<y.1.length/\y.1.length<=1048576/\y.1.length=x.1.length/\∀q∈y.1,q∈x.1)
  (fun y=>(y.2.2-y.2.1).toNat) ?_ _ _ ⟨h.1,h.2.1,h.2.2,rfl,fun q hq=>hq⟩ (by obtain⟨_,_,_⟩:=h;unfold fuel;omega)
 rintro next ⟨data_0,i_14,k_17⟩ h hn
 dsimp only at h hn;obtain⟨h1,h2,h4,h5,h6⟩:=h;unfold wK;dsimp only;refine E1.2 ⟨fun hc=>?_,fun hc=>E0.2 ⟨h5,h6⟩⟩;have hc:=A8 hc;have hw:i64.wrap (k_17-1)=k_17-1:=EY (by omega) (by omega);rw[hw];refine D_.2 (FF.2 ⟨⟨by omega,by omega⟩,?_⟩);refine D_.2 (FF.2 ⟨⟨by omega,by omega⟩,?_⟩);refine D_.2 (FF.2 ⟨⟨by omega,by omega⟩,?_⟩);refine D_.2 (FF.2 ⟨⟨by omega,by rw[AF];omega⟩,?_⟩);refine hn _ ⟨h1,by simp only[AF];omega,by simp only[AF];omega,by simp only[AF];omega,fun q hq=>?_⟩ (by dsimp only;omega);rcases EG hq with hq|rfl
 ·rcases EG hq with hq|rfl
  ·exact h6 q hq
  ·exact h6 _ (EF (by omega))
 ·exact h6 _ (EF (by omega))
theorem AKe(slf:E3×Int×Int×Int×GY->Option E3)(x:E3×Int×GY×Int×Int)(h:(∀p,Tot (x.2.2.1 p) fun _=>True)/\0<=x.2.1/\x.2.1<x.1.length/\0<=x.2.2.2.1/\x.2.2.2.1<=x.2.2.2.2/\x.2.2.2.2<=x.1.length/\x.1.length<=1048576):
 Tot (j7 slf x) (fun r:E3×Int=>r.1=x.1/\x.2.2.2.1<=r.2/\r.2<=x.2.2.2.2):=by
 refine F3 (R:=fun r:E3×Int=>r.1=x.1/\x.2.2.2.1<=r.2/\r.2<=x.2.2.2.2) (fun y:E3×Int×GY×Int×Int=>(∀p,Tot (y.2.2.1 p) fun _=>True)/\0<=y.2.1/\y.2.1<y.1.length/\0<=y.2.2.2.1/\y.2.2.2.1<=y.2.2.2.2/\y.2.2.2.2<=y.1.length/\y.1.length<=1048576/\y.1=x.1/\x.2.2.2.1<=y.2.2.2.1/\y.2.2.2.2<=x.2.2.2.2)
  (fun y=>(y.2.2.2.2-y.2.2.2.1).toNat) ?_ _ _ ⟨h.1,h.2.1,h.2.2.1,h.2.2.2.1,h.2.2.2.2.1,h.2.2.2.2.2.1,h.2.2.2.2.2.2,rfl,B7 _,B7 _⟩ (by obtain⟨_,_,_,_,_,_,_⟩:=h;unfold fuel;omega)
 rintro next ⟨data_0,m_2,cmp_4,i_14,j_15⟩ h hn
 dsimp only at h hn;obtain⟨h0,h1,h2,h3,h4,h5,h6,h7,h8,h9⟩:=h;unfold wJ;dsimp only;refine E1.2 ⟨fun hc=>?_,fun hc=>E0.2 ⟨h7,h8,by dsimp only;omega⟩⟩;have hc:=A8 hc;refine D_.2 (NR (by omega) (by omega) (by omega) (by omega) ?_);have hw1:i64.wrap ((i_14+j_15) / 2)=(i_14+j_15) / 2:=EY (by omega) (by omega);have hw2:i64.wrap ((i_14+j_15) / 2+1)=(i_14+j_15) / 2+1:=EY (by omega) (by omega);rw[hw1,hw2];refine D_.2 (FF.2 ⟨⟨by omega,by omega⟩,?_⟩);refine D_.2 (FF.2 ⟨⟨by omega,by omega⟩,?_⟩);refine D_.2 ((h0 _).mono fun r13 _=>?_);refine E1.2 ⟨fun _=>?_,fun _=>?_⟩
 ·exact hn _ ⟨h0,h1,h2,by dsimp only;omega,by dsimp only;omega,h5,h6,h7,by dsimp only;omega,h9⟩ (by dsimp only;omega)
 ·exact hn _ ⟨h0,h1,h2,h3,by dsimp only;omega,by dsimp only;omega,h6,h7,h8,by dsimp only;omega⟩ (by dsimp only;omega)
theorem AKf(slf:E3×Int×Int×Int×GY->Option E3)(x:E3×GY×Int×Int×Int)(h:(∀p,Tot (x.2.1 p) fun _=>True)/\0<=x.2.2.1/\x.2.2.1<=x.2.2.2.1/\x.2.2.2.1<=x.1.length/\x.2.2.2.1-1<=x.2.2.2.2/\x.2.2.2.2-x.2.2.1<x.1.length/\x.1.length<=1048576):
 Tot (j9 slf x) (fun r:E3×Int=>r.1=x.1/\x.2.2.1<=r.2/\r.2<=x.2.2.2.1):=by
 refine F3 (R:=fun r:E3×Int=>r.1=x.1/\x.2.2.1<=r.2/\r.2<=x.2.2.2.1) (fun y:E3×GY×Int×Int×Int=>(∀p,Tot (y.2.1 p) fun _=>True)/\0<=y.2.2.1/\y.2.2.1<=y.2.2.2.1/\y.2.2.2.1<=y.1.length/\y.2.2.2.1-1<=y.2.2.2.2/\y.2.2.2.2-y.2.2.1<y.1.length/\y.1.length<=1048576/\y.1=x.1/\x.2.2.1<=y.2.2.1/\y.2.2.2.1<=x.2.2.2.1)
  (fun y=>(y.2.2.2.1-y.2.2.1).toNat) ?_ _ _ ⟨h.1,h.2.1,h.2.2.1,h.2.2.2.1,h.2.2.2.2.1,h.2.2.2.2.2.1,h.2.2.2.2.2.2,rfl,B7 _,B7 _⟩ (by obtain⟨_,_,_,_,_,_,_⟩:=h;unfold fuel;omega)
 rintro next ⟨data_0,cmp_4,start_20,r_21,p_22⟩ h hn
 dsimp only at h hn;obtain⟨h0,h1,h2,h3,h4,h5,h6,h7,h8,h9⟩:=h;unfold wL;dsimp only;refine E1.2 ⟨fun hc=>?_,fun hc=>E0.2 ⟨h7,h8,by dsimp only;omega⟩⟩;have hc:=A8 hc;refine D_.2 (NR (by omega) (by omega) (by omega) (by omega) ?_);have hw1:i64.wrap ((start_20+r_21) / 2)=(start_20+r_21) / 2:=EY (by omega) (by omega);have hw2:i64.wrap ((start_20+r_21) / 2+1)=(start_20+r_21) / 2+1:=EY (by omega) (by omega);have hw3:i64.wrap (p_22-(start_20+r_21) / 2)=p_22-(start_20+r_21) / 2:=EY (by omega) (by omega);rw[hw1,hw2,hw3];refine D_.2 (FF.2 ⟨⟨by omega,by omega⟩,?_⟩);refine D_.2 (FF.2 ⟨⟨by omega,by omega⟩,?_⟩);refine D_.2 ((h0 _).mono fun r4 _=>?_);refine E1.2 ⟨fun _=>?_,fun _=>?_⟩
 ·exact hn _ ⟨h0,by dsimp only;omega,by dsimp only;omega,h3,h4,by dsimp only;omega,h6,h7,by dsimp only;omega,h9⟩ (by dsimp only;omega)
 ·exact hn _ ⟨h0,h1,by dsimp only;omega,by dsimp only;omega,by dsimp only;omega,h5,h6,h7,h8,by dsimp only;omega⟩ (by dsimp only;omega)
theorem AKg(slf:E3×Int×Int×Int×GY->Option E3)(x:E3×Int×GY×Int×Int×Bool)(h:x.1.length<=1048576/\(x.2.2.2.2.2=true->0<=x.2.2.2.1/\x.2.2.2.1<x.2.1/\x.2.1<x.2.2.2.2.1/\x.2.2.2.2.1<=x.1.length)):
 Tot (YD slf x) (fun r:List (DZ×DZ)=>r.length=x.1.length/\∀q∈r,q∈x.1):=by
 obtain⟨data_0,m_2,cmp_4,start_20,end_24,t185⟩:=x;dsimp only at h;unfold YD;dsimp only;refine E1.2 ⟨fun hc=>?_,fun _=>E0.2 ⟨rfl,fun q hq=>hq⟩⟩;obtain⟨h1,h2,h3,h4⟩:=h.2 hc;exact D_.2 ((AKa _ ⟨h1,h2,h3,h4,h.1⟩).mono fun r hr=>E0.2 hr)
theorem AKh(slf:E3×Int×Int×Int×GY->Option E3)(K:Int)(ih:∀y:E3×Int×Int×Int×GY,((∀p,Tot (y.2.2.2.2 p) fun _=>True)/\0<=y.2.1/\y.2.1<y.2.2.1/\y.2.2.1<y.2.2.2.1/\y.2.2.2.1<=y.1.length/\y.1.length<=1048576)->y.2.2.2.1-y.2.1<=K->Tot (slf y) (fun r:List (DZ×DZ)=>r.length=y.1.length/\∀q∈r,q∈y.1))(x:E3×Int×Int×Int×GY)(h:(∀p,Tot (x.2.2.2.2 p) fun _=>True)/\0<=x.2.1/\x.2.1<x.2.2.1/\x.2.2.1<x.2.2.2.1/\x.2.2.2.1<=x.1.length/\x.1.length<=1048576)(hK:x.2.2.2.1-x.2.1<=2*K):
 Tot (jA slf x) (fun r:List (DZ×DZ)=>r.length=x.1.length/\∀q∈r,q∈x.1):=by
 obtain⟨data_0,a_1,m_2,b_3,cmp_4⟩:=x;dsimp only at h hK;obtain⟨h0,h1,h2,h3,h4,h5⟩:=h;unfold jA;dsimp only;rw[EY (n:=m_2-a_1) (by omega) (by omega),EY (n:=b_3-m_2) (by omega) (by omega)];refine E1.2 ⟨fun _=>?_,fun _=>E1.2 ⟨fun _=>?_,fun _=>?_⟩⟩
 ·refine D_.2 ((AKb slf _ ⟨h0,h1,by dsimp only;omega,by dsimp only;omega,by dsimp only;omega,h4,h5⟩).mono fun r5 hr=>?_);dsimp only at hr;obtain⟨e1,e2,e3⟩:=hr;refine D_.2 ((AKc slf _ ⟨by dsimp only;omega,by dsimp only;rw[e1];omega,h1,by dsimp only;rw[e1];exact h5⟩).mono fun r9 hr=>E0.2 ?_);dsimp only at hr;rw[e1]at hr;exact hr
 ·refine D_.2 ((AKe slf _ ⟨h0,by dsimp only;omega,by dsimp only;omega,h1,by dsimp only;omega,by dsimp only;omega,h5⟩).mono fun r5 hr=>?_);dsimp only at hr;obtain⟨e1,e2,e3⟩:=hr;refine D_.2 ((AKd slf _ ⟨by dsimp only;omega,by dsimp only;rw[e1];omega,by dsimp only;rw[e1];exact h5⟩).mono fun r9 hr=>E0.2 ?_);dsimp only at hr;rw[e1]at hr;exact hr
 ·refine D_.2 (NR (by omega) (by omega) (by omega) (by omega) ?_);generalize hmid:(a_1+b_3) / 2=mid;rw[EY (n:=mid) (by omega) (by omega),EY (n:=mid+m_2) (by omega) (by omega),EY (n:=mid+m_2-1) (by omega) (by omega)]
  have hp:Tot (YC slf (a_1,m_2,b_3,mid,mid+m_2,decide (mid<m_2))) fun r:Int×Int=>0<=r.1/\a_1<=r.1/\mid+m_2-b_3<=r.1/\r.1<=r.2/\r.2<=m_2/\r.2<=mid+m_2/\mid+m_2-1-r.1<data_0.length:=by
   unfold YC;dsimp only;refine E1.2 ⟨fun hc=>E0.2 ?_,fun hc=>E0.2 ?_⟩
   ·have hc:=A8 hc;rw[EY (by omega) (by omega)];dsimp only;omega
   ·have hc:=AG hc;dsimp only;omega
  refine D_.2 (hp.mono fun r20 hr=>?_);obtain⟨f1,f2,f3,f4,f5,f6,f7⟩:=hr;refine D_.2 ((AKf slf _ ⟨h0,f1,f4,by dsimp only;omega,by dsimp only;omega,f7,h5⟩).mono fun r26 hr=>?_);dsimp only at hr;obtain⟨e1,e2,e3⟩:=hr;rw[EY (n:=mid+m_2-r26.2) (by omega) (by omega)];refine D_.2 ((AKg slf _ ⟨by dsimp only;rw[e1];exact h5,fun hc=>?_⟩).mono fun r29 hr=>?_)
  ·dsimp only at hc ⊢;rw[A5,AS,AS]at hc;rw[e1];omega
  dsimp only at hr;rw[e1]at hr;obtain⟨g1,g2⟩:=hr
  have hq:Tot (YE slf (r29,a_1,cmp_4,mid,r26.2,decide (a_1<r26.2)&&decide (r26.2<mid))) fun r:List (DZ×DZ)=>r.length=data_0.length/\∀q∈r,q∈data_0:=by
   unfold YE;dsimp only;refine E1.2 ⟨fun hc=>?_,fun _=>E0.2 ⟨g1,g2⟩⟩;rw[A5,AS,AS]at hc;refine D_.2 ((ih _ ⟨h0,h1,by dsimp only;omega,by dsimp only;omega,by dsimp only;omega,by dsimp only;omega⟩ (by dsimp only;omega)).mono fun r31 hr=>E0.2 ?_);dsimp only at hr;exact⟨by omega,fun q hq=>g2 q (hr.2 q hq)⟩
  refine D_.2 (hq.mono fun r32 hr=>?_);obtain⟨k1,k2⟩:=hr;refine E1.2 ⟨fun hc=>?_,fun _=>E0.2 ⟨k1,k2⟩⟩;rw[A5,AS,AS]at hc;refine D_.2 ((ih _ ⟨h0,by dsimp only;omega,by dsimp only;omega,by dsimp only;omega,by dsimp only;omega,by dsimp only;omega⟩ (by dsimp only;omega)).mono fun r34 hr=>E0.2 ?_);dsimp only at hr;exact⟨by omega,fun q hq=>k2 q (hr.2 q hq)⟩
theorem AKi:∀(n:Nat) (x:E3×Int×Int×Int×GY) (h:(∀p,Tot (x.2.2.2.2 p) fun _=>True)/\0<=x.2.1/\x.2.1<x.2.2.1/\x.2.2.1<x.2.2.2.1/\x.2.2.2.1<=x.1.length/\x.1.length<=1048576) (hK:x.2.2.2.1-x.2.1<=2 ^ n),Tot (K8 n x) (fun r:List (DZ×DZ)=>r.length=x.1.length/\∀q∈r,q∈x.1):=by
 intro n;induction n with
 |zero=>
  intro x h hK;obtain⟨_,h1,h2,h3,_,_⟩:=h;rw[Int.pow_zero]at hK;omega
 |succ n ih=>
  intro x h hK;refine AKh (K8 n) (2 ^ n) (fun y hy hk=>ih y hy hk) x h ?_;rw[Int.pow_succ]at hK;omega
theorem A50(x:E3×Int×Int×Int×GY)(h:(∀p,Tot (x.2.2.2.2 p) fun _=>True)/\0<=x.2.1/\x.2.1<x.2.2.1/\x.2.2.1<x.2.2.2.1/\x.2.2.2.1<=x.1.length/\x.1.length<=1048576):Tot (TX x) (fun r:List (DZ×DZ)=>r.length=x.1.length/\∀q∈r,q∈x.1):=by
 unfold TX;refine AKi 100 x h ?_;obtain⟨_,h1,h2,h3,h4,h5⟩:=h;have:(1048576:Int)<=2 ^ 100:=by decide
 omega
theorem AKj{s p:DZ}(h:Lib.hasPrefix s p=true):p.length<=s.length:=(List.isPrefixOf_iff_prefix.1 h).length_le
theorem AKk(x:DZ×DZ)(h:True):Tot (strings_HasPrefix x) (fun r:Bool=>r=true->x.2.length<=x.1.length):=E0.2 AKj
theorem trimPrefix_len(s p:DZ):(Lib.trimPrefix s p).length<=s.length:=by
 unfold Lib.trimPrefix;split
 ·rw[CE];omega
 ·exact AJ _
theorem AKl(x:DZ×DZ)(h:True):Tot (strings_TrimPrefix x) (fun r:DZ=>r.length<=x.1.length):=E0.2 (trimPrefix_len _ _)
theorem AKm(x:DZ×DZ)(h:True):Tot (strings_CutPrefix x) (fun r:DZ×Bool=>r.1.length<=x.1.length):=E0.2 (trimPrefix_len _ _)
theorem A51(x:DZ×DZ)(h:x.1.length<=1048576):Tot (strings_Cut x) (fun r:DZ×DZ×Bool=>r.1.length<=x.1.length/\r.2.1.length<=x.1.length):=by
 unfold strings_Cut HQ;rw[A6 (by omega)];refine E0.2 ?_;unfold Lib.cut;split
 ·simp only[B4,CE];omega
 ·simp
theorem AKn(x:DZ×Int)(h:x.1.length<=1048576):Tot (strings_LastIndexByte x) (fun r:Int=>-1<=r/\r<x.1.length):=by
 unfold strings_LastIndexByte HQ;rw[A6 (by omega)];refine E0.2 ?_;have hs:(⟨x.1.toArray⟩:ByteArray).size=x.1.length:=by simp[ByteArray.size]
 rcases Lib.lastIndexByte_spec ⟨x.1.toArray⟩ x.2 with⟨e,_⟩|⟨i,hi,e,_⟩<;>rw[e]<;>omega
theorem AKo:∀(k u m:Nat),u<10 ^ m->1<=m->(KP k u).length<=m:=by
 intro k;induction k with
 |zero=>intro u m _ _;simp[KP]
 |succ k ih=>
  intro u m hu hm;simp only[KP];split
  ·simpa using hm
  ·rename_i h;obtain⟨j,rfl⟩:∃j,m=j+1:=⟨m-1,by omega⟩
   have hj:1<=j:=by
    rcases j with _|j
    ·simp at hu;omega
    ·omega
   have:=ih (u / 10) j (by rw[Nat.pow_succ]at hu;omega) hj;simp only[A7,AE,AL];omega
theorem AKp:∀(k u:Nat),1<=k->1<=(KP k u).length:=by
 intro k u h;obtain⟨j,rfl⟩:∃j,k=j+1:=⟨k-1,by omega⟩;simp only[KP];split<;>simp
theorem IP(x:Int)(h:True):Tot (strconv_Itoa x) (fun r:DZ=>1<=r.length/\r.length<=21/\(0<=x->x<=999999999999999999->r.length<=18)):=by
 refine E0.2 ⟨?_,vZ x,?_⟩
 ·unfold NL;split
  ·simp
  ·exact AKp 20 _ (by decide)
 ·intro h0 h1;unfold NL;rw[if_neg (by omega)];exact AKo 20 _ 18 (by have h18:(10:Nat) ^ 18=1000000000000000000:=(by decide);omega) (by decide)
def RQ(b:UInt8):Prop:=48<=b.toNat/\b.toNat<=57
theorem AKq:∀(l:DZ) (acc k:Nat),(∀b∈l,RQ b)->acc<10 ^ k->l.length+k<=18->∃u,Lib.parseUint10 acc l=.ok u/\u<10 ^ 18:=by
 intro l;induction l with
 |nil=>intro acc k _ h1 h2;exact⟨acc,rfl,BI h1 (DD (by decide) (by simpa using h2))⟩
 |cons c r ih=>
  intro acc k hd h1 h2;have hl:r.length+1+k<=18:=by simpa using h2
  have hp:10 ^ k<=10 ^ 17:=DD (by decide) (by omega);have e17:(10:Nat) ^ 17=100000000000000000:=by decide
  have hc:48<=c.toNat/\c.toNat<=57:=hd c AM;simp only[Lib.parseUint10];rw[if_pos hc,if_neg (by omega),if_neg (by omega)];exact ih _ (k+1) (fun b hb=>hd b (AH _ hb)) (by rw[Nat.pow_succ];omega) (by omega)
theorem qF(s:DZ)(h0:s≠[])(hd:∀b∈s,RQ b)(hl:s.length<=18):∃u:Nat,Lib.atoiAll s=.ok (u:Int)/\u<1000000000000000000:=by
 cases s with
 |nil=>exact absurd rfl h0
 |cons c r=>
  have hc:=hd c AM;unfold RQ at hc;obtain⟨u,e,hu⟩:=AKq (c::r) 0 0 hd (by decide) hl;have e18:(10:Nat) ^ 18=1000000000000000000:=by decide
  rw[e18]at hu;refine⟨u,?_,hu⟩;unfold Lib.atoiAll;simp only;rw[if_neg (by omega)];unfold Lib.parseMag;rw[if_neg (by simp),e];simp only;rw[if_neg (by omega),if_neg (by omega),if_neg (by omega)]
theorem AKr(x:DZ)(h:x.length<=1048576):Tot (XX x) (fun r:Int×Unit=>x≠[]->(∀b∈x,RQ b)->x.length<=18->0<=r.1/\r.1<=999999999999999999):=by
 unfold XX HQ;rw[A6 (by omega)];show Tot (match Lib.atoiAll x with| .ok v=>some (v,())| .range=>some (Lib.atoiSat x,())|_=>some (0,())) _;cases e:Lib.atoiAll x with
 |ok v=>
  refine E0.2 fun h1 h2 h3=>?_;obtain⟨u,e2,hu⟩:=qF x h1 h2 h3;rw[e]at e2;injection e2 with e2;subst e2;dsimp only;omega
 |range=>exact E0.2 fun h1 h2 h3=>by obtain⟨u,e2,_⟩:=qF x h1 h2 h3;rw[e]at e2;cases e2
 |_=>exact E0.2 fun h1 h2 h3=>by obtain⟨u,e2,_⟩:=qF x h1 h2 h3;rw[e]at e2;cases e2
theorem AKs(x:DZ×Int)(h:x.1.length=1/\0<=x.2/\x.2<=1048576):Tot (strings_Repeat x) (fun r:DZ=>(r.length:Int)=x.2):=by
 unfold strings_Repeat HQ;rw[A6 (by rw[h.1];omega)];refine E0.2 ?_;rw[Lib.repeatL_length,h.1];omega
theorem AKt(r:Int):(Lib.encodeRune r).length<=4:=by
 unfold Lib.encodeRune Lib.encodeRuneZ;rw[AK]
 repeat' split
 all_goals simp
theorem AKu(f:Int->Int):∀(n:Nat) (l:DZ),(Lib.mapGoD f n l).length<=4*n:=by
 intro n;induction n with
 |zero=>intro l;simp[Lib.mapGoD]
 |succ n ih=>
  intro l;simp only[Lib.mapGoD];split
  ·simp
  ·rw[A7];have h1:=ih (l.drop (Lib.decodeL l).2)
   have h2:(if 0<=f (Lib.decodeL l).1 then Lib.encodeRune (f (Lib.decodeL l).1)else []).length<=4:=by
    split
    ·exact AKt _
    ·simp
   omega
theorem A52(x:DZ)(h:x.length<=1048576):Tot (TQ x) (fun r:DZ=>r.length<=4*x.length):=by
 unfold TQ HQ;rw[A6 (by omega)];have h1:(Lib.toLowerD x).length<=4*x.length:=AKu _ _ _;show Tot (str? _) _;unfold str?;rw[A6 (by omega)];exact E0.2 h1
theorem AKv(p:Nat->Bool)(s:ByteArray):∀(f pos:Nat) (st:Option Nat) (acc:List (Nat×Nat)),(Lib.spansFromP p s f pos st acc).1.length<=acc.length+f:=by
 intro f;induction f with
 |zero=>intro pos st acc;simp[Lib.spansFromP]
 |succ f ih=>
  intro pos st acc;simp only[Lib.spansFromP];split
  ·split
   ·cases st with
    |some a=>have:=ih (pos+(Utf8.decode s pos).2) none (acc++[(a,pos)]);simp only[A7,AE,AL]at this ⊢;omega
    |none=>have:=ih (pos+(Utf8.decode s pos).2) none acc;dsimp only;omega
   ·cases st with
    |some a=>have:=ih (pos+(Utf8.decode s pos).2) (some a) acc;dsimp only;omega
    |none=>have:=ih (pos+(Utf8.decode s pos).2) (some pos) acc;dsimp only;omega
  ·simp
theorem AKw(p:Nat->Bool)(s:ByteArray):(Lib.goFieldsP p s).length<=s.size+1:=by
 unfold Lib.goFieldsP Lib.spansOfP Lib.closeSpans;rw[AK];have:=AKv p s s.size 0 none [];simp only[AL]at this;split
 ·rw[A7];simp only[AE,AL];omega
 ·omega
theorem AKx(p:Nat->Bool)(s:ByteArray):∀b∈Lib.goFieldsP p s,b.size<=s.size:=by
 intro b hb;unfold Lib.goFieldsP at hb;obtain⟨x,_,rfl⟩:=C3.1 hb;rw[D0];omega
theorem AKy(x:DZ×LX)(h:x.1.length<=1048576/\∀c,Tot (x.2 c) fun _=>True):Tot (QP x) (fun r:List DZ=>r.length<=x.1.length+1/\∀s∈r,s.length<=x.1.length):=by
 have hs:(⟨x.1.toArray⟩:ByteArray).size=x.1.length:=by simp[ByteArray.size]
 have hl:=fun p=>AKw p ⟨x.1.toArray⟩;rw[hs]at hl;unfold QP HQ;rw[@decide_eq_true _ (Classical.propDecidable _) ⟨by omega,fun r _=>let ⟨b,e,_⟩:=h.2 r;⟨b,e⟩,by have:=hl fun r=>(x.2 (r:Int)).getD false;omega⟩];refine E0.2 ⟨?_,?_⟩
 ·rw[AK];exact hl _
 ·intro s h1;obtain⟨b,hb,rfl⟩:=C3.1 h1;have:=AKx _ _ b hb;rw[hs]at this;have e:b.data.toList.length=b.size:=by rw[BX];rfl
  omega
abbrev Nm(n:Int):Prop:=0<=n/\n<=999999999999999999
abbrev Nm1(n:Int):Prop:=-1<=n/\n<=999999999999999999
abbrev LS(l:List DZ):Prop:=l.length<=1002/\∀s∈l,s.length<=1000
abbrev NS(l:List Int):Prop:=l.length<=1002/\∀n∈l,0<=n/\n<=999999999999999999
abbrev TS(l:List GA):Prop:=l.length<=1002/\∀t∈l,t.2.1.length<=5000/\0<=t.2.2/\t.2.2<=999999999999999999
abbrev Dt:=(List Int)×(List DZ)
abbrev Rv:=Int×DZ×DZ×Bool
abbrev Sg:=Int×(List Int)×Int×Int×Int×Int×(List DZ)
abbrev Ql:=List GA
abbrev Vr:=Sum LE (Sum KQ (Sum G6 (Sum (List GA) (Sum Int Unit))))
abbrev dC(v:Dt):Prop:=v.1.length=3/\(∀n∈v.1,0<=n/\n<=999999999999999999)/\v.2.length<=1002/\∀s∈v.2,s.length<=1000
abbrev P2(v:Rv):Prop:=Nm v.1/\v.2.1.length<=1000/\v.2.2.1.length<=1000
abbrev M5(v:Sg):Prop:=Nm v.1/\NS v.2.1/\(0<=v.2.2.1/\v.2.2.1<=3)/\Nm v.2.2.2.1/\Nm1 v.2.2.2.2.1/\Nm1 v.2.2.2.2.2.1/\LS v.2.2.2.2.2.2
def J2(v:Vr):Prop:=match v with
 | .inl d=>dC d
 | .inr (.inl r)=>P2 r
 | .inr (.inr (.inl s))=>M5 s
 | .inr (.inr (.inr (.inl q)))=>TS q
 | .inr (.inr (.inr (.inr (.inl n))))=>Nm n
 | .inr (.inr (.inr (.inr (.inr _))))=>False
theorem AKz(d:Dt):J2 (.inl d)=dC d:=rfl
theorem AL0(d:Rv):J2 (.inr (.inl d))=P2 d:=rfl
theorem AL1(d:Sg):J2 (.inr (.inr (.inl d)))=M5 d:=rfl
theorem AL2(d:Ql):J2 (.inr (.inr (.inr (.inl d))))=TS d:=rfl
theorem AL3(d:Int):J2 (.inr (.inr (.inr (.inr (.inl d)))))=Nm d:=rfl
theorem EP{α:Type}{l:List α}{i j:Nat}{a:α}:a∈(l.take i).drop j->a∈l:=fun h=>DC (List.mem_of_mem_drop h)
theorem EJ{α:Type}(l:List α)(i j:Nat):((l.take i).drop j).length=min i l.length-j:=by simp
theorem dD{xs:List DZ}{sep:DZ}{m k c:Nat}:(∀s∈xs,s.length<=m)->xs.length<=k->sep.length<=c->(Lib.join xs sep).length<=k*(m+c):=fun h hk hc=>
 A_ (pZ sep m xs h) (Nat.mul_le_mul hk (by omega))
theorem EQ(s:DZ):EN s []=decide (s.length=0):=by rw[E6];cases s<;>simp
theorem AL4(x:DZ×Int×LX×Int)(h:0<=x.2.2.2/\0<=x.2.1/\x.2.1+x.2.2.2<=x.1.length/\x.1.length<=1048576/\(∀c,Tot (x.2.2.1 c) fun _=>True)/\(∀j:Nat,x.2.1<=j->j<x.2.1+x.2.2.2->∀c,x.1[j]?=some c->x.2.2.1 (c.toNat:Int)=some true)):
 Tot (jR x) (fun r:Int=>x.2.2.2<=r/\x.2.1+r<=x.1.length/\(∀j:Nat,x.2.1<=j->j<x.2.1+r->∀c,x.1[j]?=some c->x.2.2.1 (c.toNat:Int)=some true)/\∀c,x.1[(x.2.1+r).toNat]?=some c->x.2.2.1 (c.toNat:Int)=some false):=by
 obtain⟨s,at_,f,n⟩:=x;dsimp only at h ⊢
 refine F3 (R:=fun r:Int=>n<=r/\at_+r<=s.length/\(∀j:Nat,at_<=j->j<at_+r->∀c,s[j]?=some c->f (c.toNat:Int)=some true)/\∀c,s[(at_+r).toNat]?=some c->f (c.toNat:Int)=some false)
  (fun y:DZ×Int×LX×Int=>y.1=s/\y.2.1=at_/\y.2.2.1=f/\n<=y.2.2.2/\at_+y.2.2.2<=s.length/\(∀j:Nat,at_<=j->j<at_+y.2.2.2->∀c,s[j]?=some c->f (c.toNat:Int)=some true)) (fun y=>(s.length-at_-y.2.2.2).toNat) ?_ _ _ ⟨rfl,rfl,rfl,B7 _,h.2.2.1,h.2.2.2.2.2⟩ (by unfold fuel;dsimp only;omega)
 rintro next ⟨s',at',f',m⟩ hI hn
 dsimp only at hI hn;obtain⟨rfl,rfl,rfl,h1,h2,h3⟩:=hI;obtain⟨g1,g2,g3,g4,g5,_⟩:=h;unfold x5;dsimp only;rw[EY (by omega) (by omega)];by_cases hc:at'+m<s'.length
 ·rw[A6 hc];simp only[AB,CF];refine D_.2 (E_.2 ⟨⟨by omega,by omega⟩,fun b hb=>?_⟩);obtain⟨r,hr,_⟩:=g5 (b.toNat:Int);rw[hr];refine D_.2 (E0.2 ?_);refine E1.2 ⟨fun e=>?_,fun e=>E0.2 ⟨h1,h2,h3,fun c hc'=>?_⟩⟩
  ·subst e;rw[EY (by omega) (by omega)];refine hn _ ⟨rfl,rfl,rfl,by dsimp only;omega,by dsimp only;omega,?_⟩ (by dsimp only;omega);intro j hj1 hj2 c hjc;dsimp only at hj2;by_cases hj3:(j:Int)<at'+m
   ·exact h3 j hj1 hj3 c hjc
   ·have:j=(at'+m).toNat:=by omega
    subst this;rw[hb]at hjc;cases hjc;exact hr
  ·subst e;rw[hb]at hc';cases hc';exact hr
 ·rw[A9 hc];simp only[AD,BZ];refine D_.2 (E0.2 ?_);refine D_.2 (E0.2 ?_);refine E0.2 ⟨h1,h2,h3,fun c hc'=>?_⟩;have:=(AC.1 hc').1;omega
theorem dE(x:DZ×Int×LX)(h:0<=x.2.1/\x.2.1<=x.1.length/\x.1.length<=1048576/\(∀c,Tot (x.2.2 c) fun _=>True)):
 Tot (HR x) (fun r:Int=>0<=r/\x.2.1+r<=x.1.length/\(∀j:Nat,x.2.1<=j->j<x.2.1+r->∀c,x.1[j]?=some c->x.2.2 (c.toNat:Int)=some true)/\∀c,x.1[(x.2.1+r).toNat]?=some c->x.2.2 (c.toNat:Int)=some false):=by
 obtain⟨s,a,f⟩:=x;dsimp only at h ⊢;unfold HR;refine D_.2 ((AL4 _ ⟨B7 _,h.1,by dsimp only;omega,h.2.2.1,h.2.2.2,fun j h1 h2=>by dsimp only at h1 h2;omega⟩).mono fun r hr=>E0.2 ?_);exact hr
theorem AL5(x:DZ×Int×LX)(h:0<=x.2.1/\x.2.1<=x.1.length/\x.1.length<=1048576/\(∀c,Tot (x.2.2 c) fun _=>True)):
 Tot (HR x) (fun r:Int=>0<=r/\x.2.1+r<=x.1.length):=(dE x h).mono fun _ hr=>⟨hr.1,hr.2.1⟩
theorem LJ(x:DZ×Int×LX)(hf:∀c,Tot (x.2.2 c) (fun _=>True))(h:0<=x.2.1/\x.2.1<=x.1.length/\x.1.length<=1048576):
 Tot (HR x) (fun r:Int=>0<=r/\x.2.1+r<=x.1.length):=AL5 x ⟨h.1,h.2.1,h.2.2,hf⟩
theorem GR{α β:Type}{f:α->Option β}{P:β->Prop}{c:α}(h:Tot (f c) P):Tot ((f c).bind fun r=>some r) fun _=>True:=D_.2 (h.mono fun _ _=>E0.2 trivial)
theorem A53(c:Int):Tot ((G_ c).bind fun r=>some r) fun _=>True:=⟨_,rfl,trivial⟩
theorem H0(c:Int)(h:True):Tot (G_ c) fun _=>True:=⟨_,rfl,trivial⟩
theorem I3(c:Int)(h:True):Tot (MM c) fun _=>True:=⟨_,rfl,trivial⟩
theorem AL6(c:Int)(h:True):Tot (jX c) fun _=>True:=⟨_,rfl,trivial⟩
theorem A54(c:Int)(h:True):Tot (j_ c) fun _=>True:=⟨_,rfl,trivial⟩
theorem AL7(b:UInt8)(h:((G_ (b.toNat:Int)).bind fun r=>some r)=some true):RQ b:=by
 unfold G_ at h;simp at h;unfold RQ;omega
theorem JP(s:DZ)(h:s.length<=1048576):Tot (IK s) (fun r:Int×Bool=>0<=r.1/\r.1<=999999999999999999):=by
 unfold IK;dsimp only;cases hv:(EN s []||decide ((18:Int)<(s.length:Int)))with
 |true=>simp only[BU,AD,Bool.true_or,AB];exact D_.2 (E0.2 (E0.2 (by decide)))
 |false=>
  simp only[CW,AB,CC];refine D_.2 ((dE _ ⟨B7 _,by dsimp only;omega,h,A53⟩).mono fun r hr=>?_);refine E1.2 ⟨fun _=>E0.2 (by decide),fun e=>?_⟩;refine D_.2 ((AKr s h).mono fun r3 h3=>E0.2 ?_);have hv1:=(BM.1 hv);have e1:r=s.length:=by simpa[E2]using e
  dsimp only at hr;refine h3 (by simpa[E6]using hv1.1) (fun b hb=>?_) (by have:=AG hv1.2;omega);obtain⟨j,hj,hjb⟩:=List.mem_iff_getElem.1 hb;exact AL7 b (hr.2.2.1 j (by omega) (by omega) b (by rw[<-hjb];exact A0 hj))
theorem AL8(x:(List E8)×Int×GZ×Int)(h:(∀p,Tot (x.2.2.1 p) fun _=>True)/\0<=x.2.1/\x.2.1<=x.2.2.2/\x.2.2.2<x.1.length/\x.1.length<=1048576):
 Tot (lC x) (fun r:List E8=>r.length=x.1.length/\∀q∈r,q∈x.1):=by
 refine F3 (R:=fun r:List E8=>r.length=x.1.length/\∀q∈r,q∈x.1) (fun y:(List E8)×Int×GZ×Int=>(∀p,Tot (y.2.2.1 p) fun _=>True)/\0<=y.2.1/\y.2.1<=y.2.2.2/\y.2.2.2<y.1.length/\y.1.length<=1048576/\y.1.length=x.1.length/\∀q∈y.1,q∈x.1)
  (fun y=>y.2.2.2.toNat) ?_ _ _ ⟨h.1,h.2.1,h.2.2.1,h.2.2.2.1,h.2.2.2.2,rfl,fun q hq=>hq⟩ (by obtain⟨_,_,_,_,_⟩:=h;unfold fuel;omega)
 rintro next ⟨data_0,a_1,cmp_3,j_9⟩ h hn
 dsimp only at h hn;obtain⟨h0,h1,h2,h3,h4,h5,h6⟩:=h;unfold yA;dsimp only;by_cases hc:a_1<j_9
 ·have hw:i64.wrap (j_9-1)=j_9-1:=EY (by omega) (by omega);simp only[hw,A6 hc,AB,CF];refine D_.2 (FF.2 ⟨⟨by omega,by omega⟩,?_⟩);refine D_.2 (FF.2 ⟨⟨by omega,by omega⟩,?_⟩);refine D_.2 ((h0 _).mono fun r3 _=>?_);refine E1.2 ⟨fun _=>?_,fun _=>E0.2 ⟨h5,h6⟩⟩;refine D_.2 (FF.2 ⟨⟨by omega,by omega⟩,?_⟩);refine D_.2 (FF.2 ⟨⟨by omega,by omega⟩,?_⟩);refine D_.2 (FF.2 ⟨⟨by omega,by omega⟩,?_⟩);refine D_.2 (FF.2 ⟨⟨by omega,by rw[AF];omega⟩,?_⟩);refine hn _ ⟨h0,h1,by dsimp only;omega,by simp only[AF];omega,by simp only[AF];omega,by simp only[AF];omega,fun q hq=>?_⟩ (by dsimp only;omega);rcases EG hq with hq|rfl
  ·rcases EG hq with hq|rfl
   ·exact h6 q hq
   ·exact h6 _ (EF (by omega))
  ·exact h6 _ (EF (by omega))
 ·simp only[A9 hc,AD,BZ];refine D_.2 (E0.2 ?_);refine D_.2 (E0.2 ?_);refine D_.2 (E0.2 ?_);exact E0.2 ⟨h5,h6⟩
theorem AL9(x:(List E8)×Int×Int×GZ×Int)(h:(∀p,Tot (x.2.2.2.1 p) fun _=>True)/\0<=x.2.1/\x.2.1<=x.2.2.2.2/\x.2.2.1<=x.1.length/\x.2.2.2.2<=1048577/\x.1.length<=1048576):
 Tot (lD x) (fun r:List E8=>r.length=x.1.length/\∀q∈r,q∈x.1):=by
 refine F3 (R:=fun r:List E8=>r.length=x.1.length/\∀q∈r,q∈x.1) (fun y:(List E8)×Int×Int×GZ×Int=>(∀p,Tot (y.2.2.2.1 p) fun _=>True)/\0<=y.2.1/\y.2.1<=y.2.2.2.2/\y.2.2.1<=y.1.length/\y.2.2.2.2<=1048577/\y.1.length<=1048576/\y.1.length=x.1.length/\∀q∈y.1,q∈x.1)
  (fun y=>(y.2.2.1-y.2.2.2.2).toNat) ?_ _ _ ⟨h.1,h.2.1,h.2.2.1,h.2.2.2.1,h.2.2.2.2.1,h.2.2.2.2.2,rfl,fun q hq=>hq⟩ (by obtain⟨_,_,_,_,_,_⟩:=h;unfold fuel;omega)
 rintro next ⟨data_0,a_1,b_2,cmp_3,i_8⟩ h hn
 dsimp only at h hn;obtain⟨h0,h1,h2,h3,h4,h5,h6,h7⟩:=h;unfold yB;dsimp only;refine E1.2 ⟨fun hc=>?_,fun _=>E0.2 ⟨h6,h7⟩⟩;have hc:=A8 hc;have hw:i64.wrap (i_8+1)=i_8+1:=EY (by omega) (by omega);rw[hw];refine D_.2 ((AL8 _ ⟨h0,h1,h2,by dsimp only;omega,h5⟩).mono fun r hr=>?_);dsimp only at hr;obtain⟨e1,e2⟩:=hr;exact hn _ ⟨h0,h1,by dsimp only;omega,by dsimp only;omega,by dsimp only;omega,by dsimp only;omega,by dsimp only;omega,fun q hq=>h7 q (e2 q hq)⟩ (by dsimp only;omega)
theorem A55(x:(List E8)×Int×Int×GZ)(h:(∀p,Tot (x.2.2.2 p) fun _=>True)/\0<=x.2.1/\x.2.1<=1048576/\x.2.2.1<=x.1.length/\x.1.length<=1048576):
 Tot (UN x) (fun r:List E8=>r.length=x.1.length/\∀q∈r,q∈x.1):=by
 obtain⟨data_0,a_1,b_2,cmp_3⟩:=x;dsimp only at h;obtain⟨h0,h1,h2,h3,h4⟩:=h;unfold UN;dsimp only;rw[EY (by omega) (by omega)];exact D_.2 ((AL9 _ ⟨h0,h1,by dsimp only;omega,h3,by dsimp only;omega,h4⟩).mono fun r hr=>E0.2 hr)
theorem ALA(x:(List E8)×Int×Int×Int×Int)(h:0<=x.2.1/\0<=x.2.2.1/\x.2.1+x.2.2.2.1<=x.1.length/\x.2.2.1+x.2.2.2.1<=x.1.length/\0<=x.2.2.2.2/\x.1.length<=1048576):
 Tot (lE x) (fun r:List E8=>r.length=x.1.length/\∀q∈r,q∈x.1):=by
 refine F3 (R:=fun r:List E8=>r.length=x.1.length/\∀q∈r,q∈x.1) (fun y:(List E8)×Int×Int×Int×Int=>0<=y.2.1/\0<=y.2.2.1/\y.2.1+y.2.2.2.1<=y.1.length/\y.2.2.1+y.2.2.2.1<=y.1.length/\0<=y.2.2.2.2/\y.1.length<=1048576/\y.1.length=x.1.length/\∀q∈y.1,q∈x.1)
  (fun y=>(y.2.2.2.1-y.2.2.2.2).toNat) ?_ _ _ ⟨h.1,h.2.1,h.2.2.1,h.2.2.2.1,h.2.2.2.2.1,h.2.2.2.2.2,rfl,fun q hq=>hq⟩ (by obtain⟨_,_,_,_,_,_⟩:=h;unfold fuel;omega)
 rintro next ⟨data_0,a_1,b_2,n_3,i_10⟩ h hn
 dsimp only at h hn;obtain⟨h1,h2,h3,h4,h5,h6,h7,h8⟩:=h;unfold yC;dsimp only;refine E1.2 ⟨fun hc=>?_,fun _=>E0.2 ⟨h7,h8⟩⟩;have hc:=A8 hc;have hw1:i64.wrap (a_1+i_10)=a_1+i_10:=EY (by omega) (by omega);have hw2:i64.wrap (b_2+i_10)=b_2+i_10:=EY (by omega) (by omega);have hw3:i64.wrap (i_10+1)=i_10+1:=EY (by omega) (by omega);rw[hw1,hw2,hw3];refine D_.2 (FF.2 ⟨⟨by omega,by omega⟩,?_⟩);refine D_.2 (FF.2 ⟨⟨by omega,by omega⟩,?_⟩);refine D_.2 (FF.2 ⟨⟨by omega,by omega⟩,?_⟩);refine D_.2 (FF.2 ⟨⟨by omega,by rw[AF];omega⟩,?_⟩);refine hn _ ⟨h1,h2,by simp only[AF];omega,by simp only[AF];omega,by dsimp only;omega,by simp only[AF];omega,by simp only[AF];omega,fun q hq=>?_⟩ (by dsimp only;omega);rcases EG hq with hq|rfl
 ·rcases EG hq with hq|rfl
  ·exact h8 q hq
  ·exact h8 _ (EF (by omega))
 ·exact h8 _ (EF (by omega))
theorem qG(x:(List E8)×Int×Int×Int×GZ)(h:0<=x.2.1/\0<=x.2.2.1/\x.2.1+x.2.2.2.1<=x.1.length/\x.2.2.1+x.2.2.2.1<=x.1.length/\x.1.length<=1048576):
 Tot (RB x) (fun r:List E8=>r.length=x.1.length/\∀q∈r,q∈x.1):=by
 obtain⟨data_0,a_1,b_2,n_3,cmp_4⟩:=x;obtain⟨h1,h2,h3,h4,h5⟩:=h;unfold RB;dsimp only;exact D_.2 ((ALA _ ⟨h1,h2,h3,h4,B7 _,h5⟩).mono fun r hr=>E0.2 hr)
theorem ALB(x:(List E8)×Int×GZ×Int×Int)(h:0<x.2.2.2.1/\0<x.2.2.2.2/\x.2.2.2.1<=x.2.1/\x.2.1+x.2.2.2.2<=x.1.length/\x.1.length<=1048576):
 Tot (lF x) (fun r:(List E8)×Int=>r.1.length=x.1.length/\(∀q∈r.1,q∈x.1)/\0<r.2/\r.2<=x.2.1/\x.2.1+r.2<=x.1.length):=by
 refine F3 (R:=fun r:(List E8)×Int=>r.1.length=x.1.length/\(∀q∈r.1,q∈x.1)/\0<r.2/\r.2<=x.2.1/\x.2.1+r.2<=x.1.length) (fun y:(List E8)×Int×GZ×Int×Int=>0<y.2.2.2.1/\0<y.2.2.2.2/\y.2.2.2.1<=y.2.1/\y.2.1+y.2.2.2.2<=y.1.length/\y.1.length<=1048576/\y.1.length=x.1.length/\(∀q∈y.1,q∈x.1)/\y.2.1=x.2.1)
  (fun y=>(y.2.2.2.1+y.2.2.2.2).toNat) ?_ _ _ ⟨h.1,h.2.1,h.2.2.1,h.2.2.2.1,h.2.2.2.2,rfl,(fun q hq=>hq),rfl⟩ (by obtain⟨_,_,_,_,_⟩:=h;unfold fuel;omega)
 rintro next ⟨data_0,m_2,cmp_4,i_10,j_11⟩ h hn
 dsimp only at h hn;obtain⟨h1,h2,h3,h4,h5,h6,h7,h8⟩:=h;unfold yD;dsimp only;refine E1.2 ⟨fun hc=>?_,fun hc=>E0.2 ⟨h6,h7,h1,by dsimp only;omega,?_⟩⟩
 ·have hc:i_10≠j_11:=by rw[E2]at hc;simpa using hc
  have hw1:i64.wrap (m_2-i_10)=m_2-i_10:=EY (by omega) (by omega);have hw2:i64.wrap (m_2+j_11)=m_2+j_11:=EY (by omega) (by omega);have hw3:i64.wrap (m_2+j_11-i_10)=m_2+j_11-i_10:=EY (by omega) (by omega);have hw4:i64.wrap (i_10-j_11)=i_10-j_11:=EY (by omega) (by omega);have hw5:i64.wrap (j_11-i_10)=j_11-i_10:=EY (by omega) (by omega);rw[hw1,hw2,hw3,hw4,hw5];refine E1.2 ⟨fun hd=>?_,fun hd=>?_⟩
  ·have hd:=A8 hd;refine D_.2 ((qG _ ⟨by dsimp only;omega,by dsimp only;omega,by dsimp only;omega,by dsimp only;omega,h5⟩).mono fun r hr=>?_);dsimp only at hr;exact hn _ ⟨by dsimp only;omega,h2,by dsimp only;omega,by dsimp only;omega,by dsimp only;omega,by dsimp only;omega,fun q hq=>h7 q (hr.2 q hq),h8⟩ (by dsimp only;omega)
  ·have hd:=AG hd;refine D_.2 ((qG _ ⟨by dsimp only;omega,by dsimp only;omega,by dsimp only;omega,by dsimp only;omega,h5⟩).mono fun r hr=>?_);dsimp only at hr;exact hn _ ⟨h1,by dsimp only;omega,h3,by dsimp only;omega,by dsimp only;omega,by dsimp only;omega,fun q hq=>h7 q (hr.2 q hq),h8⟩ (by dsimp only;omega)
 ·have hc:i_10=j_11:=by rw[E2]at hc;simpa using hc
  omega
theorem ALC(x:(List E8)×Int×Int×Int×GZ)(h:0<=x.2.1/\x.2.1<x.2.2.1/\x.2.2.1<x.2.2.2.1/\x.2.2.2.1<=x.1.length/\x.1.length<=1048576):
 Tot (aN x) (fun r:List E8=>r.length=x.1.length/\∀q∈r,q∈x.1):=by
 obtain⟨data_0,a_1,m_2,b_3,cmp_4⟩:=x;dsimp only at h;obtain⟨h1,h2,h3,h4,h5⟩:=h;unfold aN;dsimp only;rw[EY (n:=m_2-a_1) (by omega) (by omega),EY (n:=b_3-m_2) (by omega) (by omega)];refine D_.2 ((ALB _ ⟨by dsimp only;omega,by dsimp only;omega,by dsimp only;omega,by dsimp only;omega,h5⟩).mono fun r hr=>?_);dsimp only at hr;obtain⟨e1,e2,e3,e4,e5⟩:=hr;rw[EY (n:=m_2-r.2) (by omega) (by omega)];refine D_.2 ((qG _ ⟨by dsimp only;omega,by dsimp only;omega,by dsimp only;omega,by dsimp only;omega,by dsimp only;omega⟩).mono fun r4 hr=>E0.2 ?_);dsimp only at hr;exact⟨by omega,fun q hq=>e2 q (hr.2 q hq)⟩
theorem ALD(slf:(List E8)×Int×Int×Int×GZ->Option (List E8))(x:(List E8)×Int×GZ×Int×Int)(h:(∀p,Tot (x.2.2.1 p) fun _=>True)/\0<=x.2.1/\x.2.1<x.1.length/\0<=x.2.2.2.1/\x.2.2.2.1<=x.2.2.2.2/\x.2.2.2.2<=x.1.length/\x.1.length<=1048576):
 Tot (lG slf x) (fun r:(List E8)×Int=>r.1=x.1/\x.2.2.2.1<=r.2/\r.2<=x.2.2.2.2):=by
 refine F3 (R:=fun r:(List E8)×Int=>r.1=x.1/\x.2.2.2.1<=r.2/\r.2<=x.2.2.2.2) (fun y:(List E8)×Int×GZ×Int×Int=>(∀p,Tot (y.2.2.1 p) fun _=>True)/\0<=y.2.1/\y.2.1<y.1.length/\0<=y.2.2.2.1/\y.2.2.2.1<=y.2.2.2.2/\y.2.2.2.2<=y.1.length/\y.1.length<=1048576/\y.1=x.1/\x.2.2.2.1<=y.2.2.2.1/\y.2.2.2.2<=x.2.2.2.2)
  (fun y=>(y.2.2.2.2-y.2.2.2.1).toNat) ?_ _ _ ⟨h.1,h.2.1,h.2.2.1,h.2.2.2.1,h.2.2.2.2.1,h.2.2.2.2.2.1,h.2.2.2.2.2.2,rfl,B7 _,B7 _⟩ (by obtain⟨_,_,_,_,_,_,_⟩:=h;unfold fuel;omega)
 rintro next ⟨data_0,a_1,cmp_4,i_10,j_11⟩ h hn
 dsimp only at h hn;obtain⟨h0,h1,h2,h3,h4,h5,h6,h7,h8,h9⟩:=h;unfold yE;dsimp only;refine E1.2 ⟨fun hc=>?_,fun hc=>E0.2 ⟨h7,h8,by dsimp only;omega⟩⟩;have hc:=A8 hc;refine D_.2 (NR (by omega) (by omega) (by omega) (by omega) ?_);have hw1:i64.wrap ((i_10+j_11) / 2)=(i_10+j_11) / 2:=EY (by omega) (by omega);have hw2:i64.wrap ((i_10+j_11) / 2+1)=(i_10+j_11) / 2+1:=EY (by omega) (by omega);rw[hw1,hw2];refine D_.2 (FF.2 ⟨⟨by omega,by omega⟩,?_⟩);refine D_.2 (FF.2 ⟨⟨by omega,by omega⟩,?_⟩);refine D_.2 ((h0 _).mono fun r4 _=>?_);refine E1.2 ⟨fun _=>?_,fun _=>?_⟩
 ·exact hn _ ⟨h0,h1,h2,by dsimp only;omega,by dsimp only;omega,h5,h6,h7,by dsimp only;omega,h9⟩ (by dsimp only;omega)
 ·exact hn _ ⟨h0,h1,h2,h3,by dsimp only;omega,by dsimp only;omega,h6,h7,h8,by dsimp only;omega⟩ (by dsimp only;omega)
theorem ALE(slf:(List E8)×Int×Int×Int×GZ->Option (List E8))(x:(List E8)×Int×Int)(h:0<=x.2.1/\x.2.1<=x.1.length/\0<=x.2.2/\x.1.length<=1048576):
 Tot (lH slf x) (fun r:List E8=>r.length=x.1.length/\∀q∈r,q∈x.1):=by
 refine F3 (R:=fun r:List E8=>r.length=x.1.length/\∀q∈r,q∈x.1) (fun y:(List E8)×Int×Int=>0<=y.2.1/\y.2.1<=y.1.length/\0<=y.2.2/\y.1.length<=1048576/\y.1.length=x.1.length/\∀q∈y.1,q∈x.1)
  (fun y=>(y.2.1-y.2.2).toNat) ?_ _ _ ⟨h.1,h.2.1,h.2.2.1,h.2.2.2,rfl,fun q hq=>hq⟩ (by obtain⟨_,_,_,_⟩:=h;unfold fuel;omega)
 rintro next ⟨data_0,i_10,k_13⟩ h hn
 dsimp only at h hn;obtain⟨h1,h2,h3,h4,h5,h6⟩:=h;unfold yF;dsimp only;rw[EY (n:=i_10-1) (by omega) (by omega)];refine E1.2 ⟨fun hc=>?_,fun hc=>E0.2 ⟨h5,h6⟩⟩;have hc:=A8 hc;have hw:i64.wrap (k_13+1)=k_13+1:=EY (by omega) (by omega);rw[hw];refine D_.2 (FF.2 ⟨⟨by omega,by omega⟩,?_⟩);refine D_.2 (FF.2 ⟨⟨by omega,by omega⟩,?_⟩);refine D_.2 (FF.2 ⟨⟨by omega,by omega⟩,?_⟩);refine D_.2 (FF.2 ⟨⟨by omega,by rw[AF];omega⟩,?_⟩);refine hn _ ⟨h1,by simp only[AF];omega,by dsimp only;omega,by simp only[AF];omega,by simp only[AF];omega,fun q hq=>?_⟩ (by dsimp only;omega);rcases EG hq with hq|rfl
 ·rcases EG hq with hq|rfl
  ·exact h6 q hq
  ·exact h6 _ (EF (by omega))
 ·exact h6 _ (EF (by omega))
theorem ALF(slf:(List E8)×Int×Int×Int×GZ->Option (List E8))(x:(List E8)×Int×Int)(h:0<=x.2.1/\x.2.2<x.1.length/\x.1.length<=1048576):
 Tot (lJ slf x) (fun r:List E8=>r.length=x.1.length/\∀q∈r,q∈x.1):=by
 refine F3 (R:=fun r:List E8=>r.length=x.1.length/\∀q∈r,q∈x.1) (fun y:(List E8)×Int×Int=>0<=y.2.1/\y.2.2<y.1.length/\y.1.length<=1048576/\y.1.length=x.1.length/\∀q∈y.1,q∈x.1)
  (fun y=>(y.2.2-y.2.1).toNat) ?_ _ _ ⟨h.1,h.2.1,h.2.2,rfl,fun q hq=>hq⟩ (by obtain⟨_,_,_⟩:=h;unfold fuel;omega)
 rintro next ⟨data_0,i_14,k_17⟩ h hn
 dsimp only at h hn;obtain⟨h1,h2,h4,h5,h6⟩:=h;unfold yH;dsimp only;refine E1.2 ⟨fun hc=>?_,fun hc=>E0.2 ⟨h5,h6⟩⟩;have hc:=A8 hc;have hw:i64.wrap (k_17-1)=k_17-1:=EY (by omega) (by omega);rw[hw];refine D_.2 (FF.2 ⟨⟨by omega,by omega⟩,?_⟩);refine D_.2 (FF.2 ⟨⟨by omega,by omega⟩,?_⟩);refine D_.2 (FF.2 ⟨⟨by omega,by omega⟩,?_⟩);refine D_.2 (FF.2 ⟨⟨by omega,by rw[AF];omega⟩,?_⟩);refine hn _ ⟨h1,by simp only[AF];omega,by simp only[AF];omega,by simp only[AF];omega,fun q hq=>?_⟩ (by dsimp only;omega);rcases EG hq with hq|rfl
 ·rcases EG hq with hq|rfl
  ·exact h6 q hq
  ·exact h6 _ (EF (by omega))
 ·exact h6 _ (EF (by omega))
theorem ALG(slf:(List E8)×Int×Int×Int×GZ->Option (List E8))(x:(List E8)×Int×GZ×Int×Int)(h:(∀p,Tot (x.2.2.1 p) fun _=>True)/\0<=x.2.1/\x.2.1<x.1.length/\0<=x.2.2.2.1/\x.2.2.2.1<=x.2.2.2.2/\x.2.2.2.2<=x.1.length/\x.1.length<=1048576):
 Tot (lI slf x) (fun r:(List E8)×Int=>r.1=x.1/\x.2.2.2.1<=r.2/\r.2<=x.2.2.2.2):=by
 refine F3 (R:=fun r:(List E8)×Int=>r.1=x.1/\x.2.2.2.1<=r.2/\r.2<=x.2.2.2.2) (fun y:(List E8)×Int×GZ×Int×Int=>(∀p,Tot (y.2.2.1 p) fun _=>True)/\0<=y.2.1/\y.2.1<y.1.length/\0<=y.2.2.2.1/\y.2.2.2.1<=y.2.2.2.2/\y.2.2.2.2<=y.1.length/\y.1.length<=1048576/\y.1=x.1/\x.2.2.2.1<=y.2.2.2.1/\y.2.2.2.2<=x.2.2.2.2)
  (fun y=>(y.2.2.2.2-y.2.2.2.1).toNat) ?_ _ _ ⟨h.1,h.2.1,h.2.2.1,h.2.2.2.1,h.2.2.2.2.1,h.2.2.2.2.2.1,h.2.2.2.2.2.2,rfl,B7 _,B7 _⟩ (by obtain⟨_,_,_,_,_,_,_⟩:=h;unfold fuel;omega)
 rintro next ⟨data_0,m_2,cmp_4,i_14,j_15⟩ h hn
 dsimp only at h hn;obtain⟨h0,h1,h2,h3,h4,h5,h6,h7,h8,h9⟩:=h;unfold yG;dsimp only;refine E1.2 ⟨fun hc=>?_,fun hc=>E0.2 ⟨h7,h8,by dsimp only;omega⟩⟩;have hc:=A8 hc;refine D_.2 (NR (by omega) (by omega) (by omega) (by omega) ?_);have hw1:i64.wrap ((i_14+j_15) / 2)=(i_14+j_15) / 2:=EY (by omega) (by omega);have hw2:i64.wrap ((i_14+j_15) / 2+1)=(i_14+j_15) / 2+1:=EY (by omega) (by omega);rw[hw1,hw2];refine D_.2 (FF.2 ⟨⟨by omega,by omega⟩,?_⟩);refine D_.2 (FF.2 ⟨⟨by omega,by omega⟩,?_⟩);refine D_.2 ((h0 _).mono fun r13 _=>?_);refine E1.2 ⟨fun _=>?_,fun _=>?_⟩
 ·exact hn _ ⟨h0,h1,h2,by dsimp only;omega,by dsimp only;omega,h5,h6,h7,by dsimp only;omega,h9⟩ (by dsimp only;omega)
 ·exact hn _ ⟨h0,h1,h2,h3,by dsimp only;omega,by dsimp only;omega,h6,h7,h8,by dsimp only;omega⟩ (by dsimp only;omega)
theorem ALH(slf:(List E8)×Int×Int×Int×GZ->Option (List E8))(x:(List E8)×GZ×Int×Int×Int)(h:(∀p,Tot (x.2.1 p) fun _=>True)/\0<=x.2.2.1/\x.2.2.1<=x.2.2.2.1/\x.2.2.2.1<=x.1.length/\x.2.2.2.1-1<=x.2.2.2.2/\x.2.2.2.2-x.2.2.1<x.1.length/\x.1.length<=1048576):
 Tot (lK slf x) (fun r:(List E8)×Int=>r.1=x.1/\x.2.2.1<=r.2/\r.2<=x.2.2.2.1):=by
 refine F3 (R:=fun r:(List E8)×Int=>r.1=x.1/\x.2.2.1<=r.2/\r.2<=x.2.2.2.1) (fun y:(List E8)×GZ×Int×Int×Int=>(∀p,Tot (y.2.1 p) fun _=>True)/\0<=y.2.2.1/\y.2.2.1<=y.2.2.2.1/\y.2.2.2.1<=y.1.length/\y.2.2.2.1-1<=y.2.2.2.2/\y.2.2.2.2-y.2.2.1<y.1.length/\y.1.length<=1048576/\y.1=x.1/\x.2.2.1<=y.2.2.1/\y.2.2.2.1<=x.2.2.2.1)
  (fun y=>(y.2.2.2.1-y.2.2.1).toNat) ?_ _ _ ⟨h.1,h.2.1,h.2.2.1,h.2.2.2.1,h.2.2.2.2.1,h.2.2.2.2.2.1,h.2.2.2.2.2.2,rfl,B7 _,B7 _⟩ (by obtain⟨_,_,_,_,_,_,_⟩:=h;unfold fuel;omega)
 rintro next ⟨data_0,cmp_4,start_20,r_21,p_22⟩ h hn
 dsimp only at h hn;obtain⟨h0,h1,h2,h3,h4,h5,h6,h7,h8,h9⟩:=h;unfold yI;dsimp only;refine E1.2 ⟨fun hc=>?_,fun hc=>E0.2 ⟨h7,h8,by dsimp only;omega⟩⟩;have hc:=A8 hc;refine D_.2 (NR (by omega) (by omega) (by omega) (by omega) ?_);have hw1:i64.wrap ((start_20+r_21) / 2)=(start_20+r_21) / 2:=EY (by omega) (by omega);have hw2:i64.wrap ((start_20+r_21) / 2+1)=(start_20+r_21) / 2+1:=EY (by omega) (by omega);have hw3:i64.wrap (p_22-(start_20+r_21) / 2)=p_22-(start_20+r_21) / 2:=EY (by omega) (by omega);rw[hw1,hw2,hw3];refine D_.2 (FF.2 ⟨⟨by omega,by omega⟩,?_⟩);refine D_.2 (FF.2 ⟨⟨by omega,by omega⟩,?_⟩);refine D_.2 ((h0 _).mono fun r4 _=>?_);refine E1.2 ⟨fun _=>?_,fun _=>?_⟩
 ·exact hn _ ⟨h0,by dsimp only;omega,by dsimp only;omega,h3,h4,by dsimp only;omega,h6,h7,by dsimp only;omega,h9⟩ (by dsimp only;omega)
 ·exact hn _ ⟨h0,h1,by dsimp only;omega,by dsimp only;omega,by dsimp only;omega,h5,h6,h7,h8,by dsimp only;omega⟩ (by dsimp only;omega)
theorem ALI(slf:(List E8)×Int×Int×Int×GZ->Option (List E8))(x:(List E8)×Int×GZ×Int×Int×Bool)(h:x.1.length<=1048576/\(x.2.2.2.2.2=true->0<=x.2.2.2.1/\x.2.2.2.1<x.2.1/\x.2.1<x.2.2.2.2.1/\x.2.2.2.2.1<=x.1.length)):
 Tot (aP slf x) (fun r:List E8=>r.length=x.1.length/\∀q∈r,q∈x.1):=by
 obtain⟨data_0,m_2,cmp_4,start_20,end_24,t185⟩:=x;dsimp only at h;unfold aP;dsimp only;refine E1.2 ⟨fun hc=>?_,fun _=>E0.2 ⟨rfl,fun q hq=>hq⟩⟩;obtain⟨h1,h2,h3,h4⟩:=h.2 hc;exact D_.2 ((ALC _ ⟨h1,h2,h3,h4,h.1⟩).mono fun r hr=>E0.2 hr)
theorem ALJ(slf:(List E8)×Int×Int×Int×GZ->Option (List E8))(K:Int)(ih:∀y:(List E8)×Int×Int×Int×GZ,((∀p,Tot (y.2.2.2.2 p) fun _=>True)/\0<=y.2.1/\y.2.1<y.2.2.1/\y.2.2.1<y.2.2.2.1/\y.2.2.2.1<=y.1.length/\y.1.length<=1048576)->y.2.2.2.1-y.2.1<=K->Tot (slf y) (fun r:List E8=>r.length=y.1.length/\∀q∈r,q∈y.1))(x:(List E8)×Int×Int×Int×GZ)(h:(∀p,Tot (x.2.2.2.2 p) fun _=>True)/\0<=x.2.1/\x.2.1<x.2.2.1/\x.2.2.1<x.2.2.2.1/\x.2.2.2.1<=x.1.length/\x.1.length<=1048576)(hK:x.2.2.2.1-x.2.1<=2*K):
 Tot (lL slf x) (fun r:List E8=>r.length=x.1.length/\∀q∈r,q∈x.1):=by
 obtain⟨data_0,a_1,m_2,b_3,cmp_4⟩:=x;dsimp only at h hK;obtain⟨h0,h1,h2,h3,h4,h5⟩:=h;unfold lL;dsimp only;rw[EY (n:=m_2-a_1) (by omega) (by omega),EY (n:=b_3-m_2) (by omega) (by omega)];refine E1.2 ⟨fun _=>?_,fun _=>E1.2 ⟨fun _=>?_,fun _=>?_⟩⟩
 ·refine D_.2 ((ALD slf _ ⟨h0,h1,by dsimp only;omega,by dsimp only;omega,by dsimp only;omega,h4,h5⟩).mono fun r5 hr=>?_);dsimp only at hr;obtain⟨e1,e2,e3⟩:=hr;refine D_.2 ((ALE slf _ ⟨by dsimp only;omega,by dsimp only;rw[e1];omega,h1,by dsimp only;rw[e1];exact h5⟩).mono fun r9 hr=>E0.2 ?_);dsimp only at hr;rw[e1]at hr;exact hr
 ·refine D_.2 ((ALG slf _ ⟨h0,by dsimp only;omega,by dsimp only;omega,h1,by dsimp only;omega,by dsimp only;omega,h5⟩).mono fun r5 hr=>?_);dsimp only at hr;obtain⟨e1,e2,e3⟩:=hr;refine D_.2 ((ALF slf _ ⟨by dsimp only;omega,by dsimp only;rw[e1];omega,by dsimp only;rw[e1];exact h5⟩).mono fun r9 hr=>E0.2 ?_);dsimp only at hr;rw[e1]at hr;exact hr
 ·refine D_.2 (NR (by omega) (by omega) (by omega) (by omega) ?_);generalize hmid:(a_1+b_3) / 2=mid;rw[EY (n:=mid) (by omega) (by omega),EY (n:=mid+m_2) (by omega) (by omega),EY (n:=mid+m_2-1) (by omega) (by omega)]
  have hp:Tot (aO slf (a_1,m_2,b_3,mid,mid+m_2,decide (mid<m_2))) fun r:Int×Int=>0<=r.1/\a_1<=r.1/\mid+m_2-b_3<=r.1/\r.1<=r.2/\r.2<=m_2/\r.2<=mid+m_2/\mid+m_2-1-r.1<data_0.length:=by
   unfold aO;dsimp only;refine E1.2 ⟨fun hc=>E0.2 ?_,fun hc=>E0.2 ?_⟩
   ·have hc:=A8 hc;rw[EY (by omega) (by omega)];dsimp only;omega
   ·have hc:=AG hc;dsimp only;omega
  refine D_.2 (hp.mono fun r20 hr=>?_);obtain⟨f1,f2,f3,f4,f5,f6,f7⟩:=hr;refine D_.2 ((ALH slf _ ⟨h0,f1,f4,by dsimp only;omega,by dsimp only;omega,f7,h5⟩).mono fun r26 hr=>?_);dsimp only at hr;obtain⟨e1,e2,e3⟩:=hr;rw[EY (n:=mid+m_2-r26.2) (by omega) (by omega)];refine D_.2 ((ALI slf _ ⟨by dsimp only;rw[e1];exact h5,fun hc=>?_⟩).mono fun r29 hr=>?_)
  ·dsimp only at hc ⊢;rw[A5,AS,AS]at hc;rw[e1];omega
  dsimp only at hr;rw[e1]at hr;obtain⟨g1,g2⟩:=hr
  have hq:Tot (aQ slf (r29,a_1,cmp_4,mid,r26.2,decide (a_1<r26.2)&&decide (r26.2<mid))) fun r:List E8=>r.length=data_0.length/\∀q∈r,q∈data_0:=by
   unfold aQ;dsimp only;refine E1.2 ⟨fun hc=>?_,fun _=>E0.2 ⟨g1,g2⟩⟩;rw[A5,AS,AS]at hc;refine D_.2 ((ih _ ⟨h0,h1,by dsimp only;omega,by dsimp only;omega,by dsimp only;omega,by dsimp only;omega⟩ (by dsimp only;omega)).mono fun r31 hr=>E0.2 ?_);dsimp only at hr;exact⟨by omega,fun q hq=>g2 q (hr.2 q hq)⟩
  refine D_.2 (hq.mono fun r32 hr=>?_);obtain⟨k1,k2⟩:=hr;refine E1.2 ⟨fun hc=>?_,fun _=>E0.2 ⟨k1,k2⟩⟩;rw[A5,AS,AS]at hc;refine D_.2 ((ih _ ⟨h0,by dsimp only;omega,by dsimp only;omega,by dsimp only;omega,by dsimp only;omega,by dsimp only;omega⟩ (by dsimp only;omega)).mono fun r34 hr=>E0.2 ?_);dsimp only at hr;exact⟨by omega,fun q hq=>k2 q (hr.2 q hq)⟩
theorem ALK:∀(n:Nat) (x:(List E8)×Int×Int×Int×GZ) (h:(∀p,Tot (x.2.2.2.2 p) fun _=>True)/\0<=x.2.1/\x.2.1<x.2.2.1/\x.2.2.1<x.2.2.2.1/\x.2.2.2.1<=x.1.length/\x.1.length<=1048576) (hK:x.2.2.2.1-x.2.1<=2 ^ n),Tot (K9 n x) (fun r:List E8=>r.length=x.1.length/\∀q∈r,q∈x.1):=by
 intro n;induction n with
 |zero=>
  intro x h hK;obtain⟨_,h1,h2,h3,_,_⟩:=h;rw[Int.pow_zero]at hK;omega
 |succ n ih=>
  intro x h hK;refine ALJ (K9 n) (2 ^ n) (fun y hy hk=>ih y hy hk) x h ?_;rw[Int.pow_succ]at hK;omega
theorem A56(x:(List E8)×Int×Int×Int×GZ)(h:(∀p,Tot (x.2.2.2.2 p) fun _=>True)/\0<=x.2.1/\x.2.1<x.2.2.1/\x.2.2.1<x.2.2.2.1/\x.2.2.2.1<=x.1.length/\x.1.length<=1048576):Tot (UO x) (fun r:List E8=>r.length=x.1.length/\∀q∈r,q∈x.1):=by
 unfold UO;refine ALK 100 x h ?_;obtain⟨_,h1,h2,h3,h4,h5⟩:=h;have:(1048576:Int)<=2 ^ 100:=by decide
 omega
theorem qH:∀(x y:DZ),Op.bytesLess x y=decide (x<y):=by
 intro x;induction x with
 |nil=>intro y;cases y<;>simp[Op.bytesLess]
 |cons a x ih=>
  intro y;cases y with
  |nil=>simp[Op.bytesLess]
  |cons b y=>
   rw[Op.bytesLess,ih y];simp only[List.cons_lt_cons_iff];by_cases h1:a<b<;>by_cases h2:a=b<;>by_cases h3:x<y<;>simp[h1,h2,h3]
theorem I4(a:DZ):¬a<a:=List.lt_irrefl a
theorem NT{a b c:DZ}(h1:a<b)(h2:b<c):a<c:=List.lt_trans h1 h2
theorem VC(a b:DZ):a<b\/a=b\/b<a:=by
 by_cases h1:a<b
 ·exact Or.inl h1
 ·by_cases h2:b<a
  ·exact Or.inr (Or.inr h2)
  ·exact Or.inr (Or.inl (List.le_antisymm (List.not_lt.1 h2) (List.not_lt.1 h1)))
theorem ALL{a b c:DZ}(h1:¬a<b)(h2:¬b<c):¬a<c:=by
 intro h;rcases VC a b with h3|h3|h3
 ·exact h1 h3
 ·subst h3;exact h2 h
 ·exact h2 (NT h3 h)
theorem dF{a b:DZ}(h1:a<b):¬b<a:=fun h2=>I4 a (NT h1 h2)
def JQ(a b:DZ):Int:=if a<b then -1 else if a=b then 0 else 1
theorem A57(a b:DZ):L_ (a,b)=some (JQ a b):=by
 unfold L_ QR JQ;have e:∀s:DZ,EN s s=true:=fun s=>by rw[E6];simp
 simp only[e,BU,A1,AD,qH,E6];by_cases h2:a=b
 ·subst h2;simp[I4]
 ·by_cases h1:a<b<;>simp[h1,h2]
theorem ALM(a b:DZ):JQ a b<0<->a<b:=by
 unfold JQ;by_cases h2:a=b
 ·subst h2;simp[I4]
 ·by_cases h1:a<b<;>simp[h1,h2]
def dG(a b:Int):Int:=if a<b then -1 else if b<a then 1 else 0
theorem A58(a b:Int):QX (a,b)=some (dG a b):=by
 unfold QX ZW dG;have e:∀s:Int,E4 s s=true:=fun s=>by rw[E2];simp
 simp only[e,BU,A1,AD];by_cases h1:a<b<;>by_cases h2:b<a<;>simp[h1,h2]
section
variable{T:Type}
theorem ALN(xs:List T)(F:T×T->Option Int)(h:TR xs F):Tot (OJ xs F) (fun r=>r.Perm xs/\r.Pairwise (fun a b=>∀c,F (b,a)=some c->0<=c)):=by
 unfold OJ;split
 ·rename_i h0;unfold HQ;rw[A6 h];refine E0.2 ?_
  letI:Inhabited (Fin xs.length):=⟨⟨0,h0⟩⟩
  have hs:Sort.SWO (IB xs F):=⟨h.2.1,h.2.2.1,h.2.2.2⟩;have hp:=Sort.pdq_sorts (IB xs F) hs (Array.ofFn id) 0 xs.length (Lib.bitLen xs.length) true true (BQ _) (by simp) (Or.inl rfl);have e:J9 xs F h0=Sort.pdq (IB xs F) (Array.ofFn id) 0 xs.length (Lib.bitLen xs.length) true true:=v_ xs F h0;rw[e];generalize Sort.pdq (IB xs F) (Array.ofFn id) 0 xs.length (Lib.bitLen xs.length) true true=d at hp;obtain⟨⟨h1,_,h3⟩,h4⟩:=hp;have hsz:d.size=xs.length:=by rw[h1];simp
  have e1:d.extract 0 xs.length=d:=by
   have:=Array.extract_size (xs:=d);rwa[hsz]at this
  have e2:(Array.ofFn (id:Fin xs.length->Fin xs.length)).extract 0 xs.length=Array.ofFn id:=by
   have:=Array.extract_size (xs:=Array.ofFn (id:Fin xs.length->Fin xs.length));rwa[Array.size_ofFn]at this
  rw[e1,e2]at h3;constructor
  ·have h5:=h3.map xs.get
   have e3:(Array.ofFn (id:Fin xs.length->Fin xs.length)).toList.map xs.get=xs:=by
    rw[Array.toList_ofFn,List.map_ofFn];apply List.ext_getElem
    ·simp
    ·intro i h1 h2;simp
   rwa[e3]at h5
  ·rw[List.pairwise_map,CI];intro i j hi hj hij c hc;have hl:d.toList.length=xs.length:=by rw[BX];exact hsz
   have h6:=h4 i j (BQ _) hij (by omega);rw[getElem!_pos d i (by omega),getElem!_pos d j (by omega)]at h6;unfold IB MJ at h6;rw[Array.getElem_toList,Array.getElem_toList]at hc;rw[hc]at h6;simpa using h6
 ·rename_i h0;have:xs=[]:=CX.1 (by omega);subst this;exact E0.2 ⟨List.Perm.refl _,List.Pairwise.nil⟩
end
abbrev Edge:=Int×DZ×Bool×DZ
abbrev HG:=Edge×Edge
def eo(a b:Edge):Int:=if a.1≠b.1\/a.1≠0 then dG a.1 b.1 else if JQ a.2.1 b.2.1≠0\/a.2.2.1=b.2.2.1 then JQ a.2.1 b.2.1 else if a.2.2.1 then 1 else -1
theorem A59(a b:Edge):KS (a,b)=some (eo a b):=by
 unfold KS eo;dsimp only;rw[A58,A57];simp only[A1,E2];by_cases h1:a.1=b.1
 ·by_cases h2:a.1=0
  ·have hb:HU a.2.2.1 b.2.2.1=decide (a.2.2.1=b.2.2.1):=by cases a.2.2.1<;>cases b.2.2.1<;>rfl
   rw[hb];by_cases h3:JQ a.2.1 b.2.1=0<;>by_cases h4:a.2.2.1=b.2.2.1<;>simp[<-h1,h2,h3,h4]<;>(cases a.2.2.1<;>simp)
  ·simp[<-h1,h2]
 ·simp[h1]
def JC(a b:Edge):Prop:=a.1<b.1\/(a.1=b.1/\a.1=0/\(a.2.1<b.2.1\/(a.2.1=b.2.1/\a.2.2.1=false/\b.2.2.1=true)))
theorem A5A(a b:Edge):eo a b<0<->JC a b:=by
 unfold eo JC dG;by_cases h1:a.1=b.1
 ·by_cases h2:a.1=0
  ·have hb:b.1=0:=by omega
   have g1:¬(a.1≠b.1\/a.1≠0):=by omega
   rw[if_neg g1];rcases VC a.2.1 b.2.1 with h3|h3|h3
   ·have:JQ a.2.1 b.2.1= -1:=by unfold JQ;rw[if_pos h3]
    rw[this];simp[h1,hb,h3]
   ·have:JQ a.2.1 b.2.1=0:=by unfold JQ;rw[if_neg (by rw[h3];exact I4 _),if_pos h3]
    rw[this,h3];cases ha:a.2.2.1<;>cases hb':b.2.2.1<;>simp[h1,hb,I4]
   ·have e:¬a.2.1=b.2.1:=fun e=>by rw[e]at h3;exact I4 _ h3
    have:JQ a.2.1 b.2.1=1:=by unfold JQ;rw[if_neg (dF h3),if_neg e]
    rw[this];simp[h1,hb,dF h3,e]
  ·have hb:¬b.1=0:=by omega
   simp[h1,hb]
 ·simp only[ne_eq,h1,not_false_eq_true,true_or,if_true,DU,or_false];by_cases h2:a.1<b.1
  ·simp[h2]
  ·by_cases h3:b.1<a.1
   ·simp[h2,h3]
   ·omega
instance(a b:Edge):Decidable (JC a b):=by unfold JC;infer_instance
theorem ALO(a:Edge):¬JC a a:=by
 rintro(h|⟨_,_,h|⟨_,h1,h2⟩⟩)
 ·omega
 ·exact I4 _ h
 ·rw[h1]at h2;cases h2
theorem ALP{a b c:Edge}(h1:JC a b)(h2:JC b c):JC a c:=by
 unfold JC at *;rcases h1 with h1|⟨p1,p2,p3⟩
 ·rcases h2 with h2|⟨q1,q2,q3⟩<;>exact Or.inl (by omega)
 ·rcases h2 with h2|⟨q1,q2,q3⟩
  ·exact Or.inl (by omega)
  ·refine Or.inr ⟨by omega,p2,?_⟩;rcases p3 with p3|⟨p3,p4,p5⟩
   ·rcases q3 with q3|⟨q3,q4,q5⟩
    ·exact Or.inl (NT p3 q3)
    ·exact Or.inl (q3▸p3)
   ·rcases q3 with q3|⟨q3,q4,q5⟩
    ·exact Or.inl (p3▸q3)
    ·rw[p5]at q4;cases q4
theorem ALQ{a b c:Edge}(h1:¬JC a b)(h2:¬JC b c):¬JC a c:=by
 intro h;unfold JC at *;simp only[not_or,not_and]at h1 h2;obtain⟨a1,a2⟩:=h1;obtain⟨b1,b2⟩:=h2;rcases h with h|⟨p1,p2,p3⟩
 ·omega
 ·have e1:a.1=b.1:=by omega
  have e2:b.1=c.1:=by omega
  obtain⟨a3,a4⟩:=a2 e1 p2;obtain⟨b3,b4⟩:=b2 e2 (by omega);rcases p3 with p3|⟨p3,p4,p5⟩
  ·exact ALL a3 b3 p3
  ·rcases VC a.2.1 b.2.1 with g|g|g
   ·exact a3 g
   ·have g2:b.2.1=c.2.1:=g▸p3;have:=a4 g p4;have:=b4 g2 (by cases hb:b.2.2.1<;>simp_all);exact this p5
   ·exact b3 (p3▸g)
theorem ALR(xs:List HG):Tot (iK (xs,fun x=>(MU x).bind fun r=>some r)) (fun r=>r.Perm xs/\r.Pairwise fun a b=>¬JC b.1 a.1):=by
 have hF:∀a b:HG,(MU (a,b)).bind (fun r=>some r)=some (eo a.1 b.1):=by
  intro a b;unfold MU;dsimp only;rw[A59];rfl
 have e:∀i j,IB xs (fun x=>(MU x).bind fun r=>some r) i j=decide (JC (xs.get i).1 (xs.get j).1):=by
  intro i j;unfold IB MJ;show decide ((((MU (xs.get i,xs.get j)).bind fun r=>some r).getD 0)<0)=_;rw[hF];simp only[DF];exact decide_eq_decide.2 (A5A _ _)
 have hs:TR xs (fun x=>(MU x).bind fun r=>some r):=by
  refine⟨fun i j=>by show((MU (xs.get i,xs.get j)).bind fun r=>some r).isSome=true;rw[hF];rfl,fun i=>?_,fun i j k=>?_,fun i j k=>?_⟩
  ·rw[e];simp[ALO]
  ·rw[e,e,e];simp only[AS];exact ALP
  ·rw[e,e,e];simp only[DH];exact ALQ
 refine(ALN xs _ hs).mono fun r hr=>⟨hr.1,hr.2.imp fun {a b} h hlt=>?_⟩;have:=h _ (hF b a);have:=(A5A b.1 a.1).2 hlt;omega
abbrev Af:=DZ×Int×H_×(List DZ)×(List DZ)
abbrev KU:=DZ×(List DZ)×DZ×Int×Bool×DZ×(List Af)
abbrev Bnd:=Bool×Bool×DZ
abbrev RR:=Bnd×Bnd
def N4(a:Af):Prop:=a.1.length<=1048576/\a.2.2.1.length<=1048576/\(∀v∈a.2.2.1,v.2.length<=1048576)/\a.2.2.2.1.length<=1048576/\(∀s∈a.2.2.2.1,s.length<=1048576)/\a.2.2.2.2.length<=1048576/\(∀s∈a.2.2.2.2,s.length<=1048576)
def qI(a:Af):Prop:=a.2.2.1.length<=100/\(∀v∈a.2.2.1,1<=v.1/\v.1<=3)/\a.2.2.2.1.length<=500
def N5(a:KU):Prop:=a.1.length<=1048576/\a.2.1.length<=1048576/\(∀s∈a.2.1,s.length<=1048576)/\a.2.2.1.length<=1048576/\a.2.2.2.2.2.1.length<=1048576/\a.2.2.2.2.2.2.length<=1048576/\∀x∈a.2.2.2.2.2.2,N4 x
abbrev H7(s:RR):Prop:=s.1.2.2.length<=100/\s.2.2.2.length<=100
abbrev H1(s:HG):Prop:=s.1.2.2.2.length<=100/\s.2.2.2.2.length<=100
theorem N6{α:Type}{l:List α}{i:Nat}{x:α}(h:l[i]?=some x):x∈l:=AX h
theorem ALS(x:Int×Int)(h:True):Tot (QX x) fun _=>True:=⟨_,A58 x.1 x.2,trivial⟩
theorem P3(x:Edge×Edge)(h:True):Tot (KS x) fun _=>True:=⟨_,A59 x.1 x.2,trivial⟩
theorem dH(x:DZ)(h:x.length<=1048576):Tot (OO x) (fun r:Int×Bool=>0<=r.1/\r.1<=999999999999999999):=by
 unfold OO
 repeat' first
  |(with_reducible first|refine E1.2 ⟨fun _=>?_,fun _=>?_⟩|refine D_.2 ?_|refine E0.2 ?_|refine E_.2 ⟨?_,fun _ _=>?_⟩|refine(JP _ ?_).mono fun _ _=>?_)
  |dsimp only
 all_goals grind[EB,EA,EE,E6,E2,ED,EC,E9,EF,EG,EP,EJ,EQ,ER,ES,ET,EU]
theorem A5B(x:Int)(h:True):Tot (YR x) (fun r:Bool=>True):=by
 unfold YR
 repeat' first
  |(with_reducible first|refine E1.2 ⟨fun _=>?_,fun _=>?_⟩|refine D_.2 ?_|refine E0.2 ?_|refine(H0 _ ?_).mono fun _ _=>?_|refine(I3 _ ?_).mono fun _ _=>?_)
  |dsimp only
 all_goals grind[EB,EA,EE,E6,E2,ED,EC,E9,EF,EG,EP,EJ,EQ,ER,ES,ET,EU]
theorem ALT(x:(List DZ)×Int×Int)(h:0<=x.2.2/\x.2.2<=x.2.1/\x.2.1=x.1.length/\x.2.1<=281474976710656/\∀s∈x.1,s.length<=1000):Tot (jS x) (fun r:Sum (Unit) K7=>∀y,r=.inr y->y.1=[]/\y.2=false):=by
 refine F3 (R:=fun r:Sum (Unit) K7=>∀y,r=.inr y->y.1=[]/\y.2=false) (fun y:(List DZ)×Int×Int=>(0<=y.2.2/\y.2.2<=y.2.1/\y.2.1=y.1.length/\y.2.1<=281474976710656/\∀s∈y.1,s.length<=1000)) (fun y:(List DZ)×Int×Int=>(y.2.1-y.2.2).toNat) ?_ _ _ (by grind) (by unfold fuel;grind);rintro next ⟨t9,t10,t11⟩ h hn
 try dsimp only at h hn
 unfold x6
 repeat' first
  |(with_reducible first|refine E1.2 ⟨fun _=>?_,fun _=>?_⟩|refine D_.2 ?_|refine E0.2 ?_|refine E_.2 ⟨?_,fun _ _=>?_⟩|refine(A5B _ ?_).mono fun _ _=>?_|refine(LJ _ ?_ ?_).mono fun _ _=>?_)
  |exact fun c=>GR (H0 c trivial)
  |exact fun c=>GR (I3 c trivial)
  |exact fun c=>GR (A5B c trivial)
  |with_reducible refine hn _ ?_ ?_
  |dsimp only
 all_goals grind[EB,EA,EE,E6,E2,ED,EC,E9,EF,EG,EP,EJ,EQ,ER,ES,ET,EU]
theorem A5C(x:DZ)(h:x.length<=1000):Tot (U4 x) (fun r:(List DZ)×Bool=>LS r.1):=by
 unfold U4
 repeat' first
  |(with_reducible first|refine D_.2 ?_|refine E0.2 ?_|refine(A4n _ ?_).mono fun _ _=>?_|refine(ALT _ ?_).mono fun _ _=>?_)
  |split
  |dsimp only
 all_goals grind[EB,EA,EE,E6,E2,ED,EC,E9,EF,EG,EP,EJ,EQ,ER,ES,ET,EU]
theorem ALU(x:(List DZ)×Int×Int)(h:0<=x.2.2/\x.2.2<=x.2.1/\x.2.1=x.1.length/\x.2.1<=281474976710656/\∀s∈x.1,s.length<=1000):Tot (jT x) (fun r:Sum (Unit) K7=>∀y,r=.inr y->y.1=[]/\y.2=false):=by
 refine F3 (R:=fun r:Sum (Unit) K7=>∀y,r=.inr y->y.1=[]/\y.2=false) (fun y:(List DZ)×Int×Int=>(0<=y.2.2/\y.2.2<=y.2.1/\y.2.1=y.1.length/\y.2.1<=281474976710656/\∀s∈y.1,s.length<=1000)) (fun y:(List DZ)×Int×Int=>(y.2.1-y.2.2).toNat) ?_ _ _ (by grind) (by unfold fuel;grind);rintro next ⟨t15,t16,t17⟩ h hn
 try dsimp only at h hn
 unfold x7
 repeat' first
  |(with_reducible first|refine E1.2 ⟨fun _=>?_,fun _=>?_⟩|refine D_.2 ?_|refine E0.2 ?_|refine E_.2 ⟨?_,fun _ _=>?_⟩|refine(H0 _ ?_).mono fun _ _=>?_|refine(dH _ ?_).mono fun _ _=>?_|refine(LJ _ ?_ ?_).mono fun _ _=>?_)
  |exact fun c=>GR (H0 c trivial)
  |exact fun c=>GR (I3 c trivial)
  |with_reducible refine hn _ ?_ ?_
  |dsimp only
 all_goals grind[EB,EA,EE,E6,E2,ED,EC,E9,EF,EG,EP,EJ,EQ,ER,ES,ET,EU]
theorem ALV(x:DZ)(h:x.length<=1000):Tot (YS x) (fun r:(List DZ)×Bool=>LS r.1):=by
 unfold YS
 repeat' first
  |(with_reducible first|refine D_.2 ?_|refine E0.2 ?_|refine(A5C _ ?_).mono fun _ _=>?_|refine(ALU _ ?_).mono fun _ _=>?_)
  |split
  |dsimp only
 all_goals grind[EB,EA,EE,E6,E2,ED,EC,E9,EF,EG,EP,EJ,EQ,ER,ES,ET,EU]
theorem ALW(x:DZ)(h:x.length<=1000):Tot (YT x) (fun r:(List DZ)×Bool=>LS r.1):=by
 unfold YT
 repeat' first
  |(with_reducible first|refine E1.2 ⟨fun _=>?_,fun _=>?_⟩|refine D_.2 ?_|refine E0.2 ?_|refine E_.2 ⟨?_,fun _ _=>?_⟩|refine H4.2 ⟨?_,?_⟩|refine(A51 _ ?_).mono fun _ _=>?_|refine(A5C _ ?_).mono fun _ _=>?_|refine(ALV _ ?_).mono fun _ _=>?_)
  |dsimp only
 all_goals grind[EB,EA,EE,E6,E2,ED,EC,E9,EF,EG,EP,EJ,EQ,ER,ES,ET,EU]
theorem ALX(x:DZ×Int×Bool)(h:0<=x.2.1/\x.2.1<=x.1.length/\x.1.length<=1000):Tot (YU x) (fun r:Sum (Int) (GV×Bool)=>(∀y,r=.inl y->0<=y/\y<=x.1.length)/\∀y,r=.inr y->y.2=false):=by
 obtain⟨s_0,at_5,t16⟩:=x;try dsimp only at h ⊢
 unfold YU
 repeat' first
  |(with_reducible first|refine E1.2 ⟨fun _=>?_,fun _=>?_⟩|refine D_.2 ?_|refine E0.2 ?_|refine E_.2 ⟨?_,fun _ _=>?_⟩)
  |dsimp only
 all_goals grind[EB,EA,EE,E6,E2,ED,EC,E9,EF,EG,EP,EJ,EQ,ER,ES,ET,EU]
theorem ALY(x:DZ×LE×Int×Int)(h:0<=x.2.2.2/\x.2.2.2<=3/\0<=x.2.2.1/\x.2.2.1<=x.1.length/\x.1.length<=1000/\x.2.1.1.length=3/\(∀n∈x.2.1.1,0<=n/\n<=999999999999999999)):Tot (jU x) (fun r:Sum (LE×Int) (GV×Bool)=>(∀y,r=.inl y->y.1.1.length=3/\(∀n∈y.1.1,0<=n/\n<=999999999999999999)/\0<=y.2/\y.2<=x.1.length)/\∀y,r=.inr y->y.2=false):=by
 refine F3 (R:=fun r:Sum (LE×Int) (GV×Bool)=>(∀y,r=.inl y->y.1.1.length=3/\(∀n∈y.1.1,0<=n/\n<=999999999999999999)/\0<=y.2/\y.2<=x.1.length)/\∀y,r=.inr y->y.2=false) (fun y:DZ×LE×Int×Int=>(0<=y.2.2.2/\y.2.2.2<=3/\0<=y.2.2.1/\y.2.2.1<=y.1.length/\y.1.length<=1000/\y.2.1.1.length=3/\(∀n∈y.2.1.1,0<=n/\n<=999999999999999999))/\y.1=x.1) (fun y:DZ×LE×Int×Int=>(3-y.2.2.2).toNat) ?_ _ _ (by grind) (by unfold fuel;grind);rintro next ⟨s_0,v_4,at_5,t12⟩ h hn
 try dsimp only at h hn
 unfold x8
 repeat' first
  |(with_reducible first|refine E1.2 ⟨fun _=>?_,fun _=>?_⟩|refine D_.2 ?_|refine E0.2 ?_|refine FF.2 ⟨?_,?_⟩|refine H4.2 ⟨?_,?_⟩|refine(ALX _ ?_).mono fun _ _=>?_|refine(H0 _ ?_).mono fun _ _=>?_|refine(dH _ ?_).mono fun _ _=>?_|refine(LJ _ ?_ ?_).mono fun _ _=>?_)
  |exact fun c=>GR (H0 c trivial)
  |exact fun c=>GR (I3 c trivial)
  |with_reducible refine hn _ ?_ ?_
  |split
  |dsimp only
 all_goals grind[EB,EA,EE,E6,E2,ED,EC,E9,EF,EG,EP,EJ,EQ,ER,ES,ET,EU]
theorem ALZ(x:DZ)(h:x.length<=1000):Tot (YV x) (fun r:GV×Bool=>r.2=true->J2 r.1):=by
 unfold YV
 repeat' first
  |(with_reducible first|refine D_.2 ?_|refine E0.2 ?_|refine H4.2 ⟨?_,?_⟩|refine(ALY _ ?_).mono fun _ _=>?_|refine(ALW _ ?_).mono fun _ _=>?_)
  |split
  |dsimp only
 all_goals grind[EB,EA,EE,E6,E2,ED,EC,E9,EF,EG,EP,EJ,EQ,ER,ES,ET,EU,AKz]
theorem A5D(x:Int)(h:True):Tot (YW x) (fun r:Bool=>True):=by
 unfold YW
 repeat' first
  |(with_reducible first|refine E1.2 ⟨fun _=>?_,fun _=>?_⟩|refine D_.2 ?_|refine E0.2 ?_|refine(H0 _ ?_).mono fun _ _=>?_|refine(I3 _ ?_).mono fun _ _=>?_|refine(P0 _ ?_).mono fun _ _=>?_)
  |dsimp only
 all_goals grind[EB,EA,EE,E6,E2,ED,EC,E9,EF,EG,EP,EJ,EQ,ER,ES,ET,EU]
theorem AL_(x:DZ×Int)(h:0<=x.2/\x.2<=x.1.length/\x.1.length<=1000):Tot (jV x) (fun r:Sum (Unit) (Bool)=>True):=by
 refine F3 (R:=fun r:Sum (Unit) (Bool)=>True) (fun y:DZ×Int=>(0<=y.2/\y.2<=y.1.length/\y.1.length<=1000)/\y.1=x.1) (fun y:DZ×Int=>(y.1.length-y.2:Int).toNat) ?_ _ _ (by grind) (by unfold fuel;grind);rintro next ⟨s_0,at_3⟩ h hn
 try dsimp only at h hn
 unfold x9
 repeat' first
  |(with_reducible first|refine E1.2 ⟨fun _=>?_,fun _=>?_⟩|refine D_.2 ?_|refine E0.2 ?_|refine(H0 _ ?_).mono fun _ _=>?_|refine(LJ _ ?_ ?_).mono fun _ _=>?_)
  |exact fun c=>GR (H0 c trivial)
  |exact fun c=>GR (I3 c trivial)
  |with_reducible refine hn _ ?_ ?_
  |dsimp only
 all_goals grind[EB,EA,EE,E6,E2,ED,EC,E9,EF,EG,EP,EJ,EQ,ER,ES,ET,EU,ST]
theorem ALa(x:DZ)(h:x.length<=1000):Tot (YX x) (fun r:Bool=>True):=by
 unfold YX
 repeat' first
  |(with_reducible first|refine D_.2 ?_|refine E0.2 ?_|refine(AL_ _ ?_).mono fun _ _=>?_)
  |split
  |dsimp only
 all_goals grind[EB,EA,EE,E6,E2,ED,EC,E9,EF,EG,EP,EJ,EQ,ER,ES,ET,EU]
theorem ALb(x:DZ×KQ×DZ×DZ×Bool)(h:x.1.length<=1000/\x.2.2.2.1.length<=1000/\x.2.2.1.length<=1000/\x.2.1.1=0):Tot (YY x) (fun r:Sum (DZ×KQ) (GV×Bool)=>(∀y,r=.inl y->y.1.length<=1000/\0<=y.2.1/\y.2.1<=999999999999999999/\y.2.2=x.2.1.2)/\∀y,r=.inr y->y.2=false):=by
 obtain⟨s_0,v_4,epoch_5,rest_6,t18⟩:=x;try dsimp only at h ⊢
 unfold YY
 repeat' first
  |(with_reducible first|refine E1.2 ⟨fun _=>?_,fun _=>?_⟩|refine D_.2 ?_|refine E0.2 ?_|refine(dH _ ?_).mono fun _ _=>?_)
  |dsimp only
 all_goals grind[EB,EA,EE,E6,E2,ED,EC,E9,EF,EG,EP,EJ,EQ,ER,ES,ET,EU]
set_option maxHeartbeats 4000000 in
theorem ALc(x:DZ)(h:x.length<=1000):Tot (YZ x) (fun r:GV×Bool=>r.2=true->J2 r.1):=by
 unfold YZ
 repeat' first
  |(with_reducible first|refine E1.2 ⟨fun _=>?_,fun _=>?_⟩|refine D_.2 ?_|refine E0.2 ?_|refine E_.2 ⟨?_,fun _ _=>?_⟩|refine H4.2 ⟨?_,?_⟩|refine(A51 _ ?_).mono fun _ _=>?_|refine(ALb _ ?_).mono fun _ _=>?_|refine(H0 _ ?_).mono fun _ _=>?_|refine(A5D _ ?_).mono fun _ _=>?_|refine(ALa _ ?_).mono fun _ _=>?_|refine(AKn _ ?_).mono fun _ _=>?_|refine(P0 _ ?_).mono fun _ _=>?_|refine(LJ _ ?_ ?_).mono fun _ _=>?_)
  |exact fun c=>GR (H0 c trivial)
  |exact fun c=>GR (I3 c trivial)
  |exact fun c=>GR (A5D c trivial)
  |split
  |dsimp only
 all_goals grind[EB,EA,EE,E6,E2,ED,EC,E9,EF,EG,EP,EJ,EQ,ER,ES,ET,EU,AL0]
theorem ALd(x:DZ×(List Int))(h:x.1.length<=1000/\x.2.length+x.1.length<=1001/\(∀n∈x.2,0<=n/\n<=999999999999999999)):Tot (jW x) (fun r:(List Int)×DZ×Bool=>NS r.1/\r.2.1.length<=1000):=by
 refine F3 (R:=fun r:(List Int)×DZ×Bool=>NS r.1/\r.2.1.length<=1000) (fun y:DZ×(List Int)=>(y.1.length<=1000/\y.2.length+y.1.length<=1001/\(∀n∈y.2,0<=n/\n<=999999999999999999))) (fun y:DZ×(List Int)=>y.1.length) ?_ _ _ (by grind) (by unfold fuel;grind);rintro next ⟨s_0,out_5⟩ h hn
 try dsimp only at h hn
 unfold xA
 repeat' first
  |(with_reducible first|refine E1.2 ⟨fun _=>?_,fun _=>?_⟩|refine D_.2 ?_|refine E0.2 ?_|refine E_.2 ⟨?_,fun _ _=>?_⟩|refine H4.2 ⟨?_,?_⟩|refine FZ.2 ⟨?_,?_⟩|refine(H0 _ ?_).mono fun _ _=>?_|refine(JP _ ?_).mono fun _ _=>?_|refine(LJ _ ?_ ?_).mono fun _ _=>?_)
  |exact fun c=>GR (H0 c trivial)
  |exact fun c=>GR (I3 c trivial)
  |with_reducible refine hn _ ?_ ?_
  |dsimp only
 all_goals grind[EB,EA,EE,E6,E2,ED,EC,E9,EF,EG,EP,EJ,EQ,ER,ES,ET,EU]
theorem ALe(x:DZ)(h:x.length<=1000):Tot (Y_ x) (fun r:(List Int)×DZ×Bool=>NS r.1/\r.2.1.length<=1000):=by
 unfold Y_
 repeat' first
  |(with_reducible first|refine D_.2 ?_|refine E0.2 ?_|refine(ALd _ ?_).mono fun _ _=>?_)
  |dsimp only
 all_goals grind[EB,EA,EE,E6,E2,ED,EC,E9,EF,EG,EP,EJ,EQ,ER,ES,ET,EU]
theorem ALf(x:DZ×LX)(h:∀c,Tot (x.2 c) fun _=>True):Tot (U5 x) (fun r:Int=>0<=r/\r<=1/\r<=x.1.length):=by
 obtain⟨s_0,is_1⟩:=x;try dsimp only at h ⊢
 unfold U5
 repeat' first
  |(with_reducible first|refine E1.2 ⟨fun _=>?_,fun _=>?_⟩|refine D_.2 ?_|refine E0.2 ?_|refine E_.2 ⟨?_,fun _ _=>?_⟩|refine(AL6 _ ?_).mono fun _ _=>?_|refine(h _).mono fun _ _=>?_)
  |dsimp only
 all_goals grind[EB,EA,EE,E6,E2,ED,EC,E9,EF,EG,EP,EJ,EQ,ER,ES,ET,EU]
theorem ALg(x:DZ×DZ×(List DZ)×Int×Int)(h:0<=x.2.2.2.2/\x.2.2.2.2<=x.2.2.2.1/\x.2.2.2.1=x.2.2.1.length/\x.2.2.2.1<=281474976710656/\x.2.1=[]):Tot (jY x) (fun r:DZ=>r.length<=x.1.length):=by
 refine F3 (R:=fun r:DZ=>r.length<=x.1.length) (fun y:DZ×DZ×(List DZ)×Int×Int=>(0<=y.2.2.2.2/\y.2.2.2.2<=y.2.2.2.1/\y.2.2.2.1=y.2.2.1.length/\y.2.2.2.1<=281474976710656/\y.2.1=[])/\y.1=x.1/\y.2.1=x.2.1) (fun y:DZ×DZ×(List DZ)×Int×Int=>(y.2.2.2.1-y.2.2.2.2).toNat) ?_ _ _ (by grind) (by unfold fuel;grind);rintro next ⟨s_0,word_2,t7,t8,t9⟩ h hn
 try dsimp only at h hn
 unfold xB
 repeat' first
  |(with_reducible first|refine E1.2 ⟨fun _=>?_,fun _=>?_⟩|refine D_.2 ?_|refine E0.2 ?_|refine E_.2 ⟨?_,fun _ _=>?_⟩|refine(AKk _ ?_).mono fun _ _=>?_|refine hn _ ?_ ?_)
  |dsimp only
 all_goals grind[EB,EA,EE,E6,E2,ED,EC,E9,EF,EG,EP,EJ,EQ,ER,ES,ET,EU]
theorem ALh(x:DZ×Bool)(h:True):Tot (Z0 x) (fun r:Bool=>True):=by
 obtain⟨t18,t21⟩:=x;try dsimp only at h ⊢
 unfold Z0
 repeat' first
  |(with_reducible first|refine E1.2 ⟨fun _=>?_,fun _=>?_⟩|refine E0.2 ?_)
  |dsimp only
 all_goals grind[EB,EA,EE,E6,E2,ED,EC,E9,EF,EG,EP,EJ,EQ,ER,ES,ET,EU]
theorem ALi(x:DZ×Bool)(h:True):Tot (Z1 x) (fun r:Bool=>True):=by
 obtain⟨t18,t25⟩:=x;try dsimp only at h ⊢
 unfold Z1
 repeat' first
  |(with_reducible first|refine E1.2 ⟨fun _=>?_,fun _=>?_⟩|refine E0.2 ?_)
  |dsimp only
 all_goals grind[EB,EA,EE,E6,E2,ED,EC,E9,EF,EG,EP,EJ,EQ,ER,ES,ET,EU]
theorem ALj(x:DZ×Bool)(h:True):Tot (Z2 x) (fun r:Bool=>True):=by
 obtain⟨t18,t29⟩:=x;try dsimp only at h ⊢
 unfold Z2
 repeat' first
  |(with_reducible first|refine E1.2 ⟨fun _=>?_,fun _=>?_⟩|refine E0.2 ?_)
  |dsimp only
 all_goals grind[EB,EA,EE,E6,E2,ED,EC,E9,EF,EG,EP,EJ,EQ,ER,ES,ET,EU]
theorem ALk(x:DZ)(h:True):Tot (Z3 x) (fun r:DZ×Int×Int=>x.length<=281474976710656->r.1.length<=x.length/\(r.1≠[]->1<=r.2.1)/\r.2.1<=3/\0<=r.2.2/\r.2.2<=3):=by
 unfold Z3
 repeat' first
  |(with_reducible first|refine E1.2 ⟨fun _=>?_,fun _=>?_⟩|refine D_.2 ?_|refine E0.2 ?_|refine(ALg _ ?_).mono fun _ _=>?_|refine(ALh _ ?_).mono fun _ _=>?_|refine(ALi _ ?_).mono fun _ _=>?_|refine(ALj _ ?_).mono fun _ _=>?_)
  |dsimp only
 all_goals grind[EB,EA,EE,E6,E2,ED,EC,E9,EF,EG,EP,EJ,EQ,ER,ES,ET,EU]
theorem ALl(x:DZ×Int×Int×Bool)(h:0<=x.2.2.1/\x.2.2.1<=x.1.length/\x.1.length<=1000/\0<=x.2.1/\x.2.1<=999999999999999999):Tot (Z4 x) (fun r:Sum (DZ×Int) (DZ×Bool)=>(∀y,r=.inl y->y.1.length<=x.1.length/\0<=y.2/\y.2<=999999999999999999)/\∀y,r=.inr y->y.2=false/\y.1=[]):=by
 obtain⟨rest_7,n_11,k_12,t49⟩:=x;try dsimp only at h ⊢
 unfold Z4
 repeat' first
  |(with_reducible first|refine E1.2 ⟨fun _=>?_,fun _=>?_⟩|refine D_.2 ?_|refine E0.2 ?_|refine H4.2 ⟨?_,?_⟩|refine(H0 _ ?_).mono fun _ _=>?_|refine(JP _ ?_).mono fun _ _=>?_|refine(LJ _ ?_ ?_).mono fun _ _=>?_)
  |exact fun c=>GR (H0 c trivial)
  |exact fun c=>GR (I3 c trivial)
  |dsimp only
 all_goals grind[EB,EA,EE,E6,E2,ED,EC,E9,EF,EG,EP,EJ,EQ,ER,ES,ET,EU]
set_option maxHeartbeats 1000000 in
theorem ALm(x:G6×DZ×Int)(h:x.2.1.length<=1000/\0<=x.2.2/\x.2.2<=3/\M5 x.1):Tot (jZ x) (fun r:G6×DZ×Bool=>M5 r.1/\r.2.1.length<=1000):=by
 refine F3 (R:=fun r:G6×DZ×Bool=>M5 r.1/\r.2.1.length<=1000) (fun y:G6×DZ×Int=>(y.2.1.length<=1000/\0<=y.2.2/\y.2.2<=3/\M5 y.1)) (fun y:G6×DZ×Int=>(4-y.2.2).toNat) ?_ _ _ (by grind) (by unfold fuel;grind);rintro next ⟨v_0,s_1,last_6⟩ h hn
 try dsimp only at h hn
 unfold xC
 repeat' first
  |(with_reducible first|refine E1.2 ⟨fun _=>?_,fun _=>?_⟩|refine D_.2 ?_|refine E0.2 ?_|refine E_.2 ⟨?_,fun _ _=>?_⟩|refine H4.2 ⟨?_,?_⟩|refine(ALf _ ?_).mono fun _ _=>?_|refine(I3 _ ?_).mono fun _ _=>?_|refine(ALk _ ?_).mono fun _ _=>?_|refine(H0 _ ?_).mono fun _ _=>?_|refine(ALl _ ?_).mono fun _ _=>?_)
  |exact fun c=>GR (H0 c trivial)
  |exact fun c=>GR (I3 c trivial)
  |with_reducible refine hn _ ?_ ?_
  |split
  |dsimp only
 all_goals grind[EB,EA,EE,E6,E2,ED,EC,E9,EF,EG,EP,EJ,EQ,ER,ES,ET,EU]
theorem ALn(x:G6×DZ)(h:x.2.length<=1000/\M5 x.1):Tot (Z5 x) (fun r:DZ×Bool×G6=>r.1.length<=1000/\M5 r.2.2):=by
 obtain⟨v_0,s_1⟩:=x;try dsimp only at h ⊢
 unfold Z5
 repeat' first
  |(with_reducible first|refine D_.2 ?_|refine E0.2 ?_|refine(ALm _ ?_).mono fun _ _=>?_)
  |dsimp only
 all_goals grind[EB,EA,EE,E6,E2,ED,EC,E9,EF,EG,EP,EJ,EQ,ER,ES,ET,EU]
theorem A5E(x:Int)(h:True):Tot (Z6 x) (fun r:Bool=>True):=by
 unfold Z6
 repeat' first
  |(with_reducible first|refine E1.2 ⟨fun _=>?_,fun _=>?_⟩|refine D_.2 ?_|refine E0.2 ?_|refine(H0 _ ?_).mono fun _ _=>?_|refine(I3 _ ?_).mono fun _ _=>?_)
  |dsimp only
 all_goals grind[EB,EA,EE,E6,E2,ED,EC,E9,EF,EG,EP,EJ,EQ,ER,ES,ET,EU]
theorem ALo(x:Int×(List DZ)×Int×Int)(h:0<=x.2.2.2/\x.2.2.2<=x.2.2.1/\x.2.2.1=x.2.1.length/\x.2.2.1<=281474976710656/\0<=x.1/\x.1<=1048576+1000*x.2.2.2/\(∀s∈x.2.1,s.length<=1000)/\x.2.2.1<=1048576):Tot (k9 x) (fun r:Sum (Int) K7=>∀y,r=.inr y->y.1=[]):=by
 refine F3 (R:=fun r:Sum (Int) K7=>∀y,r=.inr y->y.1=[]) (fun y:Int×(List DZ)×Int×Int=>(0<=y.2.2.2/\y.2.2.2<=y.2.2.1/\y.2.2.1=y.2.1.length/\y.2.2.1<=281474976710656/\0<=y.1/\y.1<=1048576+1000*y.2.2.2/\(∀s∈y.2.1,s.length<=1000)/\y.2.2.1<=1048576)) (fun y:Int×(List DZ)×Int×Int=>(y.2.2.1-y.2.2.2).toNat) ?_ _ _ (by grind) (by unfold fuel;grind);rintro next ⟨n_5,t13,t14,t15⟩ h hn
 try dsimp only at h hn
 unfold xD
 repeat' first
  |(with_reducible first|refine E1.2 ⟨fun _=>?_,fun _=>?_⟩|refine D_.2 ?_|refine E0.2 ?_|refine E_.2 ⟨?_,fun _ _=>?_⟩|refine(H0 _ ?_).mono fun _ _=>?_|refine(A5E _ ?_).mono fun _ _=>?_|refine(LJ _ ?_ ?_).mono fun _ _=>?_)
  |exact fun c=>GR (H0 c trivial)
  |exact fun c=>GR (I3 c trivial)
  |exact fun c=>GR (A5E c trivial)
  |with_reducible refine hn _ ?_ ?_
  |dsimp only
 all_goals grind[EB,EA,EE,E6,E2,ED,EC,E9,EF,EG,EP,EJ,EQ,ER,ES,ET,EU]
theorem ALp(x:DZ)(h:x.length<=1000):Tot (Z7 x) (fun r:(List DZ)×Bool=>LS r.1):=by
 unfold Z7
 repeat' first
  |(with_reducible first|refine D_.2 ?_|refine E0.2 ?_|refine(A54 _ ?_).mono fun _ _=>?_|refine(ALo _ ?_).mono fun _ _=>?_|refine(AKy _ ⟨?_,?_⟩).mono fun _ _=>?_)
  |exact fun c=>GR (A54 c trivial)
  |split
  |dsimp only
 all_goals grind[EB,EA,EE,E6,E2,ED,EC,E9,EF,EG,EP,EJ,EQ,ER,ES,ET,EU]
theorem ALq(x:DZ×G6×Int×Bool)(h:x.1.length<=1000/\x.2.1.1=0/\0<=x.2.2.1/\x.2.2.1<=x.1.length/\(x.2.2.2=true->x.2.2.1<x.1.length)):Tot (Z8 x) (fun r:Sum (DZ×G6) (GV×Bool)=>(∀y,r=.inl y->y.1.length<=1000/\0<=y.2.1/\y.2.1<=999999999999999999/\y.2.2=x.2.1.2)/\∀y,r=.inr y->y.2=false):=by
 obtain⟨s_0,v_4,n_5,t29⟩:=x;try dsimp only at h ⊢
 unfold Z8
 repeat' first
  |(with_reducible first|refine E1.2 ⟨fun _=>?_,fun _=>?_⟩|refine D_.2 ?_|refine E0.2 ?_|refine H4.2 ⟨?_,?_⟩|refine(JP _ ?_).mono fun _ _=>?_)
  |dsimp only
 all_goals grind[EB,EA,EE,E6,E2,ED,EC,E9,EF,EG,EP,EJ,EQ,ER,ES,ET,EU]
theorem ALr(x:DZ)(h:x.length<=1000):Tot (Z9 x) (fun r:GV×Bool=>r.2=true->J2 r.1):=by
 unfold Z9
 repeat' first
  |(with_reducible first|refine E1.2 ⟨fun _=>?_,fun _=>?_⟩|refine D_.2 ?_|refine E0.2 ?_|refine E_.2 ⟨?_,fun _ _=>?_⟩|refine(AKl _ ?_).mono fun _ _=>?_|refine(H0 _ ?_).mono fun _ _=>?_|refine(ALq _ ?_).mono fun _ _=>?_|refine(ALe _ ?_).mono fun _ _=>?_|refine(ALn _ ?_).mono fun _ _=>?_|refine(AKm _ ?_).mono fun _ _=>?_|refine(ALp _ ?_).mono fun _ _=>?_|refine(LJ _ ?_ ?_).mono fun _ _=>?_)
  |exact fun c=>GR (H0 c trivial)
  |exact fun c=>GR (I3 c trivial)
  |split
  |dsimp only
 all_goals grind[EB,EA,EE,E6,E2,ED,EC,E9,EF,EG,EP,EJ,EQ,ER,ES,ET,EU,AL1]
theorem ALs(x:DZ×Bool)(h:x.1.length<=1000):Tot (ZA x) (fun r:DZ=>r.length<=5000):=by
 obtain⟨w_0,followed_1⟩:=x;try dsimp only at h ⊢
 unfold ZA
 repeat' first
  |(with_reducible first|refine E1.2 ⟨fun _=>?_,fun _=>?_⟩|refine D_.2 ?_|refine E0.2 ?_|refine(A52 _ ?_).mono fun _ _=>?_)
  |dsimp only
 all_goals grind[EB,EA,EE,E6,E2,ED,EC,E9,EF,EG,EP,EJ,EQ,ER,ES,ET,EU]
theorem qJ(x:Bool×DZ×Int)(h:True):Tot (QV x) (fun r:Bool=>True):=by
 unfold QV
 repeat' first
  |with_reducible refine E0.2 ?_
  |dsimp only
 all_goals grind[EB,EA,EE,E6,E2,ED,EC,E9,EF,EG,EP,EJ,EQ,ER,ES,ET,EU]
theorem ALt(x:DZ×Int×Bool)(h:0<=x.2.1/\x.2.1<x.1.length/\x.1.length<=1000):Tot (ZB x) (fun r:Sum (Int) (GV×Bool)=>(∀y,r=.inl y->x.2.1<=y/\y<=x.1.length)/\∀y,r=.inr y->y.2=false):=by
 obtain⟨s_0,at_5,t24⟩:=x;try dsimp only at h ⊢
 unfold ZB
 repeat' first
  |(with_reducible first|refine E1.2 ⟨fun _=>?_,fun _=>?_⟩|refine D_.2 ?_|refine E0.2 ?_|refine E_.2 ⟨?_,fun _ _=>?_⟩|refine(H0 _ ?_).mono fun _ _=>?_|refine(I3 _ ?_).mono fun _ _=>?_)
  |dsimp only
 all_goals grind[EB,EA,EE,E6,E2,ED,EC,E9,EF,EG,EP,EJ,EQ,ER,ES,ET,EU]
set_option maxHeartbeats 1000000 in
theorem ALu(x:DZ×(List GA)×Int)(h:0<=x.2.2/\(x.1.length:Int)<=281474976710656/\x.2.2<=(x.1.length:Int)/\x.1.length<=1000/\x.2.1.length<=x.2.2/\(∀t∈x.2.1,t.2.1.length<=5000/\0<=t.2.2/\t.2.2<=999999999999999999)):Tot (kA x) (fun r:Sum (List GA) (GV×Bool)=>(∀y,r=.inl y->TS y)/\∀y,r=.inr y->y.2=false):=by
 refine F3 (R:=fun r:Sum (List GA) (GV×Bool)=>(∀y,r=.inl y->TS y)/\∀y,r=.inr y->y.2=false) (fun y:DZ×(List GA)×Int=>(0<=y.2.2/\(y.1.length:Int)<=281474976710656/\y.2.2<=(y.1.length:Int)/\y.1.length<=1000/\y.2.1.length<=y.2.2/\(∀t∈y.2.1,t.2.1.length<=5000/\0<=t.2.2/\t.2.2<=999999999999999999))) (fun y:DZ×(List GA)×Int=>((y.1.length:Int)-y.2.2).toNat) ?_ _ _ (by grind) (by unfold fuel;grind);rintro next ⟨s_0,v_4,at_5⟩ h hn
 try dsimp only at h hn
 unfold xE
 repeat' first
  |(with_reducible first|refine E1.2 ⟨fun _=>?_,fun _=>?_⟩|refine D_.2 ?_|refine E0.2 ?_|refine E_.2 ⟨?_,fun _ _=>?_⟩|refine H4.2 ⟨?_,?_⟩|refine FZ.2 ⟨?_,?_⟩|refine(ALt _ ?_).mono fun _ _=>?_|refine(H0 _ ?_).mono fun _ _=>?_|refine(JP _ ?_).mono fun _ _=>?_|refine(I3 _ ?_).mono fun _ _=>?_|refine(ALs _ ?_).mono fun _ _=>?_|refine(LJ _ ?_ ?_).mono fun _ _=>?_)
  |exact fun c=>GR (H0 c trivial)
  |exact fun c=>GR (I3 c trivial)
  |with_reducible refine hn _ ?_ ?_
  |split
  |dsimp only
 all_goals grind[EB,EA,EE,E6,E2,ED,EC,E9,EF,EG,EP,EJ,EQ,ER,ES,ET,EU]
theorem ALv(x:List GA)(h:TS x):Tot (kB x) (fun r:List GA=>TS r):=by
 refine F3 (R:=fun r=>TS r) (fun y=>TS y) (fun y=>y.length) ?_ _ _ h (by unfold fuel;have:=h.1;omega);intro next v h hn
 unfold xF;by_cases hc:(0:Int)<v.length
 ·rw[EY (by omega) (by have:=h.1;omega),A6 hc];simp only[AB,CF];refine D_.2 (E_.2 ⟨⟨by omega,by omega⟩,fun b hb=>?_⟩);refine D_.2 ((qJ _ trivial).mono fun r _=>?_);refine E1.2 ⟨fun _=>D_.2 (H4.2 ⟨⟨by omega,by omega,by omega⟩,?_⟩),fun _=>E0.2 h⟩;refine hn _ ⟨?_,fun t ht=>h.2 t (EP ht)⟩ ?_
  ·rw[EJ];have:=h.1;omega
  ·rw[EJ];omega
 ·rw[A9 hc];simp only[AD,BZ];exact D_.2 (E0.2 (D_.2 (E0.2 (E0.2 h))))
theorem ALw(x:DZ)(h:x.length<=1000):Tot (ZC x) (fun r:GV×Bool=>r.2=true->J2 r.1):=by
 unfold ZC
 repeat' first
  |(with_reducible first|refine D_.2 ?_|refine E0.2 ?_|refine(ALu _ ?_).mono fun _ _=>?_|refine(ALv _ ?_).mono fun _ _=>?_)
  |split
  |dsimp only
 all_goals grind[EB,EA,EE,E6,E2,ED,EC,E9,EF,EG,EP,EJ,EQ,ER,ES,ET,EU,AL2]
theorem ALx(x:DZ)(h:x.length<=1000):Tot (ZD x) (fun r:GV×Bool=>r.2=true->J2 r.1):=by
 unfold ZD
 repeat' first
  |(with_reducible first|refine D_.2 ?_|refine E0.2 ?_|refine(dH _ ?_).mono fun _ _=>?_)
  |dsimp only
 all_goals grind[EB,EA,EE,E6,E2,ED,EC,E9,EF,EG,EP,EJ,EQ,ER,ES,ET,EU,AL3]
theorem NU(x:Int×DZ)(h:x.2.length<=1048576):Tot (IL x) (fun r:GV×Int=>r.2=0->J2 r.1):=by
 obtain⟨kind_0,s_1⟩:=x;try dsimp only at h ⊢
 unfold IL
 repeat' first
  |(with_reducible first|refine E1.2 ⟨fun _=>?_,fun _=>?_⟩|refine D_.2 ?_|refine E0.2 ?_|refine(ALZ _ ?_).mono fun _ _=>?_|refine(ALc _ ?_).mono fun _ _=>?_|refine(A52 _ ?_).mono fun _ _=>?_|refine(ALr _ ?_).mono fun _ _=>?_|refine(ALw _ ?_).mono fun _ _=>?_|refine(ALx _ ?_).mono fun _ _=>?_)
  |dsimp only
 all_goals grind[EB,EA,EE,E6,E2,ED,EC,E9,EF,EG,EP,EJ,EQ,ER,ES,ET,EU]
theorem ALy(x:(List DZ)×(List Int)×Int×Int)(h:0<=x.2.2.2/\x.2.2.2<=x.2.2.1/\x.2.2.1=x.2.1.length/\x.2.2.1<=281474976710656/\x.1.length<=x.2.2.2/\(∀s∈x.1,s.length<=21)/\x.2.2.1<=1002):Tot (kC x) (fun r:List DZ=>r.length<=1002/\∀s∈r,s.length<=21):=by
 refine F3 (R:=fun r:List DZ=>r.length<=1002/\∀s∈r,s.length<=21) (fun y:(List DZ)×(List Int)×Int×Int=>(0<=y.2.2.2/\y.2.2.2<=y.2.2.1/\y.2.2.1=y.2.1.length/\y.2.2.1<=281474976710656/\y.1.length<=y.2.2.2/\(∀s∈y.1,s.length<=21)/\y.2.2.1<=1002)) (fun y:(List DZ)×(List Int)×Int×Int=>(y.2.2.1-y.2.2.2).toNat) ?_ _ _ (by grind) (by unfold fuel;grind);rintro next ⟨parts_3,t6,t7,t8⟩ h hn
 try dsimp only at h hn
 unfold xG
 repeat' first
  |(with_reducible first|refine E1.2 ⟨fun _=>?_,fun _=>?_⟩|refine D_.2 ?_|refine E0.2 ?_|refine E_.2 ⟨?_,fun _ _=>?_⟩|refine FZ.2 ⟨?_,?_⟩|refine(IP _ ?_).mono fun _ _=>?_|refine hn _ ?_ ?_)
  |dsimp only
 all_goals grind[EB,EA,EE,E6,E2,ED,EC,E9,EF,EG,EP,EJ,EQ,ER,ES,ET,EU]
theorem A5F(x:List Int)(h:x.length<=1002):Tot (U6 x) (fun r:DZ=>r.length<=30000):=by
 unfold U6;refine D_.2 ((ALy _ ⟨by simp,by simp,rfl,by simp;omega,by simp,by simp,by simp;omega⟩).mono fun r hr=>?_);have hj:(Lib.join r [46]).length<=1002*(21+1):=dD hr.2 hr.1 (by simp);exact D_.2 ((RN _ ⟨by simp;omega,by dsimp only;omega⟩).mono fun s hs=>E0.2 (by rw[hs];dsimp only;omega))
theorem qK(x:(List Int)×(List DZ))(h:dC x):Tot (U7 x) (fun r:DZ=>r.length<=1048576):=by
 unfold U7;obtain⟨h1,h2,h3,h4⟩:=h;have hj:(Lib.join x.2 [46]).length<=1002*(1000+1):=dD h4 h3 (by simp);refine D_.2 (H4.2 ⟨⟨by omega,by omega,by omega⟩,?_⟩);refine D_.2 ((A5F _ (by rw[EJ];omega)).mono fun r hr=>?_);refine E1.2 ⟨fun _=>?_,fun _=>E0.2 (by omega)⟩;refine D_.2 ((RN _ ⟨by dsimp only;omega,by dsimp only;omega⟩).mono fun s hs=>?_);dsimp only at hs;rw[<-hs]at hj;refine D_.2 (FT.2 ⟨by simp;omega,?_⟩);refine D_.2 (FT.2 ⟨by simp;omega,?_⟩);exact E0.2 (by simp;omega)
theorem ALz(x:DZ×(List Int)×Int)(h:0<=x.2.2/\x.2.2<=x.1.length/\x.1.length<=1000/\x.2.1.length<=21*x.2.2):Tot (kD x) (fun r:List Int=>r.length<=21000):=by
 refine F3 (R:=fun r:List Int=>r.length<=21000) (fun y:DZ×(List Int)×Int=>(0<=y.2.2/\y.2.2<=y.1.length/\y.1.length<=1000/\y.2.1.length<=21*y.2.2)/\y.1=x.1) (fun y:DZ×(List Int)×Int=>(y.1.length-y.2.2:Int).toNat) ?_ _ _ (by grind) (by unfold fuel;grind);rintro next ⟨s_0,b_3,at_4⟩ h hn
 try dsimp only at h hn
 unfold xH
 repeat' first
  |(with_reducible first|refine E1.2 ⟨fun _=>?_,fun _=>?_⟩|refine D_.2 ?_|refine E0.2 ?_|refine E_.2 ⟨?_,fun _ _=>?_⟩|refine H4.2 ⟨?_,?_⟩|refine(H0 _ ?_).mono fun _ _=>?_|refine(VA _ ?_).mono fun _ _=>?_|refine(JP _ ?_).mono fun _ _=>?_|refine(IP _ ?_).mono fun _ _=>?_|refine(VB _ ?_).mono fun _ _=>?_|refine(LJ _ ?_ ?_).mono fun _ _=>?_)
  |exact fun c=>GR (H0 c trivial)
  |exact fun c=>GR (I3 c trivial)
  |with_reducible refine hn _ ?_ ?_
  |dsimp only
 all_goals grind[EB,EA,EE,E6,E2,ED,EC,E9,EF,EG,EP,EJ,EQ,ER,ES,ET,EU]
theorem AM0(x:DZ)(h:x.length<=1000):Tot (U8 x) (fun r:DZ=>r.length<=21000):=by
 unfold U8
 repeat' first
  |(with_reducible first|refine D_.2 ?_|refine E0.2 ?_|refine(ALz _ ?_).mono fun _ _=>?_|refine(P1 _ ?_).mono fun _ _=>?_)
  |dsimp only
 all_goals grind[EB,EA,EE,E6,E2,ED,EC,E9,EF,EG,EP,EJ,EQ,ER,ES,ET,EU]
theorem A5G(x:Int×DZ×DZ×Bool)(h:P2 x):Tot (U9 x) (fun r:DZ=>r.length<=1000):=by
 unfold U9
 repeat' first
  |(with_reducible first|refine E1.2 ⟨fun _=>?_,fun _=>?_⟩|refine E0.2 ?_)
  |dsimp only
 all_goals grind[EB,EA,EE,E6,E2,ED,EC,E9,EF,EG,EP,EJ,EQ,ER,ES,ET,EU]
theorem AM1(x:DZ×(List Int)×Int×Int)(h:0<=x.2.2.2/\x.2.2.2<=x.2.2.1/\x.2.2.1=x.1.length/\x.2.2.1<=281474976710656/\x.2.2.1<=1000/\x.2.1.length<=x.2.2.2):Tot (kE x) (fun r:List Int=>r.length<=x.1.length):=by
 refine F3 (R:=fun r:List Int=>r.length<=x.1.length) (fun y:DZ×(List Int)×Int×Int=>(0<=y.2.2.2/\y.2.2.2<=y.2.2.1/\y.2.2.1=y.1.length/\y.2.2.1<=281474976710656/\y.2.2.1<=1000/\y.2.1.length<=y.2.2.2)/\y.1=x.1) (fun y:DZ×(List Int)×Int×Int=>(y.2.2.1-y.2.2.2).toNat) ?_ _ _ (by grind) (by unfold fuel;grind);rintro next ⟨s_0,b_3,t6,t7⟩ h hn
 try dsimp only at h hn
 unfold xI
 repeat' first
  |(with_reducible first|refine E1.2 ⟨fun _=>?_,fun _=>?_⟩|refine D_.2 ?_|refine E0.2 ?_|refine E_.2 ⟨?_,fun _ _=>?_⟩|refine(VA _ ?_).mono fun _ _=>?_|refine(I3 _ ?_).mono fun _ _=>?_|refine hn _ ?_ ?_)
  |dsimp only
 all_goals grind[EB,EA,EE,E6,E2,ED,EC,E9,EF,EG,EP,EJ,EQ,ER,ES,ET,EU]
theorem AM2(x:DZ)(h:x.length<=1000):Tot (ZG x) (fun r:DZ=>r.length<=x.length+1):=by
 unfold ZG
 repeat' first
  |(with_reducible first|refine D_.2 ?_|refine E0.2 ?_|refine E_.2 ⟨?_,fun _ _=>?_⟩|refine FT.2 ⟨?_,?_⟩|refine(AM1 _ ?_).mono fun _ _=>?_|refine(P1 _ ?_).mono fun _ _=>?_)
  |dsimp only
 all_goals grind[EB,EA,EE,E6,E2,ED,EC,E9,EF,EG,EP,EJ,EQ,ER,ES,ET,EU]
theorem JD(x:Int)(h:0<=x/\x<=999999999999999999):Tot (IM x) (fun r:DZ=>r.length=18):=by
 unfold IM
 repeat' first
  |(with_reducible first|refine D_.2 ?_|refine E0.2 ?_|refine E_.2 ⟨?_,fun _ _=>?_⟩|refine FT.2 ⟨?_,?_⟩|refine(IP _ ?_).mono fun _ _=>?_|refine(AKs _ ?_).mono fun _ _=>?_)
  |dsimp only
 all_goals grind[EB,EA,EE,E6,E2,ED,EC,E9,EF,EG,EP,EJ,EQ,ER,ES,ET,EU]
theorem AM3(x:DZ×(List Int))(h:x.1.length<=1000/\x.2.length+40*x.1.length<=50000):Tot (kF x) (fun r:List Int=>r.length<=50000):=by
 refine F3 (R:=fun r:List Int=>r.length<=50000) (fun y:DZ×(List Int)=>y.1.length<=1000/\y.2.length+40*y.1.length<=50000) (fun y:DZ×(List Int)=>y.1.length) ?_ _ _ h (by unfold fuel;have:=h.1;omega);rintro next ⟨s,b⟩ h hn
 dsimp only at h hn;unfold xJ;dsimp only;refine E1.2 ⟨fun hc=>?_,fun _=>E0.2 (by omega)⟩
 have hne:0<s.length:=by
  rw[EQ]at hc;simp only[BO,DH]at hc;omega
 have f1:∀c,Tot ((ZF c).bind fun r=>some r) fun _=>True:=fun c=>⟨_,rfl,trivial⟩;refine D_.2 ((dE _ ⟨B7 _,by dsimp only;omega,by dsimp only;omega,f1⟩).mono fun r1 hr1=>?_);dsimp only at hr1;obtain⟨a0,a1,_,a3⟩:=hr1;rw[Int.zero_add]at a1 a3;refine D_.2 ((dE _ ⟨a0,by dsimp only;omega,by dsimp only;omega,A53⟩).mono fun r2 hr2=>?_);dsimp only at hr2;obtain⟨b0,b1,_,b3⟩:=hr2
 have hpos:0<r1+r2:=by
  rcases Int.lt_or_le 0 (r1+r2)with h'|h'
  ·exact h'
  ·exfalso;have e1:r1=0:=by omega
   have e2:r2=0:=by omega
   subst e1 e2;have g:s[(0:Int).toNat]?=some (s[0]'hne):=A0 hne;have g1:=a3 _ g;have g2:=b3 _ g;unfold ZF at g1;unfold G_ at g1 g2;simp at g1 g2;omega
 rw[EY (by omega) (by omega)];refine D_.2 (H4.2 ⟨⟨by omega,by omega,by omega⟩,?_⟩);refine D_.2 ((JP _ (by rw[EJ];omega)).mono fun r4 h4=>?_);refine D_.2 (H4.2 ⟨⟨by omega,by omega,by omega⟩,?_⟩);refine D_.2 ((AM2 _ (by rw[EJ];omega)).mono fun r6 h6=>?_);rw[EJ]at h6;refine D_.2 ((JD _ h4).mono fun r7 h7=>?_);refine D_.2 (FT.2 ⟨by omega,?_⟩);refine D_.2 ((VB _ ⟨by dsimp only;omega,by dsimp only;rw[A7];omega⟩).mono fun r9 h9=>?_);dsimp only at h9;rw[A7]at h9;refine D_.2 (H4.2 ⟨⟨by omega,by omega,by omega⟩,?_⟩);refine hn _ ⟨?_,?_⟩ ?_<;>(dsimp only;rw[EJ];omega)
theorem A5H(x:DZ)(h:x.length<=1000):Tot (OQ x) (fun r:DZ=>r.length<=50010):=by
 unfold OQ
 repeat' first
  |(with_reducible first|refine D_.2 ?_|refine E0.2 ?_|refine E_.2 ⟨?_,fun _ _=>?_⟩|refine FT.2 ⟨?_,?_⟩|refine(AM3 _ ?_).mono fun _ _=>?_|refine(P1 _ ?_).mono fun _ _=>?_)
  |dsimp only
 all_goals grind[EB,EA,EE,E6,E2,ED,EC,E9,EF,EG,EP,EJ,EQ,ER,ES,ET,EU]
theorem AM4(x:KQ×DZ×Bool)(h:x.2.1.length<=1000000):Tot (ZH x) (fun r:KQ×DZ=>r.1=x.1/\r.2.length<=x.2.1.length+30):=by
 obtain⟨v_1,s_3,t9⟩:=x;try dsimp only at h ⊢
 unfold ZH
 repeat' first
  |(with_reducible first|refine E1.2 ⟨fun _=>?_,fun _=>?_⟩|refine D_.2 ?_|refine E0.2 ?_|refine E_.2 ⟨?_,fun _ _=>?_⟩|refine FT.2 ⟨?_,?_⟩|refine(IP _ ?_).mono fun _ _=>?_)
  |dsimp only
 all_goals grind[EB,EA,EE,E6,E2,ED,EC,E9,EF,EG,EP,EJ,EQ,ER,ES,ET,EU]
theorem qL(x:Int×DZ×DZ×Bool)(h:P2 x):Tot (UA x) (fun r:DZ=>r.length<=1048576):=by
 unfold UA
 repeat' first
  |(with_reducible first|refine E1.2 ⟨fun _=>?_,fun _=>?_⟩|refine D_.2 ?_|refine E0.2 ?_|refine E_.2 ⟨?_,fun _ _=>?_⟩|refine FT.2 ⟨?_,?_⟩|refine(AM0 _ ?_).mono fun _ _=>?_|refine(AM4 _ ?_).mono fun _ _=>?_|refine(A5G _ ?_).mono fun _ _=>?_|refine(A5H _ ?_).mono fun _ _=>?_)
  |dsimp only
 all_goals grind[EB,EA,EE,E6,E2,ED,EC,E9,EF,EG,EP,EJ,EQ,ER,ES,ET,EU]
theorem AM5(x:List Int)(h:NS x):Tot (kG x) (fun r:List Int=>NS r):=by
 refine F3 (R:=fun r=>NS r) (fun y=>NS y) (fun y=>y.length) ?_ _ _ h (by unfold fuel;have:=h.1;omega);intro next v h hn
 unfold xK;by_cases hc:(0:Int)<v.length
 ·rw[EY (by omega) (by have:=h.1;omega),A6 hc];simp only[AB,CF];refine D_.2 (E_.2 ⟨⟨by omega,by omega⟩,fun b hb=>?_⟩);refine E1.2 ⟨fun _=>D_.2 (H4.2 ⟨⟨by omega,by omega,by omega⟩,?_⟩),fun _=>E0.2 h⟩;refine hn _ ⟨?_,fun t ht=>h.2 t (EP ht)⟩ ?_
  ·rw[EJ];have:=h.1;omega
  ·rw[EJ];omega
 ·rw[A9 hc];simp only[AD,BZ];exact D_.2 (E0.2 (E0.2 h))
theorem A5I(x:List Int)(h:NS x):Tot (UB x) (fun r:List Int=>NS r):=by
 unfold UB
 repeat' first
  |(with_reducible first|refine D_.2 ?_|refine E0.2 ?_|refine(AM5 _ ?_).mono fun _ _=>?_)
  |dsimp only
 all_goals grind[EB,EA,EE,E6,E2,ED,EC,E9,EF,EG,EP,EJ,EQ,ER,ES,ET,EU]
theorem AM6(x:G6×DZ×Bool)(h:x.2.1.length<=10):Tot (ZI x) (fun r:G6×DZ=>r.1=x.1/\r.2.length<=30):=by
 obtain⟨v_1,s_3,t11⟩:=x;try dsimp only at h ⊢
 unfold ZI
 repeat' first
  |(with_reducible first|refine E1.2 ⟨fun _=>?_,fun _=>?_⟩|refine D_.2 ?_|refine E0.2 ?_|refine E_.2 ⟨?_,fun _ _=>?_⟩|refine FT.2 ⟨?_,?_⟩|refine(IP _ ?_).mono fun _ _=>?_)
  |dsimp only
 all_goals grind[EB,EA,EE,E6,E2,ED,EC,E9,EF,EG,EP,EJ,EQ,ER,ES,ET,EU]
theorem AM7(x:DZ×(List Int)×Bool)(h:x.1.length<=30/\x.2.1.length<=1002):Tot (ZJ x) (fun r:DZ=>r.length<=31000):=by
 obtain⟨s_3,l_4,t21⟩:=x;try dsimp only at h ⊢
 unfold ZJ
 repeat' first
  |(with_reducible first|refine E1.2 ⟨fun _=>?_,fun _=>?_⟩|refine D_.2 ?_|refine E0.2 ?_|refine E_.2 ⟨?_,fun _ _=>?_⟩|refine FT.2 ⟨?_,?_⟩|refine(A5F _ ?_).mono fun _ _=>?_)
  |dsimp only
 all_goals grind[EB,EA,EE,E6,E2,ED,EC,E9,EF,EG,EP,EJ,EQ,ER,ES,ET,EU]
theorem AM8(x:G6×DZ×Bool)(h:x.2.1.length<=31000/\0<=x.1.2.2.1/\x.1.2.2.1<=3):Tot (ZK x) (fun r:G6×DZ=>r.1=x.1/\r.2.length<=31100):=by
 obtain⟨v_1,s_3,t30⟩:=x;try dsimp only at h ⊢
 unfold ZK
 repeat' first
  |(with_reducible first|refine E1.2 ⟨fun _=>?_,fun _=>?_⟩|refine D_.2 ?_|refine E0.2 ?_|refine E_.2 ⟨?_,fun _ _=>?_⟩|refine FT.2 ⟨?_,?_⟩|refine(IP _ ?_).mono fun _ _=>?_)
  |dsimp only
 all_goals grind[EB,EA,EE,E6,E2,ED,EC,E9,EF,EG,EP,EJ,EQ,ER,ES,ET,EU]
theorem AM9(x:G6×DZ×Bool)(h:x.2.1.length<=31100):Tot (ZL x) (fun r:G6×DZ=>r.1=x.1/\r.2.length<=31200):=by
 obtain⟨v_1,s_3,t44⟩:=x;try dsimp only at h ⊢
 unfold ZL
 repeat' first
  |(with_reducible first|refine E1.2 ⟨fun _=>?_,fun _=>?_⟩|refine D_.2 ?_|refine E0.2 ?_|refine E_.2 ⟨?_,fun _ _=>?_⟩|refine FT.2 ⟨?_,?_⟩|refine(IP _ ?_).mono fun _ _=>?_)
  |dsimp only
 all_goals grind[EB,EA,EE,E6,E2,ED,EC,E9,EF,EG,EP,EJ,EQ,ER,ES,ET,EU]
theorem AMA(x:G6×DZ×Bool)(h:x.2.1.length<=31200):Tot (ZM x) (fun r:G6×DZ=>r.1=x.1/\r.2.length<=31300):=by
 obtain⟨v_1,s_3,t53⟩:=x;try dsimp only at h ⊢
 unfold ZM
 repeat' first
  |(with_reducible first|refine E1.2 ⟨fun _=>?_,fun _=>?_⟩|refine D_.2 ?_|refine E0.2 ?_|refine E_.2 ⟨?_,fun _ _=>?_⟩|refine FT.2 ⟨?_,?_⟩|refine(IP _ ?_).mono fun _ _=>?_)
  |dsimp only
 all_goals grind[EB,EA,EE,E6,E2,ED,EC,E9,EF,EG,EP,EJ,EQ,ER,ES,ET,EU]
theorem AMB(x:DZ×Int×Bool)(h:True):Tot (ZN x) (fun r:DZ=>r.length<=x.1.length+21):=by
 obtain⟨p_6,n_7,t73⟩:=x;try dsimp only at h ⊢
 unfold ZN
 repeat' first
  |(with_reducible first|refine E1.2 ⟨fun _=>?_,fun _=>?_⟩|refine D_.2 ?_|refine E0.2 ?_|refine(IP _ ?_).mono fun _ _=>?_)
  |dsimp only
 all_goals grind[EB,EA,EE,E6,E2,ED,EC,E9,EF,EG,EP,EJ,EQ,ER,ES,ET,EU]
theorem AMC(x:DZ×(List DZ)×Int×Int)(h:0<=x.2.2.2/\x.2.2.2<=x.2.2.1/\x.2.2.1=x.2.1.length/\x.2.2.1<=281474976710656/\x.1.length<=40000+1030*x.2.2.2/\x.2.2.1<=1002/\∀s∈x.2.1,s.length<=1000):Tot (kH x) (fun r:DZ=>r.length<=10000000):=by
 refine F3 (R:=fun r:DZ=>r.length<=10000000) (fun y:DZ×(List DZ)×Int×Int=>(0<=y.2.2.2/\y.2.2.2<=y.2.2.1/\y.2.2.1=y.2.1.length/\y.2.2.1<=281474976710656/\y.1.length<=40000+1030*y.2.2.2/\y.2.2.1<=1002/\∀s∈y.2.1,s.length<=1000)) (fun y:DZ×(List DZ)×Int×Int=>(y.2.2.1-y.2.2.2).toNat) ?_ _ _ (by grind) (by unfold fuel;grind);rintro next ⟨s_3,t61,t62,t63⟩ h hn
 try dsimp only at h hn
 unfold xL
 repeat' first
  |(with_reducible first|refine E1.2 ⟨fun _=>?_,fun _=>?_⟩|refine D_.2 ?_|refine E0.2 ?_|refine E_.2 ⟨?_,fun _ _=>?_⟩|refine FT.2 ⟨?_,?_⟩|refine(JP _ ?_).mono fun _ _=>?_|refine(AMB _ ?_).mono fun _ _=>?_|refine hn _ ?_ ?_)
  |dsimp only
 all_goals grind[EB,EA,EE,E6,E2,ED,EC,E9,EF,EG,EP,EJ,EQ,ER,ES,ET,EU]
theorem qM(x:Int×(List Int)×Int×Int×Int×Int×(List DZ))(h:M5 x):Tot (UC x) (fun r:DZ=>r.length<=10000000):=by
 unfold UC
 repeat' first
  |(with_reducible first|refine D_.2 ?_|refine E0.2 ?_|refine(AM6 _ ?_).mono fun _ _=>?_|refine(A5I _ ?_).mono fun _ _=>?_|refine(AM7 _ ?_).mono fun _ _=>?_|refine(AM8 _ ?_).mono fun _ _=>?_|refine(AM9 _ ?_).mono fun _ _=>?_|refine(AMA _ ?_).mono fun _ _=>?_|refine(AMC _ ?_).mono fun _ _=>?_)
  |dsimp only
 all_goals grind[EB,EA,EE,E6,E2,ED,EC,E9,EF,EG,EP,EJ,EQ,ER,ES,ET,EU]
theorem AMD(x:(List DZ)×(List GA)×Int×Int)(h:0<=x.2.2.2/\x.2.2.2<=x.2.2.1/\x.2.2.1=x.2.1.length/\x.2.2.1<=281474976710656/\x.1.length<=x.2.2.2/\(∀s∈x.1,s.length<=5000)/\x.2.2.1<=1002/\∀t∈x.2.1,t.2.1.length<=5000):Tot (kI x) (fun r:List DZ=>r.length<=1002/\∀s∈r,s.length<=5000):=by
 refine F3 (R:=fun r:List DZ=>r.length<=1002/\∀s∈r,s.length<=5000) (fun y:(List DZ)×(List GA)×Int×Int=>(0<=y.2.2.2/\y.2.2.2<=y.2.2.1/\y.2.2.1=y.2.1.length/\y.2.2.1<=281474976710656/\y.1.length<=y.2.2.2/\(∀s∈y.1,s.length<=5000)/\y.2.2.1<=1002/\∀t∈y.2.1,t.2.1.length<=5000)) (fun y:(List DZ)×(List GA)×Int×Int=>(y.2.2.1-y.2.2.2).toNat) ?_ _ _ (by grind) (by unfold fuel;grind);rintro next ⟨l_3,t7,t8,t9⟩ h hn
 try dsimp only at h hn
 unfold xM
 repeat' first
  |(with_reducible first|refine E1.2 ⟨fun _=>?_,fun _=>?_⟩|refine D_.2 ?_|refine E0.2 ?_|refine E_.2 ⟨?_,fun _ _=>?_⟩|refine FZ.2 ⟨?_,?_⟩|refine(qJ _ ?_).mono fun _ _=>?_|refine(IP _ ?_).mono fun _ _=>?_|refine hn _ ?_ ?_)
  |dsimp only
 all_goals grind[EB,EA,EE,E6,E2,ED,EC,E9,EF,EG,EP,EJ,EQ,ER,ES,ET,EU]
theorem qN(x:List GA)(h:TS x):Tot (UD x) (fun r:DZ=>r.length<=10000000):=by
 unfold UD;refine D_.2 ((AMD _ ⟨by simp,by simp,rfl,by have:=h.1;simp;omega,by simp,by simp,by have:=h.1;simp;omega,fun t ht=>(h.2 t ht).1⟩).mono fun r hr=>?_);have hj:(Lib.join r [45]).length<=1002*(5000+1):=dD hr.2 hr.1 (by simp);refine E1.2 ⟨fun _=>E0.2 (by simp),fun _=>?_⟩;exact D_.2 ((RN _ ⟨by dsimp only;omega,by dsimp only;omega⟩).mono fun s hs=>E0.2 (by rw[hs];dsimp only;omega))
theorem qO(x:Int)(h:True):Tot (UE x) (fun r:DZ=>r.length<=10000000):=by
 unfold UE
 repeat' first
  |(with_reducible first|refine D_.2 ?_|refine E0.2 ?_|refine(IP _ ?_).mono fun _ _=>?_)
  |dsimp only
 all_goals grind[EB,EA,EE,E6,E2,ED,EC,E9,EF,EG,EP,EJ,EQ,ER,ES,ET,EU]
theorem AME(x:Sum LE (Sum KQ (Sum G6 (Sum (List GA) (Sum Int Unit)))))(h:J2 x):Tot (aI x) (fun r:DZ×Int=>r.1.length<=100):=by
 unfold aI;refine D_.2 (Tot.mono (P:=fun r:DZ=>r.length<=10000000) ?_ fun r1 hr=>?_)
 ·rcases x with x|x|x|x|x|x
  ·exact D_.2 ((qK _ h).mono fun _ h=>E0.2 (by omega))
  ·exact D_.2 ((qL _ h).mono fun _ h=>E0.2 (by omega))
  ·exact D_.2 ((qM _ h).mono fun _ h=>E0.2 h)
  ·exact D_.2 ((qN _ h).mono fun _ h=>E0.2 h)
  ·exact D_.2 ((qO _ trivial).mono fun _ h=>E0.2 h)
  ·exact h.elim
 ·refine E1.2 ⟨fun _=>E0.2 (by simp),fun hc=>E0.2 ?_⟩;have:=AG hc;dsimp only;omega
theorem dI(x:Int×DZ)(h:x.2.length<=1048576):Tot (OS x) (fun r:DZ×Int=>r.1.length<=100):=by
 obtain⟨kind_0,s_1⟩:=x;try dsimp only at h ⊢
 unfold OS
 repeat' first
  |(with_reducible first|refine E1.2 ⟨fun _=>?_,fun _=>?_⟩|refine D_.2 ?_|refine E0.2 ?_|refine(NU _ ?_).mono fun _ _=>?_|refine(AME _ ?_).mono fun _ _=>?_)
  |dsimp only
 all_goals grind[EB,EA,EE,E6,E2,ED,EC,E9,EF,EG,EP,EJ,EQ,ER,ES,ET,EU]
theorem AMF(x:E3×Int×FM×Int×Int×Int)(h:(∀p,Tot (x.2.2.1 p) fun _=>True)/\x.2.2.2.1=20/\0<=x.2.2.2.2.1/\x.2.2.2.2.2=x.2.2.2.2.1+20/\x.2.1=x.1.length/\x.2.1<=1048576/\x.2.2.2.2.1<=x.2.1):Tot (jB x) (fun r:E3×Int=>r.1.length=x.1.length/\(∀q∈r.1,q∈x.1)/\0<=r.2/\r.2<=x.2.1):=by
 refine F3 (R:=fun r:E3×Int=>r.1.length=x.1.length/\(∀q∈r.1,q∈x.1)/\0<=r.2/\r.2<=x.2.1) (fun y:E3×Int×FM×Int×Int×Int=>((∀p,Tot (y.2.2.1 p) fun _=>True)/\y.2.2.2.1=20/\0<=y.2.2.2.2.1/\y.2.2.2.2.2=y.2.2.2.2.1+20/\y.2.1=y.1.length/\y.2.1<=1048576/\y.2.2.2.2.1<=y.2.1)/\y.2.1=x.2.1/\y.2.2.1=x.2.2.1/\y.2.2.2.1=x.2.2.2.1/\y.1.length=x.1.length/\∀q∈y.1,q∈x.1) (fun y:E3×Int×FM×Int×Int×Int=>(y.2.1-y.2.2.2.2.1).toNat) ?_ _ _ (by grind) (by unfold fuel;grind);rintro next ⟨data_0,n_1,cmp_2,blockSize_6,a_7,b_8⟩ h hn
 try dsimp only at h hn
 unfold wM
 repeat' first
  |(with_reducible first|refine E1.2 ⟨fun _=>?_,fun _=>?_⟩|refine D_.2 ?_|refine E0.2 ?_|refine(A4z _ ?_).mono fun _ _=>?_|refine hn _ ?_ ?_)
  |dsimp only
 all_goals grind[EB,EA,EE,E6,E2,ED,EC,E9,EF,EG,EP,EJ,EQ,ER,ES,ET,EU]
theorem AMG(x:E3×Int×FM×Int×Int×Int)(h:(∀p,Tot (x.2.2.1 p) fun _=>True)/\0<x.2.2.2.1/\x.2.2.2.1<x.2.1/\0<=x.2.2.2.2.1/\x.2.2.2.2.2=x.2.2.2.2.1+2*x.2.2.2.1/\x.2.1=x.1.length/\x.2.1<=1048576/\x.2.2.2.2.1<=x.2.1):Tot (jC x) (fun r:E3×Int=>r.1.length=x.1.length/\(∀q∈r.1,q∈x.1)/\0<=r.2/\r.2<=x.2.1):=by
 refine F3 (R:=fun r:E3×Int=>r.1.length=x.1.length/\(∀q∈r.1,q∈x.1)/\0<=r.2/\r.2<=x.2.1) (fun y:E3×Int×FM×Int×Int×Int=>((∀p,Tot (y.2.2.1 p) fun _=>True)/\0<y.2.2.2.1/\y.2.2.2.1<y.2.1/\0<=y.2.2.2.2.1/\y.2.2.2.2.2=y.2.2.2.2.1+2*y.2.2.2.1/\y.2.1=y.1.length/\y.2.1<=1048576/\y.2.2.2.2.1<=y.2.1)/\y.2.1=x.2.1/\y.2.2.1=x.2.2.1/\y.2.2.2.1=x.2.2.2.1/\y.1.length=x.1.length/\∀q∈y.1,q∈x.1) (fun y:E3×Int×FM×Int×Int×Int=>(y.2.1-y.2.2.2.2.1).toNat) ?_ _ _ (by grind) (by unfold fuel;grind);rintro next ⟨data_0,n_1,cmp_2,blockSize_6,a_7,b_8⟩ h hn
 try dsimp only at h hn
 unfold wO
 repeat' first
  |(with_reducible first|refine E1.2 ⟨fun _=>?_,fun _=>?_⟩|refine D_.2 ?_|refine E0.2 ?_|refine(A50 _ ?_).mono fun _ _=>?_|refine hn _ ?_ ?_)
  |dsimp only
 all_goals grind[EB,EA,EE,E6,E2,ED,EC,E9,EF,EG,EP,EJ,EQ,ER,ES,ET,EU]
theorem AMH(x:E3×Int×FM×Int)(h:(∀p,Tot (x.2.2.1 p) fun _=>True)/\0<x.2.2.2/\x.2.2.2<=2097152/\x.2.1=x.1.length/\x.2.1<=1048576):Tot (jD x) (fun r:List (DZ×DZ)=>r.length=x.1.length/\(∀q∈r,q∈x.1)):=by
 refine F3 (R:=fun r:List (DZ×DZ)=>r.length=x.1.length/\(∀q∈r,q∈x.1)) (fun y:E3×Int×FM×Int=>((∀p,Tot (y.2.2.1 p) fun _=>True)/\0<y.2.2.2/\y.2.2.2<=2097152/\y.2.1=y.1.length/\y.2.1<=1048576)/\y.2.1=x.2.1/\y.2.2.1=x.2.2.1/\y.1.length=x.1.length/\∀q∈y.1,q∈x.1) (fun y:E3×Int×FM×Int=>(2097153-y.2.2.2).toNat) ?_ _ _ (by grind) (by unfold fuel;grind);rintro next ⟨data_0,n_1,cmp_2,blockSize_6⟩ h hn
 try dsimp only at h hn
 unfold wP
 repeat' first
  |(with_reducible first|refine E1.2 ⟨fun _=>?_,fun _=>?_⟩|refine D_.2 ?_|refine E0.2 ?_|refine(AMG _ ?_).mono fun _ _=>?_|refine(A50 _ ?_).mono fun _ _=>?_|refine hn _ ?_ ?_)
  |dsimp only
 all_goals grind[EB,EA,EE,E6,E2,ED,EC,E9,EF,EG,EP,EJ,EQ,ER,ES,ET,EU]
theorem AMI(x:E3×Int×FM)(h:(∀p,Tot (x.2.2 p) fun _=>True)/\x.2.1=x.1.length/\x.2.1<=1048576):Tot (YF x) (fun r:List (DZ×DZ)=>r.length=x.1.length/\(∀q∈r,q∈x.1)):=by
 obtain⟨data_0,n_1,cmp_2⟩:=x;try dsimp only at h ⊢
 unfold YF
 repeat' first
  |(with_reducible first|refine D_.2 ?_|refine E0.2 ?_|refine(AMF _ ?_).mono fun _ _=>?_|refine(A4z _ ?_).mono fun _ _=>?_|refine(AMH _ ?_).mono fun _ _=>?_)
  |dsimp only
 all_goals grind[EB,EA,EE,E6,E2,ED,EC,E9,EF,EG,EP,EJ,EQ,ER,ES,ET,EU]
theorem AMJ(x:E3×FM)(h:(∀p,Tot (x.2 p) fun _=>True)/\x.1.length<=1048576):Tot (YG x) (fun r:List (DZ×DZ)=>r.length=x.1.length/\(∀q∈r,q∈x.1)):=by
 obtain⟨x_0,cmp_1⟩:=x;try dsimp only at h ⊢
 unfold YG
 repeat' first
  |(with_reducible first|refine D_.2 ?_|refine E0.2 ?_|refine(AMI _ ?_).mono fun _ _=>?_)
  |dsimp only
 all_goals grind[EB,EA,EE,E6,E2,ED,EC,E9,EF,EG,EP,EJ,EQ,ER,ES,ET,EU]
theorem AMK(x:(List E8)×Int×FN×Int×Int×Int)(h:(∀p,Tot (x.2.2.1 p) fun _=>True)/\x.2.2.2.1=20/\0<=x.2.2.2.2.1/\x.2.2.2.2.2=x.2.2.2.2.1+20/\x.2.1=x.1.length/\x.2.1<=1048576/\x.2.2.2.2.1<=x.2.1):Tot (lM x) (fun r:(List E8)×Int=>r.1.length=x.1.length/\(∀q∈r.1,q∈x.1)/\0<=r.2/\r.2<=x.2.1):=by
 refine F3 (R:=fun r:(List E8)×Int=>r.1.length=x.1.length/\(∀q∈r.1,q∈x.1)/\0<=r.2/\r.2<=x.2.1) (fun y:(List E8)×Int×FN×Int×Int×Int=>((∀p,Tot (y.2.2.1 p) fun _=>True)/\y.2.2.2.1=20/\0<=y.2.2.2.2.1/\y.2.2.2.2.2=y.2.2.2.2.1+20/\y.2.1=y.1.length/\y.2.1<=1048576/\y.2.2.2.2.1<=y.2.1)/\y.2.1=x.2.1/\y.2.2.1=x.2.2.1/\y.2.2.2.1=x.2.2.2.1/\y.1.length=x.1.length/\∀q∈y.1,q∈x.1) (fun y:(List E8)×Int×FN×Int×Int×Int=>(y.2.1-y.2.2.2.2.1).toNat) ?_ _ _ (by grind) (by unfold fuel;grind);rintro next ⟨data_0,n_1,cmp_2,blockSize_6,a_7,b_8⟩ h hn
 try dsimp only at h hn
 unfold yJ
 repeat' first
  |(with_reducible first|refine E1.2 ⟨fun _=>?_,fun _=>?_⟩|refine D_.2 ?_|refine E0.2 ?_|refine(A55 _ ?_).mono fun _ _=>?_|refine hn _ ?_ ?_)
  |dsimp only
 all_goals grind[EB,EA,EE,E6,E2,ED,EC,E9,EF,EG,EP,EJ,EQ,ER,ES,ET,EU]
theorem AML(x:(List E8)×Int×FN×Int×Int×Int)(h:(∀p,Tot (x.2.2.1 p) fun _=>True)/\0<x.2.2.2.1/\x.2.2.2.1<x.2.1/\0<=x.2.2.2.2.1/\x.2.2.2.2.2=x.2.2.2.2.1+2*x.2.2.2.1/\x.2.1=x.1.length/\x.2.1<=1048576/\x.2.2.2.2.1<=x.2.1):Tot (lN x) (fun r:(List E8)×Int=>r.1.length=x.1.length/\(∀q∈r.1,q∈x.1)/\0<=r.2/\r.2<=x.2.1):=by
 refine F3 (R:=fun r:(List E8)×Int=>r.1.length=x.1.length/\(∀q∈r.1,q∈x.1)/\0<=r.2/\r.2<=x.2.1) (fun y:(List E8)×Int×FN×Int×Int×Int=>((∀p,Tot (y.2.2.1 p) fun _=>True)/\0<y.2.2.2.1/\y.2.2.2.1<y.2.1/\0<=y.2.2.2.2.1/\y.2.2.2.2.2=y.2.2.2.2.1+2*y.2.2.2.1/\y.2.1=y.1.length/\y.2.1<=1048576/\y.2.2.2.2.1<=y.2.1)/\y.2.1=x.2.1/\y.2.2.1=x.2.2.1/\y.2.2.2.1=x.2.2.2.1/\y.1.length=x.1.length/\∀q∈y.1,q∈x.1) (fun y:(List E8)×Int×FN×Int×Int×Int=>(y.2.1-y.2.2.2.2.1).toNat) ?_ _ _ (by grind) (by unfold fuel;grind);rintro next ⟨data_0,n_1,cmp_2,blockSize_6,a_7,b_8⟩ h hn
 try dsimp only at h hn
 unfold yK
 repeat' first
  |(with_reducible first|refine E1.2 ⟨fun _=>?_,fun _=>?_⟩|refine D_.2 ?_|refine E0.2 ?_|refine(A56 _ ?_).mono fun _ _=>?_|refine hn _ ?_ ?_)
  |dsimp only
 all_goals grind[EB,EA,EE,E6,E2,ED,EC,E9,EF,EG,EP,EJ,EQ,ER,ES,ET,EU]
theorem AMM(x:(List E8)×Int×FN×Int)(h:(∀p,Tot (x.2.2.1 p) fun _=>True)/\0<x.2.2.2/\x.2.2.2<=2097152/\x.2.1=x.1.length/\x.2.1<=1048576):Tot (lO x) (fun r:List E8=>r.length=x.1.length/\(∀q∈r,q∈x.1)):=by
 refine F3 (R:=fun r:List E8=>r.length=x.1.length/\(∀q∈r,q∈x.1)) (fun y:(List E8)×Int×FN×Int=>((∀p,Tot (y.2.2.1 p) fun _=>True)/\0<y.2.2.2/\y.2.2.2<=2097152/\y.2.1=y.1.length/\y.2.1<=1048576)/\y.2.1=x.2.1/\y.2.2.1=x.2.2.1/\y.1.length=x.1.length/\∀q∈y.1,q∈x.1) (fun y:(List E8)×Int×FN×Int=>(2097153-y.2.2.2).toNat) ?_ _ _ (by grind) (by unfold fuel;grind);rintro next ⟨data_0,n_1,cmp_2,blockSize_6⟩ h hn
 try dsimp only at h hn
 unfold yL
 repeat' first
  |(with_reducible first|refine E1.2 ⟨fun _=>?_,fun _=>?_⟩|refine D_.2 ?_|refine E0.2 ?_|refine(AML _ ?_).mono fun _ _=>?_|refine(A56 _ ?_).mono fun _ _=>?_|refine hn _ ?_ ?_)
  |dsimp only
 all_goals grind[EB,EA,EE,E6,E2,ED,EC,E9,EF,EG,EP,EJ,EQ,ER,ES,ET,EU]
theorem AMN(x:(List E8)×Int×FN)(h:(∀p,Tot (x.2.2 p) fun _=>True)/\x.2.1=x.1.length/\x.2.1<=1048576):Tot (aR x) (fun r:List E8=>r.length=x.1.length/\(∀q∈r,q∈x.1)):=by
 obtain⟨data_0,n_1,cmp_2⟩:=x;try dsimp only at h ⊢
 unfold aR
 repeat' first
  |(with_reducible first|refine D_.2 ?_|refine E0.2 ?_|refine(AMK _ ?_).mono fun _ _=>?_|refine(A55 _ ?_).mono fun _ _=>?_|refine(AMM _ ?_).mono fun _ _=>?_)
  |dsimp only
 all_goals grind[EB,EA,EE,E6,E2,ED,EC,E9,EF,EG,EP,EJ,EQ,ER,ES,ET,EU]
theorem AMO(x:(List E8)×FN)(h:(∀p,Tot (x.2 p) fun _=>True)/\x.1.length<=1048576):Tot (aS x) (fun r:List E8=>r.length=x.1.length/\(∀q∈r,q∈x.1)):=by
 obtain⟨x_0,cmp_1⟩:=x;try dsimp only at h ⊢
 unfold aS
 repeat' first
  |(with_reducible first|refine D_.2 ?_|refine E0.2 ?_|refine(AMN _ ?_).mono fun _ _=>?_)
  |dsimp only
 all_goals grind[EB,EA,EE,E6,E2,ED,EC,E9,EF,EG,EP,EJ,EQ,ER,ES,ET,EU]
theorem AMP(x:DZ)(h:True):Tot (QR x) (fun r:Bool=>True):=by
 unfold QR
 repeat' first
  |with_reducible refine E0.2 ?_
  |dsimp only
 all_goals grind[EB,EA,EE,E6,E2,ED,EC,E9,EF,EG,EP,EJ,EQ,ER,ES,ET,EU]
theorem A5J(x:DZ×DZ)(h:True):Tot (L_ x) (fun r:Int=>-1<=r/\r<=1):=by
 obtain⟨x_0,y_1⟩:=x;try dsimp only at h ⊢
 unfold L_
 repeat' first
  |(with_reducible first|refine E1.2 ⟨fun _=>?_,fun _=>?_⟩|refine D_.2 ?_|refine E0.2 ?_|refine(AMP _ ?_).mono fun _ _=>?_)
  |dsimp only
 all_goals grind[EB,EA,EE,E6,E2,ED,EC,E9,EF,EG,EP,EJ,EQ,ER,ES,ET,EU]
theorem AMQ(x:(DZ×DZ)×(DZ×DZ))(h:True):Tot (YH x) (fun r:Int=>True):=by
 obtain⟨a_0,b_1⟩:=x;try dsimp only at h ⊢
 unfold YH
 repeat' first
  |(with_reducible first|refine D_.2 ?_|refine E0.2 ?_|refine(A5J _ ?_).mono fun _ _=>?_)
  |dsimp only
 all_goals grind[EB,EA,EE,E6,E2,ED,EC,E9,EF,EG,EP,EJ,EQ,ER,ES,ET,EU]
theorem AMR(x:DZ×Int×Int)(h:x.1.length<=3000/\x.2.1=0/\x.2.2= -1):Tot (YA x) (fun r:H6×F4=>r.1.2.2.2.2.1.length<=1048576):=by
 unfold YA;obtain⟨g1,g2,g3⟩:=h;refine D_.2 ((AJx _ ⟨by dsimp only;omega,by dsimp only;omega,by dsimp only;omega⟩).mono fun r1 h1=>?_);dsimp only at h1;refine E1.2 ⟨fun _=>E0.2 (by simp),fun _=>?_⟩;refine D_.2 ((A4k _ ⟨by rw[h1.1];omega,h1.2.1,by rw[h1.1];exact h1.2.2.1⟩).mono fun r2 h2=>?_);obtain⟨a1,a2,a3,a4,a5,a6⟩:=h2;rw[h1.1]at a1 a3;rw[EY (by omega) (by omega)];refine D_.2 (H4.2 ⟨⟨by omega,by omega,by omega⟩,?_⟩);have hj:(Lib.join ((r2.1.take ((r2.1.length:Int)-1).toNat).drop (0:Int).toNat) [47]).length<=1048577*(1048576+1):=dD (fun s hs=>a6 s (EP hs)) (by rw[EJ];omega) (by simp);refine D_.2 ((RN _ ⟨by dsimp only;rw[EJ];omega,by dsimp only;omega⟩).mono fun r4 h4=>?_);refine D_.2 (E_.2 ⟨⟨by omega,by omega⟩,fun y5 hy5=>?_⟩);refine D_.2 (Tot.mono (P:=fun r6:Int=>r6=0\/r2.2.2.1<r2.2.1.length) ?_ fun r6 h6=>?_)
 ·refine E1.2 ⟨fun _=>(RP _ ⟨_,rfl,by omega⟩).mono fun r hr=>?_,fun _=>E0.2 (Or.inl rfl)⟩;rcases hr.2 with h|⟨y,hy,h⟩
  ·exact Or.inl h
  ·cases hy;exact Or.inr h
 refine D_.2 ((AK6 _ ⟨by dsimp only;rw[a1];omega,by dsimp only;omega,by dsimp only;rw[a1];omega,fun he=>?_,by simp⟩).mono fun r8 h8=>?_)
 ·dsimp only at he ⊢;rcases h6 with h6|h6
  ·subst h6;simp[E2]at he
  ·exact h6
 dsimp only at h8;obtain⟨b1,b2,b3,b4,b5,b6,b7,b8⟩:=h8;rw[a1]at b1 b3;refine D_.2 ((AK7 _ ⟨by dsimp only;rw[b1];omega,by dsimp only;omega,by dsimp only;rw[b1];omega,?_,by dsimp only;omega,?_⟩).mono fun r13 h13=>?_)
 ·dsimp only;rw[b8];simp;omega
 ·dsimp only;rw[b8];simp
 dsimp only at h13;obtain⟨c1,c2,c3,c4,c5,c6,c7,c8,c9,c10⟩:=h13;rw[b1]at c1 c3;refine D_.2 (Tot.mono (P:=fun r14:Int=>r14=0\/r13.1.2.1<r13.1.1.length) ?_ fun r14 h14=>?_)
 ·refine E1.2 ⟨fun _=>(RP _ ⟨_,rfl,by omega⟩).mono fun r hr=>?_,fun _=>E0.2 (Or.inl rfl)⟩;rcases hr.2 with h|⟨y,hy,h⟩
  ·exact Or.inl h
  ·cases hy;exact Or.inr h
 refine D_.2 ((AKC _ ⟨by dsimp only;rw[c1];omega,by dsimp only;omega,by dsimp only;rw[c1];omega,fun he=>?_,?_⟩).mono fun r17 h17=>?_)
 ·dsimp only at he ⊢;rcases h14 with h14|h14
  ·subst h14;simp[E2]at he
  ·exact h14
 ·dsimp only;rw[c8,b8];simp
 dsimp only at h17;obtain⟨d1,d2,d3,d4,d5,d6,d7,d8,d9⟩:=h17;refine E1.2 ⟨fun _=>D_.2 ((RO _ trivial).mono fun r19 _=>E0.2 ?_),fun _=>E0.2 ?_⟩<;>
 ·dsimp only;rw[d8];exact c9
theorem AMS(x:IZ×H6×Int)(h:1<=x.2.2/\x.2.1.2.2.2.2.1.length<=1048576):Tot (jO x) (fun r:Sum (IZ×H6) (IZ×Int×Int)=>(∀y,r=.inl y->y.2.2.2.2.2.1.length<=1048576)/\∀y,r=.inr y->y.2.2≠0):=by
 refine F3 (R:=fun r:Sum (IZ×H6) (IZ×Int×Int)=>(∀y,r=.inl y->y.2.2.2.2.2.1.length<=1048576)/\∀y,r=.inr y->y.2.2≠0)
  (fun y:IZ×H6×Int=>1<=y.2.2/\y.2.1.2.2.2.2.1.length<=1048576) (fun y:IZ×H6×Int=>(y.2.1.2.2.2.2.1.length-y.2.2:Int).toNat) ?_ _ _ h (by unfold fuel;omega)
 rintro next ⟨t2,p,i⟩ h hn
 dsimp only at h hn;unfold w_;dsimp only;refine E1.2 ⟨fun hc=>?_,fun _=>E0.2 ⟨fun y hy=>by cases hy;exact h.2,fun y hy=>by cases hy⟩⟩;have hc:=A8 hc;rw[EY (by omega) (by omega),EY (by omega) (by omega)];refine D_.2 (FF.2 ⟨⟨by omega,by omega⟩,?_⟩);refine D_.2 (FF.2 ⟨⟨by omega,by omega⟩,?_⟩);refine E1.2 ⟨fun _=>E0.2 ⟨fun y hy=>(by cases hy),fun y hy=>(by cases hy;simp)⟩,fun _=>?_⟩;exact hn _ ⟨by dsimp only;omega,by dsimp only;omega⟩ (by dsimp only;omega)
theorem A5K(x:DZ)(h:x.length<=1048576):Tot (U2 x) (fun r:IZ×Int×Int=>r.2.2=0->r.1.2.2.2.2.1.length<=1048576):=by
 unfold U2;refine E1.2 ⟨fun _=>E0.2 (by simp),fun hc=>?_⟩;have hc:=AG hc;refine D_.2 ((AMR _ ⟨by dsimp only;omega,rfl,rfl⟩).mono fun r2 h2=>?_);refine E1.2 ⟨fun _=>E0.2 (by simp),fun _=>?_⟩;refine D_.2 ((AMJ _ ⟨fun c=>GR (AMQ c trivial),h2⟩).mono fun r4 h4=>?_);refine D_.2 ((AMS _ ⟨by dsimp only;omega,by dsimp only;rw[h4.1];exact h2⟩).mono fun r8 h8=>?_);rcases r8 with y|y
 ·have hy:=h8.1 y rfl;refine D_.2 ((A4w _ hy).mono fun r11 h11=>?_);refine E1.2 ⟨fun he=>E0.2 fun h0=>?_,fun he=>?_⟩
  ·dsimp only at h0;rw[h0,E2]at he;simp at he
  ·rw[E2]at he;have h0:r11=0:=by simpa using he
   have hb:=h11 h0;refine D_.2 ((A4v _ hb).mono fun r14 h14=>E0.2 fun _=>?_);have:=h14.2.2.2.2.2.1;dsimp only;omega
 ·exact E0.2 fun h0=>absurd h0 (h8.2 y rfl)
theorem AMT(x:DZ)(h:x.length<=1048576):Tot (aH x) (fun r:Bool=>True):=by
 unfold aH
 repeat' first
  |(with_reducible first|refine E1.2 ⟨fun _=>?_,fun _=>?_⟩|refine D_.2 ?_|refine E0.2 ?_|refine(A5K _ ?_).mono fun _ _=>?_|refine(A4y _ ?_).mono fun _ _=>?_)
  |dsimp only
 all_goals grind[EB,EA,EE,E6,E2,ED,EC,E9,EF,EG,EP,EJ,EQ,ER,ES,ET,EU]
theorem AMU(x:GU×H_×Int×Int)(h:0<=x.2.2.2/\x.2.2.2<=x.2.2.1/\x.2.2.1=x.2.1.length/\x.2.2.1<=281474976710656/\(∀v∈x.2.1,v.2.length<=1048576)/\(∀j:Nat,(j:Int)<x.2.2.2->∀v,x.2.1[j]?=some v->1<=v.1/\v.1<=3)):Tot (kZ x) (fun r:Sum (Unit) (Int)=>(∀y,r=.inl y->∀v∈x.2.1,1<=v.1/\v.1<=3)/\∀y,r=.inr y->y≠0):=by
 refine F3 (R:=fun r:Sum Unit Int=>(∀y,r=.inl y->∀v∈x.2.1,1<=v.1/\v.1<=3)/\∀y,r=.inr y->y≠0)
  (fun y:Af×H_×Int×Int=>0<=y.2.2.2/\y.2.2.2<=y.2.2.1/\y.2.2.1=y.2.1.length/\y.2.2.1<=281474976710656/\y.2.1=x.2.1/\(∀v∈y.2.1,v.2.length<=1048576)/\∀j:Nat,(j:Int)<y.2.2.2->∀v,y.2.1[j]?=some v->1<=v.1/\v.1<=3)
  (fun y=>(y.2.2.1-y.2.2.2).toNat) ?_ _ _ ⟨h.1,h.2.1,h.2.2.1,h.2.2.2.1,rfl,h.2.2.2.2⟩ (by unfold fuel;have:=h.2.2.2.1;omega)
 rintro next ⟨a,l,n,i⟩ hI hn
 dsimp only at hI hn;obtain⟨i0,i1,i2,i3,i4,i5,i6⟩:=hI;unfold xX;dsimp only;refine E1.2 ⟨fun hc=>?_,fun hc=>E0.2 ⟨fun y _ v hv=>?_,fun y hy=>(by cases hy)⟩⟩
 ·have hc:=A8 hc;rw[EY (by omega) (by omega)];refine D_.2 (E_.2 ⟨⟨i0,by omega⟩,fun v hv=>?_⟩);refine E1.2 ⟨fun _=>E0.2 ⟨fun y hy=>(by cases hy),fun y hy=>(by cases hy;decide)⟩,fun hk=>?_⟩
  have hk:1<=v.1/\v.1<=3:=by
   have:=BM.1 hk;have h1:=AG this.1;have h2:=AG this.2;omega
  have hstep:∀j:Nat,(j:Int)<i+1->∀v,l[j]?=some v->1<=v.1/\v.1<=3:=by
   intro j hj w hw;by_cases hj':(j:Int)<i
   ·exact i6 j hj' w hw
   ·have:j=i.toNat:=by omega
    subst this;rw[hv]at hw;cases hw;exact hk
  have hgo:Tot (next (a,l,n,i+1)) (fun r:Sum Unit Int=>(∀y,r=.inl y->∀v∈x.2.1,1<=v.1/\v.1<=3)/\∀y,r=.inr y->y≠0):=
   hn _ ⟨by dsimp only;omega,by dsimp only;omega,i2,i3,i4,i5,hstep⟩ (by dsimp only;omega)
  refine E1.2 ⟨fun _=>E1.2 ⟨fun _=>E0.2 ⟨fun y hy=>(by cases hy),fun y hy=>(by cases hy;decide)⟩,fun _=>hgo⟩,fun _=>?_⟩;refine D_.2 ((dI (a.2.1,v.2) (i5 v (N6 hv))).mono fun r _=>?_);refine E1.2 ⟨fun he=>E0.2 ⟨fun y hy=>(by cases hy),fun y hy=>?_⟩,fun _=>hgo⟩;cases hy;rw[E2]at he;simpa using he
 ·have hc:=AG hc;rw[<-i4]at hv;obtain⟨j,hj,hjv⟩:=List.mem_iff_getElem.1 hv;exact i6 j (by omega) v (by rw[<-hjv];exact A0 hj)
theorem AMV(x:DZ×Int×H_×(List DZ)×(List DZ))(h:N4 x):Tot (aJ x) (fun r:Int=>r=0->x.2.2.1.length<=100/\∀v∈x.2.2.1,1<=v.1/\v.1<=3):=by
 unfold aJ;refine E1.2 ⟨fun _=>E0.2 fun h0=>absurd h0 (by decide),fun hc=>?_⟩;have hc:=AG hc;refine D_.2 ((AMU _ ⟨B7 _,BJ _,rfl,by dsimp only;omega,h.2.2.1,fun j hj=>by dsimp only at hj;omega⟩).mono fun r hr=>?_);rcases r with r|r
 ·exact E0.2 fun _=>⟨by omega,hr.1 r rfl⟩
 ·exact E0.2 fun h0=>absurd h0 (hr.2 r rfl)
set_option maxHeartbeats 1000000 in
theorem AMW(x:DZ×Bool×Int×Int)(h:0<=x.2.2.2/\x.2.2.2<=x.2.2.1/\x.2.2.1<=281474976710656/\x.2.2.1=x.1.length/\x.2.2.1<=1048576):Tot (k_ x) (fun r:Bool=>True):=by
 refine F3 (R:=fun r:Bool=>True) (fun y:DZ×Bool×Int×Int=>(0<=y.2.2.2/\y.2.2.2<=y.2.2.1/\y.2.2.1<=281474976710656/\y.2.2.1=y.1.length/\y.2.2.1<=1048576)) (fun y:DZ×Bool×Int×Int=>(y.2.2.1-y.2.2.2).toNat) ?_ _ _ (by grind) (by unfold fuel;grind);rintro next ⟨s_4,bad_5,t25,t26⟩ h hn
 try dsimp only at h hn
 unfold xY
 repeat' first
  |(with_reducible first|refine E1.2 ⟨fun _=>?_,fun _=>?_⟩|refine D_.2 ?_|refine E0.2 ?_|refine E_.2 ⟨?_,fun _ _=>?_⟩|refine hn _ ?_ ?_)
  |dsimp only
 all_goals grind[EB,EA,EE,E6,E2,ED,EC,E9,EF,EG,EP,EJ,EQ,ER,ES,ET,EU]
theorem AMX(x:(List DZ)×(List DZ)×Int×Int)(h:0<=x.2.2.2/\x.2.2.2<=x.2.2.1/\x.2.2.1=x.2.1.length/\x.2.2.1<=281474976710656/\x.1=x.2.1/\∀s∈x.2.1,s.length<=1048576):Tot (lA x) (fun r:Sum (Unit) (Int)=>∀y,r=.inr y->y≠0):=by
 refine F3 (R:=fun r:Sum Unit Int=>∀y,r=.inr y->y≠0)
  (fun y:(List DZ)×(List DZ)×Int×Int=>0<=y.2.2.2/\y.2.2.2<=y.2.2.1/\y.2.2.1=y.2.1.length/\y.2.2.1<=281474976710656/\y.1=y.2.1/\∀v∈y.2.1,v.length<=1048576)
  (fun y=>(y.2.2.1-y.2.2.2).toNat) ?_ _ _ h (by unfold fuel;have:=h.2.2.2.1;omega)
 rintro next ⟨a,l,n,i⟩ hI hn
 dsimp only at hI hn;obtain⟨i0,i1,i2,i3,i4,i5⟩:=hI;subst i4;unfold xZ;dsimp only;refine E1.2 ⟨fun hc=>?_,fun hc=>E0.2 fun y hy=>(by cases hy)⟩;have hc:=A8 hc;rw[EY (n:=i+1) (by omega) (by omega),EY (by omega) (by omega)];refine D_.2 (E_.2 ⟨⟨i0,by omega⟩,fun v hv=>?_⟩);have hvl:=i5 v (N6 hv);refine D_.2 ((AMW _ ⟨B7 _,BJ _,by dsimp only;omega,rfl,by dsimp only;omega⟩).mono fun r _=>?_);refine E1.2 ⟨fun _=>E0.2 fun y hy=>(by cases hy;decide),fun _=>?_⟩;refine D_.2 (Tot.mono (P:=fun _=>True) (E1.2 ⟨fun hz=>?_,fun _=>E0.2 trivial⟩) fun y7 _=>?_)
 ·have hz:=A8 hz;exact E_.2 ⟨⟨by omega,by omega⟩,fun _ _=>trivial⟩
 ·refine E1.2 ⟨fun _=>E0.2 fun y hy=>(by cases hy;decide),fun _=>?_⟩;exact hn _ ⟨by dsimp only;omega,by dsimp only;omega,i2,i3,rfl,i5⟩ (by dsimp only;omega)
theorem AMY(x:List DZ)(h:∀s∈x,s.length<=1048576):Tot (aK x) (fun r:Int=>True):=by
 unfold aK
 repeat' first
  |(with_reducible first|refine E1.2 ⟨fun _=>?_,fun _=>?_⟩|refine D_.2 ?_|refine E0.2 ?_|refine(AMX _ ?_).mono fun _ _=>?_)
  |split
  |dsimp only
 all_goals grind[EB,EA,EE,E6,E2,ED,EC,E9,EF,EG,EP,EJ,EQ,ER,ES,ET,EU]
theorem AMZ(x:GU×(List DZ)×Int×Int)(h:0<=x.2.2.2/\x.2.2.2<=x.2.2.1/\x.2.2.1=x.2.1.length/\x.2.2.1<=281474976710656/\∀s∈x.2.1,s.length<=1048576):Tot (lB x) (fun r:Sum GU (Int)=>(∀y,r=.inl y->y=x.1)/\∀y,r=.inr y->y≠0):=by
 refine F3 (R:=fun r:Sum GU (Int)=>(∀y,r=.inl y->y=x.1)/\∀y,r=.inr y->y≠0) (fun y:GU×(List DZ)×Int×Int=>(0<=y.2.2.2/\y.2.2.2<=y.2.2.1/\y.2.2.1=y.2.1.length/\y.2.2.1<=281474976710656/\∀s∈y.2.1,s.length<=1048576)/\y.1=x.1) (fun y:GU×(List DZ)×Int×Int=>(y.2.2.1-y.2.2.2).toNat) ?_ _ _ (by grind) (by unfold fuel;grind);rintro next ⟨a_1,t32,t33,t34⟩ h hn
 try dsimp only at h hn
 unfold x_
 repeat' first
  |(with_reducible first|refine E1.2 ⟨fun _=>?_,fun _=>?_⟩|refine D_.2 ?_|refine E0.2 ?_|refine E_.2 ⟨?_,fun _ _=>?_⟩|refine(dI _ ?_).mono fun _ _=>?_|refine hn _ ?_ ?_)
  |dsimp only
 all_goals grind[EB,EA,EE,E6,E2,ED,EC,E9,EF,EG,EP,EJ,EQ,ER,ES,ET,EU]
theorem AM_(x:DZ×Int×H_×(List DZ)×(List DZ))(h:N4 x):Tot (aL x) (fun r:Int=>r=0->qI x):=by
 unfold aL;refine D_.2 ((AMT _ h.1).mono fun r1 _=>?_);refine E1.2 ⟨fun _=>E0.2 fun h0=>absurd h0 (by decide),fun _=>?_⟩;refine E1.2 ⟨fun _=>E0.2 fun h0=>absurd h0 (by decide),fun _=>?_⟩;refine D_.2 ((AMV _ h).mono fun r3 h3=>?_);refine E1.2 ⟨fun he=>E0.2 fun h0=>?_,fun he=>?_⟩
 ·rw[E2,h0]at he;simp at he
 have h30:r3=0:=by rw[E2]at he;simpa using he
 refine E1.2 ⟨fun _=>E0.2 fun h0=>absurd h0 (by decide),fun hc=>?_⟩;have hc:=AG hc;refine D_.2 ((AMZ _ ⟨B7 _,BJ _,rfl,by dsimp only;omega,h.2.2.2.2.1⟩).mono fun r6 h6=>?_);rcases r6 with y|y
 ·have:=h6.1 y rfl;subst this;exact D_.2 ((AMY _ h.2.2.2.2.2.2).mono fun r8 _=>E0.2 fun _=>⟨(h3 h30).1,(h3 h30).2,by omega⟩)
 ·exact E0.2 fun h0=>absurd h0 (h6.2 y rfl)
theorem AMa(x:Unit)(h:True):Tot (aM x) (fun r:List Int=>r.length=4):=by
 unfold aM
 repeat' first
  |with_reducible refine E0.2 ?_
  |dsimp only
 all_goals grind[EB,EA,EE,E6,E2,ED,EC,E9,EF,EG,EP,EJ,EQ,ER,ES,ET,EU]
theorem AMb(x:(Int->Option DZ)×(List Int)×(List Int)×Int×Int)(h:0<=x.2.2.2.2/\x.2.2.2.2<=x.2.2.2.1/\x.2.2.2.1=x.2.2.1.length/\x.2.2.2.1<=281474976710656/\(∀n∈x.2.2.1,Tot (x.1 n) fun s=>s.length<=100)/\x.2.2.2.1<=1002/\x.2.1.length<=100*x.2.2.2.2):Tot (kJ x) (fun r:List Int=>r.length<=100200):=by
 refine F3 (R:=fun r:List Int=>r.length<=100200) (fun y:(Int->Option DZ)×(List Int)×(List Int)×Int×Int=>0<=y.2.2.2.2/\y.2.2.2.2<=y.2.2.2.1/\y.2.2.2.1=y.2.2.1.length/\y.2.2.2.1<=281474976710656/\(∀n∈y.2.2.1,Tot (y.1 n) fun s=>s.length<=100)/\y.2.2.2.1<=1002/\y.2.1.length<=100*y.2.2.2.2)
  (fun y=>(y.2.2.2.1-y.2.2.2.2).toNat) ?_ _ _ h (by unfold fuel;have:=h.2.2.2.1;omega)
 rintro next ⟨f,b,l,n,i⟩ hI hn
 dsimp only at hI hn;obtain⟨i0,i1,i2,i3,i4,i5,i6⟩:=hI;unfold xN;dsimp only;refine E1.2 ⟨fun hc=>?_,fun hc=>E0.2 (by omega)⟩;have hc:=A8 hc;rw[EY (by omega) (by omega)];refine D_.2 (E_.2 ⟨⟨i0,by omega⟩,fun v hv=>?_⟩);refine D_.2 ((i4 v (N6 hv)).mono fun s hs=>?_);refine D_.2 ((VB _ ⟨by dsimp only;omega,by dsimp only;omega⟩).mono fun r3 h3=>?_);dsimp only at h3;exact hn _ ⟨by dsimp only;omega,by dsimp only;omega,i2,i3,i4,i5,by dsimp only;omega⟩ (by dsimp only;omega)
theorem A5L(x:(List Int)×DZ×(Int->Option DZ))(h:(∀n∈x.1,Tot (x.2.2 n) fun s=>s.length<=100)/\x.1.length<=1002/\x.2.1.length<=10):Tot (UF x) (fun r:DZ=>r.length<=100210):=by
 obtain⟨l,e,f⟩:=x;dsimp only at h ⊢;unfold UF;obtain⟨h1,h2,h3⟩:=h;dsimp only;refine D_.2 ((AMb _ ⟨B7 _,BJ _,rfl,by dsimp only;omega,h1,by dsimp only;omega,by simp⟩).mono fun r hr=>?_);refine D_.2 ((P1 _ trivial).mono fun s hs=>?_);exact D_.2 (FT.2 ⟨by omega,E0.2 (by rw[A7];omega)⟩)
theorem AMc(x:(DZ->Option DZ)×(List Int)×(List DZ)×Int×Int)(h:0<=x.2.2.2.2/\x.2.2.2.2<=x.2.2.2.1/\x.2.2.2.1=x.2.2.1.length/\x.2.2.2.1<=281474976710656/\(∀n∈x.2.2.1,Tot (x.1 n) fun s=>s.length<=3000)/\x.2.2.2.1<=1002/\x.2.1.length<=3000*x.2.2.2.2):Tot (kK x) (fun r:List Int=>r.length<=3006000):=by
 refine F3 (R:=fun r:List Int=>r.length<=3006000) (fun y:(DZ->Option DZ)×(List Int)×(List DZ)×Int×Int=>0<=y.2.2.2.2/\y.2.2.2.2<=y.2.2.2.1/\y.2.2.2.1=y.2.2.1.length/\y.2.2.2.1<=281474976710656/\(∀n∈y.2.2.1,Tot (y.1 n) fun s=>s.length<=3000)/\y.2.2.2.1<=1002/\y.2.1.length<=3000*y.2.2.2.2)
  (fun y=>(y.2.2.2.1-y.2.2.2.2).toNat) ?_ _ _ h (by unfold fuel;have:=h.2.2.2.1;omega)
 rintro next ⟨f,b,l,n,i⟩ hI hn
 dsimp only at hI hn;obtain⟨i0,i1,i2,i3,i4,i5,i6⟩:=hI;unfold xO;dsimp only;refine E1.2 ⟨fun hc=>?_,fun hc=>E0.2 (by omega)⟩;have hc:=A8 hc;rw[EY (by omega) (by omega)];refine D_.2 (E_.2 ⟨⟨i0,by omega⟩,fun v hv=>?_⟩);refine D_.2 ((i4 v (N6 hv)).mono fun s hs=>?_);refine D_.2 ((VB _ ⟨by dsimp only;omega,by dsimp only;omega⟩).mono fun r3 h3=>?_);dsimp only at h3;exact hn _ ⟨by dsimp only;omega,by dsimp only;omega,i2,i3,i4,i5,by dsimp only;omega⟩ (by dsimp only;omega)
theorem A5M(x:(List DZ)×DZ×(DZ->Option DZ))(h:(∀n∈x.1,Tot (x.2.2 n) fun s=>s.length<=3000)/\x.1.length<=1002/\x.2.1.length<=10):Tot (UG x) (fun r:DZ=>r.length<=3006010):=by
 obtain⟨l,e,f⟩:=x;dsimp only at h ⊢;unfold UG;obtain⟨h1,h2,h3⟩:=h;dsimp only;refine D_.2 ((AMc _ ⟨B7 _,BJ _,rfl,by dsimp only;omega,h1,by dsimp only;omega,by simp⟩).mono fun r hr=>?_);refine D_.2 ((P1 _ trivial).mono fun s hs=>?_);exact D_.2 (FT.2 ⟨by omega,E0.2 (by rw[A7];omega)⟩)
theorem AMd(x:DZ)(h:x.length<=1000):Tot (ZO x) (fun r:DZ=>r.length<=3000):=by
 unfold ZO
 repeat' first
  |(with_reducible first|refine E1.2 ⟨fun _=>?_,fun _=>?_⟩|refine D_.2 ?_|refine E0.2 ?_|refine E_.2 ⟨?_,fun _ _=>?_⟩|refine FT.2 ⟨?_,?_⟩|refine(JP _ ?_).mono fun _ _=>?_|refine(JD _ ?_).mono fun _ _=>?_)
  |dsimp only
 all_goals grind[EB,EA,EE,E6,E2,ED,EC,E9,EF,EG,EP,EJ,EQ,ER,ES,ET,EU]
theorem dJ(x:(List Int)×(List DZ))(h:dC x):Tot (MN x) (fun r:DZ=>r.length<=10000000):=by
 unfold MN;obtain⟨h1,h2,h3,h4⟩:=h;refine D_.2 (H4.2 ⟨⟨by omega,by omega,by omega⟩,?_⟩);refine D_.2 ((A5L _ ⟨fun n hn=>D_.2 ((JD n (h2 n (EP hn))).mono fun r hr=>E0.2 (by omega)),by dsimp only;rw[EJ];omega,by simp⟩).mono fun r2 hr2=>?_);refine E1.2 ⟨fun _=>D_.2 (FT.2 ⟨by simp;omega,E0.2 (by simp;omega)⟩),fun _=>?_⟩;refine D_.2 (FT.2 ⟨by simp;omega,?_⟩);refine D_.2 ((A5M _ ⟨fun s hs=>D_.2 ((AMd s (h4 s hs)).mono fun r hr=>E0.2 hr),h3,by simp⟩).mono fun r5 hr5=>?_);exact D_.2 (FT.2 ⟨by simp;omega,E0.2 (by simp;omega)⟩)
theorem dK(x:Int×DZ×DZ×Bool)(h:P2 x):Tot (MO x) (fun r:DZ=>r.length<=10000000):=by
 unfold MO
 repeat' first
  |(with_reducible first|refine D_.2 ?_|refine E0.2 ?_|refine E_.2 ⟨?_,fun _ _=>?_⟩|refine FT.2 ⟨?_,?_⟩|refine(JD _ ?_).mono fun _ _=>?_|refine(A5H _ ?_).mono fun _ _=>?_|refine(A5G _ ?_).mono fun _ _=>?_)
  |dsimp only
 all_goals grind[EB,EA,EE,E6,E2,ED,EC,E9,EF,EG,EP,EJ,EQ,ER,ES,ET,EU]
theorem AMe(x:Int)(h:0<=x/\x<=999999999999999999):Tot (ZP x) (fun r:DZ=>r.length<=100):=by
 unfold ZP
 repeat' first
  |(with_reducible first|refine D_.2 ?_|refine E0.2 ?_|refine E_.2 ⟨?_,fun _ _=>?_⟩|refine FT.2 ⟨?_,?_⟩|refine(JD _ ?_).mono fun _ _=>?_)
  |dsimp only
 all_goals grind[EB,EA,EE,E6,E2,ED,EC,E9,EF,EG,EP,EJ,EQ,ER,ES,ET,EU]
theorem AMf(x:Int×(List Int)×Int×Int×Int×Int×(List DZ))(h:0<=x.2.2.1/\x.2.2.1<=3):Tot (ZQ x) (fun r:Int=>0<=r/\r<=4):=by
 unfold ZQ
 repeat' first
  |(with_reducible first|refine E1.2 ⟨fun _=>?_,fun _=>?_⟩|refine E0.2 ?_)
  |dsimp only
 all_goals grind[EB,EA,EE,E6,E2,ED,EC,E9,EF,EG,EP,EJ,EQ,ER,ES,ET,EU]
theorem AMg(x:Int)(h:x<=999999999999999999):Tot (ZR x) (fun r:DZ=>r.length<=30):=by
 unfold ZR
 repeat' first
  |(with_reducible first|refine E1.2 ⟨fun _=>?_,fun _=>?_⟩|refine D_.2 ?_|refine E0.2 ?_|refine E_.2 ⟨?_,fun _ _=>?_⟩|refine FT.2 ⟨?_,?_⟩|refine(JD _ ?_).mono fun _ _=>?_)
  |dsimp only
 all_goals grind[EB,EA,EE,E6,E2,ED,EC,E9,EF,EG,EP,EJ,EQ,ER,ES,ET,EU]
theorem AMh(x:DZ)(h:x.length<=1000):Tot (ZS x) (fun r:DZ=>r.length<=3000):=by
 unfold ZS
 repeat' first
  |(with_reducible first|refine E1.2 ⟨fun _=>?_,fun _=>?_⟩|refine D_.2 ?_|refine E0.2 ?_|refine E_.2 ⟨?_,fun _ _=>?_⟩|refine FT.2 ⟨?_,?_⟩|refine(JP _ ?_).mono fun _ _=>?_|refine(JD _ ?_).mono fun _ _=>?_)
  |dsimp only
 all_goals grind[EB,EA,EE,E6,E2,ED,EC,E9,EF,EG,EP,EJ,EQ,ER,ES,ET,EU]
theorem AMi(x:G6×DZ×Bool)(h:(x.2.2=true->0<=x.1.2.2.2.2.2.1/\x.1.2.2.2.2.2.1<=999999999999999999)/\x.2.1.length<=10000000):Tot (ZT x) (fun r:G6×DZ=>r.1=x.1/\r.2.length<=x.2.1.length+30):=by
 obtain⟨v_1,s_3,t27⟩:=x;try dsimp only at h ⊢
 unfold ZT
 repeat' first
  |(with_reducible first|refine E1.2 ⟨fun _=>?_,fun _=>?_⟩|refine D_.2 ?_|refine E0.2 ?_|refine E_.2 ⟨?_,fun _ _=>?_⟩|refine FT.2 ⟨?_,?_⟩|refine(JD _ ?_).mono fun _ _=>?_)
  |dsimp only
 all_goals grind[EB,EA,EE,E6,E2,ED,EC,E9,EF,EG,EP,EJ,EQ,ER,ES,ET,EU]
theorem dL(x:Int×(List Int)×Int×Int×Int×Int×(List DZ))(h:M5 x):Tot (MP x) (fun r:DZ=>r.length<=10000000):=by
 unfold MP;obtain⟨h1,h2,h3,h4,h5,h6,h7⟩:=h;refine D_.2 ((JD _ h1).mono fun r1 g1=>?_);refine D_.2 ((A5I _ h2).mono fun r2 g2=>?_);refine D_.2 ((A5L _ ⟨fun n hn=>D_.2 ((AMe n (g2.2 n hn)).mono fun r hr=>E0.2 hr),g2.1,by simp⟩).mono fun r3 g3=>?_);refine D_.2 (FT.2 ⟨by omega,?_⟩);refine D_.2 ((AMf _ h3).mono fun r5 g5=>?_);refine D_.2 ((IP _ trivial).mono fun r6 g6=>?_);refine D_.2 ((JD _ h4).mono fun r7 g7=>?_);refine D_.2 (FT.2 ⟨by omega,?_⟩);refine D_.2 ((AMg _ h5.2).mono fun r9 g9=>?_);refine D_.2 (FT.2 ⟨by rw[A7];omega,?_⟩);refine D_.2 (FT.2 ⟨by simp only[A7];omega,?_⟩);refine D_.2 ((AMi _ ⟨fun he=>⟨A8 he,h6.2⟩,by simp only[A7];omega⟩).mono fun r16 g16=>?_);simp only[A7]at g16;refine E1.2 ⟨fun _=>D_.2 (FT.2 ⟨by simp;omega,E0.2 (by simp;omega)⟩),fun _=>?_⟩;refine D_.2 (FT.2 ⟨by simp;omega,?_⟩);refine D_.2 ((A5M _ ⟨fun s hs=>D_.2 ((AMh s (h7.2 s (by rw[g16.1]at hs;exact hs))).mono fun r hr=>E0.2 hr),by dsimp only;rw[g16.1];exact h7.1,by simp⟩).mono fun r19 g19=>?_);exact D_.2 (FT.2 ⟨by simp;omega,E0.2 (by simp;omega)⟩)
theorem A5N(x:Unit)(h:True):Tot (UH x) (fun r:List DZ=>r.length=5):=by
 unfold UH
 repeat' first
  |with_reducible refine E0.2 ?_
  |dsimp only
 all_goals grind[EB,EA,EE,E6,E2,ED,EC,E9,EF,EG,EP,EJ,EQ,ER,ES,ET,EU]
theorem AMj(x:(List DZ)×DZ×Int×Int)(h:0<=x.2.2.2/\x.2.2.2<=x.2.2.1/\x.2.2.1=x.1.length/\x.2.2.1<=281474976710656):Tot (ZV x) (fun r:Sum (Unit) (Int)=>∀y,r=.inr y->0<=y/\y<x.1.length):=by
 refine F3 (R:=fun r:Sum (Unit) (Int)=>∀y,r=.inr y->0<=y/\y<x.1.length) (fun y:(List DZ)×DZ×Int×Int=>(0<=y.2.2.2/\y.2.2.2<=y.2.2.1/\y.2.2.1=y.1.length/\y.2.2.1<=281474976710656)/\y.1=x.1) (fun y:(List DZ)×DZ×Int×Int=>(y.2.2.1-y.2.2.2).toNat) ?_ _ _ (by grind) (by unfold fuel;grind);rintro next ⟨s_0,v_1,t7,t8⟩ h hn
 try dsimp only at h hn
 unfold ZU
 repeat' first
  |(with_reducible first|refine E1.2 ⟨fun _=>?_,fun _=>?_⟩|refine D_.2 ?_|refine E0.2 ?_|refine E_.2 ⟨?_,fun _ _=>?_⟩|refine hn _ ?_ ?_)
  |dsimp only
 all_goals grind[EB,EA,EE,E6,E2,ED,EC,E9,EF,EG,EP,EJ,EQ,ER,ES,ET,EU]
theorem A5O(x:(List DZ)×DZ)(h:x.1.length<=1048576):Tot (MQ x) (fun r:Int=>-1<=r/\r<x.1.length):=by
 obtain⟨s_0,v_1⟩:=x;try dsimp only at h ⊢
 unfold MQ
 repeat' first
  |(with_reducible first|refine D_.2 ?_|refine E0.2 ?_|refine(AMj _ ?_).mono fun _ _=>?_)
  |split
  |dsimp only
 all_goals grind[EB,EA,EE,E6,E2,ED,EC,E9,EF,EG,EP,EJ,EQ,ER,ES,ET,EU]
theorem AMk(x:(List DZ)×DZ)(h:x.1.length<=1048576):Tot (OR x) (fun r:Bool=>True):=by
 obtain⟨s_0,v_1⟩:=x;try dsimp only at h ⊢
 unfold OR
 repeat' first
  |(with_reducible first|refine D_.2 ?_|refine E0.2 ?_|refine(A5O _ ?_).mono fun _ _=>?_)
  |dsimp only
 all_goals grind[EB,EA,EE,E6,E2,ED,EC,E9,EF,EG,EP,EJ,EQ,ER,ES,ET,EU]
theorem qP(x:Bool×DZ×Int)(h:True):Tot (QW x) (fun r:Bool=>True):=by
 unfold QW
 repeat' first
  |(with_reducible first|refine E1.2 ⟨fun _=>?_,fun _=>?_⟩|refine D_.2 ?_|refine E0.2 ?_|refine(A5N _ ?_).mono fun _ _=>?_|refine(AMk _ ?_).mono fun _ _=>?_)
  |dsimp only
 all_goals grind[EB,EA,EE,E6,E2,ED,EC,E9,EF,EG,EP,EJ,EQ,ER,ES,ET,EU]
theorem AMl(x:Bool×DZ×Int)(h:x.2.1.length<=5000/\0<=x.2.2/\x.2.2<=999999999999999999):Tot (UI x) (fun r:DZ=>r.length<=6000):=by
 unfold UI
 repeat' first
  |(with_reducible first|refine E1.2 ⟨fun _=>?_,fun _=>?_⟩|refine D_.2 ?_|refine E0.2 ?_|refine E_.2 ⟨?_,fun _ _=>?_⟩|refine FT.2 ⟨?_,?_⟩|refine(JD _ ?_).mono fun _ _=>?_|refine(qP _ ?_).mono fun _ _=>?_|refine(A5N _ ?_).mono fun _ _=>?_|refine(A5O _ ?_).mono fun _ _=>?_|refine(IP _ ?_).mono fun _ _=>?_)
  |dsimp only
 all_goals grind[EB,EA,EE,E6,E2,ED,EC,E9,EF,EG,EP,EJ,EQ,ER,ES,ET,EU]
theorem AMm(x:DZ×Int×(List GA)×Int×Int)(h:0<=x.2.2.2.2/\x.2.2.2.2<=x.2.2.2.1/\x.2.2.2.1=x.2.2.1.length/\x.2.2.2.1<=281474976710656/\x.1.length<=7000*x.2.2.2.2/\0<=x.2.1/\x.2.1<=x.2.2.2.2/\x.2.2.2.1<=1002/\(∀t∈x.2.2.1,t.2.1.length<=5000/\0<=t.2.2/\t.2.2<=999999999999999999)):Tot (kL x) (fun r:DZ=>r.length<=7014000):=by
 refine F3 (R:=fun r:DZ=>r.length<=7014000) (fun y:DZ×Int×(List GA)×Int×Int=>(0<=y.2.2.2.2/\y.2.2.2.2<=y.2.2.2.1/\y.2.2.2.1=y.2.2.1.length/\y.2.2.2.1<=281474976710656/\y.1.length<=7000*y.2.2.2.2/\0<=y.2.1/\y.2.1<=y.2.2.2.2/\y.2.2.2.1<=1002/\(∀t∈y.2.2.1,t.2.1.length<=5000/\0<=t.2.2/\t.2.2<=999999999999999999))) (fun y:DZ×Int×(List GA)×Int×Int=>(y.2.2.2.1-y.2.2.2.2).toNat) ?_ _ _ (by grind) (by unfold fuel;grind);rintro next ⟨s_3,blanks_4,t8,t9,t10⟩ h hn
 try dsimp only at h hn
 unfold xP
 repeat' first
  |(with_reducible first|refine E1.2 ⟨fun _=>?_,fun _=>?_⟩|refine D_.2 ?_|refine E0.2 ?_|refine E_.2 ⟨?_,fun _ _=>?_⟩|refine FT.2 ⟨?_,?_⟩|refine(qJ _ ?_).mono fun _ _=>?_|refine(qP _ ?_).mono fun _ _=>?_|refine(IP _ ?_).mono fun _ _=>?_|refine(AMl _ ?_).mono fun _ _=>?_|refine hn _ ?_ ?_)
  |dsimp only
 all_goals grind[EB,EA,EE,E6,E2,ED,EC,E9,EF,EG,EP,EJ,EQ,ER,ES,ET,EU]
theorem dM(x:List GA)(h:TS x):Tot (MR x) (fun r:DZ=>r.length<=10000000):=by
 unfold MR
 repeat' first
  |(with_reducible first|refine D_.2 ?_|refine E0.2 ?_|refine E_.2 ⟨?_,fun _ _=>?_⟩|refine FT.2 ⟨?_,?_⟩|refine(AMm _ ?_).mono fun _ _=>?_)
  |dsimp only
 all_goals grind[EB,EA,EE,E6,E2,ED,EC,E9,EF,EG,EP,EJ,EQ,ER,ES,ET,EU]
theorem dN(x:Int)(h:0<=x/\x<=999999999999999999):Tot (MS x) (fun r:DZ=>r.length<=10000000):=by
 unfold MS
 repeat' first
  |(with_reducible first|refine D_.2 ?_|refine E0.2 ?_|refine(JD _ ?_).mono fun _ _=>?_)
  |dsimp only
 all_goals grind[EB,EA,EE,E6,E2,ED,EC,E9,EF,EG,EP,EJ,EQ,ER,ES,ET,EU]
theorem AMn(x:Int×DZ)(h:x.2.length<=1048576):Tot (RA x) (fun r:DZ×Int=>r.1.length<=10000000):=by
 unfold RA;refine D_.2 ((NU _ h).mono fun r1 h1=>?_);refine E1.2 ⟨fun _=>E0.2 (by simp),fun he=>?_⟩;have h0:r1.2=0:=by rw[E2]at he;simpa using he
 have hv:=h1 h0;revert hv;generalize r1.1=v;intro hv;refine D_.2 (Tot.mono (P:=fun r:DZ=>r.length<=10000000) ?_ fun r2 hr=>E0.2 hr)
 ·rcases v with x|x|x|x|x|x
  ·exact D_.2 ((dJ _ hv).mono fun _ h=>E0.2 (by omega))
  ·exact D_.2 ((dK _ hv).mono fun _ h=>E0.2 (by omega))
  ·exact D_.2 ((dL _ hv).mono fun _ h=>E0.2 (by omega))
  ·exact D_.2 ((dM _ hv).mono fun _ h=>E0.2 (by omega))
  ·exact D_.2 ((dN _ hv).mono fun _ h=>E0.2 (by omega))
  ·exact hv.elim
theorem AMo(x:Int×(List Int)×Int×Int)(h:0<=x.2.2.2/\x.2.2.2<=x.2.2.1/\x.2.2.1=x.2.1.length/\x.2.2.1<=281474976710656):Tot (lP x) (fun r:Sum (Unit) (Int)=>True):=by
 refine F3 (R:=fun r:Sum (Unit) (Int)=>True) (fun y:Int×(List Int)×Int×Int=>(0<=y.2.2.2/\y.2.2.2<=y.2.2.1/\y.2.2.1=y.2.1.length/\y.2.2.1<=281474976710656)) (fun y:Int×(List Int)×Int×Int=>(y.2.2.1-y.2.2.2).toNat) ?_ _ _ (by grind) (by unfold fuel;grind);rintro next ⟨zero_3,t6,t7,t8⟩ h hn
 try dsimp only at h hn
 unfold yM
 repeat' first
  |(with_reducible first|refine E1.2 ⟨fun _=>?_,fun _=>?_⟩|refine D_.2 ?_|refine E0.2 ?_|refine E_.2 ⟨?_,fun _ _=>?_⟩|refine hn _ ?_ ?_)
  |dsimp only
 all_goals grind[EB,EA,EE,E6,E2,ED,EC,E9,EF,EG,EP,EJ,EQ,ER,ES,ET,EU]
theorem AMp(x:List Int)(h:x.length<=1048576):Tot (aT x) (fun r:Int=>True):=by
 unfold aT
 repeat' first
  |(with_reducible first|refine D_.2 ?_|refine E0.2 ?_|refine(AMo _ ?_).mono fun _ _=>?_)
  |split
  |dsimp only
 all_goals grind[EB,EA,EE,E6,E2,ED,EC,E9,EF,EG,EP,EJ,EQ,ER,ES,ET,EU]
theorem AMq(x:E8×E8)(h:True):Tot (aU x) (fun r:Int=>True):=by
 obtain⟨x_0,y_1⟩:=x;try dsimp only at h ⊢
 unfold aU
 repeat' first
  |(with_reducible first|refine D_.2 ?_|refine E0.2 ?_|refine(A5J _ ?_).mono fun _ _=>?_|refine(ALS _ ?_).mono fun _ _=>?_|refine(AMp _ ?_).mono fun _ _=>?_)
  |dsimp only
 all_goals grind[EB,EA,EE,E6,E2,ED,EC,E9,EF,EG,EP,EJ,EQ,ER,ES,ET,EU]
theorem AMr(x:GU×(List E8)×H_×Int×Int)(h:0<=x.2.2.2.2/\x.2.2.2.2<=x.2.2.2.1/\x.2.2.2.1=x.2.2.1.length/\x.2.2.2.1<=281474976710656/\x.2.1.length<=x.2.2.2.2/\(∀m∈x.2.1,m.2.2.1.length<=100)/\(∀v∈x.2.2.1,v.2.length<=1048576/\1<=v.1/\v.1<=3)/\x.2.2.2.1<=100):Tot (lQ x) (fun r:List E8=>r.length<=100/\∀m∈r,m.2.2.1.length<=100):=by
 refine F3 (R:=fun r:List E8=>r.length<=100/\∀m∈r,m.2.2.1.length<=100) (fun y:GU×(List E8)×H_×Int×Int=>(0<=y.2.2.2.2/\y.2.2.2.2<=y.2.2.2.1/\y.2.2.2.1=y.2.2.1.length/\y.2.2.2.1<=281474976710656/\y.2.1.length<=y.2.2.2.2/\(∀m∈y.2.1,m.2.2.1.length<=100)/\(∀v∈y.2.2.1,v.2.length<=1048576/\1<=v.1/\v.1<=3)/\y.2.2.2.1<=100)) (fun y:GU×(List E8)×H_×Int×Int=>(y.2.2.2.1-y.2.2.2.2).toNat) ?_ _ _ (by grind) (by unfold fuel;grind);rintro next ⟨a_1,out_3,t8,t9,t10⟩ h hn
 try dsimp only at h hn
 unfold yN
 repeat' first
  |(with_reducible first|refine E1.2 ⟨fun _=>?_,fun _=>?_⟩|refine D_.2 ?_|refine E0.2 ?_|refine E_.2 ⟨?_,fun _ _=>?_⟩|refine FZ.2 ⟨?_,?_⟩|refine(AMa _ ?_).mono fun _ _=>?_|refine(AMn _ ?_).mono fun _ _=>?_|refine(dI _ ?_).mono fun _ _=>?_|refine hn _ ?_ ?_)
  |dsimp only
 all_goals grind[EB,EA,EE,E6,E2,ED,EC,E9,EF,EG,EP,EJ,EQ,ER,ES,ET,EU]
theorem AMs(x:DZ×Int×H_×(List DZ)×(List DZ))(h:N4 x/\qI x):Tot (aV x) (fun r:List E8=>r.length<=100/\∀m∈r,m.2.2.1.length<=100):=by
 unfold aV;obtain⟨h1,h2,h3,h4⟩:=h;refine D_.2 ((AMr _ ⟨B7 _,BJ _,rfl,by dsimp only;omega,by simp,by simp,fun v hv=>⟨h1.2.2.1 v hv,h3 v hv⟩,by dsimp only;omega⟩).mono fun r hr=>?_);refine D_.2 ((AMO _ ⟨fun c=>GR (AMq c trivial),by dsimp only;omega⟩).mono fun r2 hr2=>E0.2 ?_);dsimp only at hr2;exact⟨by omega,fun m hm=>hr.2 m (hr2.2 m hm)⟩
theorem AMt(x:FI×Bool×GC×(List E8)×Int×Int)(h:0<=x.2.2.2.2.2/\x.2.2.2.2.2<=x.2.2.2.2.1/\x.2.2.2.2.1=x.2.2.2.1.length/\x.2.2.2.2.1<=281474976710656/\x.1.length<=x.2.2.2.2.2/\(∀s∈x.1,H7 s)/\x.2.2.1.2.2.length<=100/\x.2.2.2.2.1<=100/\∀m∈x.2.2.2.1,m.2.2.1.length<=100):Tot (lR x) (fun r:FI×Bool×GC=>r.1.length<=100/\(∀s∈r.1,H7 s)/\r.2.2.2.2.length<=100):=by
 refine F3 (R:=fun r:FI×Bool×GC=>r.1.length<=100/\(∀s∈r.1,H7 s)/\r.2.2.2.2.length<=100) (fun y:FI×Bool×GC×(List E8)×Int×Int=>(0<=y.2.2.2.2.2/\y.2.2.2.2.2<=y.2.2.2.2.1/\y.2.2.2.2.1=y.2.2.2.1.length/\y.2.2.2.2.1<=281474976710656/\y.1.length<=y.2.2.2.2.2/\(∀s∈y.1,H7 s)/\y.2.2.1.2.2.length<=100/\y.2.2.2.2.1<=100/\∀m∈y.2.2.2.1,m.2.2.1.length<=100)) (fun y:FI×Bool×GC×(List E8)×Int×Int=>(y.2.2.2.2.1-y.2.2.2.2.2).toNat) ?_ _ _ (by grind) (by unfold fuel;grind);rintro next ⟨out_3,on_4,low_5,t15,t16,t17⟩ h hn
 try dsimp only at h hn
 unfold yO
 repeat' first
  |(with_reducible first|refine E1.2 ⟨fun _=>?_,fun _=>?_⟩|refine D_.2 ?_|refine E0.2 ?_|refine E_.2 ⟨?_,fun _ _=>?_⟩|refine FZ.2 ⟨?_,?_⟩|refine hn _ ?_ ?_)
  |dsimp only
 all_goals grind[EB,EA,EE,E6,E2,ED,EC,E9,EF,EG,EP,EJ,EQ,ER,ES,ET,EU]
theorem AMu(x:FI×GC×Bool)(h:x.1.length<=100/\(∀s∈x.1,H7 s)/\x.2.1.2.2.length<=100):Tot (aW x) (fun r:List (GC×GC)=>r.length<=101/\(∀s∈r,H7 s)):=by
 obtain⟨out_3,low_5,t56⟩:=x;try dsimp only at h ⊢
 unfold aW
 repeat' first
  |(with_reducible first|refine E1.2 ⟨fun _=>?_,fun _=>?_⟩|refine D_.2 ?_|refine E0.2 ?_|refine FZ.2 ⟨?_,?_⟩)
  |dsimp only
 all_goals grind[EB,EA,EE,E6,E2,ED,EC,E9,EF,EG,EP,EJ,EQ,ER,ES,ET,EU]
theorem AMv(x:GU×FI×(List DZ)×Int×Int)(h:0<=x.2.2.2.2/\x.2.2.2.2<=x.2.2.2.1/\x.2.2.2.1=x.2.2.1.length/\x.2.2.2.1<=281474976710656/\x.2.1.length<=101+x.2.2.2.2/\(∀s∈x.2.1,H7 s)/\x.2.2.2.1<=500/\∀m∈x.2.2.1,m.length<=1048576):Tot (lS x) (fun r:List (GC×GC)=>r.length<=601/\(∀s∈r,H7 s)):=by
 refine F3 (R:=fun r:List (GC×GC)=>r.length<=601/\(∀s∈r,H7 s)) (fun y:GU×FI×(List DZ)×Int×Int=>(0<=y.2.2.2.2/\y.2.2.2.2<=y.2.2.2.1/\y.2.2.2.1=y.2.2.1.length/\y.2.2.2.1<=281474976710656/\y.2.1.length<=101+y.2.2.2.2/\(∀s∈y.2.1,H7 s)/\y.2.2.2.1<=500/\∀m∈y.2.2.1,m.length<=1048576)) (fun y:GU×FI×(List DZ)×Int×Int=>(y.2.2.2.1-y.2.2.2.2).toNat) ?_ _ _ (by grind) (by unfold fuel;grind);rintro next ⟨a_1,out_3,t63,t64,t65⟩ h hn
 try dsimp only at h hn
 unfold yP
 repeat' first
  |(with_reducible first|refine E1.2 ⟨fun _=>?_,fun _=>?_⟩|refine D_.2 ?_|refine E0.2 ?_|refine E_.2 ⟨?_,fun _ _=>?_⟩|refine FZ.2 ⟨?_,?_⟩|refine(dI _ ?_).mono fun _ _=>?_|refine hn _ ?_ ?_)
  |dsimp only
 all_goals grind[EB,EA,EE,E6,E2,ED,EC,E9,EF,EG,EP,EJ,EQ,ER,ES,ET,EU]
theorem AMw(x:DZ×Int×H_×(List DZ)×(List DZ))(h:N4 x/\qI x):Tot (aX x) (fun r:List (GC×GC)=>r.length<=601/\(∀s∈r,H7 s)):=by
 unfold aX;refine D_.2 ((AMs _ h).mono fun r hr=>?_);obtain⟨h1,h2,h3,h4⟩:=h;refine D_.2 ((AMt _ ⟨B7 _,BJ _,rfl,by dsimp only;omega,by simp,by simp,by simp,by dsimp only;omega,hr.2⟩).mono fun r5 h5=>?_);refine D_.2 ((AMu _ h5).mono fun r8 h8=>?_);exact D_.2 ((AMv _ ⟨B7 _,BJ _,rfl,by dsimp only;omega,by dsimp only;omega,h8.2,by dsimp only;omega,h1.2.2.2.2.1⟩).mono fun r13 h13=>E0.2 h13)
theorem AMx(x:Int×GC)(h:x.2.2.2.length<=1048576):Tot (MT x) (fun r:DZ×Int=>True):=by
 unfold MT;refine E1.2 ⟨fun _=>E1.2 ⟨fun _=>E0.2 trivial,fun _=>E0.2 trivial⟩,fun _=>?_⟩;refine D_.2 ((NU _ h).mono fun r1 h1=>?_);refine E1.2 ⟨fun _=>E0.2 trivial,fun he=>?_⟩;have h0:r1.2=0:=by rw[E2]at he;simpa using he
 have hv:=h1 h0;revert hv;generalize r1.1=v;intro hv;refine D_.2 (Tot.mono (P:=fun r:DZ=>r.length<=10000000) ?_ fun r2 hr=>?_)
 ·rcases v with x|x|x|x|x|x
  ·exact D_.2 ((qK _ hv).mono fun _ h=>E0.2 (by omega))
  ·exact D_.2 ((qL _ hv).mono fun _ h=>E0.2 (by omega))
  ·exact D_.2 ((qM _ hv).mono fun _ h=>E0.2 (by omega))
  ·exact D_.2 ((qN _ hv).mono fun _ h=>E0.2 (by omega))
  ·exact D_.2 ((qO _ trivial).mono fun _ h=>E0.2 (by omega))
  ·exact hv.elim
 refine E1.2 ⟨fun _=>E0.2 trivial,fun _=>?_⟩;refine D_.2 (Tot.mono (P:=fun r:DZ=>r.length<=10000000) ?_ fun r2 hr=>E0.2 trivial)
 ·rcases v with x|x|x|x|x|x
  ·exact D_.2 ((dJ _ hv).mono fun _ h=>E0.2 (by omega))
  ·exact D_.2 ((dK _ hv).mono fun _ h=>E0.2 (by omega))
  ·exact D_.2 ((dL _ hv).mono fun _ h=>E0.2 (by omega))
  ·exact D_.2 ((dM _ hv).mono fun _ h=>E0.2 (by omega))
  ·exact D_.2 ((dN _ hv).mono fun _ h=>E0.2 (by omega))
  ·exact hv.elim
theorem A5P(x:GC×DZ)(h:x.1.2.2.length<=100):Tot (UJ x) (fun r:Int×DZ×Bool×DZ=>r.2.2.2.length<=100):=by
 obtain⟨b_0,key_1⟩:=x;try dsimp only at h ⊢
 unfold UJ
 repeat' first
  |(with_reducible first|refine E1.2 ⟨fun _=>?_,fun _=>?_⟩|refine E0.2 ?_)
  |dsimp only
 all_goals grind[EB,EA,EE,E6,E2,ED,EC,E9,EF,EG,EP,EJ,EQ,ER,ES,ET,EU]
theorem A5Q(x:GC×DZ)(h:x.1.2.2.length<=100):Tot (UK x) (fun r:Int×DZ×Bool×DZ=>r.2.2.2.length<=100):=by
 obtain⟨b_0,key_1⟩:=x;try dsimp only at h ⊢
 unfold UK
 repeat' first
  |(with_reducible first|refine E1.2 ⟨fun _=>?_,fun _=>?_⟩|refine E0.2 ?_)
  |dsimp only
 all_goals grind[EB,EA,EE,E6,E2,ED,EC,E9,EF,EG,EP,EJ,EQ,ER,ES,ET,EU]
theorem AMy(x:FJ×Int×Bool)(h:x.1.1.2.2.2.length<=100/\x.2.1=0):Tot (aY x) (fun r:FJ×Int=>r.1=x.1/\0<=r.2/\r.2<=1000000000000000000):=by
 obtain⟨s_1,first_5,t10⟩:=x;try dsimp only at h ⊢
 unfold aY
 repeat' first
  |(with_reducible first|refine E1.2 ⟨fun _=>?_,fun _=>?_⟩|refine D_.2 ?_|refine E0.2 ?_|refine(JP _ ?_).mono fun _ _=>?_)
  |dsimp only
 all_goals grind[EB,EA,EE,E6,E2,ED,EC,E9,EF,EG,EP,EJ,EQ,ER,ES,ET,EU]
set_option maxHeartbeats 1000000 in
theorem AMz(x:JJ×JJ)(h:x.1.2.2.2.length<=100/\x.2.2.2.2.length<=100):Tot (aZ x) (fun r:Int×Int×Bool=>0<=r.1/\r.2.1<=999999999999999999/\(r.2.2=true->r.1<=r.2.1)):=by
 unfold aZ
 repeat' first
  |(with_reducible first|refine E1.2 ⟨fun _=>?_,fun _=>?_⟩|refine D_.2 ?_|refine E0.2 ?_|refine(AMy _ ?_).mono fun _ _=>?_|refine(JP _ ?_).mono fun _ _=>?_)
  |dsimp only
 all_goals grind[EB,EA,EE,E6,E2,ED,EC,E9,EF,EG,EP,EJ,EQ,ER,ES,ET,EU]
theorem AN0(x:Int×JJ×Bool)(h:0<=x.1/\x.1<=999999999999999999/\x.2.1.2.2.2.length<=100):Tot (a_ x) (fun r:Int×DZ×Bool×DZ=>r.2.2.2.length<=100):=by
 obtain⟨last_8,high_10,t27⟩:=x;try dsimp only at h ⊢
 unfold a_
 repeat' first
  |(with_reducible first|refine E1.2 ⟨fun _=>?_,fun _=>?_⟩|refine D_.2 ?_|refine E0.2 ?_|refine(JD _ ?_).mono fun _ _=>?_|refine(IP _ ?_).mono fun _ _=>?_)
  |dsimp only
 all_goals grind[EB,EA,EE,E6,E2,ED,EC,E9,EF,EG,EP,EJ,EQ,ER,ES,ET,EU]
theorem AN1(x:(List FJ)×Int×(List FJ)×Int×Int)(h:0<=x.2.2.2.2/\x.2.2.2.2<=x.2.2.2.1/\x.2.2.2.1=x.2.2.1.length/\x.2.2.2.1<=281474976710656/\x.1.length<=x.2.2.2.2/\(∀s∈x.1,H1 s)/\(∀s∈x.2.2.1,H1 s)/\x.2.2.2.1<=1048576/\ -2<=x.2.1/\x.2.1<=999999999999999999):Tot (lT x) (fun r:List FJ=>r.length<=1048576/\∀s∈r,H1 s):=by
 refine F3 (R:=fun r:List HG=>r.length<=1048576/\∀s∈r,H1 s) (fun y:(List HG)×Int×(List HG)×Int×Int=>0<=y.2.2.2.2/\y.2.2.2.2<=y.2.2.2.1/\y.2.2.2.1=y.2.2.1.length/\y.2.2.2.1<=281474976710656/\y.1.length<=y.2.2.2.2/\(∀s∈y.1,H1 s)/\(∀s∈y.2.2.1,H1 s)/\y.2.2.2.1<=1048576/\ -2<=y.2.1/\y.2.1<=999999999999999999)
  (fun y=>(y.2.2.2.1-y.2.2.2.2).toNat) ?_ _ _ h (by unfold fuel;have:=h.2.2.2.1;omega)
 rintro next ⟨out,e,l,n,i⟩ hI hn
 dsimp only at hI hn;obtain⟨i0,i1,i2,i3,i4,i5,i6,i7,i8,i9⟩:=hI;unfold yQ;dsimp only;refine E1.2 ⟨fun hc=>?_,fun hc=>E0.2 ⟨by omega,i5⟩⟩;have hc:=A8 hc;rw[EY (n:=i+1) (by omega) (by omega),EY (n:=e+1) (by omega) (by omega)];refine D_.2 (E_.2 ⟨⟨i0,by omega⟩,fun v hv=>?_⟩);have hvb:=i6 v (N6 hv);refine D_.2 ((AMz _ hvb).mono fun r2 h2=>?_);obtain⟨j1,j2,j3⟩:=h2;refine E1.2 ⟨fun _=>hn _ ⟨by dsimp only;omega,by dsimp only;omega,i2,i3,by dsimp only;omega,i5,i6,i7,i8,i9⟩ (by dsimp only;omega),fun hb=>?_⟩;have hle:=j3 (by simpa using hb);refine D_.2 (Tot.mono (P:=fun r:Edge=>r.2.2.2.length<=100) ((AN0 _ ⟨by dsimp only;omega,by dsimp only;omega,by simp⟩)) fun r5 h5=>?_);by_cases hl:(0:Int)<out.length
 ·rw[EY (n:=(out.length:Int)-1) (by omega) (by omega)];refine E1.2 ⟨fun _=>?_,fun _=>?_⟩
  ·refine D_.2 (FF.2 ⟨⟨by omega,by omega⟩,?_⟩);refine hn _ ⟨by dsimp only;omega,by dsimp only;omega,i2,i3,by dsimp only;rw[AF];omega,fun s hs=>?_,i6,i7,by dsimp only;omega,by dsimp only;omega⟩ (by dsimp only;omega);dsimp only at hs;rcases EG hs with hs|hs
   ·exact i5 s hs
   ·subst hs;exact⟨(i5 _ (EF (by omega))).1,h5⟩
  ·refine D_.2 ((JD _ ⟨j1,by omega⟩).mono fun r8 h8=>?_);refine D_.2 ((IP _ trivial).mono fun r9 h9=>?_);refine D_.2 (FZ.2 ⟨by simp only[AE,AL];omega,?_⟩);refine hn _ ⟨by dsimp only;omega,by dsimp only;omega,i2,i3,by dsimp only;rw[A7];simp only[AE,AL];omega,fun s hs=>?_,i6,i7,by dsimp only;omega,by dsimp only;omega⟩ (by dsimp only;omega);dsimp only at hs;rcases AQ.1 hs with hs|hs
   ·exact i5 s hs
   ·rw[AR]at hs;subst hs;exact⟨by dsimp only;omega,h5⟩
 ·rw[A9 hl,BZ];simp only[AD];refine D_.2 ((JD _ ⟨j1,by omega⟩).mono fun r8 h8=>?_);refine D_.2 ((IP _ trivial).mono fun r9 h9=>?_);refine D_.2 (FZ.2 ⟨by simp only[AE,AL];omega,?_⟩);refine hn _ ⟨by dsimp only;omega,by dsimp only;omega,i2,i3,by dsimp only;rw[A7];simp only[AE,AL];omega,fun s hs=>?_,i6,i7,by dsimp only;omega,by dsimp only;omega⟩ (by dsimp only;omega);dsimp only at hs;rcases AQ.1 hs with hs|hs
  ·exact i5 s hs
  ·rw[AR]at hs;subst hs;exact⟨by dsimp only;omega,h5⟩
theorem AN2(x:List FJ)(h:(∀s∈x,H1 s)/\x.length<=1048576):Tot (b9 x) (fun r:List FJ=>r.length<=1048576/\∀s∈r,H1 s):=by
 unfold b9
 repeat' first
  |(with_reducible first|refine D_.2 ?_|refine E0.2 ?_|refine(AN1 _ ?_).mono fun _ _=>?_)
  |dsimp only
 all_goals grind[EB,EA,EE,E6,E2,ED,EC,E9,EF,EG,EP,EJ,EQ,ER,ES,ET,EU]
theorem AN3(x:(List FJ)×Bool)(h:(∀s∈x.1,H1 s)/\x.1.length<=1048576):Tot (bA x) (fun r:List FJ=>r.length<=1048576/\∀s∈r,H1 s):=by
 obtain⟨l_1,t11⟩:=x;try dsimp only at h ⊢
 unfold bA
 repeat' first
  |(with_reducible first|refine E1.2 ⟨fun _=>?_,fun _=>?_⟩|refine D_.2 ?_|refine E0.2 ?_|refine(AN2 _ ?_).mono fun _ _=>?_)
  |dsimp only
 all_goals grind[EB,EA,EE,E6,E2,ED,EC,E9,EF,EG,EP,EJ,EQ,ER,ES,ET,EU]
theorem AN4(x:FJ×(GC×GC)×Bool)(h:H1 x.1/\H7 x.2.1):Tot (bB x) (fun r:FJ×(GC×GC)=>r.1=x.1/\H7 r.2):=by
 obtain⟨s_8,x_9,t29⟩:=x;try dsimp only at h ⊢
 unfold bB
 repeat' first
  |(with_reducible first|refine E1.2 ⟨fun _=>?_,fun _=>?_⟩|refine E0.2 ?_)
  |dsimp only
 all_goals grind[EB,EA,EE,E6,E2,ED,EC,E9,EF,EG,EP,EJ,EQ,ER,ES,ET,EU]
set_option maxHeartbeats 1000000 in
theorem AN5(x:(Int×FI)×(List FJ)×Int×Int)(h:0<=x.2.2.2/\x.2.2.2<=x.2.2.1/\x.2.2.1=x.2.1.length/\x.2.2.1<=281474976710656/\x.1.2.length<=x.2.2.2/\x.2.2.1<=200/\(∀s∈x.2.1,H1 s)/\(∀s∈x.1.2,H7 s)):Tot (lU x) (fun r:Int×FI=>r.1=x.1.1/\r.2.length<=200/\∀s∈r.2,H7 s):=by
 refine F3 (R:=fun r:Int×FI=>r.1=x.1.1/\r.2.length<=200/\∀s∈r.2,H7 s) (fun y:(Int×FI)×(List FJ)×Int×Int=>(0<=y.2.2.2/\y.2.2.2<=y.2.2.1/\y.2.2.1=y.2.1.length/\y.2.2.1<=281474976710656/\y.1.2.length<=y.2.2.2/\y.2.2.1<=200/\(∀s∈y.2.1,H1 s)/\(∀s∈y.1.2,H7 s))/\y.1.1=x.1.1) (fun y:(Int×FI)×(List FJ)×Int×Int=>(y.2.2.1-y.2.2.2).toNat) ?_ _ _ (by grind) (by unfold fuel;grind);rintro next ⟨r_6,t20,t21,t22⟩ h hn
 try dsimp only at h hn
 unfold yR
 repeat' first
  |(with_reducible first|refine E1.2 ⟨fun _=>?_,fun _=>?_⟩|refine D_.2 ?_|refine E0.2 ?_|refine E_.2 ⟨?_,fun _ _=>?_⟩|refine FZ.2 ⟨?_,?_⟩|refine(AN4 _ ?_).mono fun _ _=>?_|refine hn _ ?_ ?_)
  |dsimp only
 all_goals grind[EB,EA,EE,E6,E2,ED,EC,E9,EF,EG,EP,EJ,EQ,ER,ES,ET,EU]
theorem AN6(x:Int×(List FJ))(h:(∀s∈x.2,H1 s)/\x.2.length<=1048576):Tot (bC x) (fun r:(Int×FI)×Int=>r.1.2.length<=200/\∀s∈r.1.2,H7 s):=by
 obtain⟨kind_0,l_1⟩:=x;try dsimp only at h ⊢
 unfold bC
 repeat' first
  |(with_reducible first|refine E1.2 ⟨fun _=>?_,fun _=>?_⟩|refine D_.2 ?_|refine E0.2 ?_|refine(AN3 _ ?_).mono fun _ _=>?_|refine(AN5 _ ?_).mono fun _ _=>?_)
  |dsimp only
 all_goals grind[EB,EA,EE,E6,E2,ED,EC,E9,EF,EG,EP,EJ,EQ,ER,ES,ET,EU]
set_option maxHeartbeats 1000000 in
theorem AN7(x:Int×(Int×FI)×(List FJ)×FI×Int×Int)(h:0<=x.2.2.2.2.2/\x.2.2.2.2.2<=x.2.2.2.2.1/\x.2.2.2.2.1=x.2.2.2.1.length/\x.2.2.2.2.1<=281474976710656/\x.2.2.1.length<=x.2.2.2.2.2/\(∀s∈x.2.2.1,H1 s)/\x.2.2.2.2.1<=1048576/\(∀s∈x.2.2.2.1,H7 s)):Tot (lV x) (fun r:Sum ((Int×FI)×(List FJ)) ((Int×FI)×Int)=>(∀y,r=.inl y->y.2.length<=1048576/\∀s∈y.2,H1 s)/\∀y,r=.inr y->y.1.2=[]):=by
 refine F3 (R:=fun r:Sum ((Int×FI)×(List FJ)) ((Int×FI)×Int)=>(∀y,r=.inl y->y.2.length<=1048576/\∀s∈y.2,H1 s)/\∀y,r=.inr y->y.1.2=[]) (fun y:Int×(Int×FI)×(List FJ)×FI×Int×Int=>(0<=y.2.2.2.2.2/\y.2.2.2.2.2<=y.2.2.2.2.1/\y.2.2.2.2.1=y.2.2.2.1.length/\y.2.2.2.2.1<=281474976710656/\y.2.2.1.length<=y.2.2.2.2.2/\(∀s∈y.2.2.1,H1 s)/\y.2.2.2.2.1<=1048576/\(∀s∈y.2.2.2.1,H7 s))) (fun y:Int×(Int×FI)×(List FJ)×FI×Int×Int=>(y.2.2.2.2.1-y.2.2.2.2.2).toNat) ?_ _ _ (by grind) (by unfold fuel;grind);rintro next ⟨kind_0,t4,all_6,t17,t18,t19⟩ h hn
 try dsimp only at h hn
 unfold yS
 repeat' first
  |(with_reducible first|refine E1.2 ⟨fun _=>?_,fun _=>?_⟩|refine D_.2 ?_|refine E0.2 ?_|refine E_.2 ⟨?_,fun _ _=>?_⟩|refine FZ.2 ⟨?_,?_⟩|refine(AMx _ ?_).mono fun _ _=>?_|refine(A5P _ ?_).mono fun _ _=>?_|refine(A5Q _ ?_).mono fun _ _=>?_|refine(P3 _ ?_).mono fun _ _=>?_|refine hn _ ?_ ?_)
  |dsimp only
 all_goals grind[EB,EA,EE,E6,E2,ED,EC,E9,EF,EG,EP,EJ,EQ,ER,ES,ET,EU]
theorem AN8(x:(List FJ)×(List FJ)×Int×Int)(h:0<=x.2.2.2/\x.2.2.2<=x.2.2.1/\x.2.2.1=x.2.1.length/\x.2.2.1<=281474976710656/\x.1.length<=x.2.2.2/\(∀s∈x.1,H1 s)/\x.2.2.1<=1048576/\(∀s∈x.2.1,H1 s)):Tot (lW x) (fun r:List FJ=>r.length<=1048576/\∀s∈r,H1 s):=by
 refine F3 (R:=fun r:List HG=>r.length<=1048576/\∀s∈r,H1 s) (fun y:(List HG)×(List HG)×Int×Int=>0<=y.2.2.2/\y.2.2.2<=y.2.2.1/\y.2.2.1=y.2.1.length/\y.2.2.1<=281474976710656/\y.1.length<=y.2.2.2/\(∀s∈y.1,H1 s)/\y.2.2.1<=1048576/\(∀s∈y.2.1,H1 s))
  (fun y=>(y.2.2.1-y.2.2.2).toNat) ?_ _ _ h (by unfold fuel;have:=h.2.2.2.1;omega)
 rintro next ⟨out,l,n,i⟩ hI hn
 dsimp only at hI hn;obtain⟨i0,i1,i2,i3,i4,i5,i6,i7⟩:=hI;unfold yT;dsimp only;refine E1.2 ⟨fun hc=>?_,fun hc=>E0.2 ⟨by omega,i5⟩⟩;have hc:=A8 hc;rw[EY (n:=i+1) (by omega) (by omega)];refine D_.2 (FF.2 ⟨⟨i0,by omega⟩,?_⟩);have hv:=i7 _ (EF (l:=l) (i:=i.toNat) (d:=((0,(([]:DZ),(false,([]:DZ)))),(0,(([]:DZ),(false,([]:DZ)))))) (by omega));generalize l.getD i.toNat ((0,(([]:DZ),(false,([]:DZ)))),(0,(([]:DZ),(false,([]:DZ)))))=v at hv;have happ:∀(Q:List HG->Prop),Q (out++[v])->Tot (app? 192 out [v]) Q:=fun Q hQ=>FZ.2 ⟨by simp only[AE,AL];omega,hQ⟩
 have hgo:Tot (next (out++[v],l,n,i+1)) (fun r:List HG=>r.length<=1048576/\∀s∈r,H1 s):=by
  refine hn _ ⟨by dsimp only;omega,by dsimp only;omega,i2,i3,by dsimp only;rw[A7];simp only[AE,AL];omega,fun s hs=>?_,i6,i7⟩ (by dsimp only;omega);dsimp only at hs;rcases AQ.1 hs with hs|hs
  ·exact i5 s hs
  ·rw[AR]at hs;subst hs;exact hv
 by_cases hl:(out.length:Int)=0
 ·have e:E4 (out.length:Int) 0=true:=by rw[E2];exact A6 hl
  rw[e];simp only[BU,AD,Bool.true_or,AB];refine D_.2 (E0.2 (D_.2 (E0.2 (D_.2 (happ _ hgo)))))
 ·have e:E4 (out.length:Int) 0=false:=by rw[E2];exact A9 hl
  rw[e,EY (n:=(out.length:Int)-1) (by omega) (by omega)];simp only[CW,AB,CC];refine D_.2 (FF.2 ⟨⟨by omega,by omega⟩,?_⟩);refine D_.2 ((P3 _ trivial).mono fun r16 _=>?_);refine E1.2 ⟨fun _=>D_.2 (happ _ hgo),fun _=>?_⟩;refine D_.2 (FF.2 ⟨⟨by omega,by omega⟩,?_⟩);refine D_.2 ((P3 _ trivial).mono fun r21 _=>?_);refine E1.2 ⟨fun _=>?_,fun _=>hn _ ⟨by dsimp only;omega,by dsimp only;omega,i2,i3,by dsimp only;omega,i5,i6,i7⟩ (by dsimp only;omega)⟩;refine D_.2 (FF.2 ⟨⟨by omega,by omega⟩,?_⟩);refine hn _ ⟨by dsimp only;omega,by dsimp only;omega,i2,i3,by dsimp only;rw[AF];omega,fun s hs=>?_,i6,i7⟩ (by dsimp only;omega);dsimp only at hs;rcases EG hs with hs|hs
  ·exact i5 s hs
  ·subst hs;exact⟨(i5 _ (EF (by omega))).1,hv.2⟩
theorem AN9(x:Int×FI)(h:(∀s∈x.2,H7 s)/\x.2.length<=1048576):Tot (bD x) (fun r:(Int×FI)×Int=>r.1.2.length<=200/\∀s∈r.1.2,H7 s):=by
 unfold bD;obtain⟨h1,h2⟩:=h;refine D_.2 ((AN7 _ ⟨B7 _,BJ _,rfl,by dsimp only;omega,by simp,by simp,by dsimp only;omega,h1⟩).mono fun r hr=>?_);rcases r with y|y
 ·obtain⟨g1,g2⟩:=hr.1 y rfl;refine D_.2 ((ALR y.2).mono fun r13 h13=>?_);have l13:=h13.1.length_eq;refine D_.2 ((AN8 _ ⟨B7 _,BJ _,rfl,by dsimp only;omega,by simp,by simp,by dsimp only;omega,fun s hs=>g2 s (h13.1.mem_iff.1 hs)⟩).mono fun r23 h23=>?_);exact D_.2 ((AN6 _ ⟨h23.2,h23.1⟩).mono fun r24 h24=>E0.2 h24)
 ·have:=hr.2 y rfl;refine E0.2 ?_;dsimp only;rw[this];simp
theorem ANA(x:DZ×Int×H_×(List DZ)×(List DZ))(h:N4 x):Tot (bE x) (fun r:(Int×FI)×Int=>r.1.2.length<=200/\(∀s∈r.1.2,H7 s)):=by
 unfold bE;refine D_.2 ((AM_ _ h).mono fun r1 h1=>?_);refine E1.2 ⟨fun _=>E0.2 (by simp),fun he=>?_⟩;have h0:r1=0:=by rw[E2]at he;simpa using he
 refine D_.2 ((AMw _ ⟨h,h1 h0⟩).mono fun r3 h3=>?_);exact D_.2 ((AN9 _ ⟨h3.2,by dsimp only;omega⟩).mono fun r4 h4=>E0.2 h4)
theorem ANB(x:K6×(List DZ)×Int×Int)(h:0<=x.2.2.2/\x.2.2.2<=x.2.2.1/\x.2.2.1=x.2.1.length/\x.2.2.1<=281474976710656/\(∀s∈x.2.1,s.length<=1048576)/\x.2.1=x.1.2.1):Tot (kX x) (fun r:Sum (Unit) (Int)=>True):=by
 refine F3 (R:=fun r:Sum Unit Int=>True)
  (fun y:KU×(List DZ)×Int×Int=>0<=y.2.2.2/\y.2.2.2<=y.2.2.1/\y.2.2.1=y.2.1.length/\y.2.2.1<=281474976710656/\(∀v∈y.2.1,v.length<=1048576)/\y.2.1=y.1.2.1)
  (fun y=>(y.2.2.1-y.2.2.2).toNat) ?_ _ _ h (by unfold fuel;have:=h.2.2.2.1;omega)
 rintro next ⟨a,l,n,i⟩ hI hn
 dsimp only at hI hn;obtain⟨i0,i1,i2,i3,i4,i5⟩:=hI;unfold xV;dsimp only;refine E1.2 ⟨fun hc=>?_,fun hc=>E0.2 trivial⟩;have hc:=A8 hc;rw[EY (n:=i+1) (by omega) (by omega),EY (by omega) (by omega)];refine D_.2 (E_.2 ⟨⟨i0,by omega⟩,fun v hv=>?_⟩);have hvl:=i4 v (N6 hv);refine D_.2 ((A4i _ (by omega)).mono fun r _=>?_);refine E1.2 ⟨fun _=>E0.2 trivial,fun _=>?_⟩;refine E1.2 ⟨fun _=>E0.2 trivial,fun _=>?_⟩;refine D_.2 (Tot.mono (P:=fun _=>True) (E1.2 ⟨fun hz=>?_,fun _=>E0.2 trivial⟩) fun y7 _=>?_)
 ·have hz:=A8 hz;exact E_.2 ⟨⟨by omega,by rw[<-i5];omega⟩,fun _ _=>trivial⟩
 ·refine E1.2 ⟨fun _=>E0.2 trivial,fun _=>?_⟩;exact hn _ ⟨by dsimp only;omega,by dsimp only;omega,i2,i3,i4,i5⟩ (by dsimp only;omega)
theorem ANC(x:DZ×(List DZ)×DZ×Int×Bool×DZ×(List GU))(h:∀s∈x.2.1,s.length<=1048576):Tot (aD x) (fun r:Int=>True):=by
 unfold aD
 repeat' first
  |(with_reducible first|refine E1.2 ⟨fun _=>?_,fun _=>?_⟩|refine D_.2 ?_|refine E0.2 ?_|refine(ANB _ ?_).mono fun _ _=>?_)
  |split
  |dsimp only
 all_goals grind[EB,EA,EE,E6,E2,ED,EC,E9,EF,EG,EP,EJ,EQ,ER,ES,ET,EU]
theorem AND(x:Unit)(h:True):Tot (aF x) (fun r:List (List (Int×Int))=>r.length=6):=by
 unfold aF
 repeat' first
  |with_reducible refine E0.2 ?_
  |dsimp only
 all_goals grind[EB,EA,EE,E6,E2,ED,EC,E9,EF,EG,EP,EJ,EQ,ER,ES,ET,EU]
theorem ANE(x:DZ×(List Int)×(List (List (Int×Int)))×Int)(h:0<=x.2.2.2/\x.2.2.2<=6/\x.2.2.1.length=6/\x.1.length=6):Tot (kY x) (fun r:Sum (List Int) (Int×Int)=>True):=by
 refine F3 (R:=fun r:Sum (List Int) (Int×Int)=>True) (fun y:DZ×(List Int)×(List (List (Int×Int)))×Int=>(0<=y.2.2.2/\y.2.2.2<=6/\y.2.2.1.length=6/\y.1.length=6)) (fun y:DZ×(List Int)×(List (List (Int×Int)))×Int=>(6-y.2.2.2).toNat) ?_ _ _ (by grind) (by unfold fuel;grind);rintro next ⟨vector_0,w_5,t16,t17⟩ h hn
 try dsimp only at h hn
 unfold xW
 repeat' first
  |(with_reducible first|refine E1.2 ⟨fun _=>?_,fun _=>?_⟩|refine D_.2 ?_|refine E0.2 ?_|refine E_.2 ⟨?_,fun _ _=>?_⟩|refine FF.2 ⟨?_,?_⟩|refine hn _ ?_ ?_)
  |dsimp only
 all_goals grind[EB,EA,EE,E6,E2,ED,EC,E9,EF,EG,EP,EJ,EQ,ER,ES,ET,EU]
theorem ANF(x:DZ)(h:True):Tot (aG x) (fun r:Int×Int=>True):=by
 unfold aG
 repeat' first
  |(with_reducible first|refine E1.2 ⟨fun _=>?_,fun _=>?_⟩|refine D_.2 ?_|refine E0.2 ?_|refine(AND _ ?_).mono fun _ _=>?_|refine(ANE _ ?_).mono fun _ _=>?_|refine qA.2 ⟨?_,?_⟩)
  |split
  |dsimp only
 all_goals grind[EB,EA,EE,E6,E2,ED,EC,E9,EF,EG,EP,EJ,EQ,ER,ES,ET,EU]
theorem ANG(x:K6×Bool)(h:True):Tot (bF x) (fun r:Sum K6 (JK×Int)=>∀y,r=.inl y->y=x.1):=by
 obtain⟨a_1,t37⟩:=x;try dsimp only at h ⊢
 unfold bF
 repeat' first
  |(with_reducible first|refine E1.2 ⟨fun _=>?_,fun _=>?_⟩|refine D_.2 ?_|refine E0.2 ?_|refine(ANF _ ?_).mono fun _ _=>?_)
  |dsimp only
 all_goals grind[EB,EA,EE,E6,E2,ED,EC,E9,EF,EG,EP,EJ,EQ,ER,ES,ET,EU]
theorem ANH(x:JK×(List GU)×Int×Int)(h:0<=x.2.2.2/\x.2.2.2<=x.2.2.1/\x.2.2.1=x.2.1.length/\x.2.2.1<=281474976710656/\x.2.2.1<=50/\x.1.length<=x.2.2.2/\∀z∈x.2.1,N4 z):Tot (lX x) (fun r:Sum JK (JK×Int)=>True):=by
 refine F3 (R:=fun r:Sum JK (JK×Int)=>True) (fun y:JK×(List GU)×Int×Int=>(0<=y.2.2.2/\y.2.2.2<=y.2.2.1/\y.2.2.1=y.2.1.length/\y.2.2.1<=281474976710656/\y.2.2.1<=50/\y.1.length<=y.2.2.2/\∀z∈y.2.1,N4 z)) (fun y:JK×(List GU)×Int×Int=>(y.2.2.1-y.2.2.2).toNat) ?_ _ _ (by grind) (by unfold fuel;grind);rintro next ⟨out_7,t52,t53,t54⟩ h hn
 try dsimp only at h hn
 unfold yU
 repeat' first
  |(with_reducible first|refine E1.2 ⟨fun _=>?_,fun _=>?_⟩|refine D_.2 ?_|refine E0.2 ?_|refine E_.2 ⟨?_,fun _ _=>?_⟩|refine FZ.2 ⟨?_,?_⟩|refine(ANA _ ?_).mono fun _ _=>?_|refine hn _ ?_ ?_)
  |dsimp only
 all_goals grind[EB,EA,EE,E6,E2,ED,EC,E9,EF,EG,EP,EJ,EQ,ER,ES,ET,EU]
theorem ANI(x:DZ×(List DZ)×DZ×Int×Bool×DZ×(List GU))(h:N5 x):Tot (bG x) (fun r:JK×Int=>True):=by
 unfold bG
 repeat' first
  |(with_reducible first|refine E1.2 ⟨fun _=>?_,fun _=>?_⟩|refine D_.2 ?_|refine E0.2 ?_|refine(A4i _ ?_).mono fun _ _=>?_|refine(ANC _ ?_).mono fun _ _=>?_|refine(ANG _ ?_).mono fun _ _=>?_|refine(ANH _ ?_).mono fun _ _=>?_)
  |split
  |dsimp only
 all_goals grind[EB,EA,EE,E6,E2,ED,EC,E9,EF,EG,EP,EJ,EQ,ER,ES,ET,EU,N5]
theorem ANJ(x:DZ×(List DZ)×DZ×Int×Bool×DZ×(List GU))(h:N5 x):Tot (RC x) (fun r:Int=>True):=by
 unfold RC
 repeat' first
  |(with_reducible first|refine D_.2 ?_|refine E0.2 ?_|refine(ANI _ ?_).mono fun _ _=>?_)
  |dsimp only
 all_goals grind[EB,EA,EE,E6,E2,ED,EC,E9,EF,EG,EP,EJ,EQ,ER,ES,ET,EU]
theorem GN{α:Type}{l:List α}{i:Nat}{a:α}(h:l[i]?=some a):l.take (i+1)=l.take i++[a]:=by
 rw[List.take_add_one,h];rfl
abbrev Rg:=Int×(List RR)
noncomputable def P4(v:Vr):Option DZ:=(fun z=>Sum.casesOn (motive:=fun _=>Option DZ) z (fun x=>(MN x).bind fun r=>some r) (fun z=>Sum.casesOn (motive:=fun _=>Option DZ) z (fun x=>(MO x).bind fun r=>some r) (fun z=>Sum.casesOn (motive:=fun _=>Option DZ) z (fun x=>(MP x).bind fun r=>some r) (fun z=>Sum.casesOn (motive:=fun _=>Option DZ) z (fun x=>(MR x).bind fun r=>some r) (fun z=>Sum.casesOn (motive:=fun _=>Option DZ) z (fun x=>(MS x).bind fun r=>some r) (fun _=>none)))))) v
theorem A5R{v:Vr}(hv:J2 v):Tot (P4 v) (fun _=>True):=by
 unfold P4;rcases v with x|x|x|x|x|x
 ·exact D_.2 ((dJ _ hv).mono fun _ h=>E0.2 trivial)
 ·exact D_.2 ((dK _ hv).mono fun _ h=>E0.2 trivial)
 ·exact D_.2 ((dL _ hv).mono fun _ h=>E0.2 trivial)
 ·exact D_.2 ((dM _ hv).mono fun _ h=>E0.2 trivial)
 ·exact D_.2 ((dN _ hv).mono fun _ h=>E0.2 trivial)
 ·exact hv.elim
def Vs(k:Int)(w:DZ)(v:Vr)(s:DZ):Prop:=IL (k,w)=some (v,0)/\P4 v=some s
theorem ANK{k:Int}{w:DZ}{v:Vr}(hw:w.length<=1048576)(h:IL (k,w)=some (v,0)):∃s,Vs k w v s:=by
 obtain⟨r,h1,h2⟩:=NU (k,w) hw;rw[h]at h1;cases h1;obtain⟨s,h3,_⟩:=A5R (h2 rfl);exact⟨s,h,h3⟩
theorem ANL{k:Int}{w:DZ}{v:Vr}{s:DZ}(h:Vs k w v s):RA (k,w)=some (s,0):=by
 show((IL (k,w)).bind fun r1=>bif (!(E4 r1.2 (0:Int)))then some (([]:DZ),r1.2)else(P4 r1.1).bind fun r2=>some (r2,(0:Int)))=_;rw[h.1];simp only[A1,E2,decide_true,BU,AD];rw[h.2];rfl
noncomputable def ky(k:Int)(w:DZ):DZ:=((RA (k,w)).getD ([],0)).1
theorem ANM{k:Int}{w:DZ}{v:Vr}{s:DZ}(h:Vs k w v s):ky k w=s:=by unfold ky;rw[ANL h];rfl
def Ok(k:Int)(w:DZ):Prop:=∃v,Vs k w v (ky k w)
theorem ANN{k:Int}{w:DZ}{v:Vr}{s:DZ}(h:Vs k w v s):Ok k w:=⟨v,by rw[ANM h];exact h⟩
theorem ANO(k:Int)(w:DZ)(hw:w.length<=1048576):Tot (ZE (k,w)) (fun r=>r=0->Ok k w):=by
 unfold ZE;dsimp only;obtain⟨⟨v,e⟩,h1,h2⟩:=NU (k,w) hw;rw[h1];refine D_.2 (E0.2 (E0.2 fun he=>?_));dsimp only at he;subst he;obtain⟨s,hs⟩:=ANK hw h1;exact ANN hs
theorem ANP(s:RR)(b:List HG)(hs:H7 s)(hb:∀x∈b,H1 x)(hl:b.length<=1048576):Tot (ZX (s,b)) (fun _=>True):=by
 unfold ZX;dsimp only;refine E1.2 ⟨fun _=>E0.2 trivial,fun _=>E1.2 ⟨fun hc=>?_,fun _=>E0.2 trivial⟩⟩;have hc:=A8 hc;rw[EY (n:=(b.length:Int)-1) (by omega) (by omega)];refine D_.2 ((JP _ (by have:=hs.1;omega)).mono fun r hr=>D_.2 (E_.2 ⟨⟨by omega,by omega⟩,fun y hy=>?_⟩));refine D_.2 ((JP _ (by have:=(hb y (N6 hy)).2;omega)).mono fun r' hr'=>?_);exact E1.2 ⟨fun _=>E0.2 trivial,fun _=>E0.2 trivial⟩
theorem ANQ(l:List HG)(k:DZ)(hl:l.length<=1048576):Tot (RF (l,k)) (fun _=>True):=by
 unfold RF mK;dsimp only;refine D_.2 (D_.2 (Tot.mono (P:=fun _=>True) ?_ fun q _=>by rcases q with y|y<;>exact E0.2 (E0.2 trivial)));generalize hf:(fun x:HG=>(bL (x,(some ((0:Int),(k,(false,([]:DZ))))))).bind fun r=>some r)=f
 have hF:∀x,Tot (f x) fun _=>True:=by
  intro x;subst hf;unfold bL;dsimp only;refine D_.2 (D_.2 (E0.2 (D_.2 ((P3 _ trivial).mono fun r2 _=>?_))));refine D_.2 (Tot.mono (P:=fun _=>True) (E1.2 ⟨fun _=>E0.2 trivial,fun _=>E0.2 trivial⟩) fun p3 _=>?_);exact D_.2 (Tot.mono (P:=fun _=>True) (E1.2 ⟨fun _=>P3 _ trivial,fun _=>E0.2 trivial⟩) fun r4 _=>E0.2 (E0.2 trivial))
 clear hf
 refine F3 (R:=fun _:Sum Unit Int=>True) (fun y:(List HG)×(HG->Option Bool)×Int×Int=>y.1=l/\y.2.1=f/\y.2.2.1=l.length/\0<=y.2.2.2/\y.2.2.2<=l.length)
  (fun y=>((l.length:Int)-y.2.2.2).toNat) ?_ _ _ ⟨rfl,rfl,rfl,B7 _,BJ _⟩ (by unfold fuel;dsimp only;omega)
 rintro next ⟨l',f',n,i⟩ hI hn
 dsimp only at hI hn;obtain⟨rfl,rfl,rfl,i0,i1⟩:=hI;unfold z7;dsimp only;refine E1.2 ⟨fun hc=>?_,fun hc=>E0.2 trivial⟩;have hc:=A8 hc;rw[EY (n:=i+1) (by omega) (by omega)];refine D_.2 (E_.2 ⟨⟨i0,hc⟩,fun s hx=>?_⟩);refine D_.2 ((hF s).mono fun r _=>E1.2 ⟨fun _=>E0.2 trivial,fun _=>?_⟩);exact hn _ ⟨rfl,rfl,rfl,by dsimp only;omega,by dsimp only;omega⟩ (by dsimp only;omega)
noncomputable def inn(L:List HG)(k:Int)(w:DZ):Bool:=decide (0<=(RF (L,ky k w)).getD 0)
theorem ANR(k:Int)(u w:DZ):aA (k,u,w)=(Z_ (k,u,w)).bind fun r1=>bif (!(E4 r1.2.2 (0:Int)))then some ((0:Int),r1.2.2)else(P4 r1.1).bind fun r2=>(P4 r1.2.1).bind fun r3=>(L_ (r2,r3)).bind fun r4=>some (r4,(0:Int)):=rfl
theorem ANS{k:Int}{u w:DZ}(hu:Ok k u)(hw:Ok k w):aA (k,u,w)=some (JQ (ky k u) (ky k w),0):=by
 obtain⟨v,hv⟩:=hu;obtain⟨v',hv'⟩:=hw;rw[ANR];unfold Z_;dsimp only;rw[hv.1];simp only[A1,E2,decide_true,BU,AD];rw[hv'.1];simp only[A1,decide_true,BU,AD];rw[hv.2,hv'.2];simp only[A1];rw[A57];rfl
abbrev Bs:=Int×(List KU)×(List Int)
abbrev Dl:=Int×Int×(List KU)×(List DZ)
noncomputable def VD(a:KU):Int:=(RC a).getD 1
theorem ANT{a:KU}(h:N5 a):RC a=some (VD a):=by
 obtain⟨r,hr,_⟩:=ANJ a h;unfold VD;rw[hr];rfl
def okR(l:List KU)(i:Nat):Prop:=∀a,l[i]?=some a->VD a=0/\(0<i->∀a',l[i-1]?=some a'->a'.1<a.1)
def RS(b:Bs)(i:Nat):Prop:=okR b.2.1 i/\∀s,b.2.2[i]?=some s->0<=s/\s<=b.1
theorem dO(a b:DZ):(Op.bytesLess a b||EN a b)= !decide (b<a):=by
 rw[qH,E6];rcases VC a b with h|h|h
 ·simp[h,dF h]
 ·subst h;simp[I4]
 ·have:a≠b:=fun e=>by subst e;exact I4 _ h
  simp[h,dF h,this]
theorem ANU(b:Bs)(hb:∀a∈b.2.1,N5 a)(hl:b.2.2.length=b.2.1.length)(hm:b.2.1.length<=2000):
 Tot (lY (b,b.2.1,(b.2.1.length:Int),0)) (fun r=>(∀u,r=.inl u->∀j,j<b.2.1.length->RS b j)/\∀e,r=.inr e->e≠0/\¬∀j,j<b.2.1.length->RS b j):=by
 refine F3 (R:=fun r:Sum Unit Int=>(∀u,r=.inl u->∀j,j<b.2.1.length->RS b j)/\∀e,r=.inr e->e≠0/\¬∀j,j<b.2.1.length->RS b j)
  (fun y:Bs×(List KU)×Int×Int=>y.1=b/\y.2.1=b.2.1/\y.2.2.1=b.2.1.length/\0<=y.2.2.2/\y.2.2.2<=b.2.1.length/\∀j:Nat,(j:Int)<y.2.2.2->RS b j)
  (fun y=>((b.2.1.length:Int)-y.2.2.2).toNat) ?_ _ _ ⟨rfl,rfl,rfl,B7 _,BJ _,fun j hj=>by dsimp only at hj;omega⟩ (by unfold fuel;dsimp only;omega)
 rintro next ⟨b',l,n,i⟩ hI hn
 dsimp only at hI hn;obtain⟨rfl,rfl,rfl,i0,i1,i2⟩:=hI;unfold yV;dsimp only;refine E1.2 ⟨fun hc=>?_,fun hc=>E0.2 ⟨fun u _ j hj=>?_,fun e he=>(by cases he)⟩⟩
 ·have hc:=A8 hc;rw[EY (n:=i+1) (by omega) (by omega),EY (by omega) (by omega)];refine D_.2 (E_.2 ⟨⟨i0,hc⟩,fun a ha=>?_⟩);rw[ANT (hb a (N6 ha))];refine D_.2 (E0.2 ?_);have hlt:i.toNat<b'.2.1.length:=by omega
  refine E1.2 ⟨fun he=>E0.2 ⟨fun u hu=>(by cases hu),fun e he'=>?_⟩,fun he=>?_⟩
  ·cases he';rw[E2]at he;have he:¬VD a=0:=by simpa using he
   exact⟨he,fun h=>he ((h i.toNat hlt).1 a ha).1⟩
  have hk:VD a=0:=by rw[E2]at he;simpa using he
  refine D_.2 (Tot.mono (P:=fun y4:KU=>0<i->b'.2.1[i.toNat-1]?=some y4) (E1.2 ⟨fun hz=>?_,fun hz=>E0.2 fun h0=>absurd h0 (AG hz)⟩) fun y4 h4=>?_)
  ·have hz:=A8 hz;refine E_.2 ⟨⟨by omega,by omega⟩,fun w hw _=>?_⟩;rw[show i.toNat-1=(i-1).toNat by omega];exact hw
  rw[dO];refine E1.2 ⟨fun he2=>E0.2 ⟨fun u hu=>(by cases hu),fun e he'=>?_⟩,fun he2=>?_⟩
  ·cases he';have h2:=D5.1 he2;have hz:=A8 h2.1;have hnl:¬y4.1<a.1:=by simpa using h2.2
   exact⟨by decide,fun h=>hnl (((h i.toNat hlt).1 a ha).2 (by omega) y4 (h4 hz))⟩
  have hasc:0<i.toNat->∀a',b'.2.1[i.toNat-1]?=some a'->a'.1<a.1:=by
   intro hz a' ha';have hz':0<i:=by omega
   rw[h4 hz']at ha';cases ha';rw[A6 hz',CF]at he2;simpa using he2
  refine D_.2 (E_.2 ⟨⟨i0,by omega⟩,fun s hs=>?_⟩);refine D_.2 (Tot.mono (P:=fun y7:Int=>0<=s->y7=s) (E1.2 ⟨fun hz=>E_.2 ⟨⟨i0,by omega⟩,fun w hw _=>?_⟩,fun hz=>E0.2 fun h0=>?_⟩) fun y7 h7=>?_)
  ·rw[hs]at hw;cases hw;rfl
  ·exfalso;simp at hz;omega
  refine E1.2 ⟨fun he3=>E0.2 ⟨fun u hu=>(by cases hu),fun e he'=>?_⟩,fun he3=>?_⟩
  ·cases he';refine⟨by decide,fun h=>?_⟩;have h8:=(h i.toNat hlt).2 s hs;have h9:=h7 h8.1;rw[h9]at he3;simp at he3;omega
  ·have h8:=BM.1 he3;have h9:=AG h8.1;have h10:=AG h8.2;have h11:=h7 (by omega);refine hn _ ⟨rfl,rfl,rfl,by dsimp only;omega,by dsimp only;omega,fun j hj=>?_⟩ (by dsimp only;omega);dsimp only at hj;by_cases hj':(j:Int)<i
   ·exact i2 j hj'
   ·have:j=i.toNat:=by omega
    subst this;refine⟨fun a' ha'=>?_,fun s' hs'=>?_⟩
    ·rw[ha]at ha';cases ha';exact⟨hk,hasc⟩
    ·rw[hs]at hs';cases hs';omega
 ·have hc:=AG hc;exact i2 j (by omega)
def BB(b:Bs):Prop:=∀a∈b.2.1,N5 a
def qQ(b:Bs):Prop:=(0<=b.1/\b.1<=1000000000)/\b.2.1.length<=2000/\b.2.2.length=b.2.1.length/\∀j,j<b.2.1.length->RS b j
theorem ANV(b:Bs)(hb:BB b):Tot (bH b) (fun r=>r=0<->qQ b):=by
 unfold bH qQ;refine E1.2 ⟨fun h=>E0.2 ⟨fun h0=>absurd h0 (by decide),fun hk=>?_⟩,fun h1=>?_⟩
 ·simp at h;omega
 have h1':=BM.1 h1;have g1:=AG h1'.1;have g2:=AG h1'.2;refine E1.2 ⟨fun h=>E0.2 ⟨fun h0=>absurd h0 (by decide),fun hk=>?_⟩,fun h2=>?_⟩
 ·have:=A8 h;omega
 have g3:=AG h2;refine E1.2 ⟨fun h=>E0.2 ⟨fun h0=>absurd h0 (by decide),fun hk=>?_⟩,fun h3=>?_⟩
 ·rw[E2,hk.2.2.1]at h;simp at h
 have g4:b.2.2.length=b.2.1.length:=by
  rw[E2]at h3;have:((b.2.2.length:Nat):Int)=b.2.1.length:=by simpa using h3
  omega
 refine D_.2 ((ANU b hb g4 (by omega)).mono fun r hr=>?_);rcases r with r|r
 ·exact E0.2 ⟨fun _=>⟨by omega,by omega,g4,hr.1 r rfl⟩,fun _=>rfl⟩
 ·exact E0.2 ⟨fun h0=>absurd h0 (hr.2 r rfl).1,fun hk=>absurd hk.2.2.2 (hr.2 r rfl).2⟩
def DB(d:Dl):Prop:=d.2.2.1.length<=1048576/\∀a∈d.2.2.1,N5 a
theorem ANW{α:Type}{B:Nat}(l:List α)(h:l.length*B<=70368744177664):app? B [] l=some l:=by
 unfold app?;rw[A6 (by simpa using h)];rfl
theorem ANX{l:List DZ}(h:l.length<=1048576):bX l=some l:=by
 unfold bX o0;rw[ANW l (by omega)];rfl
theorem ANY(k k':DZ)(v:Bool):∀m:List (DZ×Bool),HL EN k (GM EN k' v m)=if k=k' then some v else HL EN k m:=by
 intro m;induction m with
 |nil=>
  unfold GM HL;rw[E6];by_cases h:k=k'<;>simp[h,HL]
 |cons e r ih=>
  unfold GM;rw[E6];by_cases h1:k'=e.1
  ·rw[A6 h1];simp only[AB];unfold HL;rw[E6,E6];by_cases h:k=k'
   ·simp[h]
   ·have:¬k=e.1:=fun e'=>h (e'.trans h1.symm);simp[h,this]
  ·rw[A9 h1];simp only[AD];unfold HL;rw[E6,ih];by_cases h:k=e.1
   ·have h2:¬e.1=k':=fun e'=>h1 e'.symm;simp[h,h2]
   ·simp[h]
theorem qR(b:Bool):HU b b=true:=by cases b<;>rfl
section
variable{b:Bs}{d:Dl}(hb:BB b)(hbl:b.2.1.length<=1048576)(hd:DB d)(h0:d.2.2.2=[])
end
end Go.Ev.Pv
