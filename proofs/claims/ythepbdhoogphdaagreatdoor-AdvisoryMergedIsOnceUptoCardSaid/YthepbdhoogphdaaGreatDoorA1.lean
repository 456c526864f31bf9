/-
  That the plain functions give an answer, first part: names of packages, sorting.
-/
import Derived.Test.YthepbdhoogphdaaGreatDoorE4
import Derived.Test.YthepbdhoogphdaaGreatDoorD
set_option linter.unusedVariables false
set_option linter.unusedSimpArgs false
set_option linter.unusedSectionVars false
set_option maxRecDepth 100000
namespace Go.Ev
theorem xlc {α:Type} {a:α} {l:List α}:(a::l).length=l.length+1:=List.length_cons
theorem xln {α:Type}:([]:List α).length=0:=List.length_nil
theorem xmt {α:Type} {a:α} {i:Nat} {l:List α} (h:a∈l.take i):a∈l:=List.mem_of_mem_take h
theorem xmd {α:Type} {a:α} {i:Nat} {l:List α} (h:a∈l.drop i):a∈l:=List.mem_of_mem_drop h
def Tot {α:Type} (m:Option α) (Q:α→Prop):Prop:=∃ x,m=some x∧Q x
section
variable {α β:Type} {m n:Option α} {P Q:α→Prop}
theorem Tot.mono (h:Tot m P) (k:∀ x,P x→Q x):Tot m Q:=let ⟨x,h1,h2⟩:=h; ⟨x,h1,k x h2⟩
theorem ub_ {x:α}:Tot (some x) Q↔Q x:=⟨fun ⟨_,h1,h2⟩=>Option.some.inj h1▸h2,fun h=>⟨x,rfl,h⟩⟩
theorem ua_ {f:α→Option β} {R:β→Prop}:Tot (m.bind f) R↔Tot m fun x=>Tot (f x) R:=by
 constructor
 · rintro ⟨y,h1,h2⟩
   obtain ⟨x,h3,h4⟩:=Option.bind_eq_some_iff.1 h1
   exact ⟨x,h3,y,h4,h2⟩
 · rintro ⟨x,rfl,y,h1,h2⟩
   exact ⟨y,h1,h2⟩
theorem ug_ {b:Bool}:Tot (bif b then m else n) Q↔(b=true→Tot m Q)∧(b=false→Tot n Q):=by
 cases b
 · exact ⟨fun h=>⟨fun e=>(by cases e),fun _=>h⟩,fun h=>h.2 rfl⟩
 · exact ⟨fun h=>⟨fun _=>h,fun e=>(by cases e)⟩,fun h=>h.1 rfl⟩
theorem ucf_ {n:Nat} {i:Int} {Q:Unit→Prop}:Tot (in? n i) Q↔(0≤i∧i<n)∧Q ():=by
 unfold in? Tot
 by_cases h1:0≤i <;> by_cases h2:i<n <;> simp [h1,h2]
 exact ⟨fun ⟨_,h⟩=>h,fun h=>⟨(),h⟩⟩
theorem uek_ {a b:Str} {Q:Str→Prop}:Tot (cat? a b) Q↔a.length+b.length≤281474976710656∧Q (a++b):=by
 unfold cat? Tot
 by_cases h:a.length+b.length≤281474976710656 <;> simp [h]
theorem ule_ {B:Nat} {a b:List α} {Q:List α→Prop}:Tot (app? B a b) Q↔(a.length+b.length)*B≤70368744177664∧Q (a++b):=by
 unfold app? Tot
 by_cases h:(a.length+b.length)*B≤70368744177664 <;> simp [h]
theorem us8_ {l:List α} {lo hi:Int} {Q:List α→Prop}:Tot (cut? l lo hi) Q↔(0≤lo∧lo≤hi∧hi≤l.length)∧Q ((l.take hi.toNat).drop lo.toNat):=by
 unfold cut? Tot
 by_cases h1:0≤lo <;> by_cases h2:lo≤hi <;> by_cases h3:hi≤l.length <;> simp [h1,h2,h3]
theorem ucku_ {l:List α} {i:Int} {Q:α→Prop} (h1:0≤i) (h2:i<l.length) (h3:∀ x,x∈l→l[i.toNat]? = some x→Q x):Tot (at? l i) Q:=by
 have hlt:i.toNat<l.length:=by omega
 refine ⟨l[i.toNat],?_,h3 _ (List.getElem_mem hlt) (List.getElem?_eq_getElem hlt)⟩
 unfold at?
 rw [decide_eq_true h1]
 exact List.getElem?_eq_getElem hlt
theorem u1_ {l:List α} {i:Int} {Q:α→Prop}:Tot (at? l i) Q↔(0≤i∧i<l.length)∧∀ x,l[i.toNat]? = some x→Q x:=by
 constructor
 · rintro ⟨x,h1,h2⟩
   unfold at? at h1
   by_cases h0:0≤i
   · rw [decide_eq_true h0] at h1
     have h1:l[i.toNat]? = some x:=h1
     have hlt:=(List.getElem?_eq_some_iff.1 h1).1
     exact ⟨⟨h0,by omega⟩,fun y hy=>by rw [h1] at hy; cases hy; exact h2⟩
   · rw [decide_eq_false h0] at h1; cases h1
 · rintro ⟨⟨h1,h2⟩,h3⟩
   exact ucku_ h1 h2 fun x _ hx=>h3 x hx
theorem uq_ {r:(α→Option β)→α→Option β} {R:β→Prop} (I:α→Prop) (μ:α→Nat) (h:∀ next x,I x→(∀ y,I y→μ y<μ x→Tot (next y) R)→Tot (r next x) R) :
 ∀ (k:Nat) (x:α),I x→μ x<k→Tot (loopN r k x) R:=by
 intro k
 induction k with
 | zero=>intro x _ h; omega
 | succ k ih=>intro x hx hk; exact h _ x hx fun y hy hm=>ih y hy (by omega)
theorem ubc_ {n:Int} (h1:-9223372036854775808≤n) (h2:n≤9223372036854775807):IntKind.i64.wrap n=n:=by
 simp only [IntKind.wrap,IntKind.bits,IntKind.signed]
 simp
 omega
theorem wrap8 {n:Int} (h1:0≤n) (h2:n≤255):IntKind.u8.wrap n=n:=by
 simp only [IntKind.wrap,IntKind.bits,IntKind.signed]
 simp
 omega
theorem uca9_ (n:Int):0≤IntKind.u8.wrap n∧IntKind.u8.wrap n≤255:=by
 simp only [IntKind.wrap,IntKind.bits,IntKind.signed]
 simp
 omega
end
end Go.Ev
namespace Go.Ev.Pv
theorem un_ {n:Int}:-9223372036854775808≤n→n≤9223372036854775807→IntKind.i64.wrap n=n:=fun h1 h2=>ubc_ h1 h2
theorem u8le (b:UInt8):b.toNat≤255:=by have:=b.toNat_lt; omega
theorem u2_ {n:Int}:0≤n→n≤255→IntKind.u8.wrap n=n:=fun h1 h2=>wrap8 h1 h2
theorem u3_ (n:Int):0≤IntKind.u8.wrap n∧IntKind.u8.wrap n≤255:=uca9_ n
theorem uc_ (s:Str):(ue8_ s).length=s.length:=by simp [ue8_]
theorem uh_ (s:List Int):(strOf s).length=s.length:=by simp [strOf]
theorem uw_ (s t:Str):eqS s t=decide (s=t):=by unfold eqS; by_cases h:s=t <;> simp [h]
theorem ur_ (s t:Int):eqI s t=decide (s=t):=by unfold eqI; by_cases h:s=t <;> simp [h]
theorem uin_ (x:Str×Int) (h:x.1.length≤1048576):Tot (strings_IndexByte x) (fun r:Int=>-1≤r):=by
 unfold strings_IndexByte ifB
 rw [decide_eq_true (by omega)]
 exact ub_.2 (Lib.indexByte_ge _ _)
theorem ub8y_ (sep:Str) (m:Nat):∀ xs:List Str,(∀ s∈xs,s.length≤m)→(Lib.join xs sep).length≤xs.length*(m+sep.length):=by
 intro xs
 induction xs with
 | nil=>intro _; simp [Lib.join,List.intercalate]
 | cons a r ih =>
   intro h
   have h1:=h a List.mem_cons_self
   have h2:=ih fun s hs=>h s (List.mem_cons_of_mem _ hs)
   cases r with
   | nil=>simp [Lib.join,List.intercalate]; omega
   | cons b r =>
     have e:Lib.join (a::b::r) sep=a++(sep++Lib.join (b::r) sep):=by simp [Lib.join,List.intercalate,List.intersperse]
     rw [e]
     simp only [List.length_append,List.length_cons] at h2 ⊢
     have e2:(r.length+1+1)*(m+sep.length)=(r.length+1)*(m+sep.length)+(m+sep.length):=by rw [Nat.add_mul (r.length+1)]; omega
     rw [e2]
     omega
theorem ucjo_ {xs:List Str} (h1:xs.length≤1048577) (h2:∀ s∈xs,s.length≤1048576):(Lib.join xs [47]).length≤1099513724929:=by
 have h:=ub8y_ [47] 1048576 xs h2
 have:xs.length*(1048576+[(47:UInt8)].length)≤1048577*(1048576+1):=Nat.mul_le_mul h1 (Nat.le_refl _)
 omega
theorem und_ (x:(List Str)×Str) (h:x.1.length≤140737488355328∧(Lib.join x.1 x.2).length≤140737488355328):Tot (strings_Join x) (fun r=>r=Lib.join x.1 x.2):=by
 unfold strings_Join ifB
 rw [decide_eq_true h]
 exact ub_.2 rfl
theorem ubsk_ (x:Str×Int×Int) (h:0≤x.2.2∧x.2.2≤x.2.1∧x.2.1=x.1.length∧x.2.1≤281474976710656):Tot (u6q_ x) (fun r:Sum (Unit) (Bool)=>True):=by
 refine uq_ (R:=fun r:Sum (Unit) (Bool)=>True) (fun y:Str×Int×Int=>(0≤y.2.2∧y.2.2≤y.2.1∧y.2.1=y.1.length∧y.2.1≤281474976710656)) (fun y:Str×Int×Int=>(y.2.1-y.2.2).toNat) ?_ _ _ (by grind) (by unfold fuel; grind)
 rintro next ⟨s_0,t6,t7⟩ h hn
 try dsimp only at h hn
 unfold ubki_
 repeat' first
  | (with_reducible first | refine ug_.2 ⟨fun _=>?_,fun _=>?_⟩ | refine ua_.2 ?_ | refine ub_.2 ?_ | refine u1_.2 ⟨?_,fun _ _=>?_⟩ | refine hn _ ?_ ?_)
  | dsimp only
 all_goals grind [un_,uh_,uc_,uw_,ur_,u3_,u2_,u8le]
theorem u4h_ (x:Str) (h:x.length≤1048576):Tot (ui0_ x) (fun r:Bool=>True):=by
 unfold ui0_
 repeat' first
  | (with_reducible first | refine ua_.2 ?_ | refine ub_.2 ?_ | refine (ubsk_ _ ?_).mono fun _ _=>?_)
  | split
  | dsimp only
 all_goals grind [un_,uh_,uc_,uw_,ur_,u3_,u2_,u8le]
theorem ubze_ (x:(List Int)×Int×Int) (h:0≤x.2.2∧x.2.2≤x.2.1∧x.2.1=x.1.length∧x.2.1≤281474976710656):Tot (ubkj_ x) (fun r:List Int=>r.length=x.1.length):=by
 refine uq_ (R:=fun r:List Int=>r.length=x.1.length) (fun y:(List Int)×Int×Int=>(0≤y.2.2∧y.2.2≤y.2.1∧y.2.1=y.1.length∧y.2.1≤281474976710656)∧y.1.length=x.1.length) (fun y:(List Int)×Int×Int=>(y.2.1-y.2.2).toNat) ?_ _ _ (by grind) (by unfold fuel; grind)
 rintro next ⟨b_3,t9,t10⟩ h hn
 try dsimp only at h hn
 unfold ubxr_
 repeat' first
  | (with_reducible first | refine ug_.2 ⟨fun _=>?_,fun _=>?_⟩ | refine ua_.2 ?_ | refine ub_.2 ?_ | refine ucf_.2 ⟨?_,?_⟩ | refine hn _ ?_ ?_)
  | dsimp only
 all_goals grind [un_,uh_,uc_,uw_,ur_,u3_,u2_,u8le]
theorem ubg7_ (x:Str) (h:x.length≤1048576):Tot (u6r_ x) (fun r:Str=>r.length=x.length):=by
 unfold u6r_
 repeat' first
  | (with_reducible first | refine ua_.2 ?_ | refine ub_.2 ?_ | refine u1_.2 ⟨?_,fun _ _=>?_⟩ | refine uek_.2 ⟨?_,?_⟩ | refine (ubze_ _ ?_).mono fun _ _=>?_)
  | dsimp only
 all_goals grind [un_,uh_,uc_,uw_,ur_,u3_,u2_,u8le]
theorem ug2_ (x:YY10×Int) (h:True):Tot (ufy_ x) (fun r:Str×Int×Int=>r.1=x.1.1∧r.2.1=x.1.2.1∧(0≤x.2→0≤r.2.2)):=by
 obtain ⟨r_0,at_1⟩:=x
 try dsimp only at h ⊢
 unfold ufy_
 repeat' first
  | (with_reducible first | refine ug_.2 ⟨fun _=>?_,fun _=>?_⟩ | refine ub_.2 ?_)
  | dsimp only
 all_goals grind [un_,uh_,uc_,uw_,ur_,u3_,u2_,u8le]
theorem ug3_ (x:Option YY10) (h:∃ y,x=some y∧0≤y.2.1):Tot (uen_ x) (fun r:Int=>0≤r∧(r=0∨∃ y,x=some y∧y.2.1<y.1.length)):=by
 unfold uen_
 obtain ⟨y,rfl,h⟩:=h
 repeat' first
  | (with_reducible first | refine ug_.2 ⟨fun _=>?_,fun _=>?_⟩ | refine ua_.2 ?_ | refine ub_.2 ?_ | refine u1_.2 ⟨?_,fun _ _=>?_⟩)
  | dsimp only
 all_goals grind [un_,uh_,uc_,uw_,ur_,u3_,u2_,u8le]
theorem ubik_ (x:Int) (h:True):Tot (u18_ x) (fun r:Bool=>True):=by
 unfold u18_
 repeat' first
  | with_reducible refine ub_.2 ?_
  | dsimp only
 all_goals grind [un_,uh_,uc_,uw_,ur_,u3_,u2_,u8le]
theorem ubjx_ (x:YY10×Int) (h:0≤x.2∧x.2≤(4:Int)∧(4:Int)≤281474976710656∧x.1.1.length≤1048576∧0≤x.1.2.1∧x.1.2.1≤x.1.1.length∧x.2≤x.1.1.length):Tot (uw2_ x) (fun r:Sum YY10 (YY10×Str)=>match r with | .inl q=>q=x.1∧4≤x.1.1.length | .inr q=>q.1.1=x.1.1∧q.1.2.1=x.1.2.1∧q.2=[]):=by
 refine uq_ (R:=fun r:Sum YY10 (YY10×Str)=>match r with | .inl q=>q=x.1∧4≤x.1.1.length | .inr q=>q.1.1=x.1.1∧q.1.2.1=x.1.2.1∧q.2=[]) (fun y:YY10×Int=>(0≤y.2∧y.2≤(4:Int)∧(4:Int)≤281474976710656∧y.1.1.length≤1048576∧0≤y.1.2.1∧y.1.2.1≤y.1.1.length∧y.2≤y.1.1.length)∧y.1=x.1) (fun y:YY10×Int=>((4:Int)-y.2).toNat) ?_ _ _ (by grind) (by unfold fuel; grind)
 rintro next ⟨r_0,t7⟩ h hn
 try dsimp only at h hn
 unfold u94_
 repeat' first
  | (with_reducible first | refine ug_.2 ⟨fun _=>?_,fun _=>?_⟩ | refine ua_.2 ?_ | refine ub_.2 ?_ | refine us8_.2 ⟨?_,?_⟩ | refine (ubg7_ _ ?_).mono fun _ _=>?_ | refine (ug2_ _ ?_).mono fun _ _=>?_ | refine hn _ ?_ ?_)
  | dsimp only
 all_goals grind [un_,uh_,uc_,uw_,ur_,u3_,u2_,u8le]
theorem ubjy_ (x:Str×Int×Int) (h:x.1.length≤1048576∧0≤x.2.1∧x.2.1≤x.1.length):Tot (uw3_ x) (fun r:Str×Int×Int=>r.1=x.1∧r.2.2=x.2.2∧x.2.1≤r.2.1∧r.2.1≤r.1.length):=by
 refine uq_ (R:=fun r:Str×Int×Int=>r.1=x.1∧r.2.2=x.2.2∧x.2.1≤r.2.1∧r.2.1≤r.1.length) (fun y:Str×Int×Int=>(y.1.length≤1048576∧0≤y.2.1∧y.2.1≤y.1.length)∧y.1=x.1∧y.2.2=x.2.2∧x.2.1≤y.2.1) (fun y:Str×Int×Int=>(y.1.length-y.2.1).toNat) ?_ _ _ (by grind) (by unfold fuel; grind)
 rintro next r_0 h hn
 try dsimp only at h hn
 unfold u95_
 repeat' first
  | (with_reducible first | refine ug_.2 ⟨fun _=>?_,fun _=>?_⟩ | refine ua_.2 ?_ | refine ub_.2 ?_ | refine u1_.2 ⟨?_,fun _ _=>?_⟩ | refine (ubik_ _ ?_).mono fun _ _=>?_ | refine hn _ ?_ ?_)
  | dsimp only
 all_goals grind [un_,uh_,uc_,uw_,ur_,u3_,u2_,u8le]
theorem ubjz_ (x:YY10×Bool) (h:x.1.1.length≤1048576∧0≤x.1.2.1∧x.1.2.1≤x.1.1.length∧(x.2=true→x.1.2.1<x.1.1.length)):Tot (uqd_ x) (fun r:Str×Int×Int=>r.1=x.1.1∧x.1.2.1≤r.2.1∧r.2.1≤r.1.length):=by
 obtain ⟨r_0,t45⟩:=x
 try dsimp only at h ⊢
 unfold uqd_
 repeat' first
  | (with_reducible first | refine ug_.2 ⟨fun _=>?_,fun _=>?_⟩ | refine ua_.2 ?_ | refine ub_.2 ?_ | refine (ubjy_ _ ?_).mono fun _ _=>?_)
  | dsimp only
 all_goals grind [un_,uh_,uc_,uw_,ur_,u3_,u2_,u8le]
theorem ubsl_ (x:YY10×Bool) (h:x.1.1.length≤1048576∧0≤x.1.2.1∧x.1.2.1≤x.1.1.length):Tot (uw4_ x) (fun r:Str×YY10=>r.2.1=x.1.1∧0≤r.2.2.1∧r.2.2.1≤x.1.1.length∧r.1.length≤x.1.1.length):=by
 obtain ⟨r_0,star_1⟩:=x
 try dsimp only at h ⊢
 unfold uw4_
 repeat' first
  | (with_reducible first | refine ug_.2 ⟨fun _=>?_,fun _=>?_⟩ | refine ua_.2 ?_ | refine ub_.2 ?_ | refine us8_.2 ⟨?_,?_⟩ | refine (ubjx_ _ ?_).mono fun _ _=>?_ | refine (ug3_ _ ?_).mono fun _ _=>?_ | refine (ubjz_ _ ?_).mono fun _ _=>?_ | refine (ug2_ _ ?_).mono fun _ _=>?_ | refine (ubg7_ _ ?_).mono fun _ _=>?_)
  | split
  | dsimp only
 all_goals grind [un_,uh_,uc_,uw_,ur_,u3_,u2_,u8le]
theorem ub8z_ (x:Int) (h:0≤x∧x≤255):Tot (ub41_ x) (fun r:Int=>-1≤r∧r≤15):=by
 unfold ub41_
 repeat' first
  | (with_reducible first | refine ug_.2 ⟨fun _=>?_,fun _=>?_⟩ | refine ub_.2 ?_)
  | dsimp only
 all_goals grind [un_,uh_,uc_,uw_,ur_,u3_,u2_,u8le]
theorem ubg8_ (x:YY10×Int×Int×Bool) (h:x.1.1.length≤1048576∧0≤x.1.2.1∧x.1.2.1≤x.1.1.length∧1≤x.2.1∧x.2.1≤2∧x.2.2.1 = -1∧(x.2.2.2=true→x.1.2.1+x.2.1<x.1.1.length)):Tot (unw_ x) (fun r:YY10×Int=>r.1=x.1∧(x.2.2.2=true∨r.2 = -1)):=by
 obtain ⟨r_0,i_6,d_7,t63⟩:=x
 try dsimp only at h ⊢
 unfold unw_
 repeat' first
  | (with_reducible first | refine ug_.2 ⟨fun _=>?_,fun _=>?_⟩ | refine ua_.2 ?_ | refine ub_.2 ?_ | refine u1_.2 ⟨?_,fun _ _=>?_⟩ | refine (ub8z_ _ ?_).mono fun _ _=>?_)
  | dsimp only
 all_goals grind [un_,uh_,uc_,uw_,ur_,u3_,u2_,u8le]
theorem ubg9_ (x:YY10×Int×Int) (h:x.1.1.length≤1048576∧0≤x.1.2.1∧x.1.2.1≤x.1.1.length∧1≤x.2.2∧x.2.2≤3∧x.1.2.1+x.2.2≤x.1.1.length):Tot (uve_ x) (fun r:Sum (YY10×Int) (YY10×Int×Bool)=>match r with | .inl q=>q.1=x.1∧x.1.2.1+3≤x.1.1.length | .inr q=>q.1.1=x.1.1∧q.1.2.1=x.1.2.1∧q.2.2=false):=by
 refine uq_ (R:=fun r:Sum (YY10×Int) (YY10×Int×Bool)=>match r with | .inl q=>q.1=x.1∧x.1.2.1+3≤x.1.1.length | .inr q=>q.1.1=x.1.1∧q.1.2.1=x.1.2.1∧q.2.2=false) (fun y:YY10×Int×Int=>(y.1.1.length≤1048576∧0≤y.1.2.1∧y.1.2.1≤y.1.1.length∧1≤y.2.2∧y.2.2≤3∧y.1.2.1+y.2.2≤y.1.1.length)∧y.1=x.1) (fun y:YY10×Int×Int=>(3-y.2.2).toNat) ?_ _ _ (by grind) (by unfold fuel; grind)
 rintro next ⟨r_0,n_5,i_6⟩ h hn
 try dsimp only at h hn
 unfold u6s_
 repeat' first
  | (with_reducible first | refine ug_.2 ⟨fun _=>?_,fun _=>?_⟩ | refine ua_.2 ?_ | refine ub_.2 ?_ | refine (ubg8_ _ ?_).mono fun _ _=>?_ | refine (ug2_ _ ?_).mono fun _ _=>?_ | refine hn _ ?_ ?_)
  | dsimp only
 all_goals grind [un_,uh_,uc_,uw_,ur_,u3_,u2_,u8le]
theorem ubpi_ (x:Str×Int×Int) (h:x.1.length≤1048576∧0≤x.2.1∧x.2.1≤x.1.length):Tot (uuz_ x) (fun r:Int×Bool×YY10=>r.2.2.1=x.1∧x.2.1≤r.2.2.2.1∧r.2.2.2.1≤x.1.length∧(r.2.1=true→x.2.1<r.2.2.2.1)):=by
 unfold uuz_
 repeat' first
  | (with_reducible first | refine ug_.2 ⟨fun _=>?_,fun _=>?_⟩ | refine ua_.2 ?_ | refine ub_.2 ?_ | refine u1_.2 ⟨?_,fun _ _=>?_⟩ | refine (uin_ _ ?_).mono fun _ _=>?_ | refine (ubg9_ _ ?_).mono fun _ _=>?_)
  | split
  | dsimp only
 all_goals grind [un_,uh_,uc_,uw_,ur_,u3_,u2_,u8le]
theorem ubj0_ (x:YY10×(List Int)) (h:x.1.1.length≤1048576∧0≤x.1.2.1∧x.1.2.1≤x.1.1.length∧x.2.length≤x.1.2.1):Tot (uw5_ x) (fun r:YY10×(List Int)=>r.1.1=x.1.1∧x.1.2.1≤r.1.2.1∧r.1.2.1≤x.1.1.length∧r.2.length≤r.1.2.1):=by
 refine uq_ (R:=fun r:YY10×(List Int)=>r.1.1=x.1.1∧x.1.2.1≤r.1.2.1∧r.1.2.1≤x.1.1.length∧r.2.length≤r.1.2.1) (fun y:YY10×(List Int)=>(y.1.1.length≤1048576∧0≤y.1.2.1∧y.1.2.1≤y.1.1.length∧y.2.length≤y.1.2.1)∧y.1.1=x.1.1∧x.1.2.1≤y.1.2.1) (fun y:YY10×(List Int)=>(y.1.1.length-y.1.2.1).toNat) ?_ _ _ (by grind) (by unfold fuel; grind)
 rintro next ⟨r_0,b_3⟩ h hn
 try dsimp only at h hn
 unfold u96_
 repeat' first
  | (with_reducible first | refine ug_.2 ⟨fun _=>?_,fun _=>?_⟩ | refine ua_.2 ?_ | refine ub_.2 ?_ | refine ule_.2 ⟨?_,?_⟩ | refine (ubpi_ _ ?_).mono fun _ _=>?_ | refine hn _ ?_ ?_)
  | dsimp only
 all_goals grind [un_,uh_,uc_,uw_,ur_,u3_,u2_,u8le]
theorem uow_ (x:Str×Int×Int) (h:x.1.length≤1048576∧0≤x.2.1∧x.2.1≤x.1.length):Tot (ui6_ x) (fun r:Str×YY10=>r.2.1=x.1∧x.2.1≤r.2.2.1∧r.2.2.1≤x.1.length∧r.1.length≤x.1.length):=by
 unfold ui6_
 repeat' first
  | (with_reducible first | refine ug_.2 ⟨fun _=>?_,fun _=>?_⟩ | refine ua_.2 ?_ | refine ub_.2 ?_ | refine u1_.2 ⟨?_,fun _ _=>?_⟩ | refine uek_.2 ⟨?_,?_⟩ | refine (ubj0_ _ ?_).mono fun _ _=>?_ | refine (ug2_ _ ?_).mono fun _ _=>?_)
  | dsimp only
 all_goals grind [un_,uh_,uc_,uw_,ur_,u3_,u2_,u8le]
theorem ubha_ (x:YY10×(List Str)) (h:x.1.1.length≤1048576∧0≤x.1.2.1∧x.1.2.1≤x.1.1.length∧x.2.length≤x.1.2.1+1∧∀ s∈x.2,s.length≤1048576):Tot (uvf_ x) (fun r:YY10×(List Str)=>r.1.1=x.1.1∧x.1.2.1≤r.1.2.1∧r.1.2.1≤x.1.1.length∧x.2.length≤r.2.length∧r.2.length≤1048577∧∀ s∈r.2,s.length≤1048576):=by
 refine uq_ (R:=fun r:YY10×(List Str)=>r.1.1=x.1.1∧x.1.2.1≤r.1.2.1∧r.1.2.1≤x.1.1.length∧x.2.length≤r.2.length∧r.2.length≤1048577∧∀ s∈r.2,s.length≤1048576) (fun y:YY10×(List Str)=>(y.1.1.length≤1048576∧0≤y.1.2.1∧y.1.2.1≤y.1.1.length∧y.2.length≤y.1.2.1+1∧∀ s∈y.2,s.length≤1048576)∧y.1.1=x.1.1∧x.1.2.1≤y.1.2.1∧x.2.length≤y.2.length) (fun y:YY10×(List Str)=>(y.1.1.length-y.1.2.1).toNat) ?_ _ _ (by grind) (by unfold fuel; grind)
 rintro next ⟨r_0,l_3⟩ h hn
 try dsimp only at h hn
 unfold u6t_
 repeat' first
  | (with_reducible first | refine ug_.2 ⟨fun _=>?_,fun _=>?_⟩ | refine ua_.2 ?_ | refine ub_.2 ?_ | refine ule_.2 ⟨?_,?_⟩ | refine (ug3_ _ ?_).mono fun _ _=>?_ | refine (uow_ _ ?_).mono fun _ _=>?_ | refine hn _ ?_ ?_)
  | dsimp only
 all_goals grind [un_,uh_,uc_,uw_,ur_,u3_,u2_,u8le]
theorem u5v_ (x:Str×Int×Int) (h:x.1.length≤1048576∧0≤x.2.1∧x.2.1≤x.1.length):Tot (uo0_ x) (fun r:(List Str)×YY10=>r.2.1=x.1∧x.2.1≤r.2.2.1∧r.2.2.1≤x.1.length∧1≤r.1.length∧r.1.length≤1048577∧∀ s∈r.1,s.length≤1048576):=by
 unfold uo0_
 repeat' first
  | (with_reducible first | refine ua_.2 ?_ | refine ub_.2 ?_ | refine (uow_ _ ?_).mono fun _ _=>?_ | refine (ubha_ _ ?_).mono fun _ _=>?_)
  | dsimp only
 all_goals grind [un_,uh_,uc_,uw_,ur_,u3_,u2_,u8le]
theorem ubil_ (x:Int×Bool) (h:True):Tot (u19_ x) (fun r:Bool=>True):=by
 obtain ⟨c_0,first_1⟩:=x
 try dsimp only at h ⊢
 unfold u19_
 repeat' first
  | (with_reducible first | refine ug_.2 ⟨fun _=>?_,fun _=>?_⟩ | refine ub_.2 ?_)
  | dsimp only
 all_goals grind [un_,uh_,uc_,uw_,ur_,u3_,u2_,u8le]
theorem u8f_ (x:YY10×Int) (h:x.1.1.length≤1048576∧0≤x.1.2.1∧x.1.2.1≤x.1.1.length):Tot (unx_ x) (fun r:Str×Int×Int=>r.1=x.1.1∧x.1.2.1≤r.2.1∧r.2.1≤x.1.1.length):=by
 refine uq_ (R:=fun r:Str×Int×Int=>r.1=x.1.1∧x.1.2.1≤r.2.1∧r.2.1≤x.1.1.length) (fun y:YY10×Int=>(y.1.1.length≤1048576∧0≤y.1.2.1∧y.1.2.1≤y.1.1.length)∧y.1.1=x.1.1∧y.1.2.2=x.1.2.2∧x.1.2.1≤y.1.2.1) (fun y:YY10×Int=>(y.1.1.length-y.1.2.1).toNat) ?_ _ _ (by grind) (by unfold fuel; grind)
 rintro next ⟨r_0,from_3⟩ h hn
 try dsimp only at h hn
 unfold uw6_
 repeat' first
  | (with_reducible first | refine ug_.2 ⟨fun _=>?_,fun _=>?_⟩ | refine ua_.2 ?_ | refine ub_.2 ?_ | refine u1_.2 ⟨?_,fun _ _=>?_⟩ | refine (ubil_ _ ?_).mono fun _ _=>?_ | refine hn _ ?_ ?_)
  | dsimp only
 all_goals grind [un_,uh_,uc_,uw_,ur_,u3_,u2_,u8le]
theorem ubet_ (x:Str×Int×Int) (h:x.1.length≤1048576∧0≤x.2.1∧x.2.1≤x.1.length):Tot (ulx_ x) (fun r:(Str×Str)×YY10=>r.2.1=x.1∧x.2.1≤r.2.2.1∧r.2.2.1≤x.1.length∧r.1.1.length≤1048576∧r.1.2.length≤1048576):=by
 unfold ulx_
 repeat' first
  | (with_reducible first | refine ug_.2 ⟨fun _=>?_,fun _=>?_⟩ | refine ua_.2 ?_ | refine ub_.2 ?_ | refine us8_.2 ⟨?_,?_⟩ | refine (u8f_ _ ?_).mono fun _ _=>?_ | refine (ug3_ _ ?_).mono fun _ _=>?_ | refine (ug2_ _ ?_).mono fun _ _=>?_ | refine (uow_ _ ?_).mono fun _ _=>?_)
  | dsimp only
 all_goals grind [un_,uh_,uc_,uw_,ur_,u3_,u2_,u8le]
theorem ubj1_ (x:YY10×YY13×Bool) (h:x.1.1.length≤1048576∧0≤x.1.2.1∧x.1.2.1≤x.1.1.length∧(x.2.2=true→x.1.2.1<x.1.1.length)∧x.2.1.2.2.2.1.length≤1048576):Tot (uqe_ x) (fun r:YY10×YY13=>r.1.1=x.1.1∧x.1.2.1≤r.1.2.1∧r.1.2.1≤x.1.1.length∧r.2.1=x.2.1.1∧r.2.2.1=x.2.1.2.1∧r.2.2.2.1=x.2.1.2.2.1∧r.2.2.2.2.1.length≤1048576∧r.2.2.2.2.2=x.2.1.2.2.2.2):=by
 obtain ⟨r_0,p_3,t40⟩:=x
 try dsimp only at h ⊢
 unfold uqe_
 repeat' first
  | (with_reducible first | refine ug_.2 ⟨fun _=>?_,fun _=>?_⟩ | refine ua_.2 ?_ | refine ub_.2 ?_ | refine (uow_ _ ?_).mono fun _ _=>?_)
  | dsimp only
 all_goals grind [un_,uh_,uc_,uw_,ur_,u3_,u2_,u8le]
theorem ubj2_ (x:YY10×YY13×Int) (h:x.1.1.length≤1048576∧0≤x.1.2.1∧x.1.2.1≤x.1.1.length∧x.2.1.2.2.2.2.1.length≤x.1.2.1∧x.2.2≠0∧∀ q∈x.2.1.2.2.2.2.1,q.1.length≤1048576∧q.2.length≤1048576):Tot (uw7_ x) (fun r:YY10×YY13=>r.1.1=x.1.1∧x.1.2.1≤r.1.2.1∧r.1.2.1≤x.1.1.length∧r.2.1=x.2.1.1∧r.2.2.1=x.2.1.2.1∧r.2.2.2.1=x.2.1.2.2.1∧r.2.2.2.2.1=x.2.1.2.2.2.1∧r.2.2.2.2.2.2=x.2.1.2.2.2.2.2∧r.2.2.2.2.2.1.length≤1048576∧∀ q∈r.2.2.2.2.2.1,q.1.length≤1048576∧q.2.length≤1048576):=by
 refine uq_ (R:=fun r:YY10×YY13=>r.1.1=x.1.1∧x.1.2.1≤r.1.2.1∧r.1.2.1≤x.1.1.length∧r.2.1=x.2.1.1∧r.2.2.1=x.2.1.2.1∧r.2.2.2.1=x.2.1.2.2.1∧r.2.2.2.2.1=x.2.1.2.2.2.1∧r.2.2.2.2.2.2=x.2.1.2.2.2.2.2∧r.2.2.2.2.2.1.length≤1048576∧∀ q∈r.2.2.2.2.2.1,q.1.length≤1048576∧q.2.length≤1048576) (fun y:YY10×YY13×Int=>(y.1.1.length≤1048576∧0≤y.1.2.1∧y.1.2.1≤y.1.1.length∧y.2.1.2.2.2.2.1.length≤y.1.2.1∧y.2.2≠0∧∀ q∈y.2.1.2.2.2.2.1,q.1.length≤1048576∧q.2.length≤1048576)∧y.1.1=x.1.1∧y.2.1.1=x.2.1.1∧y.2.1.2.1=x.2.1.2.1∧y.2.1.2.2.1=x.2.1.2.2.1∧y.2.1.2.2.2.1=x.2.1.2.2.2.1∧y.2.1.2.2.2.2.2=x.2.1.2.2.2.2.2∧x.1.2.1≤y.1.2.1) (fun y:YY10×YY13×Int=>(y.1.1.length-y.1.2.1).toNat) ?_ _ _ (by grind) (by unfold fuel; grind)
 rintro next ⟨r_0,p_3,sign_5⟩ h hn
 try dsimp only at h hn
 unfold u97_
 repeat' first
  | (with_reducible first | refine ug_.2 ⟨fun _=>?_,fun _=>?_⟩ | refine ua_.2 ?_ | refine ub_.2 ?_ | refine ule_.2 ⟨?_,?_⟩ | refine (ug3_ _ ?_).mono fun _ _=>?_ | refine (ubet_ _ ?_).mono fun _ _=>?_ | refine hn _ ?_ ?_)
  | dsimp only
 all_goals grind [un_,uh_,uc_,uw_,ur_,u3_,u2_,u8le]
end Go.Ev.Pv
namespace Go.Ev.Pv
theorem div8 {k:IntKind} {a b:Int} {Q:Int→Prop}:Tot (div? k a b) Q↔b≠0∧Q (k.wrap (a.tdiv b)):=by
 unfold div? Tot
 by_cases h:b=0
 · subst h; simp
 · have e:(b == 0)=false:=by simpa using h
   rw [e]; simp [h]
theorem mod8 {a b:Int} {Q:Int→Prop}:Tot (mod? a b) Q↔b≠0∧Q (a.tmod b):=by
 unfold mod? Tot
 by_cases h:b=0
 · subst h; simp
 · have e:(b == 0)=false:=by simpa using h
   rw [e]; simp [h]
theorem div16 {a:Int} (h0:0≤a) (h1:a≤255):0≤a.tdiv 16∧a.tdiv 16≤15:=by rw [Int.tdiv_eq_ediv_of_nonneg h0]; omega
theorem mod16 {a:Int} (h0:0≤a) (h1:a≤255):0≤a.tmod 16∧a.tmod 16≤15:=by rw [Int.tmod_eq_emod_of_nonneg h0]; omega
theorem u8div (b:UInt8):0≤((b.toNat:Int)).tdiv 16∧((b.toNat:Int)).tdiv 16≤15:=div16 (by omega) (by have:=u8le b; omega)
theorem u8mod (b:UInt8):0≤((b.toNat:Int)).tmod 16∧((b.toNat:Int)).tmod 16≤15:=mod16 (by omega) (by have:=u8le b; omega)
theorem uj_ {α:Type} {l:List α} {i:Nat} {d:α}:i<l.length→l.getD i d∈l:=fun h=>by
 rw [List.getD_eq_getElem?_getD,List.getElem?_eq_getElem h]; exact List.getElem_mem h
theorem ue_ {α:Type} {l:List α} {i:Nat} {a b:α}:a∈l.set i b→a∈l∨a=b:=List.mem_or_eq_of_mem_set
theorem ubim_ (x:Str×Str) (h:x.1.length<4294967281∧1≤x.2.length):Tot (strings_Split x) (fun r:List Str=>r.length≤x.1.length+2∧∀ s∈r,s.length≤x.1.length):=by
 unfold strings_Split ifB
 rw [decide_eq_true h]
 refine ub_.2 ⟨?_,?_⟩
 · rw [List.length_map]
   have h1:=Lib.splitB_length_le ⟨x.2.toArray⟩ 0 (Lib.countB ⟨x.1.toArray⟩ ⟨x.2.toArray⟩) ⟨x.1.toArray⟩
   have h2:Lib.countB ⟨x.1.toArray⟩ ⟨x.2.toArray⟩≤x.1.length+1:=Lib.count_le x.1 x.2
   omega
 · intro s hs
   obtain ⟨b,hb,rfl⟩:=List.mem_map.1 hs
   have:∀ (k:Nat) (s:ByteArray),∀ y∈Lib.splitB ⟨x.2.toArray⟩ 0 k s,y.size≤s.size:=by
    intro k
    induction k with
    | zero=>intro s y hy; rw [Lib.splitB_zero,List.mem_singleton] at hy; subst hy; exact Nat.le_refl _
    | succ k ih =>
      intro s y hy
      unfold Lib.splitB at hy
      split at hy
      · rw [List.mem_singleton] at hy; subst hy; exact Nat.le_refl _
      · rcases List.mem_cons.1 hy with rfl | hy
        · rw [ByteArray.size_extract]; omega
        · have:=ih _ y hy
          rw [ByteArray.size_extract] at this; omega
   have:=this _ _ b hb
   have e:(⟨x.1.toArray⟩:ByteArray).size=x.1.length:=rfl
   rw [e] at this; exact this
theorem uqu_ (x:List Int) (h:True):Tot (uhu_ x) (fun r:List Int=>r=x):=ub_.2 rfl
theorem uch_ (x:List Int) (h:True):Tot (ucd_ x) (fun r:Str=>r.length=x.length):=ub_.2 (uh_ x)
theorem ubj3_ (x:YY10×YY13×Bool) (h:x.1.1.length≤1048576∧0≤x.1.2.1∧x.1.2.1≤x.1.1.length∧(x.2.2=true→x.1.2.1<x.1.1.length)∧x.2.1.2.2.2.2.2.length≤1048576):Tot (uqf_ x) (fun r:YY10×YY13=>r.1.1=x.1.1∧x.1.2.1≤r.1.2.1∧r.1.2.1≤x.1.1.length∧r.2.1=x.2.1.1∧r.2.2.1=x.2.1.2.1∧r.2.2.2.1=x.2.1.2.2.1∧r.2.2.2.2.1=x.2.1.2.2.2.1∧r.2.2.2.2.2.1=x.2.1.2.2.2.2.1∧r.2.2.2.2.2.2.length≤1099513724929):=by
 obtain ⟨r_0,p_3,t97⟩:=x
 try dsimp only at h ⊢
 unfold uqf_
 repeat' first
  | (with_reducible first | refine ug_.2 ⟨fun _=>?_,fun _=>?_⟩ | refine ua_.2 ?_ | refine ub_.2 ?_ | refine (u5v_ _ ?_).mono fun _ _=>?_ | refine (und_ _ ?_).mono fun _ _=>?_)
  | dsimp only
 all_goals grind [un_,uh_,uc_,uw_,ur_,u3_,u2_,u8le,uj_,ue_,ucjo_]
theorem ubu2_ (x:Unit) (h:True):Tot (ubta_ x) (fun r=>r.length=5∧∀ z∈r,z.1.length≤20):=⟨_,rfl,rfl,by decide⟩
theorem ubzf_ (x:Str×(List YY29)×Int) (h:0≤x.2.2∧x.2.2≤(5:Int)∧x.2.1.length=(5:Int)∧(5:Int)≤281474976710656∧∀ z∈x.2.1,z.1.length≤20):Tot (ubkk_ x) (fun r:Sum (Unit) (Int)=>match r with | .inl _=>True | .inr r=>0≤r∧r<5∧x.1.length≤20):=by
 refine uq_ (R:=fun r:Sum (Unit) (Int)=>match r with | .inl _=>True | .inr r=>0≤r∧r<5∧x.1.length≤20) (fun y:Str×(List YY29)×Int=>(0≤y.2.2∧y.2.2≤(5:Int)∧y.2.1.length=(5:Int)∧(5:Int)≤281474976710656∧∀ z∈y.2.1,z.1.length≤20)∧y.1=x.1) (fun y:Str×(List YY29)×Int=>((5:Int)-y.2.2).toNat) ?_ _ _ (by grind) (by unfold fuel; grind)
 rintro next ⟨kind_0,t5,t6⟩ h hn
 try dsimp only at h hn
 unfold ubxs_
 repeat' first
  | (with_reducible first | refine ug_.2 ⟨fun _=>?_,fun _=>?_⟩ | refine ua_.2 ?_ | refine ub_.2 ?_ | refine u1_.2 ⟨?_,fun _ _=>?_⟩ | refine hn _ ?_ ?_)
  | dsimp only
 all_goals grind [un_,uh_,uc_,uw_,ur_,u3_,u2_,u8le,uj_,ue_]
theorem ub5p_ (x:Str) (h:True):Tot (ubtb_ x) (fun r:Int=>r<5∧(0≤r→x.length≤20)):=by
 unfold ubtb_
 repeat' first
  | (with_reducible first | refine ua_.2 ?_ | refine ub_.2 ?_ | refine (ubu2_ _ ?_).mono fun _ _=>?_ | refine (ubzf_ _ ?_).mono fun _ _=>?_)
  | split
  | dsimp only
 all_goals grind [un_,uh_,uc_,uw_,ur_,u3_,u2_,u8le,uj_,ue_]
theorem ubx6_ (x:Str) (h:True):Tot (ubtc_ x) (fun r:YY29×Int=>r.2=0→x.length≤20):=by
 unfold ubtc_
 repeat' first
  | (with_reducible first | refine ug_.2 ⟨fun _=>?_,fun _=>?_⟩ | refine ua_.2 ?_ | refine ub_.2 ?_ | refine u1_.2 ⟨?_,fun _ _=>?_⟩ | refine (ub5p_ _ ?_).mono fun _ _=>?_ | refine (ubu2_ _ ?_).mono fun _ _=>?_)
  | dsimp only
 all_goals grind [un_,uh_,uc_,uw_,ur_,u3_,u2_,u8le,uj_,ue_]
theorem ub1w_ (x:(List Str)×Int×Int) (h:0≤x.2.2∧x.2.2≤x.2.1∧x.2.1=x.1.length∧x.2.1≤281474976710656):Tot (ubqt_ x) (fun r:Sum (Unit) (Bool)=>match r with | .inl _=>(∀ j:Nat,x.2.2≤j→∀ s,x.1[j]? = some s→s.length≤200) | .inr r=>r=true):=by
 refine uq_ (R:=fun r:Sum (Unit) (Bool)=>match r with | .inl _=>(∀ j:Nat,x.2.2≤j→∀ s,x.1[j]? = some s→s.length≤200) | .inr r=>r=true) (fun y:(List Str)×Int×Int=>(0≤y.2.2∧y.2.2≤y.2.1∧y.2.1=y.1.length∧y.2.1≤281474976710656)∧y.1=x.1∧(∀ j:Nat,x.2.2≤j→(j:Int)<y.2.2→∀ s,y.1[j]? = some s→s.length≤200)∧x.2.2≤y.2.2) (fun y:(List Str)×Int×Int=>(y.2.1-y.2.2).toNat) ?_ _ _ (by grind) (by unfold fuel; grind)
 rintro next ⟨t15,t16,t17⟩ h hn
 try dsimp only at h hn
 unfold ub0i_
 repeat' first
  | (with_reducible first | refine ug_.2 ⟨fun _=>?_,fun _=>?_⟩ | refine ua_.2 ?_ | refine ub_.2 ?_ | refine u1_.2 ⟨?_,fun _ _=>?_⟩ | refine hn _ ?_ ?_)
  | dsimp only
 all_goals grind [un_,uh_,uc_,uw_,ur_,u3_,u2_,u8le,uj_,ue_]
end Go.Ev.Pv
namespace Go.Ev.Pv
theorem ub7g_ {α:Type} {l:List α} {P:α→Prop} (h:∀ j:Nat,(0:Int)≤j→∀ s,l[j]? = some s→P s):∀ s∈l,P s:=fun s hs=>let ⟨j,hj⟩:=List.getElem?_of_mem hs; h j (Int.natCast_nonneg j) s hj
theorem ub1x_ (x:YY6×Int×Int) (h:0≤x.2.2∧x.2.2≤x.2.1∧x.2.1=x.1.length∧x.2.1≤281474976710656):Tot (ubqu_ x) (fun r:Sum (Unit) (Bool)=>match r with | .inl _=>(∀ j:Nat,x.2.2≤j→∀ s,x.1[j]? = some s→s.1.length≤200∧s.2.length≤200) | .inr r=>r=true):=by
 refine uq_ (R:=fun r:Sum (Unit) (Bool)=>match r with | .inl _=>(∀ j:Nat,x.2.2≤j→∀ s,x.1[j]? = some s→s.1.length≤200∧s.2.length≤200) | .inr r=>r=true) (fun y:YY6×Int×Int=>(0≤y.2.2∧y.2.2≤y.2.1∧y.2.1=y.1.length∧y.2.1≤281474976710656)∧y.1=x.1∧(∀ j:Nat,x.2.2≤j→(j:Int)<y.2.2→∀ s,y.1[j]? = some s→s.1.length≤200∧s.2.length≤200)∧x.2.2≤y.2.2) (fun y:YY6×Int×Int=>(y.2.1-y.2.2).toNat) ?_ _ _ (by grind) (by unfold fuel; grind)
 rintro next ⟨t26,t27,t28⟩ h hn
 try dsimp only at h hn
 unfold ub0j_
 repeat' first
  | (with_reducible first | refine ug_.2 ⟨fun _=>?_,fun _=>?_⟩ | refine ua_.2 ?_ | refine ub_.2 ?_ | refine u1_.2 ⟨?_,fun _ _=>?_⟩ | refine hn _ ?_ ?_)
  | dsimp only
 all_goals grind [un_,uh_,uc_,uw_,ur_,u3_,u2_,u8le,uj_,ue_]
theorem ub7h_ (x:Str×Str×Str×Str×YY6×Str) (h:x.2.2.2.2.1.length≤1048576):Tot (ubzp_ x) (fun r:Bool=>r=false→(x.2.1.length≤200∧x.2.2.1.length≤200∧x.2.2.2.1.length≤200∧x.2.2.2.2.2.length≤200∧x.2.2.2.2.1.length≤10∧∀ q∈x.2.2.2.2.1,q.1.length≤200∧q.2.length≤200)):=by
 unfold ubzp_
 dsimp only
 refine ua_.2 ((ub1w_ _ (by simp)).mono fun r hr=>?_)
 rcases r with r | r
 · have hr:=ub7g_ hr
   refine ua_.2 ((ub1x_ _ (by dsimp only; omega)).mono fun r2 hr2=>?_)
   rcases r2 with r2 | r2
   · have hr2:=ub7g_ hr2
     refine ub_.2 fun he=>?_
     have he:=of_decide_eq_false he
     refine ⟨hr _ (by simp),hr _ (by simp),hr _ (by simp),hr _ (by simp),by omega,hr2⟩
   · have hr2:r2=true:=hr2
     subst hr2
     exact ub_.2 fun he=>by cases he
 · have hr:r=true:=hr
   subst hr
   exact ub_.2 fun he=>by cases he
theorem u4i_ (x:Str) (h:x.length<4294967281):Tot (uv7_ x) (fun r:List Str=>r.length≤x.length+2∧∀ s∈r,s.length≤x.length):=by
 unfold uv7_
 repeat' first
  | (with_reducible first | refine ug_.2 ⟨fun _=>?_,fun _=>?_⟩ | refine ua_.2 ?_ | refine ub_.2 ?_ | refine (ubim_ _ ?_).mono fun _ _=>?_)
  | dsimp only
 all_goals grind [un_,uh_,uc_,uw_,ur_,u3_,u2_,u8le,uj_,ue_]
theorem ubpj_ (x:Bool×(List Str)×Int×Int) (h:0≤x.2.2.2∧x.2.2.2≤x.2.2.1∧x.2.2.1=x.2.1.length∧x.2.2.1≤281474976710656):Tot (u3s_ x) (fun r:Sum (Unit) (Bool)=>True):=by
 refine uq_ (R:=fun r:Sum (Unit) (Bool)=>True) (fun y:Bool×(List Str)×Int×Int=>(0≤y.2.2.2∧y.2.2.2≤y.2.2.1∧y.2.2.1=y.2.1.length∧y.2.2.1≤281474976710656)) (fun y:Bool×(List Str)×Int×Int=>(y.2.2.1-y.2.2.2).toNat) ?_ _ _ (by grind) (by unfold fuel; grind)
 rintro next ⟨dots_1,t7,t8,t9⟩ h hn
 try dsimp only at h hn
 unfold ubho_
 repeat' first
  | (with_reducible first | refine ug_.2 ⟨fun _=>?_,fun _=>?_⟩ | refine ua_.2 ?_ | refine ub_.2 ?_ | refine u1_.2 ⟨?_,fun _ _=>?_⟩ | refine hn _ ?_ ?_)
  | dsimp only
 all_goals grind [un_,uh_,uc_,uw_,ur_,u3_,u2_,u8le,uj_,ue_]
theorem ubeu_ (x:(List Str)×Bool) (h:x.1.length≤1048576):Tot (uw9_ x) (fun r:Bool=>True):=by
 obtain ⟨l_0,dots_1⟩:=x
 try dsimp only at h ⊢
 unfold uw9_
 repeat' first
  | (with_reducible first | refine ua_.2 ?_ | refine ub_.2 ?_ | refine (ubpj_ _ ?_).mono fun _ _=>?_)
  | split
  | dsimp only
 all_goals grind [un_,uh_,uc_,uw_,ur_,u3_,u2_,u8le,uj_,ue_]
theorem ubev_ (x:Str×Int×Int) (h:0≤x.2.2∧x.2.2≤x.2.1∧x.2.1=x.1.length∧x.2.1≤281474976710656):Tot (uta_ x) (fun r:Sum (Unit) (Bool)=>True):=by
 refine uq_ (R:=fun r:Sum (Unit) (Bool)=>True) (fun y:Str×Int×Int=>(0≤y.2.2∧y.2.2≤y.2.1∧y.2.1=y.1.length∧y.2.1≤281474976710656)) (fun y:Str×Int×Int=>(y.2.1-y.2.2).toNat) ?_ _ _ (by grind) (by unfold fuel; grind)
 rintro next ⟨s_0,t5,t6⟩ h hn
 try dsimp only at h hn
 unfold u4o_
 repeat' first
  | (with_reducible first | refine ug_.2 ⟨fun _=>?_,fun _=>?_⟩ | refine ua_.2 ?_ | refine ub_.2 ?_ | refine u1_.2 ⟨?_,fun _ _=>?_⟩ | refine (ubil_ _ ?_).mono fun _ _=>?_ | refine hn _ ?_ ?_)
  | dsimp only
 all_goals grind [un_,uh_,uc_,uw_,ur_,u3_,u2_,u8le,uj_,ue_]
theorem ubm0_ (x:Str) (h:x.length≤1048576):Tot (ur4_ x) (fun r:Bool=>True):=by
 unfold ur4_
 repeat' first
  | (with_reducible first | refine ua_.2 ?_ | refine ub_.2 ?_ | refine (ubev_ _ ?_).mono fun _ _=>?_)
  | split
  | dsimp only
 all_goals grind [un_,uh_,uc_,uw_,ur_,u3_,u2_,u8le,uj_,ue_]
theorem u9q_ (x:YY6×YY6×Int×Int)
 (h:0≤x.2.2.2∧x.2.2.2≤x.2.2.1∧x.2.2.1=x.2.1.length∧x.2.2.1≤281474976710656∧x.1.length=x.2.1.length∧∀ q∈x.2.1,q.1.length≤1048576):Tot (upq_ x) (fun r=>True):=by
 refine uq_ (fun x:YY6×YY6×Int×Int=>0≤x.2.2.2∧x.2.2.2≤x.2.2.1∧x.2.2.1=x.2.1.length∧x.2.2.1≤281474976710656∧x.1.length=x.2.1.length∧∀ q∈x.2.1,q.1.length≤1048576)
  (fun x=>(x.2.2.1-x.2.2.2).toNat) ?_ _ _ h (by unfold fuel; omega)
 rintro next ⟨l_0,t5,t6,t7⟩ h hn
 dsimp only at h hn
 obtain ⟨h1,h2,h3,h4,h5,h6⟩:=h
 unfold uzs_
 dsimp only
 refine ug_.2 ⟨fun hc=>?_,fun _=>ub_.2 trivial⟩
 have hc:=of_decide_eq_true hc
 refine ua_.2 (u1_.2 ⟨⟨by omega,by omega⟩,fun y hy=>?_⟩)
 refine ua_.2 ((ubm0_ _ (h6 _ (List.mem_of_getElem? hy))).mono fun r _=>?_)
 refine ug_.2 ⟨fun _=>ub_.2 trivial,fun _=>?_⟩
 refine ug_.2 ⟨fun _=>ub_.2 trivial,fun _=>?_⟩
 refine ua_.2 (Tot.mono (P:=fun _=>True) ?_ fun y3 _=>?_)
 · refine ug_.2 ⟨fun hd=>?_,fun _=>ub_.2 trivial⟩
   have hd:=of_decide_eq_true hd
   rw [ubc_ (by omega) (by omega)]
   exact u1_.2 ⟨⟨by omega,by omega⟩,fun _ _=>trivial⟩
 · refine ug_.2 ⟨fun _=>ub_.2 trivial,fun _=>?_⟩
   rw [ubc_ (n:=t7+1) (by omega) (by omega)]
   exact hn _ ⟨by dsimp only; omega,by dsimp only; omega,h3,h4,h5,h6⟩ (by dsimp only; omega)
theorem ubhb_ (x:List (Str×Str)) (h:x.length≤1048576∧∀ q∈x,q.1.length≤1048576):Tot (uny_ x) (fun r:Int=>True):=by
 unfold uny_
 repeat' first
  | (with_reducible first | refine ua_.2 ?_ | refine ub_.2 ?_ | refine (u9q_ _ ?_).mono fun _ _=>?_)
  | split
  | dsimp only
 all_goals grind [un_,uh_,uc_,uw_,ur_,u3_,u2_,u8le,uj_,ue_]
theorem ubu3_ (x:Str×Int×Int) (h:0≤x.2.2∧x.2.2≤x.2.1∧x.2.1=x.1.length∧x.2.1≤281474976710656):Tot (ubbf_ x) (fun r:Sum (Unit) (Bool)=>True):=by
 refine uq_ (R:=fun r:Sum (Unit) (Bool)=>True) (fun y:Str×Int×Int=>(0≤y.2.2∧y.2.2≤y.2.1∧y.2.1=y.1.length∧y.2.1≤281474976710656)) (fun y:Str×Int×Int=>(y.2.1-y.2.2).toNat) ?_ _ _ (by grind) (by unfold fuel; grind)
 rintro next ⟨s_0,t5,t6⟩ h hn
 try dsimp only at h hn
 unfold ubpx_
 repeat' first
  | (with_reducible first | refine ug_.2 ⟨fun _=>?_,fun _=>?_⟩ | refine ua_.2 ?_ | refine ub_.2 ?_ | refine u1_.2 ⟨?_,fun _ _=>?_⟩ | refine hn _ ?_ ?_)
  | dsimp only
 all_goals grind [un_,uh_,uc_,uw_,ur_,u3_,u2_,u8le,uj_,ue_]
theorem ubm1_ (x:Str) (h:x.length≤1048576):Tot (u6u_ x) (fun r:Bool=>True):=by
 unfold u6u_
 repeat' first
  | (with_reducible first | refine ua_.2 ?_ | refine ub_.2 ?_ | refine (ubu3_ _ ?_).mono fun _ _=>?_)
  | split
  | dsimp only
 all_goals grind [un_,uh_,uc_,uw_,ur_,u3_,u2_,u8le,uj_,ue_]
theorem ubzg_ (x:(List Str)×Int×Int) (h:0≤x.2.2∧x.2.2≤x.2.1∧x.2.1=x.1.length∧x.2.1≤281474976710656∧∀ z∈x.1,z.length≤1048576):Tot (ubkl_ x) (fun r:Sum (Unit) (Int)=>∀ z,r=.inr z→z=8):=by
 refine uq_ (R:=fun r:Sum (Unit) (Int)=>∀ z,r=.inr z→z=8) (fun y:(List Str)×Int×Int=>(0≤y.2.2∧y.2.2≤y.2.1∧y.2.1=y.1.length∧y.2.1≤281474976710656∧∀ z∈y.1,z.length≤1048576)) (fun y:(List Str)×Int×Int=>(y.2.1-y.2.2).toNat) ?_ _ _ (by grind) (by unfold fuel; grind)
 rintro next ⟨t75,t76,t77⟩ h hn
 try dsimp only at h hn
 unfold ubxt_
 repeat' first
  | (with_reducible first | refine ug_.2 ⟨fun _=>?_,fun _=>?_⟩ | refine ua_.2 ?_ | refine ub_.2 ?_ | refine u1_.2 ⟨?_,fun _ _=>?_⟩ | refine (ubm1_ _ ?_).mono fun _ _=>?_ | refine hn _ ?_ ?_)
  | dsimp only
 all_goals grind [un_,uh_,uc_,uw_,ur_,u3_,u2_,u8le,uj_,ue_]
theorem ubxd_ (x:YY6×Int×Int) (h:0≤x.2.2∧x.2.2≤x.2.1∧x.2.1=x.1.length∧x.2.1≤281474976710656∧∀ z∈x.1,z.2.length≤1048576):Tot (ube9_ x) (fun r:Sum (Unit) (Int)=>∀ z,r=.inr z→z=8):=by
 refine uq_ (R:=fun r:Sum (Unit) (Int)=>∀ z,r=.inr z→z=8) (fun y:YY6×Int×Int=>(0≤y.2.2∧y.2.2≤y.2.1∧y.2.1=y.1.length∧y.2.1≤281474976710656∧∀ z∈y.1,z.2.length≤1048576)) (fun y:YY6×Int×Int=>(y.2.1-y.2.2).toNat) ?_ _ _ (by grind) (by unfold fuel; grind)
 rintro next ⟨t85,t86,t87⟩ h hn
 try dsimp only at h hn
 unfold ubtd_
 repeat' first
  | (with_reducible first | refine ug_.2 ⟨fun _=>?_,fun _=>?_⟩ | refine ua_.2 ?_ | refine ub_.2 ?_ | refine u1_.2 ⟨?_,fun _ _=>?_⟩ | refine (ubm1_ _ ?_).mono fun _ _=>?_ | refine hn _ ?_ ?_)
  | dsimp only
 all_goals grind [un_,uh_,uc_,uw_,ur_,u3_,u2_,u8le,uj_,ue_]
end Go.Ev.Pv
namespace Go.Ev.Pv
theorem ubqp_ (x:Int) (h:True):Tot (ubcw_ x) (fun r:Bool=>True):=by
 unfold ubcw_
 repeat' first
  | with_reducible refine ub_.2 ?_
  | dsimp only
 all_goals grind [un_,uh_,uc_,uw_,ur_,u3_,u2_,u8le,uj_,ue_]
theorem udx_ (x:(List Int)×Int) (h:x.1.length≤1048576000):Tot (ubn_ x) (fun r:Unit×(List Int)=>r.2.length=x.1.length+1):=by
 obtain ⟨b_0,c_1⟩:=x
 try dsimp only at h ⊢
 unfold ubn_
 repeat' first
  | (with_reducible first | refine ua_.2 ?_ | refine ub_.2 ?_ | refine ule_.2 ⟨?_,?_⟩ | refine (uqu_ _ ?_).mono fun _ _=>?_)
  | dsimp only
 all_goals grind [un_,uh_,uc_,uw_,ur_,u3_,u2_,u8le,uj_,ue_]
theorem ucy_ (x:(List Int)×Str) (h:x.1.length≤1048576000∧x.2.length≤1048576000):Tot (ubs_ x) (fun r:Int×Unit×(List Int)=>r.2.2.length=x.1.length+x.2.length):=by
 obtain ⟨b_0,s_1⟩:=x
 try dsimp only at h ⊢
 unfold ubs_
 repeat' first
  | (with_reducible first | refine ua_.2 ?_ | refine ub_.2 ?_ | refine ule_.2 ⟨?_,?_⟩ | refine (uqu_ _ ?_).mono fun _ _=>?_)
  | dsimp only
 all_goals grind [un_,uh_,uc_,uw_,ur_,u3_,u2_,u8le,uj_,ue_]
theorem ubxe_ (x:Str×(List Int)×Int×Int) (h:0≤x.2.2.2∧x.2.2.2≤x.2.2.1∧x.2.2.1=x.1.length∧x.2.1.length≤x.2.2.2∧x.1.length≤1048576):Tot (ubfa_ x) (fun r:List Int=>r.length≤x.1.length):=by
 refine uq_ (R:=fun r:List Int=>r.length≤x.1.length) (fun y:Str×(List Int)×Int×Int=>y.1=x.1∧0≤y.2.2.2∧y.2.2.2≤y.2.2.1∧y.2.2.1=y.1.length∧y.2.1.length≤y.2.2.2∧y.1.length≤1048576)
  (fun y=>(y.2.2.1-y.2.2.2).toNat) ?_ _ _ ⟨rfl,h⟩ (by unfold fuel; omega)
 rintro next ⟨s_0,b_3,t6,t7⟩ h hn
 dsimp only at h hn
 obtain ⟨h0,h1,h2,h3,h4,h5⟩:=h
 unfold ubte_
 dsimp only
 refine ug_.2 ⟨fun hc=>?_,fun hc=>ub_.2 ?_⟩
 · have hc:=of_decide_eq_true hc
   have hw:IntKind.i64.wrap (t7+1)=t7+1:=ubc_ (by omega) (by omega)
   rw [hw]
   refine ua_.2 (u1_.2 ⟨⟨h1,by omega⟩,fun b _=>?_⟩)
   refine ua_.2 ((ubqp_ _ trivial).mono fun r _=>?_)
   refine ug_.2 ⟨fun _=>?_,fun _=>?_⟩
   · refine ua_.2 (u1_.2 ⟨⟨h1,by omega⟩,fun b2 _=>?_⟩)
     refine ua_.2 ((udx_ _ (by dsimp only; omega)).mono fun r2 hr=>?_)
     dsimp only at hr
     exact hn _ ⟨h0,by dsimp only; omega,by dsimp only; omega,h3,by dsimp only; omega,h5⟩ (by dsimp only; omega)
   · refine ua_.2 (Tot.mono (P:=fun _=>True) ?_ fun b5 _=>?_)
     · refine ug_.2 ⟨fun hd=>?_,fun _=>ub_.2 trivial⟩
       have hd:t7≠0:=by
        rw [ur_] at hd
        simpa using hd
       rw [ubc_ (by omega) (by omega)]
       exact u1_.2 ⟨⟨by omega,by omega⟩,fun _ _=>trivial⟩
     · refine ua_.2 (Tot.mono (P:=fun _=>True) ?_ fun r6 _=>?_)
       · exact ug_.2 ⟨fun _=>(ubqp_ _ trivial).mono fun _ _=>trivial,fun _=>ub_.2 trivial⟩
       · refine ug_.2 ⟨fun _=>?_,fun _=>?_⟩
         · refine ua_.2 ((udx_ _ (by dsimp only; omega)).mono fun r7 hr=>?_)
           dsimp only at hr
           exact hn _ ⟨h0,by dsimp only; omega,by dsimp only; omega,h3,by dsimp only; omega,h5⟩ (by dsimp only; omega)
         · exact hn _ ⟨h0,by dsimp only; omega,by dsimp only; omega,h3,by dsimp only; omega,h5⟩ (by dsimp only; omega)
 · have hc:=of_decide_eq_false hc
   rw [← h0]; omega
theorem ub3c_ (x:Str) (h:x.length≤1048576):Tot (ubnj_ x) (fun r:Str=>r.length≤x.length):=by
 unfold ubnj_
 repeat' first
  | (with_reducible first | refine ua_.2 ?_ | refine ub_.2 ?_ | refine (ubxe_ _ ?_).mono fun _ _=>?_ | refine (uch_ _ ?_).mono fun _ _=>?_)
  | dsimp only
 all_goals grind [un_,uh_,uc_,uw_,ur_,u3_,u2_,u8le,uj_,ue_]
theorem ubpk_ (x:YY16×Bool) (h:x.1.2.1.length≤1048576∧x.1.2.2.1.length≤1048576):Tot (uu0_ x) (fun r:Str×Str×Str×Str×YY6×Str=>r.1=x.1.1∧r.2.1.length=x.1.2.1.length∧r.2.2.1.length=x.1.2.2.1.length∧r.2.2.2=x.1.2.2.2):=by
 obtain ⟨p_1,t12⟩:=x
 try dsimp only at h ⊢
 unfold uu0_
 repeat' first
  | (with_reducible first | refine ug_.2 ⟨fun _=>?_,fun _=>?_⟩ | refine ua_.2 ?_ | refine ub_.2 ?_ | refine (ubg7_ _ ?_).mono fun _ _=>?_)
  | dsimp only
 all_goals grind [un_,uh_,uc_,uw_,ur_,u3_,u2_,u8le,uj_,ue_]
end Go.Ev.Pv
namespace Go.Ev.Pv
theorem app48 {α:Type} {a b:List α} {Q:List α→Prop} (h1:a.length+b.length≤1099511627776) (h2:Q (a++b)):Tot (app? 48 a b) Q:=ule_.2 ⟨by omega,h2⟩
theorem ubew_ (x:Str×Str×Str×Str×YY6×Str) (h:x.1.length≤20∧x.2.1.length≤200∧x.2.2.1.length≤200∧x.2.2.2.1.length≤200∧x.2.2.2.2.2.length≤200∧x.2.2.2.2.1.length≤10∧(∀ q∈x.2.2.2.2.1,q.1.length≤200∧q.2.length≤200)):Tot (uxa_ x) (fun r:Str×Str×Str×Str×YY6×Str=>r.1.length≤20∧r.2.1.length≤200∧r.2.2.1.length≤200∧r.2.2.2.1.length≤200∧r.2.2.2.2.2.length≤200∧r.2.2.2.2.1.length≤10∧(∀ q∈r.2.2.2.2.1,q.1.length≤200∧q.2.length≤200)):=by
 obtain ⟨g1,g2,g3,g4,g5,g6,g7⟩:=h
 unfold uxa_
 try dsimp only
 refine ua_.2 ((ubx6_ _ trivial).mono fun r1 _=>?_)
 refine ua_.2 ((ubpk_ _ ⟨by dsimp only; omega,by dsimp only; omega⟩).mono fun r4 hr=>?_)
 try dsimp only at hr
 obtain ⟨e1,e2,e3,e4⟩:=hr
 have k1:r4.1.length≤20:=by rw [e1]; exact g1
 have k4:r4.2.2.2.1.length≤200:=by rw [e4]; exact g4
 have k5:r4.2.2.2.2.1.length≤10:=by rw [e4]; exact g6
 have k6:r4.2.2.2.2.2.length≤200:=by rw [e4]; exact g5
 have k7:∀ q∈r4.2.2.2.2.1,q.1.length≤200∧q.2.length≤200:=by rw [e4]; exact g7
 refine ug_.2 ⟨fun _=>?_,fun _=>?_⟩
 · refine ua_.2 ((ub3c_ _ (by omega)).mono fun r5 h5=>?_)
   refine ua_.2 (app48 (by simp; omega) ?_)
   exact ub_.2 ⟨k1,by dsimp only; omega,by dsimp only; omega,k4,k6,by simpa using k5,by simpa using k7⟩
 · refine ua_.2 (app48 (by simp; omega) ?_)
   exact ub_.2 ⟨k1,by dsimp only; omega,by dsimp only; omega,k4,k6,by simpa using k5,by simpa using k7⟩
theorem ubu4_ (x:Str×Str×Str×Str×YY6×Str) (h:x.2.2.2.2.1.length≤1048576):Tot (ubkm_ x) (fun r:Int=>r=0→(x.1.length≤20∧x.2.1.length≤200∧x.2.2.1.length≤200∧x.2.2.2.1.length≤200∧x.2.2.2.2.2.length≤200∧x.2.2.2.2.1.length≤10∧(∀ q∈x.2.2.2.2.1,q.1.length≤200∧q.2.length≤200))):=by
 unfold ubkm_
 try dsimp only
 refine ua_.2 ((ubx6_ _ trivial).mono fun r1 h1=>?_)
 refine ug_.2 ⟨fun hc=>ub_.2 fun he=>?_,fun hc=>?_⟩
 · rw [ur_,he] at hc; simp at hc
 have g1:x.1.length≤20:=h1 (by rw [ur_] at hc; simpa using hc)
 refine ua_.2 ((ub7h_ _ h).mono fun r2 h2=>?_)
 refine ug_.2 ⟨fun _=>ub_.2 fun he=>absurd he (by decide),fun hc2=>?_⟩
 obtain ⟨a1,a2,a3,a4,a5,a6⟩:=h2 hc2
 refine ug_.2 ⟨fun _=>ub_.2 fun he=>absurd he (by decide),fun _=>?_⟩
 refine ua_.2 ((u4i_ _ (by omega)).mono fun r5 h5=>?_)
 refine ua_.2 ((ubeu_ _ (by (try dsimp only); omega)).mono fun r6 _=>?_)
 refine ug_.2 ⟨fun _=>ub_.2 fun he=>absurd he (by decide),fun _=>?_⟩
 refine ua_.2 (Tot.mono (P:=fun _=>True) (ug_.2 ⟨fun _=>(uin_ _ (by (try dsimp only); omega)).mono fun _ _=>trivial,fun _=>ub_.2 trivial⟩) fun r7 _=>?_)
 refine ug_.2 ⟨fun _=>ub_.2 fun he=>absurd he (by decide),fun _=>?_⟩
 refine ua_.2 ((ubhb_ _ ⟨by omega,fun q hq=>by have:=a6 q hq; omega⟩).mono fun r9 _=>?_)
 refine ug_.2 ⟨fun hc=>ub_.2 fun he=>?_,fun _=>?_⟩
 · rw [ur_,he] at hc; simp at hc
 refine ua_.2 ((u4i_ _ (by omega)).mono fun r10 h10=>?_)
 refine ua_.2 ((ubeu_ _ (by (try dsimp only); omega)).mono fun r11 _=>?_)
 refine ug_.2 ⟨fun _=>ub_.2 fun he=>absurd he (by decide),fun _=>?_⟩
 refine ua_.2 ((ubzg_ _ ⟨Int.le_refl _,by simp,rfl,by simp,fun z hz=>?_⟩).mono fun r15 h15=>?_)
 · simp only [List.mem_cons,List.not_mem_nil,or_false] at hz
   rcases hz with rfl | rfl | rfl | rfl <;> omega
 rcases r15 with r15 | r15
 · refine ua_.2 ((ubxd_ _ ⟨Int.le_refl _,Int.natCast_nonneg _,rfl,(by show ((x.2.2.2.2.1.length:Nat):Int)≤281474976710656; omega),fun z hz=>by have:=a6 z hz; omega⟩).mono fun r19 h19=>?_)
   rcases r19 with r19 | r19
   · exact ub_.2 fun _=>⟨g1,a1,a2,a3,a4,a5,a6⟩
   · exact ub_.2 fun he=>by have:=h19 _ rfl; omega
 · exact ub_.2 fun he=>by have:=h15 _ rfl; omega
end Go.Ev.Pv
namespace Go.Ev.Pv
theorem ucjp_ {q:Int} {Q:Str→Prop} (l:Str) (hl:l.length=16) (h0:0≤q) (h1:q≤15) (h:∀ s:Str,s.length=1→Q s):Tot (cut? l q (IntKind.u8.wrap (q+1))) Q:=by
 rw [wrap8 (by omega) (by omega)]
 refine us8_.2 ⟨⟨h0,by omega,by omega⟩,h _ ?_⟩
 rw [List.length_drop,List.length_take]
 omega
theorem ubu5_ (x:Str×(List Int)×Int×Int) (h:0≤x.2.2.2∧x.2.2.2≤x.2.2.1∧x.2.2.1=x.1.length∧x.2.1.length≤3*x.2.2.2∧x.1.length≤1048576):Tot (ubbg_ x) (fun r:List Int=>r.length≤3*x.1.length):=by
 refine uq_ (R:=fun r:List Int=>r.length≤3*x.1.length) (fun y:Str×(List Int)×Int×Int=>y.1=x.1∧0≤y.2.2.2∧y.2.2.2≤y.2.2.1∧y.2.2.1=y.1.length∧y.2.1.length≤3*y.2.2.2∧y.1.length≤1048576)
  (fun y=>(y.2.2.1-y.2.2.2).toNat) ?_ _ _ ⟨rfl,h⟩ (by unfold fuel; omega)
 rintro next ⟨s_0,b_3,t7,t8⟩ h hn
 dsimp only at h hn
 obtain ⟨h0,h1,h2,h3,h4,h5⟩:=h
 unfold ubpy_
 dsimp only
 refine ug_.2 ⟨fun hc=>?_,fun hc=>ub_.2 ?_⟩
 · have hc:=of_decide_eq_true hc
   have hw:IntKind.i64.wrap (t8+1)=t8+1:=ubc_ (by omega) (by omega)
   rw [hw]
   refine ua_.2 (u1_.2 ⟨⟨h1,by omega⟩,fun b _=>?_⟩)
   refine ua_.2 ((ubik_ _ trivial).mono fun r _=>?_)
   refine ua_.2 (Tot.mono (P:=fun _=>True) (ug_.2 ⟨fun _=>(uin_ _ (by show 4≤1048576; decide)).mono fun _ _=>trivial,fun _=>ub_.2 trivial⟩) fun r4 _=>?_)
   refine ug_.2 ⟨fun _=>?_,fun _=>?_⟩
   · refine ua_.2 ((udx_ _ (by dsimp only; omega)).mono fun r5 hr=>?_)
     dsimp only at hr
     exact hn _ ⟨h0,by dsimp only; omega,by dsimp only; omega,h3,by dsimp only; omega,h5⟩ (by dsimp only; omega)
   · obtain ⟨d1,d2⟩:=u8div b
     obtain ⟨m1,m2⟩:=u8mod b
     have hq:IntKind.u8.wrap ((b.toNat:Int).tdiv 16)=(b.toNat:Int).tdiv 16:=wrap8 d1 (by omega)
     refine ua_.2 (div8.2 ⟨by decide,?_⟩)
     refine ua_.2 (div8.2 ⟨by decide,?_⟩)
     rw [hq]
     refine ua_.2 (ucjp_ _ rfl d1 d2 fun s8 e8=>?_)
     refine ua_.2 (uek_.2 ⟨by simp [e8],?_⟩)
     refine ua_.2 (mod8.2 ⟨by decide,?_⟩)
     refine ua_.2 (mod8.2 ⟨by decide,?_⟩)
     refine ua_.2 (ucjp_ _ rfl m1 m2 fun s12 e12=>?_)
     refine ua_.2 (uek_.2 ⟨by simp [e8,e12],?_⟩)
     have e13:([37]++s8++s12:Str).length=3:=by simp [e8,e12]
     refine ua_.2 ((ucy_ _ ⟨by dsimp only; omega,by rw [e13]; decide⟩).mono fun r14 hr=>?_)
     rw [e13] at hr
     dsimp only at hr
     exact hn _ ⟨h0,by dsimp only; omega,by dsimp only; omega,h3,by dsimp only; omega,h5⟩ (by dsimp only; omega)
 · have hc:=of_decide_eq_false hc
   rw [← h0]; omega
theorem u8g_ (x:Str) (h:x.length≤1048576):Tot (u0s_ x) (fun r:Str=>r.length≤3*x.length):=by
 unfold u0s_
 repeat' first
  | (with_reducible first | refine ua_.2 ?_ | refine ub_.2 ?_ | refine (ubu5_ _ ?_).mono fun _ _=>?_ | refine (uch_ _ ?_).mono fun _ _=>?_)
  | dsimp only
 all_goals grind [un_,uh_,uc_,uw_,ur_,u3_,u2_,u8le,uj_,ue_]
end Go.Ev.Pv
namespace Go.Ev.Pv
theorem ub1y_ (x:(List Str)×(List Str)×Int×Int) (h:0≤x.2.2.2∧x.2.2.2≤x.2.2.1∧x.2.2.1=x.2.1.length∧x.2.2.1≤202∧x.1.length≤x.2.2.2∧(∀ z∈x.2.1,z.length≤200)∧(∀ z∈x.1,z.length≤600)) :
 Tot (ubqw_ x) (fun r:List Str=>r.length≤202∧∀ z∈r,z.length≤600):=by
 refine uq_ (R:=fun r:List Str=>r.length≤202∧∀ z∈r,z.length≤600) (fun x:(List Str)×(List Str)×Int×Int=>0≤x.2.2.2∧x.2.2.2≤x.2.2.1∧x.2.2.1=x.2.1.length∧x.2.2.1≤202∧x.1.length≤x.2.2.2∧(∀ z∈x.2.1,z.length≤200)∧(∀ z∈x.1,z.length≤600))
  (fun y=>(y.2.2.1-y.2.2.2).toNat) ?_ _ _ h (by unfold fuel; omega)
 rintro next ⟨l_3,t7,t8,t9⟩ h hn
 dsimp only at h hn
 obtain ⟨h1,h2,h3,h4,h5,h6,h7⟩:=h
 unfold ub0l_
 dsimp only
 refine ug_.2 ⟨fun hc=>?_,fun hc=>ub_.2 ⟨by omega,h7⟩⟩
 have hc:=of_decide_eq_true hc
 have hw:IntKind.i64.wrap (t9+1)=t9+1:=ubc_ (by omega) (by omega)
 rw [hw]
 refine ua_.2 (u1_.2 ⟨⟨h1,by omega⟩,fun y2 hy=>?_⟩)
 have hy:=h6 _ (List.mem_of_getElem? hy)
 refine ua_.2 ((u8g_ _ (by omega)).mono fun r3 hr=>?_)
 refine ua_.2 (ule_.2 ⟨by simp; omega,?_⟩)
 refine hn _ ⟨by dsimp only; omega,by dsimp only; omega,h3,h4,by simp; omega,h6,fun z hz=>?_⟩ (by dsimp only; omega)
 rcases List.mem_append.1 hz with hz | hz
 · exact h7 z hz
 · rw [List.mem_singleton] at hz; subst hz; omega
theorem ub7i_ (x:Str) (h:x.length≤200):Tot (ubzr_ x) (fun r:Str=>r.length≤121402):=by
 unfold ubzr_
 refine ua_.2 ((u4i_ _ (by omega)).mono fun r1 h1=>?_)
 refine ua_.2 ((ub1y_ _ ⟨Int.le_refl _,Int.natCast_nonneg _,rfl,(by show ((r1.length:Nat):Int)≤202; omega),(by simp),(fun z hz=>by have:=h1.2 z hz; omega),(fun z hz=>by cases hz)⟩).mono fun r5 h5=>?_)
 have hj:=ub8y_ [47] 600 r5 h5.2
 have hm:r5.length*(600+[(47:UInt8)].length)≤202*(600+1):=Nat.mul_le_mul h5.1 (Nat.le_refl _)
 refine ua_.2 ((und_ _ ⟨by have:=h5.1; dsimp only; omega,by dsimp only; omega⟩).mono fun r6 h6=>ub_.2 ?_)
 rw [h6]; dsimp only; omega
theorem ub1z_ (x:Str×Str×Str×Str×YY6×Str) (h:x.1.length≤20∧x.2.1.length≤200∧x.2.2.1.length≤200∧x.2.2.2.1.length≤200∧x.2.2.2.2.2.length≤200∧x.2.2.2.2.1.length≤10∧(∀ q∈x.2.2.2.2.1,q.1.length≤200∧q.2.length≤200)):Tot (ubfb_ x) (fun r:Str=>r.length≤200000):=by
 obtain ⟨g1,g2,g3,g4,g5,g6,g7⟩:=h
 unfold ubfb_
 refine ua_.2 (uek_.2 ⟨by simp; omega,?_⟩)
 refine ua_.2 (uek_.2 ⟨by simp; omega,?_⟩)
 refine ug_.2 ⟨fun _=>?_,fun _=>?_⟩
 · refine ua_.2 ((ub7i_ _ g2).mono fun r3 h3=>?_)
   refine ua_.2 (uek_.2 ⟨by simp; omega,?_⟩)
   refine ua_.2 (uek_.2 ⟨by simp; omega,?_⟩)
   refine ua_.2 ((u8g_ _ (by omega)).mono fun r6 h6=>?_)
   refine ua_.2 (uek_.2 ⟨by simp; omega,?_⟩)
   exact ub_.2 (by simp; omega)
 · refine ua_.2 ((u8g_ _ (by omega)).mono fun r6 h6=>?_)
   refine ua_.2 (uek_.2 ⟨by simp; omega,?_⟩)
   exact ub_.2 (by simp; omega)
theorem ub80_ (x:Str×Str×Str×Str×YY6×Str) (h:x.2.2.2.2.1.length≤1048576):Tot (ub42_ x) (fun r:Str×Int=>r.1.length≤200000):=by
 unfold ub42_
 refine ua_.2 ((ubu4_ _ h).mono fun r1 h1=>?_)
 refine ug_.2 ⟨fun _=>ub_.2 (by simp),fun hc=>?_⟩
 have h1:=h1 (by rw [ur_] at hc; simpa using hc)
 refine ua_.2 ((ubew_ _ h1).mono fun r2 h2=>?_)
 exact ua_.2 ((ub1z_ _ h2).mono fun r3 h3=>ub_.2 h3)
end Go.Ev.Pv
namespace Go.Ev.Pv
theorem uph_ (x:YY6×Int×YY14×Int) (h:(∀ p,Tot (x.2.2.1 p) fun _=>True)∧0≤x.2.1∧x.2.1≤x.2.2.2∧x.2.2.2<x.1.length∧x.1.length≤1048576) :
 Tot (ued_ x) (fun r:List (Str×Str)=>r.length=x.1.length∧∀ q∈r,q∈x.1):=by
 refine uq_ (R:=fun r:List (Str×Str)=>r.length=x.1.length∧∀ q∈r,q∈x.1) (fun y:YY6×Int×YY14×Int=>(∀ p,Tot (y.2.2.1 p) fun _=>True)∧0≤y.2.1∧y.2.1≤y.2.2.2∧y.2.2.2<y.1.length∧y.1.length≤1048576∧y.1.length=x.1.length∧∀ q∈y.1,q∈x.1)
  (fun y=>y.2.2.2.toNat) ?_ _ _ ⟨h.1,h.2.1,h.2.2.1,h.2.2.2.1,h.2.2.2.2,rfl,fun q hq=>hq⟩ (by obtain ⟨_,_,_,_,_⟩:=h; unfold fuel; omega)
 rintro next ⟨data_0,a_1,cmp_3,j_9⟩ h hn
 dsimp only at h hn
 obtain ⟨h0,h1,h2,h3,h4,h5,h6⟩:=h
 unfold uhv_
 dsimp only
 by_cases hc:a_1<j_9
 · have hw:IntKind.i64.wrap (j_9-1)=j_9-1:=ubc_ (by omega) (by omega)
   simp only [hw,decide_eq_true hc,cond_true,Bool.true_and]
   refine ua_.2 (ucf_.2 ⟨⟨by omega,by omega⟩,?_⟩)
   refine ua_.2 (ucf_.2 ⟨⟨by omega,by omega⟩,?_⟩)
   refine ua_.2 ((h0 _).mono fun r3 _=>?_)
   refine ug_.2 ⟨fun _=>?_,fun _=>ub_.2 ⟨h5,h6⟩⟩
   refine ua_.2 (ucf_.2 ⟨⟨by omega,by omega⟩,?_⟩)
   refine ua_.2 (ucf_.2 ⟨⟨by omega,by omega⟩,?_⟩)
   refine ua_.2 (ucf_.2 ⟨⟨by omega,by omega⟩,?_⟩)
   refine ua_.2 (ucf_.2 ⟨⟨by omega,by rw [List.length_set]; omega⟩,?_⟩)
   refine hn _ ⟨h0,h1,by dsimp only; omega,by simp only [List.length_set]; omega,by simp only [List.length_set]; omega,by simp only [List.length_set]; omega,fun q hq=>?_⟩ (by dsimp only; omega)
   rcases ue_ hq with hq | rfl
   · rcases ue_ hq with hq | rfl
     · exact h6 q hq
     · exact h6 _ (uj_ (by omega))
   · exact h6 _ (uj_ (by omega))
 · simp only [decide_eq_false hc,cond_false,Bool.false_and]
   refine ua_.2 (ub_.2 ?_)
   refine ua_.2 (ub_.2 ?_)
   refine ua_.2 (ub_.2 ?_)
   exact ub_.2 ⟨h5,h6⟩
theorem upi_ (x:YY6×Int×Int×YY14×Int) (h:(∀ p,Tot (x.2.2.2.1 p) fun _=>True)∧0≤x.2.1∧x.2.1≤x.2.2.2.2∧x.2.2.1≤x.1.length∧x.2.2.2.2≤1048577∧x.1.length≤1048576) :
 Tot (uee_ x) (fun r:List (Str×Str)=>r.length=x.1.length∧∀ q∈r,q∈x.1):=by
 refine uq_ (R:=fun r:List (Str×Str)=>r.length=x.1.length∧∀ q∈r,q∈x.1) (fun y:YY6×Int×Int×YY14×Int=>(∀ p,Tot (y.2.2.2.1 p) fun _=>True)∧0≤y.2.1∧y.2.1≤y.2.2.2.2∧y.2.2.1≤y.1.length∧y.2.2.2.2≤1048577∧y.1.length≤1048576∧y.1.length=x.1.length∧∀ q∈y.1,q∈x.1)
  (fun y=>(y.2.2.1-y.2.2.2.2).toNat) ?_ _ _ ⟨h.1,h.2.1,h.2.2.1,h.2.2.2.1,h.2.2.2.2.1,h.2.2.2.2.2,rfl,fun q hq=>hq⟩ (by obtain ⟨_,_,_,_,_,_⟩:=h; unfold fuel; omega)
 rintro next ⟨data_0,a_1,b_2,cmp_3,i_8⟩ h hn
 dsimp only at h hn
 obtain ⟨h0,h1,h2,h3,h4,h5,h6,h7⟩:=h
 unfold uhw_
 dsimp only
 refine ug_.2 ⟨fun hc=>?_,fun _=>ub_.2 ⟨h6,h7⟩⟩
 have hc:=of_decide_eq_true hc
 have hw:IntKind.i64.wrap (i_8+1)=i_8+1:=ubc_ (by omega) (by omega)
 rw [hw]
 refine ua_.2 ((uph_ _ ⟨h0,h1,h2,by dsimp only; omega,h5⟩).mono fun r hr=>?_)
 dsimp only at hr
 obtain ⟨e1,e2⟩:=hr
 exact hn _ ⟨h0,h1,by dsimp only; omega,by dsimp only; omega,by dsimp only; omega,by dsimp only; omega,by dsimp only; omega,fun q hq=>h7 q (e2 q hq)⟩ (by dsimp only; omega)
theorem uhs_ (x:YY6×Int×Int×YY14) (h:(∀ p,Tot (x.2.2.2 p) fun _=>True)∧0≤x.2.1∧x.2.1≤1048576∧x.2.2.1≤x.1.length∧x.1.length≤1048576) :
 Tot (uby_ x) (fun r:List (Str×Str)=>r.length=x.1.length∧∀ q∈r,q∈x.1):=by
 obtain ⟨data_0,a_1,b_2,cmp_3⟩:=x
 dsimp only at h
 obtain ⟨h0,h1,h2,h3,h4⟩:=h
 unfold uby_
 dsimp only
 rw [ubc_ (by omega) (by omega)]
 exact ua_.2 ((upi_ _ ⟨h0,h1,by dsimp only; omega,h3,by dsimp only; omega,h4⟩).mono fun r hr=>ub_.2 hr)
theorem usp_ (x:YY6×Int×Int×Int×Int) (h:0≤x.2.1∧0≤x.2.2.1∧x.2.1+x.2.2.2.1≤x.1.length∧x.2.2.1+x.2.2.2.1≤x.1.length∧0≤x.2.2.2.2∧x.1.length≤1048576) :
 Tot (ufj_ x) (fun r:List (Str×Str)=>r.length=x.1.length∧∀ q∈r,q∈x.1):=by
 refine uq_ (R:=fun r:List (Str×Str)=>r.length=x.1.length∧∀ q∈r,q∈x.1) (fun y:YY6×Int×Int×Int×Int=>0≤y.2.1∧0≤y.2.2.1∧y.2.1+y.2.2.2.1≤y.1.length∧y.2.2.1+y.2.2.2.1≤y.1.length∧0≤y.2.2.2.2∧y.1.length≤1048576∧y.1.length=x.1.length∧∀ q∈y.1,q∈x.1)
  (fun y=>(y.2.2.2.1-y.2.2.2.2).toNat) ?_ _ _ ⟨h.1,h.2.1,h.2.2.1,h.2.2.2.1,h.2.2.2.2.1,h.2.2.2.2.2,rfl,fun q hq=>hq⟩ (by obtain ⟨_,_,_,_,_,_⟩:=h; unfold fuel; omega)
 rintro next ⟨data_0,a_1,b_2,n_3,i_10⟩ h hn
 dsimp only at h hn
 obtain ⟨h1,h2,h3,h4,h5,h6,h7,h8⟩:=h
 unfold ujw_
 dsimp only
 refine ug_.2 ⟨fun hc=>?_,fun _=>ub_.2 ⟨h7,h8⟩⟩
 have hc:=of_decide_eq_true hc
 have hw1:IntKind.i64.wrap (a_1+i_10)=a_1+i_10:=ubc_ (by omega) (by omega)
 have hw2:IntKind.i64.wrap (b_2+i_10)=b_2+i_10:=ubc_ (by omega) (by omega)
 have hw3:IntKind.i64.wrap (i_10+1)=i_10+1:=ubc_ (by omega) (by omega)
 rw [hw1,hw2,hw3]
 refine ua_.2 (ucf_.2 ⟨⟨by omega,by omega⟩,?_⟩)
 refine ua_.2 (ucf_.2 ⟨⟨by omega,by omega⟩,?_⟩)
 refine ua_.2 (ucf_.2 ⟨⟨by omega,by omega⟩,?_⟩)
 refine ua_.2 (ucf_.2 ⟨⟨by omega,by rw [List.length_set]; omega⟩,?_⟩)
 refine hn _ ⟨h1,h2,by simp only [List.length_set]; omega,by simp only [List.length_set]; omega,by dsimp only; omega,by simp only [List.length_set]; omega,by simp only [List.length_set]; omega,fun q hq=>?_⟩ (by dsimp only; omega)
 rcases ue_ hq with hq | rfl
 · rcases ue_ hq with hq | rfl
   · exact h8 q hq
   · exact h8 _ (uj_ (by omega))
 · exact h8 _ (uj_ (by omega))
end Go.Ev.Pv
namespace Go.Ev.Pv
theorem ue7_ (x:YY6×Int×Int×Int×YY14) (h:0≤x.2.1∧0≤x.2.2.1∧x.2.1+x.2.2.2.1≤x.1.length∧x.2.2.1+x.2.2.2.1≤x.1.length∧x.1.length≤1048576) :
 Tot (ubw_ x) (fun r:List (Str×Str)=>r.length=x.1.length∧∀ q∈r,q∈x.1):=by
 obtain ⟨data_0,a_1,b_2,n_3,cmp_4⟩:=x
 obtain ⟨h1,h2,h3,h4,h5⟩:=h
 unfold ubw_
 dsimp only
 exact ua_.2 ((usp_ _ ⟨h1,h2,h3,h4,Int.le_refl _,h5⟩).mono fun r hr=>ub_.2 hr)
theorem uv2_ (x:YY6×Int×YY14×Int×Int) (h:0<x.2.2.2.1∧0<x.2.2.2.2∧x.2.2.2.1≤x.2.1∧x.2.1+x.2.2.2.2≤x.1.length∧x.1.length≤1048576) :
 Tot (ugr_ x) (fun r:YY6×Int=>r.1.length=x.1.length∧(∀ q∈r.1,q∈x.1)∧0<r.2∧r.2≤x.2.1∧x.2.1+r.2≤x.1.length):=by
 refine uq_ (R:=fun r:YY6×Int=>r.1.length=x.1.length∧(∀ q∈r.1,q∈x.1)∧0<r.2∧r.2≤x.2.1∧x.2.1+r.2≤x.1.length) (fun y:YY6×Int×YY14×Int×Int=>0<y.2.2.2.1∧0<y.2.2.2.2∧y.2.2.2.1≤y.2.1∧y.2.1+y.2.2.2.2≤y.1.length∧y.1.length≤1048576∧y.1.length=x.1.length∧(∀ q∈y.1,q∈x.1)∧y.2.1=x.2.1)
  (fun y=>(y.2.2.2.1+y.2.2.2.2).toNat) ?_ _ _ ⟨h.1,h.2.1,h.2.2.1,h.2.2.2.1,h.2.2.2.2,rfl,(fun q hq=>hq),rfl⟩ (by obtain ⟨_,_,_,_,_⟩:=h; unfold fuel; omega)
 rintro next ⟨data_0,m_2,cmp_4,i_10,j_11⟩ h hn
 dsimp only at h hn
 obtain ⟨h1,h2,h3,h4,h5,h6,h7,h8⟩:=h
 unfold umd_
 dsimp only
 refine ug_.2 ⟨fun hc=>?_,fun hc=>ub_.2 ⟨h6,h7,h1,by dsimp only; omega,?_⟩⟩
 · have hc:i_10≠j_11:=by rw [ur_] at hc; simpa using hc
   have hw1:IntKind.i64.wrap (m_2-i_10)=m_2-i_10:=ubc_ (by omega) (by omega)
   have hw2:IntKind.i64.wrap (m_2+j_11)=m_2+j_11:=ubc_ (by omega) (by omega)
   have hw3:IntKind.i64.wrap (m_2+j_11-i_10)=m_2+j_11-i_10:=ubc_ (by omega) (by omega)
   have hw4:IntKind.i64.wrap (i_10-j_11)=i_10-j_11:=ubc_ (by omega) (by omega)
   have hw5:IntKind.i64.wrap (j_11-i_10)=j_11-i_10:=ubc_ (by omega) (by omega)
   rw [hw1,hw2,hw3,hw4,hw5]
   refine ug_.2 ⟨fun hd=>?_,fun hd=>?_⟩
   · have hd:=of_decide_eq_true hd
     refine ua_.2 ((ue7_ _ ⟨by dsimp only; omega,by dsimp only; omega,by dsimp only; omega,by dsimp only; omega,h5⟩).mono fun r hr=>?_)
     dsimp only at hr
     exact hn _ ⟨by dsimp only; omega,h2,by dsimp only; omega,by dsimp only; omega,by dsimp only; omega,by dsimp only; omega,fun q hq=>h7 q (hr.2 q hq),h8⟩ (by dsimp only; omega)
   · have hd:=of_decide_eq_false hd
     refine ua_.2 ((ue7_ _ ⟨by dsimp only; omega,by dsimp only; omega,by dsimp only; omega,by dsimp only; omega,h5⟩).mono fun r hr=>?_)
     dsimp only at hr
     exact hn _ ⟨h1,by dsimp only; omega,h3,by dsimp only; omega,by dsimp only; omega,by dsimp only; omega,fun q hq=>h7 q (hr.2 q hq),h8⟩ (by dsimp only; omega)
 · have hc:i_10=j_11:=by rw [ur_] at hc; simpa using hc
   omega
theorem uzl_ (x:YY6×Int×Int×Int×YY14) (h:0≤x.2.1∧x.2.1<x.2.2.1∧x.2.2.1<x.2.2.2.1∧x.2.2.2.1≤x.1.length∧x.1.length≤1048576) :
 Tot (uff_ x) (fun r:List (Str×Str)=>r.length=x.1.length∧∀ q∈r,q∈x.1):=by
 obtain ⟨data_0,a_1,m_2,b_3,cmp_4⟩:=x
 dsimp only at h
 obtain ⟨h1,h2,h3,h4,h5⟩:=h
 unfold uff_
 dsimp only
 rw [ubc_ (n:=m_2-a_1) (by omega) (by omega),ubc_ (n:=b_3-m_2) (by omega) (by omega)]
 refine ua_.2 ((uv2_ _ ⟨by dsimp only; omega,by dsimp only; omega,by dsimp only; omega,by dsimp only; omega,h5⟩).mono fun r hr=>?_)
 dsimp only at hr
 obtain ⟨e1,e2,e3,e4,e5⟩:=hr
 rw [ubc_ (n:=m_2-r.2) (by omega) (by omega)]
 refine ua_.2 ((ue7_ _ ⟨by dsimp only; omega,by dsimp only; omega,by dsimp only; omega,by dsimp only; omega,by dsimp only; omega⟩).mono fun r4 hr=>ub_.2 ?_)
 dsimp only at hr
 exact ⟨by omega,fun q hq=>e2 q (hr.2 q hq)⟩
end Go.Ev.Pv
namespace Go.Ev.Pv
theorem u4j_ {i j:Int} {Q:Int→Prop} (h1:0≤i) (h2:0≤j) (h3:i≤4611686018427387903) (h4:j≤4611686018427387903) (h:Q ((i+j) / 2)):Tot (shr? IntKind.u64 (IntKind.u64.wrap (IntKind.i64.wrap (i+j))) (1:Int)) Q:=by
 have e1:IntKind.i64.wrap (i+j)=i+j:=ubc_ (by omega) (by omega)
 have e2:IntKind.u64.wrap (i+j)=i+j:=by
  simp only [IntKind.wrap,IntKind.bits,IntKind.signed]
  simp
  omega
 rw [e1,e2]
 have e3:(i+j).fdiv (2 ^ min (1:Int).toNat IntKind.u64.bits)=(i+j) / 2:=by
  have:(2:Int) ^ min (1:Int).toNat IntKind.u64.bits=2:=by decide
  rw [this,Int.fdiv_eq_ediv_of_nonneg _ (by decide)]
 unfold shr?
 rw [e3]
 exact ub_.2 h
theorem ut2_ (slf:YY6×Int×Int×Int×YY14→Option YY6) (x:YY6×Int×YY14×Int×Int) (h:(∀ p,Tot (x.2.2.1 p) fun _=>True)∧0≤x.2.1∧x.2.1<x.1.length∧0≤x.2.2.2.1∧x.2.2.2.1≤x.2.2.2.2∧x.2.2.2.2≤x.1.length∧x.1.length≤1048576) :
 Tot (ufz_ slf x) (fun r:YY6×Int=>r.1=x.1∧x.2.2.2.1≤r.2∧r.2≤x.2.2.2.2):=by
 refine uq_ (R:=fun r:YY6×Int=>r.1=x.1∧x.2.2.2.1≤r.2∧r.2≤x.2.2.2.2) (fun y:YY6×Int×YY14×Int×Int=>(∀ p,Tot (y.2.2.1 p) fun _=>True)∧0≤y.2.1∧y.2.1<y.1.length∧0≤y.2.2.2.1∧y.2.2.2.1≤y.2.2.2.2∧y.2.2.2.2≤y.1.length∧y.1.length≤1048576∧y.1=x.1∧x.2.2.2.1≤y.2.2.2.1∧y.2.2.2.2≤x.2.2.2.2)
  (fun y=>(y.2.2.2.2-y.2.2.2.1).toNat) ?_ _ _ ⟨h.1,h.2.1,h.2.2.1,h.2.2.2.1,h.2.2.2.2.1,h.2.2.2.2.2.1,h.2.2.2.2.2.2,rfl,Int.le_refl _,Int.le_refl _⟩ (by obtain ⟨_,_,_,_,_,_,_⟩:=h; unfold fuel; omega)
 rintro next ⟨data_0,a_1,cmp_4,i_10,j_11⟩ h hn
 dsimp only at h hn
 obtain ⟨h0,h1,h2,h3,h4,h5,h6,h7,h8,h9⟩:=h
 unfold ukh_
 dsimp only
 refine ug_.2 ⟨fun hc=>?_,fun hc=>ub_.2 ⟨h7,h8,by dsimp only; omega⟩⟩
 have hc:=of_decide_eq_true hc
 refine ua_.2 (u4j_ (by omega) (by omega) (by omega) (by omega) ?_)
 have hw1:IntKind.i64.wrap ((i_10+j_11) / 2)=(i_10+j_11) / 2:=ubc_ (by omega) (by omega)
 have hw2:IntKind.i64.wrap ((i_10+j_11) / 2+1)=(i_10+j_11) / 2+1:=ubc_ (by omega) (by omega)
 rw [hw1,hw2]
 refine ua_.2 (ucf_.2 ⟨⟨by omega,by omega⟩,?_⟩)
 refine ua_.2 (ucf_.2 ⟨⟨by omega,by omega⟩,?_⟩)
 refine ua_.2 ((h0 _).mono fun r4 _=>?_)
 refine ug_.2 ⟨fun _=>?_,fun _=>?_⟩
 · exact hn _ ⟨h0,h1,h2,by dsimp only; omega,by dsimp only; omega,h5,h6,h7,by dsimp only; omega,h9⟩ (by dsimp only; omega)
 · exact hn _ ⟨h0,h1,h2,h3,by dsimp only; omega,by dsimp only; omega,h6,h7,h8,by dsimp only; omega⟩ (by dsimp only; omega)
end Go.Ev.Pv
namespace Go.Ev.Pv
theorem ut3_ (slf:YY6×Int×Int×Int×YY14→Option YY6) (x:YY6×Int×Int) (h:0≤x.2.1∧x.2.1≤x.1.length∧0≤x.2.2∧x.1.length≤1048576) :
 Tot (uf0_ slf x) (fun r:List (Str×Str)=>r.length=x.1.length∧∀ q∈r,q∈x.1):=by
 refine uq_ (R:=fun r:List (Str×Str)=>r.length=x.1.length∧∀ q∈r,q∈x.1) (fun y:YY6×Int×Int=>0≤y.2.1∧y.2.1≤y.1.length∧0≤y.2.2∧y.1.length≤1048576∧y.1.length=x.1.length∧∀ q∈y.1,q∈x.1)
  (fun y=>(y.2.1-y.2.2).toNat) ?_ _ _ ⟨h.1,h.2.1,h.2.2.1,h.2.2.2,rfl,fun q hq=>hq⟩ (by obtain ⟨_,_,_,_⟩:=h; unfold fuel; omega)
 rintro next ⟨data_0,i_10,k_13⟩ h hn
 dsimp only at h hn
 obtain ⟨h1,h2,h3,h4,h5,h6⟩:=h
 unfold uki_
 dsimp only
 rw [ubc_ (n:=i_10-1) (by omega) (by omega)]
 refine ug_.2 ⟨fun hc=>?_,fun hc=>ub_.2 ⟨h5,h6⟩⟩
 have hc:=of_decide_eq_true hc
 have hw:IntKind.i64.wrap (k_13+1)=k_13+1:=ubc_ (by omega) (by omega)
 rw [hw]
 refine ua_.2 (ucf_.2 ⟨⟨by omega,by omega⟩,?_⟩)
 refine ua_.2 (ucf_.2 ⟨⟨by omega,by omega⟩,?_⟩)
 refine ua_.2 (ucf_.2 ⟨⟨by omega,by omega⟩,?_⟩)
 refine ua_.2 (ucf_.2 ⟨⟨by omega,by rw [List.length_set]; omega⟩,?_⟩)
 refine hn _ ⟨h1,by simp only [List.length_set]; omega,by dsimp only; omega,by simp only [List.length_set]; omega,by simp only [List.length_set]; omega,fun q hq=>?_⟩ (by dsimp only; omega)
 rcases ue_ hq with hq | rfl
 · rcases ue_ hq with hq | rfl
   · exact h6 q hq
   · exact h6 _ (uj_ (by omega))
 · exact h6 _ (uj_ (by omega))
theorem usq_ (slf:YY6×Int×Int×Int×YY14→Option YY6) (x:YY6×Int×Int) (h:0≤x.2.1∧x.2.2<x.1.length∧x.1.length≤1048576) :
 Tot (ufk_ slf x) (fun r:List (Str×Str)=>r.length=x.1.length∧∀ q∈r,q∈x.1):=by
 refine uq_ (R:=fun r:List (Str×Str)=>r.length=x.1.length∧∀ q∈r,q∈x.1) (fun y:YY6×Int×Int=>0≤y.2.1∧y.2.2<y.1.length∧y.1.length≤1048576∧y.1.length=x.1.length∧∀ q∈y.1,q∈x.1)
  (fun y=>(y.2.2-y.2.1).toNat) ?_ _ _ ⟨h.1,h.2.1,h.2.2,rfl,fun q hq=>hq⟩ (by obtain ⟨_,_,_⟩:=h; unfold fuel; omega)
 rintro next ⟨data_0,i_14,k_17⟩ h hn
 dsimp only at h hn
 obtain ⟨h1,h2,h4,h5,h6⟩:=h
 unfold ujx_
 dsimp only
 refine ug_.2 ⟨fun hc=>?_,fun hc=>ub_.2 ⟨h5,h6⟩⟩
 have hc:=of_decide_eq_true hc
 have hw:IntKind.i64.wrap (k_17-1)=k_17-1:=ubc_ (by omega) (by omega)
 rw [hw]
 refine ua_.2 (ucf_.2 ⟨⟨by omega,by omega⟩,?_⟩)
 refine ua_.2 (ucf_.2 ⟨⟨by omega,by omega⟩,?_⟩)
 refine ua_.2 (ucf_.2 ⟨⟨by omega,by omega⟩,?_⟩)
 refine ua_.2 (ucf_.2 ⟨⟨by omega,by rw [List.length_set]; omega⟩,?_⟩)
 refine hn _ ⟨h1,by simp only [List.length_set]; omega,by simp only [List.length_set]; omega,by simp only [List.length_set]; omega,fun q hq=>?_⟩ (by dsimp only; omega)
 rcases ue_ hq with hq | rfl
 · rcases ue_ hq with hq | rfl
   · exact h6 q hq
   · exact h6 _ (uj_ (by omega))
 · exact h6 _ (uj_ (by omega))
end Go.Ev.Pv
namespace Go.Ev.Pv
theorem ut4_ (slf:YY6×Int×Int×Int×YY14→Option YY6) (x:YY6×Int×YY14×Int×Int) (h:(∀ p,Tot (x.2.2.1 p) fun _=>True)∧0≤x.2.1∧x.2.1<x.1.length∧0≤x.2.2.2.1∧x.2.2.2.1≤x.2.2.2.2∧x.2.2.2.2≤x.1.length∧x.1.length≤1048576) :
 Tot (uf1_ slf x) (fun r:YY6×Int=>r.1=x.1∧x.2.2.2.1≤r.2∧r.2≤x.2.2.2.2):=by
 refine uq_ (R:=fun r:YY6×Int=>r.1=x.1∧x.2.2.2.1≤r.2∧r.2≤x.2.2.2.2) (fun y:YY6×Int×YY14×Int×Int=>(∀ p,Tot (y.2.2.1 p) fun _=>True)∧0≤y.2.1∧y.2.1<y.1.length∧0≤y.2.2.2.1∧y.2.2.2.1≤y.2.2.2.2∧y.2.2.2.2≤y.1.length∧y.1.length≤1048576∧y.1=x.1∧x.2.2.2.1≤y.2.2.2.1∧y.2.2.2.2≤x.2.2.2.2)
  (fun y=>(y.2.2.2.2-y.2.2.2.1).toNat) ?_ _ _ ⟨h.1,h.2.1,h.2.2.1,h.2.2.2.1,h.2.2.2.2.1,h.2.2.2.2.2.1,h.2.2.2.2.2.2,rfl,Int.le_refl _,Int.le_refl _⟩ (by obtain ⟨_,_,_,_,_,_,_⟩:=h; unfold fuel; omega)
 rintro next ⟨data_0,m_2,cmp_4,i_14,j_15⟩ h hn
 dsimp only at h hn
 obtain ⟨h0,h1,h2,h3,h4,h5,h6,h7,h8,h9⟩:=h
 unfold ukj_
 dsimp only
 refine ug_.2 ⟨fun hc=>?_,fun hc=>ub_.2 ⟨h7,h8,by dsimp only; omega⟩⟩
 have hc:=of_decide_eq_true hc
 refine ua_.2 (u4j_ (by omega) (by omega) (by omega) (by omega) ?_)
 have hw1:IntKind.i64.wrap ((i_14+j_15) / 2)=(i_14+j_15) / 2:=ubc_ (by omega) (by omega)
 have hw2:IntKind.i64.wrap ((i_14+j_15) / 2+1)=(i_14+j_15) / 2+1:=ubc_ (by omega) (by omega)
 rw [hw1,hw2]
 refine ua_.2 (ucf_.2 ⟨⟨by omega,by omega⟩,?_⟩)
 refine ua_.2 (ucf_.2 ⟨⟨by omega,by omega⟩,?_⟩)
 refine ua_.2 ((h0 _).mono fun r13 _=>?_)
 refine ug_.2 ⟨fun _=>?_,fun _=>?_⟩
 · exact hn _ ⟨h0,h1,h2,by dsimp only; omega,by dsimp only; omega,h5,h6,h7,by dsimp only; omega,h9⟩ (by dsimp only; omega)
 · exact hn _ ⟨h0,h1,h2,h3,by dsimp only; omega,by dsimp only; omega,h6,h7,h8,by dsimp only; omega⟩ (by dsimp only; omega)
end Go.Ev.Pv
namespace Go.Ev.Pv
theorem usr_ (slf:YY6×Int×Int×Int×YY14→Option YY6) (x:YY6×YY14×Int×Int×Int) (h:(∀ p,Tot (x.2.1 p) fun _=>True)∧0≤x.2.2.1∧x.2.2.1≤x.2.2.2.1∧x.2.2.2.1≤x.1.length∧x.2.2.2.1-1≤x.2.2.2.2∧x.2.2.2.2-x.2.2.1<x.1.length∧x.1.length≤1048576) :
 Tot (ufl_ slf x) (fun r:YY6×Int=>r.1=x.1∧x.2.2.1≤r.2∧r.2≤x.2.2.2.1):=by
 refine uq_ (R:=fun r:YY6×Int=>r.1=x.1∧x.2.2.1≤r.2∧r.2≤x.2.2.2.1) (fun y:YY6×YY14×Int×Int×Int=>(∀ p,Tot (y.2.1 p) fun _=>True)∧0≤y.2.2.1∧y.2.2.1≤y.2.2.2.1∧y.2.2.2.1≤y.1.length∧y.2.2.2.1-1≤y.2.2.2.2∧y.2.2.2.2-y.2.2.1<y.1.length∧y.1.length≤1048576∧y.1=x.1∧x.2.2.1≤y.2.2.1∧y.2.2.2.1≤x.2.2.2.1)
  (fun y=>(y.2.2.2.1-y.2.2.1).toNat) ?_ _ _ ⟨h.1,h.2.1,h.2.2.1,h.2.2.2.1,h.2.2.2.2.1,h.2.2.2.2.2.1,h.2.2.2.2.2.2,rfl,Int.le_refl _,Int.le_refl _⟩ (by obtain ⟨_,_,_,_,_,_,_⟩:=h; unfold fuel; omega)
 rintro next ⟨data_0,cmp_4,start_20,r_21,p_22⟩ h hn
 dsimp only at h hn
 obtain ⟨h0,h1,h2,h3,h4,h5,h6,h7,h8,h9⟩:=h
 unfold ujy_
 dsimp only
 refine ug_.2 ⟨fun hc=>?_,fun hc=>ub_.2 ⟨h7,h8,by dsimp only; omega⟩⟩
 have hc:=of_decide_eq_true hc
 refine ua_.2 (u4j_ (by omega) (by omega) (by omega) (by omega) ?_)
 have hw1:IntKind.i64.wrap ((start_20+r_21) / 2)=(start_20+r_21) / 2:=ubc_ (by omega) (by omega)
 have hw2:IntKind.i64.wrap ((start_20+r_21) / 2+1)=(start_20+r_21) / 2+1:=ubc_ (by omega) (by omega)
 have hw3:IntKind.i64.wrap (p_22-(start_20+r_21) / 2)=p_22-(start_20+r_21) / 2:=ubc_ (by omega) (by omega)
 rw [hw1,hw2,hw3]
 refine ua_.2 (ucf_.2 ⟨⟨by omega,by omega⟩,?_⟩)
 refine ua_.2 (ucf_.2 ⟨⟨by omega,by omega⟩,?_⟩)
 refine ua_.2 ((h0 _).mono fun r4 _=>?_)
 refine ug_.2 ⟨fun _=>?_,fun _=>?_⟩
 · exact hn _ ⟨h0,by dsimp only; omega,by dsimp only; omega,h3,h4,by dsimp only; omega,h6,h7,by dsimp only; omega,h9⟩ (by dsimp only; omega)
 · exact hn _ ⟨h0,h1,by dsimp only; omega,by dsimp only; omega,by dsimp only; omega,h5,h6,h7,h8,by dsimp only; omega⟩ (by dsimp only; omega)
end Go.Ev.Pv
namespace Go.Ev.Pv
theorem uss_ (slf:YY6×Int×Int×Int×YY14→Option YY6) (x:YY6×Int×YY14×Int×Int×Bool) (h:x.1.length≤1048576∧(x.2.2.2.2.2=true→0≤x.2.2.2.1∧x.2.2.2.1<x.2.1∧x.2.1<x.2.2.2.2.1∧x.2.2.2.2.1≤x.1.length)) :
 Tot (udh_ slf x) (fun r:List (Str×Str)=>r.length=x.1.length∧∀ q∈r,q∈x.1):=by
 obtain ⟨data_0,m_2,cmp_4,start_20,end_24,t185⟩:=x
 dsimp only at h
 unfold udh_
 dsimp only
 refine ug_.2 ⟨fun hc=>?_,fun _=>ub_.2 ⟨rfl,fun q hq=>hq⟩⟩
 obtain ⟨h1,h2,h3,h4⟩:=h.2 hc
 exact ua_.2 ((uzl_ _ ⟨h1,h2,h3,h4,h.1⟩).mono fun r hr=>ub_.2 hr)
end Go.Ev.Pv
namespace Go.Ev.Pv
theorem urz_ (slf:YY6×Int×Int×Int×YY14→Option YY6) (K:Int) (ih:∀ y:YY6×Int×Int×Int×YY14,((∀ p,Tot (y.2.2.2.2 p) fun _=>True)∧0≤y.2.1∧y.2.1<y.2.2.1∧y.2.2.1<y.2.2.2.1∧y.2.2.2.1≤y.1.length∧y.1.length≤1048576)→y.2.2.2.1-y.2.1≤K→Tot (slf y) (fun r:List (Str×Str)=>r.length=y.1.length∧∀ q∈r,q∈y.1)) (x:YY6×Int×Int×Int×YY14) (h:(∀ p,Tot (x.2.2.2.2 p) fun _=>True)∧0≤x.2.1∧x.2.1<x.2.2.1∧x.2.2.1<x.2.2.2.1∧x.2.2.2.1≤x.1.length∧x.1.length≤1048576) (hK:x.2.2.2.1-x.2.1≤2*K) :
 Tot (uez_ slf x) (fun r:List (Str×Str)=>r.length=x.1.length∧∀ q∈r,q∈x.1):=by
 obtain ⟨data_0,a_1,m_2,b_3,cmp_4⟩:=x
 dsimp only at h hK
 obtain ⟨h0,h1,h2,h3,h4,h5⟩:=h
 unfold uez_
 dsimp only
 rw [ubc_ (n:=m_2-a_1) (by omega) (by omega),ubc_ (n:=b_3-m_2) (by omega) (by omega)]
 refine ug_.2 ⟨fun _=>?_,fun _=>ug_.2 ⟨fun _=>?_,fun _=>?_⟩⟩
 · refine ua_.2 ((ut2_ slf _ ⟨h0,h1,by dsimp only; omega,by dsimp only; omega,by dsimp only; omega,h4,h5⟩).mono fun r5 hr=>?_)
   dsimp only at hr
   obtain ⟨e1,e2,e3⟩:=hr
   refine ua_.2 ((ut3_ slf _ ⟨by dsimp only; omega,by dsimp only; rw [e1]; omega,h1,by dsimp only; rw [e1]; exact h5⟩).mono fun r9 hr=>ub_.2 ?_)
   dsimp only at hr
   rw [e1] at hr; exact hr
 · refine ua_.2 ((ut4_ slf _ ⟨h0,by dsimp only; omega,by dsimp only; omega,h1,by dsimp only; omega,by dsimp only; omega,h5⟩).mono fun r5 hr=>?_)
   dsimp only at hr
   obtain ⟨e1,e2,e3⟩:=hr
   refine ua_.2 ((usq_ slf _ ⟨by dsimp only; omega,by dsimp only; rw [e1]; omega,by dsimp only; rw [e1]; exact h5⟩).mono fun r9 hr=>ub_.2 ?_)
   dsimp only at hr
   rw [e1] at hr; exact hr
 · refine ua_.2 (u4j_ (by omega) (by omega) (by omega) (by omega) ?_)
   generalize hmid:(a_1+b_3) / 2=mid
   rw [ubc_ (n:=mid) (by omega) (by omega),ubc_ (n:=mid+m_2) (by omega) (by omega),ubc_ (n:=mid+m_2-1) (by omega) (by omega)]
   have hp:Tot (udg_ slf (a_1,m_2,b_3,mid,mid+m_2,decide (mid<m_2))) fun r:Int×Int=>0≤r.1∧a_1≤r.1∧mid+m_2-b_3≤r.1∧r.1≤r.2∧r.2≤m_2∧r.2≤mid+m_2∧mid+m_2-1-r.1<data_0.length:=by
    unfold udg_
    dsimp only
    refine ug_.2 ⟨fun hc=>ub_.2 ?_,fun hc=>ub_.2 ?_⟩
    · have hc:=of_decide_eq_true hc
      rw [ubc_ (by omega) (by omega)]
      dsimp only; omega
    · have hc:=of_decide_eq_false hc
      dsimp only; omega
   refine ua_.2 (hp.mono fun r20 hr=>?_)
   obtain ⟨f1,f2,f3,f4,f5,f6,f7⟩:=hr
   refine ua_.2 ((usr_ slf _ ⟨h0,f1,f4,by dsimp only; omega,by dsimp only; omega,f7,h5⟩).mono fun r26 hr=>?_)
   dsimp only at hr
   obtain ⟨e1,e2,e3⟩:=hr
   rw [ubc_ (n:=mid+m_2-r26.2) (by omega) (by omega)]
   refine ua_.2 ((uss_ slf _ ⟨by dsimp only; rw [e1]; exact h5,fun hc=>?_⟩).mono fun r29 hr=>?_)
   · dsimp only at hc ⊢
     rw [Bool.and_eq_true,decide_eq_true_eq,decide_eq_true_eq] at hc
     rw [e1]
     omega
   dsimp only at hr
   rw [e1] at hr
   obtain ⟨g1,g2⟩:=hr
   have hq:Tot (udi_ slf (r29,a_1,cmp_4,mid,r26.2,decide (a_1<r26.2)&&decide (r26.2<mid))) fun r:List (Str×Str)=>r.length=data_0.length∧∀ q∈r,q∈data_0:=by
    unfold udi_
    dsimp only
    refine ug_.2 ⟨fun hc=>?_,fun _=>ub_.2 ⟨g1,g2⟩⟩
    rw [Bool.and_eq_true,decide_eq_true_eq,decide_eq_true_eq] at hc
    refine ua_.2 ((ih _ ⟨h0,h1,by dsimp only; omega,by dsimp only; omega,by dsimp only; omega,by dsimp only; omega⟩ (by dsimp only; omega)).mono fun r31 hr=>ub_.2 ?_)
    dsimp only at hr
    exact ⟨by omega,fun q hq=>g2 q (hr.2 q hq)⟩
   refine ua_.2 (hq.mono fun r32 hr=>?_)
   obtain ⟨k1,k2⟩:=hr
   refine ug_.2 ⟨fun hc=>?_,fun _=>ub_.2 ⟨k1,k2⟩⟩
   rw [Bool.and_eq_true,decide_eq_true_eq,decide_eq_true_eq] at hc
   refine ua_.2 ((ih _ ⟨h0,by dsimp only; omega,by dsimp only; omega,by dsimp only; omega,by dsimp only; omega,by dsimp only; omega⟩ (by dsimp only; omega)).mono fun r34 hr=>ub_.2 ?_)
   dsimp only at hr
   exact ⟨by omega,fun q hq=>k2 q (hr.2 q hq)⟩
end Go.Ev.Pv
namespace Go.Ev.Pv
theorem uuv_:∀ (n:Nat) (x:YY6×Int×Int×Int×YY14) (h:(∀ p,Tot (x.2.2.2.2 p) fun _=>True)∧0≤x.2.1∧x.2.1<x.2.2.1∧x.2.2.1<x.2.2.2.1∧x.2.2.2.1≤x.1.length∧x.1.length≤1048576) (hK:x.2.2.2.1-x.2.1≤2 ^ n),Tot (uu_ n x) (fun r:List (Str×Str)=>r.length=x.1.length∧∀ q∈r,q∈x.1):=by
 intro n
 induction n with
 | zero =>
   intro x h hK
   obtain ⟨_,h1,h2,h3,_,_⟩:=h
   rw [Int.pow_zero] at hK
   omega
 | succ n ih =>
   intro x h hK
   refine urz_ (uu_ n) (2 ^ n) (fun y hy hk=>ih y hy hk) x h ?_
   rw [Int.pow_succ] at hK
   omega
theorem uj1_ (x:YY6×Int×Int×Int×YY14) (h:(∀ p,Tot (x.2.2.2.2 p) fun _=>True)∧0≤x.2.1∧x.2.1<x.2.2.1∧x.2.2.1<x.2.2.2.1∧x.2.2.2.1≤x.1.length∧x.1.length≤1048576):Tot (ucw_ x) (fun r:List (Str×Str)=>r.length=x.1.length∧∀ q∈r,q∈x.1):=by
 unfold ucw_
 refine uuv_ 100 x h ?_
 obtain ⟨_,h1,h2,h3,h4,h5⟩:=h
 have:(1048576:Int)≤2 ^ 100:=by decide
 omega
end Go.Ev.Pv
namespace Go.Ev.Pv
theorem ub7j_ {s p:Str} (h:Lib.hasPrefix s p=true):p.length≤s.length:=(List.isPrefixOf_iff_prefix.1 h).length_le
theorem ubpl_ (x:Str×Str) (h:True):Tot (strings_HasPrefix x) (fun r:Bool=>r=true→x.2.length≤x.1.length):=ub_.2 ub7j_
theorem trimPrefix_len (s p:Str):(Lib.trimPrefix s p).length≤s.length:=by
 unfold Lib.trimPrefix
 split
 · rw [List.length_drop]; omega
 · exact Nat.le_refl _
theorem ubm2_ (x:Str×Str) (h:True):Tot (strings_TrimPrefix x) (fun r:Str=>r.length≤x.1.length):=ub_.2 (trimPrefix_len _ _)
theorem ubpm_ (x:Str×Str) (h:True):Tot (strings_CutPrefix x) (fun r:Str×Bool=>r.1.length≤x.1.length):=ub_.2 (trimPrefix_len _ _)
theorem ubqq_ (x:Str×Str) (h:x.1.length≤1048576):Tot (strings_Cut x) (fun r:Str×Str×Bool=>r.1.length≤x.1.length∧r.2.1.length≤x.1.length):=by
 unfold strings_Cut ifB
 rw [decide_eq_true (by omega)]
 refine ub_.2 ?_
 unfold Lib.cut
 split
 · simp only [List.length_take,List.length_drop]; omega
 · simp
theorem ubex_ (x:Str×Int) (h:x.1.length≤1048576):Tot (strings_LastIndexByte x) (fun r:Int=>-1≤r∧r<x.1.length):=by
 unfold strings_LastIndexByte ifB
 rw [decide_eq_true (by omega)]
 refine ub_.2 ?_
 have hs:(⟨x.1.toArray⟩:ByteArray).size=x.1.length:=by simp [ByteArray.size]
 rcases Lib.lastIndexByte_spec ⟨x.1.toArray⟩ x.2 with ⟨e,_⟩ | ⟨i,hi,e,_⟩ <;> rw [e] <;> omega
theorem ucfq_:∀ (k u m:Nat),u<10 ^ m→1≤m→(decS k u).length≤m:=by
 intro k
 induction k with
 | zero=>intro u m _ _; simp [decS]
 | succ k ih =>
   intro u m hu hm
   simp only [decS]
   split
   · simpa using hm
   · rename_i h
     obtain ⟨j,rfl⟩:∃ j,m=j+1:=⟨m-1,by omega⟩
     have hj:1≤j:=by
      rcases j with _ | j
      · simp at hu; omega
      · omega
     have:=ih (u / 10) j (by rw [Nat.pow_succ] at hu; omega) hj
     simp only [List.length_append,List.length_cons,List.length_nil]
     omega
theorem ucic_:∀ (k u:Nat),1≤k→1≤(decS k u).length:=by
 intro k u h
 obtain ⟨j,rfl⟩:∃ j,k=j+1:=⟨k-1,by omega⟩
 simp only [decS]
 split <;> simp
theorem ubq_ (x:Int) (h:True):Tot (strconv_Itoa x) (fun r:Str=>1≤r.length∧r.length≤21∧(0≤x→x≤999999999999999999→r.length≤18)):=by
 refine ub_.2 ⟨?_,ub90_ x,?_⟩
 · unfold itoaS
   split
   · simp
   · exact ucic_ 20 _ (by decide)
 · intro h0 h1
   unfold itoaS
   rw [if_neg (by omega)]
   exact ucfq_ 20 _ 18 (by have h18:(10:Nat) ^ 18=1000000000000000000:=(by decide); omega) (by decide)
def IsDig (b:UInt8):Prop:=48≤b.toNat∧b.toNat≤57
theorem ucfr_:∀ (l:Str) (acc k:Nat),(∀ b∈l,IsDig b)→acc<10 ^ k→l.length+k≤18→∃ u,Lib.parseUint10 acc l=.ok u∧u<10 ^ 18:=by
 intro l
 induction l with
 | nil=>intro acc k _ h1 h2; exact ⟨acc,rfl,Nat.lt_of_lt_of_le h1 (Nat.pow_le_pow_right (by decide) (by simpa using h2))⟩
 | cons c r ih =>
   intro acc k hd h1 h2
   have hl:r.length+1+k≤18:=by simpa using h2
   have hp:10 ^ k≤10 ^ 17:=Nat.pow_le_pow_right (by decide) (by omega)
   have e17:(10:Nat) ^ 17=100000000000000000:=by decide
   have hc:48≤c.toNat∧c.toNat≤57:=hd c List.mem_cons_self
   simp only [Lib.parseUint10]
   rw [if_pos hc,if_neg (by omega),if_neg (by omega)]
   exact ih _ (k+1) (fun b hb=>hd b (List.mem_cons_of_mem _ hb)) (by rw [Nat.pow_succ]; omega) (by omega)
theorem ub81_ (s:Str) (h0:s≠[]) (hd:∀ b∈s,IsDig b) (hl:s.length≤18):∃ u:Nat,Lib.atoiAll s=.ok (u:Int)∧u<1000000000000000000:=by
 cases s with
 | nil=>exact absurd rfl h0
 | cons c r =>
   have hc:=hd c List.mem_cons_self
   unfold IsDig at hc
   obtain ⟨u,e,hu⟩:=ucfr_ (c::r) 0 0 hd (by decide) hl
   have e18:(10:Nat) ^ 18=1000000000000000000:=by decide
   rw [e18] at hu
   refine ⟨u,?_,hu⟩
   unfold Lib.atoiAll
   simp only
   rw [if_neg (by omega)]
   unfold Lib.parseMag
   rw [if_neg (by simp),e]
   simp only
   rw [if_neg (by omega),if_neg (by omega),if_neg (by omega)]
theorem ub10_ (x:Str) (h:x.length≤1048576):Tot (ube7_ x) (fun r:Int×Unit=>x≠[]→(∀ b∈x,IsDig b)→x.length≤18→0≤r.1∧r.1≤999999999999999999):=by
 unfold ube7_ ifB
 rw [decide_eq_true (by omega)]
 show Tot (match Lib.atoiAll x with | .ok v=>some (v,()) | .range=>some (Lib.atoiSat x,()) | _=>some (0,())) _
 cases e:Lib.atoiAll x with
 | ok v =>
   refine ub_.2 fun h1 h2 h3=>?_
   obtain ⟨u,e2,hu⟩:=ub81_ x h1 h2 h3
   rw [e] at e2
   injection e2 with e2
   subst e2
   dsimp only
   omega
 | range=>exact ub_.2 fun h1 h2 h3=>by obtain ⟨u,e2,_⟩:=ub81_ x h1 h2 h3; rw [e] at e2; cases e2
 | _=>exact ub_.2 fun h1 h2 h3=>by obtain ⟨u,e2,_⟩:=ub81_ x h1 h2 h3; rw [e] at e2; cases e2
theorem ubxf_ (x:Str×Int) (h:x.1.length=1∧0≤x.2∧x.2≤1048576):Tot (strings_Repeat x) (fun r:Str=>(r.length:Int)=x.2):=by
 unfold strings_Repeat ifB
 rw [decide_eq_true (by rw [h.1]; omega)]
 refine ub_.2 ?_
 rw [Lib.repeatL_length,h.1]
 omega
theorem ub5q_ (r:Int):(Lib.encodeRune r).length≤4:=by
 unfold Lib.encodeRune Lib.encodeRuneZ
 rw [List.length_map]
 repeat' split
 all_goals simp
theorem ucdq_ (f:Int→Int):∀ (n:Nat) (l:Str),(Lib.mapGoD f n l).length≤4*n:=by
 intro n
 induction n with
 | zero=>intro l; simp [Lib.mapGoD]
 | succ n ih =>
   intro l
   simp only [Lib.mapGoD]
   split
   · simp
   · rw [List.length_append]
     have h1:=ih (l.drop (Lib.decodeL l).2)
     have h2:(if 0≤f (Lib.decodeL l).1 then Lib.encodeRune (f (Lib.decodeL l).1) else []).length≤4:=by
      split
      · exact ub5q_ _
      · simp
     omega
theorem ubbc_ (x:Str) (h:x.length≤1048576):Tot (ut9_ x) (fun r:Str=>r.length≤4*x.length):=by
 unfold ut9_ ifB
 rw [decide_eq_true (by omega)]
 have h1:(Lib.toLowerD x).length≤4*x.length:=ucdq_ _ _ _
 show Tot (str? _) _
 unfold str?
 rw [decide_eq_true (by omega)]
 exact ub_.2 h1
theorem ub5r_ (p:Nat→Bool) (s:ByteArray):∀ (f pos:Nat) (st:Option Nat) (acc:List (Nat×Nat)),(Lib.spansFromP p s f pos st acc).1.length≤acc.length+f:=by
 intro f
 induction f with
 | zero=>intro pos st acc; simp [Lib.spansFromP]
 | succ f ih =>
   intro pos st acc
   simp only [Lib.spansFromP]
   split
   · split
     · cases st with
       | some a=>have:=ih (pos+(Utf8.decode s pos).2) none (acc++[(a,pos)]); simp only [List.length_append,List.length_cons,List.length_nil] at this ⊢; omega
       | none=>have:=ih (pos+(Utf8.decode s pos).2) none acc; dsimp only; omega
     · cases st with
       | some a=>have:=ih (pos+(Utf8.decode s pos).2) (some a) acc; dsimp only; omega
       | none=>have:=ih (pos+(Utf8.decode s pos).2) (some pos) acc; dsimp only; omega
   · simp
theorem ub7k_ (p:Nat→Bool) (s:ByteArray):(Lib.goFieldsP p s).length≤s.size+1:=by
 unfold Lib.goFieldsP Lib.spansOfP Lib.closeSpans
 rw [List.length_map]
 have:=ub5r_ p s s.size 0 none []
 simp only [List.length_nil] at this
 split
 · rw [List.length_append]; simp only [List.length_cons,List.length_nil]; omega
 · omega
theorem ub5s_ (p:Nat→Bool) (s:ByteArray):∀ b∈Lib.goFieldsP p s,b.size≤s.size:=by
 intro b hb
 unfold Lib.goFieldsP at hb
 obtain ⟨x,_,rfl⟩:=List.mem_map.1 hb
 rw [ByteArray.size_extract]
 omega
theorem ubm3_ (x:Str×YY37) (h:x.1.length≤1048576∧∀ c,Tot (x.2 c) fun _=>True):Tot (ui3_ x) (fun r:List Str=>r.length≤x.1.length+1∧∀ s∈r,s.length≤x.1.length):=by
 have hs:(⟨x.1.toArray⟩:ByteArray).size=x.1.length:=by simp [ByteArray.size]
 have hl:=fun p=>ub7k_ p ⟨x.1.toArray⟩
 rw [hs] at hl
 unfold ui3_ ifB
 rw [@decide_eq_true _ (Classical.propDecidable _) ⟨by omega,fun r _=>let ⟨b,e,_⟩:=h.2 r; ⟨b,e⟩,by have:=hl fun r=>(x.2 (r:Int)).getD false; omega⟩]
 refine ub_.2 ⟨?_,?_⟩
 · rw [List.length_map]; exact hl _
 · intro s h1
   obtain ⟨b,hb,rfl⟩:=List.mem_map.1 h1
   have:=ub5s_ _ _ b hb
   rw [hs] at this
   have e:b.data.toList.length=b.size:=by rw [Array.length_toList]; rfl
   omega
end Go.Ev.Pv
namespace Go.Ev.Pv
abbrev Nm (n:Int):Prop:=0≤n∧n≤999999999999999999
abbrev Nm1 (n:Int):Prop:=-1≤n∧n≤999999999999999999
abbrev LS (l:List Str):Prop:=l.length≤1002∧∀ s∈l,s.length≤1000
abbrev NS (l:List Int):Prop:=l.length≤1002∧∀ n∈l,0≤n∧n≤999999999999999999
abbrev TS (l:List YY19):Prop:=l.length≤1002∧∀ t∈l,t.2.1.length≤5000∧0≤t.2.2∧t.2.2≤999999999999999999
abbrev Dt:=(List Int)×(List Str)
abbrev Rv:=Int×Str×Str×Bool
abbrev Sg:=Int×(List Int)×Int×Int×Int×Int×(List Str)
abbrev Ql:=List YY19
abbrev Vr:=Sum YY28 (Sum YY33 (Sum YY9 (Sum (List YY19) (Sum Int Unit))))
abbrev DOK (v:Dt):Prop:=v.1.length=3∧(∀ n∈v.1,0≤n∧n≤999999999999999999)∧v.2.length≤1002∧∀ s∈v.2,s.length≤1000
abbrev ROK (v:Rv):Prop:=Nm v.1∧v.2.1.length≤1000∧v.2.2.1.length≤1000
abbrev SOK (v:Sg):Prop:=Nm v.1∧NS v.2.1∧(0≤v.2.2.1∧v.2.2.1≤3)∧Nm v.2.2.2.1∧Nm1 v.2.2.2.2.1∧Nm1 v.2.2.2.2.2.1∧LS v.2.2.2.2.2.2
def VOK (v:Vr):Prop:=match v with
 | .inl d=>DOK d
 | .inr (.inl r)=>ROK r
 | .inr (.inr (.inl s))=>SOK s
 | .inr (.inr (.inr (.inl q)))=>TS q
 | .inr (.inr (.inr (.inr (.inl n))))=>Nm n
 | .inr (.inr (.inr (.inr (.inr _))))=>False
theorem vok_d (d:Dt):VOK (.inl d)=DOK d:=rfl
theorem vok_r (d:Rv):VOK (.inr (.inl d))=ROK d:=rfl
theorem vok_s (d:Sg):VOK (.inr (.inr (.inl d)))=SOK d:=rfl
theorem vok_q (d:Ql):VOK (.inr (.inr (.inr (.inl d))))=TS d:=rfl
theorem vok_p (d:Int):VOK (.inr (.inr (.inr (.inr (.inl d)))))=Nm d:=rfl
theorem uy_ {α:Type} {l:List α} {i j:Nat} {a:α}:a∈(l.take i).drop j→a∈l:=fun h=>List.mem_of_mem_take (List.mem_of_mem_drop h)
theorem ut_ {α:Type} (l:List α) (i j:Nat):((l.take i).drop j).length=min i l.length-j:=by simp
theorem ub95_ {xs:List Str} {sep:Str} {m k c:Nat}:(∀ s∈xs,s.length≤m)→xs.length≤k→sep.length≤c→(Lib.join xs sep).length≤k*(m+c):=fun h hk hc =>
 Nat.le_trans (ub8y_ sep m xs h) (Nat.mul_le_mul hk (by omega))
theorem uz_ (s:Str):eqS s []=decide (s.length=0):=by rw [uw_]; cases s <;> simp
theorem ubxg_ (x:Str×Int×YY37×Int) (h:0≤x.2.2.2∧0≤x.2.1∧x.2.1+x.2.2.2≤x.1.length∧x.1.length≤1048576∧(∀ c,Tot (x.2.2.1 c) fun _=>True)∧(∀ j:Nat,x.2.1≤j→j<x.2.1+x.2.2.2→∀ c,x.1[j]? = some c→x.2.2.1 (c.toNat:Int)=some true)) :
 Tot (ubfc_ x) (fun r:Int=>x.2.2.2≤r∧x.2.1+r≤x.1.length∧(∀ j:Nat,x.2.1≤j→j<x.2.1+r→∀ c,x.1[j]? = some c→x.2.2.1 (c.toNat:Int)=some true)∧∀ c,x.1[(x.2.1+r).toNat]? = some c→x.2.2.1 (c.toNat:Int)=some false):=by
 obtain ⟨s,at_,f,n⟩:=x
 dsimp only at h ⊢
 refine uq_ (R:=fun r:Int=>n≤r∧at_+r≤s.length∧(∀ j:Nat,at_≤j→j<at_+r→∀ c,s[j]? = some c→f (c.toNat:Int)=some true)∧∀ c,s[(at_+r).toNat]? = some c→f (c.toNat:Int)=some false)
  (fun y:Str×Int×YY37×Int=>y.1=s∧y.2.1=at_∧y.2.2.1=f∧n≤y.2.2.2∧at_+y.2.2.2≤s.length∧(∀ j:Nat,at_≤j→j<at_+y.2.2.2→∀ c,s[j]? = some c→f (c.toNat:Int)=some true)) (fun y=>(s.length-at_-y.2.2.2).toNat) ?_ _ _ ⟨rfl,rfl,rfl,Int.le_refl _,h.2.2.1,h.2.2.2.2.2⟩ (by unfold fuel; dsimp only; omega)
 rintro next ⟨s',at',f',m⟩ hI hn
 dsimp only at hI hn
 obtain ⟨rfl,rfl,rfl,h1,h2,h3⟩:=hI
 obtain ⟨g1,g2,g3,g4,g5,_⟩:=h
 unfold ubtf_
 dsimp only
 rw [ubc_ (by omega) (by omega)]
 by_cases hc:at'+m<s'.length
 · rw [decide_eq_true hc]
   simp only [cond_true,Bool.true_and]
   refine ua_.2 (u1_.2 ⟨⟨by omega,by omega⟩,fun b hb=>?_⟩)
   obtain ⟨r,hr,_⟩:=g5 (b.toNat:Int)
   rw [hr]
   refine ua_.2 (ub_.2 ?_)
   refine ug_.2 ⟨fun e=>?_,fun e=>ub_.2 ⟨h1,h2,h3,fun c hc'=>?_⟩⟩
   · subst e
     rw [ubc_ (by omega) (by omega)]
     refine hn _ ⟨rfl,rfl,rfl,by dsimp only; omega,by dsimp only; omega,?_⟩ (by dsimp only; omega)
     intro j hj1 hj2 c hjc
     dsimp only at hj2
     by_cases hj3:(j:Int)<at'+m
     · exact h3 j hj1 hj3 c hjc
     · have:j=(at'+m).toNat:=by omega
       subst this
       rw [hb] at hjc
       cases hjc
       exact hr
   · subst e
     rw [hb] at hc'
     cases hc'
     exact hr
 · rw [decide_eq_false hc]
   simp only [cond_false,Bool.false_and]
   refine ua_.2 (ub_.2 ?_)
   refine ua_.2 (ub_.2 ?_)
   refine ub_.2 ⟨h1,h2,h3,fun c hc'=>?_⟩
   have:=(List.getElem?_eq_some_iff.1 hc').1
   omega
theorem u14_ (x:Str×Int×YY37) (h:0≤x.2.1∧x.2.1≤x.1.length∧x.1.length≤1048576∧(∀ c,Tot (x.2.2 c) fun _=>True)) :
 Tot (udk_ x) (fun r:Int=>0≤r∧x.2.1+r≤x.1.length∧(∀ j:Nat,x.2.1≤j→j<x.2.1+r→∀ c,x.1[j]? = some c→x.2.2 (c.toNat:Int)=some true)∧∀ c,x.1[(x.2.1+r).toNat]? = some c→x.2.2 (c.toNat:Int)=some false):=by
 obtain ⟨s,a,f⟩:=x
 dsimp only at h ⊢
 unfold udk_
 refine ua_.2 ((ubxg_ _ ⟨Int.le_refl _,h.1,by dsimp only; omega,h.2.2.1,h.2.2.2,fun j h1 h2=>by dsimp only at h1 h2; omega⟩).mono fun r hr=>ub_.2 ?_)
 exact hr
theorem ub11_ (x:Str×Int×YY37) (h:0≤x.2.1∧x.2.1≤x.1.length∧x.1.length≤1048576∧(∀ c,Tot (x.2.2 c) fun _=>True)) :
 Tot (udk_ x) (fun r:Int=>0≤r∧x.2.1+r≤x.1.length):=(u14_ x h).mono fun _ hr=>⟨hr.1,hr.2.1⟩
theorem ude_ (x:Str×Int×YY37) (hf:∀ c,Tot (x.2.2 c) (fun _=>True)) (h:0≤x.2.1∧x.2.1≤x.1.length∧x.1.length≤1048576) :
 Tot (udk_ x) (fun r:Int=>0≤r∧x.2.1+r≤x.1.length):=ub11_ x ⟨h.1,h.2.1,h.2.2,hf⟩
theorem clo {α β:Type} {f:α→Option β} {P:β→Prop} {c:α} (h:Tot (f c) P):Tot ((f c).bind fun r=>some r) fun _=>True:=ua_.2 (h.mono fun _ _=>ub_.2 trivial)
theorem ub96_ (c:Int):Tot ((u9_ c).bind fun r=>some r) fun _=>True:=⟨_,rfl,trivial⟩
theorem us_ (c:Int) (h:True):Tot (u9_ c) fun _=>True:=⟨_,rfl,trivial⟩
theorem u8_ (c:Int) (h:True):Tot (uf3_ c) fun _=>True:=⟨_,rfl,trivial⟩
theorem ubxh_ (c:Int) (h:True):Tot (ubfe_ c) fun _=>True:=⟨_,rfl,trivial⟩
theorem u3g_ (c:Int) (h:True):Tot (u0t_ c) fun _=>True:=⟨_,rfl,trivial⟩
theorem ucba_ (b:UInt8) (h:((u9_ (b.toNat:Int)).bind fun r=>some r)=some true):IsDig b:=by
 unfold u9_ at h
 simp at h
 unfold IsDig
 omega
theorem ucc_ (s:Str) (h:s.length≤1048576):Tot (uc0_ s) (fun r:Int×Bool=>0≤r.1∧r.1≤999999999999999999):=by
 unfold uc0_
 dsimp only
 cases hv:(eqS s []||decide ((18:Int)<(s.length:Int))) with
 | true=>simp only [Bool.not_true,cond_false,Bool.true_or,cond_true]; exact ua_.2 (ub_.2 (ub_.2 (by decide)))
 | false =>
   simp only [Bool.not_false,cond_true,Bool.false_or]
   refine ua_.2 ((u14_ _ ⟨Int.le_refl _,by dsimp only; omega,h,ub96_⟩).mono fun r hr=>?_)
   refine ug_.2 ⟨fun _=>ub_.2 (by decide),fun e=>?_⟩
   refine ua_.2 ((ub10_ s h).mono fun r3 h3=>ub_.2 ?_)
   have hv1:=(Bool.or_eq_false_iff.1 hv)
   have e1:r=s.length:=by simpa [ur_] using e
   dsimp only at hr
   refine h3 (by simpa [uw_] using hv1.1) (fun b hb=>?_) (by have:=of_decide_eq_false hv1.2; omega)
   obtain ⟨j,hj,hjb⟩:=List.mem_iff_getElem.1 hb
   exact ucba_ b (hr.2.2.1 j (by omega) (by omega) b (by rw [← hjb]; exact List.getElem?_eq_getElem hj))
end Go.Ev.Pv
namespace Go.Ev.Pv
theorem ukf_ (x:(List YY2)×Int×YY21×Int) (h:(∀ p,Tot (x.2.2.1 p) fun _=>True)∧0≤x.2.1∧x.2.1≤x.2.2.2∧x.2.2.2<x.1.length∧x.1.length≤1048576) :
 Tot (ucm_ x) (fun r:List YY2=>r.length=x.1.length∧∀ q∈r,q∈x.1):=by
 refine uq_ (R:=fun r:List YY2=>r.length=x.1.length∧∀ q∈r,q∈x.1) (fun y:(List YY2)×Int×YY21×Int=>(∀ p,Tot (y.2.2.1 p) fun _=>True)∧0≤y.2.1∧y.2.1≤y.2.2.2∧y.2.2.2<y.1.length∧y.1.length≤1048576∧y.1.length=x.1.length∧∀ q∈y.1,q∈x.1)
  (fun y=>y.2.2.2.toNat) ?_ _ _ ⟨h.1,h.2.1,h.2.2.1,h.2.2.2.1,h.2.2.2.2,rfl,fun q hq=>hq⟩ (by obtain ⟨_,_,_,_,_⟩:=h; unfold fuel; omega)
 rintro next ⟨data_0,a_1,cmp_3,j_9⟩ h hn
 dsimp only at h hn
 obtain ⟨h0,h1,h2,h3,h4,h5,h6⟩:=h
 unfold ue9_
 dsimp only
 by_cases hc:a_1<j_9
 · have hw:IntKind.i64.wrap (j_9-1)=j_9-1:=ubc_ (by omega) (by omega)
   simp only [hw,decide_eq_true hc,cond_true,Bool.true_and]
   refine ua_.2 (ucf_.2 ⟨⟨by omega,by omega⟩,?_⟩)
   refine ua_.2 (ucf_.2 ⟨⟨by omega,by omega⟩,?_⟩)
   refine ua_.2 ((h0 _).mono fun r3 _=>?_)
   refine ug_.2 ⟨fun _=>?_,fun _=>ub_.2 ⟨h5,h6⟩⟩
   refine ua_.2 (ucf_.2 ⟨⟨by omega,by omega⟩,?_⟩)
   refine ua_.2 (ucf_.2 ⟨⟨by omega,by omega⟩,?_⟩)
   refine ua_.2 (ucf_.2 ⟨⟨by omega,by omega⟩,?_⟩)
   refine ua_.2 (ucf_.2 ⟨⟨by omega,by rw [List.length_set]; omega⟩,?_⟩)
   refine hn _ ⟨h0,h1,by dsimp only; omega,by simp only [List.length_set]; omega,by simp only [List.length_set]; omega,by simp only [List.length_set]; omega,fun q hq=>?_⟩ (by dsimp only; omega)
   rcases ue_ hq with hq | rfl
   · rcases ue_ hq with hq | rfl
     · exact h6 q hq
     · exact h6 _ (uj_ (by omega))
   · exact h6 _ (uj_ (by omega))
 · simp only [decide_eq_false hc,cond_false,Bool.false_and]
   refine ua_.2 (ub_.2 ?_)
   refine ua_.2 (ub_.2 ?_)
   refine ua_.2 (ub_.2 ?_)
   exact ub_.2 ⟨h5,h6⟩
theorem ukg_ (x:(List YY2)×Int×Int×YY21×Int) (h:(∀ p,Tot (x.2.2.2.1 p) fun _=>True)∧0≤x.2.1∧x.2.1≤x.2.2.2.2∧x.2.2.1≤x.1.length∧x.2.2.2.2≤1048577∧x.1.length≤1048576) :
 Tot (ucn_ x) (fun r:List YY2=>r.length=x.1.length∧∀ q∈r,q∈x.1):=by
 refine uq_ (R:=fun r:List YY2=>r.length=x.1.length∧∀ q∈r,q∈x.1) (fun y:(List YY2)×Int×Int×YY21×Int=>(∀ p,Tot (y.2.2.2.1 p) fun _=>True)∧0≤y.2.1∧y.2.1≤y.2.2.2.2∧y.2.2.1≤y.1.length∧y.2.2.2.2≤1048577∧y.1.length≤1048576∧y.1.length=x.1.length∧∀ q∈y.1,q∈x.1)
  (fun y=>(y.2.2.1-y.2.2.2.2).toNat) ?_ _ _ ⟨h.1,h.2.1,h.2.2.1,h.2.2.2.1,h.2.2.2.2.1,h.2.2.2.2.2,rfl,fun q hq=>hq⟩ (by obtain ⟨_,_,_,_,_,_⟩:=h; unfold fuel; omega)
 rintro next ⟨data_0,a_1,b_2,cmp_3,i_8⟩ h hn
 dsimp only at h hn
 obtain ⟨h0,h1,h2,h3,h4,h5,h6,h7⟩:=h
 unfold ufa_
 dsimp only
 refine ug_.2 ⟨fun hc=>?_,fun _=>ub_.2 ⟨h6,h7⟩⟩
 have hc:=of_decide_eq_true hc
 have hw:IntKind.i64.wrap (i_8+1)=i_8+1:=ubc_ (by omega) (by omega)
 rw [hw]
 refine ua_.2 ((ukf_ _ ⟨h0,h1,h2,by dsimp only; omega,h5⟩).mono fun r hr=>?_)
 dsimp only at hr
 obtain ⟨e1,e2⟩:=hr
 exact hn _ ⟨h0,h1,by dsimp only; omega,by dsimp only; omega,by dsimp only; omega,by dsimp only; omega,by dsimp only; omega,fun q hq=>h7 q (e2 q hq)⟩ (by dsimp only; omega)
theorem uey_ (x:(List YY2)×Int×Int×YY21) (h:(∀ p,Tot (x.2.2.2 p) fun _=>True)∧0≤x.2.1∧x.2.1≤1048576∧x.2.2.1≤x.1.length∧x.1.length≤1048576) :
 Tot (ubl_ x) (fun r:List YY2=>r.length=x.1.length∧∀ q∈r,q∈x.1):=by
 obtain ⟨data_0,a_1,b_2,cmp_3⟩:=x
 dsimp only at h
 obtain ⟨h0,h1,h2,h3,h4⟩:=h
 unfold ubl_
 dsimp only
 rw [ubc_ (by omega) (by omega)]
 exact ua_.2 ((ukg_ _ ⟨h0,h1,by dsimp only; omega,h3,by dsimp only; omega,h4⟩).mono fun r hr=>ub_.2 hr)
theorem une_ (x:(List YY2)×Int×Int×Int×Int) (h:0≤x.2.1∧0≤x.2.2.1∧x.2.1+x.2.2.2.1≤x.1.length∧x.2.2.1+x.2.2.2.1≤x.1.length∧0≤x.2.2.2.2∧x.1.length≤1048576) :
 Tot (udm_ x) (fun r:List YY2=>r.length=x.1.length∧∀ q∈r,q∈x.1):=by
 refine uq_ (R:=fun r:List YY2=>r.length=x.1.length∧∀ q∈r,q∈x.1) (fun y:(List YY2)×Int×Int×Int×Int=>0≤y.2.1∧0≤y.2.2.1∧y.2.1+y.2.2.2.1≤y.1.length∧y.2.2.1+y.2.2.2.1≤y.1.length∧0≤y.2.2.2.2∧y.1.length≤1048576∧y.1.length=x.1.length∧∀ q∈y.1,q∈x.1)
  (fun y=>(y.2.2.2.1-y.2.2.2.2).toNat) ?_ _ _ ⟨h.1,h.2.1,h.2.2.1,h.2.2.2.1,h.2.2.2.2.1,h.2.2.2.2.2,rfl,fun q hq=>hq⟩ (by obtain ⟨_,_,_,_,_,_⟩:=h; unfold fuel; omega)
 rintro next ⟨data_0,a_1,b_2,n_3,i_10⟩ h hn
 dsimp only at h hn
 obtain ⟨h1,h2,h3,h4,h5,h6,h7,h8⟩:=h
 unfold ugk_
 dsimp only
 refine ug_.2 ⟨fun hc=>?_,fun _=>ub_.2 ⟨h7,h8⟩⟩
 have hc:=of_decide_eq_true hc
 have hw1:IntKind.i64.wrap (a_1+i_10)=a_1+i_10:=ubc_ (by omega) (by omega)
 have hw2:IntKind.i64.wrap (b_2+i_10)=b_2+i_10:=ubc_ (by omega) (by omega)
 have hw3:IntKind.i64.wrap (i_10+1)=i_10+1:=ubc_ (by omega) (by omega)
 rw [hw1,hw2,hw3]
 refine ua_.2 (ucf_.2 ⟨⟨by omega,by omega⟩,?_⟩)
 refine ua_.2 (ucf_.2 ⟨⟨by omega,by omega⟩,?_⟩)
 refine ua_.2 (ucf_.2 ⟨⟨by omega,by omega⟩,?_⟩)
 refine ua_.2 (ucf_.2 ⟨⟨by omega,by rw [List.length_set]; omega⟩,?_⟩)
 refine hn _ ⟨h1,h2,by simp only [List.length_set]; omega,by simp only [List.length_set]; omega,by dsimp only; omega,by simp only [List.length_set]; omega,by simp only [List.length_set]; omega,fun q hq=>?_⟩ (by dsimp only; omega)
 rcases ue_ hq with hq | rfl
 · rcases ue_ hq with hq | rfl
   · exact h8 q hq
   · exact h8 _ (uj_ (by omega))
 · exact h8 _ (uj_ (by omega))
theorem udf_ (x:(List YY2)×Int×Int×Int×YY21) (h:0≤x.2.1∧0≤x.2.2.1∧x.2.1+x.2.2.2.1≤x.1.length∧x.2.2.1+x.2.2.2.1≤x.1.length∧x.1.length≤1048576) :
 Tot (ubh_ x) (fun r:List YY2=>r.length=x.1.length∧∀ q∈r,q∈x.1):=by
 obtain ⟨data_0,a_1,b_2,n_3,cmp_4⟩:=x
 obtain ⟨h1,h2,h3,h4,h5⟩:=h
 unfold ubh_
 dsimp only
 exact ua_.2 ((une_ _ ⟨h1,h2,h3,h4,Int.le_refl _,h5⟩).mono fun r hr=>ub_.2 hr)
theorem upj_ (x:(List YY2)×Int×YY21×Int×Int) (h:0<x.2.2.2.1∧0<x.2.2.2.2∧x.2.2.2.1≤x.2.1∧x.2.1+x.2.2.2.2≤x.1.length∧x.1.length≤1048576) :
 Tot (uef_ x) (fun r:(List YY2)×Int=>r.1.length=x.1.length∧(∀ q∈r.1,q∈x.1)∧0<r.2∧r.2≤x.2.1∧x.2.1+r.2≤x.1.length):=by
 refine uq_ (R:=fun r:(List YY2)×Int=>r.1.length=x.1.length∧(∀ q∈r.1,q∈x.1)∧0<r.2∧r.2≤x.2.1∧x.2.1+r.2≤x.1.length) (fun y:(List YY2)×Int×YY21×Int×Int=>0<y.2.2.2.1∧0<y.2.2.2.2∧y.2.2.2.1≤y.2.1∧y.2.1+y.2.2.2.2≤y.1.length∧y.1.length≤1048576∧y.1.length=x.1.length∧(∀ q∈y.1,q∈x.1)∧y.2.1=x.2.1)
  (fun y=>(y.2.2.2.1+y.2.2.2.2).toNat) ?_ _ _ ⟨h.1,h.2.1,h.2.2.1,h.2.2.2.1,h.2.2.2.2,rfl,(fun q hq=>hq),rfl⟩ (by obtain ⟨_,_,_,_,_⟩:=h; unfold fuel; omega)
 rintro next ⟨data_0,m_2,cmp_4,i_10,j_11⟩ h hn
 dsimp only at h hn
 obtain ⟨h1,h2,h3,h4,h5,h6,h7,h8⟩:=h
 unfold uhy_
 dsimp only
 refine ug_.2 ⟨fun hc=>?_,fun hc=>ub_.2 ⟨h6,h7,h1,by dsimp only; omega,?_⟩⟩
 · have hc:i_10≠j_11:=by rw [ur_] at hc; simpa using hc
   have hw1:IntKind.i64.wrap (m_2-i_10)=m_2-i_10:=ubc_ (by omega) (by omega)
   have hw2:IntKind.i64.wrap (m_2+j_11)=m_2+j_11:=ubc_ (by omega) (by omega)
   have hw3:IntKind.i64.wrap (m_2+j_11-i_10)=m_2+j_11-i_10:=ubc_ (by omega) (by omega)
   have hw4:IntKind.i64.wrap (i_10-j_11)=i_10-j_11:=ubc_ (by omega) (by omega)
   have hw5:IntKind.i64.wrap (j_11-i_10)=j_11-i_10:=ubc_ (by omega) (by omega)
   rw [hw1,hw2,hw3,hw4,hw5]
   refine ug_.2 ⟨fun hd=>?_,fun hd=>?_⟩
   · have hd:=of_decide_eq_true hd
     refine ua_.2 ((udf_ _ ⟨by dsimp only; omega,by dsimp only; omega,by dsimp only; omega,by dsimp only; omega,h5⟩).mono fun r hr=>?_)
     dsimp only at hr
     exact hn _ ⟨by dsimp only; omega,h2,by dsimp only; omega,by dsimp only; omega,by dsimp only; omega,by dsimp only; omega,fun q hq=>h7 q (hr.2 q hq),h8⟩ (by dsimp only; omega)
   · have hd:=of_decide_eq_false hd
     refine ua_.2 ((udf_ _ ⟨by dsimp only; omega,by dsimp only; omega,by dsimp only; omega,by dsimp only; omega,h5⟩).mono fun r hr=>?_)
     dsimp only at hr
     exact hn _ ⟨h1,by dsimp only; omega,h3,by dsimp only; omega,by dsimp only; omega,by dsimp only; omega,fun q hq=>h7 q (hr.2 q hq),h8⟩ (by dsimp only; omega)
 · have hc:i_10=j_11:=by rw [ur_] at hc; simpa using hc
   omega
theorem ur0_ (x:(List YY2)×Int×Int×Int×YY21) (h:0≤x.2.1∧x.2.1<x.2.2.1∧x.2.2.1<x.2.2.2.1∧x.2.2.2.1≤x.1.length∧x.1.length≤1048576) :
 Tot (uc1_ x) (fun r:List YY2=>r.length=x.1.length∧∀ q∈r,q∈x.1):=by
 obtain ⟨data_0,a_1,m_2,b_3,cmp_4⟩:=x
 dsimp only at h
 obtain ⟨h1,h2,h3,h4,h5⟩:=h
 unfold uc1_
 dsimp only
 rw [ubc_ (n:=m_2-a_1) (by omega) (by omega),ubc_ (n:=b_3-m_2) (by omega) (by omega)]
 refine ua_.2 ((upj_ _ ⟨by dsimp only; omega,by dsimp only; omega,by dsimp only; omega,by dsimp only; omega,h5⟩).mono fun r hr=>?_)
 dsimp only at hr
 obtain ⟨e1,e2,e3,e4,e5⟩:=hr
 rw [ubc_ (n:=m_2-r.2) (by omega) (by omega)]
 refine ua_.2 ((udf_ _ ⟨by dsimp only; omega,by dsimp only; omega,by dsimp only; omega,by dsimp only; omega,by dsimp only; omega⟩).mono fun r4 hr=>ub_.2 ?_)
 dsimp only at hr
 exact ⟨by omega,fun q hq=>e2 q (hr.2 q hq)⟩
theorem unq_ (slf:(List YY2)×Int×Int×Int×YY21→Option (List YY2)) (x:(List YY2)×Int×YY21×Int×Int) (h:(∀ p,Tot (x.2.2.1 p) fun _=>True)∧0≤x.2.1∧x.2.1<x.1.length∧0≤x.2.2.2.1∧x.2.2.2.1≤x.2.2.2.2∧x.2.2.2.2≤x.1.length∧x.1.length≤1048576) :
 Tot (udy_ slf x) (fun r:(List YY2)×Int=>r.1=x.1∧x.2.2.2.1≤r.2∧r.2≤x.2.2.2.2):=by
 refine uq_ (R:=fun r:(List YY2)×Int=>r.1=x.1∧x.2.2.2.1≤r.2∧r.2≤x.2.2.2.2) (fun y:(List YY2)×Int×YY21×Int×Int=>(∀ p,Tot (y.2.2.1 p) fun _=>True)∧0≤y.2.1∧y.2.1<y.1.length∧0≤y.2.2.2.1∧y.2.2.2.1≤y.2.2.2.2∧y.2.2.2.2≤y.1.length∧y.1.length≤1048576∧y.1=x.1∧x.2.2.2.1≤y.2.2.2.1∧y.2.2.2.2≤x.2.2.2.2)
  (fun y=>(y.2.2.2.2-y.2.2.2.1).toNat) ?_ _ _ ⟨h.1,h.2.1,h.2.2.1,h.2.2.2.1,h.2.2.2.2.1,h.2.2.2.2.2.1,h.2.2.2.2.2.2,rfl,Int.le_refl _,Int.le_refl _⟩ (by obtain ⟨_,_,_,_,_,_,_⟩:=h; unfold fuel; omega)
 rintro next ⟨data_0,a_1,cmp_4,i_10,j_11⟩ h hn
 dsimp only at h hn
 obtain ⟨h0,h1,h2,h3,h4,h5,h6,h7,h8,h9⟩:=h
 unfold ug4_
 dsimp only
 refine ug_.2 ⟨fun hc=>?_,fun hc=>ub_.2 ⟨h7,h8,by dsimp only; omega⟩⟩
 have hc:=of_decide_eq_true hc
 refine ua_.2 (u4j_ (by omega) (by omega) (by omega) (by omega) ?_)
 have hw1:IntKind.i64.wrap ((i_10+j_11) / 2)=(i_10+j_11) / 2:=ubc_ (by omega) (by omega)
 have hw2:IntKind.i64.wrap ((i_10+j_11) / 2+1)=(i_10+j_11) / 2+1:=ubc_ (by omega) (by omega)
 rw [hw1,hw2]
 refine ua_.2 (ucf_.2 ⟨⟨by omega,by omega⟩,?_⟩)
 refine ua_.2 (ucf_.2 ⟨⟨by omega,by omega⟩,?_⟩)
 refine ua_.2 ((h0 _).mono fun r4 _=>?_)
 refine ug_.2 ⟨fun _=>?_,fun _=>?_⟩
 · exact hn _ ⟨h0,h1,h2,by dsimp only; omega,by dsimp only; omega,h5,h6,h7,by dsimp only; omega,h9⟩ (by dsimp only; omega)
 · exact hn _ ⟨h0,h1,h2,h3,by dsimp only; omega,by dsimp only; omega,h6,h7,h8,by dsimp only; omega⟩ (by dsimp only; omega)
theorem unr_ (slf:(List YY2)×Int×Int×Int×YY21→Option (List YY2)) (x:(List YY2)×Int×Int) (h:0≤x.2.1∧x.2.1≤x.1.length∧0≤x.2.2∧x.1.length≤1048576) :
 Tot (udz_ slf x) (fun r:List YY2=>r.length=x.1.length∧∀ q∈r,q∈x.1):=by
 refine uq_ (R:=fun r:List YY2=>r.length=x.1.length∧∀ q∈r,q∈x.1) (fun y:(List YY2)×Int×Int=>0≤y.2.1∧y.2.1≤y.1.length∧0≤y.2.2∧y.1.length≤1048576∧y.1.length=x.1.length∧∀ q∈y.1,q∈x.1)
  (fun y=>(y.2.1-y.2.2).toNat) ?_ _ _ ⟨h.1,h.2.1,h.2.2.1,h.2.2.2,rfl,fun q hq=>hq⟩ (by obtain ⟨_,_,_,_⟩:=h; unfold fuel; omega)
 rintro next ⟨data_0,i_10,k_13⟩ h hn
 dsimp only at h hn
 obtain ⟨h1,h2,h3,h4,h5,h6⟩:=h
 unfold ug5_
 dsimp only
 rw [ubc_ (n:=i_10-1) (by omega) (by omega)]
 refine ug_.2 ⟨fun hc=>?_,fun hc=>ub_.2 ⟨h5,h6⟩⟩
 have hc:=of_decide_eq_true hc
 have hw:IntKind.i64.wrap (k_13+1)=k_13+1:=ubc_ (by omega) (by omega)
 rw [hw]
 refine ua_.2 (ucf_.2 ⟨⟨by omega,by omega⟩,?_⟩)
 refine ua_.2 (ucf_.2 ⟨⟨by omega,by omega⟩,?_⟩)
 refine ua_.2 (ucf_.2 ⟨⟨by omega,by omega⟩,?_⟩)
 refine ua_.2 (ucf_.2 ⟨⟨by omega,by rw [List.length_set]; omega⟩,?_⟩)
 refine hn _ ⟨h1,by simp only [List.length_set]; omega,by dsimp only; omega,by simp only [List.length_set]; omega,by simp only [List.length_set]; omega,fun q hq=>?_⟩ (by dsimp only; omega)
 rcases ue_ hq with hq | rfl
 · rcases ue_ hq with hq | rfl
   · exact h6 q hq
   · exact h6 _ (uj_ (by omega))
 · exact h6 _ (uj_ (by omega))
theorem unf_ (slf:(List YY2)×Int×Int×Int×YY21→Option (List YY2)) (x:(List YY2)×Int×Int) (h:0≤x.2.1∧x.2.2<x.1.length∧x.1.length≤1048576) :
 Tot (udn_ slf x) (fun r:List YY2=>r.length=x.1.length∧∀ q∈r,q∈x.1):=by
 refine uq_ (R:=fun r:List YY2=>r.length=x.1.length∧∀ q∈r,q∈x.1) (fun y:(List YY2)×Int×Int=>0≤y.2.1∧y.2.2<y.1.length∧y.1.length≤1048576∧y.1.length=x.1.length∧∀ q∈y.1,q∈x.1)
  (fun y=>(y.2.2-y.2.1).toNat) ?_ _ _ ⟨h.1,h.2.1,h.2.2,rfl,fun q hq=>hq⟩ (by obtain ⟨_,_,_⟩:=h; unfold fuel; omega)
 rintro next ⟨data_0,i_14,k_17⟩ h hn
 dsimp only at h hn
 obtain ⟨h1,h2,h4,h5,h6⟩:=h
 unfold ugl_
 dsimp only
 refine ug_.2 ⟨fun hc=>?_,fun hc=>ub_.2 ⟨h5,h6⟩⟩
 have hc:=of_decide_eq_true hc
 have hw:IntKind.i64.wrap (k_17-1)=k_17-1:=ubc_ (by omega) (by omega)
 rw [hw]
 refine ua_.2 (ucf_.2 ⟨⟨by omega,by omega⟩,?_⟩)
 refine ua_.2 (ucf_.2 ⟨⟨by omega,by omega⟩,?_⟩)
 refine ua_.2 (ucf_.2 ⟨⟨by omega,by omega⟩,?_⟩)
 refine ua_.2 (ucf_.2 ⟨⟨by omega,by rw [List.length_set]; omega⟩,?_⟩)
 refine hn _ ⟨h1,by simp only [List.length_set]; omega,by simp only [List.length_set]; omega,by simp only [List.length_set]; omega,fun q hq=>?_⟩ (by dsimp only; omega)
 rcases ue_ hq with hq | rfl
 · rcases ue_ hq with hq | rfl
   · exact h6 q hq
   · exact h6 _ (uj_ (by omega))
 · exact h6 _ (uj_ (by omega))
theorem uns_ (slf:(List YY2)×Int×Int×Int×YY21→Option (List YY2)) (x:(List YY2)×Int×YY21×Int×Int) (h:(∀ p,Tot (x.2.2.1 p) fun _=>True)∧0≤x.2.1∧x.2.1<x.1.length∧0≤x.2.2.2.1∧x.2.2.2.1≤x.2.2.2.2∧x.2.2.2.2≤x.1.length∧x.1.length≤1048576) :
 Tot (ud0_ slf x) (fun r:(List YY2)×Int=>r.1=x.1∧x.2.2.2.1≤r.2∧r.2≤x.2.2.2.2):=by
 refine uq_ (R:=fun r:(List YY2)×Int=>r.1=x.1∧x.2.2.2.1≤r.2∧r.2≤x.2.2.2.2) (fun y:(List YY2)×Int×YY21×Int×Int=>(∀ p,Tot (y.2.2.1 p) fun _=>True)∧0≤y.2.1∧y.2.1<y.1.length∧0≤y.2.2.2.1∧y.2.2.2.1≤y.2.2.2.2∧y.2.2.2.2≤y.1.length∧y.1.length≤1048576∧y.1=x.1∧x.2.2.2.1≤y.2.2.2.1∧y.2.2.2.2≤x.2.2.2.2)
  (fun y=>(y.2.2.2.2-y.2.2.2.1).toNat) ?_ _ _ ⟨h.1,h.2.1,h.2.2.1,h.2.2.2.1,h.2.2.2.2.1,h.2.2.2.2.2.1,h.2.2.2.2.2.2,rfl,Int.le_refl _,Int.le_refl _⟩ (by obtain ⟨_,_,_,_,_,_,_⟩:=h; unfold fuel; omega)
 rintro next ⟨data_0,m_2,cmp_4,i_14,j_15⟩ h hn
 dsimp only at h hn
 obtain ⟨h0,h1,h2,h3,h4,h5,h6,h7,h8,h9⟩:=h
 unfold ug6_
 dsimp only
 refine ug_.2 ⟨fun hc=>?_,fun hc=>ub_.2 ⟨h7,h8,by dsimp only; omega⟩⟩
 have hc:=of_decide_eq_true hc
 refine ua_.2 (u4j_ (by omega) (by omega) (by omega) (by omega) ?_)
 have hw1:IntKind.i64.wrap ((i_14+j_15) / 2)=(i_14+j_15) / 2:=ubc_ (by omega) (by omega)
 have hw2:IntKind.i64.wrap ((i_14+j_15) / 2+1)=(i_14+j_15) / 2+1:=ubc_ (by omega) (by omega)
 rw [hw1,hw2]
 refine ua_.2 (ucf_.2 ⟨⟨by omega,by omega⟩,?_⟩)
 refine ua_.2 (ucf_.2 ⟨⟨by omega,by omega⟩,?_⟩)
 refine ua_.2 ((h0 _).mono fun r13 _=>?_)
 refine ug_.2 ⟨fun _=>?_,fun _=>?_⟩
 · exact hn _ ⟨h0,h1,h2,by dsimp only; omega,by dsimp only; omega,h5,h6,h7,by dsimp only; omega,h9⟩ (by dsimp only; omega)
 · exact hn _ ⟨h0,h1,h2,h3,by dsimp only; omega,by dsimp only; omega,h6,h7,h8,by dsimp only; omega⟩ (by dsimp only; omega)
theorem ung_ (slf:(List YY2)×Int×Int×Int×YY21→Option (List YY2)) (x:(List YY2)×YY21×Int×Int×Int) (h:(∀ p,Tot (x.2.1 p) fun _=>True)∧0≤x.2.2.1∧x.2.2.1≤x.2.2.2.1∧x.2.2.2.1≤x.1.length∧x.2.2.2.1-1≤x.2.2.2.2∧x.2.2.2.2-x.2.2.1<x.1.length∧x.1.length≤1048576) :
 Tot (udo_ slf x) (fun r:(List YY2)×Int=>r.1=x.1∧x.2.2.1≤r.2∧r.2≤x.2.2.2.1):=by
 refine uq_ (R:=fun r:(List YY2)×Int=>r.1=x.1∧x.2.2.1≤r.2∧r.2≤x.2.2.2.1) (fun y:(List YY2)×YY21×Int×Int×Int=>(∀ p,Tot (y.2.1 p) fun _=>True)∧0≤y.2.2.1∧y.2.2.1≤y.2.2.2.1∧y.2.2.2.1≤y.1.length∧y.2.2.2.1-1≤y.2.2.2.2∧y.2.2.2.2-y.2.2.1<y.1.length∧y.1.length≤1048576∧y.1=x.1∧x.2.2.1≤y.2.2.1∧y.2.2.2.1≤x.2.2.2.1)
  (fun y=>(y.2.2.2.1-y.2.2.1).toNat) ?_ _ _ ⟨h.1,h.2.1,h.2.2.1,h.2.2.2.1,h.2.2.2.2.1,h.2.2.2.2.2.1,h.2.2.2.2.2.2,rfl,Int.le_refl _,Int.le_refl _⟩ (by obtain ⟨_,_,_,_,_,_,_⟩:=h; unfold fuel; omega)
 rintro next ⟨data_0,cmp_4,start_20,r_21,p_22⟩ h hn
 dsimp only at h hn
 obtain ⟨h0,h1,h2,h3,h4,h5,h6,h7,h8,h9⟩:=h
 unfold ugm_
 dsimp only
 refine ug_.2 ⟨fun hc=>?_,fun hc=>ub_.2 ⟨h7,h8,by dsimp only; omega⟩⟩
 have hc:=of_decide_eq_true hc
 refine ua_.2 (u4j_ (by omega) (by omega) (by omega) (by omega) ?_)
 have hw1:IntKind.i64.wrap ((start_20+r_21) / 2)=(start_20+r_21) / 2:=ubc_ (by omega) (by omega)
 have hw2:IntKind.i64.wrap ((start_20+r_21) / 2+1)=(start_20+r_21) / 2+1:=ubc_ (by omega) (by omega)
 have hw3:IntKind.i64.wrap (p_22-(start_20+r_21) / 2)=p_22-(start_20+r_21) / 2:=ubc_ (by omega) (by omega)
 rw [hw1,hw2,hw3]
 refine ua_.2 (ucf_.2 ⟨⟨by omega,by omega⟩,?_⟩)
 refine ua_.2 (ucf_.2 ⟨⟨by omega,by omega⟩,?_⟩)
 refine ua_.2 ((h0 _).mono fun r4 _=>?_)
 refine ug_.2 ⟨fun _=>?_,fun _=>?_⟩
 · exact hn _ ⟨h0,by dsimp only; omega,by dsimp only; omega,h3,h4,by dsimp only; omega,h6,h7,by dsimp only; omega,h9⟩ (by dsimp only; omega)
 · exact hn _ ⟨h0,h1,by dsimp only; omega,by dsimp only; omega,by dsimp only; omega,h5,h6,h7,h8,by dsimp only; omega⟩ (by dsimp only; omega)
theorem unh_ (slf:(List YY2)×Int×Int×Int×YY21→Option (List YY2)) (x:(List YY2)×Int×YY21×Int×Int×Bool) (h:x.1.length≤1048576∧(x.2.2.2.2.2=true→0≤x.2.2.2.1∧x.2.2.2.1<x.2.1∧x.2.1<x.2.2.2.2.1∧x.2.2.2.2.1≤x.1.length)) :
 Tot (ub1_ slf x) (fun r:List YY2=>r.length=x.1.length∧∀ q∈r,q∈x.1):=by
 obtain ⟨data_0,m_2,cmp_4,start_20,end_24,t185⟩:=x
 dsimp only at h
 unfold ub1_
 dsimp only
 refine ug_.2 ⟨fun hc=>?_,fun _=>ub_.2 ⟨rfl,fun q hq=>hq⟩⟩
 obtain ⟨h1,h2,h3,h4⟩:=h.2 hc
 exact ua_.2 ((ur0_ _ ⟨h1,h2,h3,h4,h.1⟩).mono fun r hr=>ub_.2 hr)
theorem ulw_ (slf:(List YY2)×Int×Int×Int×YY21→Option (List YY2)) (K:Int) (ih:∀ y:(List YY2)×Int×Int×Int×YY21,((∀ p,Tot (y.2.2.2.2 p) fun _=>True)∧0≤y.2.1∧y.2.1<y.2.2.1∧y.2.2.1<y.2.2.2.1∧y.2.2.2.1≤y.1.length∧y.1.length≤1048576)→y.2.2.2.1-y.2.1≤K→Tot (slf y) (fun r:List YY2=>r.length=y.1.length∧∀ q∈r,q∈y.1)) (x:(List YY2)×Int×Int×Int×YY21) (h:(∀ p,Tot (x.2.2.2.2 p) fun _=>True)∧0≤x.2.1∧x.2.1<x.2.2.1∧x.2.2.1<x.2.2.2.1∧x.2.2.2.1≤x.1.length∧x.1.length≤1048576) (hK:x.2.2.2.1-x.2.1≤2*K) :
 Tot (uc4_ slf x) (fun r:List YY2=>r.length=x.1.length∧∀ q∈r,q∈x.1):=by
 obtain ⟨data_0,a_1,m_2,b_3,cmp_4⟩:=x
 dsimp only at h hK
 obtain ⟨h0,h1,h2,h3,h4,h5⟩:=h
 unfold uc4_
 dsimp only
 rw [ubc_ (n:=m_2-a_1) (by omega) (by omega),ubc_ (n:=b_3-m_2) (by omega) (by omega)]
 refine ug_.2 ⟨fun _=>?_,fun _=>ug_.2 ⟨fun _=>?_,fun _=>?_⟩⟩
 · refine ua_.2 ((unq_ slf _ ⟨h0,h1,by dsimp only; omega,by dsimp only; omega,by dsimp only; omega,h4,h5⟩).mono fun r5 hr=>?_)
   dsimp only at hr
   obtain ⟨e1,e2,e3⟩:=hr
   refine ua_.2 ((unr_ slf _ ⟨by dsimp only; omega,by dsimp only; rw [e1]; omega,h1,by dsimp only; rw [e1]; exact h5⟩).mono fun r9 hr=>ub_.2 ?_)
   dsimp only at hr
   rw [e1] at hr; exact hr
 · refine ua_.2 ((uns_ slf _ ⟨h0,by dsimp only; omega,by dsimp only; omega,h1,by dsimp only; omega,by dsimp only; omega,h5⟩).mono fun r5 hr=>?_)
   dsimp only at hr
   obtain ⟨e1,e2,e3⟩:=hr
   refine ua_.2 ((unf_ slf _ ⟨by dsimp only; omega,by dsimp only; rw [e1]; omega,by dsimp only; rw [e1]; exact h5⟩).mono fun r9 hr=>ub_.2 ?_)
   dsimp only at hr
   rw [e1] at hr; exact hr
 · refine ua_.2 (u4j_ (by omega) (by omega) (by omega) (by omega) ?_)
   generalize hmid:(a_1+b_3) / 2=mid
   rw [ubc_ (n:=mid) (by omega) (by omega),ubc_ (n:=mid+m_2) (by omega) (by omega),ubc_ (n:=mid+m_2-1) (by omega) (by omega)]
   have hp:Tot (ub0_ slf (a_1,m_2,b_3,mid,mid+m_2,decide (mid<m_2))) fun r:Int×Int=>0≤r.1∧a_1≤r.1∧mid+m_2-b_3≤r.1∧r.1≤r.2∧r.2≤m_2∧r.2≤mid+m_2∧mid+m_2-1-r.1<data_0.length:=by
    unfold ub0_
    dsimp only
    refine ug_.2 ⟨fun hc=>ub_.2 ?_,fun hc=>ub_.2 ?_⟩
    · have hc:=of_decide_eq_true hc
      rw [ubc_ (by omega) (by omega)]
      dsimp only; omega
    · have hc:=of_decide_eq_false hc
      dsimp only; omega
   refine ua_.2 (hp.mono fun r20 hr=>?_)
   obtain ⟨f1,f2,f3,f4,f5,f6,f7⟩:=hr
   refine ua_.2 ((ung_ slf _ ⟨h0,f1,f4,by dsimp only; omega,by dsimp only; omega,f7,h5⟩).mono fun r26 hr=>?_)
   dsimp only at hr
   obtain ⟨e1,e2,e3⟩:=hr
   rw [ubc_ (n:=mid+m_2-r26.2) (by omega) (by omega)]
   refine ua_.2 ((unh_ slf _ ⟨by dsimp only; rw [e1]; exact h5,fun hc=>?_⟩).mono fun r29 hr=>?_)
   · dsimp only at hc ⊢
     rw [Bool.and_eq_true,decide_eq_true_eq,decide_eq_true_eq] at hc
     rw [e1]
     omega
   dsimp only at hr
   rw [e1] at hr
   obtain ⟨g1,g2⟩:=hr
   have hq:Tot (ub2_ slf (r29,a_1,cmp_4,mid,r26.2,decide (a_1<r26.2)&&decide (r26.2<mid))) fun r:List YY2=>r.length=data_0.length∧∀ q∈r,q∈data_0:=by
    unfold ub2_
    dsimp only
    refine ug_.2 ⟨fun hc=>?_,fun _=>ub_.2 ⟨g1,g2⟩⟩
    rw [Bool.and_eq_true,decide_eq_true_eq,decide_eq_true_eq] at hc
    refine ua_.2 ((ih _ ⟨h0,h1,by dsimp only; omega,by dsimp only; omega,by dsimp only; omega,by dsimp only; omega⟩ (by dsimp only; omega)).mono fun r31 hr=>ub_.2 ?_)
    dsimp only at hr
    exact ⟨by omega,fun q hq=>g2 q (hr.2 q hq)⟩
   refine ua_.2 (hq.mono fun r32 hr=>?_)
   obtain ⟨k1,k2⟩:=hr
   refine ug_.2 ⟨fun hc=>?_,fun _=>ub_.2 ⟨k1,k2⟩⟩
   rw [Bool.and_eq_true,decide_eq_true_eq,decide_eq_true_eq] at hc
   refine ua_.2 ((ih _ ⟨h0,by dsimp only; omega,by dsimp only; omega,by dsimp only; omega,by dsimp only; omega,by dsimp only; omega⟩ (by dsimp only; omega)).mono fun r34 hr=>ub_.2 ?_)
   dsimp only at hr
   exact ⟨by omega,fun q hq=>k2 q (hr.2 q hq)⟩
theorem uox_:∀ (n:Nat) (x:(List YY2)×Int×Int×Int×YY21) (h:(∀ p,Tot (x.2.2.2.2 p) fun _=>True)∧0≤x.2.1∧x.2.1<x.2.2.1∧x.2.2.1<x.2.2.2.1∧x.2.2.2.1≤x.1.length∧x.1.length≤1048576) (hK:x.2.2.2.1-x.2.1≤2 ^ n),Tot (uo_ n x) (fun r:List YY2=>r.length=x.1.length∧∀ q∈r,q∈x.1):=by
 intro n
 induction n with
 | zero =>
   intro x h hK
   obtain ⟨_,h1,h2,h3,_,_⟩:=h
   rw [Int.pow_zero] at hK
   omega
 | succ n ih =>
   intro x h hK
   refine ulw_ (uo_ n) (2 ^ n) (fun y hy hk=>ih y hy hk) x h ?_
   rw [Int.pow_succ] at hK
   omega
theorem ugp_ (x:(List YY2)×Int×Int×Int×YY21) (h:(∀ p,Tot (x.2.2.2.2 p) fun _=>True)∧0≤x.2.1∧x.2.1<x.2.2.1∧x.2.2.1<x.2.2.2.1∧x.2.2.2.1≤x.1.length∧x.1.length≤1048576):Tot (ubt_ x) (fun r:List YY2=>r.length=x.1.length∧∀ q∈r,q∈x.1):=by
 unfold ubt_
 refine uox_ 100 x h ?_
 obtain ⟨_,h1,h2,h3,h4,h5⟩:=h
 have:(1048576:Int)≤2 ^ 100:=by decide
 omega
end Go.Ev.Pv
