/-
  The law of risks as plain Lean: sums, the order of findings, the worst of each name, and that what the closed part tells is true.
-/
import Derived.Test.YthdkjfbmhbimlaaGreatDoorE4
import Derived.Test.YthdkjfbmhbimlaaGreatDoorD
import Derived.Sort.AssemblyPlain
import Derived.KernelRfl
set_option linter.unusedVariables false
set_option linter.unusedSimpArgs false
set_option linter.unusedSectionVars false
set_option maxRecDepth 100000
namespace Go.Ev
theorem xlc {α:Type} {a:α} {l:List α}:(a::l).length=l.length+1:=List.length_cons
theorem xln {α:Type}:([]:List α).length=0:=List.length_nil
theorem xmt {α:Type} {a:α} {i:Nat} {l:List α} (h:a∈l.take i):a∈l:=List.mem_of_mem_take h
theorem xmd {α:Type} {a:α} {i:Nat} {l:List α} (h:a∈l.drop i):a∈l:=List.mem_of_mem_drop h
def Tot {α:Type} (m:Option α) (Q:α→Prop):Prop:=∃ x,m=some x∧Q x
section
variable {α β:Type} {m n:Option α} {P Q:α→Prop}
theorem Tot.mono (h:Tot m P) (k:∀ x,P x→Q x):Tot m Q:=let ⟨x,h1,h2⟩:=h; ⟨x,h1,k x h2⟩
theorem ui_ {x:α}:Tot (some x) Q↔Q x:=⟨fun ⟨_,h1,h2⟩=>Option.some.inj h1▸h2,fun h=>⟨x,rfl,h⟩⟩
theorem ud_ {f:α→Option β} {R:β→Prop}:Tot (m.bind f) R↔Tot m fun x=>Tot (f x) R:=by
 constructor
 · rintro ⟨y,h1,h2⟩
   obtain ⟨x,h3,h4⟩:=Option.bind_eq_some_iff.1 h1
   exact ⟨x,h3,y,h4,h2⟩
 · rintro ⟨x,rfl,y,h1,h2⟩
   exact ⟨y,h1,h2⟩
theorem u8_ {b:Bool}:Tot (bif b then m else n) Q↔(b=true→Tot m Q)∧(b=false→Tot n Q):=by
 cases b
 · exact ⟨fun h=>⟨fun e=>(by cases e),fun _=>h⟩,fun h=>h.2 rfl⟩
 · exact ⟨fun h=>⟨fun _=>h,fun e=>(by cases e)⟩,fun h=>h.1 rfl⟩
theorem uf0_ {n:Nat} {i:Int} {Q:Unit→Prop}:Tot (in? n i) Q↔(0≤i∧i<n)∧Q ():=by
 unfold in? Tot
 by_cases h1:0≤i <;> by_cases h2:i<n <;> simp [h1,h2]
 exact ⟨fun ⟨_,h⟩=>h,fun h=>⟨(),h⟩⟩
theorem ub2s_ {B:Nat} {a b:List α} {Q:List α→Prop}:Tot (app? B a b) Q↔(a.length+b.length)*B≤70368744177664∧Q (a++b):=by
 unfold app? Tot
 by_cases h:(a.length+b.length)*B≤70368744177664 <;> simp [h]
theorem ucuf_ {l:List α} {lo hi:Int} {Q:List α→Prop}:Tot (cut? l lo hi) Q↔(0≤lo∧lo≤hi∧hi≤l.length)∧Q ((l.take hi.toNat).drop lo.toNat):=by
 unfold cut? Tot
 by_cases h1:0≤lo <;> by_cases h2:lo≤hi <;> by_cases h3:hi≤l.length <;> simp [h1,h2,h3]
theorem ucvl_ {l:List α} {i:Int} {Q:α→Prop} (h1:0≤i) (h2:i<l.length) (h3:∀ x,x∈l→l[i.toNat]? = some x→Q x):Tot (at? l i) Q:=by
 have hlt:i.toNat<l.length:=by omega
 refine ⟨l[i.toNat],?_,h3 _ (List.getElem_mem hlt) (List.getElem?_eq_getElem hlt)⟩
 unfold at?
 rw [decide_eq_true h1]
 exact List.getElem?_eq_getElem hlt
theorem u23_ {l:List α} {i:Int} {Q:α→Prop}:Tot (at? l i) Q↔(0≤i∧i<l.length)∧∀ x,l[i.toNat]? = some x→Q x:=by
 constructor
 · rintro ⟨x,h1,h2⟩
   unfold at? at h1
   by_cases h0:0≤i
   · rw [decide_eq_true h0] at h1
     have h1:l[i.toNat]? = some x:=h1
     have hlt:=(List.getElem?_eq_some_iff.1 h1).1
     exact ⟨⟨h0,by omega⟩,fun y hy=>by rw [h1] at hy; cases hy; exact h2⟩
   · rw [decide_eq_false h0] at h1; cases h1
 · rintro ⟨⟨h1,h2⟩,h3⟩
   exact ucvl_ h1 h2 fun x _ hx=>h3 x hx
theorem ucj_ {r:(α→Option β)→α→Option β} {R:β→Prop} (I:α→Prop) (μ:α→Nat) (h:∀ next x,I x→(∀ y,I y→μ y<μ x→Tot (next y) R)→Tot (r next x) R) :
 ∀ (k:Nat) (x:α),I x→μ x<k→Tot (loopN r k x) R:=by
 intro k
 induction k with
 | zero=>intro x _ h; omega
 | succ k ih=>intro x hx hk; exact h _ x hx fun y hy hm=>ih y hy (by omega)
theorem ubv_ {n:Int} (h1:-9223372036854775808≤n) (h2:n≤9223372036854775807):IntKind.i64.wrap n=n:=by
 simp only [IntKind.wrap,IntKind.bits,IntKind.signed]
 simp
 omega
theorem wrap8 {n:Int} (h1:0≤n) (h2:n≤255):IntKind.u8.wrap n=n:=by
 simp only [IntKind.wrap,IntKind.bits,IntKind.signed]
 simp
 omega
theorem uckd_ (n:Int):0≤IntKind.u8.wrap n∧IntKind.u8.wrap n≤255:=by
 simp only [IntKind.wrap,IntKind.bits,IntKind.signed]
 simp
 omega
end
end Go.Ev
namespace Go.Ev.Pv
theorem ucfr_ {n:Int}:-9223372036854775808≤n→n≤9223372036854775807→IntKind.i64.wrap n=n:=fun h1 h2=>ubv_ h1 h2
theorem u8le (b:UInt8):b.toNat≤255:=by have:=b.toNat_lt; omega
theorem ucnk_ {n:Int}:0≤n→n≤255→IntKind.u8.wrap n=n:=fun h1 h2=>wrap8 h1 h2
theorem ucnl_ (n:Int):0≤IntKind.u8.wrap n∧IntKind.u8.wrap n≤255:=uckd_ n
theorem ubdv_ (s:Str):(udy_ s).length=s.length:=by simp [udy_]
theorem uby6_ (s:List Int):(strOf s).length=s.length:=by simp [strOf]
theorem ubu7_ (s t:Str):eqS s t=decide (s=t):=by unfold eqS; by_cases h:s=t <;> simp [h]
theorem u0u_ (s t:Int):eqI s t=decide (s=t):=by unfold eqI; by_cases h:s=t <;> simp [h]
end Go.Ev.Pv
namespace Go.Ev.Pv
theorem uyt_ {α:Type} {l:List α} {i:Nat} {d:α}:i<l.length→l.getD i d∈l:=fun h=>by
 rw [List.getD_eq_getElem?_getD,List.getElem?_eq_getElem h]; exact List.getElem_mem h
theorem ubot_ {α:Type} {l:List α} {i:Nat} {a b:α}:a∈l.set i b→a∈l∨a=b:=List.mem_or_eq_of_mem_set
end Go.Ev.Pv
namespace Go.Ev.Pv
end Go.Ev.Pv
namespace Go.Ev.Pv
end Go.Ev.Pv
namespace Go.Ev.Pv
end Go.Ev.Pv
namespace Go.Ev.Pv
end Go.Ev.Pv
namespace Go.Ev.Pv
end Go.Ev.Pv
namespace Go.Ev.Pv
end Go.Ev.Pv
namespace Go.Ev.Pv
end Go.Ev.Pv
namespace Go.Ev.Pv
theorem ubou_ {i j:Int} {Q:Int→Prop} (h1:0≤i) (h2:0≤j) (h3:i≤4611686018427387903) (h4:j≤4611686018427387903) (h:Q ((i+j) / 2)):Tot (shr? IntKind.u64 (IntKind.u64.wrap (IntKind.i64.wrap (i+j))) (1:Int)) Q:=by
 have e1:IntKind.i64.wrap (i+j)=i+j:=ubv_ (by omega) (by omega)
 have e2:IntKind.u64.wrap (i+j)=i+j:=by
  simp only [IntKind.wrap,IntKind.bits,IntKind.signed]
  simp
  omega
 rw [e1,e2]
 have e3:(i+j).fdiv (2 ^ min (1:Int).toNat IntKind.u64.bits)=(i+j) / 2:=by
  have:(2:Int) ^ min (1:Int).toNat IntKind.u64.bits=2:=by decide
  rw [this,Int.fdiv_eq_ediv_of_nonneg _ (by decide)]
 unfold shr?
 rw [e3]
 exact ui_.2 h
end Go.Ev.Pv
namespace Go.Ev.Pv
end Go.Ev.Pv
namespace Go.Ev.Pv
end Go.Ev.Pv
namespace Go.Ev.Pv
end Go.Ev.Pv
namespace Go.Ev.Pv
end Go.Ev.Pv
namespace Go.Ev.Pv
end Go.Ev.Pv
namespace Go.Ev.Pv
end Go.Ev.Pv
namespace Go.Ev.Pv
theorem trimPrefix_len (s p:Str):(Lib.trimPrefix s p).length≤s.length:=by
 unfold Lib.trimPrefix
 split
 · rw [List.length_drop]; omega
 · exact Nat.le_refl _
end Go.Ev.Pv
namespace Go.Ev.Pv
theorem ucfs_ {α:Type} {l:List α} {i j:Nat} {a:α}:a∈(l.take i).drop j→a∈l:=fun h=>List.mem_of_mem_take (List.mem_of_mem_drop h)
theorem ucft_ {α:Type} (l:List α) (i j:Nat):((l.take i).drop j).length=min i l.length-j:=by simp
theorem ucfu_ (s:Str):eqS s []=decide (s.length=0):=by rw [ubu7_]; cases s <;> simp
end Go.Ev.Pv
namespace Go.Ev.Pv
end Go.Ev.Pv
namespace Go.Ev.Pv
theorem uchk_:∀ (x y:Str),Op.bytesLess x y=decide (x<y):=by
 intro x
 induction x with
 | nil=>intro y; cases y <;> simp [Op.bytesLess]
 | cons a x ih =>
   intro y
   cases y with
   | nil=>simp [Op.bytesLess]
   | cons b y =>
     rw [Op.bytesLess,ih y]
     simp only [List.cons_lt_cons_iff]
     by_cases h1:a<b <;> by_cases h2:a=b <;> by_cases h3:x<y <;> simp [h1,h2,h3]
theorem sirr (a:Str):¬ a<a:=List.lt_irrefl a
theorem ucsm_ {a b c:Str} (h1:a<b) (h2:b<c):a<c:=List.lt_trans h1 h2
theorem stri (a b:Str):a<b∨a=b∨b<a:=by
 by_cases h1:a<b
 · exact Or.inl h1
 · by_cases h2:b<a
   · exact Or.inr (Or.inr h2)
   · exact Or.inr (Or.inl (List.le_antisymm (List.not_lt.1 h2) (List.not_lt.1 h1)))
theorem sasym {a b:Str} (h1:a<b):¬ b<a:=fun h2=>sirr a (ucsm_ h1 h2)
def cmpS (a b:Str):Int:=if a<b then -1 else if a=b then 0 else 1
theorem ubq8_ (a b:Str):ubx_ (a,b)=some (cmpS a b):=by
 unfold ubx_ utq_ cmpS
 have e:∀ s:Str,eqS s s=true:=fun s=>by rw [ubu7_]; simp
 simp only [e,Bool.not_true,Option.bind_some,cond_false,uchk_,ubu7_]
 by_cases h2:a=b
 · subst h2; simp [sirr]
 · by_cases h1:a<b <;> simp [h1,h2]
def cmpI (a b:Int):Int:=if a<b then -1 else if b<a then 1 else 0
theorem ub1u_ (a b:Int):ude_ (a,b)=some (cmpI a b):=by
 unfold ude_ u70_ cmpI
 have e:∀ s:Int,eqI s s=true:=fun s=>by rw [u0u_]; simp
 simp only [e,Bool.not_true,Option.bind_some,cond_false]
 by_cases h1:a<b <;> by_cases h2:b<a <;> simp [h1,h2]
section
variable {T:Type}
end
abbrev Edge:=Int×Str×Bool×Str
def eo (a b:Edge):Int:=if a.1≠b.1∨a.1≠0 then cmpI a.1 b.1 else if cmpS a.2.1 b.2.1≠0∨a.2.2.1=b.2.2.1 then cmpS a.2.1 b.2.1 else if a.2.2.1 then 1 else -1
def elt (a b:Edge):Prop:=a.1<b.1∨(a.1=b.1∧a.1=0∧(a.2.1<b.2.1∨(a.2.1=b.2.1∧a.2.2.1=false∧b.2.2.1=true)))
instance (a b:Edge):Decidable (elt a b):=by unfold elt; infer_instance
end Go.Ev.Pv
namespace Go.Ev.Pv
abbrev Af:=Str×Int×YY43×(List Str)×(List Str)
abbrev Adv:=Str×(List Str)×Str×Int×Bool×Str×(List Af)
def AfB (a:Af):Prop:=a.1.length≤1048576∧a.2.2.1.length≤1048576∧(∀ v∈a.2.2.1,v.2.length≤1048576)∧a.2.2.2.1.length≤1048576∧(∀ s∈a.2.2.2.1,s.length≤1048576)∧a.2.2.2.2.length≤1048576∧(∀ s∈a.2.2.2.2,s.length≤1048576)
def AdB (a:Adv):Prop:=a.1.length≤1048576∧a.2.1.length≤1048576∧(∀ s∈a.2.1,s.length≤1048576)∧a.2.2.1.length≤1048576∧a.2.2.2.2.2.1.length≤1048576∧a.2.2.2.2.2.2.length≤1048576∧∀ x∈a.2.2.2.2.2.2,AfB x
theorem ucit_ {α:Type} {l:List α} {i:Nat} {x:α} (h:l[i]? = some x):x∈l:=List.mem_of_getElem? h
end Go.Ev.Pv
namespace Go.Ev.Pv
end Go.Ev.Pv
namespace Go.Ev.Pv
end Go.Ev.Pv
namespace Go.Ev.Pv
end Go.Ev.Pv
namespace Go.Ev.Pv
end Go.Ev.Pv
namespace Go.Ev.Pv
end Go.Ev.Pv
namespace Go.Ev.Pv
def CT (F:Int×Int→Option Int) (l:List Int):Prop:=∀ a b,a∈l→b∈l→Tot (F (a,b)) fun _=>True
theorem CT.perm {F:Int×Int→Option Int} {l l':List Int} (h:CT F l) (p:l'.Perm l):CT F l':=fun a b ha hb=>h a b (p.mem_iff.1 ha) (p.mem_iff.1 hb)
theorem ub4r_ {l:List Int} {i j:Nat} (hi:i<l.length) (hj:j<l.length):((l.set i (l.getD j 0)).set j (l.getD i 0)).Perm l:=by
 have e1:l.getD i 0=l[i]:=by simp [List.getD,hi]
 have e2:l.getD j 0=l[j]:=by simp [List.getD,hj]
 rw [e1,e2]
 exact List.set_set_perm hi hj
theorem uqu_ (x:(List Int)×Int×YY22×Int) (h:CT x.2.2.1 x.1∧0≤x.2.1∧x.2.1≤x.2.2.2∧x.2.2.2<x.1.length∧x.1.length≤1048576) :
 Tot (ucl_ x) (fun r:List Int=>r.length=x.1.length∧r.Perm x.1):=by
 refine ucj_ (R:=fun r:List Int=>r.length=x.1.length∧r.Perm x.1) (fun y:(List Int)×Int×YY22×Int=>CT y.2.2.1 x.1∧0≤y.2.1∧y.2.1≤y.2.2.2∧y.2.2.2<y.1.length∧y.1.length≤1048576∧y.1.length=x.1.length∧y.1.Perm x.1)
  (fun y=>y.2.2.2.toNat) ?_ _ _ ⟨h.1,h.2.1,h.2.2.1,h.2.2.2.1,h.2.2.2.2,rfl,List.Perm.refl _⟩ (by obtain ⟨_,_,_,_,_⟩:=h; unfold fuel; omega)
 rintro next ⟨data_0,a_1,cmp_3,j_9⟩ h hn
 dsimp only at h hn
 obtain ⟨h0,h1,h2,h3,h4,h5,h6⟩:=h
 unfold ueh_
 dsimp only
 by_cases hc:a_1<j_9
 · have hw:IntKind.i64.wrap (j_9-1)=j_9-1:=ubv_ (by omega) (by omega)
   simp only [hw,decide_eq_true hc,cond_true,Bool.true_and]
   refine ud_.2 (uf0_.2 ⟨⟨by omega,by omega⟩,?_⟩)
   refine ud_.2 (uf0_.2 ⟨⟨by omega,by omega⟩,?_⟩)
   refine ud_.2 ((h0 _ _ (h6.mem_iff.1 (uyt_ (by omega))) (h6.mem_iff.1 (uyt_ (by omega)))).mono fun r3 _=>?_)
   refine u8_.2 ⟨fun _=>?_,fun _=>ui_.2 ⟨h5,h6⟩⟩
   refine ud_.2 (uf0_.2 ⟨⟨by omega,by omega⟩,?_⟩)
   refine ud_.2 (uf0_.2 ⟨⟨by omega,by omega⟩,?_⟩)
   refine ud_.2 (uf0_.2 ⟨⟨by omega,by omega⟩,?_⟩)
   refine ud_.2 (uf0_.2 ⟨⟨by omega,by rw [List.length_set]; omega⟩,?_⟩)
   refine hn _ ⟨h0,h1,by dsimp only; omega,by simp only [List.length_set]; omega,by simp only [List.length_set]; omega,by simp only [List.length_set]; omega,(ub4r_ (by omega) (by omega)).trans h6⟩ (by dsimp only; omega)
 · simp only [decide_eq_false hc,cond_false,Bool.false_and]
   refine ud_.2 (ui_.2 ?_)
   refine ud_.2 (ui_.2 ?_)
   refine ud_.2 (ui_.2 ?_)
   exact ui_.2 ⟨h5,h6⟩
theorem uqv_ (x:(List Int)×Int×Int×YY22×Int) (h:CT x.2.2.2.1 x.1∧0≤x.2.1∧x.2.1≤x.2.2.2.2∧x.2.2.1≤x.1.length∧x.2.2.2.2≤1048577∧x.1.length≤1048576) :
 Tot (uej_ x) (fun r:List Int=>r.length=x.1.length∧r.Perm x.1):=by
 refine ucj_ (R:=fun r:List Int=>r.length=x.1.length∧r.Perm x.1) (fun y:(List Int)×Int×Int×YY22×Int=>CT y.2.2.2.1 x.1∧0≤y.2.1∧y.2.1≤y.2.2.2.2∧y.2.2.1≤y.1.length∧y.2.2.2.2≤1048577∧y.1.length≤1048576∧y.1.length=x.1.length∧y.1.Perm x.1)
  (fun y=>(y.2.2.1-y.2.2.2.2).toNat) ?_ _ _ ⟨h.1,h.2.1,h.2.2.1,h.2.2.2.1,h.2.2.2.2.1,h.2.2.2.2.2,rfl,List.Perm.refl _⟩ (by obtain ⟨_,_,_,_,_,_⟩:=h; unfold fuel; omega)
 rintro next ⟨data_0,a_1,b_2,cmp_3,i_8⟩ h hn
 dsimp only at h hn
 obtain ⟨h0,h1,h2,h3,h4,h5,h6,h7⟩:=h
 unfold uei_
 dsimp only
 refine u8_.2 ⟨fun hc=>?_,fun _=>ui_.2 ⟨h6,h7⟩⟩
 have hc:=of_decide_eq_true hc
 have hw:IntKind.i64.wrap (i_8+1)=i_8+1:=ubv_ (by omega) (by omega)
 rw [hw]
 refine ud_.2 ((uqu_ _ ⟨h0.perm h7,h1,h2,by dsimp only; omega,h5⟩).mono fun r hr=>?_)
 dsimp only at hr
 obtain ⟨e1,e2⟩:=hr
 exact hn _ ⟨h0,h1,by dsimp only; omega,by dsimp only; omega,by dsimp only; omega,by dsimp only; omega,by dsimp only; omega,e2.trans h7⟩ (by dsimp only; omega)
theorem uhz_ (x:(List Int)×Int×Int×YY22) (h:CT x.2.2.2 x.1∧0≤x.2.1∧x.2.1≤1048576∧x.2.2.1≤x.1.length∧x.1.length≤1048576) :
 Tot (u4_ x) (fun r:List Int=>r.length=x.1.length∧r.Perm x.1):=by
 obtain ⟨data_0,a_1,b_2,cmp_3⟩:=x
 dsimp only at h
 obtain ⟨h0,h1,h2,h3,h4⟩:=h
 unfold u4_
 dsimp only
 rw [ubv_ (by omega) (by omega)]
 exact ud_.2 ((uqv_ _ ⟨h0,h1,by dsimp only; omega,h3,by dsimp only; omega,h4⟩).mono fun r hr=>ui_.2 hr)
theorem uvs_ (x:(List Int)×Int×Int×Int×Int) (h:0≤x.2.1∧0≤x.2.2.1∧x.2.1+x.2.2.2.1≤x.1.length∧x.2.2.1+x.2.2.2.1≤x.1.length∧0≤x.2.2.2.2∧x.1.length≤1048576) :
 Tot (ugi_ x) (fun r:List Int=>r.length=x.1.length∧r.Perm x.1):=by
 refine ucj_ (R:=fun r:List Int=>r.length=x.1.length∧r.Perm x.1) (fun y:(List Int)×Int×Int×Int×Int=>0≤y.2.1∧0≤y.2.2.1∧y.2.1+y.2.2.2.1≤y.1.length∧y.2.2.1+y.2.2.2.1≤y.1.length∧0≤y.2.2.2.2∧y.1.length≤1048576∧y.1.length=x.1.length∧y.1.Perm x.1)
  (fun y=>(y.2.2.2.1-y.2.2.2.2).toNat) ?_ _ _ ⟨h.1,h.2.1,h.2.2.1,h.2.2.2.1,h.2.2.2.2.1,h.2.2.2.2.2,rfl,List.Perm.refl _⟩ (by obtain ⟨_,_,_,_,_,_⟩:=h; unfold fuel; omega)
 rintro next ⟨data_0,a_1,b_2,n_3,i_10⟩ h hn
 dsimp only at h hn
 obtain ⟨h1,h2,h3,h4,h5,h6,h7,h8⟩:=h
 unfold ugh_
 dsimp only
 refine u8_.2 ⟨fun hc=>?_,fun _=>ui_.2 ⟨h7,h8⟩⟩
 have hc:=of_decide_eq_true hc
 have hw1:IntKind.i64.wrap (a_1+i_10)=a_1+i_10:=ubv_ (by omega) (by omega)
 have hw2:IntKind.i64.wrap (b_2+i_10)=b_2+i_10:=ubv_ (by omega) (by omega)
 have hw3:IntKind.i64.wrap (i_10+1)=i_10+1:=ubv_ (by omega) (by omega)
 rw [hw1,hw2,hw3]
 refine ud_.2 (uf0_.2 ⟨⟨by omega,by omega⟩,?_⟩)
 refine ud_.2 (uf0_.2 ⟨⟨by omega,by omega⟩,?_⟩)
 refine ud_.2 (uf0_.2 ⟨⟨by omega,by omega⟩,?_⟩)
 refine ud_.2 (uf0_.2 ⟨⟨by omega,by rw [List.length_set]; omega⟩,?_⟩)
 refine hn _ ⟨h1,h2,by simp only [List.length_set]; omega,by simp only [List.length_set]; omega,by dsimp only; omega,by simp only [List.length_set]; omega,by simp only [List.length_set]; omega,(ub4r_ (by omega) (by omega)).trans h8⟩ (by dsimp only; omega)
theorem ufz_ (x:(List Int)×Int×Int×Int×YY22) (h:0≤x.2.1∧0≤x.2.2.1∧x.2.1+x.2.2.2.1≤x.1.length∧x.2.2.1+x.2.2.2.1≤x.1.length∧x.1.length≤1048576) :
 Tot (u9_ x) (fun r:List Int=>r.length=x.1.length∧r.Perm x.1):=by
 obtain ⟨data_0,a_1,b_2,n_3,cmp_4⟩:=x
 obtain ⟨h1,h2,h3,h4,h5⟩:=h
 unfold u9_
 dsimp only
 exact ud_.2 ((uvs_ _ ⟨h1,h2,h3,h4,Int.le_refl _,h5⟩).mono fun r hr=>ui_.2 hr)
theorem u0v_ (x:(List Int)×Int×YY22×Int×Int) (h:0<x.2.2.2.1∧0<x.2.2.2.2∧x.2.2.2.1≤x.2.1∧x.2.1+x.2.2.2.2≤x.1.length∧x.1.length≤1048576) :
 Tot (uh2_ x) (fun r:(List Int)×Int=>r.1.length=x.1.length∧r.1.Perm x.1∧0<r.2∧r.2≤x.2.1∧x.2.1+r.2≤x.1.length):=by
 refine ucj_ (R:=fun r:(List Int)×Int=>r.1.length=x.1.length∧r.1.Perm x.1∧0<r.2∧r.2≤x.2.1∧x.2.1+r.2≤x.1.length) (fun y:(List Int)×Int×YY22×Int×Int=>0<y.2.2.2.1∧0<y.2.2.2.2∧y.2.2.2.1≤y.2.1∧y.2.1+y.2.2.2.2≤y.1.length∧y.1.length≤1048576∧y.1.length=x.1.length∧y.1.Perm x.1∧y.2.1=x.2.1)
  (fun y=>(y.2.2.2.1+y.2.2.2.2).toNat) ?_ _ _ ⟨h.1,h.2.1,h.2.2.1,h.2.2.2.1,h.2.2.2.2,rfl,(List.Perm.refl _),rfl⟩ (by obtain ⟨_,_,_,_,_⟩:=h; unfold fuel; omega)
 rintro next ⟨data_0,m_2,cmp_4,i_10,j_11⟩ h hn
 dsimp only at h hn
 obtain ⟨h1,h2,h3,h4,h5,h6,h7,h8⟩:=h
 unfold uh1_
 dsimp only
 refine u8_.2 ⟨fun hc=>?_,fun hc=>ui_.2 ⟨h6,h7,h1,by dsimp only; omega,?_⟩⟩
 · have hc:i_10≠j_11:=by rw [u0u_] at hc; simpa using hc
   have hw1:IntKind.i64.wrap (m_2-i_10)=m_2-i_10:=ubv_ (by omega) (by omega)
   have hw2:IntKind.i64.wrap (m_2+j_11)=m_2+j_11:=ubv_ (by omega) (by omega)
   have hw3:IntKind.i64.wrap (m_2+j_11-i_10)=m_2+j_11-i_10:=ubv_ (by omega) (by omega)
   have hw4:IntKind.i64.wrap (i_10-j_11)=i_10-j_11:=ubv_ (by omega) (by omega)
   have hw5:IntKind.i64.wrap (j_11-i_10)=j_11-i_10:=ubv_ (by omega) (by omega)
   rw [hw1,hw2,hw3,hw4,hw5]
   refine u8_.2 ⟨fun hd=>?_,fun hd=>?_⟩
   · have hd:=of_decide_eq_true hd
     refine ud_.2 ((ufz_ _ ⟨by dsimp only; omega,by dsimp only; omega,by dsimp only; omega,by dsimp only; omega,h5⟩).mono fun r hr=>?_)
     dsimp only at hr
     exact hn _ ⟨by dsimp only; omega,h2,by dsimp only; omega,by dsimp only; omega,by dsimp only; omega,by dsimp only; omega,hr.2.trans h7,h8⟩ (by dsimp only; omega)
   · have hd:=of_decide_eq_false hd
     refine ud_.2 ((ufz_ _ ⟨by dsimp only; omega,by dsimp only; omega,by dsimp only; omega,by dsimp only; omega,h5⟩).mono fun r hr=>?_)
     dsimp only at hr
     exact hn _ ⟨h1,by dsimp only; omega,h3,by dsimp only; omega,by dsimp only; omega,by dsimp only; omega,hr.2.trans h7,h8⟩ (by dsimp only; omega)
 · have hc:i_10=j_11:=by rw [u0u_] at hc; simpa using hc
   omega
theorem u6t_ (x:(List Int)×Int×Int×Int×YY22) (h:0≤x.2.1∧x.2.1<x.2.2.1∧x.2.2.1<x.2.2.2.1∧x.2.2.2.1≤x.1.length∧x.1.length≤1048576) :
 Tot (uc5_ x) (fun r:List Int=>r.length=x.1.length∧r.Perm x.1):=by
 obtain ⟨data_0,a_1,m_2,b_3,cmp_4⟩:=x
 dsimp only at h
 obtain ⟨h1,h2,h3,h4,h5⟩:=h
 unfold uc5_
 dsimp only
 rw [ubv_ (n:=m_2-a_1) (by omega) (by omega),ubv_ (n:=b_3-m_2) (by omega) (by omega)]
 refine ud_.2 ((u0v_ _ ⟨by dsimp only; omega,by dsimp only; omega,by dsimp only; omega,by dsimp only; omega,h5⟩).mono fun r hr=>?_)
 dsimp only at hr
 obtain ⟨e1,e2,e3,e4,e5⟩:=hr
 rw [ubv_ (n:=m_2-r.2) (by omega) (by omega)]
 refine ud_.2 ((ufz_ _ ⟨by dsimp only; omega,by dsimp only; omega,by dsimp only; omega,by dsimp only; omega,by dsimp only; omega⟩).mono fun r4 hr=>ui_.2 ?_)
 dsimp only at hr
 exact ⟨by omega,hr.2.trans e2⟩
theorem uv5_ (slf:(List Int)×Int×Int×Int×YY22→Option (List Int)) (x:(List Int)×Int×YY22×Int×Int) (h:CT x.2.2.1 x.1∧0≤x.2.1∧x.2.1<x.1.length∧0≤x.2.2.2.1∧x.2.2.2.1≤x.2.2.2.2∧x.2.2.2.2≤x.1.length∧x.1.length≤1048576) :
 Tot (ud5_ slf x) (fun r:(List Int)×Int=>r.1=x.1∧x.2.2.2.1≤r.2∧r.2≤x.2.2.2.2):=by
 refine ucj_ (R:=fun r:(List Int)×Int=>r.1=x.1∧x.2.2.2.1≤r.2∧r.2≤x.2.2.2.2) (fun y:(List Int)×Int×YY22×Int×Int=>CT y.2.2.1 x.1∧0≤y.2.1∧y.2.1<y.1.length∧0≤y.2.2.2.1∧y.2.2.2.1≤y.2.2.2.2∧y.2.2.2.2≤y.1.length∧y.1.length≤1048576∧y.1=x.1∧x.2.2.2.1≤y.2.2.2.1∧y.2.2.2.2≤x.2.2.2.2)
  (fun y=>(y.2.2.2.2-y.2.2.2.1).toNat) ?_ _ _ ⟨h.1,h.2.1,h.2.2.1,h.2.2.2.1,h.2.2.2.2.1,h.2.2.2.2.2.1,h.2.2.2.2.2.2,rfl,Int.le_refl _,Int.le_refl _⟩ (by obtain ⟨_,_,_,_,_,_,_⟩:=h; unfold fuel; omega)
 rintro next ⟨data_0,a_1,cmp_4,i_10,j_11⟩ h hn
 dsimp only at h hn
 obtain ⟨h0,h1,h2,h3,h4,h5,h6,h7,h8,h9⟩:=h
 unfold ugr_
 dsimp only
 refine u8_.2 ⟨fun hc=>?_,fun hc=>ui_.2 ⟨h7,h8,by dsimp only; omega⟩⟩
 have hc:=of_decide_eq_true hc
 refine ud_.2 (ubou_ (by omega) (by omega) (by omega) (by omega) ?_)
 have hw1:IntKind.i64.wrap ((i_10+j_11) / 2)=(i_10+j_11) / 2:=ubv_ (by omega) (by omega)
 have hw2:IntKind.i64.wrap ((i_10+j_11) / 2+1)=(i_10+j_11) / 2+1:=ubv_ (by omega) (by omega)
 rw [hw1,hw2]
 refine ud_.2 (uf0_.2 ⟨⟨by omega,by omega⟩,?_⟩)
 refine ud_.2 (uf0_.2 ⟨⟨by omega,by omega⟩,?_⟩)
 refine ud_.2 ((h0 _ _ (h7▸uyt_ (by omega)) (h7▸uyt_ (by omega))).mono fun r4 _=>?_)
 refine u8_.2 ⟨fun _=>?_,fun _=>?_⟩
 · exact hn _ ⟨h0,h1,h2,by dsimp only; omega,by dsimp only; omega,h5,h6,h7,by dsimp only; omega,h9⟩ (by dsimp only; omega)
 · exact hn _ ⟨h0,h1,h2,h3,by dsimp only; omega,by dsimp only; omega,h6,h7,h8,by dsimp only; omega⟩ (by dsimp only; omega)
theorem uv6_ (slf:(List Int)×Int×Int×Int×YY22→Option (List Int)) (x:(List Int)×Int×Int) (h:0≤x.2.1∧x.2.1≤x.1.length∧0≤x.2.2∧x.1.length≤1048576) :
 Tot (ud6_ slf x) (fun r:List Int=>r.length=x.1.length∧r.Perm x.1):=by
 refine ucj_ (R:=fun r:List Int=>r.length=x.1.length∧r.Perm x.1) (fun y:(List Int)×Int×Int=>0≤y.2.1∧y.2.1≤y.1.length∧0≤y.2.2∧y.1.length≤1048576∧y.1.length=x.1.length∧y.1.Perm x.1)
  (fun y=>(y.2.1-y.2.2).toNat) ?_ _ _ ⟨h.1,h.2.1,h.2.2.1,h.2.2.2,rfl,List.Perm.refl _⟩ (by obtain ⟨_,_,_,_⟩:=h; unfold fuel; omega)
 rintro next ⟨data_0,i_10,k_13⟩ h hn
 dsimp only at h hn
 obtain ⟨h1,h2,h3,h4,h5,h6⟩:=h
 unfold ugs_
 dsimp only
 rw [ubv_ (n:=i_10-1) (by omega) (by omega)]
 refine u8_.2 ⟨fun hc=>?_,fun hc=>ui_.2 ⟨h5,h6⟩⟩
 have hc:=of_decide_eq_true hc
 have hw:IntKind.i64.wrap (k_13+1)=k_13+1:=ubv_ (by omega) (by omega)
 rw [hw]
 refine ud_.2 (uf0_.2 ⟨⟨by omega,by omega⟩,?_⟩)
 refine ud_.2 (uf0_.2 ⟨⟨by omega,by omega⟩,?_⟩)
 refine ud_.2 (uf0_.2 ⟨⟨by omega,by omega⟩,?_⟩)
 refine ud_.2 (uf0_.2 ⟨⟨by omega,by rw [List.length_set]; omega⟩,?_⟩)
 refine hn _ ⟨h1,by simp only [List.length_set]; omega,by dsimp only; omega,by simp only [List.length_set]; omega,by simp only [List.length_set]; omega,(ub4r_ (by omega) (by omega)).trans h6⟩ (by dsimp only; omega)
theorem uvt_ (slf:(List Int)×Int×Int×Int×YY22→Option (List Int)) (x:(List Int)×Int×Int) (h:0≤x.2.1∧x.2.2<x.1.length∧x.1.length≤1048576) :
 Tot (udi_ slf x) (fun r:List Int=>r.length=x.1.length∧r.Perm x.1):=by
 refine ucj_ (R:=fun r:List Int=>r.length=x.1.length∧r.Perm x.1) (fun y:(List Int)×Int×Int=>0≤y.2.1∧y.2.2<y.1.length∧y.1.length≤1048576∧y.1.length=x.1.length∧y.1.Perm x.1)
  (fun y=>(y.2.2-y.2.1).toNat) ?_ _ _ ⟨h.1,h.2.1,h.2.2,rfl,List.Perm.refl _⟩ (by obtain ⟨_,_,_⟩:=h; unfold fuel; omega)
 rintro next ⟨data_0,i_14,k_17⟩ h hn
 dsimp only at h hn
 obtain ⟨h1,h2,h4,h5,h6⟩:=h
 unfold ugj_
 dsimp only
 refine u8_.2 ⟨fun hc=>?_,fun hc=>ui_.2 ⟨h5,h6⟩⟩
 have hc:=of_decide_eq_true hc
 have hw:IntKind.i64.wrap (k_17-1)=k_17-1:=ubv_ (by omega) (by omega)
 rw [hw]
 refine ud_.2 (uf0_.2 ⟨⟨by omega,by omega⟩,?_⟩)
 refine ud_.2 (uf0_.2 ⟨⟨by omega,by omega⟩,?_⟩)
 refine ud_.2 (uf0_.2 ⟨⟨by omega,by omega⟩,?_⟩)
 refine ud_.2 (uf0_.2 ⟨⟨by omega,by rw [List.length_set]; omega⟩,?_⟩)
 refine hn _ ⟨h1,by simp only [List.length_set]; omega,by simp only [List.length_set]; omega,by simp only [List.length_set]; omega,(ub4r_ (by omega) (by omega)).trans h6⟩ (by dsimp only; omega)
theorem uv7_ (slf:(List Int)×Int×Int×Int×YY22→Option (List Int)) (x:(List Int)×Int×YY22×Int×Int) (h:CT x.2.2.1 x.1∧0≤x.2.1∧x.2.1<x.1.length∧0≤x.2.2.2.1∧x.2.2.2.1≤x.2.2.2.2∧x.2.2.2.2≤x.1.length∧x.1.length≤1048576) :
 Tot (ud7_ slf x) (fun r:(List Int)×Int=>r.1=x.1∧x.2.2.2.1≤r.2∧r.2≤x.2.2.2.2):=by
 refine ucj_ (R:=fun r:(List Int)×Int=>r.1=x.1∧x.2.2.2.1≤r.2∧r.2≤x.2.2.2.2) (fun y:(List Int)×Int×YY22×Int×Int=>CT y.2.2.1 x.1∧0≤y.2.1∧y.2.1<y.1.length∧0≤y.2.2.2.1∧y.2.2.2.1≤y.2.2.2.2∧y.2.2.2.2≤y.1.length∧y.1.length≤1048576∧y.1=x.1∧x.2.2.2.1≤y.2.2.2.1∧y.2.2.2.2≤x.2.2.2.2)
  (fun y=>(y.2.2.2.2-y.2.2.2.1).toNat) ?_ _ _ ⟨h.1,h.2.1,h.2.2.1,h.2.2.2.1,h.2.2.2.2.1,h.2.2.2.2.2.1,h.2.2.2.2.2.2,rfl,Int.le_refl _,Int.le_refl _⟩ (by obtain ⟨_,_,_,_,_,_,_⟩:=h; unfold fuel; omega)
 rintro next ⟨data_0,m_2,cmp_4,i_14,j_15⟩ h hn
 dsimp only at h hn
 obtain ⟨h0,h1,h2,h3,h4,h5,h6,h7,h8,h9⟩:=h
 unfold ugt_
 dsimp only
 refine u8_.2 ⟨fun hc=>?_,fun hc=>ui_.2 ⟨h7,h8,by dsimp only; omega⟩⟩
 have hc:=of_decide_eq_true hc
 refine ud_.2 (ubou_ (by omega) (by omega) (by omega) (by omega) ?_)
 have hw1:IntKind.i64.wrap ((i_14+j_15) / 2)=(i_14+j_15) / 2:=ubv_ (by omega) (by omega)
 have hw2:IntKind.i64.wrap ((i_14+j_15) / 2+1)=(i_14+j_15) / 2+1:=ubv_ (by omega) (by omega)
 rw [hw1,hw2]
 refine ud_.2 (uf0_.2 ⟨⟨by omega,by omega⟩,?_⟩)
 refine ud_.2 (uf0_.2 ⟨⟨by omega,by omega⟩,?_⟩)
 refine ud_.2 ((h0 _ _ (h7▸uyt_ (by omega)) (h7▸uyt_ (by omega))).mono fun r13 _=>?_)
 refine u8_.2 ⟨fun _=>?_,fun _=>?_⟩
 · exact hn _ ⟨h0,h1,h2,by dsimp only; omega,by dsimp only; omega,h5,h6,h7,by dsimp only; omega,h9⟩ (by dsimp only; omega)
 · exact hn _ ⟨h0,h1,h2,h3,by dsimp only; omega,by dsimp only; omega,h6,h7,h8,by dsimp only; omega⟩ (by dsimp only; omega)
theorem uvu_ (slf:(List Int)×Int×Int×Int×YY22→Option (List Int)) (x:(List Int)×YY22×Int×Int×Int) (h:CT x.2.1 x.1∧0≤x.2.2.1∧x.2.2.1≤x.2.2.2.1∧x.2.2.2.1≤x.1.length∧x.2.2.2.1-1≤x.2.2.2.2∧x.2.2.2.2-x.2.2.1<x.1.length∧x.1.length≤1048576) :
 Tot (udj_ slf x) (fun r:(List Int)×Int=>r.1=x.1∧x.2.2.1≤r.2∧r.2≤x.2.2.2.1):=by
 refine ucj_ (R:=fun r:(List Int)×Int=>r.1=x.1∧x.2.2.1≤r.2∧r.2≤x.2.2.2.1) (fun y:(List Int)×YY22×Int×Int×Int=>CT y.2.1 x.1∧0≤y.2.2.1∧y.2.2.1≤y.2.2.2.1∧y.2.2.2.1≤y.1.length∧y.2.2.2.1-1≤y.2.2.2.2∧y.2.2.2.2-y.2.2.1<y.1.length∧y.1.length≤1048576∧y.1=x.1∧x.2.2.1≤y.2.2.1∧y.2.2.2.1≤x.2.2.2.1)
  (fun y=>(y.2.2.2.1-y.2.2.1).toNat) ?_ _ _ ⟨h.1,h.2.1,h.2.2.1,h.2.2.2.1,h.2.2.2.2.1,h.2.2.2.2.2.1,h.2.2.2.2.2.2,rfl,Int.le_refl _,Int.le_refl _⟩ (by obtain ⟨_,_,_,_,_,_,_⟩:=h; unfold fuel; omega)
 rintro next ⟨data_0,cmp_4,start_20,r_21,p_22⟩ h hn
 dsimp only at h hn
 obtain ⟨h0,h1,h2,h3,h4,h5,h6,h7,h8,h9⟩:=h
 unfold ugk_
 dsimp only
 refine u8_.2 ⟨fun hc=>?_,fun hc=>ui_.2 ⟨h7,h8,by dsimp only; omega⟩⟩
 have hc:=of_decide_eq_true hc
 refine ud_.2 (ubou_ (by omega) (by omega) (by omega) (by omega) ?_)
 have hw1:IntKind.i64.wrap ((start_20+r_21) / 2)=(start_20+r_21) / 2:=ubv_ (by omega) (by omega)
 have hw2:IntKind.i64.wrap ((start_20+r_21) / 2+1)=(start_20+r_21) / 2+1:=ubv_ (by omega) (by omega)
 have hw3:IntKind.i64.wrap (p_22-(start_20+r_21) / 2)=p_22-(start_20+r_21) / 2:=ubv_ (by omega) (by omega)
 rw [hw1,hw2,hw3]
 refine ud_.2 (uf0_.2 ⟨⟨by omega,by omega⟩,?_⟩)
 refine ud_.2 (uf0_.2 ⟨⟨by omega,by omega⟩,?_⟩)
 refine ud_.2 ((h0 _ _ (h7▸uyt_ (by omega)) (h7▸uyt_ (by omega))).mono fun r4 _=>?_)
 refine u8_.2 ⟨fun _=>?_,fun _=>?_⟩
 · exact hn _ ⟨h0,by dsimp only; omega,by dsimp only; omega,h3,h4,by dsimp only; omega,h6,h7,by dsimp only; omega,h9⟩ (by dsimp only; omega)
 · exact hn _ ⟨h0,h1,by dsimp only; omega,by dsimp only; omega,by dsimp only; omega,h5,h6,h7,h8,by dsimp only; omega⟩ (by dsimp only; omega)
theorem uvv_ (slf:(List Int)×Int×Int×Int×YY22→Option (List Int)) (x:(List Int)×Int×YY22×Int×Int×Bool) (h:x.1.length≤1048576∧(x.2.2.2.2.2=true→0≤x.2.2.2.1∧x.2.2.2.1<x.2.1∧x.2.1<x.2.2.2.2.1∧x.2.2.2.2.1≤x.1.length)) :
 Tot (ubj_ slf x) (fun r:List Int=>r.length=x.1.length∧r.Perm x.1):=by
 obtain ⟨data_0,m_2,cmp_4,start_20,end_24,t185⟩:=x
 dsimp only at h
 unfold ubj_
 dsimp only
 refine u8_.2 ⟨fun hc=>?_,fun _=>ui_.2 ⟨rfl,List.Perm.refl _⟩⟩
 obtain ⟨h1,h2,h3,h4⟩:=h.2 hc
 exact ud_.2 ((u6t_ _ ⟨h1,h2,h3,h4,h.1⟩).mono fun r hr=>ui_.2 hr)
theorem utk_ (slf:(List Int)×Int×Int×Int×YY22→Option (List Int)) (K:Int) (ih:∀ y:(List Int)×Int×Int×Int×YY22,(CT y.2.2.2.2 y.1∧0≤y.2.1∧y.2.1<y.2.2.1∧y.2.2.1<y.2.2.2.1∧y.2.2.2.1≤y.1.length∧y.1.length≤1048576)→y.2.2.2.1-y.2.1≤K→Tot (slf y) (fun r:List Int=>r.length=y.1.length∧r.Perm y.1)) (x:(List Int)×Int×Int×Int×YY22) (h:CT x.2.2.2.2 x.1∧0≤x.2.1∧x.2.1<x.2.2.1∧x.2.2.1<x.2.2.2.1∧x.2.2.2.1≤x.1.length∧x.1.length≤1048576) (hK:x.2.2.2.1-x.2.1≤2*K) :
 Tot (ub1_ slf x) (fun r:List Int=>r.length=x.1.length∧r.Perm x.1):=by
 obtain ⟨data_0,a_1,m_2,b_3,cmp_4⟩:=x
 dsimp only at h hK
 obtain ⟨h0,h1,h2,h3,h4,h5⟩:=h
 unfold ub1_
 dsimp only
 rw [ubv_ (n:=m_2-a_1) (by omega) (by omega),ubv_ (n:=b_3-m_2) (by omega) (by omega)]
 refine u8_.2 ⟨fun _=>?_,fun _=>u8_.2 ⟨fun _=>?_,fun _=>?_⟩⟩
 · refine ud_.2 ((uv5_ slf _ ⟨h0,h1,by dsimp only; omega,by dsimp only; omega,by dsimp only; omega,h4,h5⟩).mono fun r5 hr=>?_)
   dsimp only at hr
   obtain ⟨e1,e2,e3⟩:=hr
   refine ud_.2 ((uv6_ slf _ ⟨by dsimp only; omega,by dsimp only; rw [e1]; omega,h1,by dsimp only; rw [e1]; exact h5⟩).mono fun r9 hr=>ui_.2 ?_)
   dsimp only at hr
   rw [e1] at hr; exact hr
 · refine ud_.2 ((uv7_ slf _ ⟨h0,by dsimp only; omega,by dsimp only; omega,h1,by dsimp only; omega,by dsimp only; omega,h5⟩).mono fun r5 hr=>?_)
   dsimp only at hr
   obtain ⟨e1,e2,e3⟩:=hr
   refine ud_.2 ((uvt_ slf _ ⟨by dsimp only; omega,by dsimp only; rw [e1]; omega,by dsimp only; rw [e1]; exact h5⟩).mono fun r9 hr=>ui_.2 ?_)
   dsimp only at hr
   rw [e1] at hr; exact hr
 · refine ud_.2 (ubou_ (by omega) (by omega) (by omega) (by omega) ?_)
   generalize hmid:(a_1+b_3) / 2=mid
   rw [ubv_ (n:=mid) (by omega) (by omega),ubv_ (n:=mid+m_2) (by omega) (by omega),ubv_ (n:=mid+m_2-1) (by omega) (by omega)]
   have hp:Tot (ubi_ slf (a_1,m_2,b_3,mid,mid+m_2,decide (mid<m_2))) fun r:Int×Int=>0≤r.1∧a_1≤r.1∧mid+m_2-b_3≤r.1∧r.1≤r.2∧r.2≤m_2∧r.2≤mid+m_2∧mid+m_2-1-r.1<data_0.length:=by
    unfold ubi_
    dsimp only
    refine u8_.2 ⟨fun hc=>ui_.2 ?_,fun hc=>ui_.2 ?_⟩
    · have hc:=of_decide_eq_true hc
      rw [ubv_ (by omega) (by omega)]
      dsimp only; omega
    · have hc:=of_decide_eq_false hc
      dsimp only; omega
   refine ud_.2 (hp.mono fun r20 hr=>?_)
   obtain ⟨f1,f2,f3,f4,f5,f6,f7⟩:=hr
   refine ud_.2 ((uvu_ slf _ ⟨h0,f1,f4,by dsimp only; omega,by dsimp only; omega,f7,h5⟩).mono fun r26 hr=>?_)
   dsimp only at hr
   obtain ⟨e1,e2,e3⟩:=hr
   rw [ubv_ (n:=mid+m_2-r26.2) (by omega) (by omega)]
   refine ud_.2 ((uvv_ slf _ ⟨by dsimp only; rw [e1]; exact h5,fun hc=>?_⟩).mono fun r29 hr=>?_)
   · dsimp only at hc ⊢
     rw [Bool.and_eq_true,decide_eq_true_eq,decide_eq_true_eq] at hc
     rw [e1]
     omega
   dsimp only at hr
   rw [e1] at hr
   obtain ⟨g1,g2⟩:=hr
   have hq:Tot (ubk_ slf (r29,a_1,cmp_4,mid,r26.2,decide (a_1<r26.2)&&decide (r26.2<mid))) fun r:List Int=>r.length=data_0.length∧r.Perm data_0:=by
    unfold ubk_
    dsimp only
    refine u8_.2 ⟨fun hc=>?_,fun _=>ui_.2 ⟨g1,g2⟩⟩
    rw [Bool.and_eq_true,decide_eq_true_eq,decide_eq_true_eq] at hc
    refine ud_.2 ((ih _ ⟨h0.perm g2,h1,by dsimp only; omega,by dsimp only; omega,by dsimp only; omega,by dsimp only; omega⟩ (by dsimp only; omega)).mono fun r31 hr=>ui_.2 ?_)
    dsimp only at hr
    exact ⟨by omega,hr.2.trans g2⟩
   refine ud_.2 (hq.mono fun r32 hr=>?_)
   obtain ⟨k1,k2⟩:=hr
   refine u8_.2 ⟨fun hc=>?_,fun _=>ui_.2 ⟨k1,k2⟩⟩
   rw [Bool.and_eq_true,decide_eq_true_eq,decide_eq_true_eq] at hc
   refine ud_.2 ((ih _ ⟨h0.perm k2,by dsimp only; omega,by dsimp only; omega,by dsimp only; omega,by dsimp only; omega,by dsimp only; omega⟩ (by dsimp only; omega)).mono fun r34 hr=>ui_.2 ?_)
   dsimp only at hr
   exact ⟨by omega,hr.2.trans k2⟩
theorem uyu_:∀ (n:Nat) (x:(List Int)×Int×Int×Int×YY22) (h:CT x.2.2.2.2 x.1∧0≤x.2.1∧x.2.1<x.2.2.1∧x.2.2.1<x.2.2.2.1∧x.2.2.2.1≤x.1.length∧x.1.length≤1048576) (hK:x.2.2.2.1-x.2.1≤2 ^ n),Tot (un_ n x) (fun r:List Int=>r.length=x.1.length∧r.Perm x.1):=by
 intro n
 induction n with
 | zero =>
   intro x h hK
   obtain ⟨_,h1,h2,h3,_,_⟩:=h
   rw [Int.pow_zero] at hK
   omega
 | succ n ih =>
   intro x h hK
   refine utk_ (un_ n) (2 ^ n) (fun y hy hk=>ih y hy hk) x h ?_
   rw [Int.pow_succ] at hK
   omega
theorem uma_ (x:(List Int)×Int×Int×Int×YY22) (h:CT x.2.2.2.2 x.1∧0≤x.2.1∧x.2.1<x.2.2.1∧x.2.2.1<x.2.2.2.1∧x.2.2.2.1≤x.1.length∧x.1.length≤1048576):Tot (ubc_ x) (fun r:List Int=>r.length=x.1.length∧r.Perm x.1):=by
 unfold ubc_
 refine uyu_ 100 x h ?_
 obtain ⟨_,h1,h2,h3,h4,h5⟩:=h
 have:(1048576:Int)≤2 ^ 100:=by decide
 omega
end Go.Ev.Pv
namespace Go.Ev.Pv
theorem u0w_ (x:(List Int)×Int×YY15×Int×Int×Int) (h:CT x.2.2.1 x.1∧x.2.2.2.1=20∧0≤x.2.2.2.2.1∧x.2.2.2.2.2=x.2.2.2.2.1+20∧x.2.1=x.1.length∧x.2.1≤1048576∧x.2.2.2.2.1≤x.2.1):Tot (uex_ x) (fun r:(List Int)×Int=>r.1.length=x.1.length∧r.1.Perm x.1∧0≤r.2∧r.2≤x.2.1):=by
 refine ucj_ (R:=fun r:(List Int)×Int=>r.1.length=x.1.length∧r.1.Perm x.1∧0≤r.2∧r.2≤x.2.1) (fun y:(List Int)×Int×YY15×Int×Int×Int=>(CT y.2.2.1 x.1∧y.2.2.2.1=20∧0≤y.2.2.2.2.1∧y.2.2.2.2.2=y.2.2.2.2.1+20∧y.2.1=y.1.length∧y.2.1≤1048576∧y.2.2.2.2.1≤y.2.1)∧y.2.1=x.2.1∧y.2.2.1=x.2.2.1∧y.2.2.2.1=x.2.2.2.1∧y.1.length=x.1.length∧y.1.Perm x.1) (fun y:(List Int)×Int×YY15×Int×Int×Int=>(y.2.1-y.2.2.2.2.1).toNat) ?_ _ _ (by grind) (by unfold fuel; grind)
 rintro next ⟨data_0,n_1,cmp_2,blockSize_6,a_7,b_8⟩ h hn
 try dsimp only at h hn
 unfold uh3_
 repeat' first
  | (with_reducible first | refine u8_.2 ⟨fun _=>?_,fun _=>?_⟩ | refine ud_.2 ?_ | refine ui_.2 ?_ | refine (uhz_ _ ?_).mono fun _ _=>?_ | refine hn _ ?_ ?_)
  | dsimp only
 all_goals grind [List.Perm.trans,List.Perm.refl,CT.perm,List.Perm.length_eq,ucfr_,uby6_,ubdv_,ubu7_,u0u_,ucnl_,ucnk_,u8le,uyt_,ubot_,ucfs_,ucft_,ucfu_,xlc,xln,xmt,xmd]
theorem u0x_ (x:(List Int)×Int×YY15×Int×Int×Int) (h:CT x.2.2.1 x.1∧0<x.2.2.2.1∧x.2.2.2.1<x.2.1∧0≤x.2.2.2.2.1∧x.2.2.2.2.2=x.2.2.2.2.1+2*x.2.2.2.1∧x.2.1=x.1.length∧x.2.1≤1048576∧x.2.2.2.2.1≤x.2.1):Tot (uey_ x) (fun r:(List Int)×Int=>r.1.length=x.1.length∧r.1.Perm x.1∧0≤r.2∧r.2≤x.2.1):=by
 refine ucj_ (R:=fun r:(List Int)×Int=>r.1.length=x.1.length∧r.1.Perm x.1∧0≤r.2∧r.2≤x.2.1) (fun y:(List Int)×Int×YY15×Int×Int×Int=>(CT y.2.2.1 x.1∧0<y.2.2.2.1∧y.2.2.2.1<y.2.1∧0≤y.2.2.2.2.1∧y.2.2.2.2.2=y.2.2.2.2.1+2*y.2.2.2.1∧y.2.1=y.1.length∧y.2.1≤1048576∧y.2.2.2.2.1≤y.2.1)∧y.2.1=x.2.1∧y.2.2.1=x.2.2.1∧y.2.2.2.1=x.2.2.2.1∧y.1.length=x.1.length∧y.1.Perm x.1) (fun y:(List Int)×Int×YY15×Int×Int×Int=>(y.2.1-y.2.2.2.2.1).toNat) ?_ _ _ (by grind) (by unfold fuel; grind)
 rintro next ⟨data_0,n_1,cmp_2,blockSize_6,a_7,b_8⟩ h hn
 try dsimp only at h hn
 unfold uh4_
 repeat' first
  | (with_reducible first | refine u8_.2 ⟨fun _=>?_,fun _=>?_⟩ | refine ud_.2 ?_ | refine ui_.2 ?_ | refine (uma_ _ ?_).mono fun _ _=>?_ | refine hn _ ?_ ?_)
  | dsimp only
 all_goals grind [List.Perm.trans,List.Perm.refl,CT.perm,List.Perm.length_eq,ucfr_,uby6_,ubdv_,ubu7_,u0u_,ucnl_,ucnk_,u8le,uyt_,ubot_,ucfs_,ucft_,ucfu_,xlc,xln,xmt,xmd]
theorem u0y_ (x:(List Int)×Int×YY15×Int) (h:CT x.2.2.1 x.1∧0<x.2.2.2∧x.2.2.2≤2097152∧x.2.1=x.1.length∧x.2.1≤1048576):Tot (uez_ x) (fun r:List Int=>r.length=x.1.length∧r.Perm x.1):=by
 refine ucj_ (R:=fun r:List Int=>r.length=x.1.length∧r.Perm x.1) (fun y:(List Int)×Int×YY15×Int=>(CT y.2.2.1 x.1∧0<y.2.2.2∧y.2.2.2≤2097152∧y.2.1=y.1.length∧y.2.1≤1048576)∧y.2.1=x.2.1∧y.2.2.1=x.2.2.1∧y.1.length=x.1.length∧y.1.Perm x.1) (fun y:(List Int)×Int×YY15×Int=>(2097153-y.2.2.2).toNat) ?_ _ _ (by grind) (by unfold fuel; grind)
 rintro next ⟨data_0,n_1,cmp_2,blockSize_6⟩ h hn
 try dsimp only at h hn
 unfold uh5_
 repeat' first
  | (with_reducible first | refine u8_.2 ⟨fun _=>?_,fun _=>?_⟩ | refine ud_.2 ?_ | refine ui_.2 ?_ | refine (u0x_ _ ?_).mono fun _ _=>?_ | refine (uma_ _ ?_).mono fun _ _=>?_ | refine hn _ ?_ ?_)
  | dsimp only
 all_goals grind [List.Perm.trans,List.Perm.refl,CT.perm,List.Perm.length_eq,ucfr_,uby6_,ubdv_,ubu7_,u0u_,ucnl_,ucnk_,u8le,uyt_,ubot_,ucfs_,ucft_,ucfu_,xlc,xln,xmt,xmd]
theorem u6u_ (x:(List Int)×Int×YY15) (h:CT x.2.2 x.1∧x.2.1=x.1.length∧x.2.1≤1048576):Tot (uek_ x) (fun r:List Int=>r.length=x.1.length∧r.Perm x.1):=by
 obtain ⟨data_0,n_1,cmp_2⟩:=x
 try dsimp only at h ⊢
 unfold uek_
 repeat' first
  | (with_reducible first | refine ud_.2 ?_ | refine ui_.2 ?_ | refine (u0w_ _ ?_).mono fun _ _=>?_ | refine (uhz_ _ ?_).mono fun _ _=>?_ | refine (u0y_ _ ?_).mono fun _ _=>?_)
  | dsimp only
 all_goals grind [List.Perm.trans,List.Perm.refl,CT.perm,List.Perm.length_eq,ucfr_,uby6_,ubdv_,ubu7_,u0u_,ucnl_,ucnk_,u8le,uyt_,ubot_,ucfs_,ucft_,ucfu_,xlc,xln,xmt,xmd]
theorem u3m_ (x:(List Int)×YY15) (h:CT x.2 x.1∧x.1.length≤1048576):Tot (u5_ x) (fun r:List Int=>r.length=x.1.length∧r.Perm x.1):=by
 obtain ⟨x_0,cmp_1⟩:=x
 try dsimp only at h ⊢
 unfold u5_
 repeat' first
  | (with_reducible first | refine ud_.2 ?_ | refine ui_.2 ?_ | refine (u6u_ _ ?_).mono fun _ _=>?_)
  | dsimp only
 all_goals grind [List.Perm.trans,List.Perm.refl,CT.perm,List.Perm.length_eq,ucfr_,uby6_,ubdv_,ubu7_,u0u_,ucnl_,ucnk_,u8le,uyt_,ubot_,ucfs_,ucft_,ucfu_,xlc,xln,xmt,xmd]
end Go.Ev.Pv
namespace Go.Ev.Pv
def gt (d:List Int) (k:Int):Int:=d.getD k.toNat 0
theorem ucfv_ {d:List Int} {i:Int} (x:Int) (h0:0≤i) (h1:i<d.length) (k:Int) (hk:0≤k):gt (d.set i.toNat x) k=if k=i then x else gt d k:=by
 unfold gt
 by_cases e:k=i
 · subst e
   rw [if_pos rfl]
   have:k.toNat<d.length:=by omega
   simp [List.getD,this]
 · rw [if_neg e]
   have:i.toNat≠k.toNat:=by omega
   simp [List.getD,List.getElem?_set_ne this]
def swapF (f:Int→Int) (a b n k:Int):Int:=if a≤k∧k<a+n then f (b+(k-a)) else if b≤k∧k<b+n then f (a+(k-b)) else f k
theorem ubga_ (d:List Int) (a b n:Int) (c:Int×Int→Option Int) (ha:0≤a) (hb:0≤b) (hn:0≤n) (hab:a+n≤b∨b+n≤a) (h1:a+n≤d.length) (h2:b+n≤d.length) (hd:d.length≤1048576) :
 Tot (u9_ (d,a,b,n,c)) (fun r=>r.length=d.length∧∀ k,0≤k→gt r k=swapF (gt d) a b n k):=by
 unfold u9_
 dsimp only
 refine ud_.2 (Tot.mono (P:=fun r:List Int=>r.length=d.length∧∀ k,0≤k→gt r k=swapF (gt d) a b n k) ?_ fun r hr=>ui_.2 hr)
 refine ucj_ (R:=fun r:List Int=>r.length=d.length∧∀ k,0≤k→gt r k=swapF (gt d) a b n k)
  (fun y:List Int×Int×Int×Int×Int=>y.2.1=a∧y.2.2.1=b∧y.2.2.2.1=n∧0≤y.2.2.2.2∧y.2.2.2.2≤n∧y.1.length=d.length∧∀ k,0≤k→gt y.1 k=swapF (gt d) a b y.2.2.2.2 k)
  (fun y=>(n-y.2.2.2.2).toNat) ?_ _ _ ⟨rfl,rfl,rfl,Int.le_refl _,hn,rfl,fun k hk=>by unfold swapF; dsimp only; rw [if_neg (by omega),if_neg (by omega)]⟩ (by unfold fuel; dsimp only; omega)
 rintro next ⟨e,a',b',n',i⟩ hI hn'
 dsimp only at hI hn'
 obtain ⟨rfl,rfl,rfl,i0,i1,hl,hg⟩:=hI
 unfold ugh_
 dsimp only
 refine u8_.2 ⟨fun hc=>?_,fun hc=>ui_.2 ⟨hl,?_⟩⟩
 · have hc:=of_decide_eq_true hc
   rw [ubv_ (n:=a'+i) (by omega) (by omega),ubv_ (n:=b'+i) (by omega) (by omega),ubv_ (n:=i+1) (by omega) (by omega)]
   refine ud_.2 (uf0_.2 ⟨⟨by omega,by omega⟩,?_⟩)
   refine ud_.2 (uf0_.2 ⟨⟨by omega,by omega⟩,?_⟩)
   refine ud_.2 (uf0_.2 ⟨⟨by omega,by omega⟩,?_⟩)
   refine ud_.2 (uf0_.2 ⟨⟨by omega,by rw [List.length_set]; omega⟩,?_⟩)
   refine hn' _ ⟨rfl,rfl,rfl,by dsimp only; omega,by dsimp only; omega,by dsimp only; rw [List.length_set,List.length_set]; exact hl,fun k hk=>?_⟩ (by dsimp only; omega)
   dsimp only
   rw [ucfv_ _ (by omega) (by rw [List.length_set]; omega) k hk,ucfv_ _ (by omega) (by omega) k hk]
   have ea:e.getD (a'+i).toNat 0=gt e (a'+i):=rfl
   have eb:e.getD (b'+i).toNat 0=gt e (b'+i):=rfl
   rw [ea,eb,hg _ (by omega),hg _ (by omega),hg k hk]
   unfold swapF
   repeat' split
   all_goals first | omega | rfl | (congr 1; omega)
 · have hc:=of_decide_eq_false hc
   rwa [show i=n' by omega] at hg
def rotF (f:Int→Int) (a m b k:Int):Int:=if a≤k∧k<b then (if k<a+(b-m) then f (k+(m-a)) else f (k-(b-m))) else f k
theorem ucsn_ (f:Int→Int) (m i j k:Int) (hj:0<j) (hi:j<i):rotF (swapF f (m-i) m j) (m-(i-j)) m (m+j) k=rotF f (m-i) m (m+j) k:=by
 unfold rotF swapF
 split <;> split <;> (try split) <;> (try split) <;> (try split) <;> (try split) <;> first | omega | (congr 1; omega) | rfl
theorem ucpu_ (f:Int→Int) (m i j k:Int) (hj:0<i) (hi:i<j):rotF (swapF f (m-i) (m+j-i) i) (m-i) m (m+(j-i)) k=rotF f (m-i) m (m+j) k:=by
 unfold rotF swapF
 split <;> split <;> (try split) <;> (try split) <;> (try split) <;> (try split) <;> first | omega | (congr 1; omega) | rfl
theorem ucvm_ (f:Int→Int) (m i k:Int):swapF f (m-i) m i k=rotF f (m-i) m (m+i) k:=by
 unfold rotF swapF
 split <;> (try split) <;> (try split) <;> (try split) <;> first | omega | (congr 1; omega) | rfl
theorem ucke_ (d:List Int) (a m b:Int) (c:Int×Int→Option Int) (ha:0≤a) (h1:a<m) (h2:m<b) (h3:b≤d.length) (hd:d.length≤1048576) :
 Tot (uc5_ (d,a,m,b,c)) (fun r=>r.length=d.length∧∀ k,0≤k→gt r k=rotF (gt d) a m b k):=by
 unfold uc5_
 dsimp only
 rw [ubv_ (n:=m-a) (by omega) (by omega),ubv_ (n:=b-m) (by omega) (by omega)]
 refine ud_.2 (Tot.mono (P:=fun r:List Int×Int=>r.1.length=d.length∧0<r.2∧r.2≤m-a∧r.2≤b-m∧∀ k,0≤k→rotF (gt r.1) (m-r.2) m (m+r.2) k=rotF (gt d) a m b k) ?_ fun r hr=>?_)
 · refine ucj_ (R:=fun r:List Int×Int=>r.1.length=d.length∧0<r.2∧r.2≤m-a∧r.2≤b-m∧∀ k,0≤k→rotF (gt r.1) (m-r.2) m (m+r.2) k=rotF (gt d) a m b k)
    (fun y:List Int×Int×YY22×Int×Int=>y.2.1=m∧y.1.length=d.length∧0<y.2.2.2.1∧0<y.2.2.2.2∧y.2.2.2.1≤m-a∧y.2.2.2.2≤b-m∧∀ k,0≤k→rotF (gt y.1) (m-y.2.2.2.1) m (m+y.2.2.2.2) k=rotF (gt d) a m b k)
    (fun y=>(y.2.2.2.1+y.2.2.2.2).toNat) ?_ _ _ ⟨rfl,rfl,by dsimp only; omega,by dsimp only; omega,Int.le_refl _,Int.le_refl _,fun k _=>by dsimp only; rw [show m-(m-a)=a by omega,show m+(b-m)=b by omega]⟩ (by unfold fuel; dsimp only; omega)
   rintro next ⟨e,m',c',i,j⟩ hI hn'
   dsimp only at hI hn'
   obtain ⟨rfl,hl,i0,j0,i1,j1,hg⟩:=hI
   unfold uh1_
   dsimp only
   rw [u0u_]
   refine u8_.2 ⟨fun hc=>?_,fun hc=>ui_.2 ?_⟩
   · have hc:¬ i=j:=by simpa using hc
     rw [ubv_ (n:=m'-i) (by omega) (by omega),ubv_ (n:=m'+j) (by omega) (by omega),ubv_ (n:=m'+j-i) (by omega) (by omega),ubv_ (n:=i-j) (by omega) (by omega),ubv_ (n:=j-i) (by omega) (by omega)]
     refine u8_.2 ⟨fun hd'=>?_,fun hd'=>?_⟩
     · have hd':=of_decide_eq_true hd'
       refine ud_.2 ((ubga_ e (m'-i) m' j c' (by omega) (by omega) (by omega) (by omega) (by omega) (by omega) (by omega)).mono fun r hr=>?_)
       refine hn' _ ⟨rfl,by dsimp only; omega,by dsimp only; omega,j0,by dsimp only; omega,j1,fun k hk=>?_⟩ (by dsimp only; omega)
       dsimp only
       rw [← hg k hk,← ucsn_ (gt e) m' i j k j0 hd']
       unfold rotF
       split
       · split
         · exact hr.2 _ (by omega)
         · exact hr.2 _ (by omega)
       · exact hr.2 _ hk
     · have hd':=of_decide_eq_false hd'
       refine ud_.2 ((ubga_ e (m'-i) (m'+j-i) i c' (by omega) (by omega) (by omega) (by omega) (by omega) (by omega) (by omega)).mono fun r hr=>?_)
       refine hn' _ ⟨rfl,by dsimp only; omega,i0,by dsimp only; omega,i1,by dsimp only; omega,fun k hk=>?_⟩ (by dsimp only; omega)
       dsimp only
       rw [← hg k hk,← ucpu_ (gt e) m' i j k i0 (by omega)]
       unfold rotF
       split
       · split
         · exact hr.2 _ (by omega)
         · exact hr.2 _ (by omega)
       · exact hr.2 _ hk
   · have hc:i=j:=by simpa using hc
     subst hc
     exact ⟨hl,i0,i1,j1,hg⟩
 · obtain ⟨e,i⟩:=r
   dsimp only at hr ⊢
   obtain ⟨hl,i0,i1,i2,hg⟩:=hr
   rw [ubv_ (n:=m-i) (by omega) (by omega)]
   refine ud_.2 ((ubga_ e (m-i) m i c (by omega) (by omega) (by omega) (by omega) (by omega) (by omega) (by omega)).mono fun r hr=>ui_.2 ⟨by omega,fun k hk=>?_⟩)
   rw [hr.2 k hk,ucvm_,hg k hk]
end Go.Ev.Pv
namespace Go.Ev.Pv
structure SLO (lt:Int→Int→Prop) (P:Int→Prop):Prop where
 irr:∀ x,P x→¬ lt x x
 tr:∀ x y z,P x→P y→P z→lt x y→lt y z→lt x z
 tot:∀ x y,P x→P y→x≠y→lt x y∨lt y x
def CMo (C:Int×Int→Option Int) (lt:Int→Int→Prop) (P:Int→Prop):Prop:=∀ x y,P x→P y→y<x→∃ c,C (x,y)=some c∧(c<0↔lt x y)
def Sgm (lt:Int→Int→Prop) (f:Int→Int) (a b:Int):Prop:=∀ i j,a≤i→i<j→j<b→lt (f i) (f j)
structure MPre (lt:Int→Int→Prop) (P:Int→Prop) (f:Int→Int) (a m b:Int):Prop where
 p:∀ k,a≤k→k<b→P (f k)
 l:Sgm lt f a m
 r:Sgm lt f m b
 x:∀ i j,a≤i→i<m→m≤j→j<b→f i<f j
structure MPost (lt:Int→Int→Prop) (d:List Int) (a b:Int) (r:List Int):Prop where
 len:r.length=d.length
 out:∀ k,0≤k→(k<a∨b≤k)→gt r k=gt d k
 sg:Sgm lt (gt r) a b
 inn:∀ k,a≤k→k<b→∃ j,a≤j∧j<b∧gt r k=gt d j
variable {lt:Int→Int→Prop} {P:Int→Prop} {C:Int×Int→Option Int}
theorem SLO.asym (h:SLO lt P) {x y:Int} (hx:P x) (hy:P y) (h1:lt x y):¬ lt y x:=fun h2=>h.irr x hx (h.tr x y x hx hy hx h1 h2)
theorem SLO.of_not (h:SLO lt P) {x y:Int} (hx:P x) (hy:P y) (hne:x≠y) (h1:¬ lt x y):lt y x:=(h.tot x y hx hy hne).resolve_left h1
theorem ucnm_ (f:Int→Int) (m e k:Int):rotF f m m e k=f k:=by
 unfold rotF
 repeat' split
 all_goals first | omega | rfl | (congr 1; omega)
theorem ucqz_ (f:Int→Int) (s m k:Int):rotF f s m m k=f k:=by
 unfold rotF
 repeat' split
 all_goals first | omega | rfl | (congr 1; omega)
theorem ucnn_ (f:Int→Int) {s m e k:Int} (h:k<s):rotF f s m e k=f k:=by
 unfold rotF; rw [if_neg (by omega)]
theorem ucpv_ (f:Int→Int) {s m e k:Int} (h1:s≤k) (h2:k<s+(e-m)) (h3:s≤m):rotF f s m e k=f (k+(m-s)):=by
 unfold rotF; rw [if_pos (by omega),if_pos (by omega)]
theorem ucug_ (f:Int→Int) {s m e k:Int} (h1:s+(e-m)≤k) (h2:k<e) (h3:m≤e):rotF f s m e k=f (k-(e-m)):=by
 unfold rotF; rw [if_pos (by omega),if_neg (by omega)]
theorem ucso_ (f:Int→Int) {s m e k:Int} (h:e≤k):rotF f s m e k=f k:=by
 unfold rotF; rw [if_neg (by omega)]
structure Parts (lt:Int→Int→Prop) (P:Int→Prop) (f g:Int→Int) (a s t e b:Int):Prop where
 lo:MPre lt P g a s t
 hi:MPre lt P g t e b
 x:∀ i j,a≤i→i<t→t≤j→j<b→lt (g i) (g j)
 out:∀ k,0≤k→(k<a∨b≤k)→g k=f k
 inn:∀ k,a≤k→k<b→∃ j,a≤j∧j<b∧g k=f j
theorem parts {f g:Int→Int} {a s m e b t:Int} (h:MPre lt P f a m b) (ha:0≤a) (hs0:a≤s) (hs1:s≤m) (he0:m≤e) (he1:e≤b) (ht:t=s+(e-m)) (hg:∀ k,0≤k→g k=rotF f s m e k)
 (h1:∀ i j,a≤i→i<s→e≤j→j<b→lt (f i) (f j)) (h2:∀ i j,s≤i→i<m→m≤j→j<e→lt (f j) (f i)):Parts lt P f g a s t e b:=by
 subst ht
 have A1:∀ k,a≤k→k<s→g k=f k:=fun k k1 k2=>by rw [hg k (by omega),ucnn_ f k2]
 have B1:∀ k,s≤k→k<s+(e-m)→g k=f (k+(m-s)):=fun k k1 k2=>by rw [hg k (by omega),ucpv_ f k1 k2 hs1]
 have A2:∀ k,s+(e-m)≤k→k<e→g k=f (k-(e-m)):=fun k k1 k2=>by rw [hg k (by omega),ucug_ f k1 k2 he0]
 have B2:∀ k,e≤k→k<b→g k=f k:=fun k k1 k2=>by rw [hg k (by omega),ucso_ f k1]
 refine ⟨⟨fun k k1 k2=>?_,fun i j i1 ij j1=>?_,fun i j i1 ij j1=>?_,fun i j i1 i2 j1 j2=>?_⟩,⟨fun k k1 k2=>?_,fun i j i1 ij j1=>?_,fun i j i1 ij j1=>?_,fun i j i1 i2 j1 j2=>?_⟩,fun i j i1 i2 j1 j2=>?_,fun k k0 kk=>?_,fun k k1 k2=>?_⟩
 · by_cases c:k<s
   · rw [A1 k k1 c]; exact h.p _ (by omega) (by omega)
   · rw [B1 k (by omega) k2]; exact h.p _ (by omega) (by omega)
 · rw [A1 i i1 (by omega),A1 j (by omega) j1]; exact h.l i j i1 ij (by omega)
 · rw [B1 i i1 (by omega),B1 j (by omega) j1]; exact h.r _ _ (by omega) (by omega) (by omega)
 · rw [A1 i i1 i2,B1 j j1 j2]; exact h.x _ _ i1 (by omega) (by omega) (by omega)
 · by_cases c:k<e
   · rw [A2 k k1 c]; exact h.p _ (by omega) (by omega)
   · rw [B2 k (by omega) k2]; exact h.p _ (by omega) (by omega)
 · rw [A2 i i1 (by omega),A2 j (by omega) j1]; exact h.l _ _ (by omega) (by omega) (by omega)
 · rw [B2 i i1 (by omega),B2 j (by omega) j1]; exact h.r _ _ (by omega) (by omega) (by omega)
 · rw [A2 i i1 i2,B2 j j1 j2]; exact h.x _ _ (by omega) (by omega) (by omega) (by omega)
 · by_cases c:i<s <;> by_cases c':j<e
   · rw [A1 i i1 c,A2 j j1 c']; exact h.l _ _ (by omega) (by omega) (by omega)
   · rw [A1 i i1 c,B2 j (by omega) j2]; exact h1 _ _ i1 c (by omega) j2
   · rw [B1 i (by omega) i2,A2 j j1 c']; exact h2 _ _ (by omega) (by omega) (by omega) (by omega)
   · rw [B1 i (by omega) i2,B2 j (by omega) j2]; exact h.r _ _ (by omega) (by omega) (by omega)
 · rw [hg k k0]
   rcases kk with kk | kk
   · rw [ucnn_ f (by omega)]
   · rw [ucso_ f (by omega)]
 · by_cases c1:k<s
   · exact ⟨k,by omega,by omega,A1 k k1 c1⟩
   · by_cases c2:k<s+(e-m)
     · exact ⟨k+(m-s),by omega,by omega,B1 k (by omega) c2⟩
     · by_cases c3:k<e
       · exact ⟨k-(e-m),by omega,by omega,A2 k (by omega) c3⟩
       · exact ⟨k,by omega,by omega,B2 k (by omega) k2⟩
theorem uca0_ {g:Int→Int} {a t b:Int} (h1:Sgm lt g a t) (h2:Sgm lt g t b) (h3:∀ i j,a≤i→i<t→t≤j→j<b→lt (g i) (g j)):Sgm lt g a b:=by
 intro i j i1 ij j1
 by_cases c:j<t
 · exact h1 i j i1 ij c
 · by_cases c':i<t
   · exact h3 i j i1 c' (by omega) j1
   · exact h2 i j (by omega) ij j1
theorem ucvn_ (slf:List Int×Int×Int×Int×YY22→Option (List Int)) (d:List Int) (a m b lo hi p:Int) (hO:SLO lt P) (hC:CMo C lt P) (h:MPre lt P (gt d) a m b) (ha:0≤a) (hb:b≤d.length) (hd:d.length≤1048576)
 (hmb:m≤b) (hlo:a≤lo) (hlh:lo≤hi) (hhi:hi≤m) (hp1:∀ c,lo≤c→c<hi→m≤p-c∧p-c<b) (hp:p≤2097152) (hp0:-1≤p) :
 Tot (udj_ slf (d,C,lo,hi,p)) (fun r=>r.1=d∧lo≤r.2∧r.2≤hi∧(∀ c,lo≤c→c<r.2→¬ lt (gt d (p-c)) (gt d c))∧∀ c,r.2≤c→c<hi→lt (gt d (p-c)) (gt d c)):=by
 refine ucj_ (R:=fun r:List Int×Int=>r.1=d∧lo≤r.2∧r.2≤hi∧(∀ c,lo≤c→c<r.2→¬ lt (gt d (p-c)) (gt d c))∧∀ c,r.2≤c→c<hi→lt (gt d (p-c)) (gt d c))
  (fun y:List Int×YY22×Int×Int×Int=>y.1=d∧y.2.1=C∧y.2.2.2.2=p∧lo≤y.2.2.1∧y.2.2.1≤y.2.2.2.1∧y.2.2.2.1≤hi∧(∀ c,lo≤c→c<y.2.2.1→¬ lt (gt d (p-c)) (gt d c))∧∀ c,y.2.2.2.1≤c→c<hi→lt (gt d (p-c)) (gt d c))
  (fun y=>(y.2.2.2.1-y.2.2.1).toNat) ?_ _ _ ⟨rfl,rfl,rfl,Int.le_refl _,hlh,Int.le_refl _,fun c c1 c2=>by dsimp only at c2; omega,fun c c1 c2=>by dsimp only at c1; omega⟩ (by unfold fuel; dsimp only; omega)
 rintro next ⟨d',C',st,r,p'⟩ hI hn
 dsimp only at hI hn
 obtain ⟨rfl,rfl,rfl,g0,g1,g2,g3,g4⟩:=hI
 unfold ugk_
 dsimp only
 refine u8_.2 ⟨fun hc=>?_,fun hc=>ui_.2 ?_⟩
 · have hc:=of_decide_eq_true hc
   refine ud_.2 (ubou_ (by omega) (by omega) (by omega) (by omega) ?_)
   generalize hmid:(st+r) / 2=c
   obtain ⟨q1,q2⟩:=hp1 c (by omega) (by omega)
   rw [ubv_ (n:=c) (by omega) (by omega),ubv_ (n:=c+1) (by omega) (by omega),ubv_ (n:=p'-c) (by omega) (by omega)]
   refine ud_.2 (uf0_.2 ⟨⟨by omega,by omega⟩,?_⟩)
   refine ud_.2 (uf0_.2 ⟨⟨by omega,by omega⟩,?_⟩)
   have hx:∀ k,a≤k→k<b→P (gt d' k):=h.p
   obtain ⟨v,hv,hlt⟩:=hC (gt d' (p'-c)) (gt d' c) (hx _ (by omega) q2) (hx _ (by omega) (by omega)) (h.x _ _ (by omega) (by omega) q1 q2)
   show Tot ((C' (gt d' (p'-c),gt d' c)).bind _) _
   rw [hv]
   refine ud_.2 (ui_.2 (u8_.2 ⟨fun hz=>?_,fun hz=>?_⟩))
   · have hz:¬ lt (gt d' (p'-c)) (gt d' c):=fun e=>by have:=hlt.2 e; simp [this] at hz
     have hz':=hO.of_not (hx _ (by omega) q2) (hx _ (by omega) (by omega)) (by have:=h.x c (p'-c) (by omega) (by omega) q1 q2; omega) hz
     refine hn _ ⟨rfl,rfl,rfl,by dsimp only; omega,by dsimp only; omega,g2,fun c' c1 c2=>?_,g4⟩ (by dsimp only; omega)
     dsimp only at c2
     by_cases e:c'=c
     · rw [e]; exact hz
     · obtain ⟨w1,w2⟩:=hp1 c' c1 (by omega)
       have e1:lt (gt d' c') (gt d' c):=h.l _ _ (by omega) (by omega) (by omega)
       have e2:lt (gt d' (p'-c)) (gt d' (p'-c')):=h.r _ _ q1 (by omega) w2
       refine hO.asym (hx _ (by omega) (by omega)) (hx _ (by omega) w2) ?_
       exact hO.tr _ _ _ (hx _ (by omega) (by omega)) (hx _ (by omega) q2) (hx _ (by omega) w2) (hO.tr _ _ _ (hx _ (by omega) (by omega)) (hx _ (by omega) (by omega)) (hx _ (by omega) q2) e1 hz') e2
   · have hz:lt (gt d' (p'-c)) (gt d' c):=hlt.1 (by simpa using hz)
     refine hn _ ⟨rfl,rfl,rfl,g0,by dsimp only; omega,by dsimp only; omega,g3,fun c' c1 c2=>?_⟩ (by dsimp only; omega)
     dsimp only at c1
     by_cases e:c'=c
     · rw [e]; exact hz
     · obtain ⟨w1,w2⟩:=hp1 c' (by omega) c2
       have e1:lt (gt d' c) (gt d' c'):=h.l _ _ (by omega) (by omega) (by omega)
       have e2:lt (gt d' (p'-c')) (gt d' (p'-c)):=h.r _ _ w1 (by omega) q2
       exact hO.tr _ _ _ (hx _ (by omega) w2) (hx _ (by omega) q2) (hx _ (by omega) (by omega)) e2 (hO.tr _ _ _ (hx _ (by omega) q2) (hx _ (by omega) (by omega)) (hx _ (by omega) (by omega)) hz e1)
 · have hc:=of_decide_eq_false hc
   have:st=r:=by omega
   subst this
   exact ⟨rfl,g0,g2,g3,g4⟩
end Go.Ev.Pv
namespace Go.Ev.Pv
variable {lt:Int→Int→Prop} {P:Int→Prop} {C:Int×Int→Option Int}
abbrev Slf:=List Int×Int×Int×Int×YY22→Option (List Int)
theorem ucuh_ (slf:Slf) (d:List Int) (a m b:Int) (hO:SLO lt P) (hC:CMo C lt P) (h:MPre lt P (gt d) a m b) (ha:0≤a) (ham:a<m) (hmb:m≤b) (hb:b≤d.length) (hd:d.length≤1048576) :
 Tot (ud5_ slf (d,a,C,m,b)) (fun r=>r.1=d∧m≤r.2∧r.2≤b∧(∀ k,m≤k→k<r.2→lt (gt d k) (gt d a))∧∀ k,r.2≤k→k<b→¬ lt (gt d k) (gt d a)):=by
 refine ucj_ (R:=fun r:List Int×Int=>r.1=d∧m≤r.2∧r.2≤b∧(∀ k,m≤k→k<r.2→lt (gt d k) (gt d a))∧∀ k,r.2≤k→k<b→¬ lt (gt d k) (gt d a))
  (fun y:List Int×Int×YY22×Int×Int=>y.1=d∧y.2.1=a∧y.2.2.1=C∧m≤y.2.2.2.1∧y.2.2.2.1≤y.2.2.2.2∧y.2.2.2.2≤b∧(∀ k,m≤k→k<y.2.2.2.1→lt (gt d k) (gt d a))∧∀ k,y.2.2.2.2≤k→k<b→¬ lt (gt d k) (gt d a))
  (fun y=>(y.2.2.2.2-y.2.2.2.1).toNat) ?_ _ _ ⟨rfl,rfl,rfl,Int.le_refl _,hmb,Int.le_refl _,fun k k1 k2=>by dsimp only at k2; omega,fun k k1 k2=>by dsimp only at k1; omega⟩ (by unfold fuel; dsimp only; omega)
 rintro next ⟨d',a',C',i,j⟩ hI hn
 dsimp only at hI hn
 obtain ⟨rfl,rfl,rfl,g0,g1,g2,g3,g4⟩:=hI
 have hx:∀ k,a'≤k→k<b→P (gt d' k):=h.p
 unfold ugr_
 dsimp only
 refine u8_.2 ⟨fun hc=>?_,fun hc=>ui_.2 ?_⟩
 · have hc:=of_decide_eq_true hc
   refine ud_.2 (ubou_ (by omega) (by omega) (by omega) (by omega) ?_)
   generalize hmid:(i+j) / 2=c
   rw [ubv_ (n:=c) (by omega) (by omega),ubv_ (n:=c+1) (by omega) (by omega)]
   refine ud_.2 (uf0_.2 ⟨⟨by omega,by omega⟩,?_⟩)
   refine ud_.2 (uf0_.2 ⟨⟨by omega,by omega⟩,?_⟩)
   obtain ⟨v,hv,hlt⟩:=hC (gt d' c) (gt d' a') (hx _ (by omega) (by omega)) (hx _ (by omega) (by omega)) (h.x _ _ (by omega) ham (by omega) (by omega))
   show Tot ((C' (gt d' c,gt d' a')).bind _) _
   rw [hv]
   refine ud_.2 (ui_.2 (u8_.2 ⟨fun hz=>?_,fun hz=>?_⟩))
   · have hz:=hlt.1 (of_decide_eq_true hz)
     refine hn _ ⟨rfl,rfl,rfl,by dsimp only; omega,by dsimp only; omega,g2,fun k k1 k2=>?_,g4⟩ (by dsimp only; omega)
     dsimp only at k2
     by_cases e:k=c
     · rw [e]; exact hz
     · exact hO.tr _ _ _ (hx _ (by omega) (by omega)) (hx _ (by omega) (by omega)) (hx _ (by omega) (by omega)) (h.r k c k1 (by omega) (by omega)) hz
   · have hz:¬ lt (gt d' c) (gt d' a'):=fun e=>of_decide_eq_false hz (hlt.2 e)
     refine hn _ ⟨rfl,rfl,rfl,g0,by dsimp only; omega,by dsimp only; omega,g3,fun k k1 k2=>?_⟩ (by dsimp only; omega)
     dsimp only at k1
     by_cases e:k=c
     · rw [e]; exact hz
     · exact fun w=>hz (hO.tr _ _ _ (hx _ (by omega) (by omega)) (hx _ (by omega) (by omega)) (hx _ (by omega) (by omega)) (h.r c k (by omega) (by omega) k2) w)
 · have hc:=of_decide_eq_false hc
   have:i=j:=by omega
   subst this
   exact ⟨rfl,g0,g2,g3,g4⟩
theorem ucui_ (slf:Slf) (d:List Int) (a m b:Int) (hO:SLO lt P) (hC:CMo C lt P) (h:MPre lt P (gt d) a m b) (ha:0≤a) (ham:a≤m) (hmb:m<b) (hb:b≤d.length) (hd:d.length≤1048576) :
 Tot (ud7_ slf (d,m,C,a,m)) (fun r=>r.1=d∧a≤r.2∧r.2≤m∧(∀ k,a≤k→k<r.2→¬ lt (gt d m) (gt d k))∧∀ k,r.2≤k→k<m→lt (gt d m) (gt d k)):=by
 refine ucj_ (R:=fun r:List Int×Int=>r.1=d∧a≤r.2∧r.2≤m∧(∀ k,a≤k→k<r.2→¬ lt (gt d m) (gt d k))∧∀ k,r.2≤k→k<m→lt (gt d m) (gt d k))
  (fun y:List Int×Int×YY22×Int×Int=>y.1=d∧y.2.1=m∧y.2.2.1=C∧a≤y.2.2.2.1∧y.2.2.2.1≤y.2.2.2.2∧y.2.2.2.2≤m∧(∀ k,a≤k→k<y.2.2.2.1→¬ lt (gt d m) (gt d k))∧∀ k,y.2.2.2.2≤k→k<m→lt (gt d m) (gt d k))
  (fun y=>(y.2.2.2.2-y.2.2.2.1).toNat) ?_ _ _ ⟨rfl,rfl,rfl,Int.le_refl _,ham,Int.le_refl _,fun k k1 k2=>by dsimp only at k2; omega,fun k k1 k2=>by dsimp only at k1; omega⟩ (by unfold fuel; dsimp only; omega)
 rintro next ⟨d',m',C',i,j⟩ hI hn
 dsimp only at hI hn
 obtain ⟨rfl,rfl,rfl,g0,g1,g2,g3,g4⟩:=hI
 have hx:∀ k,a≤k→k<b→P (gt d' k):=h.p
 unfold ugt_
 dsimp only
 refine u8_.2 ⟨fun hc=>?_,fun hc=>ui_.2 ?_⟩
 · have hc:=of_decide_eq_true hc
   refine ud_.2 (ubou_ (by omega) (by omega) (by omega) (by omega) ?_)
   generalize hmid:(i+j) / 2=c
   rw [ubv_ (n:=c) (by omega) (by omega),ubv_ (n:=c+1) (by omega) (by omega)]
   refine ud_.2 (uf0_.2 ⟨⟨by omega,by omega⟩,?_⟩)
   refine ud_.2 (uf0_.2 ⟨⟨by omega,by omega⟩,?_⟩)
   obtain ⟨v,hv,hlt⟩:=hC (gt d' m') (gt d' c) (hx _ (by omega) (by omega)) (hx _ (by omega) (by omega)) (h.x _ _ (by omega) (by omega) (Int.le_refl _) hmb)
   show Tot ((C' (gt d' m',gt d' c)).bind _) _
   rw [hv]
   refine ud_.2 (ui_.2 (u8_.2 ⟨fun hz=>?_,fun hz=>?_⟩))
   · have hz:¬ lt (gt d' m') (gt d' c):=fun e=>by have:=hlt.2 e; simp [this] at hz
     refine hn _ ⟨rfl,rfl,rfl,by dsimp only; omega,by dsimp only; omega,g2,fun k k1 k2=>?_,g4⟩ (by dsimp only; omega)
     dsimp only at k2
     by_cases e:k=c
     · rw [e]; exact hz
     · exact fun w=>hz (hO.tr _ _ _ (hx _ (by omega) (by omega)) (hx _ (by omega) (by omega)) (hx _ (by omega) (by omega)) w (h.l k c k1 (by omega) (by omega)))
   · have hz:lt (gt d' m') (gt d' c):=hlt.1 (by simpa using hz)
     refine hn _ ⟨rfl,rfl,rfl,g0,by dsimp only; omega,by dsimp only; omega,g3,fun k k1 k2=>?_⟩ (by dsimp only; omega)
     dsimp only at k1
     by_cases e:k=c
     · rw [e]; exact hz
     · exact hO.tr _ _ _ (hx _ (by omega) (by omega)) (hx _ (by omega) (by omega)) (hx _ (by omega) (by omega)) hz (h.l c k (by omega) (by omega) k2)
 · have hc:=of_decide_eq_false hc
   have:i=j:=by omega
   subst this
   exact ⟨rfl,g0,g2,g3,g4⟩
theorem ucsp_ (slf:Slf) (d:List Int) (a i:Int) (ha:0≤a) (hai:a<i) (hi:i≤d.length) (hd:d.length≤1048576) :
 Tot (ud6_ slf (d,i,a)) (fun r=>r.length=d.length∧∀ q,0≤q→gt r q=rotF (gt d) a (a+1) i q):=by
 refine ucj_ (R:=fun r:List Int=>r.length=d.length∧∀ q,0≤q→gt r q=rotF (gt d) a (a+1) i q)
  (fun y:List Int×Int×Int=>y.2.1=i∧a≤y.2.2∧y.2.2≤i-1∧y.1.length=d.length∧∀ q,0≤q→gt y.1 q=rotF (gt d) a (a+1) (y.2.2+1) q)
  (fun y=>(i-y.2.2).toNat) ?_ _ _ ⟨rfl,Int.le_refl _,by dsimp only; omega,rfl,fun q _=>(ucqz_ _ _ _ _).symm⟩ (by unfold fuel; dsimp only; omega)
 rintro next ⟨e,i',k⟩ hI hn
 dsimp only at hI hn
 obtain ⟨rfl,k0,k1,hl,hg⟩:=hI
 unfold ugs_
 dsimp only
 rw [ubv_ (n:=i'-1) (by omega) (by omega)]
 refine u8_.2 ⟨fun hc=>?_,fun hc=>ui_.2 ⟨hl,?_⟩⟩
 · have hc:=of_decide_eq_true hc
   rw [ubv_ (n:=k+1) (by omega) (by omega)]
   refine ud_.2 (uf0_.2 ⟨⟨by omega,by omega⟩,?_⟩)
   refine ud_.2 (uf0_.2 ⟨⟨by omega,by omega⟩,?_⟩)
   refine ud_.2 (uf0_.2 ⟨⟨by omega,by omega⟩,?_⟩)
   refine ud_.2 (uf0_.2 ⟨⟨by omega,by rw [List.length_set]; omega⟩,?_⟩)
   refine hn _ ⟨rfl,by dsimp only; omega,by dsimp only; omega,by dsimp only; rw [List.length_set,List.length_set]; exact hl,fun q hq=>?_⟩ (by dsimp only; omega)
   dsimp only
   rw [ucfv_ _ (by omega) (by rw [List.length_set]; omega) q hq,ucfv_ _ (by omega) (by omega) q hq]
   have ea:e.getD k.toNat 0=gt e k:=rfl
   have eb:e.getD (k+1).toNat 0=gt e (k+1):=rfl
   rw [ea,eb,hg _ (by omega),hg _ (by omega),hg q hq]
   unfold rotF
   repeat' split
   all_goals first | omega | rfl | (congr 1; omega)
 · have hc:=of_decide_eq_false hc
   rwa [show k+1=i' by omega] at hg
theorem ucno_ (slf:Slf) (d:List Int) (i m:Int) (hi:0≤i) (him:i≤m) (hm:m<d.length) (hd:d.length≤1048576) :
 Tot (udi_ slf (d,i,m)) (fun r=>r.length=d.length∧∀ q,0≤q→gt r q=rotF (gt d) i m (m+1) q):=by
 refine ucj_ (R:=fun r:List Int=>r.length=d.length∧∀ q,0≤q→gt r q=rotF (gt d) i m (m+1) q)
  (fun y:List Int×Int×Int=>y.2.1=i∧i≤y.2.2∧y.2.2≤m∧y.1.length=d.length∧∀ q,0≤q→gt y.1 q=rotF (gt d) y.2.2 m (m+1) q)
  (fun y=>(y.2.2-i).toNat) ?_ _ _ ⟨rfl,him,Int.le_refl _,rfl,fun q _=>(ucnm_ _ _ _ _).symm⟩ (by unfold fuel; dsimp only; omega)
 rintro next ⟨e,i',k⟩ hI hn
 dsimp only at hI hn
 obtain ⟨rfl,k0,k1,hl,hg⟩:=hI
 unfold ugj_
 dsimp only
 refine u8_.2 ⟨fun hc=>?_,fun hc=>ui_.2 ⟨hl,?_⟩⟩
 · have hc:=of_decide_eq_true hc
   rw [ubv_ (n:=k-1) (by omega) (by omega)]
   refine ud_.2 (uf0_.2 ⟨⟨by omega,by omega⟩,?_⟩)
   refine ud_.2 (uf0_.2 ⟨⟨by omega,by omega⟩,?_⟩)
   refine ud_.2 (uf0_.2 ⟨⟨by omega,by omega⟩,?_⟩)
   refine ud_.2 (uf0_.2 ⟨⟨by omega,by rw [List.length_set]; omega⟩,?_⟩)
   refine hn _ ⟨rfl,by dsimp only; omega,by dsimp only; omega,by dsimp only; rw [List.length_set,List.length_set]; exact hl,fun q hq=>?_⟩ (by dsimp only; omega)
   dsimp only
   rw [ucfv_ _ (by omega) (by rw [List.length_set]; omega) q hq,ucfv_ _ (by omega) (by omega) q hq]
   have ea:e.getD k.toNat 0=gt e k:=rfl
   have eb:e.getD (k-1).toNat 0=gt e (k-1):=rfl
   rw [ea,eb,hg _ (by omega),hg _ (by omega),hg q hq]
   unfold rotF
   repeat' split
   all_goals first | omega | rfl | (congr 1; omega)
 · have hc:=of_decide_eq_false hc
   rwa [show k=i' by omega] at hg
end Go.Ev.Pv
namespace Go.Ev.Pv
variable {lt:Int→Int→Prop} {P:Int→Prop} {C:Int×Int→Option Int}
theorem ucnp_ (f:Int→Int) (a:Int):Sgm lt f a (a+1):=fun i j _ _ _=>by omega
theorem ucq0_ (f:Int→Int) (a:Int):Sgm lt f a a:=fun i j _ _ _=>by omega
theorem ucnq_ {d e:List Int} {a s t e' b:Int} (h:Parts lt P (gt d) (gt e) a s t e' b) (hl:e.length=d.length) (h1:Sgm lt (gt e) a t) (h2:Sgm lt (gt e) t b):MPost lt d a b e :=
 ⟨hl,h.out,uca0_ h1 h2 h.x,h.inn⟩
theorem uchl_ (slf:Slf) (K:Int) (hO:SLO lt P) (hC:CMo C lt P)
 (ih:∀ (d:List Int) (a m b:Int),MPre lt P (gt d) a m b→0≤a→a<m→m<b→b≤d.length→d.length≤1048576→b-a≤K→Tot (slf (d,a,m,b,C)) (MPost lt d a b))
 (d:List Int) (a m b:Int) (h:MPre lt P (gt d) a m b) (ha:0≤a) (ham:a<m) (hmb:m<b) (hb:b≤d.length) (hd:d.length≤1048576) (hK:b-a≤2*K) :
 Tot (ub1_ slf (d,a,m,b,C)) (MPost lt d a b):=by
 have hx:∀ k,a≤k→k<b→P (gt d k):=h.p
 unfold ub1_
 dsimp only
 rw [ubv_ (n:=m-a) (by omega) (by omega),ubv_ (n:=b-m) (by omega) (by omega)]
 refine u8_.2 ⟨fun h1=>?_,fun _=>u8_.2 ⟨fun h1=>?_,fun _=>?_⟩⟩
 · have h1:m-a=1:=by rw [u0u_] at h1; exact of_decide_eq_true h1
   obtain rfl:m=a+1:=by omega
   refine ud_.2 ((ucuh_ slf d a (a+1) b hO hC h ha ham (by omega) hb hd).mono fun r hr=>?_)
   obtain ⟨e,i⟩:=r
   obtain ⟨he,i0,i1,l1,l2⟩:=hr
   dsimp only at he i0 i1 l1 l2 ⊢
   subst he
   refine ud_.2 ((ucsp_ slf e a i ha (by omega) (by omega) hd).mono fun r hr=>ui_.2 ?_)
   obtain ⟨hl,hg⟩:=hr
   have l3:∀ k,i≤k→k<b→lt (gt e a) (gt e k):=fun k k1 k2=>hO.of_not (hx _ (by omega) k2) (hx _ (by omega) (by omega)) (by have:=h.x a k (Int.le_refl _) (by omega) (by omega) k2; omega) (l2 k k1 k2)
   have hp:=parts (s:=a) (e:=i) (t:=i-1) h ha (Int.le_refl _) (by omega) i0 i1 (by omega) hg (fun i j _ _ _ _=>by omega) (fun p q p1 p2 q1 q2=>by
    obtain rfl:p=a:=by omega
    exact l1 q q1 q2)
   refine ucnq_ hp hl hp.lo.r (uca0_ (t:=i) ?_ hp.hi.r fun p q p1 p2 q1 q2=>?_)
   · have:=ucnp_ (lt:=lt) (gt r) (i-1)
     rwa [show i-1+1=i by omega] at this
   · obtain rfl:p=i-1:=by omega
     rw [hg _ (by omega),hg _ (by omega),ucso_ _ q1,ucug_ _ (by omega) (by omega) (by omega),show i-1-(i-(a+1))=a by omega]
     exact l3 q q1 q2
 · have h1:b-m=1:=by rw [u0u_] at h1; exact of_decide_eq_true h1
   obtain rfl:b=m+1:=by omega
   refine ud_.2 ((ucui_ slf d a m (m+1) hO hC h ha (by omega) (by omega) hb hd).mono fun r hr=>?_)
   obtain ⟨e,i⟩:=r
   obtain ⟨he,i0,i1,l1,l2⟩:=hr
   dsimp only at he i0 i1 l1 l2 ⊢
   subst he
   refine ud_.2 ((ucno_ slf e i m (by omega) i1 (by omega) hd).mono fun r hr=>ui_.2 ?_)
   obtain ⟨hl,hg⟩:=hr
   have l3:∀ k,a≤k→k<i→lt (gt e k) (gt e m):=fun k k1 k2=>hO.of_not (hx _ (by omega) (by omega)) (hx _ k1 (by omega)) (by have:=h.x k m k1 (by omega) (Int.le_refl _) (by omega); omega) (l1 k k1 k2)
   have hp:=parts (s:=i) (e:=m+1) (t:=i+1) h ha i0 i1 (by omega) (Int.le_refl _) (by omega) hg (fun i j _ _ _ _=>by omega) (fun p q p1 p2 q1 q2=>by
    obtain rfl:q=m:=by omega
    exact l2 p p1 p2)
   refine ucnq_ hp hl (uca0_ (t:=i) hp.lo.l (ucnp_ _ _) fun p q p1 p2 q1 q2=>?_) hp.hi.l
   obtain rfl:q=i:=by omega
   rw [hg _ (by omega),hg _ (by omega),ucnn_ _ p2,ucpv_ _ (by omega) (by omega) (by omega),show q+(m-q)=m by omega]
   exact l3 p p1 p2
 · refine ud_.2 (ubou_ (by omega) (by omega) (by omega) (by omega) ?_)
   generalize hmid:(a+b) / 2=mid
   have hm1:a≤mid:=by omega
   have hm2:mid<b:=by omega
   have hm3:mid-a≤K:=by omega
   have hm4:b-mid≤K:=by omega
   have hm5:a<mid:=by omega
   rw [ubv_ (n:=mid) (by omega) (by omega),ubv_ (n:=mid+m) (by omega) (by omega),ubv_ (n:=mid+m-1) (by omega) (by omega)]
   have hp12:Tot (ubi_ slf (a,m,b,mid,mid+m,decide (mid<m))) fun r:Int×Int=>a≤r.1∧r.1≤r.2∧r.2≤m∧mid+m-b≤r.1∧r.2≤mid∧(r.1=a∨r.1=mid+m-b)∧(r.2=m∨r.2=mid):=by
    unfold ubi_
    dsimp only
    refine u8_.2 ⟨fun hc=>ui_.2 ?_,fun hc=>ui_.2 ?_⟩
    · have hc:=of_decide_eq_true hc
      rw [ubv_ (by omega) (by omega)]
      dsimp only; omega
    · have hc:=of_decide_eq_false hc
      dsimp only; omega
   refine ud_.2 (hp12.mono fun r14 hr=>?_)
   obtain ⟨lo,hi⟩:=r14
   obtain ⟨f1,f2,f3,f4,f5,f6,f7⟩:=hr
   dsimp only at f1 f2 f3 f4 f5 f6 f7 ⊢
   refine ud_.2 ((ucvn_ slf d a m b lo hi (mid+m-1) hO hC h ha hb hd (by omega) f1 f2 f3 (fun c c1 c2=>by omega) (by omega) (by omega)).mono fun r19 hr=>?_)
   obtain ⟨e19,s⟩:=r19
   obtain ⟨he,s0,s1,l1,l2⟩:=hr
   dsimp only at he s0 s1 l1 l2 ⊢
   subst he
   rw [ubv_ (n:=mid+m-s) (by omega) (by omega)]
   generalize hend:mid+m-s=en
   have he0:m≤en:=by omega
   have he1:en≤b:=by omega
   have key1:∀ i j,a≤i→i<s→en≤j→j<b→lt (gt e19 i) (gt e19 j):=by
    intro i j i1 i2 j1 j2
    by_cases c:lo<s
    · have w:=l1 (s-1) (by omega) (by omega)
      rw [show mid+m-1-(s-1)=en by omega] at w
      have w':=hO.of_not (hx en (by omega) (by omega)) (hx (s-1) (by omega) (by omega)) (by have:=h.x (s-1) en (by omega) (by omega) he0 (by omega); omega) w
      have w1:lt (gt e19 i) (gt e19 en):=by
       by_cases q:i=s-1
       · rw [q]; exact w'
       · exact hO.tr _ _ _ (hx _ i1 (by omega)) (hx _ (by omega) (by omega)) (hx _ (by omega) (by omega)) (h.l i (s-1) i1 (by omega) (by omega)) w'
      by_cases q:j=en
      · rw [q]; exact w1
      · exact hO.tr _ _ _ (hx _ i1 (by omega)) (hx _ (by omega) (by omega)) (hx _ (by omega) j2) w1 (h.r en j he0 (by omega) j2)
    · omega
   have key2:∀ i j,s≤i→i<m→m≤j→j<en→lt (gt e19 j) (gt e19 i):=by
    intro i j i1 i2 j1 j2
    by_cases c:s<hi
    · have w:=l2 s (Int.le_refl _) c
      rw [show mid+m-1-s=en-1 by omega] at w
      have w1:lt (gt e19 j) (gt e19 s):=by
       by_cases q:j=en-1
       · rw [q]; exact w
       · exact hO.tr _ _ _ (hx _ (by omega) (by omega)) (hx _ (by omega) (by omega)) (hx _ (by omega) (by omega)) (h.r j (en-1) j1 (by omega) (by omega)) w
      by_cases q:i=s
      · rw [q]; exact w1
      · exact hO.tr _ _ _ (hx _ (by omega) (by omega)) (hx _ (by omega) (by omega)) (hx _ (by omega) (by omega)) w1 (h.l s i (by omega) (by omega) i2)
    · omega
   have hrot:Tot (ubj_ slf (e19,m,C,s,en,decide (s<m)&&decide (m<en))) (fun r=>r.length=e19.length∧∀ k,0≤k→gt r k=rotF (gt e19) s m en k):=by
    unfold ubj_
    dsimp only
    refine u8_.2 ⟨fun hc=>?_,fun hc=>ui_.2 ⟨rfl,fun k _=>?_⟩⟩
    · rw [Bool.and_eq_true,decide_eq_true_eq,decide_eq_true_eq] at hc
      exact ud_.2 ((ucke_ e19 s m en C (by omega) hc.1 hc.2 (by omega) hd).mono fun r hr=>ui_.2 hr)
    · rcases Bool.and_eq_false_iff.1 hc with q | q
      · have q:=of_decide_eq_false q
        rw [show s=m by omega,ucnm_]
      · have q:=of_decide_eq_false q
        rw [show en=m by omega,ucqz_]
   refine ud_.2 (hrot.mono fun r22 h22=>?_)
   obtain ⟨hl22,hg22⟩:=h22
   have hp:=parts (s:=s) (e:=en) (t:=mid) h ha (by omega) (by omega) he0 he1 (by omega) hg22 key1 key2
   have hq:Tot (ubk_ slf (r22,a,C,mid,s,decide (a<s)&&decide (s<mid))) (MPost lt r22 a mid):=by
    unfold ubk_
    dsimp only
    refine u8_.2 ⟨fun hc=>?_,fun hc=>ui_.2 ⟨rfl,fun _ _ _=>rfl,?_,fun k k1 k2=>⟨k,k1,k2,rfl⟩⟩⟩
    · rw [Bool.and_eq_true,decide_eq_true_eq,decide_eq_true_eq] at hc
      exact ud_.2 ((ih r22 a s mid hp.lo ha hc.1 hc.2 (by omega) (by omega) hm3).mono fun r hr=>ui_.2 hr)
    · rcases Bool.and_eq_false_iff.1 hc with q | q
      · have q:=of_decide_eq_false q
        have:=hp.lo.r
        rwa [show s=a by omega] at this
      · have q:=of_decide_eq_false q
        have:=hp.lo.l
        rwa [show s=mid by omega] at this
   refine ud_.2 (hq.mono fun r25 h25=>?_)
   have hout:∀ k,mid≤k→gt r25 k=gt r22 k:=fun k k1=>h25.out k (by omega) (Or.inr k1)
   have hhi:MPre lt P (gt r25) mid en b:=⟨fun k k1 k2=>by rw [hout k k1]; exact hp.hi.p k k1 k2,fun i j i1 ij j1=>by rw [hout i i1,hout j (by omega)]; exact hp.hi.l i j i1 ij j1,
    fun i j i1 ij j1=>by rw [hout i (by omega),hout j (by omega)]; exact hp.hi.r i j i1 ij j1,fun i j i1 i2 j1 j2=>by rw [hout i i1,hout j (by omega)]; exact hp.hi.x i j i1 i2 j1 j2⟩
   have hcross:∀ i j,a≤i→i<mid→mid≤j→j<b→lt (gt r25 i) (gt r22 j):=fun i j i1 i2 j1 j2=>by
    obtain ⟨i',w1,w2,w3⟩:=h25.inn i i1 i2
    rw [w3]; exact hp.x i' j w1 w2 j1 j2
   have hinn:∀ k,a≤k→k<b→∃ j,a≤j∧j<b∧gt r25 k=gt e19 j:=fun k k1 k2=>by
    by_cases c:k<mid
    · obtain ⟨i',w1,w2,w3⟩:=h25.inn k k1 c
      obtain ⟨j,v1,v2,v3⟩:=hp.inn i' w1 (by omega)
      exact ⟨j,v1,v2,w3.trans v3⟩
    · obtain ⟨j,v1,v2,v3⟩:=hp.inn k k1 k2
      exact ⟨j,v1,v2,(hout k (by omega)).trans v3⟩
   have hl25:=h25.len
   refine u8_.2 ⟨fun hc=>?_,fun hc=>ui_.2 ?_⟩
   · rw [Bool.and_eq_true,decide_eq_true_eq,decide_eq_true_eq] at hc
     refine ud_.2 ((ih r25 mid en b hhi (by omega) hc.1 hc.2 (by omega) (by omega) hm4).mono fun r hr=>ui_.2 ?_)
     refine ⟨by rw [hr.len]; omega,fun k k0 kk=>?_,uca0_ (t:=mid) (fun i j i1 ij j1=>?_) hr.sg fun i j i1 i2 j1 j2=>?_,fun k k1 k2=>?_⟩
     · rw [hr.out k k0 (by omega),h25.out k k0 (by omega)]; exact hp.out k k0 kk
     · rw [hr.out i (by omega) (by omega),hr.out j (by omega) (by omega)]; exact h25.sg i j i1 ij j1
     · obtain ⟨j',w1,w2,w3⟩:=hr.inn j j1 j2
       rw [hr.out i (by omega) (by omega),w3,hout j' w1]
       exact hcross i j' i1 i2 w1 w2
     · by_cases c:k<mid
       · rw [hr.out k (by omega) (by omega)]; exact hinn k k1 k2
       · obtain ⟨j',w1,w2,w3⟩:=hr.inn k (by omega) k2
         obtain ⟨j,v1,v2,v3⟩:=hinn j' (by omega) w2
         exact ⟨j,v1,v2,w3.trans v3⟩
   · refine ⟨by omega,fun k k0 kk=>?_,uca0_ (t:=mid) h25.sg ?_ fun i j i1 i2 j1 j2=>?_,hinn⟩
     · rw [h25.out k k0 (by omega)]; exact hp.out k k0 kk
     · rcases Bool.and_eq_false_iff.1 hc with q | q
       · have q:=of_decide_eq_false q
         have:=hhi.r
         rwa [show en=mid by omega] at this
       · have q:=of_decide_eq_false q
         have:=hhi.l
         rwa [show en=b by omega] at this
     · rw [hout j j1]; exact hcross i j i1 i2 j1 j2
theorem ucpw_ (hO:SLO lt P) (hC:CMo C lt P):∀ (n:Nat) (d:List Int) (a m b:Int),MPre lt P (gt d) a m b→0≤a→a<m→m<b→b≤d.length→d.length≤1048576→b-a≤2 ^ n→Tot (un_ n (d,a,m,b,C)) (MPost lt d a b):=by
 intro n
 induction n with
 | zero =>
   intro d a m b h ha ham hmb hb hd hK
   rw [Int.pow_zero] at hK
   omega
 | succ n ih =>
   intro d a m b h ha ham hmb hb hd hK
   refine uchl_ (un_ n) (2 ^ n) hO hC ih d a m b h ha ham hmb hb hd ?_
   rw [Int.pow_succ] at hK
   omega
theorem ucfw_ (hO:SLO lt P) (hC:CMo C lt P) (d:List Int) (a m b:Int) (h:MPre lt P (gt d) a m b) (ha:0≤a) (ham:a<m) (hmb:m<b) (hb:b≤d.length) (hd:d.length≤1048576) :
 Tot (ubc_ (d,a,m,b,C)) (MPost lt d a b):=by
 unfold ubc_
 refine ucpw_ hO hC 100 d a m b h ha ham hmb hb hd ?_
 have:(1048576:Int)≤2 ^ 100:=by decide
 omega
end Go.Ev.Pv
namespace Go.Ev.Pv
variable {lt:Int→Int→Prop} {P:Int→Prop} {C:Int×Int→Option Int}
theorem ucnr_ {e r:List Int} {a i m:Int} (h:MPre lt P (gt e) a m (m+1)) (ha:0≤a) (i0:a≤i) (i1:i≤m) (hl:r.length=e.length) (hg:∀ q,0≤q→gt r q=rotF (gt e) i m (m+1) q)
 (l3:∀ k,a≤k→k<i→lt (gt e k) (gt e m)) (l2:∀ k,i≤k→k<m→lt (gt e m) (gt e k)):MPost lt e a (m+1) r:=by
 have hp:=parts (s:=i) (e:=m+1) (t:=i+1) h ha i0 i1 (by omega) (Int.le_refl _) (by omega) hg (fun i j _ _ _ _=>by omega) (fun p q p1 p2 q1 q2=>by
  obtain rfl:q=m:=by omega
  exact l2 p p1 p2)
 refine ucnq_ hp hl (uca0_ (t:=i) hp.lo.l (ucnp_ _ _) fun p q p1 p2 q1 q2=>?_) hp.hi.l
 obtain rfl:q=i:=by omega
 rw [hg _ (by omega),hg _ (by omega),ucnn_ _ p2,ucpv_ _ (by omega) (by omega) (by omega),show q+(m-q)=m by omega]
 exact l3 p p1 p2
theorem ucvo_ (d:List Int) (a i:Int) (hO:SLO lt P) (hC:CMo C lt P) (h:MPre lt P (gt d) a i (i+1)) (ha:0≤a) (hai:a≤i) (hi:i<d.length) (hd:d.length≤1048576) :
 Tot (ucl_ (d,a,C,i)) (MPost lt d a (i+1)):=by
 have hx:∀ k,a≤k→k<i+1→P (gt d k):=h.p
 refine ucj_ (R:=MPost lt d a (i+1))
  (fun y:List Int×Int×YY22×Int=>y.2.1=a∧y.2.2.1=C∧a≤y.2.2.2∧y.2.2.2≤i∧y.1.length=d.length∧(∀ q,0≤q→gt y.1 q=rotF (gt d) y.2.2.2 i (i+1) q)∧∀ k,y.2.2.2≤k→k<i→lt (gt d i) (gt d k))
  (fun y=>y.2.2.2.toNat) ?_ _ _ ⟨rfl,rfl,hai,Int.le_refl _,rfl,fun q _=>(ucnm_ _ _ _ _).symm,fun k k1 k2=>by dsimp only at k1; omega⟩ (by unfold fuel; dsimp only; omega)
 rintro next ⟨e,a',C',j⟩ hI hn
 dsimp only at hI hn
 obtain ⟨rfl,rfl,j0,j1,hl,hg,hk⟩:=hI
 unfold ueh_
 dsimp only
 by_cases hc:a'<j
 · have hw:IntKind.i64.wrap (j-1)=j-1:=ubv_ (by omega) (by omega)
   simp only [hw,decide_eq_true hc,cond_true,Bool.true_and]
   refine ud_.2 (uf0_.2 ⟨⟨by omega,by omega⟩,?_⟩)
   refine ud_.2 (uf0_.2 ⟨⟨by omega,by omega⟩,?_⟩)
   have e1:gt e j=gt d i:=by rw [hg j (by omega),ucpv_ _ (by omega) (by omega) (by omega),show j+(i-j)=i by omega]
   have e2:gt e (j-1)=gt d (j-1):=by rw [hg _ (by omega),ucnn_ _ (by omega)]
   obtain ⟨v,hv,hlt⟩:=hC (gt d i) (gt d (j-1)) (hx _ hai (by omega)) (hx _ (by omega) (by omega)) (h.x _ _ (by omega) (by omega) (Int.le_refl _) (by omega))
   have hv':C' (e.getD j.toNat 0,e.getD (j-1).toNat 0)=some v:=by
    show C' (gt e j,gt e (j-1))=some v
    rw [e1,e2]; exact hv
   rw [hv']
   refine ud_.2 (ui_.2 (u8_.2 ⟨fun hz=>?_,fun hz=>ui_.2 ?_⟩))
   · have hz:=hlt.1 (of_decide_eq_true hz)
     refine ud_.2 (uf0_.2 ⟨⟨by omega,by omega⟩,?_⟩)
     refine ud_.2 (uf0_.2 ⟨⟨by omega,by omega⟩,?_⟩)
     refine ud_.2 (uf0_.2 ⟨⟨by omega,by omega⟩,?_⟩)
     refine ud_.2 (uf0_.2 ⟨⟨by omega,by rw [List.length_set]; omega⟩,?_⟩)
     refine hn _ ⟨rfl,rfl,by dsimp only; omega,by dsimp only; omega,by dsimp only; rw [List.length_set,List.length_set]; exact hl,fun q hq=>?_,fun k k1 k2=>?_⟩ (by dsimp only; omega)
     · dsimp only
       rw [ucfv_ _ (by omega) (by rw [List.length_set]; omega) q hq,ucfv_ _ (by omega) (by omega) q hq]
       have ea:e.getD j.toNat 0=gt e j:=rfl
       have eb:e.getD (j-1).toNat 0=gt e (j-1):=rfl
       rw [ea,eb,hg _ (by omega),hg _ (by omega),hg q hq]
       unfold rotF
       repeat' split
       all_goals first | omega | rfl | (congr 1; omega)
     · dsimp only at k1
       by_cases e:k=j-1
       · rw [e]; exact hz
       · exact hk k (by omega) k2
   · have hz:¬ lt (gt d i) (gt d (j-1)):=fun w=>of_decide_eq_false hz (hlt.2 w)
     have hz':=hO.of_not (hx _ hai (by omega)) (hx _ (by omega) (by omega)) (by have:=h.x (j-1) i (by omega) (by omega) (Int.le_refl _) (by omega); omega) hz
     refine ucnr_ h ha j0 j1 hl hg (fun k k1 k2=>?_) hk
     by_cases q:k=j-1
     · rw [q]; exact hz'
     · exact hO.tr _ _ _ (hx _ k1 (by omega)) (hx _ (by omega) (by omega)) (hx _ hai (by omega)) (h.l k (j-1) k1 (by omega) (by omega)) hz'
 · simp only [decide_eq_false hc,cond_false,Bool.false_and]
   refine ud_.2 (ui_.2 ?_)
   refine ud_.2 (ui_.2 ?_)
   refine ud_.2 (ui_.2 ?_)
   exact ui_.2 (ucnr_ h ha j0 j1 hl hg (fun k k1 k2=>by omega) hk)
def Asc (P:Int→Prop) (f:Int→Int) (a b:Int):Prop:=(∀ i j,a≤i→i<j→j<b→f i<f j)∧∀ k,a≤k→k<b→P (f k)
theorem ucns_ (d:List Int) (a b:Int) (hO:SLO lt P) (hC:CMo C lt P) (h:Asc P (gt d) a b) (ha:0≤a) (hb0:b≤d.length) (hab:a≤b) (hd:d.length≤1048576):Tot (u4_ (d,a,b,C)) (MPost lt d a b):=by
 unfold u4_
 dsimp only
 rw [ubv_ (n:=a+1) (by omega) (by omega)]
 refine ud_.2 (Tot.mono (P:=MPost lt d a b) ?_ fun r hr=>ui_.2 hr)
 refine ucj_ (R:=MPost lt d a b)
  (fun y:List Int×Int×Int×YY22×Int=>y.2.1=a∧y.2.2.1=b∧y.2.2.2.1=C∧a+1≤y.2.2.2.2∧(y.2.2.2.2≤b∧MPost lt d a y.2.2.2.2 y.1∨a=b∧y.1=d))
  (fun y=>(b-y.2.2.2.2).toNat) ?_ _ _ ⟨rfl,rfl,rfl,Int.le_refl _,?_⟩ (by unfold fuel; dsimp only; omega)
 · rintro next ⟨e,a',b',C',i⟩ hI hn
   dsimp only at hI hn
   obtain ⟨rfl,rfl,rfl,i0,hI⟩:=hI
   unfold uei_
   dsimp only
   refine u8_.2 ⟨fun hc=>?_,fun hc=>ui_.2 ?_⟩
   · have hc:=of_decide_eq_true hc
     obtain ⟨i1,hp⟩:i≤b'∧MPost lt d a' i e:=hI.resolve_right (by omega)
     have hl:=hp.len
     have hout:gt e i=gt d i:=hp.out i (by omega) (Or.inr (Int.le_refl _))
     rw [ubv_ (n:=i+1) (by omega) (by omega)]
     have hpre:MPre lt P (gt e) a' i (i+1):=by
      refine ⟨fun k k1 k2=>?_,hp.sg,ucnp_ _ _,fun p q p1 p2 q1 q2=>?_⟩
      · by_cases c:k<i
        · obtain ⟨j,w1,w2,w3⟩:=hp.inn k k1 c
          rw [w3]; exact h.2 j w1 (by omega)
        · obtain rfl:k=i:=by omega
          rw [hout]; exact h.2 k k1 hc
      · obtain rfl:q=i:=by omega
        obtain ⟨j,w1,w2,w3⟩:=hp.inn p p1 p2
        rw [w3,hout]; exact h.1 j q w1 w2 hc
     refine ud_.2 ((ucvo_ e a' i hO hC hpre ha (by omega) (by omega) (by omega)).mono fun r hr=>?_)
     refine hn _ ⟨rfl,rfl,rfl,by dsimp only; omega,Or.inl ⟨by dsimp only; omega,by have:=hr.len; dsimp only; omega,fun k k0 kk=>?_,hr.sg,fun k k1 k2=>?_⟩⟩ (by dsimp only; omega)
     · dsimp only at kk
       rw [hr.out k k0 kk]; exact hp.out k k0 (by omega)
     · dsimp only at k2
       obtain ⟨j,w1,w2,w3⟩:=hr.inn k k1 k2
       by_cases c:j<i
       · obtain ⟨j',v1,v2,v3⟩:=hp.inn j w1 c
         exact ⟨j',v1,by dsimp only; omega,w3.trans v3⟩
       · obtain rfl:j=i:=by omega
         exact ⟨j,w1,w2,w3.trans hout⟩
   · have hc:=of_decide_eq_false hc
     rcases hI with ⟨i1,hp⟩ | ⟨e1,e2⟩
     · rwa [show i=b' by omega] at hp
     · rw [e2,e1]
       exact ⟨rfl,fun _ _ _=>rfl,ucq0_ _ _,fun k k1 k2=>by omega⟩
 · dsimp only
   by_cases e:a=b
   · exact Or.inr ⟨e,rfl⟩
   · exact Or.inl ⟨by omega,rfl,fun _ _ _=>rfl,ucnp_ _ _,fun k k1 k2=>⟨k,k1,k2,rfl⟩⟩
end Go.Ev.Pv
namespace Go.Ev.Pv
variable {lt:Int→Int→Prop} {P:Int→Prop} {C:Int×Int→Option Int}
structure Run (lt:Int→Int→Prop) (d y:List Int) (s e:Int):Prop where
 sg:Sgm lt (gt y) s e
 inn:∀ k,s≤k→k<e→∃ j,s≤j∧j<e∧gt y k=gt d j
theorem Run.same {d y z:List Int} {s e:Int} (h:Run lt d y s e) (hz:∀ k,s≤k→k<e→gt z k=gt y k):Run lt d z s e :=
 ⟨fun i j i1 ij j1=>by rw [hz i i1 (by omega),hz j (by omega) j1]; exact h.sg i j i1 ij j1,fun k k1 k2=>by rw [hz k k1 k2]; exact h.inn k k1 k2⟩
theorem Run.of {d y r:List Int} {s e:Int} (h:MPost lt y s e r) (hy:∀ k,s≤k→k<e→gt y k=gt d k):Run lt d r s e :=
 ⟨h.sg,fun k k1 k2=>by obtain ⟨j,j1,j2,j3⟩:=h.inn k k1 k2; exact ⟨j,j1,j2,j3.trans (hy j j1 j2)⟩⟩
theorem uciu_ {d y:List Int} {n s m e:Int} (hO:SLO lt P) (hC:CMo C lt P) (hA:Asc P (gt d) 0 n) (h0:0≤s) (h1:s<m) (h2:m<e) (h3:e≤n) (hn:n≤y.length) (hd:y.length≤1048576) (l:Run lt d y s m) (r:Run lt d y m e) :
 Tot (ubc_ (y,s,m,e,C)) (fun z=>z.length=y.length∧Run lt d z s e∧∀ k,0≤k→(k<s∨e≤k)→gt z k=gt y k):=by
 have hin:∀ k,s≤k→k<e→∃ j,s≤j∧j<e∧gt y k=gt d j∧(k<m→j<m)∧(m≤k→m≤j):=fun k k1 k2=>by
  by_cases c:k<m
  · obtain ⟨j,j1,j2,j3⟩:=l.inn k k1 c
    exact ⟨j,j1,by omega,j3,fun _=>j2,fun _=>by omega⟩
  · obtain ⟨j,j1,j2,j3⟩:=r.inn k (by omega) k2
    exact ⟨j,by omega,j2,j3,fun _=>by omega,fun _=>j1⟩
 have hpre:MPre lt P (gt y) s m e:=⟨fun k k1 k2=>by obtain ⟨j,j1,j2,j3,_⟩:=hin k k1 k2; rw [j3]; exact hA.2 j (by omega) (by omega),l.sg,r.sg,fun i j i1 i2 j1 j2=>by
  obtain ⟨i',u1,u2,u3,u4,_⟩:=hin i i1 (by omega)
  obtain ⟨j',v1,v2,v3,_,v5⟩:=hin j (by omega) j2
  have:=u4 i2
  have:=v5 j1
  rw [u3,v3]; exact hA.1 i' j' (by omega) (by omega) (by omega)⟩
 refine (ucfw_ hO hC y s m e hpre h0 h1 h2 (by omega) hd).mono fun z hz=>⟨hz.len,⟨hz.sg,fun k k1 k2=>?_⟩,hz.out⟩
 obtain ⟨j,j1,j2,j3⟩:=hz.inn k k1 k2
 obtain ⟨j',w1,w2,w3,_⟩:=hin j j1 j2
 exact ⟨j',w1,w2,j3.trans w3⟩
def Runs (lt:Int→Int→Prop) (d y:List Int) (bs n:Int):Prop:=∀ t:Int,0≤t→t*bs<n→Run lt d y (t*bs) (min (t*bs+bs) n)
theorem ucde_ {t u b:Int} (h:t≤u) (hb:0≤b):t*b≤u*b:=Int.mul_le_mul_of_nonneg_right h hb
theorem ucpx_ (d:List Int) (n:Int) (hO:SLO lt P) (hC:CMo C lt P) (hA:Asc P (gt d) 0 n) (hn0:0≤n) (hn:n≤d.length) (hd:d.length≤1048576) :
 Tot (uex_ (d,n,C,20,0,20)) (fun r=>r.1.length=d.length∧∃ T:Int,0≤T∧r.2=T*20∧r.2≤n∧n<r.2+20∧(∀ t,0≤t→t<T→Run lt d r.1 (t*20) (t*20+20))∧∀ k,r.2≤k→gt r.1 k=gt d k):=by
 refine ucj_ (R:=fun r:List Int×Int=>r.1.length=d.length∧∃ T:Int,0≤T∧r.2=T*20∧r.2≤n∧n<r.2+20∧(∀ t,0≤t→t<T→Run lt d r.1 (t*20) (t*20+20))∧∀ k,r.2≤k→gt r.1 k=gt d k)
  (fun y:List Int×Int×YY22×Int×Int×Int=>y.2.1=n∧y.2.2.1=C∧y.2.2.2.1=20∧y.2.2.2.2.2=y.2.2.2.2.1+20∧y.1.length=d.length∧∃ T:Int,0≤T∧y.2.2.2.2.1=T*20∧y.2.2.2.2.1≤n∧(∀ t,0≤t→t<T→Run lt d y.1 (t*20) (t*20+20))∧∀ k,y.2.2.2.2.1≤k→gt y.1 k=gt d k)
  (fun y=>(n-y.2.2.2.2.1).toNat) ?_ _ _ ⟨rfl,rfl,rfl,rfl,rfl,0,Int.le_refl _,rfl,hn0,fun t t0 t1=>by omega,fun k _=>rfl⟩ (by unfold fuel; dsimp only; omega)
 rintro next ⟨y,n',C',bs,a,b⟩ hI hn'
 dsimp only at hI hn'
 obtain ⟨rfl,rfl,rfl,rfl,hl,T,T0,rfl,a1,hr,hs⟩:=hI
 unfold uh3_
 dsimp only
 refine u8_.2 ⟨fun hc=>?_,fun hc=>ui_.2 ⟨hl,T,T0,rfl,a1,?_,hr,hs⟩⟩
 · have hc:=of_decide_eq_true hc
   rw [ubv_ (n:=T*20+20+20) (by omega) (by omega)]
   have hasc:Asc P (gt y) (T*20) (T*20+20):=⟨fun i j i1 ij j1=>by rw [hs i i1,hs j (by omega)]; exact hA.1 i j (by omega) ij (by omega),fun k k1 k2=>by rw [hs k k1]; exact hA.2 k (by omega) (by omega)⟩
   refine ud_.2 ((ucns_ y (T*20) (T*20+20) hO hC hasc (by omega) (by omega) (by omega) (by omega)).mono fun r hr'=>?_)
   refine hn' _ ⟨rfl,rfl,rfl,rfl,by have:=hr'.len; dsimp only; omega,T+1,by omega,by dsimp only; omega,by dsimp only; omega,fun t t0 t1=>?_,fun k k1=>?_⟩ (by dsimp only; omega)
   · dsimp only
     by_cases e:t=T
     · subst e
       exact Run.of hr' fun k k1 k2=>hs k k1
     · exact (hr t t0 (by omega)).same fun k k1 k2=>hr'.out k (by omega) (Or.inl (by omega))
   · dsimp only at k1 ⊢
     rw [hr'.out k (by omega) (Or.inr (by omega))]; exact hs k (by omega)
 · have hc:=of_decide_eq_false hc
   dsimp only; omega
theorem ucpy_ (d y0:List Int) (n bs:Int) (hO:SLO lt P) (hC:CMo C lt P) (hA:Asc P (gt d) 0 n) (hn:n≤d.length) (hd:d.length≤1048576) (hb0:0<bs) (hb1:bs<n) (hl0:y0.length=d.length) (hR:Runs lt d y0 bs n) :
 Tot (uey_ (y0,n,C,bs,0,2*bs)) (fun r=>r.1.length=d.length∧∃ T:Int,0≤T∧r.2=2*(T*bs)∧r.2≤n∧n<r.2+2*bs∧(∀ t,0≤t→t<T→Run lt d r.1 (2*(t*bs)) (2*(t*bs)+2*bs)) ∧
  ∀ t,2*T≤t→t*bs<n→Run lt d r.1 (t*bs) (min (t*bs+bs) n)):=by
 refine ucj_ (R:=fun r:List Int×Int=>r.1.length=d.length∧∃ T:Int,0≤T∧r.2=2*(T*bs)∧r.2≤n∧n<r.2+2*bs∧(∀ t,0≤t→t<T→Run lt d r.1 (2*(t*bs)) (2*(t*bs)+2*bs)) ∧
  ∀ t,2*T≤t→t*bs<n→Run lt d r.1 (t*bs) (min (t*bs+bs) n))
  (fun y:List Int×Int×YY22×Int×Int×Int=>y.2.1=n∧y.2.2.1=C∧y.2.2.2.1=bs∧y.2.2.2.2.2=y.2.2.2.2.1+2*bs∧y.1.length=d.length∧∃ T:Int,0≤T∧y.2.2.2.2.1=2*(T*bs)∧y.2.2.2.2.1≤n∧(∀ t,0≤t→t<T→Run lt d y.1 (2*(t*bs)) (2*(t*bs)+2*bs)) ∧
   ∀ t,2*T≤t→t*bs<n→Run lt d y.1 (t*bs) (min (t*bs+bs) n))
  (fun y=>(n-y.2.2.2.2.1).toNat) ?_ _ _ ⟨rfl,rfl,rfl,by dsimp only; omega,hl0,0,Int.le_refl _,by dsimp only; omega,by dsimp only; omega,fun t t0 t1=>by omega,fun t t0 t1=>hR t (by omega) t1⟩ (by unfold fuel; dsimp only; omega)
 rintro next ⟨y,n',C',bs',a,b⟩ hI hn'
 dsimp only at hI hn'
 obtain ⟨rfl,rfl,rfl,rfl,hl,T,T0,rfl,a1,hr,hs⟩:=hI
 have hTb:0≤T*bs':=Int.mul_nonneg T0 (by omega)
 unfold uh4_
 dsimp only
 refine u8_.2 ⟨fun hc=>?_,fun hc=>ui_.2 ⟨hl,T,T0,rfl,a1,?_,hr,hs⟩⟩
 · have hc:=of_decide_eq_true hc
   rw [ubv_ (n:=2*(T*bs')+bs') (by omega) (by omega),ubv_ (n:=2*bs') (by omega) (by omega),ubv_ (n:=2*(T*bs')+2*bs'+2*bs') (by omega) (by omega)]
   have e1:2*T*bs'=2*(T*bs'):=Int.mul_assoc _ _ _
   have e2:(2*T+1)*bs'=2*(T*bs')+bs':=by rw [Int.add_mul,e1,Int.one_mul]
   have r1:=hs (2*T) (Int.le_refl _) (by omega)
   have r2:=hs (2*T+1) (by omega) (by omega)
   rw [e1,Int.min_eq_left (by omega)] at r1
   rw [e2,Int.min_eq_left (by omega),show 2*(T*bs')+bs'+bs'=2*(T*bs')+2*bs' by omega] at r2
   refine ud_.2 ((uciu_ (n:=n') hO hC hA (by omega) (by omega) (by omega) hc (by omega) (by omega) r1 r2).mono fun z hz=>?_)
   obtain ⟨z1,z2,z3⟩:=hz
   have e3:(T+1)*bs'=T*bs'+bs':=by rw [Int.add_mul,Int.one_mul]
   refine hn' _ ⟨rfl,rfl,rfl,rfl,by dsimp only; omega,T+1,by omega,by dsimp only; omega,by dsimp only; omega,fun t t0 t1=>?_,fun t t0 t1=>?_⟩ (by dsimp only; omega)
   · dsimp only
     have t2:0≤t*bs':=Int.mul_nonneg t0 (by omega)
     by_cases e:t=T
     · subst e; exact z2
     · have:=ucde_ (b:=bs') (show t+1≤T by omega) (by omega)
       rw [Int.add_mul,Int.one_mul] at this
       exact (hr t t0 (by omega)).same fun k k1 k2=>z3 k (by omega) (Or.inl (by omega))
   · dsimp only
     have:=ucde_ (b:=bs') (show 2*(T+1)≤t by omega) (by omega)
     rw [Int.mul_assoc,e3] at this
     exact (hs t (by omega) t1).same fun k k1 k2=>z3 k (by omega) (Or.inr (by omega))
 · have hc:=of_decide_eq_false hc
   dsimp only; omega
end Go.Ev.Pv
namespace Go.Ev.Pv
variable {lt:Int→Int→Prop} {P:Int→Prop} {C:Int×Int→Option Int}
theorem ucpz_ (d y0:List Int) (n:Int) (hO:SLO lt P) (hC:CMo C lt P) (hA:Asc P (gt d) 0 n) (hn0:0≤n) (hn:n≤d.length) (hd:d.length≤1048576) (hl0:y0.length=d.length) (hR:Runs lt d y0 20 n) :
 Tot (uez_ (y0,n,C,20)) (fun r=>r.length=d.length∧Sgm lt (gt r) 0 n):=by
 refine ucj_ (R:=fun r:List Int=>r.length=d.length∧Sgm lt (gt r) 0 n)
  (fun y:List Int×Int×YY22×Int=>y.2.1=n∧y.2.2.1=C∧0<y.2.2.2∧y.2.2.2≤2097152∧y.1.length=d.length∧Runs lt d y.1 y.2.2.2 n)
  (fun y=>(2097152-y.2.2.2).toNat) ?_ _ _ ⟨rfl,rfl,by dsimp only; omega,by dsimp only; omega,hl0,hR⟩ (by unfold fuel; dsimp only; omega)
 rintro next ⟨y,n',C',bs⟩ hI hn'
 dsimp only at hI hn'
 obtain ⟨rfl,rfl,b0,b1,hl,hR⟩:=hI
 unfold uh5_
 dsimp only
 refine u8_.2 ⟨fun hc=>?_,fun hc=>ui_.2 ⟨hl,?_⟩⟩
 · have hc:=of_decide_eq_true hc
   rw [ubv_ (n:=2*bs) (by omega) (by omega),ubv_ (n:=bs*2) (by omega) (by omega)]
   refine ud_.2 ((ucpy_ d y n' bs hO hC hA hn hd b0 hc hl hR).mono fun r6 h6=>?_)
   obtain ⟨z,a⟩:=r6
   obtain ⟨h1,T,T0,h2,h3,h4,h5,h6⟩:=h6
   dsimp only at h1 h2 h3 h4 h5 h6 ⊢
   subst h2
   have hTb:0≤T*bs:=Int.mul_nonneg T0 (by omega)
   have e1:2*T*bs=2*(T*bs):=Int.mul_assoc _ _ _
   have e2:(2*T+1)*bs=2*(T*bs)+bs:=by rw [Int.add_mul,e1,Int.one_mul]
   rw [ubv_ (n:=2*(T*bs)+bs) (by omega) (by omega)]
   have fin:∀ w:List Int,w.length=d.length→(2*(T*bs)<n'→Run lt d w (2*(T*bs)) n')→(∀ k,0≤k→k<2*(T*bs)→gt w k=gt z k)→Tot (next (w,n',C',bs*2)) (fun r=>r.length=d.length∧Sgm lt (gt r) 0 n'):=by
    intro w w1 w2 w3
    refine hn' _ ⟨rfl,rfl,by dsimp only; omega,by dsimp only; omega,w1,fun t t0 t1=>?_⟩ (by dsimp only; omega)
    dsimp only at t1 ⊢
    have e3:t*(bs*2)=2*(t*bs):=by rw [← Int.mul_assoc,Int.mul_comm (t*bs) 2]
    rw [e3] at t1 ⊢
    have t2:0≤t*bs:=Int.mul_nonneg t0 (by omega)
    rcases Int.lt_trichotomy t T with e | e | e
    · have:=ucde_ (b:=bs) (show t+1≤T by omega) (by omega)
      rw [Int.add_mul,Int.one_mul] at this
      rw [Int.min_eq_left (by omega),show 2*(t*bs)+bs*2=2*(t*bs)+2*bs by omega]
      exact (h5 t t0 e).same fun k k1 k2=>w3 k (by omega) (by omega)
    · subst e
      rw [Int.min_eq_right (by omega)]
      exact w2 t1
    · have:=ucde_ (b:=bs) (show T+1≤t by omega) (by omega)
      rw [Int.add_mul,Int.one_mul] at this
      omega
   refine u8_.2 ⟨fun hq=>?_,fun hq=>?_⟩
   · have hq:=of_decide_eq_true hq
     have r1:=h6 (2*T) (Int.le_refl _) (by omega)
     have r2:=h6 (2*T+1) (by omega) (by omega)
     rw [e1,Int.min_eq_left (by omega)] at r1
     rw [e2,Int.min_eq_right (by omega)] at r2
     refine ud_.2 ((uciu_ (n:=n') hO hC hA (by omega) (by omega) hq (Int.le_refl _) (by omega) (by omega) r1 r2).mono fun w hw=>?_)
     exact fin w (by omega) (fun _=>hw.2.1) fun k k0 k1=>hw.2.2 k k0 (Or.inl k1)
   · have hq:=of_decide_eq_false hq
     refine fin z h1 (fun h=>?_) fun k _ _=>rfl
     have r1:=h6 (2*T) (Int.le_refl _) (by omega)
     rwa [e1,Int.min_eq_right (by omega)] at r1
 · have hc:=of_decide_eq_false hc
   by_cases e:n'=0
   · subst e; exact ucq0_ _ _
   · have:=hR 0 (Int.le_refl _) (by omega)
     rw [Int.zero_mul,Int.min_eq_right (by omega)] at this
     exact this.sg
theorem uckf_ (d:List Int) (hO:SLO lt P) (hC:CMo C lt P) (hA:Asc P (gt d) 0 d.length) (hd:d.length≤1048576) (hT:CT C d):Tot (u5_ (d,C)) (fun r=>r.Perm d∧Sgm lt (gt r) 0 d.length):=by
 obtain ⟨r,hr,_,hp⟩:=u3m_ (d,C) ⟨hT,hd⟩
 refine ⟨r,hr,hp,?_⟩
 have:Tot (u5_ (d,C)) (fun r=>Sgm lt (gt r) 0 d.length):=by
  unfold u5_ uek_
  dsimp only
  refine ud_.2 (ud_.2 ((ucpx_ d d.length hO hC hA (by omega) (by omega) hd).mono fun r2 h2=>?_))
  obtain ⟨y,a⟩:=r2
  obtain ⟨h1,T,T0,h2,h3,h4,h5,h6⟩:=h2
  dsimp only at h1 h2 h3 h4 h5 h6 ⊢
  subst h2
  have hasc:Asc P (gt y) (T*20) d.length:=⟨fun i j i1 ij j1=>by rw [h6 i i1,h6 j (by omega)]; exact hA.1 i j (by omega) ij (by omega),fun k k1 k2=>by rw [h6 k k1]; exact hA.2 k (by omega) (by omega)⟩
  refine ud_.2 ((ucns_ y (T*20) d.length hO hC hasc (by omega) (by omega) h3 (by omega)).mono fun r3 h7=>?_)
  refine ud_.2 ((ucpz_ d r3 d.length hO hC hA (by omega) (Int.le_refl _) hd (by have:=h7.len; omega) fun t t0 t1=>?_).mono fun r8 h8=>ui_.2 (ui_.2 h8.2))
  by_cases e:t<T
  · rw [Int.min_eq_left (by omega)]
    exact (h5 t t0 e).same fun k k1 k2=>h7.out k (by omega) (Or.inl (by omega))
  · obtain rfl:t=T:=by omega
    rw [Int.min_eq_right (by omega)]
    exact Run.of h7 fun k k1 k2=>h6 k k1
 obtain ⟨r',q1,q2⟩:=this
 rw [hr] at q1
 cases q1
 exact q2
end Go.Ev.Pv
namespace Go.Ev.Pv
abbrev Bs:=Int×(List Adv)×(List Int)
abbrev Dl:=Int×Int×(List Adv)×(List Str)
theorem ucuj_ (a b:Str):(Op.bytesLess a b||eqS a b) = !decide (b<a):=by
 rw [uchk_,ubu7_]
 rcases stri a b with h | h | h
 · simp [h,sasym h]
 · subst h; simp [sirr]
 · have:a≠b:=fun e=>by subst e; exact sirr _ h
   simp [h,sasym h,this]
def BB (b:Bs):Prop:=∀ a∈b.2.1,AdB a
def DB (d:Dl):Prop:=d.2.2.1.length≤1048576∧∀ a∈d.2.2.1,AdB a
theorem ucnt_ {α β:Type} (r:(α→Option β)→α→Option β) (x:α):loopN r fuel x=r (loopN r (fuel-1)) x:=by
 have e:fuel=(fuel-1)+1:=by unfold fuel; omega
 rw [e]; rfl
theorem uy4_ {α:Type} {l:List α} {i:Nat} {a:α} (h:l[i]? = some a):l.take (i+1)=l.take i++[a]:=by
 rw [List.take_add_one,h]; rfl
end Go.Ev.Pv
namespace Go.Ev.Pv
theorem ucvp_ (l:List Str) (h:l.length≤1048576):um2_ (l,l)=some true:=by
 have:Tot (unv_ (l,l,(l.length:Int),0)) (fun r=>r=.inl ()):=by
  refine ucj_ (R:=fun r:Sum Unit Bool=>r=.inl ()) (fun y:(List Str)×(List Str)×Int×Int=>y.1=l∧y.2.1=l∧y.2.2.1=l.length∧0≤y.2.2.2∧y.2.2.2≤l.length) (fun y=>((l.length:Int)-y.2.2.2).toNat) ?_ _ _ ⟨rfl,rfl,rfl,Int.le_refl _,Int.natCast_nonneg _⟩ (by unfold fuel; dsimp only; omega)
  rintro next ⟨a,b,n,i⟩ hI hn
  dsimp only at hI hn
  obtain ⟨rfl,rfl,rfl,i0,i1⟩:=hI
  unfold uy6_
  dsimp only
  refine u8_.2 ⟨fun hc=>?_,fun _=>ui_.2 rfl⟩
  have hc:=of_decide_eq_true hc
  rw [ubv_ (by omega) (by omega)]
  refine ud_.2 (u23_.2 ⟨⟨i0,hc⟩,fun y hy=>ud_.2 (u23_.2 ⟨⟨i0,hc⟩,fun z hz=>?_⟩)⟩)
  rw [hy] at hz
  cases hz
  rw [ubu7_]
  simp only [decide_true,Bool.not_true,cond_false]
  exact hn _ ⟨rfl,rfl,rfl,by dsimp only; omega,by dsimp only; omega⟩ (by dsimp only; omega)
 obtain ⟨r,hr,rfl⟩:=this
 unfold um2_
 dsimp only
 rw [u0u_,hr]
 simp
theorem ucuk_ (l:List Int) (h:l.length≤1048576):unw_ (l,l)=some true:=by
 have:Tot (uts_ (l,l,(l.length:Int),0)) (fun r=>r=.inl ()):=by
  refine ucj_ (R:=fun r:Sum Unit Bool=>r=.inl ()) (fun y:(List Int)×(List Int)×Int×Int=>y.1=l∧y.2.1=l∧y.2.2.1=l.length∧0≤y.2.2.2∧y.2.2.2≤l.length) (fun y=>((l.length:Int)-y.2.2.2).toNat) ?_ _ _ ⟨rfl,rfl,rfl,Int.le_refl _,Int.natCast_nonneg _⟩ (by unfold fuel; dsimp only; omega)
  rintro next ⟨a,b,n,i⟩ hI hn
  dsimp only at hI hn
  obtain ⟨rfl,rfl,rfl,i0,i1⟩:=hI
  unfold u73_
  dsimp only
  refine u8_.2 ⟨fun hc=>?_,fun _=>ui_.2 rfl⟩
  have hc:=of_decide_eq_true hc
  rw [ubv_ (by omega) (by omega)]
  refine ud_.2 (u23_.2 ⟨⟨i0,hc⟩,fun y hy=>ud_.2 (u23_.2 ⟨⟨i0,hc⟩,fun z hz=>?_⟩)⟩)
  rw [hy] at hz
  cases hz
  rw [u0u_]
  simp only [decide_true,Bool.not_true,cond_false]
  exact hn _ ⟨rfl,rfl,rfl,by dsimp only; omega,by dsimp only; omega⟩ (by dsimp only; omega)
 obtain ⟨r,hr,rfl⟩:=this
 unfold unw_
 dsimp only
 rw [u0u_,hr]
 simp
end Go.Ev.Pv
namespace Go.Ev.Pv
theorem ucp0_ {α:Type} {f:α→Str} {s t:List α} (h:s.Perm t) (h1:s.Pairwise (fun x y=>f x<f y)) (h2:t.Pairwise (fun x y=>f x<f y)):s=t :=
 List.Perm.eq_of_pairwise (le:=fun x y=>f x<f y) (fun a b _ _ g1 g2=>absurd g2 (sasym g1)) h1 h2 h
section
variable {b:Bs} {d:Dl} (hb:BB b) (hbl:b.2.1.length≤1048576) (hd:DB d) (h0:d.2.2.2=[])
end
end Go.Ev.Pv
namespace Go.Ev.Pv
abbrev Fd:=(List UInt8)×(List UInt8)×Int×Int×Int×(List (List UInt8))×(List UInt8)×(List ((List UInt8)×(List (((List UInt8)×Int)×(List UInt8)))×(List ((List UInt8)×(List UInt8)))))×Int
def fd0:Fd:=([],[],0,0,0,[],[],[],0)
def lg (l:List Fd) (i:Int):Fd:=l.getD i.toNat fd0
theorem at_lg {l:List Fd} {i:Int} (h0:0≤i) (h1:i<l.length):at? l i=some (lg l i):=by
 unfold at? lg
 rw [decide_eq_true h0]
 have:i.toNat<l.length:=by omega
 simp [List.getD,this]
theorem ucp1_ {out:List Int} {k:Nat} (h:k<out.length) (z:Int) (m:Nat) (hm:m≤out.length) (hk:k<m):(out.take m++z::out.drop m).getD k 0=out[k]:=by
 have h1:k<(out.take m).length:=by rw [List.length_take]; omega
 simp only [List.getD,List.getElem?_append_left h1,List.getElem?_take,if_pos hk]
 simp [h]
theorem ucnu_ {out:List Int} (z y:Int) (m:Nat) (hm:m≤out.length):(out.take m++z::out.drop m).set m y=out.take m++y::out.drop m:=by
 have h1:(out.take m).length=m:=by rw [List.length_take]; omega
 rw [List.set_append_right _ _ (by omega),h1,Nat.sub_self]
 rfl
theorem r7_l3 (l:List Fd) (out:List Int) (i:Int) (bf:Fd→Fd→Bool) (hbf:∀ a b,a∈l→b∈l→uboz_ (a,b)=some (bf a b)) (hl:l.length≤1048576) (hi0:0≤i) (hi1:i<l.length) (ho:∀ x∈out,0≤x∧x<l.length) (hol:out.length≤1048576) :
 Tot (ubzl_ (l,out++[i],i,(out.length:Int))) (fun r=>∃ s:Nat,r.2=(s:Int)∧s≤out.length∧(∃ z,r.1=out.take s++z::out.drop s)∧(∀ x∈out.drop s,bf (lg l i) (lg l x)=true)∧(∀ h:0<s,∀ y,out[s-1]? = some y→bf (lg l i) (lg l y)=false)):=by
 have hmem:∀ x:Int,0≤x→x<(l.length:Int)→lg l x∈l:=fun x x0 x1=>by
  have h:=at_lg x0 x1
  unfold at? at h
  rw [decide_eq_true x0] at h
  exact List.mem_of_getElem? h
 refine ucj_ (R:=fun r:List Int×Int=>∃ s:Nat,r.2=(s:Int)∧s≤out.length∧(∃ z,r.1=out.take s++z::out.drop s)∧(∀ x∈out.drop s,bf (lg l i) (lg l x)=true)∧(∀ h:0<s,∀ y,out[s-1]? = some y→bf (lg l i) (lg l y)=false))
  (fun y:List Fd×List Int×Int×Int=>y.1=l∧y.2.2.1=i∧∃ s:Nat,y.2.2.2=(s:Int)∧s≤out.length∧(∃ z,y.2.1=out.take s++z::out.drop s)∧∀ x∈out.drop s,bf (lg l i) (lg l x)=true)
  (fun y=>y.2.2.2.toNat) ?_ _ _ ⟨rfl,rfl,out.length,rfl,Nat.le_refl _,⟨i,by simp⟩,by simp⟩ (by unfold fuel; dsimp only; omega)
 rintro next ⟨l',data,i',k⟩ hI hn
 dsimp only at hI hn
 obtain ⟨rfl,rfl,s,rfl,s1,⟨z,rfl⟩,hs⟩:=hI
 unfold ucae_
 dsimp only
 have hlen:(out.take s++z::out.drop s).length=out.length+1:=by simp; omega
 by_cases hk:0<s
 · have hw:IntKind.i64.wrap ((s:Int)-1)=(s:Int)-1:=ubv_ (by omega) (by omega)
   have hk':(0:Int)<(s:Int):=by omega
   have hsn:((s:Int)-1).toNat=s-1:=by omega
   have hgd:=ucp1_ (out:=out) (k:=s-1) (by omega) z s s1 (by omega)
   obtain ⟨y0,y1⟩:=ho out[s-1] (List.getElem_mem _)
   simp only [hw,decide_eq_true hk',cond_true,Bool.true_and,hsn,hgd,Int.toNat_natCast]
   rw [at_lg hi0 hi1,at_lg y0 y1]
   refine ud_.2 (ui_.2 (ud_.2 (uf0_.2 ⟨⟨by omega,by omega⟩,?_⟩)))
   refine ud_.2 (ui_.2 ?_)
   rw [hbf _ _ (hmem _ hi0 hi1) (hmem _ y0 y1)]
   refine ud_.2 (ui_.2 (u8_.2 ⟨fun hz=>?_,fun hz=>ui_.2 ⟨s,rfl,s1,⟨z,rfl⟩,hs,fun _ y hy=>?_⟩⟩))
   · refine ud_.2 (uf0_.2 ⟨⟨by omega,by omega⟩,?_⟩)
     refine ud_.2 (uf0_.2 ⟨⟨by omega,by omega⟩,?_⟩)
     have hd:out.drop (s-1)=out[s-1]::out.drop s:=by
      have:=List.drop_eq_getElem_cons (l:=out) (i:=s-1) (by omega)
      rwa [show s-1+1=s by omega] at this
     refine hn _ ⟨rfl,rfl,s-1,by dsimp only; omega,by omega,⟨out[s-1],?_⟩,fun x hx=>?_⟩ (by dsimp only; omega)
     · dsimp only
       rw [ucnu_ _ _ _ s1,hd]
       have:out.take s=out.take (s-1)++[out[s-1]]:=by
        have:=uy4_ (l:=out) (i:=s-1) (List.getElem?_eq_getElem (by omega))
        rwa [show s-1+1=s by omega] at this
       rw [this,List.append_assoc]; rfl
     · rw [hd] at hx
       rcases List.mem_cons.1 hx with rfl | hx
       · exact hz
       · exact hs x hx
   · rw [List.getElem?_eq_getElem (by omega)] at hy
     cases hy
     exact hz
 · obtain rfl:s=0:=by omega
   have hk':¬ (0:Int)<((0:Nat):Int):=by omega
   simp only [decide_eq_false hk',cond_false,Bool.false_and]
   refine ud_.2 (ui_.2 (ud_.2 (ui_.2 (ud_.2 (ui_.2 (ud_.2 (ui_.2 (ui_.2 ⟨0,rfl,s1,⟨z,rfl⟩,hs,fun h=>absurd h (by omega)⟩))))))))
structure SW (bf:Fd→Fd→Bool):Prop where
 asym:∀ a b,bf a b=true→bf b a=false
 ntr:∀ a b c,bf a b=true→bf c b=false→bf a c=true
def ltO (bf:Fd→Fd→Bool) (l:List Fd) (i j:Int):Prop:=bf (lg l i) (lg l j)=true∨bf (lg l j) (lg l i)=false∧i<j
def ubbc_ (n:Nat):List Int:=(List.range n).map fun i:Nat=>(i:Int)
theorem ucsq_ (l:List Fd) (bf:Fd→Fd→Bool) (hbf:∀ a b,a∈l→b∈l→uboz_ (a,b)=some (bf a b)) (hw:SW bf) (hl:l.length≤1048576) :
 Tot (ubo0_ (l,([]:List Int),0)) (fun r=>r.Perm (ubbc_ l.length)∧r.Pairwise (ltO bf l)):=by
 refine ucj_ (R:=fun r:List Int=>r.Perm (ubbc_ l.length)∧r.Pairwise (ltO bf l))
  (fun y:List Fd×List Int×Int=>y.1=l∧∃ t:Nat,y.2.2=(t:Int)∧t≤l.length∧y.2.1.Perm (ubbc_ t)∧y.2.1.Pairwise (ltO bf l))
  (fun y=>((l.length:Int)-y.2.2).toNat) ?_ _ _ ⟨rfl,0,rfl,by omega,List.Perm.refl _,List.Pairwise.nil⟩ (by unfold fuel; dsimp only; omega)
 rintro next ⟨l',out,i⟩ hI hn
 dsimp only at hI hn
 obtain ⟨rfl,t,rfl,t1,hp,hs⟩:=hI
 have hol:out.length=t:=by rw [hp.length_eq]; simp [ubbc_]
 have hin:∀ x∈out,0≤x∧x<(t:Int):=fun x hx=>by
  obtain ⟨j,hj,rfl⟩:=List.mem_map.1 (hp.mem_iff.1 hx)
  have:=List.mem_range.1 hj
  omega
 unfold ucaf_
 dsimp only
 refine u8_.2 ⟨fun hc=>?_,fun hc=>ui_.2 ?_⟩
 · have hc:=of_decide_eq_true hc
   rw [ubv_ (n:=(t:Int)+1) (by omega) (by omega)]
   refine ud_.2 (ub2s_.2 ⟨by simp only [List.length_cons,List.length_nil]; omega,?_⟩)
   refine ud_.2 ((r7_l3 l' out (t:Int) bf hbf hl (by omega) hc (fun x hx=>by have:=hin x hx; omega) (by omega)).mono fun r hr=>?_)
   obtain ⟨d,k⟩:=r
   obtain ⟨s,rfl,s1,⟨z,rfl⟩,h1,h2⟩:=hr
   have hlen:(out.take s++z::out.drop s).length=out.length+1:=by simp; omega
   dsimp only
   refine ud_.2 (uf0_.2 ⟨⟨by omega,by rw [hlen]; omega⟩,?_⟩)
   rw [Int.toNat_natCast,ucnu_ _ _ _ s1]
   have hs':(out.take s++out.drop s).Pairwise (ltO bf l'):=by rw [List.take_append_drop]; exact hs
   obtain ⟨p1,p2,p3⟩:=List.pairwise_append.1 hs'
   have hlow:∀ x∈out.take s,bf (lg l' t) (lg l' x)=false:=by
    intro x hx
    by_cases h0:0<s
    · have hy:out[s-1]? = some out[s-1]:=List.getElem?_eq_getElem (by omega)
      have hyf:=h2 h0 _ hy
      have htk:out.take s=out.take (s-1)++[out[s-1]]:=by
       have:=uy4_ (l:=out) (i:=s-1) hy
       rwa [show s-1+1=s by omega] at this
      rw [htk] at hx p1
      rcases List.mem_append.1 hx with hx | hx
      · have hxy:=(List.pairwise_append.1 p1).2.2 x hx _ (List.mem_singleton.2 rfl)
        have hyx:bf (lg l' out[s-1]) (lg l' x)=false:=hxy.elim (fun h=>hw.asym _ _ h) fun h=>h.1
        cases hb:bf (lg l' t) (lg l' x) with
        | false=>rfl
        | true=>rw [hw.ntr _ _ _ hb hyx] at hyf; cases hyf
      · rw [List.mem_singleton.1 hx]; exact hyf
    · obtain rfl:s=0:=by omega
      simp at hx
   refine hn _ ⟨rfl,t+1,by dsimp only; omega,by omega,?_,?_⟩ (by dsimp only; omega)
   · dsimp only
     have e:ubbc_ (t+1)=ubbc_ t++[(t:Int)]:=by unfold ubbc_; rw [List.range_succ,List.map_append]; rfl
     rw [e]
     refine List.perm_middle.trans ?_
     rw [List.take_append_drop]
     exact (List.Perm.cons _ hp).trans (List.perm_append_singleton _ _).symm
   · dsimp only
     rw [List.pairwise_append,List.pairwise_cons]
     refine ⟨p1,⟨fun x hx=>Or.inl (h1 x hx),p2⟩,fun x hx y hy=>?_⟩
     rcases List.mem_cons.1 hy with rfl | hy
     · exact Or.inr ⟨hlow x hx,(hin x (List.mem_of_mem_take hx)).2⟩
     · exact p3 x hx y hy
 · have hc:=of_decide_eq_false hc
   obtain rfl:t=l'.length:=by omega
   exact ⟨hp,hs⟩
end Go.Ev.Pv
namespace Go.Ev.Pv
def nms (a:Adv):List Str:=a.1::a.2.1
def Disj (l:List Adv):Prop:=∀ (i j:Nat) (a b:Adv) (s:Str),l[i]? = some a→l[j]? = some b→s∈nms a→s∈nms b→i=j
def Fst (n:Nat) (f:List Int) (ρ:Nat→Nat):Prop:=f.length=n∧∀ i,i<n→∃ j:Nat,f[i]? = some (j:Int)∧j≤i∧ρ j=ρ i∧(j=i→ρ i=i)
theorem Fst.set {n:Nat} {f:List Int} {ρ:Nat→Nat} (h:Fst n f ρ) {k m:Nat} (hk:k<n) (h1:m≤k) (h2:ρ m=ρ k) (h3:m=k→ρ k=k):Fst n (f.set k (m:Int)) ρ:=by
 refine ⟨by rw [List.length_set]; exact h.1,fun i hi=>?_⟩
 by_cases e:k=i
 · subst e
   exact ⟨m,by rw [List.getElem?_set_self (by rw [h.1]; exact hk)],h1,h2,h3⟩
 · rw [List.getElem?_set_ne e]
   exact h.2 i hi
theorem Fst.join {n:Nat} {f:List Int} {ρ:Nat→Nat} (h:Fst n f ρ) {a b:Nat} (ha:a<n) (hb:b≤a) (ra:ρ a=a) (rb:ρ b=b):Fst n (f.set a (b:Int)) (fun k=>if ρ k=a then b else ρ k):=by
 refine ⟨by rw [List.length_set]; exact h.1,fun i hi=>?_⟩
 by_cases e:a=i
 · subst e
   refine ⟨b,by rw [List.getElem?_set_self (by rw [h.1]; exact ha)],hb,?_,fun hba=>?_⟩
   · dsimp only; rw [ra,rb]
     by_cases hz:b=a <;> simp [hz]
   · dsimp only; rw [ra]; simp [hba]
 · rw [List.getElem?_set_ne e]
   obtain ⟨j,h1,h2,h3,h4⟩:=h.2 i hi
   refine ⟨j,h1,h2,?_,fun hj=>?_⟩
   · dsimp only; rw [h3]
   · have h5:=h4 hj
     have hne:¬ i=a:=fun h=>e h.symm
     dsimp only; rw [h5,if_neg hne]
theorem ucp2_ {α β:Type} [DecidableEq α] {eq:α→α→Bool} (he:∀ x y,eq x y=decide (x=y)) (k k':α) (v:β):∀ m:List (α×β),uck_ eq k (putKV eq k' v m)=if k=k' then some v else uck_ eq k m:=by
 intro m
 induction m with
 | nil =>
   simp only [putKV,uck_,he]
   by_cases h:k=k' <;> simp [h]
 | cons e r ih =>
   obtain ⟨a,b⟩:=e
   simp only [putKV,he]
   by_cases h:k'=a
   · subst h
     simp only [decide_true,cond_true,uck_,he]
     by_cases h2:k=k' <;> simp [h2]
   · simp only [decide_eq_false h,cond_false,uck_,he,ih]
     by_cases h2:k=a
     · subst h2
       have h3:¬ k=k':=fun e=>h e.symm
       simp [h3]
     · simp [h2]
structure Seen (l:List Adv) (ρ:Nat→Nat) (seen:List (Str×Int)) (i:Nat) (done:List Str):Prop where
 val:∀ s v,uck_ eqS s seen=some v→∃ (j:Nat) (a:Adv),v=(j:Int)∧l[j]? = some a∧s∈nms a
 old:∀ i' a s,i'<i→l[i']? = some a→s∈nms a→∃ j:Nat,uck_ eqS s seen=some (j:Int)∧ρ j=ρ i'
 new:∀ s,s∈done→∃ j:Nat,uck_ eqS s seen=some (j:Int)∧ρ j=ρ i
 same:Disj l→∀ k,k<l.length→ρ k=k
end Go.Ev.Pv
namespace Go.Ev.Pv
end Go.Ev.Pv
namespace Go.Ev.Pv
end Go.Ev.Pv
namespace Go.Ev.Pv
theorem ucp3_ {a b c:Str} (h1:a≤b) (h2:b≤c):a≤c:=List.le_trans h1 h2
theorem ucp4_ (a b:Str):a≤b∨b≤a:=List.le_total a b
end Go.Ev.Pv
namespace Go.Ev.Pv
def lexB (p q:Fd→Fd→Bool) (a b:Fd):Bool:=p a b||(!p b a&&q a b)
theorem SW.lex {p q:Fd→Fd→Bool} (hp:SW p) (hq:SW q):SW (lexB p q):=by
 refine ⟨fun a b h=>?_,fun a b c h1 h2=>?_⟩
 · unfold lexB at h ⊢
   cases hab:p a b with
   | true=>rw [hp.asym _ _ hab]; rfl
   | false =>
     rw [hab] at h
     simp only [Bool.false_or,Bool.and_eq_true,Bool.not_eq_true'] at h
     rw [h.1,hq.asym _ _ h.2]; rfl
 · unfold lexB at h1 h2 ⊢
   obtain ⟨n1,n2⟩:=Bool.or_eq_false_iff.1 h2
   cases hab:p a b with
   | true=>rw [hp.ntr _ _ _ hab n1]; rfl
   | false =>
     rw [hab] at h1
     simp only [Bool.false_or,Bool.and_eq_true,Bool.not_eq_true'] at h1
     obtain ⟨m1,m2⟩:=h1
     cases hac:p a c with
     | true=>rfl
     | false =>
       have hca:p c a=false:=by
        cases hca:p c a with
        | false=>rfl
        | true=>rw [hp.ntr _ _ _ hca m1] at n1; cases n1
       have hbc:p b c=false:=by
        cases hbc:p b c with
        | false=>rfl
        | true=>rw [hp.ntr _ _ _ hbc hac] at m1; cases m1
       rw [hbc] at n2
       simp only [Bool.not_false,Bool.true_and] at n2
       rw [hca,hq.ntr _ _ _ m2 n2]; rfl
theorem ucsr_ (f:Fd→Int):SW (fun a b=>decide (f a<f b)):=⟨fun a b h=>by have:=of_decide_eq_true h; exact decide_eq_false (by omega),fun a b c h1 h2=>by
 have:=of_decide_eq_true h1; have:=of_decide_eq_false h2; exact decide_eq_true (by omega)⟩
theorem ucul_ (f:Fd→Str):SW (fun a b=>decide (f a<f b)):=⟨fun a b h=>decide_eq_false (sasym (of_decide_eq_true h)),fun a b c h1 h2=>by
 have h1:=of_decide_eq_true h1; have h2:=of_decide_eq_false h2
 rcases stri (f a) (f c) with h | h | h
 · exact decide_eq_true h
 · rw [h] at h1; exact absurd h1 h2
 · exact absurd (ucsm_ h h1) h2⟩
noncomputable def rk (a:Fd):Int:=(ubkj_ a).getD 0
def stOk (a:Fd):Prop:=0≤a.2.2.2.1∧a.2.2.2.1<7
theorem ucp5_ {a:Fd} (h:stOk a):ubkj_ a=some (rk a):=by
 have:Tot (ubkj_ a) fun _=>True:=by
  unfold ubkj_
  exact ud_.2 (u23_.2 ⟨⟨h.1,h.2⟩,fun y _=>ui_.2 trivial⟩)
 obtain ⟨y,hy,_⟩:=this
 unfold rk
 rw [hy]; rfl
theorem ucnv_ {a:Fd} (h:stOk a):unt_ a=some (rk a):=by
 rw [← ucp5_ h]
 rfl
noncomputable def bfd:Fd→Fd→Bool:=lexB (fun a b=>decide (-rk a < -rk b)) (lexB (fun a b=>decide ((a.2.2.2.2.2.1.length:Int)<(b.2.2.2.2.2.1.length:Int))) (lexB (fun a b=>decide (a.1<b.1)) (lexB (fun a b=>decide (a.2.1<b.2.1)) (fun a b=>decide (a.2.2.1<b.2.2.1)))))
theorem ucnw_:SW bfd:=SW.lex (ucsr_ fun a=>-rk a) (SW.lex (ucsr_ fun a=>(a.2.2.2.2.2.1.length:Int)) (SW.lex (ucul_ fun a=>a.1) (SW.lex (ucul_ fun a=>a.2.1) (ucsr_ fun a=>a.2.2.1))))
theorem before_eq {a b:Fd} (ha:stOk a) (hb:stOk b):uboz_ (a,b)=some (bfd a b):=by
 unfold uboz_
 dsimp only
 rw [ucp5_ ha,ucp5_ hb]
 simp only [Option.bind_some,u0u_,ubu7_,uchk_]
 unfold bfd lexB
 dsimp only
 by_cases h1:rk a=rk b
 · have e1:¬ -rk b < -rk b:=by omega
   simp only [h1,decide_true,Bool.not_true,cond_false,decide_eq_false e1,Bool.false_or,Bool.not_false,Bool.true_and]
   by_cases h2:(a.2.2.2.2.2.1.length:Int)=(b.2.2.2.2.2.1.length:Int)
   · have e3:¬ (b.2.2.2.2.2.1.length:Int)<(b.2.2.2.2.2.1.length:Int):=by omega
     simp only [h2,decide_true,Bool.not_true,cond_false,decide_eq_false e3,Bool.false_or,Bool.not_false,Bool.true_and]
     by_cases h3:a.1=b.1
     · simp only [h3,decide_true,Bool.not_true,cond_false,decide_eq_false (sirr b.1),Bool.false_or,Bool.not_false,Bool.true_and]
       by_cases h4:a.2.1=b.2.1
       · simp only [h4,decide_true,Bool.not_true,cond_false,decide_eq_false (sirr b.2.1),Bool.false_or,Bool.not_false,Bool.true_and]
       · simp only [decide_eq_false h4,Bool.not_false,cond_true]
         rcases stri a.2.1 b.2.1 with h | h | h
         · simp [h]
         · exact absurd h h4
         · simp [h,sasym h]
     · simp only [decide_eq_false h3,Bool.not_false,cond_true]
       rcases stri a.1 b.1 with h | h | h
       · simp [h]
       · exact absurd h h3
       · simp [h,sasym h]
   · simp only [decide_eq_false h2,Bool.not_false,cond_true]
     by_cases h:(a.2.2.2.2.2.1.length:Int)<(b.2.2.2.2.2.1.length:Int)
     · simp only [decide_eq_true h,Bool.true_or]
     · have h':(b.2.2.2.2.2.1.length:Int)<(a.2.2.2.2.2.1.length:Int):=by omega
       simp only [decide_eq_false h,decide_eq_true h',Bool.not_true,Bool.false_and,Bool.or_self]
 · simp only [decide_eq_false h1,Bool.not_false,cond_true]
   by_cases h:rk b<rk a
   · have e1:-rk a < -rk b:=by omega
     simp only [decide_eq_true h,decide_eq_true e1,Bool.true_or]
   · have e1:¬ -rk a < -rk b:=by omega
     have e2:-rk b < -rk a:=by omega
     simp only [decide_eq_false h,decide_eq_false e1,decide_eq_true e2,Bool.not_true,Bool.false_and,Bool.or_self]
theorem ucvq_ (a b c:Int):uy5_ [a,b,c]=some (if a=0 then if b=0 then c else b else a):=by
 unfold uy5_ ubkm_
 rw [ucnt_]
 have e1:fuel-1=(fuel-2)+1:=by unfold fuel; omega
 have e2:fuel-2=(fuel-3)+1:=by unfold fuel; omega
 have e3:fuel-3=(fuel-4)+1:=by unfold fuel; omega
 have h0:at? [a,b,c] 0=some a:=rfl
 have h1:at? [a,b,c] 1=some b:=rfl
 have h2:at? [a,b,c] 2=some c:=rfl
 rw [e1,e2,e3]
 show ((ug1_ (ug1_ (ug1_ (ug1_ (loopN ug1_ (fuel-4))))) ((0:Int),[a,b,c],(3:Int),0)).bind _)=_
 have w1:IntKind.i64.wrap 1=1:=by decide
 have w2:IntKind.i64.wrap 2=2:=by decide
 have w3:IntKind.i64.wrap (1+1)=2:=by decide
 have w4:IntKind.i64.wrap (2+1)=3:=by decide
 have w5:IntKind.i64.wrap 3=3:=by decide
 by_cases ha:a=0
 · subst ha
   by_cases hb:b=0
   · subst hb
     by_cases hc:c=0
     · subst hc
       simp [ug1_,h0,h1,h2,w1,w2,w3,w4,w5,u0u_]
     · simp [ug1_,h0,h1,h2,w1,w2,w3,w4,w5,u0u_,hc]
   · simp [ug1_,h0,h1,w1,w2,w3,u0u_,hb]
 · simp [ug1_,h0,u0u_,ha]
end Go.Ev.Pv
namespace Go.Ev.Pv
def CmpOf (c:Int) (p:Fd→Fd→Bool) (a b:Fd):Prop:=(c<0↔p a b=true)∧(c=0↔p a b=false∧p b a=false)
theorem CmpOf.lex {c x:Int} {p q:Fd→Fd→Bool} {a b:Fd} (h:CmpOf c p a b) (hx:x<0↔q a b=true):(if c=0 then x else c)<0↔lexB p q a b=true:=by
 unfold lexB
 rw [Bool.or_eq_true,Bool.and_eq_true,Bool.not_eq_true']
 by_cases e:c=0
 · rw [if_pos e]
   obtain ⟨h1,h2⟩:=h.2.1 e
   rw [hx,h1,h2]; simp
 · rw [if_neg e,h.1]
   constructor
   · exact Or.inl
   · rintro (w | ⟨w1,w2⟩)
     · exact w
     · cases hp:p a b with
       | true=>rfl
       | false=>exact absurd (h.2.2 ⟨hp,w1⟩) e
theorem ucdf_ (f:Fd→Int) (a b:Fd):CmpOf (cmpI (f a) (f b)) (fun a b=>decide (f a<f b)) a b:=by
 unfold CmpOf cmpI
 dsimp only
 rcases Int.lt_trichotomy (f a) (f b) with h | h | h
 · simp [h]
 · simp [h]
 · have:¬ f a<f b:=by omega
   simp [h,this]
theorem uciv_ (f:Fd→Str) (a b:Fd):CmpOf (cmpS (f a) (f b)) (fun a b=>decide (f a<f b)) a b:=by
 unfold CmpOf cmpS
 dsimp only
 rcases stri (f a) (f b) with h | h | h
 · simp [h]
 · simp [h,sirr]
 · have h1:¬ f a<f b:=sasym h
   have h2:¬ f a=f b:=fun e=>by rw [e] at h; exact sirr _ h
   simp [h,h1,h2]
theorem ucss_ (a b:Fd):CmpOf (cmpI (rk b) (rk a)) (fun a b=>decide (-rk a < -rk b)) a b:=by
 have h:cmpI (rk b) (rk a)=cmpI (-rk a) (-rk b):=by
  unfold cmpI
  repeat' split
  all_goals omega
 rw [h]
 exact ucdf_ (fun a=>-rk a) a b
theorem ucnx_ (l:List Fd) (hst:∀ a∈l,stOk a) (i j:Int) (i0:0≤i) (i1:i<l.length) (j0:0≤j) (j1:j<l.length) :
 ∃ c,((ujs_ (i,j,some l)).bind fun r=>some r)=some c∧(c<0↔bfd (lg l i) (lg l j)=true):=by
 have hm:∀ x:Int,0≤x→x<(l.length:Int)→lg l x∈l:=fun x x0 x1=>by
  have h:=at_lg x0 x1
  unfold at? at h
  rw [decide_eq_true x0] at h
  exact List.mem_of_getElem? h
 have hi:=hst _ (hm i i0 i1)
 have hj:=hst _ (hm j j0 j1)
 unfold ujs_ u0z_ u71_
 dsimp only
 simp only [Option.bind_some,at_lg i0 i1,at_lg j0 j1,ucnv_ hi,ucnv_ hj,ub1u_,ubq8_,ucvq_]
 refine ⟨_,rfl,?_⟩
 unfold bfd
 refine (ucss_ _ _).lex ?_
 refine (ucdf_ (fun a=>(a.2.2.2.2.2.1.length:Int)) _ _).lex ?_
 refine (uciv_ (fun a=>a.1) _ _).lex ?_
 refine (uciv_ (fun a=>a.2.1) _ _).lex ?_
 exact (ucdf_ (fun a=>a.2.2.1) _ _).1
theorem ucvr_ (n:Nat) (hn:n≤1048576):Tot (utr_ (([]:List Int),(n:Int),0)) (fun r=>r=ubbc_ n):=by
 refine ucj_ (R:=fun r:List Int=>r=ubbc_ n) (fun y:List Int×Int×Int=>y.2.1=n∧∃ t:Nat,y.2.2=(t:Int)∧t≤n∧y.1=ubbc_ t)
  (fun y=>((n:Int)-y.2.2).toNat) ?_ _ _ ⟨rfl,0,rfl,by omega,rfl⟩ (by unfold fuel; dsimp only; omega)
 rintro next ⟨out,n',i⟩ hI hn'
 dsimp only at hI hn'
 obtain ⟨rfl,t,rfl,t1,rfl⟩:=hI
 unfold ubkn_
 dsimp only
 have hlen:(ubbc_ t).length=t:=by simp [ubbc_]
 refine u8_.2 ⟨fun hc=>?_,fun hc=>ui_.2 ?_⟩
 · have hc:=of_decide_eq_true hc
   rw [ubv_ (n:=(t:Int)+1) (by omega) (by omega)]
   refine ud_.2 (ub2s_.2 ⟨by simp only [List.length_cons,List.length_nil]; omega,?_⟩)
   refine hn' _ ⟨rfl,t+1,by dsimp only; omega,by omega,?_⟩ (by dsimp only; omega)
   dsimp only
   unfold ubbc_
   rw [List.range_succ,List.map_append]; rfl
 · have hc:=of_decide_eq_false hc
   rw [show t=n by omega]
theorem ucq1_ {bf:Fd→Fd→Bool} (hw:SW bf) (l:List Fd) (x:Int):¬ ltO bf l x x:=by
 rintro (h | h)
 · rw [hw.asym _ _ h] at h; cases h
 · omega
theorem ucum_ {bf:Fd→Fd→Bool} (hw:SW bf) (l:List Fd) {x y z:Int} (h1:ltO bf l x y) (h2:ltO bf l y z):ltO bf l x z:=by
 rcases h1 with h1 | ⟨h1,h1'⟩
 · rcases h2 with h2 | ⟨h2,_⟩
   · exact Or.inl (hw.ntr _ _ _ h1 (hw.asym _ _ h2))
   · exact Or.inl (hw.ntr _ _ _ h1 h2)
 · rcases h2 with h2 | ⟨h2,h2'⟩
   · refine Or.inl ?_
     cases hxz:bf (lg l x) (lg l z) with
     | true=>rfl
     | false=>rw [hw.ntr _ _ _ h2 hxz] at h1; cases h1
   · refine Or.inr ⟨?_,by omega⟩
     cases hzx:bf (lg l z) (lg l x) with
     | false=>rfl
     | true=>rw [hw.ntr _ _ _ hzx h1] at h2; cases h2
theorem ucun_ {bf:Fd→Fd→Bool} (l:List Fd) {x y:Int} (h:x≠y):ltO bf l x y∨ltO bf l y x:=by
 unfold ltO
 cases h1:bf (lg l x) (lg l y) <;> cases h2:bf (lg l y) (lg l x) <;> simp <;> omega
theorem ucst_ (l:List Fd) (hst:∀ a∈l,stOk a) (hl:l.length≤1048576) :
 ∃ r,ubo0_ (l,([]:List Int),0)=some r∧((utr_ (([]:List Int),(l.length:Int),0)).bind fun r3=>u5_ (r3,(fun x=>(ujs_ (x.1,x.2,(some l))).bind fun r=>some r)))=some r∧r.length=l.length:=by
 obtain ⟨r,hr,hp,hs⟩:=ucsq_ l bfd (fun a b ha hb=>before_eq (hst a ha) (hst b hb)) ucnw_ hl
 obtain ⟨q,hq,hq'⟩:=ucvr_ l.length hl
 subst hq'
 refine ⟨r,hr,?_,by rw [hp.length_eq]; simp [ubbc_]⟩
 rw [hq]
 have hlen:(ubbc_ l.length).length=l.length:=by simp [ubbc_]
 have hgt:∀ k,0≤k→k<(l.length:Int)→gt (ubbc_ l.length) k=k:=fun k k0 k1=>by
  unfold gt ubbc_
  have:k.toNat<l.length:=by omega
  simp [List.getD,this]; omega
 have hin:∀ x∈ubbc_ l.length,0≤x∧x<(l.length:Int):=fun x hx=>by
  obtain ⟨j,hj,rfl⟩:=List.mem_map.1 hx
  have:=List.mem_range.1 hj
  omega
 obtain ⟨r',h1,h2,h3⟩:=uckf_ (lt:=ltO bfd l) (P:=fun x=>0≤x∧x<(l.length:Int)) (C:=fun x=>(ujs_ (x.1,x.2,(some l))).bind fun r=>some r) (ubbc_ l.length)
  ⟨fun x _=>ucq1_ ucnw_ l x,fun x y z _ _ _=>ucum_ ucnw_ l,fun x y _ _=>ucun_ l⟩
  (fun x y hx hy hlt=>by
   obtain ⟨c,c1,c2⟩:=ucnx_ l hst x y hx.1 hx.2 hy.1 hy.2
   refine ⟨c,c1,c2.trans ⟨Or.inl,?_⟩⟩
   rintro (h | h)
   · exact h
   · omega)
  ⟨fun i j i0 ij j1=>by rw [hlen] at j1; rw [hgt i i0 (by omega),hgt j (by omega) j1]; exact ij,fun k k0 k1=>by rw [hlen] at k1; rw [hgt k k0 k1]; exact ⟨k0,k1⟩⟩ (by omega)
  (fun a b ha hb=>by
   obtain ⟨c,c1,_⟩:=ucnx_ l hst a b (hin a ha).1 (hin a ha).2 (hin b hb).1 (hin b hb).2
   exact ⟨c,c1,trivial⟩)
 show u5_ (ubbc_ l.length,_)=some r
 rw [h1]
 have hpw:r'.Pairwise (ltO bfd l):=by
  rw [List.pairwise_iff_getElem]
  intro i j hi hj hij
  have hl':=h2.length_eq
  have:=h3 (i:Int) (j:Int) (by omega) (by omega) (by omega)
  unfold gt at this
  simpa [List.getD,hi,hj] using this
 congr 1
 exact List.Perm.eq_of_pairwise (le:=ltO bfd l) (fun a b _ _ g1 g2=>absurd (ucum_ ucnw_ l g1 g2) (ucq1_ ucnw_ l a)) hpw hs (h2.trans hp.symm)
end Go.Ev.Pv
namespace Go.Ev.Pv
theorem ucny_ (a:Fd):uk2_ a=ug0_ a:=rfl
theorem ucsu_ (a:Fd):unt_ a=ubkj_ a:=rfl
theorem ucuo_:∀ (k:Nat) (l:List Fd) (i:Int),loopN uc4_ k (l,(l.length:Int),i)=loopN ui0_ k (l,i):=by
 intro k
 induction k with
 | zero=>intros; rfl
 | succ k ih =>
   intro l i
   show uc4_ (loopN uc4_ k) (l,(l.length:Int),i)=ui0_ (loopN ui0_ k) (l,i)
   generalize loopN uc4_ k=A at ih ⊢
   generalize loopN ui0_ k=B at ih ⊢
   unfold uc4_ ui0_
   dsimp only
   simp only [ucny_]
   congr 1
   congr 1
   funext y
   congr 1
   funext r
   rw [ih]
theorem ub4s_ (l:List Fd):ueq_ l=unu_ l:=by
 unfold ueq_ unu_ uk3_ u92_
 rw [ucuo_]
theorem uckg_:∀ (k:Nat) (l:List Fd) (n i:Int),loopN ug7_ k (n,l,(l.length:Int),i)=loopN u3q_ k (l,n,i):=by
 intro k
 induction k with
 | zero=>intros; rfl
 | succ k ih =>
   intro l n i
   show ug7_ (loopN ug7_ k) (n,l,(l.length:Int),i)=u3q_ (loopN u3q_ k) (l,n,i)
   generalize loopN ug7_ k=A at ih ⊢
   generalize loopN u3q_ k=B at ih ⊢
   unfold ug7_ u3q_
   dsimp only
   simp only [ucsu_]
   congr 1
   congr 1
   funext y
   congr 1
   funext r
   rw [ih]
theorem ucsv_ (l:List Fd):ush_ l=ucb0_ l:=by
 unfold ush_ ucb0_ u3u_ ubzh_
 simp only [ub4s_,uckg_]
theorem ucup_ (a:Fd):u3t_ a=ucmp_ a:=rfl
theorem ub74_ (l:List Fd):Tot (unu_ l) (fun r=>r=0→l.length≤100000∧∀ a∈l,stOk a):=by
 unfold unu_
 refine u8_.2 ⟨fun hc=>ui_.2 fun h=>(by cases h),fun hc=>?_⟩
 have hc:=of_decide_eq_false hc
 refine ud_.2 (Tot.mono (P:=fun r:Sum Unit Int=>(∀ u,r=.inl u→∀ a∈l,stOk a)∧∀ e,r=.inr e→e≠0) ?_ fun r hr=>?_)
 · refine ucj_ (R:=fun r:Sum Unit Int=>(∀ u,r=.inl u→∀ a∈l,stOk a)∧∀ e,r=.inr e→e≠0) (fun y:List Fd×Int=>y.1=l∧0≤y.2∧y.2≤l.length∧∀ a∈l.take y.2.toNat,stOk a)
    (fun y=>((l.length:Int)-y.2).toNat) ?_ _ _ ⟨rfl,Int.le_refl _,Int.natCast_nonneg _,by simp⟩ (by unfold fuel; dsimp only; omega)
   rintro next ⟨l',i⟩ hI hn
   dsimp only at hI hn
   obtain ⟨rfl,i0,i1,hs⟩:=hI
   unfold ui0_
   dsimp only
   refine u8_.2 ⟨fun hc=>?_,fun hc=>ui_.2 ⟨fun u _=>?_,fun e he=>(by cases he)⟩⟩
   · have hc:=of_decide_eq_true hc
     rw [ubv_ (n:=i+1) (by omega) (by omega)]
     refine ud_.2 (u23_.2 ⟨⟨i0,hc⟩,fun a ha=>?_⟩)
     have hf:Tot (ug0_ a) (fun r=>r=0→stOk a):=by
      unfold ug0_ ubki_
      dsimp only
      refine ud_.2 (ui_.2 (u8_.2 ⟨fun _=>ui_.2 fun h=>(by cases h),fun h1=>ud_.2 (ui_.2 (u8_.2 ⟨fun _=>ui_.2 fun h=>(by cases h),fun _=>ui_.2 fun _=>?_⟩))⟩))
      obtain ⟨q1,q2⟩:=Bool.or_eq_false_iff.1 h1
      have q1:=of_decide_eq_false q1
      have q2:=of_decide_eq_false q2
      exact ⟨by omega,by omega⟩
     refine ud_.2 (hf.mono fun r hr=>u8_.2 ⟨fun he=>ui_.2 ⟨fun u hu=>(by cases hu),fun e he'=>?_⟩,fun he=>?_⟩)
     · cases he'
       rw [u0u_] at he
       simpa using he
     · have he:r=0:=by rw [u0u_] at he; simpa using he
       refine hn _ ⟨rfl,by dsimp only; omega,by dsimp only; omega,?_⟩ (by dsimp only; omega)
       dsimp only
       rw [show (i+1).toNat=i.toNat+1 by omega,uy4_ ha]
       intro b hb
       rcases List.mem_append.1 hb with h | h
       · exact hs b h
       · rw [List.mem_singleton.1 h]; exact hr he
   · have hc:=of_decide_eq_false hc
     rwa [List.take_of_length_le (by omega)] at hs
 · rcases r with u | e
   · exact ui_.2 fun _=>⟨by omega,hr.1 u rfl⟩
   · exact ui_.2 fun h=>absurd h (hr.2 e rfl)
theorem ucnz_ (l:List Fd):∃ r,u72_ l=some r∧ucb2_ l=some r∧r.1.length≤100000:=by
 obtain ⟨e,he,hst⟩:=ub74_ l
 unfold u72_ ucb2_
 rw [ub4s_,he]
 simp only [Option.bind_some,u0u_]
 by_cases h0:e=0
 · subst h0
   obtain ⟨hl,hs⟩:=hst rfl
   obtain ⟨r,h1,h2,h3⟩:=ucst_ l hs (by omega)
   simp only [decide_true,Bool.not_true,cond_false]
   refine ⟨(r,0),?_,by rw [h1]; rfl,by dsimp only; omega⟩
   rw [← Option.bind_assoc,h2]; rfl
 · simp only [decide_eq_false h0,Bool.not_false,cond_true]
   exact ⟨_,rfl,rfl,Nat.zero_le _⟩
end Go.Ev.Pv
namespace Go.Ev.Pv
theorem ucuq_ {s t:List Str} (h1:s.Pairwise (fun x y=>x<y)) (h2:t.Pairwise (fun x y=>x<y)) (h:∀ x,x∈s↔x∈t):s=t:=by
 have nd:∀ {s:List Str},s.Pairwise (fun x y=>x<y)→s.Nodup:=fun h=>h.imp fun g e=>by rw [e] at g; exact sirr _ g
 exact ucp0_ (f:=fun x:Str=>x) ((List.perm_ext_iff_of_nodup (nd h1) (nd h2)).2 h) h1 h2
end Go.Ev.Pv
namespace Go.Ev.Pv
theorem ucp6_ {l:List Str} {i:Nat} {a:Str} (h:l[i]? = some a):l.drop i=a::l.drop (i+1):=by
 obtain ⟨h1,rfl⟩:=List.getElem?_eq_some_iff.1 h
 exact List.drop_eq_getElem_cons h1
theorem ucur_ (refs:List Str) (s:Str) (hl:refs.length≤100000) (hp:refs.Pairwise (fun x y=>x<y)) :
 Tot (ucph_ (refs,s)) (fun r=>r.Pairwise (fun x y=>x<y)∧(∀ x,x∈r↔x∈refs∨x=s)∧r.length≤refs.length+1):=by
 unfold ucph_
 dsimp only
 refine ud_.2 (Tot.mono (P:=fun q:Sum (List Str) (List Str)=>(∀ y,q=.inl y→y=refs∧∀ x∈refs,x<s)∧∀ y,q=.inr y→y.Pairwise (fun x y=>x<y)∧(∀ x,x∈y↔x∈refs∨x=s)∧y.length≤refs.length+1) ?_ fun q hq=>?_)
 · refine ucj_ (R:=fun q:Sum (List Str) (List Str)=>(∀ y,q=.inl y→y=refs∧∀ x∈refs,x<s)∧∀ y,q=.inr y→y.Pairwise (fun x y=>x<y)∧(∀ x,x∈y↔x∈refs∨x=s)∧y.length≤refs.length+1)
    (fun y:List Str×Str×List Str×Int=>y.1=refs∧y.2.1=s∧0≤y.2.2.2∧y.2.2.2≤refs.length∧y.2.2.1=refs.take y.2.2.2.toNat∧∀ x∈refs.take y.2.2.2.toNat,x<s)
    (fun y=>((refs.length:Int)-y.2.2.2).toNat) ?_ _ _ ⟨rfl,rfl,Int.le_refl _,Int.natCast_nonneg _,by simp,by simp⟩ (by unfold fuel; dsimp only; omega)
   rintro next ⟨l,s',out,i⟩ hI hn
   dsimp only at hI hn
   obtain ⟨rfl,rfl,i0,i1,rfl,hs⟩:=hI
   unfold ucik_
   dsimp only
   refine u8_.2 ⟨fun hc=>?_,fun hc=>ui_.2 ⟨fun y e=>?_,fun y e=>(by cases e)⟩⟩
   · have hc:=of_decide_eq_true hc
     rw [ubv_ (n:=i+1) (by omega) (by omega)]
     refine ud_.2 (u23_.2 ⟨⟨i0,hc⟩,fun x hx=>?_⟩)
     rw [ubu7_]
     refine u8_.2 ⟨fun he=>ui_.2 ⟨fun y e=>(by cases e),fun y e=>?_⟩,fun he=>?_⟩
     · cases e
       have he:=of_decide_eq_true he
       exact ⟨hp,fun z=>⟨Or.inl,fun h=>h.elim id fun h=>by rw [h,← he]; exact ucit_ hx⟩,by omega⟩
     have he:=of_decide_eq_false he
     refine ud_.2 (u23_.2 ⟨⟨i0,hc⟩,fun x' hx'=>?_⟩)
     rw [hx] at hx'; cases hx'
     rw [ucuj_,Bool.not_not]
     have htl:(l.take i.toNat).length≤l.length:=by rw [List.length_take]; omega
     refine u8_.2 ⟨fun hz=>?_,fun hz=>?_⟩
     · have hz:=of_decide_eq_true hz
       refine ud_.2 (ub2s_.2 ⟨by simp only [List.length_cons,List.length_nil]; omega,?_⟩)
       refine ud_.2 (ucuf_.2 ⟨⟨i0,by omega,by omega⟩,?_⟩)
       rw [show l.take ((l.length:Int).toNat)=l from List.take_of_length_le (by omega)]
       have hdl:(l.drop i.toNat).length≤l.length:=by rw [List.length_drop]; omega
       refine ud_.2 (ub2s_.2 ⟨by rw [List.length_append]; simp only [List.length_cons,List.length_nil]; omega,?_⟩)
       refine ui_.2 ⟨fun y e=>(by cases e),fun y e=>?_⟩
       cases e
       have hp':(l.take i.toNat++l.drop i.toNat).Pairwise (fun x y=>x<y):=by rw [List.take_append_drop]; exact hp
       obtain ⟨p1,p2,p3⟩:=List.pairwise_append.1 hp'
       have hd:l.drop i.toNat=x::l.drop (i.toNat+1):=ucp6_ hx
       refine ⟨?_,fun z=>?_,?_⟩
       · rw [List.append_assoc,List.pairwise_append]
         refine ⟨p1,?_,fun a ha b hb=>?_⟩
         · show (s'::l.drop i.toNat).Pairwise _
           rw [List.pairwise_cons]
           refine ⟨fun b hb=>?_,p2⟩
           rw [hd] at hb p2
           rcases List.mem_cons.1 hb with rfl | hb
           · exact hz
           · exact ucsm_ hz ((List.pairwise_cons.1 p2).1 b hb)
         · rcases List.mem_append.1 hb with hb | hb
           · rw [List.mem_singleton.1 hb]; exact hs a ha
           · exact p3 a ha b hb
       · have:z∈l↔z∈l.take i.toNat∨z∈l.drop i.toNat:=by
          conv=>lhs; rw [← List.take_append_drop i.toNat l]
          exact List.mem_append
         rw [List.mem_append,List.mem_append,List.mem_singleton,this]
         constructor
         · rintro ((h | h) | h)
           · exact Or.inl (Or.inl h)
           · exact Or.inr h
           · exact Or.inl (Or.inr h)
         · rintro ((h | h) | h)
           · exact Or.inl (Or.inl h)
           · exact Or.inr h
           · exact Or.inl (Or.inr h)
       · rw [List.length_append,List.length_append,List.length_take,List.length_drop]
         simp only [List.length_cons,List.length_nil]
         omega
     · have hz:=of_decide_eq_false hz
       refine ud_.2 (u23_.2 ⟨⟨i0,hc⟩,fun x' hx'=>?_⟩)
       rw [hx] at hx'; cases hx'
       refine ud_.2 (ub2s_.2 ⟨by simp only [List.length_cons,List.length_nil]; omega,?_⟩)
       refine hn _ ⟨rfl,rfl,by dsimp only; omega,by dsimp only; omega,?_,?_⟩ (by dsimp only; omega)
       · dsimp only
         rw [show (i+1).toNat=i.toNat+1 by omega,uy4_ hx]
       · dsimp only
         rw [show (i+1).toNat=i.toNat+1 by omega,uy4_ hx]
         intro z hzm
         rcases List.mem_append.1 hzm with h | h
         · exact hs z h
         · rw [List.mem_singleton.1 h]
           rcases stri x s' with g | g | g
           · exact g
           · exact absurd g he
           · exact absurd g hz
   · cases e
     have hc:=of_decide_eq_false hc
     rw [List.take_of_length_le (by omega)] at hs ⊢
     exact ⟨rfl,hs⟩
 · rcases q with y | y
   · obtain ⟨rfl,h⟩:=hq.1 y rfl
     refine ud_.2 (ub2s_.2 ⟨by simp only [List.length_cons,List.length_nil]; omega,ui_.2 ⟨?_,fun x=>by rw [List.mem_append,List.mem_singleton],by rw [List.length_append]; simp⟩⟩)
     rw [List.pairwise_append]
     exact ⟨hp,List.pairwise_singleton _ _,fun a ha b hb=>by rw [List.mem_singleton.1 hb]; exact h a ha⟩
   · exact ui_.2 (hq.2 y rfl)
end Go.Ev.Pv
namespace Go.Ev.Pv
theorem ucsw_ (l:List Fd) (hl:l.length≤100000):Tot (ubzi_ (l,([]:List Str),0)) (fun r=>r.Pairwise (fun x y=>x<y)∧(∀ x,x∈r↔∃ a∈l,a.2.1=x)∧r.length≤l.length):=by
 refine ucj_ (R:=fun r:List Str=>r.Pairwise (fun x y=>x<y)∧(∀ x,x∈r↔∃ a∈l,a.2.1=x)∧r.length≤l.length)
  (fun y:List Fd×List Str×Int=>y.1=l∧0≤y.2.2∧y.2.2≤l.length∧y.2.1.Pairwise (fun x y=>x<y)∧(∀ x,x∈y.2.1↔∃ a∈l.take y.2.2.toNat,a.2.1=x)∧(y.2.1.length:Int)≤y.2.2)
  (fun y=>((l.length:Int)-y.2.2).toNat) ?_ _ _ ⟨rfl,Int.le_refl _,Int.natCast_nonneg _,List.Pairwise.nil,by simp,by simp⟩ (by unfold fuel; dsimp only; omega)
 rintro next ⟨l',refs,i⟩ hI hn
 dsimp only at hI hn
 obtain ⟨rfl,i0,i1,hp,hm,hk⟩:=hI
 unfold ucab_
 dsimp only
 refine u8_.2 ⟨fun hc=>?_,fun hc=>ui_.2 ?_⟩
 · have hc:=of_decide_eq_true hc
   rw [ubv_ (n:=i+1) (by omega) (by omega)]
   refine ud_.2 (u23_.2 ⟨⟨i0,hc⟩,fun a ha=>?_⟩)
   refine ud_.2 ((ucur_ refs a.2.1 (by omega) hp).mono fun r hr=>?_)
   obtain ⟨r1,r2,r3⟩:=hr
   refine hn _ ⟨rfl,by dsimp only; omega,by dsimp only; omega,r1,fun x=>?_,by dsimp only; omega⟩ (by dsimp only; omega)
   dsimp only
   rw [show (i+1).toNat=i.toNat+1 by omega,uy4_ ha,r2,hm]
   constructor
   · rintro (⟨b,h1,h2⟩ | h)
     · exact ⟨b,List.mem_append.2 (Or.inl h1),h2⟩
     · exact ⟨a,List.mem_append.2 (Or.inr (List.mem_singleton.2 rfl)),h.symm⟩
   · rintro ⟨b,h1,h2⟩
     rcases List.mem_append.1 h1 with h | h
     · exact Or.inl ⟨b,h,h2⟩
     · rw [List.mem_singleton.1 h] at h2; exact Or.inr h2.symm
 · have hc:=of_decide_eq_false hc
   rw [List.take_of_length_le (by omega)] at hm
   exact ⟨hp,hm,by omega⟩
noncomputable def mx (l:List Fd) (s:Str):Int:=l.foldl (fun n a=>if a.2.1=s then maxI n (rk a) else n) 0
theorem ucn0_ (l:List Fd) (a:Fd) (s:Str):mx (l++[a]) s=if a.2.1=s then maxI (mx l s) (rk a) else mx l s:=by
 unfold mx
 rw [List.foldl_append]; rfl
theorem ucsx_ (l:List Fd) (refs:List Str) (i:Int) (s:Str) (hs:refs[i.toNat]? = some s) (i0:0≤i) (hst:∀ a∈l,stOk a) (hl:l.length≤100000):Tot (ubzj_ (l,refs,i,0,0)) (fun r=>r=mx l s):=by
 have hi:i<refs.length:=by have:=(List.getElem?_eq_some_iff.1 hs).1; omega
 refine ucj_ (R:=fun r:Int=>r=mx l s) (fun y:List Fd×List Str×Int×Int×Int=>y.1=l∧y.2.1=refs∧y.2.2.1=i∧0≤y.2.2.2.2∧y.2.2.2.2≤l.length∧y.2.2.2.1=mx (l.take y.2.2.2.2.toNat) s)
  (fun y=>((l.length:Int)-y.2.2.2.2).toNat) ?_ _ _ ⟨rfl,rfl,rfl,Int.le_refl _,Int.natCast_nonneg _,rfl⟩ (by unfold fuel; dsimp only; omega)
 rintro next ⟨l',refs',i',n,k⟩ hI hn
 dsimp only at hI hn
 obtain ⟨rfl,rfl,rfl,k0,k1,rfl⟩:=hI
 unfold ucac_
 dsimp only
 refine u8_.2 ⟨fun hc=>?_,fun hc=>ui_.2 ?_⟩
 · have hc:=of_decide_eq_true hc
   rw [ubv_ (n:=k+1) (by omega) (by omega)]
   refine ud_.2 (u23_.2 ⟨⟨k0,hc⟩,fun a ha=>?_⟩)
   refine ud_.2 (u23_.2 ⟨⟨i0,hi⟩,fun s' hs'=>?_⟩)
   rw [hs] at hs'; cases hs'
   have htk:l'.take (k+1).toNat=l'.take k.toNat++[a]:=by rw [show (k+1).toNat=k.toNat+1 by omega,uy4_ ha]
   rw [ubu7_]
   refine u8_.2 ⟨fun he=>?_,fun he=>?_⟩
   · have he:=of_decide_eq_true he
     refine ud_.2 (u23_.2 ⟨⟨k0,hc⟩,fun a' ha'=>?_⟩)
     rw [ha] at ha'; cases ha'
     rw [ucp5_ (hst a (ucit_ ha))]
     refine ud_.2 (ui_.2 (hn _ ⟨rfl,rfl,rfl,by dsimp only; omega,by dsimp only; omega,?_⟩ (by dsimp only; omega)))
     dsimp only
     rw [htk,ucn0_,if_pos he]
   · have he:=of_decide_eq_false he
     refine hn _ ⟨rfl,rfl,rfl,by dsimp only; omega,by dsimp only; omega,?_⟩ (by dsimp only; omega)
     dsimp only
     rw [htk,ucn0_,if_neg he]
 · have hc:=of_decide_eq_false hc
   rw [List.take_of_length_le (by omega)]
theorem ucsy_ (l:List Fd) (refs:List Str) (hst:∀ a∈l,stOk a) (hl:l.length≤100000) (hr:refs.length≤100000):Tot (ubzk_ (l,refs,([]:List Int),0)) (fun r=>r=refs.map (mx l)):=by
 refine ucj_ (R:=fun r:List Int=>r=refs.map (mx l)) (fun y:List Fd×List Str×List Int×Int=>y.1=l∧y.2.1=refs∧0≤y.2.2.2∧y.2.2.2≤refs.length∧y.2.2.1=(refs.take y.2.2.2.toNat).map (mx l))
  (fun y=>((refs.length:Int)-y.2.2.2).toNat) ?_ _ _ ⟨rfl,rfl,Int.le_refl _,Int.natCast_nonneg _,rfl⟩ (by unfold fuel; dsimp only; omega)
 rintro next ⟨l',refs',out,i⟩ hI hn
 dsimp only at hI hn
 obtain ⟨rfl,rfl,i0,i1,rfl⟩:=hI
 unfold ucad_
 dsimp only
 refine u8_.2 ⟨fun hc=>?_,fun hc=>ui_.2 ?_⟩
 · have hc:=of_decide_eq_true hc
   rw [ubv_ (n:=i+1) (by omega) (by omega)]
   have hs:refs'[i.toNat]? = some (refs'[i.toNat]'(by omega)):=List.getElem?_eq_getElem (by omega)
   refine ud_.2 ((ucsx_ l' refs' i _ hs i0 hst hl).mono fun r hr'=>?_)
   refine ud_.2 (ub2s_.2 ⟨by rw [List.length_map,List.length_take]; simp only [List.length_cons,List.length_nil]; omega,?_⟩)
   refine hn _ ⟨rfl,rfl,by dsimp only; omega,by dsimp only; omega,?_⟩ (by dsimp only; omega)
   dsimp only
   rw [show (i+1).toNat=i.toNat+1 by omega,uy4_ hs,List.map_append,hr']; rfl
 · have hc:=of_decide_eq_false hc
   rw [List.take_of_length_le (by omega)]
end Go.Ev.Pv
namespace Go.Ev.Pv
theorem ucn1_ (s:Str) (v:Int):∀ m:List (Str×Int),(putKV eqS s v m).map (·.1)=if s∈m.map (·.1) then m.map (·.1) else m.map (·.1)++[s]:=by
 intro m
 induction m with
 | nil=>simp [putKV]
 | cons e r ih =>
   obtain ⟨a,b⟩:=e
   unfold putKV
   rw [ubu7_]
   by_cases h:s=a
   · subst h; simp
   · simp only [decide_eq_false h,cond_false,List.map_cons,ih,List.mem_cons]
     by_cases h2:s∈r.map (·.1)
     · rw [if_pos h2,if_pos (Or.inr h2)]
     · rw [if_neg h2,if_neg (by rintro (h3 | h3); exact h h3; exact h2 h3)]; rfl
theorem uchm_ (l:List Fd) (hst:∀ a∈l,stOk a) (hl:l.length≤100000):Tot (u3v_ (([]:List (Str×Int)),l,(l.length:Int),0))
 (fun m=>(m.map (·.1)).Nodup∧(∀ s,s∈m.map (·.1)↔∃ a∈l,a.2.1=s)∧∀ s,(uck_ eqS s m).getD 0=mx l s):=by
 refine ucj_ (R:=fun m:List (Str×Int)=>(m.map (·.1)).Nodup∧(∀ s,s∈m.map (·.1)↔∃ a∈l,a.2.1=s)∧∀ s,(uck_ eqS s m).getD 0=mx l s)
  (fun y:List (Str×Int)×List Fd×Int×Int=>y.2.1=l∧y.2.2.1=l.length∧0≤y.2.2.2∧y.2.2.2≤l.length∧(y.1.map (·.1)).Nodup∧(∀ s,s∈y.1.map (·.1)↔∃ a∈l.take y.2.2.2.toNat,a.2.1=s)∧∀ s,(uck_ eqS s y.1).getD 0=mx (l.take y.2.2.2.toNat) s)
  (fun y=>((l.length:Int)-y.2.2.2).toNat) ?_ _ _ ⟨rfl,rfl,Int.le_refl _,Int.natCast_nonneg _,List.nodup_nil,by simp,fun s=>rfl⟩ (by unfold fuel; dsimp only; omega)
 rintro next ⟨m,l',n,t⟩ hI hn
 dsimp only at hI hn
 obtain ⟨rfl,rfl,t0,t1,hd,hm,hf⟩:=hI
 unfold ubkk_
 dsimp only
 refine u8_.2 ⟨fun hc=>?_,fun hc=>ui_.2 ?_⟩
 · have hc:=of_decide_eq_true hc
   rw [ubv_ (n:=t+1) (by omega) (by omega)]
   refine ud_.2 (u23_.2 ⟨⟨t0,hc⟩,fun a ha=>?_⟩)
   rw [ucnv_ (hst a (ucit_ ha))]
   have htk:l'.take (t+1).toNat=l'.take t.toNat++[a]:=by rw [show (t+1).toNat=t.toNat+1 by omega,uy4_ ha]
   refine ud_.2 (ui_.2 (hn _ ⟨rfl,rfl,by dsimp only; omega,by dsimp only; omega,?_,fun s=>?_,fun s=>?_⟩ (by dsimp only; omega)))
   · dsimp only
     rw [ucn1_]
     split
     · exact hd
     · rename_i h
       rw [List.nodup_append]
       exact ⟨hd,by simp,fun x hx y hy=>by rw [List.mem_singleton.1 hy]; exact fun e=>h (e▸hx)⟩
   · dsimp only
     rw [ucn1_,htk]
     have hb:(∃ b∈l'.take t.toNat++[a],b.2.1=s)↔(∃ b∈l'.take t.toNat,b.2.1=s)∨a.2.1=s:=by
      constructor
      · rintro ⟨b,h1,h2⟩
        rcases List.mem_append.1 h1 with h | h
        · exact Or.inl ⟨b,h,h2⟩
        · rw [List.mem_singleton.1 h] at h2; exact Or.inr h2
      · rintro (⟨b,h1,h2⟩ | h)
        · exact ⟨b,List.mem_append.2 (Or.inl h1),h2⟩
        · exact ⟨a,List.mem_append.2 (Or.inr (List.mem_singleton.2 rfl)),h⟩
     rw [hb,← hm]
     split
     · rename_i h
       exact ⟨Or.inl,fun w=>w.elim id fun w=>w▸h⟩
     · rw [List.mem_append,List.mem_singleton]
       exact ⟨fun w=>w.elim Or.inl fun w=>Or.inr w.symm,fun w=>w.elim Or.inl fun w=>Or.inr w.symm⟩
   · dsimp only
     rw [ucp2_ ubu7_,htk,ucn0_]
     by_cases e:s=a.2.1
     · rw [if_pos e,if_pos e.symm,e,hf]; rfl
     · rw [if_neg e,if_neg (fun w=>e w.symm)]; exact hf s
 · have hc:=of_decide_eq_false hc
   rw [List.take_of_length_le (by omega)] at hm hf
   exact ⟨hd,hm,hf⟩
theorem uchn_ (m:List (Str×Int)) (refs:List Str) (hr:refs.length≤100000):Tot (u3w_ (m,([]:List Int),refs,(refs.length:Int),0)) (fun r=>r=refs.map fun s=>(uck_ eqS s m).getD 0):=by
 refine ucj_ (R:=fun r:List Int=>r=refs.map fun s=>(uck_ eqS s m).getD 0) (fun y:List (Str×Int)×List Int×List Str×Int×Int=>y.1=m∧y.2.2.1=refs∧y.2.2.2.1=refs.length∧0≤y.2.2.2.2∧y.2.2.2.2≤refs.length∧y.2.1=(refs.take y.2.2.2.2.toNat).map fun s=>(uck_ eqS s m).getD 0)
  (fun y=>((refs.length:Int)-y.2.2.2.2).toNat) ?_ _ _ ⟨rfl,rfl,rfl,Int.le_refl _,Int.natCast_nonneg _,rfl⟩ (by unfold fuel; dsimp only; omega)
 rintro next ⟨m',out,refs',n,i⟩ hI hn
 dsimp only at hI hn
 obtain ⟨rfl,rfl,rfl,i0,i1,rfl⟩:=hI
 unfold ubkl_
 dsimp only
 refine u8_.2 ⟨fun hc=>?_,fun hc=>ui_.2 ?_⟩
 · have hc:=of_decide_eq_true hc
   rw [ubv_ (n:=i+1) (by omega) (by omega)]
   refine ud_.2 (u23_.2 ⟨⟨i0,hc⟩,fun s hs=>?_⟩)
   refine ud_.2 (ub2s_.2 ⟨by rw [List.length_map,List.length_take]; simp only [List.length_cons,List.length_nil]; omega,?_⟩)
   refine hn _ ⟨rfl,rfl,rfl,by dsimp only; omega,by dsimp only; omega,?_⟩ (by dsimp only; omega)
   dsimp only
   rw [show (i+1).toNat=i.toNat+1 by omega,uy4_ hs,List.map_append]; rfl
 · have hc:=of_decide_eq_false hc
   rw [List.take_of_length_le (by omega)]
theorem ucho_ {xs:List Str} (h:xs.Nodup):(xs.mergeSort fun x y=>decide (x≤y)).Pairwise (fun x y=>x<y):=by
 have hs:(xs.mergeSort fun x y=>decide (x≤y)).Pairwise (fun x y=>x≤y):=by
  have:=List.pairwise_mergeSort (le:=fun x y:Str=>decide (x≤y)) (fun a b c h1 h2=>decide_eq_true (ucp3_ (of_decide_eq_true h1) (of_decide_eq_true h2))) (fun a b=>by rcases ucp4_ a b with h | h <;> simp [h]) xs
  exact this.imp fun h=>of_decide_eq_true h
 have hn:(xs.mergeSort fun x y=>decide (x≤y)).Nodup:=(List.mergeSort_perm _ _).nodup_iff.2 h
 exact (List.Pairwise.and hs hn).imp fun {a b} ⟨h1,h2⟩=>by
  rcases stri a b with g | g | g
  · exact g
  · exact absurd g h2
  · exact absurd g (List.not_lt.2 h1)
theorem ucn2_ (l:List Fd):∃ r,u7z_ l=some r∧ucb1_ l=some r∧r.1.length≤100000∧r.2.1.length≤100000:=by
 obtain ⟨e,he,hst⟩:=ub74_ l
 unfold u7z_ ucb1_
 rw [ub4s_,he]
 simp only [Option.bind_some,u0u_]
 by_cases h0:e=0
 · subst h0
   obtain ⟨hl,hs⟩:=hst rfl
   obtain ⟨m,m1,m2,m3,m4⟩:=uchm_ l hs hl
   obtain ⟨refs,r1,r2,r3,r4⟩:=ucsw_ l hl
   have hrefs:((m.map (·.1)).mergeSort fun x y=>decide (x≤y))=refs:=ucuq_ (ucho_ m2) r2 fun x=>by rw [(List.mergeSort_perm _ _).mem_iff,m3,r3]
   obtain ⟨o1,p1,rfl⟩:=uchn_ m refs (by omega)
   obtain ⟨o2,p2,rfl⟩:=ucsy_ l refs hs hl (by omega)
   have hmap:(refs.map fun s=>(uck_ eqS s m).getD 0)=refs.map (mx l):=List.map_congr_left fun s _=>m4 s
   rw [hmap] at p1
   simp only [decide_true,Bool.not_true,cond_false]
   refine ⟨(refs,refs.map (mx l),0),?_,?_,by dsimp only; omega,by dsimp only; rw [List.length_map]; omega⟩
   · rw [m1]
     unfold uea_ uk1_
     have hml:m.length=refs.length:=by rw [← hrefs,List.length_mergeSort,List.length_map]
     simp only [Option.bind_some,decide_eq_true (show m.length≤8796093022208 by omega),cond_true]
     rw [hrefs,p1]; rfl
   · rw [r1]
     simp only [Option.bind_some]
     rw [p2]; rfl
 · simp only [decide_eq_false h0,Bool.not_false,cond_true]
   exact ⟨_,rfl,rfl,Nat.zero_le _,Nat.zero_le _⟩
end Go.Ev.Pv
namespace Go.Ev.Pv
theorem ucsz_:ucmt_ ()=some true:=by kernel_rfl
end Go.Ev.Pv
namespace Go.Ev.Pv
theorem ucp7_ (a:Fd):Tot (ug0_ a) (fun r=>r=0→stOk a):=by
 unfold ug0_ ubki_
 dsimp only
 refine ud_.2 (ui_.2 (u8_.2 ⟨fun _=>ui_.2 fun h=>(by cases h),fun h1=>ud_.2 (ui_.2 (u8_.2 ⟨fun _=>ui_.2 fun h=>(by cases h),fun _=>ui_.2 fun _=>?_⟩))⟩))
 obtain ⟨q1,q2⟩:=Bool.or_eq_false_iff.1 h1
 have q1:=of_decide_eq_false q1
 have q2:=of_decide_eq_false q2
 exact ⟨by omega,by omega⟩
theorem ucs0_ (a:Fd):Tot (u3t_ a) fun _=>True:=by
 unfold u3t_
 rw [ucny_]
 refine ud_.2 ((ucp7_ a).mono fun r hr=>u8_.2 ⟨fun _=>ui_.2 trivial,fun he=>?_⟩)
 have he:r=0:=by rw [u0u_] at he; simpa using he
 rw [ucnv_ (hr he)]
 exact ud_.2 (ui_.2 (ui_.2 trivial))
theorem ucp8_ (l:List Fd):Tot (ush_ l) fun _=>True:=by
 unfold ush_
 rw [ub4s_]
 refine ud_.2 ((ub74_ l).mono fun r hr=>u8_.2 ⟨fun _=>ui_.2 trivial,fun he=>?_⟩)
 have he:r=0:=by rw [u0u_] at he; simpa using he
 obtain ⟨hl,hst⟩:=hr he
 refine ud_.2 (Tot.mono (P:=fun _=>True) ?_ fun _ _=>ui_.2 trivial)
 refine ucj_ (R:=fun _=>True) (fun y:Int×List Fd×Int×Int=>y.2.1=l∧y.2.2.1=l.length∧0≤y.2.2.2∧y.2.2.2≤l.length)
  (fun y=>((l.length:Int)-y.2.2.2).toNat) ?_ _ _ ⟨rfl,rfl,Int.le_refl _,Int.natCast_nonneg _⟩ (by unfold fuel; dsimp only; omega)
 rintro next ⟨n,l',k,t⟩ hI hn
 dsimp only at hI hn
 obtain ⟨rfl,rfl,t0,t1⟩:=hI
 unfold ug7_
 dsimp only
 refine u8_.2 ⟨fun hc=>?_,fun hc=>ui_.2 trivial⟩
 have hc:=of_decide_eq_true hc
 rw [ubv_ (n:=t+1) (by omega) (by omega)]
 refine ud_.2 (u23_.2 ⟨⟨t0,hc⟩,fun a ha=>?_⟩)
 rw [ucnv_ (hst a (ucit_ ha))]
 exact ud_.2 (ui_.2 (hn _ ⟨rfl,rfl,by dsimp only; omega,by dsimp only; omega⟩ (by dsimp only; omega)))
theorem ucs1_ (a:Int):eqI a a=true:=by rw [u0u_]; exact decide_eq_true rfl
theorem law7 (l:List Fd) (x:Fd):uj2_ (l,x)=some true:=by
 obtain ⟨r,hr,_⟩:=ucs0_ x
 obtain ⟨t,ht,_⟩:=ucp8_ l
 obtain ⟨w,hw1,hw2,hw3,hw4⟩:=ucn2_ l
 obtain ⟨o,ho1,ho2,ho3⟩:=ucnz_ l
 unfold uj2_
 dsimp only
 rw [← ucup_,hr,← ucsv_,ht,hw1,hw2,ho1,ho2]
 simp only [Option.bind_some,ucs1_,Bool.and_self,Bool.true_and,cond_true,ucvp_ _ (Nat.le_trans hw3 (by decide)),ucuk_ _ (Nat.le_trans hw4 (by decide)),ucuk_ _ (Nat.le_trans ho3 (by decide)),ucsz_]
end Go.Ev.Pv
