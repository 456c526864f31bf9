/-
  The law of the order of findings as plain Lean: risks, the order, its changes told by keys, and that what the closed part tells is true.
-/
import Derived.Test.YthdkjfbmhbimlaaGreatDoorE4
import Derived.Test.YthdkjfbmhbimlaaGreatDoorD
import Derived.Sort.AssemblyPlain
import Derived.KernelRfl
set_option linter.unusedVariables false
set_option linter.unusedSimpArgs false
set_option linter.unusedSectionVars false
set_option maxRecDepth 100000
namespace Go.Ev
theorem xlc {α:Type} {a:α} {l:List α}:(a::l).length=l.length+1:=List.length_cons
theorem xln {α:Type}:([]:List α).length=0:=List.length_nil
theorem xmt {α:Type} {a:α} {i:Nat} {l:List α} (h:a∈l.take i):a∈l:=List.mem_of_mem_take h
theorem xmd {α:Type} {a:α} {i:Nat} {l:List α} (h:a∈l.drop i):a∈l:=List.mem_of_mem_drop h
def Tot {α:Type} (m:Option α) (Q:α→Prop):Prop:=∃ x,m=some x∧Q x
section
variable {α β:Type} {m n:Option α} {P Q:α→Prop}
theorem Tot.mono (h:Tot m P) (k:∀ x,P x→Q x):Tot m Q:=let ⟨x,h1,h2⟩:=h; ⟨x,h1,k x h2⟩
theorem uh_ {x:α}:Tot (some x) Q↔Q x:=⟨fun ⟨_,h1,h2⟩=>Option.some.inj h1▸h2,fun h=>⟨x,rfl,h⟩⟩
theorem ud_ {f:α→Option β} {R:β→Prop}:Tot (m.bind f) R↔Tot m fun x=>Tot (f x) R:=by
 constructor
 · rintro ⟨y,h1,h2⟩
   obtain ⟨x,h3,h4⟩:=Option.bind_eq_some_iff.1 h1
   exact ⟨x,h3,y,h4,h2⟩
 · rintro ⟨x,rfl,y,h1,h2⟩
   exact ⟨y,h1,h2⟩
theorem u4_ {b:Bool}:Tot (bif b then m else n) Q↔(b=true→Tot m Q)∧(b=false→Tot n Q):=by
 cases b
 · exact ⟨fun h=>⟨fun e=>(by cases e),fun _=>h⟩,fun h=>h.2 rfl⟩
 · exact ⟨fun h=>⟨fun _=>h,fun e=>(by cases e)⟩,fun h=>h.1 rfl⟩
theorem ueg_ {n:Nat} {i:Int} {Q:Unit→Prop}:Tot (in? n i) Q↔(0≤i∧i<n)∧Q ():=by
 unfold in? Tot
 by_cases h1:0≤i <;> by_cases h2:i<n <;> simp [h1,h2]
 exact ⟨fun ⟨_,h⟩=>h,fun h=>⟨(),h⟩⟩
theorem ub7c_ {B:Nat} {a b:List α} {Q:List α→Prop}:Tot (app? B a b) Q↔(a.length+b.length)*B≤70368744177664∧Q (a++b):=by
 unfold app? Tot
 by_cases h:(a.length+b.length)*B≤70368744177664 <;> simp [h]
theorem uce0_ {l:List α} {i:Int} {Q:α→Prop} (h1:0≤i) (h2:i<l.length) (h3:∀ x,x∈l→l[i.toNat]? = some x→Q x):Tot (at? l i) Q:=by
 have hlt:i.toNat<l.length:=by omega
 refine ⟨l[i.toNat],?_,h3 _ (List.getElem_mem hlt) (List.getElem?_eq_getElem hlt)⟩
 unfold at?
 rw [decide_eq_true h1]
 exact List.getElem?_eq_getElem hlt
theorem ubiv_ {l:List α} {i:Int} {Q:α→Prop}:Tot (at? l i) Q↔(0≤i∧i<l.length)∧∀ x,l[i.toNat]? = some x→Q x:=by
 constructor
 · rintro ⟨x,h1,h2⟩
   unfold at? at h1
   by_cases h0:0≤i
   · rw [decide_eq_true h0] at h1
     have h1:l[i.toNat]? = some x:=h1
     have hlt:=(List.getElem?_eq_some_iff.1 h1).1
     exact ⟨⟨h0,by omega⟩,fun y hy=>by rw [h1] at hy; cases hy; exact h2⟩
   · rw [decide_eq_false h0] at h1; cases h1
 · rintro ⟨⟨h1,h2⟩,h3⟩
   exact uce0_ h1 h2 fun x _ hx=>h3 x hx
theorem ucj_ {r:(α→Option β)→α→Option β} {R:β→Prop} (I:α→Prop) (μ:α→Nat) (h:∀ next x,I x→(∀ y,I y→μ y<μ x→Tot (next y) R)→Tot (r next x) R) :
 ∀ (k:Nat) (x:α),I x→μ x<k→Tot (loopN r k x) R:=by
 intro k
 induction k with
 | zero=>intro x _ h; omega
 | succ k ih=>intro x hx hk; exact h _ x hx fun y hy hm=>ih y hy (by omega)
theorem ubp_ {n:Int} (h1:-9223372036854775808≤n) (h2:n≤9223372036854775807):IntKind.i64.wrap n=n:=by
 simp only [IntKind.wrap,IntKind.bits,IntKind.signed]
 simp
 omega
theorem wrap8 {n:Int} (h1:0≤n) (h2:n≤255):IntKind.u8.wrap n=n:=by
 simp only [IntKind.wrap,IntKind.bits,IntKind.signed]
 simp
 omega
theorem ub4g_ (n:Int):0≤IntKind.u8.wrap n∧IntKind.u8.wrap n≤255:=by
 simp only [IntKind.wrap,IntKind.bits,IntKind.signed]
 simp
 omega
end
end Go.Ev
namespace Go.Ev.Pv
theorem ub0e_ {n:Int}:-9223372036854775808≤n→n≤9223372036854775807→IntKind.i64.wrap n=n:=fun h1 h2=>ubp_ h1 h2
theorem u8le (b:UInt8):b.toNat≤255:=by have:=b.toNat_lt; omega
theorem ub7d_ {n:Int}:0≤n→n≤255→IntKind.u8.wrap n=n:=fun h1 h2=>wrap8 h1 h2
theorem ub7e_ (n:Int):0≤IntKind.u8.wrap n∧IntKind.u8.wrap n≤255:=ub4g_ n
theorem u8b_ (s:Str):(ud0_ s).length=s.length:=by simp [ud0_]
theorem ubnn_ (s:List Int):(strOf s).length=s.length:=by simp [strOf]
theorem ubuj_ (s t:Str):eqS s t=decide (s=t):=by unfold eqS; by_cases h:s=t <;> simp [h]
theorem uqa_ (s t:Int):eqI s t=decide (s=t):=by unfold eqI; by_cases h:s=t <;> simp [h]
end Go.Ev.Pv
namespace Go.Ev.Pv
theorem uxa_ {α:Type} {l:List α} {i:Nat} {d:α}:i<l.length→l.getD i d∈l:=fun h=>by
 rw [List.getD_eq_getElem?_getD,List.getElem?_eq_getElem h]; exact List.getElem_mem h
theorem ubf9_ {α:Type} {l:List α} {i:Nat} {a b:α}:a∈l.set i b→a∈l∨a=b:=List.mem_or_eq_of_mem_set
end Go.Ev.Pv
namespace Go.Ev.Pv
end Go.Ev.Pv
namespace Go.Ev.Pv
end Go.Ev.Pv
namespace Go.Ev.Pv
end Go.Ev.Pv
namespace Go.Ev.Pv
end Go.Ev.Pv
namespace Go.Ev.Pv
end Go.Ev.Pv
namespace Go.Ev.Pv
end Go.Ev.Pv
namespace Go.Ev.Pv
end Go.Ev.Pv
namespace Go.Ev.Pv
theorem ubga_ {i j:Int} {Q:Int→Prop} (h1:0≤i) (h2:0≤j) (h3:i≤4611686018427387903) (h4:j≤4611686018427387903) (h:Q ((i+j) / 2)):Tot (shr? IntKind.u64 (IntKind.u64.wrap (IntKind.i64.wrap (i+j))) (1:Int)) Q:=by
 have e1:IntKind.i64.wrap (i+j)=i+j:=ubp_ (by omega) (by omega)
 have e2:IntKind.u64.wrap (i+j)=i+j:=by
  simp only [IntKind.wrap,IntKind.bits,IntKind.signed]
  simp
  omega
 rw [e1,e2]
 have e3:(i+j).fdiv (2 ^ min (1:Int).toNat IntKind.u64.bits)=(i+j) / 2:=by
  have:(2:Int) ^ min (1:Int).toNat IntKind.u64.bits=2:=by decide
  rw [this,Int.fdiv_eq_ediv_of_nonneg _ (by decide)]
 unfold shr?
 rw [e3]
 exact uh_.2 h
end Go.Ev.Pv
namespace Go.Ev.Pv
end Go.Ev.Pv
namespace Go.Ev.Pv
end Go.Ev.Pv
namespace Go.Ev.Pv
end Go.Ev.Pv
namespace Go.Ev.Pv
end Go.Ev.Pv
namespace Go.Ev.Pv
end Go.Ev.Pv
namespace Go.Ev.Pv
end Go.Ev.Pv
namespace Go.Ev.Pv
theorem trimPrefix_len (s p:Str):(Lib.trimPrefix s p).length≤s.length:=by
 unfold Lib.trimPrefix
 split
 · rw [List.length_drop]; omega
 · exact Nat.le_refl _
end Go.Ev.Pv
namespace Go.Ev.Pv
theorem ub0f_ {α:Type} {l:List α} {i j:Nat} {a:α}:a∈(l.take i).drop j→a∈l:=fun h=>List.mem_of_mem_take (List.mem_of_mem_drop h)
theorem ub0g_ {α:Type} (l:List α) (i j:Nat):((l.take i).drop j).length=min i l.length-j:=by simp
theorem ub0h_ (s:Str):eqS s []=decide (s.length=0):=by rw [ubuj_]; cases s <;> simp
end Go.Ev.Pv
namespace Go.Ev.Pv
end Go.Ev.Pv
namespace Go.Ev.Pv
theorem ub7f_:∀ (x y:Str),Op.bytesLess x y=decide (x<y):=by
 intro x
 induction x with
 | nil=>intro y; cases y <;> simp [Op.bytesLess]
 | cons a x ih =>
   intro y
   cases y with
   | nil=>simp [Op.bytesLess]
   | cons b y =>
     rw [Op.bytesLess,ih y]
     simp only [List.cons_lt_cons_iff]
     by_cases h1:a<b <;> by_cases h2:a=b <;> by_cases h3:x<y <;> simp [h1,h2,h3]
theorem sirr (a:Str):¬ a<a:=List.lt_irrefl a
theorem ucdt_ {a b c:Str} (h1:a<b) (h2:b<c):a<c:=List.lt_trans h1 h2
theorem stri (a b:Str):a<b∨a=b∨b<a:=by
 by_cases h1:a<b
 · exact Or.inl h1
 · by_cases h2:b<a
   · exact Or.inr (Or.inr h2)
   · exact Or.inr (Or.inl (List.le_antisymm (List.not_lt.1 h2) (List.not_lt.1 h1)))
theorem sasym {a b:Str} (h1:a<b):¬ b<a:=fun h2=>sirr a (ucdt_ h1 h2)
def cmpS (a b:Str):Int:=if a<b then -1 else if a=b then 0 else 1
theorem u0c_ (a b:Str):ubx_ (a,b)=some (cmpS a b):=by
 unfold ubx_ uss_ cmpS
 have e:∀ s:Str,eqS s s=true:=fun s=>by rw [ubuj_]; simp
 simp only [e,Bool.not_true,Option.bind_some,cond_false,ub7f_,ubuj_]
 by_cases h2:a=b
 · subst h2; simp [sirr]
 · by_cases h1:a<b <;> simp [h1,h2]
theorem ub7g_ (a b:Str):cmpS a b<0↔a<b:=by
 unfold cmpS
 by_cases h2:a=b
 · subst h2; simp [sirr]
 · by_cases h1:a<b <;> simp [h1,h2]
def cmpI (a b:Int):Int:=if a<b then -1 else if b<a then 1 else 0
theorem u8c_ (a b:Int):udg_ (a,b)=some (cmpI a b):=by
 unfold udg_ u38_ cmpI
 have e:∀ s:Int,eqI s s=true:=fun s=>by rw [uqa_]; simp
 simp only [e,Bool.not_true,Option.bind_some,cond_false]
 by_cases h1:a<b <;> by_cases h2:b<a <;> simp [h1,h2]
section
variable {T:Type}
theorem ub4h_ (xs:List T) (F:T×T→Option Int) (h:ubsq_ xs F):Tot (ubuo_ xs F) (fun r=>r.Perm xs∧r.Pairwise (fun a b=>∀ c,F (b,a)=some c→0≤c)):=by
 unfold ubuo_
 split
 · rename_i h0
   unfold ifB
   rw [decide_eq_true h]
   refine uh_.2 ?_
   letI:Inhabited (Fin xs.length):=⟨⟨0,h0⟩⟩
   have hs:Sort.SWO (ltAt xs F):=⟨h.2.1,h.2.2.1,h.2.2.2⟩
   have hp:=Sort.pdq_sorts (ltAt xs F) hs (Array.ofFn id) 0 xs.length (Lib.bitLen xs.length) true true (Nat.zero_le _) (by simp) (Or.inl rfl)
   have e:ubiy_ xs F h0=Sort.pdq (ltAt xs F) (Array.ofFn id) 0 xs.length (Lib.bitLen xs.length) true true:=ub21_ xs F h0
   rw [e]
   generalize Sort.pdq (ltAt xs F) (Array.ofFn id) 0 xs.length (Lib.bitLen xs.length) true true=d at hp
   obtain ⟨⟨h1,_,h3⟩,h4⟩:=hp
   have hsz:d.size=xs.length:=by rw [h1]; simp
   have e1:d.extract 0 xs.length=d:=by
    have:=Array.extract_size (xs:=d)
    rwa [hsz] at this
   have e2:(Array.ofFn (id:Fin xs.length→Fin xs.length)).extract 0 xs.length=Array.ofFn id:=by
    have:=Array.extract_size (xs:=Array.ofFn (id:Fin xs.length→Fin xs.length))
    rwa [Array.size_ofFn] at this
   rw [e1,e2] at h3
   constructor
   · have h5:=h3.map xs.get
     have e3:(Array.ofFn (id:Fin xs.length→Fin xs.length)).toList.map xs.get=xs:=by
      rw [Array.toList_ofFn,List.map_ofFn]
      apply List.ext_getElem
      · simp
      · intro i h1 h2; simp
     rwa [e3] at h5
   · rw [List.pairwise_map,List.pairwise_iff_getElem]
     intro i j hi hj hij c hc
     have hl:d.toList.length=xs.length:=by rw [Array.length_toList]; exact hsz
     have h6:=h4 i j (Nat.zero_le _) hij (by omega)
     rw [getElem!_pos d i (by omega),getElem!_pos d j (by omega)] at h6
     unfold ltAt cfAt at h6
     rw [Array.getElem_toList,Array.getElem_toList] at hc
     rw [hc] at h6
     simpa using h6
 · rename_i h0
   have:xs=[]:=List.length_eq_zero_iff.1 (by omega)
   subst this
   exact uh_.2 ⟨List.Perm.refl _,List.Pairwise.nil⟩
end
abbrev Edge:=Int×Str×Bool×Str
def eo (a b:Edge):Int:=if a.1≠b.1∨a.1≠0 then cmpI a.1 b.1 else if cmpS a.2.1 b.2.1≠0∨a.2.2.1=b.2.2.1 then cmpS a.2.1 b.2.1 else if a.2.2.1 then 1 else -1
def elt (a b:Edge):Prop:=a.1<b.1∨(a.1=b.1∧a.1=0∧(a.2.1<b.2.1∨(a.2.1=b.2.1∧a.2.2.1=false∧b.2.2.1=true)))
instance (a b:Edge):Decidable (elt a b):=by unfold elt; infer_instance
end Go.Ev.Pv
namespace Go.Ev.Pv
abbrev Af:=Str×Int×YY44×(List Str)×(List Str)
abbrev Adv:=Str×(List Str)×Str×Int×Bool×Str×(List Af)
def AfB (a:Af):Prop:=a.1.length≤1048576∧a.2.2.1.length≤1048576∧(∀ v∈a.2.2.1,v.2.length≤1048576)∧a.2.2.2.1.length≤1048576∧(∀ s∈a.2.2.2.1,s.length≤1048576)∧a.2.2.2.2.length≤1048576∧(∀ s∈a.2.2.2.2,s.length≤1048576)
def AdB (a:Adv):Prop:=a.1.length≤1048576∧a.2.1.length≤1048576∧(∀ s∈a.2.1,s.length≤1048576)∧a.2.2.1.length≤1048576∧a.2.2.2.2.2.1.length≤1048576∧a.2.2.2.2.2.2.length≤1048576∧∀ x∈a.2.2.2.2.2.2,AfB x
theorem ub0i_ {α:Type} {l:List α} {i:Nat} {x:α} (h:l[i]? = some x):x∈l:=List.mem_of_getElem? h
end Go.Ev.Pv
namespace Go.Ev.Pv
end Go.Ev.Pv
namespace Go.Ev.Pv
end Go.Ev.Pv
namespace Go.Ev.Pv
end Go.Ev.Pv
namespace Go.Ev.Pv
end Go.Ev.Pv
namespace Go.Ev.Pv
end Go.Ev.Pv
namespace Go.Ev.Pv
def CT (F:Int×Int→Option Int) (l:List Int):Prop:=∀ a b,a∈l→b∈l→Tot (F (a,b)) fun _=>True
theorem CT.perm {F:Int×Int→Option Int} {l l':List Int} (h:CT F l) (p:l'.Perm l):CT F l':=fun a b ha hb=>h a b (p.mem_iff.1 ha) (p.mem_iff.1 hb)
theorem ubrw_ {l:List Int} {i j:Nat} (hi:i<l.length) (hj:j<l.length):((l.set i (l.getD j 0)).set j (l.getD i 0)).Perm l:=by
 have e1:l.getD i 0=l[i]:=by simp [List.getD,hi]
 have e2:l.getD j 0=l[j]:=by simp [List.getD,hj]
 rw [e1,e2]
 exact List.set_set_perm hi hj
theorem uqb_ (x:(List Int)×Int×YY22×Int) (h:CT x.2.2.1 x.1∧0≤x.2.1∧x.2.1≤x.2.2.2∧x.2.2.2<x.1.length∧x.1.length≤1048576) :
 Tot (ucl_ x) (fun r:List Int=>r.length=x.1.length∧r.Perm x.1):=by
 refine ucj_ (R:=fun r:List Int=>r.length=x.1.length∧r.Perm x.1) (fun y:(List Int)×Int×YY22×Int=>CT y.2.2.1 x.1∧0≤y.2.1∧y.2.1≤y.2.2.2∧y.2.2.2<y.1.length∧y.1.length≤1048576∧y.1.length=x.1.length∧y.1.Perm x.1)
  (fun y=>y.2.2.2.toNat) ?_ _ _ ⟨h.1,h.2.1,h.2.2.1,h.2.2.2.1,h.2.2.2.2,rfl,List.Perm.refl _⟩ (by obtain ⟨_,_,_,_,_⟩:=h; unfold fuel; omega)
 rintro next ⟨data_0,a_1,cmp_3,j_9⟩ h hn
 dsimp only at h hn
 obtain ⟨h0,h1,h2,h3,h4,h5,h6⟩:=h
 unfold uej_
 dsimp only
 by_cases hc:a_1<j_9
 · have hw:IntKind.i64.wrap (j_9-1)=j_9-1:=ubp_ (by omega) (by omega)
   simp only [hw,decide_eq_true hc,cond_true,Bool.true_and]
   refine ud_.2 (ueg_.2 ⟨⟨by omega,by omega⟩,?_⟩)
   refine ud_.2 (ueg_.2 ⟨⟨by omega,by omega⟩,?_⟩)
   refine ud_.2 ((h0 _ _ (h6.mem_iff.1 (uxa_ (by omega))) (h6.mem_iff.1 (uxa_ (by omega)))).mono fun r3 _=>?_)
   refine u4_.2 ⟨fun _=>?_,fun _=>uh_.2 ⟨h5,h6⟩⟩
   refine ud_.2 (ueg_.2 ⟨⟨by omega,by omega⟩,?_⟩)
   refine ud_.2 (ueg_.2 ⟨⟨by omega,by omega⟩,?_⟩)
   refine ud_.2 (ueg_.2 ⟨⟨by omega,by omega⟩,?_⟩)
   refine ud_.2 (ueg_.2 ⟨⟨by omega,by rw [List.length_set]; omega⟩,?_⟩)
   refine hn _ ⟨h0,h1,by dsimp only; omega,by simp only [List.length_set]; omega,by simp only [List.length_set]; omega,by simp only [List.length_set]; omega,(ubrw_ (by omega) (by omega)).trans h6⟩ (by dsimp only; omega)
 · simp only [decide_eq_false hc,cond_false,Bool.false_and]
   refine ud_.2 (uh_.2 ?_)
   refine ud_.2 (uh_.2 ?_)
   refine ud_.2 (uh_.2 ?_)
   exact uh_.2 ⟨h5,h6⟩
theorem uqc_ (x:(List Int)×Int×Int×YY22×Int) (h:CT x.2.2.2.1 x.1∧0≤x.2.1∧x.2.1≤x.2.2.2.2∧x.2.2.1≤x.1.length∧x.2.2.2.2≤1048577∧x.1.length≤1048576) :
 Tot (uel_ x) (fun r:List Int=>r.length=x.1.length∧r.Perm x.1):=by
 refine ucj_ (R:=fun r:List Int=>r.length=x.1.length∧r.Perm x.1) (fun y:(List Int)×Int×Int×YY22×Int=>CT y.2.2.2.1 x.1∧0≤y.2.1∧y.2.1≤y.2.2.2.2∧y.2.2.1≤y.1.length∧y.2.2.2.2≤1048577∧y.1.length≤1048576∧y.1.length=x.1.length∧y.1.Perm x.1)
  (fun y=>(y.2.2.1-y.2.2.2.2).toNat) ?_ _ _ ⟨h.1,h.2.1,h.2.2.1,h.2.2.2.1,h.2.2.2.2.1,h.2.2.2.2.2,rfl,List.Perm.refl _⟩ (by obtain ⟨_,_,_,_,_,_⟩:=h; unfold fuel; omega)
 rintro next ⟨data_0,a_1,b_2,cmp_3,i_8⟩ h hn
 dsimp only at h hn
 obtain ⟨h0,h1,h2,h3,h4,h5,h6,h7⟩:=h
 unfold uek_
 dsimp only
 refine u4_.2 ⟨fun hc=>?_,fun _=>uh_.2 ⟨h6,h7⟩⟩
 have hc:=of_decide_eq_true hc
 have hw:IntKind.i64.wrap (i_8+1)=i_8+1:=ubp_ (by omega) (by omega)
 rw [hw]
 refine ud_.2 ((uqb_ _ ⟨h0.perm h7,h1,h2,by dsimp only; omega,h5⟩).mono fun r hr=>?_)
 dsimp only at hr
 obtain ⟨e1,e2⟩:=hr
 exact hn _ ⟨h0,h1,by dsimp only; omega,by dsimp only; omega,by dsimp only; omega,by dsimp only; omega,by dsimp only; omega,e2.trans h7⟩ (by dsimp only; omega)
theorem uh0_ (x:(List Int)×Int×Int×YY22) (h:CT x.2.2.2 x.1∧0≤x.2.1∧x.2.1≤1048576∧x.2.2.1≤x.1.length∧x.1.length≤1048576) :
 Tot (u5_ x) (fun r:List Int=>r.length=x.1.length∧r.Perm x.1):=by
 obtain ⟨data_0,a_1,b_2,cmp_3⟩:=x
 dsimp only at h
 obtain ⟨h0,h1,h2,h3,h4⟩:=h
 unfold u5_
 dsimp only
 rw [ubp_ (by omega) (by omega)]
 exact ud_.2 ((uqc_ _ ⟨h0,h1,by dsimp only; omega,h3,by dsimp only; omega,h4⟩).mono fun r hr=>uh_.2 hr)
theorem uuq_ (x:(List Int)×Int×Int×Int×Int) (h:0≤x.2.1∧0≤x.2.2.1∧x.2.1+x.2.2.2.1≤x.1.length∧x.2.2.1+x.2.2.2.1≤x.1.length∧0≤x.2.2.2.2∧x.1.length≤1048576) :
 Tot (ugk_ x) (fun r:List Int=>r.length=x.1.length∧r.Perm x.1):=by
 refine ucj_ (R:=fun r:List Int=>r.length=x.1.length∧r.Perm x.1) (fun y:(List Int)×Int×Int×Int×Int=>0≤y.2.1∧0≤y.2.2.1∧y.2.1+y.2.2.2.1≤y.1.length∧y.2.2.1+y.2.2.2.1≤y.1.length∧0≤y.2.2.2.2∧y.1.length≤1048576∧y.1.length=x.1.length∧y.1.Perm x.1)
  (fun y=>(y.2.2.2.1-y.2.2.2.2).toNat) ?_ _ _ ⟨h.1,h.2.1,h.2.2.1,h.2.2.2.1,h.2.2.2.2.1,h.2.2.2.2.2,rfl,List.Perm.refl _⟩ (by obtain ⟨_,_,_,_,_,_⟩:=h; unfold fuel; omega)
 rintro next ⟨data_0,a_1,b_2,n_3,i_10⟩ h hn
 dsimp only at h hn
 obtain ⟨h1,h2,h3,h4,h5,h6,h7,h8⟩:=h
 unfold ugj_
 dsimp only
 refine u4_.2 ⟨fun hc=>?_,fun _=>uh_.2 ⟨h7,h8⟩⟩
 have hc:=of_decide_eq_true hc
 have hw1:IntKind.i64.wrap (a_1+i_10)=a_1+i_10:=ubp_ (by omega) (by omega)
 have hw2:IntKind.i64.wrap (b_2+i_10)=b_2+i_10:=ubp_ (by omega) (by omega)
 have hw3:IntKind.i64.wrap (i_10+1)=i_10+1:=ubp_ (by omega) (by omega)
 rw [hw1,hw2,hw3]
 refine ud_.2 (ueg_.2 ⟨⟨by omega,by omega⟩,?_⟩)
 refine ud_.2 (ueg_.2 ⟨⟨by omega,by omega⟩,?_⟩)
 refine ud_.2 (ueg_.2 ⟨⟨by omega,by omega⟩,?_⟩)
 refine ud_.2 (ueg_.2 ⟨⟨by omega,by rw [List.length_set]; omega⟩,?_⟩)
 refine hn _ ⟨h1,h2,by simp only [List.length_set]; omega,by simp only [List.length_set]; omega,by dsimp only; omega,by simp only [List.length_set]; omega,by simp only [List.length_set]; omega,(ubrw_ (by omega) (by omega)).trans h8⟩ (by dsimp only; omega)
theorem uf4_ (x:(List Int)×Int×Int×Int×YY22) (h:0≤x.2.1∧0≤x.2.2.1∧x.2.1+x.2.2.2.1≤x.1.length∧x.2.2.1+x.2.2.2.1≤x.1.length∧x.1.length≤1048576) :
 Tot (u9_ x) (fun r:List Int=>r.length=x.1.length∧r.Perm x.1):=by
 obtain ⟨data_0,a_1,b_2,n_3,cmp_4⟩:=x
 obtain ⟨h1,h2,h3,h4,h5⟩:=h
 unfold u9_
 dsimp only
 exact ud_.2 ((uuq_ _ ⟨h1,h2,h3,h4,Int.le_refl _,h5⟩).mono fun r hr=>uh_.2 hr)
theorem uyq_ (x:(List Int)×Int×YY22×Int×Int) (h:0<x.2.2.2.1∧0<x.2.2.2.2∧x.2.2.2.1≤x.2.1∧x.2.1+x.2.2.2.2≤x.1.length∧x.1.length≤1048576) :
 Tot (uh3_ x) (fun r:(List Int)×Int=>r.1.length=x.1.length∧r.1.Perm x.1∧0<r.2∧r.2≤x.2.1∧x.2.1+r.2≤x.1.length):=by
 refine ucj_ (R:=fun r:(List Int)×Int=>r.1.length=x.1.length∧r.1.Perm x.1∧0<r.2∧r.2≤x.2.1∧x.2.1+r.2≤x.1.length) (fun y:(List Int)×Int×YY22×Int×Int=>0<y.2.2.2.1∧0<y.2.2.2.2∧y.2.2.2.1≤y.2.1∧y.2.1+y.2.2.2.2≤y.1.length∧y.1.length≤1048576∧y.1.length=x.1.length∧y.1.Perm x.1∧y.2.1=x.2.1)
  (fun y=>(y.2.2.2.1+y.2.2.2.2).toNat) ?_ _ _ ⟨h.1,h.2.1,h.2.2.1,h.2.2.2.1,h.2.2.2.2,rfl,(List.Perm.refl _),rfl⟩ (by obtain ⟨_,_,_,_,_⟩:=h; unfold fuel; omega)
 rintro next ⟨data_0,m_2,cmp_4,i_10,j_11⟩ h hn
 dsimp only at h hn
 obtain ⟨h1,h2,h3,h4,h5,h6,h7,h8⟩:=h
 unfold uh2_
 dsimp only
 refine u4_.2 ⟨fun hc=>?_,fun hc=>uh_.2 ⟨h6,h7,h1,by dsimp only; omega,?_⟩⟩
 · have hc:i_10≠j_11:=by rw [uqa_] at hc; simpa using hc
   have hw1:IntKind.i64.wrap (m_2-i_10)=m_2-i_10:=ubp_ (by omega) (by omega)
   have hw2:IntKind.i64.wrap (m_2+j_11)=m_2+j_11:=ubp_ (by omega) (by omega)
   have hw3:IntKind.i64.wrap (m_2+j_11-i_10)=m_2+j_11-i_10:=ubp_ (by omega) (by omega)
   have hw4:IntKind.i64.wrap (i_10-j_11)=i_10-j_11:=ubp_ (by omega) (by omega)
   have hw5:IntKind.i64.wrap (j_11-i_10)=j_11-i_10:=ubp_ (by omega) (by omega)
   rw [hw1,hw2,hw3,hw4,hw5]
   refine u4_.2 ⟨fun hd=>?_,fun hd=>?_⟩
   · have hd:=of_decide_eq_true hd
     refine ud_.2 ((uf4_ _ ⟨by dsimp only; omega,by dsimp only; omega,by dsimp only; omega,by dsimp only; omega,h5⟩).mono fun r hr=>?_)
     dsimp only at hr
     exact hn _ ⟨by dsimp only; omega,h2,by dsimp only; omega,by dsimp only; omega,by dsimp only; omega,by dsimp only; omega,hr.2.trans h7,h8⟩ (by dsimp only; omega)
   · have hd:=of_decide_eq_false hd
     refine ud_.2 ((uf4_ _ ⟨by dsimp only; omega,by dsimp only; omega,by dsimp only; omega,by dsimp only; omega,h5⟩).mono fun r hr=>?_)
     dsimp only at hr
     exact hn _ ⟨h1,by dsimp only; omega,h3,by dsimp only; omega,by dsimp only; omega,by dsimp only; omega,hr.2.trans h7,h8⟩ (by dsimp only; omega)
 · have hc:i_10=j_11:=by rw [uqa_] at hc; simpa using hc
   omega
theorem u3c_ (x:(List Int)×Int×Int×Int×YY22) (h:0≤x.2.1∧x.2.1<x.2.2.1∧x.2.2.1<x.2.2.2.1∧x.2.2.2.1≤x.1.length∧x.1.length≤1048576) :
 Tot (uc6_ x) (fun r:List Int=>r.length=x.1.length∧r.Perm x.1):=by
 obtain ⟨data_0,a_1,m_2,b_3,cmp_4⟩:=x
 dsimp only at h
 obtain ⟨h1,h2,h3,h4,h5⟩:=h
 unfold uc6_
 dsimp only
 rw [ubp_ (n:=m_2-a_1) (by omega) (by omega),ubp_ (n:=b_3-m_2) (by omega) (by omega)]
 refine ud_.2 ((uyq_ _ ⟨by dsimp only; omega,by dsimp only; omega,by dsimp only; omega,by dsimp only; omega,h5⟩).mono fun r hr=>?_)
 dsimp only at hr
 obtain ⟨e1,e2,e3,e4,e5⟩:=hr
 rw [ubp_ (n:=m_2-r.2) (by omega) (by omega)]
 refine ud_.2 ((uf4_ _ ⟨by dsimp only; omega,by dsimp only; omega,by dsimp only; omega,by dsimp only; omega,by dsimp only; omega⟩).mono fun r4 hr=>uh_.2 ?_)
 dsimp only at hr
 exact ⟨by omega,hr.2.trans e2⟩
theorem uu2_ (slf:(List Int)×Int×Int×Int×YY22→Option (List Int)) (x:(List Int)×Int×YY22×Int×Int) (h:CT x.2.2.1 x.1∧0≤x.2.1∧x.2.1<x.1.length∧0≤x.2.2.2.1∧x.2.2.2.1≤x.2.2.2.2∧x.2.2.2.2≤x.1.length∧x.1.length≤1048576) :
 Tot (ud6_ slf x) (fun r:(List Int)×Int=>r.1=x.1∧x.2.2.2.1≤r.2∧r.2≤x.2.2.2.2):=by
 refine ucj_ (R:=fun r:(List Int)×Int=>r.1=x.1∧x.2.2.2.1≤r.2∧r.2≤x.2.2.2.2) (fun y:(List Int)×Int×YY22×Int×Int=>CT y.2.2.1 x.1∧0≤y.2.1∧y.2.1<y.1.length∧0≤y.2.2.2.1∧y.2.2.2.1≤y.2.2.2.2∧y.2.2.2.2≤y.1.length∧y.1.length≤1048576∧y.1=x.1∧x.2.2.2.1≤y.2.2.2.1∧y.2.2.2.2≤x.2.2.2.2)
  (fun y=>(y.2.2.2.2-y.2.2.2.1).toNat) ?_ _ _ ⟨h.1,h.2.1,h.2.2.1,h.2.2.2.1,h.2.2.2.2.1,h.2.2.2.2.2.1,h.2.2.2.2.2.2,rfl,Int.le_refl _,Int.le_refl _⟩ (by obtain ⟨_,_,_,_,_,_,_⟩:=h; unfold fuel; omega)
 rintro next ⟨data_0,a_1,cmp_4,i_10,j_11⟩ h hn
 dsimp only at h hn
 obtain ⟨h0,h1,h2,h3,h4,h5,h6,h7,h8,h9⟩:=h
 unfold ugt_
 dsimp only
 refine u4_.2 ⟨fun hc=>?_,fun hc=>uh_.2 ⟨h7,h8,by dsimp only; omega⟩⟩
 have hc:=of_decide_eq_true hc
 refine ud_.2 (ubga_ (by omega) (by omega) (by omega) (by omega) ?_)
 have hw1:IntKind.i64.wrap ((i_10+j_11) / 2)=(i_10+j_11) / 2:=ubp_ (by omega) (by omega)
 have hw2:IntKind.i64.wrap ((i_10+j_11) / 2+1)=(i_10+j_11) / 2+1:=ubp_ (by omega) (by omega)
 rw [hw1,hw2]
 refine ud_.2 (ueg_.2 ⟨⟨by omega,by omega⟩,?_⟩)
 refine ud_.2 (ueg_.2 ⟨⟨by omega,by omega⟩,?_⟩)
 refine ud_.2 ((h0 _ _ (h7▸uxa_ (by omega)) (h7▸uxa_ (by omega))).mono fun r4 _=>?_)
 refine u4_.2 ⟨fun _=>?_,fun _=>?_⟩
 · exact hn _ ⟨h0,h1,h2,by dsimp only; omega,by dsimp only; omega,h5,h6,h7,by dsimp only; omega,h9⟩ (by dsimp only; omega)
 · exact hn _ ⟨h0,h1,h2,h3,by dsimp only; omega,by dsimp only; omega,h6,h7,h8,by dsimp only; omega⟩ (by dsimp only; omega)
theorem uu3_ (slf:(List Int)×Int×Int×Int×YY22→Option (List Int)) (x:(List Int)×Int×Int) (h:0≤x.2.1∧x.2.1≤x.1.length∧0≤x.2.2∧x.1.length≤1048576) :
 Tot (ud7_ slf x) (fun r:List Int=>r.length=x.1.length∧r.Perm x.1):=by
 refine ucj_ (R:=fun r:List Int=>r.length=x.1.length∧r.Perm x.1) (fun y:(List Int)×Int×Int=>0≤y.2.1∧y.2.1≤y.1.length∧0≤y.2.2∧y.1.length≤1048576∧y.1.length=x.1.length∧y.1.Perm x.1)
  (fun y=>(y.2.1-y.2.2).toNat) ?_ _ _ ⟨h.1,h.2.1,h.2.2.1,h.2.2.2,rfl,List.Perm.refl _⟩ (by obtain ⟨_,_,_,_⟩:=h; unfold fuel; omega)
 rintro next ⟨data_0,i_10,k_13⟩ h hn
 dsimp only at h hn
 obtain ⟨h1,h2,h3,h4,h5,h6⟩:=h
 unfold ugu_
 dsimp only
 rw [ubp_ (n:=i_10-1) (by omega) (by omega)]
 refine u4_.2 ⟨fun hc=>?_,fun hc=>uh_.2 ⟨h5,h6⟩⟩
 have hc:=of_decide_eq_true hc
 have hw:IntKind.i64.wrap (k_13+1)=k_13+1:=ubp_ (by omega) (by omega)
 rw [hw]
 refine ud_.2 (ueg_.2 ⟨⟨by omega,by omega⟩,?_⟩)
 refine ud_.2 (ueg_.2 ⟨⟨by omega,by omega⟩,?_⟩)
 refine ud_.2 (ueg_.2 ⟨⟨by omega,by omega⟩,?_⟩)
 refine ud_.2 (ueg_.2 ⟨⟨by omega,by rw [List.length_set]; omega⟩,?_⟩)
 refine hn _ ⟨h1,by simp only [List.length_set]; omega,by dsimp only; omega,by simp only [List.length_set]; omega,by simp only [List.length_set]; omega,(ubrw_ (by omega) (by omega)).trans h6⟩ (by dsimp only; omega)
theorem uur_ (slf:(List Int)×Int×Int×Int×YY22→Option (List Int)) (x:(List Int)×Int×Int) (h:0≤x.2.1∧x.2.2<x.1.length∧x.1.length≤1048576) :
 Tot (udk_ slf x) (fun r:List Int=>r.length=x.1.length∧r.Perm x.1):=by
 refine ucj_ (R:=fun r:List Int=>r.length=x.1.length∧r.Perm x.1) (fun y:(List Int)×Int×Int=>0≤y.2.1∧y.2.2<y.1.length∧y.1.length≤1048576∧y.1.length=x.1.length∧y.1.Perm x.1)
  (fun y=>(y.2.2-y.2.1).toNat) ?_ _ _ ⟨h.1,h.2.1,h.2.2,rfl,List.Perm.refl _⟩ (by obtain ⟨_,_,_⟩:=h; unfold fuel; omega)
 rintro next ⟨data_0,i_14,k_17⟩ h hn
 dsimp only at h hn
 obtain ⟨h1,h2,h4,h5,h6⟩:=h
 unfold ugl_
 dsimp only
 refine u4_.2 ⟨fun hc=>?_,fun hc=>uh_.2 ⟨h5,h6⟩⟩
 have hc:=of_decide_eq_true hc
 have hw:IntKind.i64.wrap (k_17-1)=k_17-1:=ubp_ (by omega) (by omega)
 rw [hw]
 refine ud_.2 (ueg_.2 ⟨⟨by omega,by omega⟩,?_⟩)
 refine ud_.2 (ueg_.2 ⟨⟨by omega,by omega⟩,?_⟩)
 refine ud_.2 (ueg_.2 ⟨⟨by omega,by omega⟩,?_⟩)
 refine ud_.2 (ueg_.2 ⟨⟨by omega,by rw [List.length_set]; omega⟩,?_⟩)
 refine hn _ ⟨h1,by simp only [List.length_set]; omega,by simp only [List.length_set]; omega,by simp only [List.length_set]; omega,(ubrw_ (by omega) (by omega)).trans h6⟩ (by dsimp only; omega)
theorem uu4_ (slf:(List Int)×Int×Int×Int×YY22→Option (List Int)) (x:(List Int)×Int×YY22×Int×Int) (h:CT x.2.2.1 x.1∧0≤x.2.1∧x.2.1<x.1.length∧0≤x.2.2.2.1∧x.2.2.2.1≤x.2.2.2.2∧x.2.2.2.2≤x.1.length∧x.1.length≤1048576) :
 Tot (ud8_ slf x) (fun r:(List Int)×Int=>r.1=x.1∧x.2.2.2.1≤r.2∧r.2≤x.2.2.2.2):=by
 refine ucj_ (R:=fun r:(List Int)×Int=>r.1=x.1∧x.2.2.2.1≤r.2∧r.2≤x.2.2.2.2) (fun y:(List Int)×Int×YY22×Int×Int=>CT y.2.2.1 x.1∧0≤y.2.1∧y.2.1<y.1.length∧0≤y.2.2.2.1∧y.2.2.2.1≤y.2.2.2.2∧y.2.2.2.2≤y.1.length∧y.1.length≤1048576∧y.1=x.1∧x.2.2.2.1≤y.2.2.2.1∧y.2.2.2.2≤x.2.2.2.2)
  (fun y=>(y.2.2.2.2-y.2.2.2.1).toNat) ?_ _ _ ⟨h.1,h.2.1,h.2.2.1,h.2.2.2.1,h.2.2.2.2.1,h.2.2.2.2.2.1,h.2.2.2.2.2.2,rfl,Int.le_refl _,Int.le_refl _⟩ (by obtain ⟨_,_,_,_,_,_,_⟩:=h; unfold fuel; omega)
 rintro next ⟨data_0,m_2,cmp_4,i_14,j_15⟩ h hn
 dsimp only at h hn
 obtain ⟨h0,h1,h2,h3,h4,h5,h6,h7,h8,h9⟩:=h
 unfold ugv_
 dsimp only
 refine u4_.2 ⟨fun hc=>?_,fun hc=>uh_.2 ⟨h7,h8,by dsimp only; omega⟩⟩
 have hc:=of_decide_eq_true hc
 refine ud_.2 (ubga_ (by omega) (by omega) (by omega) (by omega) ?_)
 have hw1:IntKind.i64.wrap ((i_14+j_15) / 2)=(i_14+j_15) / 2:=ubp_ (by omega) (by omega)
 have hw2:IntKind.i64.wrap ((i_14+j_15) / 2+1)=(i_14+j_15) / 2+1:=ubp_ (by omega) (by omega)
 rw [hw1,hw2]
 refine ud_.2 (ueg_.2 ⟨⟨by omega,by omega⟩,?_⟩)
 refine ud_.2 (ueg_.2 ⟨⟨by omega,by omega⟩,?_⟩)
 refine ud_.2 ((h0 _ _ (h7▸uxa_ (by omega)) (h7▸uxa_ (by omega))).mono fun r13 _=>?_)
 refine u4_.2 ⟨fun _=>?_,fun _=>?_⟩
 · exact hn _ ⟨h0,h1,h2,by dsimp only; omega,by dsimp only; omega,h5,h6,h7,by dsimp only; omega,h9⟩ (by dsimp only; omega)
 · exact hn _ ⟨h0,h1,h2,h3,by dsimp only; omega,by dsimp only; omega,h6,h7,h8,by dsimp only; omega⟩ (by dsimp only; omega)
theorem uus_ (slf:(List Int)×Int×Int×Int×YY22→Option (List Int)) (x:(List Int)×YY22×Int×Int×Int) (h:CT x.2.1 x.1∧0≤x.2.2.1∧x.2.2.1≤x.2.2.2.1∧x.2.2.2.1≤x.1.length∧x.2.2.2.1-1≤x.2.2.2.2∧x.2.2.2.2-x.2.2.1<x.1.length∧x.1.length≤1048576) :
 Tot (udl_ slf x) (fun r:(List Int)×Int=>r.1=x.1∧x.2.2.1≤r.2∧r.2≤x.2.2.2.1):=by
 refine ucj_ (R:=fun r:(List Int)×Int=>r.1=x.1∧x.2.2.1≤r.2∧r.2≤x.2.2.2.1) (fun y:(List Int)×YY22×Int×Int×Int=>CT y.2.1 x.1∧0≤y.2.2.1∧y.2.2.1≤y.2.2.2.1∧y.2.2.2.1≤y.1.length∧y.2.2.2.1-1≤y.2.2.2.2∧y.2.2.2.2-y.2.2.1<y.1.length∧y.1.length≤1048576∧y.1=x.1∧x.2.2.1≤y.2.2.1∧y.2.2.2.1≤x.2.2.2.1)
  (fun y=>(y.2.2.2.1-y.2.2.1).toNat) ?_ _ _ ⟨h.1,h.2.1,h.2.2.1,h.2.2.2.1,h.2.2.2.2.1,h.2.2.2.2.2.1,h.2.2.2.2.2.2,rfl,Int.le_refl _,Int.le_refl _⟩ (by obtain ⟨_,_,_,_,_,_,_⟩:=h; unfold fuel; omega)
 rintro next ⟨data_0,cmp_4,start_20,r_21,p_22⟩ h hn
 dsimp only at h hn
 obtain ⟨h0,h1,h2,h3,h4,h5,h6,h7,h8,h9⟩:=h
 unfold ugm_
 dsimp only
 refine u4_.2 ⟨fun hc=>?_,fun hc=>uh_.2 ⟨h7,h8,by dsimp only; omega⟩⟩
 have hc:=of_decide_eq_true hc
 refine ud_.2 (ubga_ (by omega) (by omega) (by omega) (by omega) ?_)
 have hw1:IntKind.i64.wrap ((start_20+r_21) / 2)=(start_20+r_21) / 2:=ubp_ (by omega) (by omega)
 have hw2:IntKind.i64.wrap ((start_20+r_21) / 2+1)=(start_20+r_21) / 2+1:=ubp_ (by omega) (by omega)
 have hw3:IntKind.i64.wrap (p_22-(start_20+r_21) / 2)=p_22-(start_20+r_21) / 2:=ubp_ (by omega) (by omega)
 rw [hw1,hw2,hw3]
 refine ud_.2 (ueg_.2 ⟨⟨by omega,by omega⟩,?_⟩)
 refine ud_.2 (ueg_.2 ⟨⟨by omega,by omega⟩,?_⟩)
 refine ud_.2 ((h0 _ _ (h7▸uxa_ (by omega)) (h7▸uxa_ (by omega))).mono fun r4 _=>?_)
 refine u4_.2 ⟨fun _=>?_,fun _=>?_⟩
 · exact hn _ ⟨h0,by dsimp only; omega,by dsimp only; omega,h3,h4,by dsimp only; omega,h6,h7,by dsimp only; omega,h9⟩ (by dsimp only; omega)
 · exact hn _ ⟨h0,h1,by dsimp only; omega,by dsimp only; omega,by dsimp only; omega,h5,h6,h7,h8,by dsimp only; omega⟩ (by dsimp only; omega)
theorem uut_ (slf:(List Int)×Int×Int×Int×YY22→Option (List Int)) (x:(List Int)×Int×YY22×Int×Int×Bool) (h:x.1.length≤1048576∧(x.2.2.2.2.2=true→0≤x.2.2.2.1∧x.2.2.2.1<x.2.1∧x.2.1<x.2.2.2.2.1∧x.2.2.2.2.1≤x.1.length)) :
 Tot (ubj_ slf x) (fun r:List Int=>r.length=x.1.length∧r.Perm x.1):=by
 obtain ⟨data_0,m_2,cmp_4,start_20,end_24,t185⟩:=x
 dsimp only at h
 unfold ubj_
 dsimp only
 refine u4_.2 ⟨fun hc=>?_,fun _=>uh_.2 ⟨rfl,List.Perm.refl _⟩⟩
 obtain ⟨h1,h2,h3,h4⟩:=h.2 hc
 exact ud_.2 ((u3c_ _ ⟨h1,h2,h3,h4,h.1⟩).mono fun r hr=>uh_.2 hr)
theorem usm_ (slf:(List Int)×Int×Int×Int×YY22→Option (List Int)) (K:Int) (ih:∀ y:(List Int)×Int×Int×Int×YY22,(CT y.2.2.2.2 y.1∧0≤y.2.1∧y.2.1<y.2.2.1∧y.2.2.1<y.2.2.2.1∧y.2.2.2.1≤y.1.length∧y.1.length≤1048576)→y.2.2.2.1-y.2.1≤K→Tot (slf y) (fun r:List Int=>r.length=y.1.length∧r.Perm y.1)) (x:(List Int)×Int×Int×Int×YY22) (h:CT x.2.2.2.2 x.1∧0≤x.2.1∧x.2.1<x.2.2.1∧x.2.2.1<x.2.2.2.1∧x.2.2.2.1≤x.1.length∧x.1.length≤1048576) (hK:x.2.2.2.1-x.2.1≤2*K) :
 Tot (ub1_ slf x) (fun r:List Int=>r.length=x.1.length∧r.Perm x.1):=by
 obtain ⟨data_0,a_1,m_2,b_3,cmp_4⟩:=x
 dsimp only at h hK
 obtain ⟨h0,h1,h2,h3,h4,h5⟩:=h
 unfold ub1_
 dsimp only
 rw [ubp_ (n:=m_2-a_1) (by omega) (by omega),ubp_ (n:=b_3-m_2) (by omega) (by omega)]
 refine u4_.2 ⟨fun _=>?_,fun _=>u4_.2 ⟨fun _=>?_,fun _=>?_⟩⟩
 · refine ud_.2 ((uu2_ slf _ ⟨h0,h1,by dsimp only; omega,by dsimp only; omega,by dsimp only; omega,h4,h5⟩).mono fun r5 hr=>?_)
   dsimp only at hr
   obtain ⟨e1,e2,e3⟩:=hr
   refine ud_.2 ((uu3_ slf _ ⟨by dsimp only; omega,by dsimp only; rw [e1]; omega,h1,by dsimp only; rw [e1]; exact h5⟩).mono fun r9 hr=>uh_.2 ?_)
   dsimp only at hr
   rw [e1] at hr; exact hr
 · refine ud_.2 ((uu4_ slf _ ⟨h0,by dsimp only; omega,by dsimp only; omega,h1,by dsimp only; omega,by dsimp only; omega,h5⟩).mono fun r5 hr=>?_)
   dsimp only at hr
   obtain ⟨e1,e2,e3⟩:=hr
   refine ud_.2 ((uur_ slf _ ⟨by dsimp only; omega,by dsimp only; rw [e1]; omega,by dsimp only; rw [e1]; exact h5⟩).mono fun r9 hr=>uh_.2 ?_)
   dsimp only at hr
   rw [e1] at hr; exact hr
 · refine ud_.2 (ubga_ (by omega) (by omega) (by omega) (by omega) ?_)
   generalize hmid:(a_1+b_3) / 2=mid
   rw [ubp_ (n:=mid) (by omega) (by omega),ubp_ (n:=mid+m_2) (by omega) (by omega),ubp_ (n:=mid+m_2-1) (by omega) (by omega)]
   have hp:Tot (ubi_ slf (a_1,m_2,b_3,mid,mid+m_2,decide (mid<m_2))) fun r:Int×Int=>0≤r.1∧a_1≤r.1∧mid+m_2-b_3≤r.1∧r.1≤r.2∧r.2≤m_2∧r.2≤mid+m_2∧mid+m_2-1-r.1<data_0.length:=by
    unfold ubi_
    dsimp only
    refine u4_.2 ⟨fun hc=>uh_.2 ?_,fun hc=>uh_.2 ?_⟩
    · have hc:=of_decide_eq_true hc
      rw [ubp_ (by omega) (by omega)]
      dsimp only; omega
    · have hc:=of_decide_eq_false hc
      dsimp only; omega
   refine ud_.2 (hp.mono fun r20 hr=>?_)
   obtain ⟨f1,f2,f3,f4,f5,f6,f7⟩:=hr
   refine ud_.2 ((uus_ slf _ ⟨h0,f1,f4,by dsimp only; omega,by dsimp only; omega,f7,h5⟩).mono fun r26 hr=>?_)
   dsimp only at hr
   obtain ⟨e1,e2,e3⟩:=hr
   rw [ubp_ (n:=mid+m_2-r26.2) (by omega) (by omega)]
   refine ud_.2 ((uut_ slf _ ⟨by dsimp only; rw [e1]; exact h5,fun hc=>?_⟩).mono fun r29 hr=>?_)
   · dsimp only at hc ⊢
     rw [Bool.and_eq_true,decide_eq_true_eq,decide_eq_true_eq] at hc
     rw [e1]
     omega
   dsimp only at hr
   rw [e1] at hr
   obtain ⟨g1,g2⟩:=hr
   have hq:Tot (ubk_ slf (r29,a_1,cmp_4,mid,r26.2,decide (a_1<r26.2)&&decide (r26.2<mid))) fun r:List Int=>r.length=data_0.length∧r.Perm data_0:=by
    unfold ubk_
    dsimp only
    refine u4_.2 ⟨fun hc=>?_,fun _=>uh_.2 ⟨g1,g2⟩⟩
    rw [Bool.and_eq_true,decide_eq_true_eq,decide_eq_true_eq] at hc
    refine ud_.2 ((ih _ ⟨h0.perm g2,h1,by dsimp only; omega,by dsimp only; omega,by dsimp only; omega,by dsimp only; omega⟩ (by dsimp only; omega)).mono fun r31 hr=>uh_.2 ?_)
    dsimp only at hr
    exact ⟨by omega,hr.2.trans g2⟩
   refine ud_.2 (hq.mono fun r32 hr=>?_)
   obtain ⟨k1,k2⟩:=hr
   refine u4_.2 ⟨fun hc=>?_,fun _=>uh_.2 ⟨k1,k2⟩⟩
   rw [Bool.and_eq_true,decide_eq_true_eq,decide_eq_true_eq] at hc
   refine ud_.2 ((ih _ ⟨h0.perm k2,by dsimp only; omega,by dsimp only; omega,by dsimp only; omega,by dsimp only; omega,by dsimp only; omega⟩ (by dsimp only; omega)).mono fun r34 hr=>uh_.2 ?_)
   dsimp only at hr
   exact ⟨by omega,hr.2.trans k2⟩
theorem uxb_:∀ (n:Nat) (x:(List Int)×Int×Int×Int×YY22) (h:CT x.2.2.2.2 x.1∧0≤x.2.1∧x.2.1<x.2.2.1∧x.2.2.1<x.2.2.2.1∧x.2.2.2.1≤x.1.length∧x.1.length≤1048576) (hK:x.2.2.2.1-x.2.1≤2 ^ n),Tot (um_ n x) (fun r:List Int=>r.length=x.1.length∧r.Perm x.1):=by
 intro n
 induction n with
 | zero =>
   intro x h hK
   obtain ⟨_,h1,h2,h3,_,_⟩:=h
   rw [Int.pow_zero] at hK
   omega
 | succ n ih =>
   intro x h hK
   refine usm_ (um_ n) (2 ^ n) (fun y hy hk=>ih y hy hk) x h ?_
   rw [Int.pow_succ] at hK
   omega
theorem ul4_ (x:(List Int)×Int×Int×Int×YY22) (h:CT x.2.2.2.2 x.1∧0≤x.2.1∧x.2.1<x.2.2.1∧x.2.2.1<x.2.2.2.1∧x.2.2.2.1≤x.1.length∧x.1.length≤1048576):Tot (ubc_ x) (fun r:List Int=>r.length=x.1.length∧r.Perm x.1):=by
 unfold ubc_
 refine uxb_ 100 x h ?_
 obtain ⟨_,h1,h2,h3,h4,h5⟩:=h
 have:(1048576:Int)≤2 ^ 100:=by decide
 omega
end Go.Ev.Pv
namespace Go.Ev.Pv
theorem uyr_ (x:(List Int)×Int×YY16×Int×Int×Int) (h:CT x.2.2.1 x.1∧x.2.2.2.1=20∧0≤x.2.2.2.2.1∧x.2.2.2.2.2=x.2.2.2.2.1+20∧x.2.1=x.1.length∧x.2.1≤1048576∧x.2.2.2.2.1≤x.2.1):Tot (ue1_ x) (fun r:(List Int)×Int=>r.1.length=x.1.length∧r.1.Perm x.1∧0≤r.2∧r.2≤x.2.1):=by
 refine ucj_ (R:=fun r:(List Int)×Int=>r.1.length=x.1.length∧r.1.Perm x.1∧0≤r.2∧r.2≤x.2.1) (fun y:(List Int)×Int×YY16×Int×Int×Int=>(CT y.2.2.1 x.1∧y.2.2.2.1=20∧0≤y.2.2.2.2.1∧y.2.2.2.2.2=y.2.2.2.2.1+20∧y.2.1=y.1.length∧y.2.1≤1048576∧y.2.2.2.2.1≤y.2.1)∧y.2.1=x.2.1∧y.2.2.1=x.2.2.1∧y.2.2.2.1=x.2.2.2.1∧y.1.length=x.1.length∧y.1.Perm x.1) (fun y:(List Int)×Int×YY16×Int×Int×Int=>(y.2.1-y.2.2.2.2.1).toNat) ?_ _ _ (by grind) (by unfold fuel; grind)
 rintro next ⟨data_0,n_1,cmp_2,blockSize_6,a_7,b_8⟩ h hn
 try dsimp only at h hn
 unfold uh4_
 repeat' first
  | (with_reducible first | refine u4_.2 ⟨fun _=>?_,fun _=>?_⟩ | refine ud_.2 ?_ | refine uh_.2 ?_ | refine (uh0_ _ ?_).mono fun _ _=>?_ | refine hn _ ?_ ?_)
  | dsimp only
 all_goals grind [List.Perm.trans,List.Perm.refl,CT.perm,List.Perm.length_eq,ub0e_,ubnn_,u8b_,ubuj_,uqa_,ub7e_,ub7d_,u8le,uxa_,ubf9_,ub0f_,ub0g_,ub0h_,xlc,xln,xmt,xmd]
theorem uys_ (x:(List Int)×Int×YY16×Int×Int×Int) (h:CT x.2.2.1 x.1∧0<x.2.2.2.1∧x.2.2.2.1<x.2.1∧0≤x.2.2.2.2.1∧x.2.2.2.2.2=x.2.2.2.2.1+2*x.2.2.2.1∧x.2.1=x.1.length∧x.2.1≤1048576∧x.2.2.2.2.1≤x.2.1):Tot (ue2_ x) (fun r:(List Int)×Int=>r.1.length=x.1.length∧r.1.Perm x.1∧0≤r.2∧r.2≤x.2.1):=by
 refine ucj_ (R:=fun r:(List Int)×Int=>r.1.length=x.1.length∧r.1.Perm x.1∧0≤r.2∧r.2≤x.2.1) (fun y:(List Int)×Int×YY16×Int×Int×Int=>(CT y.2.2.1 x.1∧0<y.2.2.2.1∧y.2.2.2.1<y.2.1∧0≤y.2.2.2.2.1∧y.2.2.2.2.2=y.2.2.2.2.1+2*y.2.2.2.1∧y.2.1=y.1.length∧y.2.1≤1048576∧y.2.2.2.2.1≤y.2.1)∧y.2.1=x.2.1∧y.2.2.1=x.2.2.1∧y.2.2.2.1=x.2.2.2.1∧y.1.length=x.1.length∧y.1.Perm x.1) (fun y:(List Int)×Int×YY16×Int×Int×Int=>(y.2.1-y.2.2.2.2.1).toNat) ?_ _ _ (by grind) (by unfold fuel; grind)
 rintro next ⟨data_0,n_1,cmp_2,blockSize_6,a_7,b_8⟩ h hn
 try dsimp only at h hn
 unfold uh5_
 repeat' first
  | (with_reducible first | refine u4_.2 ⟨fun _=>?_,fun _=>?_⟩ | refine ud_.2 ?_ | refine uh_.2 ?_ | refine (ul4_ _ ?_).mono fun _ _=>?_ | refine hn _ ?_ ?_)
  | dsimp only
 all_goals grind [List.Perm.trans,List.Perm.refl,CT.perm,List.Perm.length_eq,ub0e_,ubnn_,u8b_,ubuj_,uqa_,ub7e_,ub7d_,u8le,uxa_,ubf9_,ub0f_,ub0g_,ub0h_,xlc,xln,xmt,xmd]
theorem uyt_ (x:(List Int)×Int×YY16×Int) (h:CT x.2.2.1 x.1∧0<x.2.2.2∧x.2.2.2≤2097152∧x.2.1=x.1.length∧x.2.1≤1048576):Tot (ue3_ x) (fun r:List Int=>r.length=x.1.length∧r.Perm x.1):=by
 refine ucj_ (R:=fun r:List Int=>r.length=x.1.length∧r.Perm x.1) (fun y:(List Int)×Int×YY16×Int=>(CT y.2.2.1 x.1∧0<y.2.2.2∧y.2.2.2≤2097152∧y.2.1=y.1.length∧y.2.1≤1048576)∧y.2.1=x.2.1∧y.2.2.1=x.2.2.1∧y.1.length=x.1.length∧y.1.Perm x.1) (fun y:(List Int)×Int×YY16×Int=>(2097153-y.2.2.2).toNat) ?_ _ _ (by grind) (by unfold fuel; grind)
 rintro next ⟨data_0,n_1,cmp_2,blockSize_6⟩ h hn
 try dsimp only at h hn
 unfold uh6_
 repeat' first
  | (with_reducible first | refine u4_.2 ⟨fun _=>?_,fun _=>?_⟩ | refine ud_.2 ?_ | refine uh_.2 ?_ | refine (uys_ _ ?_).mono fun _ _=>?_ | refine (ul4_ _ ?_).mono fun _ _=>?_ | refine hn _ ?_ ?_)
  | dsimp only
 all_goals grind [List.Perm.trans,List.Perm.refl,CT.perm,List.Perm.length_eq,ub0e_,ubnn_,u8b_,ubuj_,uqa_,ub7e_,ub7d_,u8le,uxa_,ubf9_,ub0f_,ub0g_,ub0h_,xlc,xln,xmt,xmd]
theorem u3d_ (x:(List Int)×Int×YY16) (h:CT x.2.2 x.1∧x.2.1=x.1.length∧x.2.1≤1048576):Tot (uem_ x) (fun r:List Int=>r.length=x.1.length∧r.Perm x.1):=by
 obtain ⟨data_0,n_1,cmp_2⟩:=x
 try dsimp only at h ⊢
 unfold uem_
 repeat' first
  | (with_reducible first | refine ud_.2 ?_ | refine uh_.2 ?_ | refine (uyr_ _ ?_).mono fun _ _=>?_ | refine (uh0_ _ ?_).mono fun _ _=>?_ | refine (uyt_ _ ?_).mono fun _ _=>?_)
  | dsimp only
 all_goals grind [List.Perm.trans,List.Perm.refl,CT.perm,List.Perm.length_eq,ub0e_,ubnn_,u8b_,ubuj_,uqa_,ub7e_,ub7d_,u8le,uxa_,ubf9_,ub0f_,ub0g_,ub0h_,xlc,xln,xmt,xmd]
theorem u0w_ (x:(List Int)×YY16) (h:CT x.2 x.1∧x.1.length≤1048576):Tot (u6_ x) (fun r:List Int=>r.length=x.1.length∧r.Perm x.1):=by
 obtain ⟨x_0,cmp_1⟩:=x
 try dsimp only at h ⊢
 unfold u6_
 repeat' first
  | (with_reducible first | refine ud_.2 ?_ | refine uh_.2 ?_ | refine (u3d_ _ ?_).mono fun _ _=>?_)
  | dsimp only
 all_goals grind [List.Perm.trans,List.Perm.refl,CT.perm,List.Perm.length_eq,ub0e_,ubnn_,u8b_,ubuj_,uqa_,ub7e_,ub7d_,u8le,uxa_,ubf9_,ub0f_,ub0g_,ub0h_,xlc,xln,xmt,xmd]
end Go.Ev.Pv
namespace Go.Ev.Pv
def gt (d:List Int) (k:Int):Int:=d.getD k.toNat 0
theorem ub0j_ {d:List Int} {i:Int} (x:Int) (h0:0≤i) (h1:i<d.length) (k:Int) (hk:0≤k):gt (d.set i.toNat x) k=if k=i then x else gt d k:=by
 unfold gt
 by_cases e:k=i
 · subst e
   rw [if_pos rfl]
   have:k.toNat<d.length:=by omega
   simp [List.getD,this]
 · rw [if_neg e]
   have:i.toNat≠k.toNat:=by omega
   simp [List.getD,List.getElem?_set_ne this]
def swapF (f:Int→Int) (a b n k:Int):Int:=if a≤k∧k<a+n then f (b+(k-a)) else if b≤k∧k<b+n then f (a+(k-b)) else f k
theorem u98_ (d:List Int) (a b n:Int) (c:Int×Int→Option Int) (ha:0≤a) (hb:0≤b) (hn:0≤n) (hab:a+n≤b∨b+n≤a) (h1:a+n≤d.length) (h2:b+n≤d.length) (hd:d.length≤1048576) :
 Tot (u9_ (d,a,b,n,c)) (fun r=>r.length=d.length∧∀ k,0≤k→gt r k=swapF (gt d) a b n k):=by
 unfold u9_
 dsimp only
 refine ud_.2 (Tot.mono (P:=fun r:List Int=>r.length=d.length∧∀ k,0≤k→gt r k=swapF (gt d) a b n k) ?_ fun r hr=>uh_.2 hr)
 refine ucj_ (R:=fun r:List Int=>r.length=d.length∧∀ k,0≤k→gt r k=swapF (gt d) a b n k)
  (fun y:List Int×Int×Int×Int×Int=>y.2.1=a∧y.2.2.1=b∧y.2.2.2.1=n∧0≤y.2.2.2.2∧y.2.2.2.2≤n∧y.1.length=d.length∧∀ k,0≤k→gt y.1 k=swapF (gt d) a b y.2.2.2.2 k)
  (fun y=>(n-y.2.2.2.2).toNat) ?_ _ _ ⟨rfl,rfl,rfl,Int.le_refl _,hn,rfl,fun k hk=>by unfold swapF; dsimp only; rw [if_neg (by omega),if_neg (by omega)]⟩ (by unfold fuel; dsimp only; omega)
 rintro next ⟨e,a',b',n',i⟩ hI hn'
 dsimp only at hI hn'
 obtain ⟨rfl,rfl,rfl,i0,i1,hl,hg⟩:=hI
 unfold ugj_
 dsimp only
 refine u4_.2 ⟨fun hc=>?_,fun hc=>uh_.2 ⟨hl,?_⟩⟩
 · have hc:=of_decide_eq_true hc
   rw [ubp_ (n:=a'+i) (by omega) (by omega),ubp_ (n:=b'+i) (by omega) (by omega),ubp_ (n:=i+1) (by omega) (by omega)]
   refine ud_.2 (ueg_.2 ⟨⟨by omega,by omega⟩,?_⟩)
   refine ud_.2 (ueg_.2 ⟨⟨by omega,by omega⟩,?_⟩)
   refine ud_.2 (ueg_.2 ⟨⟨by omega,by omega⟩,?_⟩)
   refine ud_.2 (ueg_.2 ⟨⟨by omega,by rw [List.length_set]; omega⟩,?_⟩)
   refine hn' _ ⟨rfl,rfl,rfl,by dsimp only; omega,by dsimp only; omega,by dsimp only; rw [List.length_set,List.length_set]; exact hl,fun k hk=>?_⟩ (by dsimp only; omega)
   dsimp only
   rw [ub0j_ _ (by omega) (by rw [List.length_set]; omega) k hk,ub0j_ _ (by omega) (by omega) k hk]
   have ea:e.getD (a'+i).toNat 0=gt e (a'+i):=rfl
   have eb:e.getD (b'+i).toNat 0=gt e (b'+i):=rfl
   rw [ea,eb,hg _ (by omega),hg _ (by omega),hg k hk]
   unfold swapF
   repeat' split
   all_goals first | omega | rfl | (congr 1; omega)
 · have hc:=of_decide_eq_false hc
   rwa [show i=n' by omega] at hg
def rotF (f:Int→Int) (a m b k:Int):Int:=if a≤k∧k<b then (if k<a+(b-m) then f (k+(m-a)) else f (k-(b-m))) else f k
theorem ucb3_ (f:Int→Int) (m i j k:Int) (hj:0<j) (hi:j<i):rotF (swapF f (m-i) m j) (m-(i-j)) m (m+j) k=rotF f (m-i) m (m+j) k:=by
 unfold rotF swapF
 split <;> split <;> (try split) <;> (try split) <;> (try split) <;> (try split) <;> first | omega | (congr 1; omega) | rfl
theorem ub9g_ (f:Int→Int) (m i j k:Int) (hj:0<i) (hi:i<j):rotF (swapF f (m-i) (m+j-i) i) (m-i) m (m+(j-i)) k=rotF f (m-i) m (m+j) k:=by
 unfold rotF swapF
 split <;> split <;> (try split) <;> (try split) <;> (try split) <;> (try split) <;> first | omega | (congr 1; omega) | rfl
theorem uce1_ (f:Int→Int) (m i k:Int):swapF f (m-i) m i k=rotF f (m-i) m (m+i) k:=by
 unfold rotF swapF
 split <;> (try split) <;> (try split) <;> (try split) <;> first | omega | (congr 1; omega) | rfl
theorem ub4i_ (d:List Int) (a m b:Int) (c:Int×Int→Option Int) (ha:0≤a) (h1:a<m) (h2:m<b) (h3:b≤d.length) (hd:d.length≤1048576) :
 Tot (uc6_ (d,a,m,b,c)) (fun r=>r.length=d.length∧∀ k,0≤k→gt r k=rotF (gt d) a m b k):=by
 unfold uc6_
 dsimp only
 rw [ubp_ (n:=m-a) (by omega) (by omega),ubp_ (n:=b-m) (by omega) (by omega)]
 refine ud_.2 (Tot.mono (P:=fun r:List Int×Int=>r.1.length=d.length∧0<r.2∧r.2≤m-a∧r.2≤b-m∧∀ k,0≤k→rotF (gt r.1) (m-r.2) m (m+r.2) k=rotF (gt d) a m b k) ?_ fun r hr=>?_)
 · refine ucj_ (R:=fun r:List Int×Int=>r.1.length=d.length∧0<r.2∧r.2≤m-a∧r.2≤b-m∧∀ k,0≤k→rotF (gt r.1) (m-r.2) m (m+r.2) k=rotF (gt d) a m b k)
    (fun y:List Int×Int×YY22×Int×Int=>y.2.1=m∧y.1.length=d.length∧0<y.2.2.2.1∧0<y.2.2.2.2∧y.2.2.2.1≤m-a∧y.2.2.2.2≤b-m∧∀ k,0≤k→rotF (gt y.1) (m-y.2.2.2.1) m (m+y.2.2.2.2) k=rotF (gt d) a m b k)
    (fun y=>(y.2.2.2.1+y.2.2.2.2).toNat) ?_ _ _ ⟨rfl,rfl,by dsimp only; omega,by dsimp only; omega,Int.le_refl _,Int.le_refl _,fun k _=>by dsimp only; rw [show m-(m-a)=a by omega,show m+(b-m)=b by omega]⟩ (by unfold fuel; dsimp only; omega)
   rintro next ⟨e,m',c',i,j⟩ hI hn'
   dsimp only at hI hn'
   obtain ⟨rfl,hl,i0,j0,i1,j1,hg⟩:=hI
   unfold uh2_
   dsimp only
   rw [uqa_]
   refine u4_.2 ⟨fun hc=>?_,fun hc=>uh_.2 ?_⟩
   · have hc:¬ i=j:=by simpa using hc
     rw [ubp_ (n:=m'-i) (by omega) (by omega),ubp_ (n:=m'+j) (by omega) (by omega),ubp_ (n:=m'+j-i) (by omega) (by omega),ubp_ (n:=i-j) (by omega) (by omega),ubp_ (n:=j-i) (by omega) (by omega)]
     refine u4_.2 ⟨fun hd'=>?_,fun hd'=>?_⟩
     · have hd':=of_decide_eq_true hd'
       refine ud_.2 ((u98_ e (m'-i) m' j c' (by omega) (by omega) (by omega) (by omega) (by omega) (by omega) (by omega)).mono fun r hr=>?_)
       refine hn' _ ⟨rfl,by dsimp only; omega,by dsimp only; omega,j0,by dsimp only; omega,j1,fun k hk=>?_⟩ (by dsimp only; omega)
       dsimp only
       rw [← hg k hk,← ucb3_ (gt e) m' i j k j0 hd']
       unfold rotF
       split
       · split
         · exact hr.2 _ (by omega)
         · exact hr.2 _ (by omega)
       · exact hr.2 _ hk
     · have hd':=of_decide_eq_false hd'
       refine ud_.2 ((u98_ e (m'-i) (m'+j-i) i c' (by omega) (by omega) (by omega) (by omega) (by omega) (by omega) (by omega)).mono fun r hr=>?_)
       refine hn' _ ⟨rfl,by dsimp only; omega,i0,by dsimp only; omega,i1,by dsimp only; omega,fun k hk=>?_⟩ (by dsimp only; omega)
       dsimp only
       rw [← hg k hk,← ub9g_ (gt e) m' i j k i0 (by omega)]
       unfold rotF
       split
       · split
         · exact hr.2 _ (by omega)
         · exact hr.2 _ (by omega)
       · exact hr.2 _ hk
   · have hc:i=j:=by simpa using hc
     subst hc
     exact ⟨hl,i0,i1,j1,hg⟩
 · obtain ⟨e,i⟩:=r
   dsimp only at hr ⊢
   obtain ⟨hl,i0,i1,i2,hg⟩:=hr
   rw [ubp_ (n:=m-i) (by omega) (by omega)]
   refine ud_.2 ((u98_ e (m-i) m i c (by omega) (by omega) (by omega) (by omega) (by omega) (by omega) (by omega)).mono fun r hr=>uh_.2 ⟨by omega,fun k hk=>?_⟩)
   rw [hr.2 k hk,uce1_,hg k hk]
end Go.Ev.Pv
namespace Go.Ev.Pv
structure SLO (lt:Int→Int→Prop) (P:Int→Prop):Prop where
 irr:∀ x,P x→¬ lt x x
 tr:∀ x y z,P x→P y→P z→lt x y→lt y z→lt x z
 tot:∀ x y,P x→P y→x≠y→lt x y∨lt y x
def CMo (C:Int×Int→Option Int) (lt:Int→Int→Prop) (P:Int→Prop):Prop:=∀ x y,P x→P y→y<x→∃ c,C (x,y)=some c∧(c<0↔lt x y)
def Sgm (lt:Int→Int→Prop) (f:Int→Int) (a b:Int):Prop:=∀ i j,a≤i→i<j→j<b→lt (f i) (f j)
structure MPre (lt:Int→Int→Prop) (P:Int→Prop) (f:Int→Int) (a m b:Int):Prop where
 p:∀ k,a≤k→k<b→P (f k)
 l:Sgm lt f a m
 r:Sgm lt f m b
 x:∀ i j,a≤i→i<m→m≤j→j<b→f i<f j
structure MPost (lt:Int→Int→Prop) (d:List Int) (a b:Int) (r:List Int):Prop where
 len:r.length=d.length
 out:∀ k,0≤k→(k<a∨b≤k)→gt r k=gt d k
 sg:Sgm lt (gt r) a b
 inn:∀ k,a≤k→k<b→∃ j,a≤j∧j<b∧gt r k=gt d j
variable {lt:Int→Int→Prop} {P:Int→Prop} {C:Int×Int→Option Int}
theorem SLO.asym (h:SLO lt P) {x y:Int} (hx:P x) (hy:P y) (h1:lt x y):¬ lt y x:=fun h2=>h.irr x hx (h.tr x y x hx hy hx h1 h2)
theorem SLO.of_not (h:SLO lt P) {x y:Int} (hx:P x) (hy:P y) (hne:x≠y) (h1:¬ lt x y):lt y x:=(h.tot x y hx hy hne).resolve_left h1
theorem ub7h_ (f:Int→Int) (m e k:Int):rotF f m m e k=f k:=by
 unfold rotF
 repeat' split
 all_goals first | omega | rfl | (congr 1; omega)
theorem ucak_ (f:Int→Int) (s m k:Int):rotF f s m m k=f k:=by
 unfold rotF
 repeat' split
 all_goals first | omega | rfl | (congr 1; omega)
theorem ub7i_ (f:Int→Int) {s m e k:Int} (h:k<s):rotF f s m e k=f k:=by
 unfold rotF; rw [if_neg (by omega)]
theorem ub9h_ (f:Int→Int) {s m e k:Int} (h1:s≤k) (h2:k<s+(e-m)) (h3:s≤m):rotF f s m e k=f (k+(m-s)):=by
 unfold rotF; rw [if_pos (by omega),if_pos (by omega)]
theorem ucdu_ (f:Int→Int) {s m e k:Int} (h1:s+(e-m)≤k) (h2:k<e) (h3:m≤e):rotF f s m e k=f (k-(e-m)):=by
 unfold rotF; rw [if_pos (by omega),if_neg (by omega)]
theorem ucb4_ (f:Int→Int) {s m e k:Int} (h:e≤k):rotF f s m e k=f k:=by
 unfold rotF; rw [if_neg (by omega)]
structure Parts (lt:Int→Int→Prop) (P:Int→Prop) (f g:Int→Int) (a s t e b:Int):Prop where
 lo:MPre lt P g a s t
 hi:MPre lt P g t e b
 x:∀ i j,a≤i→i<t→t≤j→j<b→lt (g i) (g j)
 out:∀ k,0≤k→(k<a∨b≤k)→g k=f k
 inn:∀ k,a≤k→k<b→∃ j,a≤j∧j<b∧g k=f j
theorem parts {f g:Int→Int} {a s m e b t:Int} (h:MPre lt P f a m b) (ha:0≤a) (hs0:a≤s) (hs1:s≤m) (he0:m≤e) (he1:e≤b) (ht:t=s+(e-m)) (hg:∀ k,0≤k→g k=rotF f s m e k)
 (h1:∀ i j,a≤i→i<s→e≤j→j<b→lt (f i) (f j)) (h2:∀ i j,s≤i→i<m→m≤j→j<e→lt (f j) (f i)):Parts lt P f g a s t e b:=by
 subst ht
 have A1:∀ k,a≤k→k<s→g k=f k:=fun k k1 k2=>by rw [hg k (by omega),ub7i_ f k2]
 have B1:∀ k,s≤k→k<s+(e-m)→g k=f (k+(m-s)):=fun k k1 k2=>by rw [hg k (by omega),ub9h_ f k1 k2 hs1]
 have A2:∀ k,s+(e-m)≤k→k<e→g k=f (k-(e-m)):=fun k k1 k2=>by rw [hg k (by omega),ucdu_ f k1 k2 he0]
 have B2:∀ k,e≤k→k<b→g k=f k:=fun k k1 k2=>by rw [hg k (by omega),ucb4_ f k1]
 refine ⟨⟨fun k k1 k2=>?_,fun i j i1 ij j1=>?_,fun i j i1 ij j1=>?_,fun i j i1 i2 j1 j2=>?_⟩,⟨fun k k1 k2=>?_,fun i j i1 ij j1=>?_,fun i j i1 ij j1=>?_,fun i j i1 i2 j1 j2=>?_⟩,fun i j i1 i2 j1 j2=>?_,fun k k0 kk=>?_,fun k k1 k2=>?_⟩
 · by_cases c:k<s
   · rw [A1 k k1 c]; exact h.p _ (by omega) (by omega)
   · rw [B1 k (by omega) k2]; exact h.p _ (by omega) (by omega)
 · rw [A1 i i1 (by omega),A1 j (by omega) j1]; exact h.l i j i1 ij (by omega)
 · rw [B1 i i1 (by omega),B1 j (by omega) j1]; exact h.r _ _ (by omega) (by omega) (by omega)
 · rw [A1 i i1 i2,B1 j j1 j2]; exact h.x _ _ i1 (by omega) (by omega) (by omega)
 · by_cases c:k<e
   · rw [A2 k k1 c]; exact h.p _ (by omega) (by omega)
   · rw [B2 k (by omega) k2]; exact h.p _ (by omega) (by omega)
 · rw [A2 i i1 (by omega),A2 j (by omega) j1]; exact h.l _ _ (by omega) (by omega) (by omega)
 · rw [B2 i i1 (by omega),B2 j (by omega) j1]; exact h.r _ _ (by omega) (by omega) (by omega)
 · rw [A2 i i1 i2,B2 j j1 j2]; exact h.x _ _ (by omega) (by omega) (by omega) (by omega)
 · by_cases c:i<s <;> by_cases c':j<e
   · rw [A1 i i1 c,A2 j j1 c']; exact h.l _ _ (by omega) (by omega) (by omega)
   · rw [A1 i i1 c,B2 j (by omega) j2]; exact h1 _ _ i1 c (by omega) j2
   · rw [B1 i (by omega) i2,A2 j j1 c']; exact h2 _ _ (by omega) (by omega) (by omega) (by omega)
   · rw [B1 i (by omega) i2,B2 j (by omega) j2]; exact h.r _ _ (by omega) (by omega) (by omega)
 · rw [hg k k0]
   rcases kk with kk | kk
   · rw [ub7i_ f (by omega)]
   · rw [ucb4_ f (by omega)]
 · by_cases c1:k<s
   · exact ⟨k,by omega,by omega,A1 k k1 c1⟩
   · by_cases c2:k<s+(e-m)
     · exact ⟨k+(m-s),by omega,by omega,B1 k (by omega) c2⟩
     · by_cases c3:k<e
       · exact ⟨k-(e-m),by omega,by omega,A2 k (by omega) c3⟩
       · exact ⟨k,by omega,by omega,B2 k (by omega) k2⟩
theorem ubwc_ {g:Int→Int} {a t b:Int} (h1:Sgm lt g a t) (h2:Sgm lt g t b) (h3:∀ i j,a≤i→i<t→t≤j→j<b→lt (g i) (g j)):Sgm lt g a b:=by
 intro i j i1 ij j1
 by_cases c:j<t
 · exact h1 i j i1 ij c
 · by_cases c':i<t
   · exact h3 i j i1 c' (by omega) j1
   · exact h2 i j (by omega) ij j1
theorem uce2_ (slf:List Int×Int×Int×Int×YY22→Option (List Int)) (d:List Int) (a m b lo hi p:Int) (hO:SLO lt P) (hC:CMo C lt P) (h:MPre lt P (gt d) a m b) (ha:0≤a) (hb:b≤d.length) (hd:d.length≤1048576)
 (hmb:m≤b) (hlo:a≤lo) (hlh:lo≤hi) (hhi:hi≤m) (hp1:∀ c,lo≤c→c<hi→m≤p-c∧p-c<b) (hp:p≤2097152) (hp0:-1≤p) :
 Tot (udl_ slf (d,C,lo,hi,p)) (fun r=>r.1=d∧lo≤r.2∧r.2≤hi∧(∀ c,lo≤c→c<r.2→¬ lt (gt d (p-c)) (gt d c))∧∀ c,r.2≤c→c<hi→lt (gt d (p-c)) (gt d c)):=by
 refine ucj_ (R:=fun r:List Int×Int=>r.1=d∧lo≤r.2∧r.2≤hi∧(∀ c,lo≤c→c<r.2→¬ lt (gt d (p-c)) (gt d c))∧∀ c,r.2≤c→c<hi→lt (gt d (p-c)) (gt d c))
  (fun y:List Int×YY22×Int×Int×Int=>y.1=d∧y.2.1=C∧y.2.2.2.2=p∧lo≤y.2.2.1∧y.2.2.1≤y.2.2.2.1∧y.2.2.2.1≤hi∧(∀ c,lo≤c→c<y.2.2.1→¬ lt (gt d (p-c)) (gt d c))∧∀ c,y.2.2.2.1≤c→c<hi→lt (gt d (p-c)) (gt d c))
  (fun y=>(y.2.2.2.1-y.2.2.1).toNat) ?_ _ _ ⟨rfl,rfl,rfl,Int.le_refl _,hlh,Int.le_refl _,fun c c1 c2=>by dsimp only at c2; omega,fun c c1 c2=>by dsimp only at c1; omega⟩ (by unfold fuel; dsimp only; omega)
 rintro next ⟨d',C',st,r,p'⟩ hI hn
 dsimp only at hI hn
 obtain ⟨rfl,rfl,rfl,g0,g1,g2,g3,g4⟩:=hI
 unfold ugm_
 dsimp only
 refine u4_.2 ⟨fun hc=>?_,fun hc=>uh_.2 ?_⟩
 · have hc:=of_decide_eq_true hc
   refine ud_.2 (ubga_ (by omega) (by omega) (by omega) (by omega) ?_)
   generalize hmid:(st+r) / 2=c
   obtain ⟨q1,q2⟩:=hp1 c (by omega) (by omega)
   rw [ubp_ (n:=c) (by omega) (by omega),ubp_ (n:=c+1) (by omega) (by omega),ubp_ (n:=p'-c) (by omega) (by omega)]
   refine ud_.2 (ueg_.2 ⟨⟨by omega,by omega⟩,?_⟩)
   refine ud_.2 (ueg_.2 ⟨⟨by omega,by omega⟩,?_⟩)
   have hx:∀ k,a≤k→k<b→P (gt d' k):=h.p
   obtain ⟨v,hv,hlt⟩:=hC (gt d' (p'-c)) (gt d' c) (hx _ (by omega) q2) (hx _ (by omega) (by omega)) (h.x _ _ (by omega) (by omega) q1 q2)
   show Tot ((C' (gt d' (p'-c),gt d' c)).bind _) _
   rw [hv]
   refine ud_.2 (uh_.2 (u4_.2 ⟨fun hz=>?_,fun hz=>?_⟩))
   · have hz:¬ lt (gt d' (p'-c)) (gt d' c):=fun e=>by have:=hlt.2 e; simp [this] at hz
     have hz':=hO.of_not (hx _ (by omega) q2) (hx _ (by omega) (by omega)) (by have:=h.x c (p'-c) (by omega) (by omega) q1 q2; omega) hz
     refine hn _ ⟨rfl,rfl,rfl,by dsimp only; omega,by dsimp only; omega,g2,fun c' c1 c2=>?_,g4⟩ (by dsimp only; omega)
     dsimp only at c2
     by_cases e:c'=c
     · rw [e]; exact hz
     · obtain ⟨w1,w2⟩:=hp1 c' c1 (by omega)
       have e1:lt (gt d' c') (gt d' c):=h.l _ _ (by omega) (by omega) (by omega)
       have e2:lt (gt d' (p'-c)) (gt d' (p'-c')):=h.r _ _ q1 (by omega) w2
       refine hO.asym (hx _ (by omega) (by omega)) (hx _ (by omega) w2) ?_
       exact hO.tr _ _ _ (hx _ (by omega) (by omega)) (hx _ (by omega) q2) (hx _ (by omega) w2) (hO.tr _ _ _ (hx _ (by omega) (by omega)) (hx _ (by omega) (by omega)) (hx _ (by omega) q2) e1 hz') e2
   · have hz:lt (gt d' (p'-c)) (gt d' c):=hlt.1 (by simpa using hz)
     refine hn _ ⟨rfl,rfl,rfl,g0,by dsimp only; omega,by dsimp only; omega,g3,fun c' c1 c2=>?_⟩ (by dsimp only; omega)
     dsimp only at c1
     by_cases e:c'=c
     · rw [e]; exact hz
     · obtain ⟨w1,w2⟩:=hp1 c' (by omega) c2
       have e1:lt (gt d' c) (gt d' c'):=h.l _ _ (by omega) (by omega) (by omega)
       have e2:lt (gt d' (p'-c')) (gt d' (p'-c)):=h.r _ _ w1 (by omega) q2
       exact hO.tr _ _ _ (hx _ (by omega) w2) (hx _ (by omega) q2) (hx _ (by omega) (by omega)) e2 (hO.tr _ _ _ (hx _ (by omega) q2) (hx _ (by omega) (by omega)) (hx _ (by omega) (by omega)) hz e1)
 · have hc:=of_decide_eq_false hc
   have:st=r:=by omega
   subst this
   exact ⟨rfl,g0,g2,g3,g4⟩
end Go.Ev.Pv
namespace Go.Ev.Pv
variable {lt:Int→Int→Prop} {P:Int→Prop} {C:Int×Int→Option Int}
abbrev Slf:=List Int×Int×Int×Int×YY22→Option (List Int)
theorem ucdv_ (slf:Slf) (d:List Int) (a m b:Int) (hO:SLO lt P) (hC:CMo C lt P) (h:MPre lt P (gt d) a m b) (ha:0≤a) (ham:a<m) (hmb:m≤b) (hb:b≤d.length) (hd:d.length≤1048576) :
 Tot (ud6_ slf (d,a,C,m,b)) (fun r=>r.1=d∧m≤r.2∧r.2≤b∧(∀ k,m≤k→k<r.2→lt (gt d k) (gt d a))∧∀ k,r.2≤k→k<b→¬ lt (gt d k) (gt d a)):=by
 refine ucj_ (R:=fun r:List Int×Int=>r.1=d∧m≤r.2∧r.2≤b∧(∀ k,m≤k→k<r.2→lt (gt d k) (gt d a))∧∀ k,r.2≤k→k<b→¬ lt (gt d k) (gt d a))
  (fun y:List Int×Int×YY22×Int×Int=>y.1=d∧y.2.1=a∧y.2.2.1=C∧m≤y.2.2.2.1∧y.2.2.2.1≤y.2.2.2.2∧y.2.2.2.2≤b∧(∀ k,m≤k→k<y.2.2.2.1→lt (gt d k) (gt d a))∧∀ k,y.2.2.2.2≤k→k<b→¬ lt (gt d k) (gt d a))
  (fun y=>(y.2.2.2.2-y.2.2.2.1).toNat) ?_ _ _ ⟨rfl,rfl,rfl,Int.le_refl _,hmb,Int.le_refl _,fun k k1 k2=>by dsimp only at k2; omega,fun k k1 k2=>by dsimp only at k1; omega⟩ (by unfold fuel; dsimp only; omega)
 rintro next ⟨d',a',C',i,j⟩ hI hn
 dsimp only at hI hn
 obtain ⟨rfl,rfl,rfl,g0,g1,g2,g3,g4⟩:=hI
 have hx:∀ k,a'≤k→k<b→P (gt d' k):=h.p
 unfold ugt_
 dsimp only
 refine u4_.2 ⟨fun hc=>?_,fun hc=>uh_.2 ?_⟩
 · have hc:=of_decide_eq_true hc
   refine ud_.2 (ubga_ (by omega) (by omega) (by omega) (by omega) ?_)
   generalize hmid:(i+j) / 2=c
   rw [ubp_ (n:=c) (by omega) (by omega),ubp_ (n:=c+1) (by omega) (by omega)]
   refine ud_.2 (ueg_.2 ⟨⟨by omega,by omega⟩,?_⟩)
   refine ud_.2 (ueg_.2 ⟨⟨by omega,by omega⟩,?_⟩)
   obtain ⟨v,hv,hlt⟩:=hC (gt d' c) (gt d' a') (hx _ (by omega) (by omega)) (hx _ (by omega) (by omega)) (h.x _ _ (by omega) ham (by omega) (by omega))
   show Tot ((C' (gt d' c,gt d' a')).bind _) _
   rw [hv]
   refine ud_.2 (uh_.2 (u4_.2 ⟨fun hz=>?_,fun hz=>?_⟩))
   · have hz:=hlt.1 (of_decide_eq_true hz)
     refine hn _ ⟨rfl,rfl,rfl,by dsimp only; omega,by dsimp only; omega,g2,fun k k1 k2=>?_,g4⟩ (by dsimp only; omega)
     dsimp only at k2
     by_cases e:k=c
     · rw [e]; exact hz
     · exact hO.tr _ _ _ (hx _ (by omega) (by omega)) (hx _ (by omega) (by omega)) (hx _ (by omega) (by omega)) (h.r k c k1 (by omega) (by omega)) hz
   · have hz:¬ lt (gt d' c) (gt d' a'):=fun e=>of_decide_eq_false hz (hlt.2 e)
     refine hn _ ⟨rfl,rfl,rfl,g0,by dsimp only; omega,by dsimp only; omega,g3,fun k k1 k2=>?_⟩ (by dsimp only; omega)
     dsimp only at k1
     by_cases e:k=c
     · rw [e]; exact hz
     · exact fun w=>hz (hO.tr _ _ _ (hx _ (by omega) (by omega)) (hx _ (by omega) (by omega)) (hx _ (by omega) (by omega)) (h.r c k (by omega) (by omega) k2) w)
 · have hc:=of_decide_eq_false hc
   have:i=j:=by omega
   subst this
   exact ⟨rfl,g0,g2,g3,g4⟩
theorem ucdw_ (slf:Slf) (d:List Int) (a m b:Int) (hO:SLO lt P) (hC:CMo C lt P) (h:MPre lt P (gt d) a m b) (ha:0≤a) (ham:a≤m) (hmb:m<b) (hb:b≤d.length) (hd:d.length≤1048576) :
 Tot (ud8_ slf (d,m,C,a,m)) (fun r=>r.1=d∧a≤r.2∧r.2≤m∧(∀ k,a≤k→k<r.2→¬ lt (gt d m) (gt d k))∧∀ k,r.2≤k→k<m→lt (gt d m) (gt d k)):=by
 refine ucj_ (R:=fun r:List Int×Int=>r.1=d∧a≤r.2∧r.2≤m∧(∀ k,a≤k→k<r.2→¬ lt (gt d m) (gt d k))∧∀ k,r.2≤k→k<m→lt (gt d m) (gt d k))
  (fun y:List Int×Int×YY22×Int×Int=>y.1=d∧y.2.1=m∧y.2.2.1=C∧a≤y.2.2.2.1∧y.2.2.2.1≤y.2.2.2.2∧y.2.2.2.2≤m∧(∀ k,a≤k→k<y.2.2.2.1→¬ lt (gt d m) (gt d k))∧∀ k,y.2.2.2.2≤k→k<m→lt (gt d m) (gt d k))
  (fun y=>(y.2.2.2.2-y.2.2.2.1).toNat) ?_ _ _ ⟨rfl,rfl,rfl,Int.le_refl _,ham,Int.le_refl _,fun k k1 k2=>by dsimp only at k2; omega,fun k k1 k2=>by dsimp only at k1; omega⟩ (by unfold fuel; dsimp only; omega)
 rintro next ⟨d',m',C',i,j⟩ hI hn
 dsimp only at hI hn
 obtain ⟨rfl,rfl,rfl,g0,g1,g2,g3,g4⟩:=hI
 have hx:∀ k,a≤k→k<b→P (gt d' k):=h.p
 unfold ugv_
 dsimp only
 refine u4_.2 ⟨fun hc=>?_,fun hc=>uh_.2 ?_⟩
 · have hc:=of_decide_eq_true hc
   refine ud_.2 (ubga_ (by omega) (by omega) (by omega) (by omega) ?_)
   generalize hmid:(i+j) / 2=c
   rw [ubp_ (n:=c) (by omega) (by omega),ubp_ (n:=c+1) (by omega) (by omega)]
   refine ud_.2 (ueg_.2 ⟨⟨by omega,by omega⟩,?_⟩)
   refine ud_.2 (ueg_.2 ⟨⟨by omega,by omega⟩,?_⟩)
   obtain ⟨v,hv,hlt⟩:=hC (gt d' m') (gt d' c) (hx _ (by omega) (by omega)) (hx _ (by omega) (by omega)) (h.x _ _ (by omega) (by omega) (Int.le_refl _) hmb)
   show Tot ((C' (gt d' m',gt d' c)).bind _) _
   rw [hv]
   refine ud_.2 (uh_.2 (u4_.2 ⟨fun hz=>?_,fun hz=>?_⟩))
   · have hz:¬ lt (gt d' m') (gt d' c):=fun e=>by have:=hlt.2 e; simp [this] at hz
     refine hn _ ⟨rfl,rfl,rfl,by dsimp only; omega,by dsimp only; omega,g2,fun k k1 k2=>?_,g4⟩ (by dsimp only; omega)
     dsimp only at k2
     by_cases e:k=c
     · rw [e]; exact hz
     · exact fun w=>hz (hO.tr _ _ _ (hx _ (by omega) (by omega)) (hx _ (by omega) (by omega)) (hx _ (by omega) (by omega)) w (h.l k c k1 (by omega) (by omega)))
   · have hz:lt (gt d' m') (gt d' c):=hlt.1 (by simpa using hz)
     refine hn _ ⟨rfl,rfl,rfl,g0,by dsimp only; omega,by dsimp only; omega,g3,fun k k1 k2=>?_⟩ (by dsimp only; omega)
     dsimp only at k1
     by_cases e:k=c
     · rw [e]; exact hz
     · exact hO.tr _ _ _ (hx _ (by omega) (by omega)) (hx _ (by omega) (by omega)) (hx _ (by omega) (by omega)) hz (h.l c k (by omega) (by omega) k2)
 · have hc:=of_decide_eq_false hc
   have:i=j:=by omega
   subst this
   exact ⟨rfl,g0,g2,g3,g4⟩
theorem ucb5_ (slf:Slf) (d:List Int) (a i:Int) (ha:0≤a) (hai:a<i) (hi:i≤d.length) (hd:d.length≤1048576) :
 Tot (ud7_ slf (d,i,a)) (fun r=>r.length=d.length∧∀ q,0≤q→gt r q=rotF (gt d) a (a+1) i q):=by
 refine ucj_ (R:=fun r:List Int=>r.length=d.length∧∀ q,0≤q→gt r q=rotF (gt d) a (a+1) i q)
  (fun y:List Int×Int×Int=>y.2.1=i∧a≤y.2.2∧y.2.2≤i-1∧y.1.length=d.length∧∀ q,0≤q→gt y.1 q=rotF (gt d) a (a+1) (y.2.2+1) q)
  (fun y=>(i-y.2.2).toNat) ?_ _ _ ⟨rfl,Int.le_refl _,by dsimp only; omega,rfl,fun q _=>(ucak_ _ _ _ _).symm⟩ (by unfold fuel; dsimp only; omega)
 rintro next ⟨e,i',k⟩ hI hn
 dsimp only at hI hn
 obtain ⟨rfl,k0,k1,hl,hg⟩:=hI
 unfold ugu_
 dsimp only
 rw [ubp_ (n:=i'-1) (by omega) (by omega)]
 refine u4_.2 ⟨fun hc=>?_,fun hc=>uh_.2 ⟨hl,?_⟩⟩
 · have hc:=of_decide_eq_true hc
   rw [ubp_ (n:=k+1) (by omega) (by omega)]
   refine ud_.2 (ueg_.2 ⟨⟨by omega,by omega⟩,?_⟩)
   refine ud_.2 (ueg_.2 ⟨⟨by omega,by omega⟩,?_⟩)
   refine ud_.2 (ueg_.2 ⟨⟨by omega,by omega⟩,?_⟩)
   refine ud_.2 (ueg_.2 ⟨⟨by omega,by rw [List.length_set]; omega⟩,?_⟩)
   refine hn _ ⟨rfl,by dsimp only; omega,by dsimp only; omega,by dsimp only; rw [List.length_set,List.length_set]; exact hl,fun q hq=>?_⟩ (by dsimp only; omega)
   dsimp only
   rw [ub0j_ _ (by omega) (by rw [List.length_set]; omega) q hq,ub0j_ _ (by omega) (by omega) q hq]
   have ea:e.getD k.toNat 0=gt e k:=rfl
   have eb:e.getD (k+1).toNat 0=gt e (k+1):=rfl
   rw [ea,eb,hg _ (by omega),hg _ (by omega),hg q hq]
   unfold rotF
   repeat' split
   all_goals first | omega | rfl | (congr 1; omega)
 · have hc:=of_decide_eq_false hc
   rwa [show k+1=i' by omega] at hg
theorem ub7j_ (slf:Slf) (d:List Int) (i m:Int) (hi:0≤i) (him:i≤m) (hm:m<d.length) (hd:d.length≤1048576) :
 Tot (udk_ slf (d,i,m)) (fun r=>r.length=d.length∧∀ q,0≤q→gt r q=rotF (gt d) i m (m+1) q):=by
 refine ucj_ (R:=fun r:List Int=>r.length=d.length∧∀ q,0≤q→gt r q=rotF (gt d) i m (m+1) q)
  (fun y:List Int×Int×Int=>y.2.1=i∧i≤y.2.2∧y.2.2≤m∧y.1.length=d.length∧∀ q,0≤q→gt y.1 q=rotF (gt d) y.2.2 m (m+1) q)
  (fun y=>(y.2.2-i).toNat) ?_ _ _ ⟨rfl,him,Int.le_refl _,rfl,fun q _=>(ub7h_ _ _ _ _).symm⟩ (by unfold fuel; dsimp only; omega)
 rintro next ⟨e,i',k⟩ hI hn
 dsimp only at hI hn
 obtain ⟨rfl,k0,k1,hl,hg⟩:=hI
 unfold ugl_
 dsimp only
 refine u4_.2 ⟨fun hc=>?_,fun hc=>uh_.2 ⟨hl,?_⟩⟩
 · have hc:=of_decide_eq_true hc
   rw [ubp_ (n:=k-1) (by omega) (by omega)]
   refine ud_.2 (ueg_.2 ⟨⟨by omega,by omega⟩,?_⟩)
   refine ud_.2 (ueg_.2 ⟨⟨by omega,by omega⟩,?_⟩)
   refine ud_.2 (ueg_.2 ⟨⟨by omega,by omega⟩,?_⟩)
   refine ud_.2 (ueg_.2 ⟨⟨by omega,by rw [List.length_set]; omega⟩,?_⟩)
   refine hn _ ⟨rfl,by dsimp only; omega,by dsimp only; omega,by dsimp only; rw [List.length_set,List.length_set]; exact hl,fun q hq=>?_⟩ (by dsimp only; omega)
   dsimp only
   rw [ub0j_ _ (by omega) (by rw [List.length_set]; omega) q hq,ub0j_ _ (by omega) (by omega) q hq]
   have ea:e.getD k.toNat 0=gt e k:=rfl
   have eb:e.getD (k-1).toNat 0=gt e (k-1):=rfl
   rw [ea,eb,hg _ (by omega),hg _ (by omega),hg q hq]
   unfold rotF
   repeat' split
   all_goals first | omega | rfl | (congr 1; omega)
 · have hc:=of_decide_eq_false hc
   rwa [show k=i' by omega] at hg
end Go.Ev.Pv
namespace Go.Ev.Pv
variable {lt:Int→Int→Prop} {P:Int→Prop} {C:Int×Int→Option Int}
theorem ub7k_ (f:Int→Int) (a:Int):Sgm lt f a (a+1):=fun i j _ _ _=>by omega
theorem ucal_ (f:Int→Int) (a:Int):Sgm lt f a a:=fun i j _ _ _=>by omega
theorem ub7l_ {d e:List Int} {a s t e' b:Int} (h:Parts lt P (gt d) (gt e) a s t e' b) (hl:e.length=d.length) (h1:Sgm lt (gt e) a t) (h2:Sgm lt (gt e) t b):MPost lt d a b e :=
 ⟨hl,h.out,ubwc_ h1 h2 h.x,h.inn⟩
theorem ub12_ (slf:Slf) (K:Int) (hO:SLO lt P) (hC:CMo C lt P)
 (ih:∀ (d:List Int) (a m b:Int),MPre lt P (gt d) a m b→0≤a→a<m→m<b→b≤d.length→d.length≤1048576→b-a≤K→Tot (slf (d,a,m,b,C)) (MPost lt d a b))
 (d:List Int) (a m b:Int) (h:MPre lt P (gt d) a m b) (ha:0≤a) (ham:a<m) (hmb:m<b) (hb:b≤d.length) (hd:d.length≤1048576) (hK:b-a≤2*K) :
 Tot (ub1_ slf (d,a,m,b,C)) (MPost lt d a b):=by
 have hx:∀ k,a≤k→k<b→P (gt d k):=h.p
 unfold ub1_
 dsimp only
 rw [ubp_ (n:=m-a) (by omega) (by omega),ubp_ (n:=b-m) (by omega) (by omega)]
 refine u4_.2 ⟨fun h1=>?_,fun _=>u4_.2 ⟨fun h1=>?_,fun _=>?_⟩⟩
 · have h1:m-a=1:=by rw [uqa_] at h1; exact of_decide_eq_true h1
   obtain rfl:m=a+1:=by omega
   refine ud_.2 ((ucdv_ slf d a (a+1) b hO hC h ha ham (by omega) hb hd).mono fun r hr=>?_)
   obtain ⟨e,i⟩:=r
   obtain ⟨he,i0,i1,l1,l2⟩:=hr
   dsimp only at he i0 i1 l1 l2 ⊢
   subst he
   refine ud_.2 ((ucb5_ slf e a i ha (by omega) (by omega) hd).mono fun r hr=>uh_.2 ?_)
   obtain ⟨hl,hg⟩:=hr
   have l3:∀ k,i≤k→k<b→lt (gt e a) (gt e k):=fun k k1 k2=>hO.of_not (hx _ (by omega) k2) (hx _ (by omega) (by omega)) (by have:=h.x a k (Int.le_refl _) (by omega) (by omega) k2; omega) (l2 k k1 k2)
   have hp:=parts (s:=a) (e:=i) (t:=i-1) h ha (Int.le_refl _) (by omega) i0 i1 (by omega) hg (fun i j _ _ _ _=>by omega) (fun p q p1 p2 q1 q2=>by
    obtain rfl:p=a:=by omega
    exact l1 q q1 q2)
   refine ub7l_ hp hl hp.lo.r (ubwc_ (t:=i) ?_ hp.hi.r fun p q p1 p2 q1 q2=>?_)
   · have:=ub7k_ (lt:=lt) (gt r) (i-1)
     rwa [show i-1+1=i by omega] at this
   · obtain rfl:p=i-1:=by omega
     rw [hg _ (by omega),hg _ (by omega),ucb4_ _ q1,ucdu_ _ (by omega) (by omega) (by omega),show i-1-(i-(a+1))=a by omega]
     exact l3 q q1 q2
 · have h1:b-m=1:=by rw [uqa_] at h1; exact of_decide_eq_true h1
   obtain rfl:b=m+1:=by omega
   refine ud_.2 ((ucdw_ slf d a m (m+1) hO hC h ha (by omega) (by omega) hb hd).mono fun r hr=>?_)
   obtain ⟨e,i⟩:=r
   obtain ⟨he,i0,i1,l1,l2⟩:=hr
   dsimp only at he i0 i1 l1 l2 ⊢
   subst he
   refine ud_.2 ((ub7j_ slf e i m (by omega) i1 (by omega) hd).mono fun r hr=>uh_.2 ?_)
   obtain ⟨hl,hg⟩:=hr
   have l3:∀ k,a≤k→k<i→lt (gt e k) (gt e m):=fun k k1 k2=>hO.of_not (hx _ (by omega) (by omega)) (hx _ k1 (by omega)) (by have:=h.x k m k1 (by omega) (Int.le_refl _) (by omega); omega) (l1 k k1 k2)
   have hp:=parts (s:=i) (e:=m+1) (t:=i+1) h ha i0 i1 (by omega) (Int.le_refl _) (by omega) hg (fun i j _ _ _ _=>by omega) (fun p q p1 p2 q1 q2=>by
    obtain rfl:q=m:=by omega
    exact l2 p p1 p2)
   refine ub7l_ hp hl (ubwc_ (t:=i) hp.lo.l (ub7k_ _ _) fun p q p1 p2 q1 q2=>?_) hp.hi.l
   obtain rfl:q=i:=by omega
   rw [hg _ (by omega),hg _ (by omega),ub7i_ _ p2,ub9h_ _ (by omega) (by omega) (by omega),show q+(m-q)=m by omega]
   exact l3 p p1 p2
 · refine ud_.2 (ubga_ (by omega) (by omega) (by omega) (by omega) ?_)
   generalize hmid:(a+b) / 2=mid
   have hm1:a≤mid:=by omega
   have hm2:mid<b:=by omega
   have hm3:mid-a≤K:=by omega
   have hm4:b-mid≤K:=by omega
   have hm5:a<mid:=by omega
   rw [ubp_ (n:=mid) (by omega) (by omega),ubp_ (n:=mid+m) (by omega) (by omega),ubp_ (n:=mid+m-1) (by omega) (by omega)]
   have hp12:Tot (ubi_ slf (a,m,b,mid,mid+m,decide (mid<m))) fun r:Int×Int=>a≤r.1∧r.1≤r.2∧r.2≤m∧mid+m-b≤r.1∧r.2≤mid∧(r.1=a∨r.1=mid+m-b)∧(r.2=m∨r.2=mid):=by
    unfold ubi_
    dsimp only
    refine u4_.2 ⟨fun hc=>uh_.2 ?_,fun hc=>uh_.2 ?_⟩
    · have hc:=of_decide_eq_true hc
      rw [ubp_ (by omega) (by omega)]
      dsimp only; omega
    · have hc:=of_decide_eq_false hc
      dsimp only; omega
   refine ud_.2 (hp12.mono fun r14 hr=>?_)
   obtain ⟨lo,hi⟩:=r14
   obtain ⟨f1,f2,f3,f4,f5,f6,f7⟩:=hr
   dsimp only at f1 f2 f3 f4 f5 f6 f7 ⊢
   refine ud_.2 ((uce2_ slf d a m b lo hi (mid+m-1) hO hC h ha hb hd (by omega) f1 f2 f3 (fun c c1 c2=>by omega) (by omega) (by omega)).mono fun r19 hr=>?_)
   obtain ⟨e19,s⟩:=r19
   obtain ⟨he,s0,s1,l1,l2⟩:=hr
   dsimp only at he s0 s1 l1 l2 ⊢
   subst he
   rw [ubp_ (n:=mid+m-s) (by omega) (by omega)]
   generalize hend:mid+m-s=en
   have he0:m≤en:=by omega
   have he1:en≤b:=by omega
   have key1:∀ i j,a≤i→i<s→en≤j→j<b→lt (gt e19 i) (gt e19 j):=by
    intro i j i1 i2 j1 j2
    by_cases c:lo<s
    · have w:=l1 (s-1) (by omega) (by omega)
      rw [show mid+m-1-(s-1)=en by omega] at w
      have w':=hO.of_not (hx en (by omega) (by omega)) (hx (s-1) (by omega) (by omega)) (by have:=h.x (s-1) en (by omega) (by omega) he0 (by omega); omega) w
      have w1:lt (gt e19 i) (gt e19 en):=by
       by_cases q:i=s-1
       · rw [q]; exact w'
       · exact hO.tr _ _ _ (hx _ i1 (by omega)) (hx _ (by omega) (by omega)) (hx _ (by omega) (by omega)) (h.l i (s-1) i1 (by omega) (by omega)) w'
      by_cases q:j=en
      · rw [q]; exact w1
      · exact hO.tr _ _ _ (hx _ i1 (by omega)) (hx _ (by omega) (by omega)) (hx _ (by omega) j2) w1 (h.r en j he0 (by omega) j2)
    · omega
   have key2:∀ i j,s≤i→i<m→m≤j→j<en→lt (gt e19 j) (gt e19 i):=by
    intro i j i1 i2 j1 j2
    by_cases c:s<hi
    · have w:=l2 s (Int.le_refl _) c
      rw [show mid+m-1-s=en-1 by omega] at w
      have w1:lt (gt e19 j) (gt e19 s):=by
       by_cases q:j=en-1
       · rw [q]; exact w
       · exact hO.tr _ _ _ (hx _ (by omega) (by omega)) (hx _ (by omega) (by omega)) (hx _ (by omega) (by omega)) (h.r j (en-1) j1 (by omega) (by omega)) w
      by_cases q:i=s
      · rw [q]; exact w1
      · exact hO.tr _ _ _ (hx _ (by omega) (by omega)) (hx _ (by omega) (by omega)) (hx _ (by omega) (by omega)) w1 (h.l s i (by omega) (by omega) i2)
    · omega
   have hrot:Tot (ubj_ slf (e19,m,C,s,en,decide (s<m)&&decide (m<en))) (fun r=>r.length=e19.length∧∀ k,0≤k→gt r k=rotF (gt e19) s m en k):=by
    unfold ubj_
    dsimp only
    refine u4_.2 ⟨fun hc=>?_,fun hc=>uh_.2 ⟨rfl,fun k _=>?_⟩⟩
    · rw [Bool.and_eq_true,decide_eq_true_eq,decide_eq_true_eq] at hc
      exact ud_.2 ((ub4i_ e19 s m en C (by omega) hc.1 hc.2 (by omega) hd).mono fun r hr=>uh_.2 hr)
    · rcases Bool.and_eq_false_iff.1 hc with q | q
      · have q:=of_decide_eq_false q
        rw [show s=m by omega,ub7h_]
      · have q:=of_decide_eq_false q
        rw [show en=m by omega,ucak_]
   refine ud_.2 (hrot.mono fun r22 h22=>?_)
   obtain ⟨hl22,hg22⟩:=h22
   have hp:=parts (s:=s) (e:=en) (t:=mid) h ha (by omega) (by omega) he0 he1 (by omega) hg22 key1 key2
   have hq:Tot (ubk_ slf (r22,a,C,mid,s,decide (a<s)&&decide (s<mid))) (MPost lt r22 a mid):=by
    unfold ubk_
    dsimp only
    refine u4_.2 ⟨fun hc=>?_,fun hc=>uh_.2 ⟨rfl,fun _ _ _=>rfl,?_,fun k k1 k2=>⟨k,k1,k2,rfl⟩⟩⟩
    · rw [Bool.and_eq_true,decide_eq_true_eq,decide_eq_true_eq] at hc
      exact ud_.2 ((ih r22 a s mid hp.lo ha hc.1 hc.2 (by omega) (by omega) hm3).mono fun r hr=>uh_.2 hr)
    · rcases Bool.and_eq_false_iff.1 hc with q | q
      · have q:=of_decide_eq_false q
        have:=hp.lo.r
        rwa [show s=a by omega] at this
      · have q:=of_decide_eq_false q
        have:=hp.lo.l
        rwa [show s=mid by omega] at this
   refine ud_.2 (hq.mono fun r25 h25=>?_)
   have hout:∀ k,mid≤k→gt r25 k=gt r22 k:=fun k k1=>h25.out k (by omega) (Or.inr k1)
   have hhi:MPre lt P (gt r25) mid en b:=⟨fun k k1 k2=>by rw [hout k k1]; exact hp.hi.p k k1 k2,fun i j i1 ij j1=>by rw [hout i i1,hout j (by omega)]; exact hp.hi.l i j i1 ij j1,
    fun i j i1 ij j1=>by rw [hout i (by omega),hout j (by omega)]; exact hp.hi.r i j i1 ij j1,fun i j i1 i2 j1 j2=>by rw [hout i i1,hout j (by omega)]; exact hp.hi.x i j i1 i2 j1 j2⟩
   have hcross:∀ i j,a≤i→i<mid→mid≤j→j<b→lt (gt r25 i) (gt r22 j):=fun i j i1 i2 j1 j2=>by
    obtain ⟨i',w1,w2,w3⟩:=h25.inn i i1 i2
    rw [w3]; exact hp.x i' j w1 w2 j1 j2
   have hinn:∀ k,a≤k→k<b→∃ j,a≤j∧j<b∧gt r25 k=gt e19 j:=fun k k1 k2=>by
    by_cases c:k<mid
    · obtain ⟨i',w1,w2,w3⟩:=h25.inn k k1 c
      obtain ⟨j,v1,v2,v3⟩:=hp.inn i' w1 (by omega)
      exact ⟨j,v1,v2,w3.trans v3⟩
    · obtain ⟨j,v1,v2,v3⟩:=hp.inn k k1 k2
      exact ⟨j,v1,v2,(hout k (by omega)).trans v3⟩
   have hl25:=h25.len
   refine u4_.2 ⟨fun hc=>?_,fun hc=>uh_.2 ?_⟩
   · rw [Bool.and_eq_true,decide_eq_true_eq,decide_eq_true_eq] at hc
     refine ud_.2 ((ih r25 mid en b hhi (by omega) hc.1 hc.2 (by omega) (by omega) hm4).mono fun r hr=>uh_.2 ?_)
     refine ⟨by rw [hr.len]; omega,fun k k0 kk=>?_,ubwc_ (t:=mid) (fun i j i1 ij j1=>?_) hr.sg fun i j i1 i2 j1 j2=>?_,fun k k1 k2=>?_⟩
     · rw [hr.out k k0 (by omega),h25.out k k0 (by omega)]; exact hp.out k k0 kk
     · rw [hr.out i (by omega) (by omega),hr.out j (by omega) (by omega)]; exact h25.sg i j i1 ij j1
     · obtain ⟨j',w1,w2,w3⟩:=hr.inn j j1 j2
       rw [hr.out i (by omega) (by omega),w3,hout j' w1]
       exact hcross i j' i1 i2 w1 w2
     · by_cases c:k<mid
       · rw [hr.out k (by omega) (by omega)]; exact hinn k k1 k2
       · obtain ⟨j',w1,w2,w3⟩:=hr.inn k (by omega) k2
         obtain ⟨j,v1,v2,v3⟩:=hinn j' (by omega) w2
         exact ⟨j,v1,v2,w3.trans v3⟩
   · refine ⟨by omega,fun k k0 kk=>?_,ubwc_ (t:=mid) h25.sg ?_ fun i j i1 i2 j1 j2=>?_,hinn⟩
     · rw [h25.out k k0 (by omega)]; exact hp.out k k0 kk
     · rcases Bool.and_eq_false_iff.1 hc with q | q
       · have q:=of_decide_eq_false q
         have:=hhi.r
         rwa [show en=mid by omega] at this
       · have q:=of_decide_eq_false q
         have:=hhi.l
         rwa [show en=b by omega] at this
     · rw [hout j j1]; exact hcross i j i1 i2 j1 j2
theorem ub9i_ (hO:SLO lt P) (hC:CMo C lt P):∀ (n:Nat) (d:List Int) (a m b:Int),MPre lt P (gt d) a m b→0≤a→a<m→m<b→b≤d.length→d.length≤1048576→b-a≤2 ^ n→Tot (um_ n (d,a,m,b,C)) (MPost lt d a b):=by
 intro n
 induction n with
 | zero =>
   intro d a m b h ha ham hmb hb hd hK
   rw [Int.pow_zero] at hK
   omega
 | succ n ih =>
   intro d a m b h ha ham hmb hb hd hK
   refine ub12_ (um_ n) (2 ^ n) hO hC ih d a m b h ha ham hmb hb hd ?_
   rw [Int.pow_succ] at hK
   omega
theorem ub0k_ (hO:SLO lt P) (hC:CMo C lt P) (d:List Int) (a m b:Int) (h:MPre lt P (gt d) a m b) (ha:0≤a) (ham:a<m) (hmb:m<b) (hb:b≤d.length) (hd:d.length≤1048576) :
 Tot (ubc_ (d,a,m,b,C)) (MPost lt d a b):=by
 unfold ubc_
 refine ub9i_ hO hC 100 d a m b h ha ham hmb hb hd ?_
 have:(1048576:Int)≤2 ^ 100:=by decide
 omega
end Go.Ev.Pv
namespace Go.Ev.Pv
variable {lt:Int→Int→Prop} {P:Int→Prop} {C:Int×Int→Option Int}
theorem ub7m_ {e r:List Int} {a i m:Int} (h:MPre lt P (gt e) a m (m+1)) (ha:0≤a) (i0:a≤i) (i1:i≤m) (hl:r.length=e.length) (hg:∀ q,0≤q→gt r q=rotF (gt e) i m (m+1) q)
 (l3:∀ k,a≤k→k<i→lt (gt e k) (gt e m)) (l2:∀ k,i≤k→k<m→lt (gt e m) (gt e k)):MPost lt e a (m+1) r:=by
 have hp:=parts (s:=i) (e:=m+1) (t:=i+1) h ha i0 i1 (by omega) (Int.le_refl _) (by omega) hg (fun i j _ _ _ _=>by omega) (fun p q p1 p2 q1 q2=>by
  obtain rfl:q=m:=by omega
  exact l2 p p1 p2)
 refine ub7l_ hp hl (ubwc_ (t:=i) hp.lo.l (ub7k_ _ _) fun p q p1 p2 q1 q2=>?_) hp.hi.l
 obtain rfl:q=i:=by omega
 rw [hg _ (by omega),hg _ (by omega),ub7i_ _ p2,ub9h_ _ (by omega) (by omega) (by omega),show q+(m-q)=m by omega]
 exact l3 p p1 p2
theorem uce3_ (d:List Int) (a i:Int) (hO:SLO lt P) (hC:CMo C lt P) (h:MPre lt P (gt d) a i (i+1)) (ha:0≤a) (hai:a≤i) (hi:i<d.length) (hd:d.length≤1048576) :
 Tot (ucl_ (d,a,C,i)) (MPost lt d a (i+1)):=by
 have hx:∀ k,a≤k→k<i+1→P (gt d k):=h.p
 refine ucj_ (R:=MPost lt d a (i+1))
  (fun y:List Int×Int×YY22×Int=>y.2.1=a∧y.2.2.1=C∧a≤y.2.2.2∧y.2.2.2≤i∧y.1.length=d.length∧(∀ q,0≤q→gt y.1 q=rotF (gt d) y.2.2.2 i (i+1) q)∧∀ k,y.2.2.2≤k→k<i→lt (gt d i) (gt d k))
  (fun y=>y.2.2.2.toNat) ?_ _ _ ⟨rfl,rfl,hai,Int.le_refl _,rfl,fun q _=>(ub7h_ _ _ _ _).symm,fun k k1 k2=>by dsimp only at k1; omega⟩ (by unfold fuel; dsimp only; omega)
 rintro next ⟨e,a',C',j⟩ hI hn
 dsimp only at hI hn
 obtain ⟨rfl,rfl,j0,j1,hl,hg,hk⟩:=hI
 unfold uej_
 dsimp only
 by_cases hc:a'<j
 · have hw:IntKind.i64.wrap (j-1)=j-1:=ubp_ (by omega) (by omega)
   simp only [hw,decide_eq_true hc,cond_true,Bool.true_and]
   refine ud_.2 (ueg_.2 ⟨⟨by omega,by omega⟩,?_⟩)
   refine ud_.2 (ueg_.2 ⟨⟨by omega,by omega⟩,?_⟩)
   have e1:gt e j=gt d i:=by rw [hg j (by omega),ub9h_ _ (by omega) (by omega) (by omega),show j+(i-j)=i by omega]
   have e2:gt e (j-1)=gt d (j-1):=by rw [hg _ (by omega),ub7i_ _ (by omega)]
   obtain ⟨v,hv,hlt⟩:=hC (gt d i) (gt d (j-1)) (hx _ hai (by omega)) (hx _ (by omega) (by omega)) (h.x _ _ (by omega) (by omega) (Int.le_refl _) (by omega))
   have hv':C' (e.getD j.toNat 0,e.getD (j-1).toNat 0)=some v:=by
    show C' (gt e j,gt e (j-1))=some v
    rw [e1,e2]; exact hv
   rw [hv']
   refine ud_.2 (uh_.2 (u4_.2 ⟨fun hz=>?_,fun hz=>uh_.2 ?_⟩))
   · have hz:=hlt.1 (of_decide_eq_true hz)
     refine ud_.2 (ueg_.2 ⟨⟨by omega,by omega⟩,?_⟩)
     refine ud_.2 (ueg_.2 ⟨⟨by omega,by omega⟩,?_⟩)
     refine ud_.2 (ueg_.2 ⟨⟨by omega,by omega⟩,?_⟩)
     refine ud_.2 (ueg_.2 ⟨⟨by omega,by rw [List.length_set]; omega⟩,?_⟩)
     refine hn _ ⟨rfl,rfl,by dsimp only; omega,by dsimp only; omega,by dsimp only; rw [List.length_set,List.length_set]; exact hl,fun q hq=>?_,fun k k1 k2=>?_⟩ (by dsimp only; omega)
     · dsimp only
       rw [ub0j_ _ (by omega) (by rw [List.length_set]; omega) q hq,ub0j_ _ (by omega) (by omega) q hq]
       have ea:e.getD j.toNat 0=gt e j:=rfl
       have eb:e.getD (j-1).toNat 0=gt e (j-1):=rfl
       rw [ea,eb,hg _ (by omega),hg _ (by omega),hg q hq]
       unfold rotF
       repeat' split
       all_goals first | omega | rfl | (congr 1; omega)
     · dsimp only at k1
       by_cases e:k=j-1
       · rw [e]; exact hz
       · exact hk k (by omega) k2
   · have hz:¬ lt (gt d i) (gt d (j-1)):=fun w=>of_decide_eq_false hz (hlt.2 w)
     have hz':=hO.of_not (hx _ hai (by omega)) (hx _ (by omega) (by omega)) (by have:=h.x (j-1) i (by omega) (by omega) (Int.le_refl _) (by omega); omega) hz
     refine ub7m_ h ha j0 j1 hl hg (fun k k1 k2=>?_) hk
     by_cases q:k=j-1
     · rw [q]; exact hz'
     · exact hO.tr _ _ _ (hx _ k1 (by omega)) (hx _ (by omega) (by omega)) (hx _ hai (by omega)) (h.l k (j-1) k1 (by omega) (by omega)) hz'
 · simp only [decide_eq_false hc,cond_false,Bool.false_and]
   refine ud_.2 (uh_.2 ?_)
   refine ud_.2 (uh_.2 ?_)
   refine ud_.2 (uh_.2 ?_)
   exact uh_.2 (ub7m_ h ha j0 j1 hl hg (fun k k1 k2=>by omega) hk)
def Asc (P:Int→Prop) (f:Int→Int) (a b:Int):Prop:=(∀ i j,a≤i→i<j→j<b→f i<f j)∧∀ k,a≤k→k<b→P (f k)
theorem ub7n_ (d:List Int) (a b:Int) (hO:SLO lt P) (hC:CMo C lt P) (h:Asc P (gt d) a b) (ha:0≤a) (hb0:b≤d.length) (hab:a≤b) (hd:d.length≤1048576):Tot (u5_ (d,a,b,C)) (MPost lt d a b):=by
 unfold u5_
 dsimp only
 rw [ubp_ (n:=a+1) (by omega) (by omega)]
 refine ud_.2 (Tot.mono (P:=MPost lt d a b) ?_ fun r hr=>uh_.2 hr)
 refine ucj_ (R:=MPost lt d a b)
  (fun y:List Int×Int×Int×YY22×Int=>y.2.1=a∧y.2.2.1=b∧y.2.2.2.1=C∧a+1≤y.2.2.2.2∧(y.2.2.2.2≤b∧MPost lt d a y.2.2.2.2 y.1∨a=b∧y.1=d))
  (fun y=>(b-y.2.2.2.2).toNat) ?_ _ _ ⟨rfl,rfl,rfl,Int.le_refl _,?_⟩ (by unfold fuel; dsimp only; omega)
 · rintro next ⟨e,a',b',C',i⟩ hI hn
   dsimp only at hI hn
   obtain ⟨rfl,rfl,rfl,i0,hI⟩:=hI
   unfold uek_
   dsimp only
   refine u4_.2 ⟨fun hc=>?_,fun hc=>uh_.2 ?_⟩
   · have hc:=of_decide_eq_true hc
     obtain ⟨i1,hp⟩:i≤b'∧MPost lt d a' i e:=hI.resolve_right (by omega)
     have hl:=hp.len
     have hout:gt e i=gt d i:=hp.out i (by omega) (Or.inr (Int.le_refl _))
     rw [ubp_ (n:=i+1) (by omega) (by omega)]
     have hpre:MPre lt P (gt e) a' i (i+1):=by
      refine ⟨fun k k1 k2=>?_,hp.sg,ub7k_ _ _,fun p q p1 p2 q1 q2=>?_⟩
      · by_cases c:k<i
        · obtain ⟨j,w1,w2,w3⟩:=hp.inn k k1 c
          rw [w3]; exact h.2 j w1 (by omega)
        · obtain rfl:k=i:=by omega
          rw [hout]; exact h.2 k k1 hc
      · obtain rfl:q=i:=by omega
        obtain ⟨j,w1,w2,w3⟩:=hp.inn p p1 p2
        rw [w3,hout]; exact h.1 j q w1 w2 hc
     refine ud_.2 ((uce3_ e a' i hO hC hpre ha (by omega) (by omega) (by omega)).mono fun r hr=>?_)
     refine hn _ ⟨rfl,rfl,rfl,by dsimp only; omega,Or.inl ⟨by dsimp only; omega,by have:=hr.len; dsimp only; omega,fun k k0 kk=>?_,hr.sg,fun k k1 k2=>?_⟩⟩ (by dsimp only; omega)
     · dsimp only at kk
       rw [hr.out k k0 kk]; exact hp.out k k0 (by omega)
     · dsimp only at k2
       obtain ⟨j,w1,w2,w3⟩:=hr.inn k k1 k2
       by_cases c:j<i
       · obtain ⟨j',v1,v2,v3⟩:=hp.inn j w1 c
         exact ⟨j',v1,by dsimp only; omega,w3.trans v3⟩
       · obtain rfl:j=i:=by omega
         exact ⟨j,w1,w2,w3.trans hout⟩
   · have hc:=of_decide_eq_false hc
     rcases hI with ⟨i1,hp⟩ | ⟨e1,e2⟩
     · rwa [show i=b' by omega] at hp
     · rw [e2,e1]
       exact ⟨rfl,fun _ _ _=>rfl,ucal_ _ _,fun k k1 k2=>by omega⟩
 · dsimp only
   by_cases e:a=b
   · exact Or.inr ⟨e,rfl⟩
   · exact Or.inl ⟨by omega,rfl,fun _ _ _=>rfl,ub7k_ _ _,fun k k1 k2=>⟨k,k1,k2,rfl⟩⟩
end Go.Ev.Pv
namespace Go.Ev.Pv
variable {lt:Int→Int→Prop} {P:Int→Prop} {C:Int×Int→Option Int}
structure Run (lt:Int→Int→Prop) (d y:List Int) (s e:Int):Prop where
 sg:Sgm lt (gt y) s e
 inn:∀ k,s≤k→k<e→∃ j,s≤j∧j<e∧gt y k=gt d j
theorem Run.same {d y z:List Int} {s e:Int} (h:Run lt d y s e) (hz:∀ k,s≤k→k<e→gt z k=gt y k):Run lt d z s e :=
 ⟨fun i j i1 ij j1=>by rw [hz i i1 (by omega),hz j (by omega) j1]; exact h.sg i j i1 ij j1,fun k k1 k2=>by rw [hz k k1 k2]; exact h.inn k k1 k2⟩
theorem Run.of {d y r:List Int} {s e:Int} (h:MPost lt y s e r) (hy:∀ k,s≤k→k<e→gt y k=gt d k):Run lt d r s e :=
 ⟨h.sg,fun k k1 k2=>by obtain ⟨j,j1,j2,j3⟩:=h.inn k k1 k2; exact ⟨j,j1,j2,j3.trans (hy j j1 j2)⟩⟩
theorem ub27_ {d y:List Int} {n s m e:Int} (hO:SLO lt P) (hC:CMo C lt P) (hA:Asc P (gt d) 0 n) (h0:0≤s) (h1:s<m) (h2:m<e) (h3:e≤n) (hn:n≤y.length) (hd:y.length≤1048576) (l:Run lt d y s m) (r:Run lt d y m e) :
 Tot (ubc_ (y,s,m,e,C)) (fun z=>z.length=y.length∧Run lt d z s e∧∀ k,0≤k→(k<s∨e≤k)→gt z k=gt y k):=by
 have hin:∀ k,s≤k→k<e→∃ j,s≤j∧j<e∧gt y k=gt d j∧(k<m→j<m)∧(m≤k→m≤j):=fun k k1 k2=>by
  by_cases c:k<m
  · obtain ⟨j,j1,j2,j3⟩:=l.inn k k1 c
    exact ⟨j,j1,by omega,j3,fun _=>j2,fun _=>by omega⟩
  · obtain ⟨j,j1,j2,j3⟩:=r.inn k (by omega) k2
    exact ⟨j,by omega,j2,j3,fun _=>by omega,fun _=>j1⟩
 have hpre:MPre lt P (gt y) s m e:=⟨fun k k1 k2=>by obtain ⟨j,j1,j2,j3,_⟩:=hin k k1 k2; rw [j3]; exact hA.2 j (by omega) (by omega),l.sg,r.sg,fun i j i1 i2 j1 j2=>by
  obtain ⟨i',u1,u2,u3,u4,_⟩:=hin i i1 (by omega)
  obtain ⟨j',v1,v2,v3,_,v5⟩:=hin j (by omega) j2
  have:=u4 i2
  have:=v5 j1
  rw [u3,v3]; exact hA.1 i' j' (by omega) (by omega) (by omega)⟩
 refine (ub0k_ hO hC y s m e hpre h0 h1 h2 (by omega) hd).mono fun z hz=>⟨hz.len,⟨hz.sg,fun k k1 k2=>?_⟩,hz.out⟩
 obtain ⟨j,j1,j2,j3⟩:=hz.inn k k1 k2
 obtain ⟨j',w1,w2,w3,_⟩:=hin j j1 j2
 exact ⟨j',w1,w2,j3.trans w3⟩
def Runs (lt:Int→Int→Prop) (d y:List Int) (bs n:Int):Prop:=∀ t:Int,0≤t→t*bs<n→Run lt d y (t*bs) (min (t*bs+bs) n)
theorem ubx5_ {t u b:Int} (h:t≤u) (hb:0≤b):t*b≤u*b:=Int.mul_le_mul_of_nonneg_right h hb
theorem ub9j_ (d:List Int) (n:Int) (hO:SLO lt P) (hC:CMo C lt P) (hA:Asc P (gt d) 0 n) (hn0:0≤n) (hn:n≤d.length) (hd:d.length≤1048576) :
 Tot (ue1_ (d,n,C,20,0,20)) (fun r=>r.1.length=d.length∧∃ T:Int,0≤T∧r.2=T*20∧r.2≤n∧n<r.2+20∧(∀ t,0≤t→t<T→Run lt d r.1 (t*20) (t*20+20))∧∀ k,r.2≤k→gt r.1 k=gt d k):=by
 refine ucj_ (R:=fun r:List Int×Int=>r.1.length=d.length∧∃ T:Int,0≤T∧r.2=T*20∧r.2≤n∧n<r.2+20∧(∀ t,0≤t→t<T→Run lt d r.1 (t*20) (t*20+20))∧∀ k,r.2≤k→gt r.1 k=gt d k)
  (fun y:List Int×Int×YY22×Int×Int×Int=>y.2.1=n∧y.2.2.1=C∧y.2.2.2.1=20∧y.2.2.2.2.2=y.2.2.2.2.1+20∧y.1.length=d.length∧∃ T:Int,0≤T∧y.2.2.2.2.1=T*20∧y.2.2.2.2.1≤n∧(∀ t,0≤t→t<T→Run lt d y.1 (t*20) (t*20+20))∧∀ k,y.2.2.2.2.1≤k→gt y.1 k=gt d k)
  (fun y=>(n-y.2.2.2.2.1).toNat) ?_ _ _ ⟨rfl,rfl,rfl,rfl,rfl,0,Int.le_refl _,rfl,hn0,fun t t0 t1=>by omega,fun k _=>rfl⟩ (by unfold fuel; dsimp only; omega)
 rintro next ⟨y,n',C',bs,a,b⟩ hI hn'
 dsimp only at hI hn'
 obtain ⟨rfl,rfl,rfl,rfl,hl,T,T0,rfl,a1,hr,hs⟩:=hI
 unfold uh4_
 dsimp only
 refine u4_.2 ⟨fun hc=>?_,fun hc=>uh_.2 ⟨hl,T,T0,rfl,a1,?_,hr,hs⟩⟩
 · have hc:=of_decide_eq_true hc
   rw [ubp_ (n:=T*20+20+20) (by omega) (by omega)]
   have hasc:Asc P (gt y) (T*20) (T*20+20):=⟨fun i j i1 ij j1=>by rw [hs i i1,hs j (by omega)]; exact hA.1 i j (by omega) ij (by omega),fun k k1 k2=>by rw [hs k k1]; exact hA.2 k (by omega) (by omega)⟩
   refine ud_.2 ((ub7n_ y (T*20) (T*20+20) hO hC hasc (by omega) (by omega) (by omega) (by omega)).mono fun r hr'=>?_)
   refine hn' _ ⟨rfl,rfl,rfl,rfl,by have:=hr'.len; dsimp only; omega,T+1,by omega,by dsimp only; omega,by dsimp only; omega,fun t t0 t1=>?_,fun k k1=>?_⟩ (by dsimp only; omega)
   · dsimp only
     by_cases e:t=T
     · subst e
       exact Run.of hr' fun k k1 k2=>hs k k1
     · exact (hr t t0 (by omega)).same fun k k1 k2=>hr'.out k (by omega) (Or.inl (by omega))
   · dsimp only at k1 ⊢
     rw [hr'.out k (by omega) (Or.inr (by omega))]; exact hs k (by omega)
 · have hc:=of_decide_eq_false hc
   dsimp only; omega
theorem ub9k_ (d y0:List Int) (n bs:Int) (hO:SLO lt P) (hC:CMo C lt P) (hA:Asc P (gt d) 0 n) (hn:n≤d.length) (hd:d.length≤1048576) (hb0:0<bs) (hb1:bs<n) (hl0:y0.length=d.length) (hR:Runs lt d y0 bs n) :
 Tot (ue2_ (y0,n,C,bs,0,2*bs)) (fun r=>r.1.length=d.length∧∃ T:Int,0≤T∧r.2=2*(T*bs)∧r.2≤n∧n<r.2+2*bs∧(∀ t,0≤t→t<T→Run lt d r.1 (2*(t*bs)) (2*(t*bs)+2*bs)) ∧
  ∀ t,2*T≤t→t*bs<n→Run lt d r.1 (t*bs) (min (t*bs+bs) n)):=by
 refine ucj_ (R:=fun r:List Int×Int=>r.1.length=d.length∧∃ T:Int,0≤T∧r.2=2*(T*bs)∧r.2≤n∧n<r.2+2*bs∧(∀ t,0≤t→t<T→Run lt d r.1 (2*(t*bs)) (2*(t*bs)+2*bs)) ∧
  ∀ t,2*T≤t→t*bs<n→Run lt d r.1 (t*bs) (min (t*bs+bs) n))
  (fun y:List Int×Int×YY22×Int×Int×Int=>y.2.1=n∧y.2.2.1=C∧y.2.2.2.1=bs∧y.2.2.2.2.2=y.2.2.2.2.1+2*bs∧y.1.length=d.length∧∃ T:Int,0≤T∧y.2.2.2.2.1=2*(T*bs)∧y.2.2.2.2.1≤n∧(∀ t,0≤t→t<T→Run lt d y.1 (2*(t*bs)) (2*(t*bs)+2*bs)) ∧
   ∀ t,2*T≤t→t*bs<n→Run lt d y.1 (t*bs) (min (t*bs+bs) n))
  (fun y=>(n-y.2.2.2.2.1).toNat) ?_ _ _ ⟨rfl,rfl,rfl,by dsimp only; omega,hl0,0,Int.le_refl _,by dsimp only; omega,by dsimp only; omega,fun t t0 t1=>by omega,fun t t0 t1=>hR t (by omega) t1⟩ (by unfold fuel; dsimp only; omega)
 rintro next ⟨y,n',C',bs',a,b⟩ hI hn'
 dsimp only at hI hn'
 obtain ⟨rfl,rfl,rfl,rfl,hl,T,T0,rfl,a1,hr,hs⟩:=hI
 have hTb:0≤T*bs':=Int.mul_nonneg T0 (by omega)
 unfold uh5_
 dsimp only
 refine u4_.2 ⟨fun hc=>?_,fun hc=>uh_.2 ⟨hl,T,T0,rfl,a1,?_,hr,hs⟩⟩
 · have hc:=of_decide_eq_true hc
   rw [ubp_ (n:=2*(T*bs')+bs') (by omega) (by omega),ubp_ (n:=2*bs') (by omega) (by omega),ubp_ (n:=2*(T*bs')+2*bs'+2*bs') (by omega) (by omega)]
   have e1:2*T*bs'=2*(T*bs'):=Int.mul_assoc _ _ _
   have e2:(2*T+1)*bs'=2*(T*bs')+bs':=by rw [Int.add_mul,e1,Int.one_mul]
   have r1:=hs (2*T) (Int.le_refl _) (by omega)
   have r2:=hs (2*T+1) (by omega) (by omega)
   rw [e1,Int.min_eq_left (by omega)] at r1
   rw [e2,Int.min_eq_left (by omega),show 2*(T*bs')+bs'+bs'=2*(T*bs')+2*bs' by omega] at r2
   refine ud_.2 ((ub27_ (n:=n') hO hC hA (by omega) (by omega) (by omega) hc (by omega) (by omega) r1 r2).mono fun z hz=>?_)
   obtain ⟨z1,z2,z3⟩:=hz
   have e3:(T+1)*bs'=T*bs'+bs':=by rw [Int.add_mul,Int.one_mul]
   refine hn' _ ⟨rfl,rfl,rfl,rfl,by dsimp only; omega,T+1,by omega,by dsimp only; omega,by dsimp only; omega,fun t t0 t1=>?_,fun t t0 t1=>?_⟩ (by dsimp only; omega)
   · dsimp only
     have t2:0≤t*bs':=Int.mul_nonneg t0 (by omega)
     by_cases e:t=T
     · subst e; exact z2
     · have:=ubx5_ (b:=bs') (show t+1≤T by omega) (by omega)
       rw [Int.add_mul,Int.one_mul] at this
       exact (hr t t0 (by omega)).same fun k k1 k2=>z3 k (by omega) (Or.inl (by omega))
   · dsimp only
     have:=ubx5_ (b:=bs') (show 2*(T+1)≤t by omega) (by omega)
     rw [Int.mul_assoc,e3] at this
     exact (hs t (by omega) t1).same fun k k1 k2=>z3 k (by omega) (Or.inr (by omega))
 · have hc:=of_decide_eq_false hc
   dsimp only; omega
end Go.Ev.Pv
namespace Go.Ev.Pv
variable {lt:Int→Int→Prop} {P:Int→Prop} {C:Int×Int→Option Int}
theorem ub9l_ (d y0:List Int) (n:Int) (hO:SLO lt P) (hC:CMo C lt P) (hA:Asc P (gt d) 0 n) (hn0:0≤n) (hn:n≤d.length) (hd:d.length≤1048576) (hl0:y0.length=d.length) (hR:Runs lt d y0 20 n) :
 Tot (ue3_ (y0,n,C,20)) (fun r=>r.length=d.length∧Sgm lt (gt r) 0 n):=by
 refine ucj_ (R:=fun r:List Int=>r.length=d.length∧Sgm lt (gt r) 0 n)
  (fun y:List Int×Int×YY22×Int=>y.2.1=n∧y.2.2.1=C∧0<y.2.2.2∧y.2.2.2≤2097152∧y.1.length=d.length∧Runs lt d y.1 y.2.2.2 n)
  (fun y=>(2097152-y.2.2.2).toNat) ?_ _ _ ⟨rfl,rfl,by dsimp only; omega,by dsimp only; omega,hl0,hR⟩ (by unfold fuel; dsimp only; omega)
 rintro next ⟨y,n',C',bs⟩ hI hn'
 dsimp only at hI hn'
 obtain ⟨rfl,rfl,b0,b1,hl,hR⟩:=hI
 unfold uh6_
 dsimp only
 refine u4_.2 ⟨fun hc=>?_,fun hc=>uh_.2 ⟨hl,?_⟩⟩
 · have hc:=of_decide_eq_true hc
   rw [ubp_ (n:=2*bs) (by omega) (by omega),ubp_ (n:=bs*2) (by omega) (by omega)]
   refine ud_.2 ((ub9k_ d y n' bs hO hC hA hn hd b0 hc hl hR).mono fun r6 h6=>?_)
   obtain ⟨z,a⟩:=r6
   obtain ⟨h1,T,T0,h2,h3,h4,h5,h6⟩:=h6
   dsimp only at h1 h2 h3 h4 h5 h6 ⊢
   subst h2
   have hTb:0≤T*bs:=Int.mul_nonneg T0 (by omega)
   have e1:2*T*bs=2*(T*bs):=Int.mul_assoc _ _ _
   have e2:(2*T+1)*bs=2*(T*bs)+bs:=by rw [Int.add_mul,e1,Int.one_mul]
   rw [ubp_ (n:=2*(T*bs)+bs) (by omega) (by omega)]
   have fin:∀ w:List Int,w.length=d.length→(2*(T*bs)<n'→Run lt d w (2*(T*bs)) n')→(∀ k,0≤k→k<2*(T*bs)→gt w k=gt z k)→Tot (next (w,n',C',bs*2)) (fun r=>r.length=d.length∧Sgm lt (gt r) 0 n'):=by
    intro w w1 w2 w3
    refine hn' _ ⟨rfl,rfl,by dsimp only; omega,by dsimp only; omega,w1,fun t t0 t1=>?_⟩ (by dsimp only; omega)
    dsimp only at t1 ⊢
    have e3:t*(bs*2)=2*(t*bs):=by rw [← Int.mul_assoc,Int.mul_comm (t*bs) 2]
    rw [e3] at t1 ⊢
    have t2:0≤t*bs:=Int.mul_nonneg t0 (by omega)
    rcases Int.lt_trichotomy t T with e | e | e
    · have:=ubx5_ (b:=bs) (show t+1≤T by omega) (by omega)
      rw [Int.add_mul,Int.one_mul] at this
      rw [Int.min_eq_left (by omega),show 2*(t*bs)+bs*2=2*(t*bs)+2*bs by omega]
      exact (h5 t t0 e).same fun k k1 k2=>w3 k (by omega) (by omega)
    · subst e
      rw [Int.min_eq_right (by omega)]
      exact w2 t1
    · have:=ubx5_ (b:=bs) (show T+1≤t by omega) (by omega)
      rw [Int.add_mul,Int.one_mul] at this
      omega
   refine u4_.2 ⟨fun hq=>?_,fun hq=>?_⟩
   · have hq:=of_decide_eq_true hq
     have r1:=h6 (2*T) (Int.le_refl _) (by omega)
     have r2:=h6 (2*T+1) (by omega) (by omega)
     rw [e1,Int.min_eq_left (by omega)] at r1
     rw [e2,Int.min_eq_right (by omega)] at r2
     refine ud_.2 ((ub27_ (n:=n') hO hC hA (by omega) (by omega) hq (Int.le_refl _) (by omega) (by omega) r1 r2).mono fun w hw=>?_)
     exact fin w (by omega) (fun _=>hw.2.1) fun k k0 k1=>hw.2.2 k k0 (Or.inl k1)
   · have hq:=of_decide_eq_false hq
     refine fin z h1 (fun h=>?_) fun k _ _=>rfl
     have r1:=h6 (2*T) (Int.le_refl _) (by omega)
     rwa [e1,Int.min_eq_right (by omega)] at r1
 · have hc:=of_decide_eq_false hc
   by_cases e:n'=0
   · subst e; exact ucal_ _ _
   · have:=hR 0 (Int.le_refl _) (by omega)
     rw [Int.zero_mul,Int.min_eq_right (by omega)] at this
     exact this.sg
theorem ub4j_ (d:List Int) (hO:SLO lt P) (hC:CMo C lt P) (hA:Asc P (gt d) 0 d.length) (hd:d.length≤1048576) (hT:CT C d):Tot (u6_ (d,C)) (fun r=>r.Perm d∧Sgm lt (gt r) 0 d.length):=by
 obtain ⟨r,hr,_,hp⟩:=u0w_ (d,C) ⟨hT,hd⟩
 refine ⟨r,hr,hp,?_⟩
 have:Tot (u6_ (d,C)) (fun r=>Sgm lt (gt r) 0 d.length):=by
  unfold u6_ uem_
  dsimp only
  refine ud_.2 (ud_.2 ((ub9j_ d d.length hO hC hA (by omega) (by omega) hd).mono fun r2 h2=>?_))
  obtain ⟨y,a⟩:=r2
  obtain ⟨h1,T,T0,h2,h3,h4,h5,h6⟩:=h2
  dsimp only at h1 h2 h3 h4 h5 h6 ⊢
  subst h2
  have hasc:Asc P (gt y) (T*20) d.length:=⟨fun i j i1 ij j1=>by rw [h6 i i1,h6 j (by omega)]; exact hA.1 i j (by omega) ij (by omega),fun k k1 k2=>by rw [h6 k k1]; exact hA.2 k (by omega) (by omega)⟩
  refine ud_.2 ((ub7n_ y (T*20) d.length hO hC hasc (by omega) (by omega) h3 (by omega)).mono fun r3 h7=>?_)
  refine ud_.2 ((ub9l_ d r3 d.length hO hC hA (by omega) (Int.le_refl _) hd (by have:=h7.len; omega) fun t t0 t1=>?_).mono fun r8 h8=>uh_.2 (uh_.2 h8.2))
  by_cases e:t<T
  · rw [Int.min_eq_left (by omega)]
    exact (h5 t t0 e).same fun k k1 k2=>h7.out k (by omega) (Or.inl (by omega))
  · obtain rfl:t=T:=by omega
    rw [Int.min_eq_right (by omega)]
    exact Run.of h7 fun k k1 k2=>h6 k k1
 obtain ⟨r',q1,q2⟩:=this
 rw [hr] at q1
 cases q1
 exact q2
end Go.Ev.Pv
namespace Go.Ev.Pv
abbrev Bs:=Int×(List Adv)×(List Int)
abbrev Dl:=Int×Int×(List Adv)×(List Str)
def BB (b:Bs):Prop:=∀ a∈b.2.1,AdB a
def DB (d:Dl):Prop:=d.2.2.1.length≤1048576∧∀ a∈d.2.2.1,AdB a
theorem ub0l_ {α β:Type} (r:(α→Option β)→α→Option β) (x:α):loopN r fuel x=r (loopN r (fuel-1)) x:=by
 have e:fuel=(fuel-1)+1:=by unfold fuel; omega
 rw [e]; rfl
theorem u99_ {α:Type} {l:List α} {i:Nat} {a:α} (h:l[i]? = some a):l.take (i+1)=l.take i++[a]:=by
 rw [List.take_add_one,h]; rfl
end Go.Ev.Pv
namespace Go.Ev.Pv
theorem uce4_ (l:List Int) (h:l.length≤1048576):utf_ (l,l)=some true:=by
 have:Tot (ute_ (l,l,(l.length:Int),0)) (fun r=>r=.inl ()):=by
  refine ucj_ (R:=fun r:Sum Unit Bool=>r=.inl ()) (fun y:(List Int)×(List Int)×Int×Int=>y.1=l∧y.2.1=l∧y.2.2.1=l.length∧0≤y.2.2.2∧y.2.2.2≤l.length) (fun y=>((l.length:Int)-y.2.2.2).toNat) ?_ _ _ ⟨rfl,rfl,rfl,Int.le_refl _,Int.natCast_nonneg _⟩ (by unfold fuel; dsimp only; omega)
  rintro next ⟨a,b,n,i⟩ hI hn
  dsimp only at hI hn
  obtain ⟨rfl,rfl,rfl,i0,i1⟩:=hI
  unfold u4r_
  dsimp only
  refine u4_.2 ⟨fun hc=>?_,fun _=>uh_.2 rfl⟩
  have hc:=of_decide_eq_true hc
  rw [ubp_ (by omega) (by omega)]
  refine ud_.2 (ubiv_.2 ⟨⟨i0,hc⟩,fun y hy=>ud_.2 (ubiv_.2 ⟨⟨i0,hc⟩,fun z hz=>?_⟩)⟩)
  rw [hy] at hz
  cases hz
  rw [uqa_]
  simp only [decide_true,Bool.not_true,cond_false]
  exact hn _ ⟨rfl,rfl,rfl,by dsimp only; omega,by dsimp only; omega⟩ (by dsimp only; omega)
 obtain ⟨r,hr,rfl⟩:=this
 unfold utf_
 dsimp only
 rw [uqa_,hr]
 simp
end Go.Ev.Pv
namespace Go.Ev.Pv
section
variable {b:Bs} {d:Dl} (hb:BB b) (hbl:b.2.1.length≤1048576) (hd:DB d) (h0:d.2.2.2=[])
end
end Go.Ev.Pv
namespace Go.Ev.Pv
abbrev Fd:=(List UInt8)×(List UInt8)×Int×Int×Int×(List (List UInt8))×(List UInt8)×(List ((List UInt8)×(List (((List UInt8)×Int)×(List UInt8)))×(List ((List UInt8)×(List UInt8)))))×Int
def fd0:Fd:=([],[],0,0,0,[],[],[],0)
def lg (l:List Fd) (i:Int):Fd:=l.getD i.toNat fd0
theorem at_lg {l:List Fd} {i:Int} (h0:0≤i) (h1:i<l.length):at? l i=some (lg l i):=by
 unfold at? lg
 rw [decide_eq_true h0]
 have:i.toNat<l.length:=by omega
 simp [List.getD,this]
theorem ub9m_ {out:List Int} {k:Nat} (h:k<out.length) (z:Int) (m:Nat) (hm:m≤out.length) (hk:k<m):(out.take m++z::out.drop m).getD k 0=out[k]:=by
 have h1:k<(out.take m).length:=by rw [List.length_take]; omega
 simp only [List.getD,List.getElem?_append_left h1,List.getElem?_take,if_pos hk]
 simp [h]
theorem ub7o_ {out:List Int} (z y:Int) (m:Nat) (hm:m≤out.length):(out.take m++z::out.drop m).set m y=out.take m++y::out.drop m:=by
 have h1:(out.take m).length=m:=by rw [List.length_take]; omega
 rw [List.set_append_right _ _ (by omega),h1,Nat.sub_self]
 rfl
theorem r7_l3 (l:List Fd) (out:List Int) (i:Int) (bf:Fd→Fd→Bool) (hbf:∀ a b,a∈l→b∈l→ublz_ (a,b)=some (bf a b)) (hl:l.length≤1048576) (hi0:0≤i) (hi1:i<l.length) (ho:∀ x∈out,0≤x∧x<l.length) (hol:out.length≤1048576) :
 Tot (ubv4_ (l,out++[i],i,(out.length:Int))) (fun r=>∃ s:Nat,r.2=(s:Int)∧s≤out.length∧(∃ z,r.1=out.take s++z::out.drop s)∧(∀ x∈out.drop s,bf (lg l i) (lg l x)=true)∧(∀ h:0<s,∀ y,out[s-1]? = some y→bf (lg l i) (lg l y)=false)):=by
 have hmem:∀ x:Int,0≤x→x<(l.length:Int)→lg l x∈l:=fun x x0 x1=>by
  have h:=at_lg x0 x1
  unfold at? at h
  rw [decide_eq_true x0] at h
  exact List.mem_of_getElem? h
 refine ucj_ (R:=fun r:List Int×Int=>∃ s:Nat,r.2=(s:Int)∧s≤out.length∧(∃ z,r.1=out.take s++z::out.drop s)∧(∀ x∈out.drop s,bf (lg l i) (lg l x)=true)∧(∀ h:0<s,∀ y,out[s-1]? = some y→bf (lg l i) (lg l y)=false))
  (fun y:List Fd×List Int×Int×Int=>y.1=l∧y.2.2.1=i∧∃ s:Nat,y.2.2.2=(s:Int)∧s≤out.length∧(∃ z,y.2.1=out.take s++z::out.drop s)∧∀ x∈out.drop s,bf (lg l i) (lg l x)=true)
  (fun y=>y.2.2.2.toNat) ?_ _ _ ⟨rfl,rfl,out.length,rfl,Nat.le_refl _,⟨i,by simp⟩,by simp⟩ (by unfold fuel; dsimp only; omega)
 rintro next ⟨l',data,i',k⟩ hI hn
 dsimp only at hI hn
 obtain ⟨rfl,rfl,s,rfl,s1,⟨z,rfl⟩,hs⟩:=hI
 unfold ubv3_
 dsimp only
 have hlen:(out.take s++z::out.drop s).length=out.length+1:=by simp; omega
 by_cases hk:0<s
 · have hw:IntKind.i64.wrap ((s:Int)-1)=(s:Int)-1:=ubp_ (by omega) (by omega)
   have hk':(0:Int)<(s:Int):=by omega
   have hsn:((s:Int)-1).toNat=s-1:=by omega
   have hgd:=ub9m_ (out:=out) (k:=s-1) (by omega) z s s1 (by omega)
   obtain ⟨y0,y1⟩:=ho out[s-1] (List.getElem_mem _)
   simp only [hw,decide_eq_true hk',cond_true,Bool.true_and,hsn,hgd,Int.toNat_natCast]
   rw [at_lg hi0 hi1,at_lg y0 y1]
   refine ud_.2 (uh_.2 (ud_.2 (ueg_.2 ⟨⟨by omega,by omega⟩,?_⟩)))
   refine ud_.2 (uh_.2 ?_)
   rw [hbf _ _ (hmem _ hi0 hi1) (hmem _ y0 y1)]
   refine ud_.2 (uh_.2 (u4_.2 ⟨fun hz=>?_,fun hz=>uh_.2 ⟨s,rfl,s1,⟨z,rfl⟩,hs,fun _ y hy=>?_⟩⟩))
   · refine ud_.2 (ueg_.2 ⟨⟨by omega,by omega⟩,?_⟩)
     refine ud_.2 (ueg_.2 ⟨⟨by omega,by omega⟩,?_⟩)
     have hd:out.drop (s-1)=out[s-1]::out.drop s:=by
      have:=List.drop_eq_getElem_cons (l:=out) (i:=s-1) (by omega)
      rwa [show s-1+1=s by omega] at this
     refine hn _ ⟨rfl,rfl,s-1,by dsimp only; omega,by omega,⟨out[s-1],?_⟩,fun x hx=>?_⟩ (by dsimp only; omega)
     · dsimp only
       rw [ub7o_ _ _ _ s1,hd]
       have:out.take s=out.take (s-1)++[out[s-1]]:=by
        have:=u99_ (l:=out) (i:=s-1) (List.getElem?_eq_getElem (by omega))
        rwa [show s-1+1=s by omega] at this
       rw [this,List.append_assoc]; rfl
     · rw [hd] at hx
       rcases List.mem_cons.1 hx with rfl | hx
       · exact hz
       · exact hs x hx
   · rw [List.getElem?_eq_getElem (by omega)] at hy
     cases hy
     exact hz
 · obtain rfl:s=0:=by omega
   have hk':¬ (0:Int)<((0:Nat):Int):=by omega
   simp only [decide_eq_false hk',cond_false,Bool.false_and]
   refine ud_.2 (uh_.2 (ud_.2 (uh_.2 (ud_.2 (uh_.2 (ud_.2 (uh_.2 (uh_.2 ⟨0,rfl,s1,⟨z,rfl⟩,hs,fun h=>absurd h (by omega)⟩))))))))
structure SW (bf:Fd→Fd→Bool):Prop where
 asym:∀ a b,bf a b=true→bf b a=false
 ntr:∀ a b c,bf a b=true→bf c b=false→bf a c=true
def ltO (bf:Fd→Fd→Bool) (l:List Fd) (i j:Int):Prop:=bf (lg l i) (lg l j)=true∨bf (lg l j) (lg l i)=false∧i<j
def ul5_ (n:Nat):List Int:=(List.range n).map fun i:Nat=>(i:Int)
theorem ucb6_ (l:List Fd) (bf:Fd→Fd→Bool) (hbf:∀ a b,a∈l→b∈l→ublz_ (a,b)=some (bf a b)) (hw:SW bf) (hl:l.length≤1048576) :
 Tot (ubv6_ (l,([]:List Int),0)) (fun r=>r.Perm (ul5_ l.length)∧r.Pairwise (ltO bf l)):=by
 refine ucj_ (R:=fun r:List Int=>r.Perm (ul5_ l.length)∧r.Pairwise (ltO bf l))
  (fun y:List Fd×List Int×Int=>y.1=l∧∃ t:Nat,y.2.2=(t:Int)∧t≤l.length∧y.2.1.Perm (ul5_ t)∧y.2.1.Pairwise (ltO bf l))
  (fun y=>((l.length:Int)-y.2.2).toNat) ?_ _ _ ⟨rfl,0,rfl,by omega,List.Perm.refl _,List.Pairwise.nil⟩ (by unfold fuel; dsimp only; omega)
 rintro next ⟨l',out,i⟩ hI hn
 dsimp only at hI hn
 obtain ⟨rfl,t,rfl,t1,hp,hs⟩:=hI
 have hol:out.length=t:=by rw [hp.length_eq]; simp [ul5_]
 have hin:∀ x∈out,0≤x∧x<(t:Int):=fun x hx=>by
  obtain ⟨j,hj,rfl⟩:=List.mem_map.1 (hp.mem_iff.1 hx)
  have:=List.mem_range.1 hj
  omega
 unfold ubv5_
 dsimp only
 refine u4_.2 ⟨fun hc=>?_,fun hc=>uh_.2 ?_⟩
 · have hc:=of_decide_eq_true hc
   rw [ubp_ (n:=(t:Int)+1) (by omega) (by omega)]
   refine ud_.2 (ub7c_.2 ⟨by simp only [List.length_cons,List.length_nil]; omega,?_⟩)
   refine ud_.2 ((r7_l3 l' out (t:Int) bf hbf hl (by omega) hc (fun x hx=>by have:=hin x hx; omega) (by omega)).mono fun r hr=>?_)
   obtain ⟨d,k⟩:=r
   obtain ⟨s,rfl,s1,⟨z,rfl⟩,h1,h2⟩:=hr
   have hlen:(out.take s++z::out.drop s).length=out.length+1:=by simp; omega
   dsimp only
   refine ud_.2 (ueg_.2 ⟨⟨by omega,by rw [hlen]; omega⟩,?_⟩)
   rw [Int.toNat_natCast,ub7o_ _ _ _ s1]
   have hs':(out.take s++out.drop s).Pairwise (ltO bf l'):=by rw [List.take_append_drop]; exact hs
   obtain ⟨p1,p2,p3⟩:=List.pairwise_append.1 hs'
   have hlow:∀ x∈out.take s,bf (lg l' t) (lg l' x)=false:=by
    intro x hx
    by_cases h0:0<s
    · have hy:out[s-1]? = some out[s-1]:=List.getElem?_eq_getElem (by omega)
      have hyf:=h2 h0 _ hy
      have htk:out.take s=out.take (s-1)++[out[s-1]]:=by
       have:=u99_ (l:=out) (i:=s-1) hy
       rwa [show s-1+1=s by omega] at this
      rw [htk] at hx p1
      rcases List.mem_append.1 hx with hx | hx
      · have hxy:=(List.pairwise_append.1 p1).2.2 x hx _ (List.mem_singleton.2 rfl)
        have hyx:bf (lg l' out[s-1]) (lg l' x)=false:=hxy.elim (fun h=>hw.asym _ _ h) fun h=>h.1
        cases hb:bf (lg l' t) (lg l' x) with
        | false=>rfl
        | true=>rw [hw.ntr _ _ _ hb hyx] at hyf; cases hyf
      · rw [List.mem_singleton.1 hx]; exact hyf
    · obtain rfl:s=0:=by omega
      simp at hx
   refine hn _ ⟨rfl,t+1,by dsimp only; omega,by omega,?_,?_⟩ (by dsimp only; omega)
   · dsimp only
     have e:ul5_ (t+1)=ul5_ t++[(t:Int)]:=by unfold ul5_; rw [List.range_succ,List.map_append]; rfl
     rw [e]
     refine List.perm_middle.trans ?_
     rw [List.take_append_drop]
     exact (List.Perm.cons _ hp).trans (List.perm_append_singleton _ _).symm
   · dsimp only
     rw [List.pairwise_append,List.pairwise_cons]
     refine ⟨p1,⟨fun x hx=>Or.inl (h1 x hx),p2⟩,fun x hx y hy=>?_⟩
     rcases List.mem_cons.1 hy with rfl | hy
     · exact Or.inr ⟨hlow x hx,(hin x (List.mem_of_mem_take hx)).2⟩
     · exact p3 x hx y hy
 · have hc:=of_decide_eq_false hc
   obtain rfl:t=l'.length:=by omega
   exact ⟨hp,hs⟩
end Go.Ev.Pv
namespace Go.Ev.Pv
def nms (a:Adv):List Str:=a.1::a.2.1
def Disj (l:List Adv):Prop:=∀ (i j:Nat) (a b:Adv) (s:Str),l[i]? = some a→l[j]? = some b→s∈nms a→s∈nms b→i=j
def Fst (n:Nat) (f:List Int) (ρ:Nat→Nat):Prop:=f.length=n∧∀ i,i<n→∃ j:Nat,f[i]? = some (j:Int)∧j≤i∧ρ j=ρ i∧(j=i→ρ i=i)
theorem Fst.set {n:Nat} {f:List Int} {ρ:Nat→Nat} (h:Fst n f ρ) {k m:Nat} (hk:k<n) (h1:m≤k) (h2:ρ m=ρ k) (h3:m=k→ρ k=k):Fst n (f.set k (m:Int)) ρ:=by
 refine ⟨by rw [List.length_set]; exact h.1,fun i hi=>?_⟩
 by_cases e:k=i
 · subst e
   exact ⟨m,by rw [List.getElem?_set_self (by rw [h.1]; exact hk)],h1,h2,h3⟩
 · rw [List.getElem?_set_ne e]
   exact h.2 i hi
theorem Fst.join {n:Nat} {f:List Int} {ρ:Nat→Nat} (h:Fst n f ρ) {a b:Nat} (ha:a<n) (hb:b≤a) (ra:ρ a=a) (rb:ρ b=b):Fst n (f.set a (b:Int)) (fun k=>if ρ k=a then b else ρ k):=by
 refine ⟨by rw [List.length_set]; exact h.1,fun i hi=>?_⟩
 by_cases e:a=i
 · subst e
   refine ⟨b,by rw [List.getElem?_set_self (by rw [h.1]; exact ha)],hb,?_,fun hba=>?_⟩
   · dsimp only; rw [ra,rb]
     by_cases hz:b=a <;> simp [hz]
   · dsimp only; rw [ra]; simp [hba]
 · rw [List.getElem?_set_ne e]
   obtain ⟨j,h1,h2,h3,h4⟩:=h.2 i hi
   refine ⟨j,h1,h2,?_,fun hj=>?_⟩
   · dsimp only; rw [h3]
   · have h5:=h4 hj
     have hne:¬ i=a:=fun h=>e h.symm
     dsimp only; rw [h5,if_neg hne]
structure Seen (l:List Adv) (ρ:Nat→Nat) (seen:List (Str×Int)) (i:Nat) (done:List Str):Prop where
 val:∀ s v,uck_ eqS s seen=some v→∃ (j:Nat) (a:Adv),v=(j:Int)∧l[j]? = some a∧s∈nms a
 old:∀ i' a s,i'<i→l[i']? = some a→s∈nms a→∃ j:Nat,uck_ eqS s seen=some (j:Int)∧ρ j=ρ i'
 new:∀ s,s∈done→∃ j:Nat,uck_ eqS s seen=some (j:Int)∧ρ j=ρ i
 same:Disj l→∀ k,k<l.length→ρ k=k
end Go.Ev.Pv
namespace Go.Ev.Pv
end Go.Ev.Pv
namespace Go.Ev.Pv
end Go.Ev.Pv
namespace Go.Ev.Pv
end Go.Ev.Pv
namespace Go.Ev.Pv
def lexB (p q:Fd→Fd→Bool) (a b:Fd):Bool:=p a b||(!p b a&&q a b)
theorem SW.lex {p q:Fd→Fd→Bool} (hp:SW p) (hq:SW q):SW (lexB p q):=by
 refine ⟨fun a b h=>?_,fun a b c h1 h2=>?_⟩
 · unfold lexB at h ⊢
   cases hab:p a b with
   | true=>rw [hp.asym _ _ hab]; rfl
   | false =>
     rw [hab] at h
     simp only [Bool.false_or,Bool.and_eq_true,Bool.not_eq_true'] at h
     rw [h.1,hq.asym _ _ h.2]; rfl
 · unfold lexB at h1 h2 ⊢
   obtain ⟨n1,n2⟩:=Bool.or_eq_false_iff.1 h2
   cases hab:p a b with
   | true=>rw [hp.ntr _ _ _ hab n1]; rfl
   | false =>
     rw [hab] at h1
     simp only [Bool.false_or,Bool.and_eq_true,Bool.not_eq_true'] at h1
     obtain ⟨m1,m2⟩:=h1
     cases hac:p a c with
     | true=>rfl
     | false =>
       have hca:p c a=false:=by
        cases hca:p c a with
        | false=>rfl
        | true=>rw [hp.ntr _ _ _ hca m1] at n1; cases n1
       have hbc:p b c=false:=by
        cases hbc:p b c with
        | false=>rfl
        | true=>rw [hp.ntr _ _ _ hbc hac] at m1; cases m1
       rw [hbc] at n2
       simp only [Bool.not_false,Bool.true_and] at n2
       rw [hca,hq.ntr _ _ _ m2 n2]; rfl
theorem ub9n_ (f:Fd→Int):SW (fun a b=>decide (f a<f b)):=⟨fun a b h=>by have:=of_decide_eq_true h; exact decide_eq_false (by omega),fun a b c h1 h2=>by
 have:=of_decide_eq_true h1; have:=of_decide_eq_false h2; exact decide_eq_true (by omega)⟩
theorem ub9o_ (f:Fd→Str):SW (fun a b=>decide (f a<f b)):=⟨fun a b h=>decide_eq_false (sasym (of_decide_eq_true h)),fun a b c h1 h2=>by
 have h1:=of_decide_eq_true h1; have h2:=of_decide_eq_false h2
 rcases stri (f a) (f c) with h | h | h
 · exact decide_eq_true h
 · rw [h] at h1; exact absurd h1 h2
 · exact absurd (ucdt_ h h1) h2⟩
noncomputable def rk (a:Fd):Int:=(ubtc_ a).getD 0
def stOk (a:Fd):Prop:=0≤a.2.2.2.1∧a.2.2.2.1<7
theorem ub9p_ {a:Fd} (h:stOk a):ubtc_ a=some (rk a):=by
 have:Tot (ubtc_ a) fun _=>True:=by
  unfold ubtc_
  exact ud_.2 (ubiv_.2 ⟨⟨h.1,h.2⟩,fun y _=>uh_.2 trivial⟩)
 obtain ⟨y,hy,_⟩:=this
 unfold rk
 rw [hy]; rfl
theorem ucb7_ {a:Fd} (h:stOk a):u04_ a=some (rk a):=by
 rw [← ub9p_ h]
 rfl
noncomputable def bfd:Fd→Fd→Bool:=lexB (fun a b=>decide (-rk a < -rk b)) (lexB (fun a b=>decide ((a.2.2.2.2.2.1.length:Int)<(b.2.2.2.2.2.1.length:Int))) (lexB (fun a b=>decide (a.1<b.1)) (lexB (fun a b=>decide (a.2.1<b.2.1)) (fun a b=>decide (a.2.2.1<b.2.2.1)))))
theorem ub13_:SW bfd:=SW.lex (ub9n_ fun a=>-rk a) (SW.lex (ub9n_ fun a=>(a.2.2.2.2.2.1.length:Int)) (SW.lex (ub9o_ fun a=>a.1) (SW.lex (ub9o_ fun a=>a.2.1) (ub9n_ fun a=>a.2.2.1))))
theorem before_eq {a b:Fd} (ha:stOk a) (hb:stOk b):ublz_ (a,b)=some (bfd a b):=by
 unfold ublz_
 dsimp only
 rw [ub9p_ ha,ub9p_ hb]
 simp only [Option.bind_some,uqa_,ubuj_,ub7f_]
 unfold bfd lexB
 dsimp only
 by_cases h1:rk a=rk b
 · have e1:¬ -rk b < -rk b:=by omega
   simp only [h1,decide_true,Bool.not_true,cond_false,decide_eq_false e1,Bool.false_or,Bool.not_false,Bool.true_and]
   by_cases h2:(a.2.2.2.2.2.1.length:Int)=(b.2.2.2.2.2.1.length:Int)
   · have e3:¬ (b.2.2.2.2.2.1.length:Int)<(b.2.2.2.2.2.1.length:Int):=by omega
     simp only [h2,decide_true,Bool.not_true,cond_false,decide_eq_false e3,Bool.false_or,Bool.not_false,Bool.true_and]
     by_cases h3:a.1=b.1
     · simp only [h3,decide_true,Bool.not_true,cond_false,decide_eq_false (sirr b.1),Bool.false_or,Bool.not_false,Bool.true_and]
       by_cases h4:a.2.1=b.2.1
       · simp only [h4,decide_true,Bool.not_true,cond_false,decide_eq_false (sirr b.2.1),Bool.false_or,Bool.not_false,Bool.true_and]
       · simp only [decide_eq_false h4,Bool.not_false,cond_true]
         rcases stri a.2.1 b.2.1 with h | h | h
         · simp [h]
         · exact absurd h h4
         · simp [h,sasym h]
     · simp only [decide_eq_false h3,Bool.not_false,cond_true]
       rcases stri a.1 b.1 with h | h | h
       · simp [h]
       · exact absurd h h3
       · simp [h,sasym h]
   · simp only [decide_eq_false h2,Bool.not_false,cond_true]
     by_cases h:(a.2.2.2.2.2.1.length:Int)<(b.2.2.2.2.2.1.length:Int)
     · simp only [decide_eq_true h,Bool.true_or]
     · have h':(b.2.2.2.2.2.1.length:Int)<(a.2.2.2.2.2.1.length:Int):=by omega
       simp only [decide_eq_false h,decide_eq_true h',Bool.not_true,Bool.false_and,Bool.or_self]
 · simp only [decide_eq_false h1,Bool.not_false,cond_true]
   by_cases h:rk b<rk a
   · have e1:-rk a < -rk b:=by omega
     simp only [decide_eq_true h,decide_eq_true e1,Bool.true_or]
   · have e1:¬ -rk a < -rk b:=by omega
     have e2:-rk b < -rk a:=by omega
     simp only [decide_eq_false h,decide_eq_false e1,decide_eq_true e2,Bool.not_true,Bool.false_and,Bool.or_self]
theorem ucdx_ (a b c:Int):uxj_ [a,b,c]=some (if a=0 then if b=0 then c else b else a):=by
 unfold uxj_ ubdg_
 rw [ub0l_]
 have e1:fuel-1=(fuel-2)+1:=by unfold fuel; omega
 have e2:fuel-2=(fuel-3)+1:=by unfold fuel; omega
 have e3:fuel-3=(fuel-4)+1:=by unfold fuel; omega
 have h0:at? [a,b,c] 0=some a:=rfl
 have h1:at? [a,b,c] 1=some b:=rfl
 have h2:at? [a,b,c] 2=some c:=rfl
 rw [e1,e2,e3]
 show ((ug3_ (ug3_ (ug3_ (ug3_ (loopN ug3_ (fuel-4))))) ((0:Int),[a,b,c],(3:Int),0)).bind _)=_
 have w1:IntKind.i64.wrap 1=1:=by decide
 have w2:IntKind.i64.wrap 2=2:=by decide
 have w3:IntKind.i64.wrap (1+1)=2:=by decide
 have w4:IntKind.i64.wrap (2+1)=3:=by decide
 have w5:IntKind.i64.wrap 3=3:=by decide
 by_cases ha:a=0
 · subst ha
   by_cases hb:b=0
   · subst hb
     by_cases hc:c=0
     · subst hc
       simp [ug3_,h0,h1,h2,w1,w2,w3,w4,w5,uqa_]
     · simp [ug3_,h0,h1,h2,w1,w2,w3,w4,w5,uqa_,hc]
   · simp [ug3_,h0,h1,w1,w2,w3,uqa_,hb]
 · simp [ug3_,h0,uqa_,ha]
end Go.Ev.Pv
namespace Go.Ev.Pv
def CmpOf (c:Int) (p:Fd→Fd→Bool) (a b:Fd):Prop:=(c<0↔p a b=true)∧(c=0↔p a b=false∧p b a=false)
theorem CmpOf.lex {c x:Int} {p q:Fd→Fd→Bool} {a b:Fd} (h:CmpOf c p a b) (hx:x<0↔q a b=true):(if c=0 then x else c)<0↔lexB p q a b=true:=by
 unfold lexB
 rw [Bool.or_eq_true,Bool.and_eq_true,Bool.not_eq_true']
 by_cases e:c=0
 · rw [if_pos e]
   obtain ⟨h1,h2⟩:=h.2.1 e
   rw [hx,h1,h2]; simp
 · rw [if_neg e,h.1]
   constructor
   · exact Or.inl
   · rintro (w | ⟨w1,w2⟩)
     · exact w
     · cases hp:p a b with
       | true=>rfl
       | false=>exact absurd (h.2.2 ⟨hp,w1⟩) e
theorem ubx6_ (f:Fd→Int) (a b:Fd):CmpOf (cmpI (f a) (f b)) (fun a b=>decide (f a<f b)) a b:=by
 unfold CmpOf cmpI
 dsimp only
 rcases Int.lt_trichotomy (f a) (f b) with h | h | h
 · simp [h]
 · simp [h]
 · have:¬ f a<f b:=by omega
   simp [h,this]
theorem ub28_ (f:Fd→Str) (a b:Fd):CmpOf (cmpS (f a) (f b)) (fun a b=>decide (f a<f b)) a b:=by
 unfold CmpOf cmpS
 dsimp only
 rcases stri (f a) (f b) with h | h | h
 · simp [h]
 · simp [h,sirr]
 · have h1:¬ f a<f b:=sasym h
   have h2:¬ f a=f b:=fun e=>by rw [e] at h; exact sirr _ h
   simp [h,h1,h2]
theorem ucb8_ (a b:Fd):CmpOf (cmpI (rk b) (rk a)) (fun a b=>decide (-rk a < -rk b)) a b:=by
 have h:cmpI (rk b) (rk a)=cmpI (-rk a) (-rk b):=by
  unfold cmpI
  repeat' split
  all_goals omega
 rw [h]
 exact ubx6_ (fun a=>-rk a) a b
theorem ub7p_ (l:List Fd) (hst:∀ a∈l,stOk a) (i j:Int) (i0:0≤i) (i1:i<l.length) (j0:0≤j) (j1:j<l.length) :
 ∃ c,((ujn_ (i,j,some l)).bind fun r=>some r)=some c∧(c<0↔bfd (lg l i) (lg l j)=true):=by
 have hm:∀ x:Int,0≤x→x<(l.length:Int)→lg l x∈l:=fun x x0 x1=>by
  have h:=at_lg x0 x1
  unfold at? at h
  rw [decide_eq_true x0] at h
  exact List.mem_of_getElem? h
 have hi:=hst _ (hm i i0 i1)
 have hj:=hst _ (hm j j0 j1)
 unfold ujn_ uew_ unk_
 dsimp only
 simp only [Option.bind_some,at_lg i0 i1,at_lg j0 j1,ucb7_ hi,ucb7_ hj,u8c_,u0c_,ucdx_]
 refine ⟨_,rfl,?_⟩
 unfold bfd
 refine (ucb8_ _ _).lex ?_
 refine (ubx6_ (fun a=>(a.2.2.2.2.2.1.length:Int)) _ _).lex ?_
 refine (ub28_ (fun a=>a.1) _ _).lex ?_
 refine (ub28_ (fun a=>a.2.1) _ _).lex ?_
 exact (ubx6_ (fun a=>a.2.2.1) _ _).1
theorem uce5_ (n:Nat) (hn:n≤1048576):Tot (ust_ (([]:List Int),(n:Int),0)) (fun r=>r=ul5_ n):=by
 refine ucj_ (R:=fun r:List Int=>r=ul5_ n) (fun y:List Int×Int×Int=>y.2.1=n∧∃ t:Nat,y.2.2=(t:Int)∧t≤n∧y.1=ul5_ t)
  (fun y=>((n:Int)-y.2.2).toNat) ?_ _ _ ⟨rfl,0,rfl,by omega,rfl⟩ (by unfold fuel; dsimp only; omega)
 rintro next ⟨out,n',i⟩ hI hn'
 dsimp only at hI hn'
 obtain ⟨rfl,t,rfl,t1,rfl⟩:=hI
 unfold ubdh_
 dsimp only
 have hlen:(ul5_ t).length=t:=by simp [ul5_]
 refine u4_.2 ⟨fun hc=>?_,fun hc=>uh_.2 ?_⟩
 · have hc:=of_decide_eq_true hc
   rw [ubp_ (n:=(t:Int)+1) (by omega) (by omega)]
   refine ud_.2 (ub7c_.2 ⟨by simp only [List.length_cons,List.length_nil]; omega,?_⟩)
   refine hn' _ ⟨rfl,t+1,by dsimp only; omega,by omega,?_⟩ (by dsimp only; omega)
   dsimp only
   unfold ul5_
   rw [List.range_succ,List.map_append]; rfl
 · have hc:=of_decide_eq_false hc
   rw [show t=n by omega]
theorem ub7q_ {bf:Fd→Fd→Bool} (hw:SW bf) (l:List Fd) (x:Int):¬ ltO bf l x x:=by
 rintro (h | h)
 · rw [hw.asym _ _ h] at h; cases h
 · omega
theorem ucb9_ {bf:Fd→Fd→Bool} (hw:SW bf) (l:List Fd) {x y z:Int} (h1:ltO bf l x y) (h2:ltO bf l y z):ltO bf l x z:=by
 rcases h1 with h1 | ⟨h1,h1'⟩
 · rcases h2 with h2 | ⟨h2,_⟩
   · exact Or.inl (hw.ntr _ _ _ h1 (hw.asym _ _ h2))
   · exact Or.inl (hw.ntr _ _ _ h1 h2)
 · rcases h2 with h2 | ⟨h2,h2'⟩
   · refine Or.inl ?_
     cases hxz:bf (lg l x) (lg l z) with
     | true=>rfl
     | false=>rw [hw.ntr _ _ _ h2 hxz] at h1; cases h1
   · refine Or.inr ⟨?_,by omega⟩
     cases hzx:bf (lg l z) (lg l x) with
     | false=>rfl
     | true=>rw [hw.ntr _ _ _ hzx h1] at h2; cases h2
theorem ucdy_ {bf:Fd→Fd→Bool} (l:List Fd) {x y:Int} (h:x≠y):ltO bf l x y∨ltO bf l y x:=by
 unfold ltO
 cases h1:bf (lg l x) (lg l y) <;> cases h2:bf (lg l y) (lg l x) <;> simp <;> omega
theorem ucca_ (l:List Fd) (hst:∀ a∈l,stOk a) (hl:l.length≤1048576) :
 ∃ r,ubv6_ (l,([]:List Int),0)=some r∧((ust_ (([]:List Int),(l.length:Int),0)).bind fun r3=>u6_ (r3,(fun x=>(ujn_ (x.1,x.2,(some l))).bind fun r=>some r)))=some r∧r.length=l.length∧r.Perm (ul5_ l.length)∧r.Pairwise (ltO bfd l):=by
 obtain ⟨r,hr,hp,hs⟩:=ucb6_ l bfd (fun a b ha hb=>before_eq (hst a ha) (hst b hb)) ub13_ hl
 obtain ⟨q,hq,hq'⟩:=uce5_ l.length hl
 subst hq'
 refine ⟨r,hr,?_,by rw [hp.length_eq]; simp [ul5_],hp,hs⟩
 rw [hq]
 have hlen:(ul5_ l.length).length=l.length:=by simp [ul5_]
 have hgt:∀ k,0≤k→k<(l.length:Int)→gt (ul5_ l.length) k=k:=fun k k0 k1=>by
  unfold gt ul5_
  have:k.toNat<l.length:=by omega
  simp [List.getD,this]; omega
 have hin:∀ x∈ul5_ l.length,0≤x∧x<(l.length:Int):=fun x hx=>by
  obtain ⟨j,hj,rfl⟩:=List.mem_map.1 hx
  have:=List.mem_range.1 hj
  omega
 obtain ⟨r',h1,h2,h3⟩:=ub4j_ (lt:=ltO bfd l) (P:=fun x=>0≤x∧x<(l.length:Int)) (C:=fun x=>(ujn_ (x.1,x.2,(some l))).bind fun r=>some r) (ul5_ l.length)
  ⟨fun x _=>ub7q_ ub13_ l x,fun x y z _ _ _=>ucb9_ ub13_ l,fun x y _ _=>ucdy_ l⟩
  (fun x y hx hy hlt=>by
   obtain ⟨c,c1,c2⟩:=ub7p_ l hst x y hx.1 hx.2 hy.1 hy.2
   refine ⟨c,c1,c2.trans ⟨Or.inl,?_⟩⟩
   rintro (h | h)
   · exact h
   · omega)
  ⟨fun i j i0 ij j1=>by rw [hlen] at j1; rw [hgt i i0 (by omega),hgt j (by omega) j1]; exact ij,fun k k0 k1=>by rw [hlen] at k1; rw [hgt k k0 k1]; exact ⟨k0,k1⟩⟩ (by omega)
  (fun a b ha hb=>by
   obtain ⟨c,c1,_⟩:=ub7p_ l hst a b (hin a ha).1 (hin a ha).2 (hin b hb).1 (hin b hb).2
   exact ⟨c,c1,trivial⟩)
 show u6_ (ul5_ l.length,_)=some r
 rw [h1]
 have hpw:r'.Pairwise (ltO bfd l):=by
  rw [List.pairwise_iff_getElem]
  intro i j hi hj hij
  have hl':=h2.length_eq
  have:=h3 (i:Int) (j:Int) (by omega) (by omega) (by omega)
  unfold gt at this
  simpa [List.getD,hi,hj] using this
 congr 1
 exact List.Perm.eq_of_pairwise (le:=ltO bfd l) (fun a b _ _ g1 g2=>absurd (ucb9_ ub13_ l g1 g2) (ub7q_ ub13_ l a)) hpw hs (h2.trans hp.symm)
end Go.Ev.Pv
namespace Go.Ev.Pv
theorem ub7r_ (a:Fd):ukw_ a=ueh_ a:=rfl
theorem ucdz_:∀ (k:Nat) (l:List Fd) (i:Int),loopN uc5_ k (l,(l.length:Int),i)=loopN ufp_ k (l,i):=by
 intro k
 induction k with
 | zero=>intros; rfl
 | succ k ih =>
   intro l i
   show uc5_ (loopN uc5_ k) (l,(l.length:Int),i)=ufp_ (loopN ufp_ k) (l,i)
   generalize loopN uc5_ k=A at ih ⊢
   generalize loopN ufp_ k=B at ih ⊢
   unfold uc5_ ufp_
   dsimp only
   simp only [ub7r_]
   congr 1
   congr 1
   funext y
   congr 1
   funext r
   rw [ih]
theorem ubx7_ (l:List Fd):uet_ l=ufc_ l:=by
 unfold uet_ ufc_ ukx_ u5u_
 rw [ucdz_]
theorem ub7s_ (l:List Fd):Tot (ufc_ l) (fun r=>r=0→l.length≤100000∧∀ a∈l,stOk a):=by
 unfold ufc_
 refine u4_.2 ⟨fun hc=>uh_.2 fun h=>(by cases h),fun hc=>?_⟩
 have hc:=of_decide_eq_false hc
 refine ud_.2 (Tot.mono (P:=fun r:Sum Unit Int=>(∀ u,r=.inl u→∀ a∈l,stOk a)∧∀ e,r=.inr e→e≠0) ?_ fun r hr=>?_)
 · refine ucj_ (R:=fun r:Sum Unit Int=>(∀ u,r=.inl u→∀ a∈l,stOk a)∧∀ e,r=.inr e→e≠0) (fun y:List Fd×Int=>y.1=l∧0≤y.2∧y.2≤l.length∧∀ a∈l.take y.2.toNat,stOk a)
    (fun y=>((l.length:Int)-y.2).toNat) ?_ _ _ ⟨rfl,Int.le_refl _,Int.natCast_nonneg _,by simp⟩ (by unfold fuel; dsimp only; omega)
   rintro next ⟨l',i⟩ hI hn
   dsimp only at hI hn
   obtain ⟨rfl,i0,i1,hs⟩:=hI
   unfold ufp_
   dsimp only
   refine u4_.2 ⟨fun hc=>?_,fun hc=>uh_.2 ⟨fun u _=>?_,fun e he=>(by cases he)⟩⟩
   · have hc:=of_decide_eq_true hc
     rw [ubp_ (n:=i+1) (by omega) (by omega)]
     refine ud_.2 (ubiv_.2 ⟨⟨i0,hc⟩,fun a ha=>?_⟩)
     have hf:Tot (ueh_ a) (fun r=>r=0→stOk a):=by
      unfold ueh_ u69_
      dsimp only
      refine ud_.2 (uh_.2 (u4_.2 ⟨fun _=>uh_.2 fun h=>(by cases h),fun h1=>ud_.2 (uh_.2 (u4_.2 ⟨fun _=>uh_.2 fun h=>(by cases h),fun _=>uh_.2 fun _=>?_⟩))⟩))
      obtain ⟨q1,q2⟩:=Bool.or_eq_false_iff.1 h1
      have q1:=of_decide_eq_false q1
      have q2:=of_decide_eq_false q2
      exact ⟨by omega,by omega⟩
     refine ud_.2 (hf.mono fun r hr=>u4_.2 ⟨fun he=>uh_.2 ⟨fun u hu=>(by cases hu),fun e he'=>?_⟩,fun he=>?_⟩)
     · cases he'
       rw [uqa_] at he
       simpa using he
     · have he:r=0:=by rw [uqa_] at he; simpa using he
       refine hn _ ⟨rfl,by dsimp only; omega,by dsimp only; omega,?_⟩ (by dsimp only; omega)
       dsimp only
       rw [show (i+1).toNat=i.toNat+1 by omega,u99_ ha]
       intro b hb
       rcases List.mem_append.1 hb with h | h
       · exact hs b h
       · rw [List.mem_singleton.1 h]; exact hr he
   · have hc:=of_decide_eq_false hc
     rwa [List.take_of_length_le (by omega)] at hs
 · rcases r with u | e
   · exact uh_.2 fun _=>⟨by omega,hr.1 u rfl⟩
   · exact uh_.2 fun h=>absurd h (hr.2 e rfl)
end Go.Ev.Pv
namespace Go.Ev.Pv
end Go.Ev.Pv
namespace Go.Ev.Pv
end Go.Ev.Pv
namespace Go.Ev.Pv
noncomputable def mx (l:List Fd) (s:Str):Int:=l.foldl (fun n a=>if a.2.1=s then maxI n (rk a) else n) 0
end Go.Ev.Pv
namespace Go.Ev.Pv
end Go.Ev.Pv
namespace Go.Ev.Pv
theorem ub14_:ubzw_ ()=some true:=by kernel_rfl
end Go.Ev.Pv
namespace Go.Ev.Pv
end Go.Ev.Pv
namespace Go.Ev.Pv
abbrev Ky:=(List UInt8)×(List UInt8)×Int
def kf (k:Ky):Fd:=(k.1,k.2.1,k.2.2,0,0,[],[],[],0)
def kb:Fd→Fd→Bool:=lexB (fun a b=>decide (a.1<b.1)) (lexB (fun a b=>decide (a.2.1<b.2.1)) (fun a b=>decide (a.2.2.1<b.2.2.1)))
theorem sw_kb:SW kb:=SW.lex (ub9o_ fun a=>a.1) (SW.lex (ub9o_ fun a=>a.2.1) (ub9n_ fun a=>a.2.2.1))
theorem ubrx_ (a b:Str):cmpS a b=0↔a=b:=by
 unfold cmpS
 by_cases h2:a=b
 · subst h2; simp [sirr]
 · by_cases h1:a<b <;> simp [h1,h2]
theorem uccb_ (a b:Int):cmpI a b<0↔a<b:=by
 unfold cmpI
 by_cases h1:a<b <;> by_cases h2:b<a <;> simp [h1,h2]
theorem ub15_ (a b:Ky):∃ c,uew_ (a,b)=some c∧(c<0↔kb (kf a) (kf b)=true):=by
 unfold uew_
 dsimp only
 simp only [u0c_,u8c_,Option.bind_some,ucdx_]
 refine ⟨_,rfl,?_⟩
 unfold kb lexB kf
 dsimp only
 by_cases h1:a.1=b.1
 · have e1:¬ a.1<a.1:=sirr _
   rw [if_pos ((ubrx_ _ _).2 h1),← h1]
   simp only [decide_eq_false e1,Bool.not_false,Bool.true_and,Bool.false_or]
   by_cases h2:a.2.1=b.2.1
   · have e2:¬ a.2.1<a.2.1:=sirr _
     rw [if_pos ((ubrx_ _ _).2 h2),← h2]
     simp only [decide_eq_false e2,Bool.not_false,Bool.true_and,Bool.false_or,decide_eq_true_eq]
     exact uccb_ _ _
   · rw [if_neg (fun h=>h2 ((ubrx_ _ _).1 h)),ub7g_]
     rcases stri a.2.1 b.2.1 with h | h | h
     · simp [h]
     · exact absurd h h2
     · simp [h,sasym h]
 · rw [if_neg (fun h=>h1 ((ubrx_ _ _).1 h)),ub7g_]
   rcases stri a.1 b.1 with h | h | h
   · simp [h]
   · exact absurd h h1
   · simp [h,sasym h]
theorem ucd0_ {a b:Ky} (h1:kb (kf a) (kf b)=false) (h2:kb (kf b) (kf a)=false):a=b:=by
 unfold kb lexB kf at h1 h2
 dsimp only at h1 h2
 rcases stri a.1 b.1 with h | h | h
 · simp [h] at h1
 · rcases stri a.2.1 b.2.1 with h' | h' | h'
   · simp [h,h',sirr] at h1
   · simp [h,h',sirr] at h1 h2
     exact Prod.ext h (Prod.ext h' (Int.le_antisymm (by omega) (by omega)))
   · simp [h,h',sirr] at h2
 · simp [h] at h2
noncomputable abbrev kF:Ky×Ky→Option Int:=fun x=>(uew_ x).bind fun r=>some r
theorem kF_eq (a b:Ky):∃ c,kF (a,b)=some c∧(c<0↔kb (kf a) (kf b)=true):=by
 obtain ⟨c,h1,h2⟩:=ub15_ a b
 exact ⟨c,by unfold kF; rw [h1]; rfl,h2⟩
theorem ub0m_ (xs:List Ky):ubsq_ xs kF:=by
 have e:∀ i j,ltAt xs kF i j=kb (kf (xs.get i)) (kf (xs.get j)):=by
  intro i j
  obtain ⟨c,h1,h2⟩:=kF_eq (xs.get i) (xs.get j)
  unfold ltAt cfAt
  rw [h1]
  cases hk:kb (kf (xs.get i)) (kf (xs.get j)) with
  | true=>simpa using h2.2 hk
  | false =>
    have:¬ c<0:=fun h=>by rw [h2.1 h] at hk; cases hk
    simpa using this
 refine ⟨fun i j=>?_,fun i=>?_,fun i j k=>?_,fun i j k=>?_⟩
 · obtain ⟨c,h1,_⟩:=kF_eq (xs.get i) (xs.get j)
   rw [h1]; rfl
 · rw [e]
   cases h:kb (kf (xs.get i)) (kf (xs.get i)) with
   | false=>rfl
   | true=>have:=sw_kb.asym _ _ h; rw [h] at this; cases this
 · rw [e,e,e]
   intro h1 h2
   refine sw_kb.ntr _ _ _ h1 ?_
   exact sw_kb.asym _ _ h2
 · rw [e,e,e]
   intro h1 h2
   cases h:kb (kf (xs.get i)) (kf (xs.get k)) with
   | false=>rfl
   | true=>rw [sw_kb.ntr _ _ _ h h2] at h1; cases h1
theorem uccc_ (xs:List Ky):∃ r,uda_ (xs,kF)=some r∧r.Perm xs∧∀ ys,ys.Perm xs→uda_ (ys,kF)=some r:=by
 have key:∀ zs:List Ky,Tot (ubuo_ zs kF) (fun r=>r.Perm zs∧r.Pairwise (fun a b=>kb (kf b) (kf a)=false)):=fun zs =>
  (ub4h_ zs kF (ub0m_ zs)).mono fun r hr=>⟨hr.1,hr.2.imp fun {a b} h=>by
   obtain ⟨c,h1,h2⟩:=kF_eq b a
   have:=h c h1
   cases hk:kb (kf b) (kf a) with
   | false=>rfl
   | true=>have:=h2.2 hk; omega⟩
 obtain ⟨r,h1,h2,h3⟩:=key xs
 refine ⟨r,h1,h2,fun ys hy=>?_⟩
 obtain ⟨r',g1,g2,g3⟩:=key ys
 have:r'=r:=List.Perm.eq_of_pairwise (le:=fun a b=>kb (kf b) (kf a)=false) (fun a b _ _ q1 q2=>ucd0_ q2 q1) g3 h3 (g2.trans (hy.trans h2.symm))
 rw [← this]
 exact g1
end Go.Ev.Pv
namespace Go.Ev.Pv
abbrev kEq:Ky→Ky→Bool:=fun x y=>eqS x.1 y.1&&(fun (x y:(List UInt8)×Int)=>eqS x.1 y.1&&eqI x.2 y.2) x.2 y.2
theorem ub9q_ (x y:Ky):kEq x y=decide (x=y):=by
 unfold kEq
 dsimp only
 rw [ubuj_,ubuj_,uqa_,Bool.eq_iff_iff]
 simp only [Bool.and_eq_true,decide_eq_true_eq]
 exact ⟨fun ⟨h1,h2,h3⟩=>Prod.ext h1 (Prod.ext h2 h3),fun h=>by rw [h]; exact ⟨rfl,rfl,rfl⟩⟩
theorem ub9r_ {k:Ky}:∀ {m:List (Ky×Int)},k ∉ m.map (·.1)→uck_ kEq k m=none:=by
 intro m
 induction m with
 | nil=>intro _; rfl
 | cons e m ih =>
   intro h
   simp only [List.map_cons,List.mem_cons,not_or] at h
   unfold uck_
   rw [ub9q_,decide_eq_false h.1]
   exact ih h.2
theorem ucd1_ {k:Ky} {v:Int}:∀ {m:List (Ky×Int)},k ∉ m.map (·.1)→putKV kEq k v m=m++[(k,v)]:=by
 intro m
 induction m with
 | nil=>intro _; rfl
 | cons e m ih =>
   intro h
   simp only [List.map_cons,List.mem_cons,not_or] at h
   unfold putKV
   rw [ub9q_,decide_eq_false h.1,cond_false,ih h.2]
   rfl
theorem ub29_ {k:Ky}:∀ {m:List (Ky×Int)},k∈m.map (·.1)→∃ e∈m,e.1=k∧uck_ kEq k m=some e.2:=by
 intro m
 induction m with
 | nil=>intro h; cases h
 | cons e m ih =>
   intro h
   unfold uck_
   by_cases hk:k=e.1
   · rw [ub9q_,decide_eq_true hk]
     exact ⟨e,List.mem_cons_self,hk.symm,rfl⟩
   · rw [ub9q_,decide_eq_false hk]
     simp only [List.map_cons,List.mem_cons] at h
     obtain ⟨e',h1,h2,h3⟩:=ih (h.resolve_left hk)
     exact ⟨e',List.mem_cons_of_mem _ h1,h2,h3⟩
def kyOf (a:Fd):Ky:=(a.1,a.2.1,a.2.2.1)
def kvOf (a:Fd):Ky×Int:=(kyOf a,a.2.2.2.1)
theorem ubwd_ (l:List Fd) (hl:l.length≤100000) (hst:∀ a∈l,a.2.2.2.1≠0) :
 Tot (uoo_ l) (fun r=>((l.map kyOf).Nodup∧r=(l.map kvOf,true))∨(¬ (l.map kyOf).Nodup∧r.2=false)):=by
 unfold uoo_ uyv_
 refine ud_.2 (Tot.mono (P:=fun r:Sum (List (Ky×Int)) ((List (Ky×Int))×Bool)=>(∀ m,r=.inl m→(l.map kyOf).Nodup∧m=l.map kvOf)∧∀ q,r=.inr q→¬ (l.map kyOf).Nodup∧q.2=false) ?_ fun r hr=>?_)
 · refine ucj_ (R:=fun r:Sum (List (Ky×Int)) ((List (Ky×Int))×Bool)=>(∀ m,r=.inl m→(l.map kyOf).Nodup∧m=l.map kvOf)∧∀ q,r=.inr q→¬ (l.map kyOf).Nodup∧q.2=false)
    (fun y:List (Ky×Int)×List Fd×Int×Int=>y.2.1=l∧y.2.2.1=l.length∧0≤y.2.2.2∧y.2.2.2≤l.length∧y.1=(l.take y.2.2.2.toNat).map kvOf∧((l.take y.2.2.2.toNat).map kyOf).Nodup)
    (fun y=>((l.length:Int)-y.2.2.2).toNat) ?_ _ _ ⟨rfl,rfl,Int.le_refl _,Int.natCast_nonneg _,by simp,by simp⟩ (by unfold fuel; dsimp only; omega)
   rintro next ⟨m,l',n,t⟩ hI hn
   dsimp only at hI hn
   obtain ⟨rfl,rfl,t0,t1,rfl,hd⟩:=hI
   unfold uba7_
   dsimp only
   refine u4_.2 ⟨fun hc=>?_,fun hc=>uh_.2 ⟨fun q hq=>?_,fun q hq=>(by cases hq)⟩⟩
   · have hc:=of_decide_eq_true hc
     rw [ubp_ (n:=t+1) (by omega) (by omega)]
     refine ud_.2 (ubiv_.2 ⟨⟨t0,hc⟩,fun a ha=>?_⟩)
     have hk:unk_ a=some (kyOf a):=rfl
     rw [hk]
     refine ud_.2 (uh_.2 ?_)
     have hkeys:((l'.take t.toNat).map kvOf).map (·.1)=(l'.take t.toNat).map kyOf:=by rw [List.map_map]; rfl
     have htk:l'.take (t+1).toNat=l'.take t.toNat++[a]:=by rw [show (t+1).toNat=t.toNat+1 by omega,u99_ ha]
     by_cases hin:kyOf a∈(l'.take t.toNat).map kyOf
     · obtain ⟨e,he,he1,he2⟩:=ub29_ (m:=(l'.take t.toNat).map kvOf) (by rw [hkeys]; exact hin)
       have hne:e.2≠0:=by
        obtain ⟨b,hb,rfl⟩:=List.mem_map.1 he
        exact hst b (List.mem_of_mem_take hb)
       rw [show uck_ kEq (kyOf a) ((l'.take t.toNat).map kvOf)=some e.2 from he2]
       simp only [Option.getD_some,uqa_,decide_eq_false hne,Bool.not_false,cond_true]
       refine uh_.2 ⟨fun q hq=>(by cases hq),fun q hq=>?_⟩
       cases hq
       refine ⟨fun hnd=>?_,rfl⟩
       have hlt:t.toNat<l'.length:=by omega
       have hge:l'[t.toNat]=a:=(List.getElem?_eq_some_iff.1 ha).2
       obtain ⟨b,hb,hbk⟩:=List.mem_map.1 hin
       obtain ⟨j,hj⟩:=List.getElem?_of_mem hb
       have hjlt:j<(l'.take t.toNat).length:=(List.getElem?_eq_some_iff.1 hj).1
       have hjt:j<t.toNat:=by rw [List.length_take] at hjlt; omega
       have hj':l'[j]? = some b:=by rw [List.getElem?_take_of_lt hjt] at hj; exact hj
       have q1:(l'.map kyOf)[j]? = some (kyOf a):=by rw [List.getElem?_map,hj',← hbk]; rfl
       have q2:(l'.map kyOf)[t.toNat]? = some (kyOf a):=by rw [List.getElem?_map,ha]; rfl
       have:=(List.getElem?_inj (by rw [List.length_map]; omega) hnd).1 (q1.trans q2.symm)
       omega
     · have hf:=ub9r_ (m:=(l'.take t.toNat).map kvOf) (by rw [hkeys]; exact hin)
       rw [show uck_ kEq (kyOf a) ((l'.take t.toNat).map kvOf)=none from hf]
       refine u4_.2 ⟨fun h=>(by simp [uqa_] at h),fun _=>ud_.2 (uh_.2 ?_)⟩
       rw [show putKV kEq (kyOf a) a.2.2.2.1 ((l'.take t.toNat).map kvOf)=_ from ucd1_ (by rw [hkeys]; exact hin)]
       refine hn _ ⟨rfl,rfl,by dsimp only; omega,by dsimp only; omega,?_,?_⟩ (by dsimp only; omega)
       · dsimp only
         rw [htk,List.map_append]
         rfl
       · dsimp only
         rw [htk,List.map_append,List.nodup_append]
         refine ⟨hd,by simp,fun x hx y hy=>?_⟩
         have hy:y=kyOf a:=by simpa using hy
         rw [hy]
         exact fun e=>hin (e▸hx)
   · have hc:=of_decide_eq_false hc
     cases hq
     rw [List.take_of_length_le (by omega)] at hd ⊢
     exact ⟨hd,rfl⟩
 · rcases r with m | q
   · obtain ⟨h1,h2⟩:=hr.1 m rfl
     exact uh_.2 (.inl ⟨h1,by rw [h2]⟩)
   · obtain ⟨h1,h2⟩:=hr.2 q rfl
     exact uh_.2 (.inr ⟨h1,h2⟩)
end Go.Ev.Pv
namespace Go.Ev.Pv
abbrev Ch:=(List UInt8)×(List UInt8)×Int×Int×Int
theorem uccd_ (m:List (Ky×Int)):∀ (o:List (Ky×Int)) (ks:List Ky),ks.length+o.length≤100000→foldO (fun kx u=>ugb_ kx.1 u) o (m,ks)=some (m,ks++o.map (·.1)):=by
 intro o
 induction o with
 | nil=>intro ks _; simp [foldO]
 | cons e o ih =>
   intro ks h
   simp only [List.length_cons] at h
   have hs:ugb_ e.1 (m,ks)=some (m,ks++[e.1]):=by
    unfold ugb_
    dsimp only
    unfold app?
    rw [decide_eq_true (by simp only [List.length_cons,List.length_nil]; omega)]
    rfl
   simp only [foldO]
   rw [hs]
   simp only [Option.bind_some]
   rw [ih (ks++[e.1]) (by simp; omega),List.map_cons,List.append_assoc]
   rfl
theorem ub7t_ (m:List (Ky×Int)) (hm:∀ e∈m,e.2≠0) (r:List Ky) (hr:∀ k∈r,k∈m.map (·.1)) (hl:r.length≤100000) :
 Tot (uwj_ (m,([]:List (Ky×Int)),[],r,(r.length:Int),0)) (fun out=>out.length=r.length):=by
 refine ucj_ (R:=fun out:List Ch=>out.length=r.length)
  (fun y:List (Ky×Int)×List (Ky×Int)×List Ch×List Ky×Int×Int=>y.1=m∧y.2.1=[]∧y.2.2.2.1=r∧y.2.2.2.2.1=r.length∧0≤y.2.2.2.2.2∧y.2.2.2.2.2≤r.length∧(y.2.2.1.length:Int)=y.2.2.2.2.2)
  (fun y=>((r.length:Int)-y.2.2.2.2.2).toNat) ?_ _ _ ⟨rfl,rfl,rfl,rfl,Int.le_refl _,Int.natCast_nonneg _,rfl⟩ (by unfold fuel; dsimp only; omega)
 rintro next ⟨m',w,out,r',n,t⟩ hI hn
 dsimp only at hI hn
 obtain ⟨rfl,rfl,rfl,rfl,t0,t1,ho⟩:=hI
 unfold u68_
 dsimp only
 refine u4_.2 ⟨fun hc=>?_,fun hc=>uh_.2 ?_⟩
 · have hc:=of_decide_eq_true hc
   rw [ubp_ (n:=t+1) (by omega) (by omega)]
   refine ud_.2 (ueg_.2 ⟨⟨t0,hc⟩,?_⟩)
   have hlt:t.toNat<r'.length:=by omega
   have hg:(r'.getD t.toNat (([]:List UInt8),(([]:List UInt8),(0:Int))))=r'[t.toNat]:=by simp [List.getD,hlt]
   rw [hg]
   obtain ⟨e,he,he1,he2⟩:=ub29_ (hr _ (List.getElem_mem hlt))
   refine u4_.2 ⟨fun _=>?_,fun h=>?_⟩
   · refine ud_.2 (ub7c_.2 ⟨by simp only [List.length_cons,List.length_nil]; omega,?_⟩)
     refine hn _ ⟨rfl,rfl,rfl,rfl,by dsimp only; omega,by dsimp only; omega,?_⟩ (by dsimp only; omega)
     dsimp only
     rw [List.length_append]
     simp only [List.length_cons,List.length_nil]
     omega
   · exfalso
     rw [show uck_ kEq r'[t.toNat] m'=some e.2 from he2] at h
     simp [uck_,uqa_] at h
     exact hm e he h
 · have hc:=of_decide_eq_false hc
   omega
theorem ub16_ (l:List Fd) (h0:ufc_ l=some 0) (hl:l.length≤100000) (hst:∀ a∈l,a.2.2.2.1≠0) :
 Tot (uxd_ (l,[])) (fun r=>((l.map kyOf).Nodup∧r.2=0∧r.1.length=l.length)∨(¬ (l.map kyOf).Nodup∧r.2≠0)):=by
 have hn0:ufc_ []=some 0:=by
  obtain ⟨e,he,_⟩:=ub7s_ []
  unfold ufc_ u5u_
  rw [ub0l_]
  rfl
 have hl0:uop_ ([l,[]],(([l,[]]:List (List Fd)).length:Int),0)=some (.inl ()):=by
  have:Tot (uop_ ([l,[]],(([l,[]]:List (List Fd)).length:Int),0)) (fun r=>r=.inl ()):=by
   refine ucj_ (R:=fun r:Sum Unit (List Ch×Int)=>r=.inl ()) (fun y:List (List Fd)×Int×Int=>y.1=[l,[]]∧y.2.1=2∧0≤y.2.2∧y.2.2≤2) (fun y=>((2:Int)-y.2.2).toNat) ?_ _ _ ⟨rfl,rfl,Int.le_refl _,by dsimp only; omega⟩ (by unfold fuel; dsimp only; omega)
   rintro next ⟨L,n,t⟩ hI hn
   dsimp only at hI hn
   obtain ⟨rfl,rfl,t0,t1⟩:=hI
   unfold u67_
   dsimp only
   refine u4_.2 ⟨fun hc=>?_,fun hc=>uh_.2 rfl⟩
   have hc:=of_decide_eq_true hc
   rw [ubp_ (n:=t+1) (by omega) (by omega)]
   refine ud_.2 (ubiv_.2 ⟨⟨t0,by simp; omega⟩,fun a ha=>?_⟩)
   have ha0:uet_ a=some 0:=by
    have hm:=ub0i_ ha
    simp only [List.mem_cons,List.not_mem_nil,or_false] at hm
    rw [ubx7_]
    rcases hm with rfl | rfl
    · exact h0
    · exact hn0
   rw [ha0]
   refine ud_.2 (uh_.2 (u4_.2 ⟨fun h=>(by simp [uqa_] at h),fun _=>?_⟩))
   exact hn _ ⟨rfl,rfl,by dsimp only; omega,by dsimp only; omega⟩ (by dsimp only; omega)
  obtain ⟨r,hr,rfl⟩:=this
  exact hr
 obtain ⟨sr,hs,hsp⟩:=ubwd_ l hl hst
 obtain ⟨s0,hs0,hsp0⟩:=ubwd_ [] (by simp) (fun a h=>by cases h)
 have hs0:uoo_ []=some ([],true):=by
  rcases hsp0 with ⟨_,rfl⟩ | ⟨h,_⟩
  · exact hs0
  · exact absurd List.nodup_nil h
 unfold uxd_
 dsimp only
 rw [hl0]
 simp only [Option.bind_some]
 rw [hs,hs0]
 simp only [Option.bind_some]
 rcases hsp with ⟨hnd,rfl⟩ | ⟨hnd,h2⟩
 · refine u4_.2 ⟨fun h=>(by simp at h),fun _=>?_⟩
   dsimp only
   have hkeys:(l.map kvOf).map (·.1)=l.map kyOf:=by rw [List.map_map]; rfl
   obtain ⟨r,hr1,hr2,hr3⟩:=uccc_ ((l.map kvOf).map (·.1))
   have hrl:r.length=l.length:=by rw [hr2.length_eq,List.length_map,List.length_map]
   obtain ⟨out,ho1,ho2⟩:=ub7t_ (l.map kvOf) (fun e he=>by obtain ⟨a,ha,rfl⟩:=List.mem_map.1 he; exact hst a ha) r (fun k hk=>hr2.mem_iff.1 hk) (by omega)
   refine ⟨(out,0),?_,.inl ⟨hnd,rfl,by dsimp only; omega⟩⟩
   refine ub4o_ ⟨l.map kvOf,List.Perm.refl _⟩ fun o ho=>?_
   rw [uccd_ _ o [] (by rw [ho.length_eq,List.length_map]; simpa using hl)]
   simp only [Option.bind_some,List.nil_append]
   refine ub4o_ ⟨[],List.Perm.refl _⟩ fun o' ho'=>?_
   have ho':o'=[]:=List.Perm.eq_nil ho'
   subst ho'
   simp only [foldO,Option.bind_some]
   have hsrt:=hr3 (o.map (·.1)) (ho.map _)
   rw [show uda_ (o.map (·.1),fun x=>(uew_ x).bind fun r=>some r)=some r from hsrt]
   simp only [Option.bind_some]
   rw [ho1]
   rfl
 · refine u4_.2 ⟨fun _=>uh_.2 (.inr ⟨hnd,by decide⟩),fun h=>?_⟩
   rw [h2] at h
   simp at h
end Go.Ev.Pv
namespace Go.Ev.Pv
def okF (a:Fd):Prop:=(1≤a.2.2.2.1∧a.2.2.2.1≤6)∧0≤a.2.2.2.2.1∧a.2.2.2.2.1≤100
theorem okF.st {a:Fd} (h:okF a):stOk a:=⟨by have:=h.1.1; omega,by have:=h.1.2; omega⟩
theorem ucce_ (a:Fd):Tot (ueh_ a) (fun r=>r=0→okF a):=by
 unfold ueh_ u69_
 dsimp only
 refine ud_.2 (uh_.2 (u4_.2 ⟨fun _=>uh_.2 fun h=>(by cases h),fun h1=>ud_.2 (uh_.2 (u4_.2 ⟨fun _=>uh_.2 fun h=>(by cases h),fun h2=>uh_.2 fun _=>?_⟩))⟩))
 obtain ⟨q1,q2⟩:=Bool.or_eq_false_iff.1 h1
 obtain ⟨q3,q4⟩:=Bool.or_eq_false_iff.1 h2
 have q1:=of_decide_eq_false q1
 have q2:=of_decide_eq_false q2
 have q3:=of_decide_eq_false q3
 have q4:=of_decide_eq_false q4
 exact ⟨⟨by omega,by omega⟩,by omega,by omega⟩
theorem ub9s_ (l:List Fd):Tot (ufc_ l) (fun r=>r=0→l.length≤100000∧∀ a∈l,okF a):=by
 unfold ufc_
 refine u4_.2 ⟨fun hc=>uh_.2 fun h=>(by cases h),fun hc=>?_⟩
 have hc:=of_decide_eq_false hc
 refine ud_.2 (Tot.mono (P:=fun r:Sum Unit Int=>(∀ u,r=.inl u→∀ a∈l,okF a)∧∀ e,r=.inr e→e≠0) ?_ fun r hr=>?_)
 · refine ucj_ (R:=fun r:Sum Unit Int=>(∀ u,r=.inl u→∀ a∈l,okF a)∧∀ e,r=.inr e→e≠0) (fun y:List Fd×Int=>y.1=l∧0≤y.2∧y.2≤l.length∧∀ a∈l.take y.2.toNat,okF a)
    (fun y=>((l.length:Int)-y.2).toNat) ?_ _ _ ⟨rfl,Int.le_refl _,Int.natCast_nonneg _,by simp⟩ (by unfold fuel; dsimp only; omega)
   rintro next ⟨l',i⟩ hI hn
   dsimp only at hI hn
   obtain ⟨rfl,i0,i1,hs⟩:=hI
   unfold ufp_
   dsimp only
   refine u4_.2 ⟨fun hc=>?_,fun hc=>uh_.2 ⟨fun u _=>?_,fun e he=>(by cases he)⟩⟩
   · have hc:=of_decide_eq_true hc
     rw [ubp_ (n:=i+1) (by omega) (by omega)]
     refine ud_.2 (ubiv_.2 ⟨⟨i0,hc⟩,fun a ha=>?_⟩)
     refine ud_.2 ((ucce_ a).mono fun r hr=>u4_.2 ⟨fun he=>uh_.2 ⟨fun u hu=>(by cases hu),fun e he'=>?_⟩,fun he=>?_⟩)
     · cases he'
       rw [uqa_] at he
       simpa using he
     · have he:r=0:=by rw [uqa_] at he; simpa using he
       refine hn _ ⟨rfl,by dsimp only; omega,by dsimp only; omega,?_⟩ (by dsimp only; omega)
       dsimp only
       rw [show (i+1).toNat=i.toNat+1 by omega,u99_ ha]
       intro b hb
       rcases List.mem_append.1 hb with h | h
       · exact hs b h
       · rw [List.mem_singleton.1 h]; exact hr he
   · have hc:=of_decide_eq_false hc
     rwa [List.take_of_length_le (by omega)] at hs
 · rcases r with u | e
   · exact uh_.2 fun _=>⟨by omega,hr.1 u rfl⟩
   · exact uh_.2 fun h=>absurd h (hr.2 e rfl)
theorem ub0n_ (l:List Fd):∃ e,ufc_ l=some e∧(e≠0→unl_ l=some ([],e)) ∧
 (e=0→(l.length≤100000∧∀ a∈l,okF a)∧∃ o,unl_ l=some (o,0)∧o.Perm (ul5_ l.length)∧o.Pairwise (ltO bfd l)):=by
 obtain ⟨e,he,hst⟩:=ub9s_ l
 refine ⟨e,he,fun h0=>?_,fun h0=>?_⟩
 · unfold unl_
   rw [ubx7_,he]
   simp only [Option.bind_some,uqa_,decide_eq_false h0,Bool.not_false,cond_true]
 · subst h0
   obtain ⟨hl,hs⟩:=hst rfl
   obtain ⟨r,_,h2,_,h4,h5⟩:=ucca_ l (fun a ha=>(hs a ha).st) (by omega)
   refine ⟨⟨hl,hs⟩,r,?_,h4,h5⟩
   unfold unl_
   rw [ubx7_,he]
   simp only [Option.bind_some,uqa_,decide_true,Bool.not_true,cond_false]
   rw [← Option.bind_assoc,h2]; rfl
theorem rk_le {a:Fd} (h:okF a):rk a≤10000:=by
 obtain ⟨⟨h1,h2⟩,h3,h4⟩:=h
 have e:∀ s:Int,at? ([0,0,0,10,60,90,100]:List Int) a.2.2.2.1=some s→s≤100∧0≤s:=by
  intro s hs
  have:s∈([0,0,0,10,60,90,100]:List Int):=by
   unfold at? at hs
   rw [decide_eq_true (by omega)] at hs
   exact List.mem_of_getElem? hs
  simp at this
  omega
 have hr:=ub9p_ (okF.st ⟨⟨h1,h2⟩,h3,h4⟩)
 unfold ubtc_ at hr
 obtain ⟨s,hs,hs2⟩:=Option.bind_eq_some_iff.1 hr
 obtain ⟨e1,e2⟩:=e s hs
 have h5:a.2.2.2.2.1*s≤100*100:=Int.mul_le_mul h4 e1 e2 (by omega)
 have h6:0≤a.2.2.2.2.1*s:=Int.mul_nonneg h3 e2
 have hs2:=Option.some.inj hs2
 rw [ubp_ (by omega) (by omega)] at hs2
 omega
theorem ucd2_ {a b:Fd} (h:bfd a b=true):rk b≤rk a:=by
 unfold bfd lexB at h
 rcases Bool.or_eq_true_iff.1 h with h | h
 · have:=of_decide_eq_true h; omega
 · have:=(Bool.and_eq_true_iff.1 h).1
   simp at this
   omega
theorem ucd3_ {a b:Fd} (h1:bfd a b=false) (h2:bfd b a=false):rk a=rk b:=by
 unfold bfd lexB at h1 h2
 have q1:=of_decide_eq_false (Bool.or_eq_false_iff.1 h1).1
 have q2:=of_decide_eq_false (Bool.or_eq_false_iff.1 h2).1
 omega
theorem uce6_ {l:List Fd} {x y:Int} (h:ltO bfd l x y):rk (lg l y)≤rk (lg l x):=by
 unfold ltO at h
 rcases h with h | ⟨h,_⟩
 · exact ucd2_ h
 · cases hb:bfd (lg l x) (lg l y) with
   | true=>exact ucd2_ hb
   | false=>rw [ucd3_ hb h]; exact Int.le_refl _
end Go.Ev.Pv
namespace Go.Ev.Pv
theorem ucd4_ {a:Fd} (h:okF a):u8q_ a=some (rk a,0):=by
 unfold u8q_
 rw [ub7r_]
 have hf:ueh_ a=some 0:=by
  obtain ⟨⟨h1,h2⟩,h3,h4⟩:=h
  unfold ueh_ u69_
  dsimp only
  simp only [decide_eq_false (show ¬ a.2.2.2.1<1 by omega),decide_eq_false (show ¬ 6<a.2.2.2.1 by omega),decide_eq_false (show ¬ a.2.2.2.2.1<0 by omega),decide_eq_false (show ¬ 100<a.2.2.2.2.1 by omega),Bool.or_self,Option.bind_some,cond_false]
 rw [hf]
 simp only [Option.bind_some,uqa_,decide_true,Bool.not_true,cond_false]
 rw [ucb7_ h.st]
 rfl
theorem uce7_ (l:List Fd) (hl:l.length≤100000) (hs:∀ a∈l,okF a) (o:List Int) (hp:o.Perm (ul5_ l.length)) (hw:o.Pairwise (ltO bfd l)) :
 uhj_ (l,List.replicate l.length false,10000,o,(o.length:Int),0)=some (.inl ()):=by
 have hin:∀ x∈o,0≤x∧x<(l.length:Int):=fun x hx=>by
  obtain ⟨j,hj,rfl⟩:=List.mem_map.1 (hp.mem_iff.1 hx)
  have:=List.mem_range.1 hj
  omega
 have hnd:o.Nodup:=by
  refine hp.nodup_iff.2 ?_
  unfold ul5_
  exact List.Pairwise.map _ (fun a b (h:a≠b)=>by omega) List.nodup_range
 have hol:o.length=l.length:=by rw [hp.length_eq]; simp [ul5_]
 have:Tot (uhj_ (l,List.replicate l.length false,10000,o,(o.length:Int),0)) (fun r=>r=.inl ()):=by
  refine ucj_ (R:=fun r:Sum Unit Bool=>r=.inl ())
   (fun y:List Fd×List Bool×Int×List Int×Int×Int=>y.1=l∧y.2.2.2.1=o∧y.2.2.2.2.1=o.length∧0≤y.2.2.2.2.2∧y.2.2.2.2.2≤o.length∧y.2.1.length=l.length∧(∀ x:Int,0≤x→y.2.1.getD x.toNat false=true→x∈o.take y.2.2.2.2.2.toNat) ∧
    (∀ x∈o.drop y.2.2.2.2.2.toNat,rk (lg l x)≤y.2.2.1))
   (fun y=>((o.length:Int)-y.2.2.2.2.2).toNat) ?_ _ _ ⟨rfl,rfl,rfl,Int.le_refl _,Int.natCast_nonneg _,by simp,fun x _ h=>?_,fun x hx=>?_⟩ (by unfold fuel; dsimp only; omega)
  · rintro next ⟨l',seen,last,o',n,t⟩ hI hn
    dsimp only at hI hn
    obtain ⟨rfl,rfl,rfl,t0,t1,hsl,hseen,hlast⟩:=hI
    unfold uvm_
    dsimp only
    refine u4_.2 ⟨fun hc=>?_,fun hc=>uh_.2 rfl⟩
    have hc:=of_decide_eq_true hc
    rw [ubp_ (n:=t+1) (by omega) (by omega)]
    refine ud_.2 (ubiv_.2 ⟨⟨t0,hc⟩,fun x hx=>?_⟩)
    have hxo:=ub0i_ hx
    obtain ⟨x0,x1⟩:=hin x hxo
    simp only [decide_eq_false (show ¬ x<0 by omega),decide_eq_false (show ¬ (l'.length:Int)≤x by omega),Bool.or_self,Bool.not_false,cond_true,Bool.false_or]
    refine ud_.2 (ueg_.2 ⟨⟨x0,by omega⟩,?_⟩)
    have hns:seen.getD x.toNat false=false:=by
     cases hb:seen.getD x.toNat false with
     | false=>rfl
     | true =>
       exfalso
       have hm:=hseen x x0 hb
       obtain ⟨j,hj⟩:=List.getElem?_of_mem hm
       have hjl:j<(o'.take t.toNat).length:=(List.getElem?_eq_some_iff.1 hj).1
       have hjt:j<t.toNat:=by rw [List.length_take] at hjl; omega
       rw [List.getElem?_take_of_lt hjt] at hj
       have:=(List.getElem?_inj (by omega) hnd).1 (hj.trans hx.symm)
       omega
    rw [hns]
    simp only [cond_false]
    refine ud_.2 (ueg_.2 ⟨⟨x0,by omega⟩,?_⟩)
    have hlg:l'[x.toNat]? = some (lg l' x):=by
     have:=at_lg x0 x1
     unfold at? at this
     rwa [decide_eq_true x0] at this
    have hmem:lg l' x∈l':=ub0i_ hlg
    refine ud_.2 (ubiv_.2 ⟨⟨x0,x1⟩,fun a ha=>?_⟩)
    rw [hlg] at ha
    cases ha
    rw [ucd4_ (hs _ hmem)]
    have hdr:o'.drop t.toNat=x::o'.drop (t.toNat+1):=by
     obtain ⟨h1,h2⟩:=List.getElem?_eq_some_iff.1 hx
     rw [← h2]; exact List.drop_eq_getElem_cons h1
    have hle:rk (lg l' x)≤last:=hlast x (by rw [hdr]; exact List.mem_cons_self)
    refine ud_.2 (uh_.2 ?_)
    dsimp only
    rw [decide_eq_false (show ¬ last<rk (lg l' x) by omega)]
    simp only [cond_false]
    refine hn _ ⟨rfl,rfl,rfl,by dsimp only; omega,by dsimp only; omega,by simp [hsl],fun z z0 hz=>?_,fun z hz=>?_⟩ (by dsimp only; omega)
    · dsimp only at hz ⊢
      rw [show (t+1).toNat=t.toNat+1 by omega,u99_ hx]
      by_cases hzx:z=x
      · rw [hzx]; simp
      · have hne:z.toNat≠x.toNat:=by omega
        rw [List.getD_eq_getElem?_getD,List.getElem?_set_ne (Ne.symm hne),← List.getD_eq_getElem?_getD] at hz
        exact List.mem_append_left _ (hseen z z0 hz)
    · dsimp only at hz ⊢
      rw [show (t+1).toNat=t.toNat+1 by omega] at hz
      have hpw:(o'.drop t.toNat).Pairwise (ltO bfd l'):=hw.drop
      rw [hdr] at hpw
      exact uce6_ ((List.pairwise_cons.1 hpw).1 z hz)
  · dsimp only at h
    simp [List.getD_eq_getElem?_getD,List.getElem?_replicate] at h
    split at h <;> simp at h
  · dsimp only at hx ⊢
    obtain ⟨x0,x1⟩:=hin x (List.mem_of_mem_drop hx)
    have hlg:l[x.toNat]? = some (lg l x):=by
     have:=at_lg x0 x1
     unfold at? at this
     rwa [decide_eq_true x0] at this
    exact rk_le (hs _ (ub0i_ hlg))
 obtain ⟨r,h1,rfl⟩:=this
 exact h1
end Go.Ev.Pv
namespace Go.Ev.Pv
def revAt (l:List Fd) (i:Nat) (k:Nat):Fd:=if k<i∨l.length-1<k+i then l.getD (l.length-1-k) fd0 else l.getD k fd0
theorem ub7u_ (l:List Fd) (hl:l.length≤1048576):Tot (ugy_ (l,0,(l.length:Int)-1)) (fun r=>r=l.reverse):=by
 refine ucj_ (R:=fun r:List Fd=>r=l.reverse)
  (fun y:List Fd×Int×Int=>y.1.length=l.length∧0≤y.2.1∧y.2.2=(l.length:Int)-1-y.2.1∧2*y.2.1≤(l.length:Int)+1∧∀ k,k<l.length→y.1.getD k fd0=revAt l y.2.1.toNat k)
  (fun y=>((l.length:Int)-y.2.1).toNat) ?_ _ _ ⟨rfl,Int.le_refl _,by dsimp only; omega,by dsimp only; omega,fun k hk=>?_⟩ (by unfold fuel; dsimp only; omega)
 · rintro next ⟨s,i,j⟩ hI hn
   dsimp only at hI hn
   obtain ⟨hsl,i0,rfl,i2,hs⟩:=hI
   unfold umx_
   dsimp only
   refine u4_.2 ⟨fun hc=>?_,fun hc=>uh_.2 ?_⟩
   · have hc:=of_decide_eq_true hc
     rw [ubp_ (n:=i+1) (by omega) (by omega),ubp_ (n:=(l.length:Int)-1-i-1) (by omega) (by omega)]
     refine ud_.2 (ueg_.2 ⟨⟨by omega,by omega⟩,ud_.2 (ueg_.2 ⟨⟨by omega,by omega⟩,ud_.2 (ueg_.2 ⟨⟨by omega,by omega⟩,ud_.2 (ueg_.2 ⟨⟨by omega,by rw [List.length_set]; omega⟩,?_⟩)⟩)⟩)⟩)
     refine hn _ ⟨by simp [hsl],by dsimp only; omega,by dsimp only; omega,by dsimp only; omega,fun k hk=>?_⟩ (by dsimp only; omega)
     dsimp only
     have hj:((l.length:Int)-1-i).toNat=l.length-1-i.toNat:=by omega
     have hi1:(i+1).toNat=i.toNat+1:=by omega
     have e1:=hs i.toNat (by omega)
     have e2:=hs (l.length-1-i.toNat) (by omega)
     have e3:=hs k hk
     unfold revAt at e1 e2 e3
     rw [if_neg (by omega)] at e1 e2
     rw [hj,hi1]
     unfold revAt
     rw [List.getD_eq_getElem?_getD,List.getElem?_set,List.getElem?_set]
     by_cases h1:l.length-1-i.toNat=k
     · rw [if_pos h1,if_pos (by rw [List.length_set]; omega),if_pos (by omega)]
       show s.getD i.toNat fd0=_
       rw [e1]
       congr 1
       omega
     · rw [if_neg h1]
       by_cases h2:i.toNat=k
       · rw [if_pos h2,if_pos (by omega),if_pos (by omega)]
         show s.getD (l.length-1-i.toNat) fd0=_
         rw [e2,h2]
       · rw [if_neg h2,← List.getD_eq_getElem?_getD,e3]
         by_cases h3:k<i.toNat∨l.length-1<k+i.toNat
         · rw [if_pos h3,if_pos (by omega)]
         · rw [if_neg h3,if_neg (by omega)]
   · have hc:=of_decide_eq_false hc
     apply List.ext_getElem
     · rw [List.length_reverse]; exact hsl
     · intro k h1 h2
       have hk:k<l.length:=by omega
       have:=hs k hk
       rw [show s.getD k fd0=s[k] by simp [List.getD,h1]] at this
       rw [this,List.getElem_reverse]
       unfold revAt
       split
       · rw [show l.getD (l.length-1-k) fd0=l[l.length-1-k] by simp [List.getD,show l.length-1-k<l.length by omega]]
       · rw [show l.getD k fd0=l[k] by simp [List.getD,hk]]
         congr 1
         omega
 · dsimp only
   unfold revAt
   rw [if_neg (by simp; omega)]
theorem uce8_ (l:List Fd) (hl:l.length≤100000) (p:List Int) (hp:∀ x∈p,0≤x∧x<(l.length:Int)) (hpl:p.length=l.length) :
 uhk_ (l,p,(p.length:Int),0)=some (p.map fun x=>(l.length:Int)-1-x):=by
 have:Tot (uhk_ (l,p,(p.length:Int),0)) (fun r=>r=p.map fun x=>(l.length:Int)-1-x):=by
  refine ucj_ (R:=fun r:List Int=>r=p.map fun x=>(l.length:Int)-1-x)
   (fun y:List Fd×List Int×Int×Int=>y.1=l∧y.2.2.1=p.length∧0≤y.2.2.2∧y.2.2.2≤p.length∧y.2.1=(p.take y.2.2.2.toNat).map (fun x=>(l.length:Int)-1-x)++p.drop y.2.2.2.toNat)
   (fun y=>((p.length:Int)-y.2.2.2).toNat) ?_ _ _ ⟨rfl,rfl,Int.le_refl _,Int.natCast_nonneg _,by simp⟩ (by unfold fuel; dsimp only; omega)
  rintro next ⟨l',q,n,t⟩ hI hn
  dsimp only at hI hn
  obtain ⟨rfl,rfl,t0,t1,rfl⟩:=hI
  unfold uvn_
  dsimp only
  have hlen:((p.take t.toNat).map (fun x=>(l'.length:Int)-1-x)++p.drop t.toNat).length=p.length:=by simp; omega
  refine u4_.2 ⟨fun hc=>?_,fun hc=>uh_.2 ?_⟩
  · have hc:=of_decide_eq_true hc
    have hlt:t.toNat<p.length:=by omega
    obtain ⟨x0,x1⟩:=hp _ (List.getElem_mem hlt)
    have hdr:p.drop t.toNat=p[t.toNat]::p.drop (t.toNat+1):=List.drop_eq_getElem_cons hlt
    have htl:((p.take t.toNat).map (fun x=>(l'.length:Int)-1-x)).length=t.toNat:=by simp; omega
    have hg:((p.take t.toNat).map (fun x=>(l'.length:Int)-1-x)++p.drop t.toNat).getD t.toNat 0=p[t.toNat]:=by
     rw [List.getD_eq_getElem?_getD,List.getElem?_append_right (by omega),htl,Nat.sub_self,hdr]
     rfl
    rw [ubp_ (n:=t+1) (by omega) (by omega),hg,ubp_ (n:=(l'.length:Int)-1) (by omega) (by omega),ubp_ (n:=(l'.length:Int)-1-p[t.toNat]) (by omega) (by omega)]
    refine ud_.2 (ueg_.2 ⟨⟨t0,by omega⟩,ud_.2 (ueg_.2 ⟨⟨t0,by omega⟩,?_⟩)⟩)
    refine hn _ ⟨rfl,rfl,by dsimp only; omega,by dsimp only; omega,?_⟩ (by dsimp only; omega)
    dsimp only
    rw [show (t+1).toNat=t.toNat+1 by omega,u99_ (List.getElem?_eq_getElem hlt),List.set_append_right _ _ (by omega),htl,Nat.sub_self,hdr,List.map_append,List.append_assoc]
    rfl
  · have hc:=of_decide_eq_false hc
    rw [List.take_of_length_le (by omega),List.drop_eq_nil_of_le (by omega),List.append_nil]
 obtain ⟨r,h1,rfl⟩:=this
 exact h1
end Go.Ev.Pv
namespace Go.Ev.Pv
theorem ub7v_ (l:List Fd) (hl:l.length≤100000):ufo_ l=some l.reverse:=by
 obtain ⟨r,h1,rfl⟩:=ub7u_ l (by omega)
 unfold ufo_
 rw [ubp_ (n:=(l.length:Int)-1) (by omega) (by omega),h1]
 rfl
theorem uccf_ (l:List Fd) (hl:l.length≤100000):ugx_ l=some l:=by
 unfold ugx_ uiy_ app?
 rw [decide_eq_true (by simp only [List.length_nil]; omega)]
 rfl
theorem ucd5_ {a b:Fd} (h:kyOf a≠kyOf b):bfd a b=true∨bfd b a=true:=by
 cases h1:bfd a b with
 | true=>exact .inl rfl
 | false =>
   cases h2:bfd b a with
   | true=>exact .inr rfl
   | false =>
     exfalso
     unfold bfd lexB at h1 h2
     dsimp only at h1 h2
     obtain ⟨a1,a2⟩:=Bool.or_eq_false_iff.1 h1
     obtain ⟨b1,b2⟩:=Bool.or_eq_false_iff.1 h2
     have a1':=of_decide_eq_false a1
     have b1':=of_decide_eq_false b1
     rw [b1] at a2
     rw [a1] at b2
     simp only [Bool.not_false,Bool.true_and] at a2 b2
     obtain ⟨a3,a4⟩:=Bool.or_eq_false_iff.1 a2
     obtain ⟨b3,b4⟩:=Bool.or_eq_false_iff.1 b2
     rw [b3] at a4
     rw [a3] at b4
     simp only [Bool.not_false,Bool.true_and] at a4 b4
     have q:kb (kf (kyOf a)) (kf (kyOf b))=false:=a4
     have q':kb (kf (kyOf b)) (kf (kyOf a))=false:=b4
     exact h (ucd0_ q q')
theorem ucd6_ {l:List Fd} {x:Int} (x0:0≤x) (x1:x<l.length):lg l.reverse x=lg l ((l.length:Int)-1-x):=by
 unfold lg
 have h1:x.toNat<l.reverse.length:=by rw [List.length_reverse]; omega
 have h2:((l.length:Int)-1-x).toNat<l.length:=by omega
 rw [show l.reverse.getD x.toNat fd0=l.reverse[x.toNat] by rw [List.getD_eq_getElem?_getD,List.getElem?_eq_getElem h1]; rfl,show l.getD ((l.length:Int)-1-x).toNat fd0=l[((l.length:Int)-1-x).toNat] by simp [List.getD,h2],List.getElem_reverse]
 congr 1
 omega
theorem ub17_ {n:Nat} {o:List Int} (hp:o.Perm (ul5_ n)):∀ x∈o,0≤x∧x<(n:Int):=fun x hx=>by
 obtain ⟨j,hj,rfl⟩:=List.mem_map.1 (hp.mem_iff.1 hx)
 have:=List.mem_range.1 hj
 omega
theorem uce9_ (n:Nat):((ul5_ n).map fun x=>(n:Int)-1-x).Perm (ul5_ n):=by
 have e:((ul5_ n).map fun x=>(n:Int)-1-x)=(ul5_ n).reverse:=by
  apply List.ext_getElem
  · simp [ul5_]
  · intro i h1 h2
    have hi:i<n:=by simpa [ul5_] using h1
    simp [ul5_]
    omega
 rw [e]
 exact List.reverse_perm _
theorem ub9t_ (l:List Fd) (hnd:(l.map kyOf).Nodup) (o p:List Int) (ho:o.Perm (ul5_ l.length)) (hw:o.Pairwise (ltO bfd l)) (hp:p.Perm (ul5_ l.length)) (hpw:p.Pairwise (ltO bfd l.reverse)) :
 o=p.map fun x=>(l.length:Int)-1-x:=by
 have hpn:p.Nodup:=hp.nodup_iff.2 (List.Pairwise.map _ (fun a b (h:a≠b)=>by omega) List.nodup_range)
 have hw2:(p.map fun x=>(l.length:Int)-1-x).Pairwise (ltO bfd l):=by
  rw [List.pairwise_map]
  have:=List.Pairwise.and hpw hpn
  refine List.Pairwise.imp_of_mem ?_ this
  intro x y hx hy ⟨h1,h2⟩
  obtain ⟨x0,x1⟩:=ub17_ hp x hx
  obtain ⟨y0,y1⟩:=ub17_ hp y hy
  unfold ltO at h1 ⊢
  rw [ucd6_ x0 x1,ucd6_ y0 y1] at h1
  rcases h1 with h1 | ⟨h1,_⟩
  · exact .inl h1
  · left
    have hne:kyOf (lg l ((l.length:Int)-1-x))≠kyOf (lg l ((l.length:Int)-1-y)):=by
     intro e
     have g:∀ z:Int,0≤z→z<l.length→(l.map kyOf)[z.toNat]? = some (kyOf (lg l z)):=fun z z0 z1=>by
      have:=at_lg z0 z1
      unfold at? at this
      rw [decide_eq_true z0] at this
      rw [List.getElem?_map,show l[z.toNat]? = some (lg l z) from this]
      rfl
     have q1:=g _ (show (0:Int)≤(l.length:Int)-1-x by omega) (by omega)
     have q2:=g _ (show (0:Int)≤(l.length:Int)-1-y by omega) (by omega)
     have:=(List.getElem?_inj (by rw [List.length_map]; omega) hnd).1 (q1.trans ((congrArg some e).trans q2.symm))
     omega
    rcases ucd5_ hne with h | h
    · exact h
    · rw [h] at h1; cases h1
 exact List.Perm.eq_of_pairwise (le:=ltO bfd l) (fun a b _ _ g1 g2=>absurd (ucb9_ ub13_ l g1 g2) (ub7q_ ub13_ l a)) hw hw2 (ho.trans ((hp.map _).trans (uce9_ _)).symm)
theorem ub7w_ {a:Fd} (h:okF a):ueh_ a=some 0:=by
 obtain ⟨⟨h1,h2⟩,h3,h4⟩:=h
 unfold ueh_ u69_
 dsimp only
 simp only [decide_eq_false (show ¬ a.2.2.2.1<1 by omega),decide_eq_false (show ¬ 6<a.2.2.2.1 by omega),decide_eq_false (show ¬ a.2.2.2.2.1<0 by omega),decide_eq_false (show ¬ 100<a.2.2.2.2.1 by omega),Bool.or_self,Option.bind_some,cond_false]
theorem ub4k_ (l:List Fd) (hl:l.length≤100000) (hs:∀ a∈l,okF a):ufc_ l=some 0:=by
 have:Tot (ufc_ l) (fun r=>r=0):=by
  unfold ufc_
  refine u4_.2 ⟨fun hc=>absurd (of_decide_eq_true hc) (by omega),fun _=>?_⟩
  refine ud_.2 (Tot.mono (P:=fun r:Sum Unit Int=>r=.inl ()) ?_ fun r hr=>by subst hr; exact uh_.2 rfl)
  refine ucj_ (R:=fun r:Sum Unit Int=>r=.inl ()) (fun y:List Fd×Int=>y.1=l∧0≤y.2∧y.2≤l.length)
   (fun y=>((l.length:Int)-y.2).toNat) ?_ _ _ ⟨rfl,Int.le_refl _,Int.natCast_nonneg _⟩ (by unfold fuel; dsimp only; omega)
  rintro next ⟨l',i⟩ hI hn
  dsimp only at hI hn
  obtain ⟨rfl,i0,i1⟩:=hI
  unfold ufp_
  dsimp only
  refine u4_.2 ⟨fun hc=>?_,fun hc=>uh_.2 rfl⟩
  have hc:=of_decide_eq_true hc
  rw [ubp_ (n:=i+1) (by omega) (by omega)]
  refine ud_.2 (ubiv_.2 ⟨⟨i0,hc⟩,fun a ha=>?_⟩)
  rw [ub7w_ (hs a (ub0i_ ha))]
  refine ud_.2 (uh_.2 (u4_.2 ⟨fun h=>(by simp [uqa_] at h),fun _=>?_⟩))
  exact hn _ ⟨rfl,by dsimp only; omega,by dsimp only; omega⟩ (by dsimp only; omega)
 obtain ⟨r,h1,rfl⟩:=this
 exact h1
theorem law35 (l:List Fd):uq4_ l=some true:=by
 obtain ⟨e,he,h1,h2⟩:=ub0n_ l
 unfold uq4_
 dsimp only
 by_cases h0:e=0
 · obtain ⟨⟨hl,hs⟩,o,ho,hp,hw⟩:=h2 h0
   subst h0
   have hol:o.length=l.length:=by rw [hp.length_eq]; simp [ul5_]
   have hm:mks? 24 (l.length:Int) (l.length:Int) false=some (List.replicate l.length false):=by
    unfold mks?
    rw [decide_eq_true (show (0:Int)≤(l.length:Int) by omega),decide_eq_true (Int.le_refl _),decide_eq_true (show (l.length:Int).toNat*24≤70368744177664 by omega)]
    rfl
   rw [ho]
   simp only [Option.bind_some,uqa_,decide_true,Bool.not_true,cond_false]
   rw [hm]
   simp only [Option.bind_some]
   rw [uce7_ l hl hs o hp hw]
   simp only [Option.bind_some]
   obtain ⟨c,hc,hcs⟩:=ub16_ l he hl (fun a ha=>by have:=(hs a ha).1.1; omega)
   rw [hc]
   simp only [Option.bind_some]
   have hoe:decide ((o.length:Int)=(l.length:Int))=true:=decide_eq_true (by rw [hol])
   rcases hcs with ⟨hnd,c2,c1⟩ | ⟨hnd,c2⟩
   · rw [c2,c1]
     simp only [decide_true,Bool.not_true,Bool.or_self,cond_false]
     rw [uccf_ l hl]
     simp only [Option.bind_some]
     rw [ub7v_ l hl]
     simp only [Option.bind_some]
     obtain ⟨e',he',g1,g2⟩:=ub0n_ l.reverse
     have he0:e'=0:=by
      have:=ub4k_ l.reverse (by rw [List.length_reverse]; exact hl) (fun a ha=>hs a (List.mem_reverse.1 ha))
      rw [he'] at this
      exact Option.some.inj this
     obtain ⟨_,p,hpo,hpp,hpw⟩:=g2 he0
     rw [hpo]
     simp only [Option.bind_some]
     rw [List.length_reverse] at hpp
     have hpl:p.length=l.length:=by rw [hpp.length_eq]; simp [ul5_]
     rw [uce8_ l hl p (ub17_ hpp) hpl,← ub9t_ l hnd o p hp hw hpp hpw]
     simp only [Option.bind_some,hoe,decide_true,Bool.and_self,cond_true,uce4_ o (by omega),ub14_]
   · rw [decide_eq_false c2]
     simp only [Bool.not_false,Bool.true_or,cond_true,hoe,ub14_,Option.bind_some,Bool.and_self]
 · rw [h1 h0]
   simp only [Option.bind_some,uqa_,decide_eq_false h0,Bool.not_false,cond_true,ub14_]
end Go.Ev.Pv
