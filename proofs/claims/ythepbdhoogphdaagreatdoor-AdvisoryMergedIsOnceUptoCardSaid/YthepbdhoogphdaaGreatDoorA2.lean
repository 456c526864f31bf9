/-
  That the plain functions give an answer, second part: versions.
-/
import Derived.Test.YthepbdhoogphdaaGreatDoorA1
import Derived.Sort.AssemblyPlain
set_option linter.unusedVariables false
set_option linter.unusedSimpArgs false
set_option linter.unusedSectionVars false
set_option maxRecDepth 100000
namespace Go.Ev.Pv
theorem ucdr_:∀ (x y:Str),Op.bytesLess x y=decide (x<y):=by
 intro x
 induction x with
 | nil=>intro y; cases y <;> simp [Op.bytesLess]
 | cons a x ih =>
   intro y
   cases y with
   | nil=>simp [Op.bytesLess]
   | cons b y =>
     rw [Op.bytesLess,ih y]
     simp only [List.cons_lt_cons_iff]
     by_cases h1:a<b <;> by_cases h2:a=b <;> by_cases h3:x<y <;> simp [h1,h2,h3]
theorem sirr (a:Str):¬ a<a:=List.lt_irrefl a
theorem ucbb_ {a b c:Str} (h1:a<b) (h2:b<c):a<c:=List.lt_trans h1 h2
theorem stri (a b:Str):a<b∨a=b∨b<a:=by
 by_cases h1:a<b
 · exact Or.inl h1
 · by_cases h2:b<a
   · exact Or.inr (Or.inr h2)
   · exact Or.inr (Or.inl (List.le_antisymm (List.not_lt.1 h2) (List.not_lt.1 h1)))
theorem sntr {a b c:Str} (h1:¬ a<b) (h2:¬ b<c):¬ a<c:=by
 intro h
 rcases stri a b with h3 | h3 | h3
 · exact h1 h3
 · subst h3; exact h2 h
 · exact h2 (ucbb_ h3 h)
theorem sasym {a b:Str} (h1:a<b):¬ b<a:=fun h2=>sirr a (ucbb_ h1 h2)
def cmpS (a b:Str):Int:=if a<b then -1 else if a=b then 0 else 1
theorem ut5_ (a b:Str):udj_ (a,b)=some (cmpS a b):=by
 unfold udj_ umh_ cmpS
 have e:∀ s:Str,eqS s s=true:=fun s=>by rw [uw_]; simp
 simp only [e,Bool.not_true,Option.bind_some,cond_false,ucdr_,uw_]
 by_cases h2:a=b
 · subst h2; simp [sirr]
 · by_cases h1:a<b <;> simp [h1,h2]
theorem ucds_ (a b:Str):cmpS a b<0↔a<b:=by
 unfold cmpS
 by_cases h2:a=b
 · subst h2; simp [sirr]
 · by_cases h1:a<b <;> simp [h1,h2]
def cmpI (a b:Int):Int:=if a<b then -1 else if b<a then 1 else 0
theorem ust_ (a b:Int):ui1_ (a,b)=some (cmpI a b):=by
 unfold ui1_ ubab_ cmpI
 have e:∀ s:Int,eqI s s=true:=fun s=>by rw [ur_]; simp
 simp only [e,Bool.not_true,Option.bind_some,cond_false]
 by_cases h1:a<b <;> by_cases h2:b<a <;> simp [h1,h2]
section
variable {T:Type}
theorem ub3y_ (xs:List T) (F:T×T→Option Int) (h:ubvr_ xs F):Tot (ub40_ xs F) (fun r=>r.Perm xs∧r.Pairwise (fun a b=>∀ c,F (b,a)=some c→0≤c)):=by
 unfold ub40_
 split
 · rename_i h0
   unfold ifB
   rw [decide_eq_true h]
   refine ub_.2 ?_
   letI:Inhabited (Fin xs.length):=⟨⟨0,h0⟩⟩
   have hs:Sort.SWO (ltAt xs F):=⟨h.2.1,h.2.2.1,h.2.2.2⟩
   have hp:=Sort.pdq_sorts (ltAt xs F) hs (Array.ofFn id) 0 xs.length (Lib.bitLen xs.length) true true (Nat.zero_le _) (by simp) (Or.inl rfl)
   have e:ubqs_ xs F h0=Sort.pdq (ltAt xs F) (Array.ofFn id) 0 xs.length (Lib.bitLen xs.length) true true:=ub91_ xs F h0
   rw [e]
   generalize Sort.pdq (ltAt xs F) (Array.ofFn id) 0 xs.length (Lib.bitLen xs.length) true true=d at hp
   obtain ⟨⟨h1,_,h3⟩,h4⟩:=hp
   have hsz:d.size=xs.length:=by rw [h1]; simp
   have e1:d.extract 0 xs.length=d:=by
    have:=Array.extract_size (xs:=d)
    rwa [hsz] at this
   have e2:(Array.ofFn (id:Fin xs.length→Fin xs.length)).extract 0 xs.length=Array.ofFn id:=by
    have:=Array.extract_size (xs:=Array.ofFn (id:Fin xs.length→Fin xs.length))
    rwa [Array.size_ofFn] at this
   rw [e1,e2] at h3
   constructor
   · have h5:=h3.map xs.get
     have e3:(Array.ofFn (id:Fin xs.length→Fin xs.length)).toList.map xs.get=xs:=by
      rw [Array.toList_ofFn,List.map_ofFn]
      apply List.ext_getElem
      · simp
      · intro i h1 h2; simp
     rwa [e3] at h5
   · rw [List.pairwise_map,List.pairwise_iff_getElem]
     intro i j hi hj hij c hc
     have hl:d.toList.length=xs.length:=by rw [Array.length_toList]; exact hsz
     have h6:=h4 i j (Nat.zero_le _) hij (by omega)
     rw [getElem!_pos d i (by omega),getElem!_pos d j (by omega)] at h6
     unfold ltAt cfAt at h6
     rw [Array.getElem_toList,Array.getElem_toList] at hc
     rw [hc] at h6
     simpa using h6
 · rename_i h0
   have:xs=[]:=List.length_eq_zero_iff.1 (by omega)
   subst this
   exact ub_.2 ⟨List.Perm.refl _,List.Pairwise.nil⟩
theorem ub82_ (xs:List T) (F:T×T→Option Int) (key:T→Str) (hF:∀ a b,F (a,b)=some (cmpS (key a) (key b))):ubvr_ xs F:=by
 have e:∀ i j,ltAt xs F i j=decide (key (xs.get i)<key (xs.get j)):=by
  intro i j
  unfold ltAt cfAt
  rw [hF]
  simp [ucds_]
 refine ⟨fun i j=>by rw [hF]; rfl,fun i=>?_,fun i j k=>?_,fun i j k=>?_⟩
 · rw [e]; simp [sirr]
 · rw [e,e,e]; simp only [decide_eq_true_eq]; exact ucbb_
 · rw [e,e,e]; simp only [decide_eq_false_iff_not]; exact sntr
theorem ucdt_ (xs:List T) (F:T×T→Option Int) (key:T→Str) (hF:∀ a b,F (a,b)=some (cmpS (key a) (key b))) :
 Tot (ub40_ xs F) (fun r=>r.Perm xs∧r.Pairwise (fun a b=>¬ key b<key a)) :=
 (ub3y_ xs F (ub82_ xs F key hF)).mono fun r hr=>⟨hr.1,hr.2.imp fun {a b} h hlt=>by
  have:=h _ (hF b a)
  have:=(ucds_ (key b) (key a)).2 hlt
  omega⟩
end
abbrev Edge:=Int×Str×Bool×Str
abbrev ubm4_:=Edge×Edge
def eo (a b:Edge):Int:=if a.1≠b.1∨a.1≠0 then cmpI a.1 b.1 else if cmpS a.2.1 b.2.1≠0∨a.2.2.1=b.2.2.1 then cmpS a.2.1 b.2.1 else if a.2.2.1 then 1 else -1
theorem u5w_ (a b:Edge):ufb_ (a,b)=some (eo a b):=by
 unfold ufb_ eo
 dsimp only
 rw [ust_,ut5_]
 simp only [Option.bind_some,ur_]
 by_cases h1:a.1=b.1
 · by_cases h2:a.1=0
   · have hb:eqB a.2.2.1 b.2.2.1=decide (a.2.2.1=b.2.2.1):=by cases a.2.2.1 <;> cases b.2.2.1 <;> rfl
     rw [hb]
     by_cases h3:cmpS a.2.1 b.2.1=0 <;> by_cases h4:a.2.2.1=b.2.2.1 <;> simp [← h1,h2,h3,h4] <;> (cases a.2.2.1 <;> simp)
   · simp [← h1,h2]
 · simp [h1]
def elt (a b:Edge):Prop:=a.1<b.1∨(a.1=b.1∧a.1=0∧(a.2.1<b.2.1∨(a.2.1=b.2.1∧a.2.2.1=false∧b.2.2.1=true)))
theorem ucjq_ (a b:Edge):eo a b<0↔elt a b:=by
 unfold eo elt cmpI
 by_cases h1:a.1=b.1
 · by_cases h2:a.1=0
   · have hb:b.1=0:=by omega
     have g1:¬ (a.1≠b.1∨a.1≠0):=by omega
     rw [if_neg g1]
     rcases stri a.2.1 b.2.1 with h3 | h3 | h3
     · have:cmpS a.2.1 b.2.1 = -1:=by unfold cmpS; rw [if_pos h3]
       rw [this]; simp [h1,hb,h3]
     · have:cmpS a.2.1 b.2.1=0:=by unfold cmpS; rw [if_neg (by rw [h3]; exact sirr _),if_pos h3]
       rw [this,h3]
       cases ha:a.2.2.1 <;> cases hb':b.2.2.1 <;> simp [h1,hb,sirr]
     · have e:¬ a.2.1=b.2.1:=fun e=>by rw [e] at h3; exact sirr _ h3
       have:cmpS a.2.1 b.2.1=1:=by unfold cmpS; rw [if_neg (sasym h3),if_neg e]
       rw [this]; simp [h1,hb,sasym h3,e]
   · have hb:¬ b.1=0:=by omega
     simp [h1,hb]
 · simp only [ne_eq,h1,not_false_eq_true,true_or,if_true,false_and,or_false]
   by_cases h2:a.1<b.1
   · simp [h2]
   · by_cases h3:b.1<a.1
     · simp [h2,h3]
     · omega
instance (a b:Edge):Decidable (elt a b):=by unfold elt; infer_instance
theorem ucjr_ (a:Edge):¬ elt a a:=by
 rintro (h | ⟨_,_,h | ⟨_,h1,h2⟩⟩)
 · omega
 · exact sirr _ h
 · rw [h1] at h2; cases h2
theorem ucfs_ {a b c:Edge} (h1:elt a b) (h2:elt b c):elt a c:=by
 unfold elt at *
 rcases h1 with h1 | ⟨p1,p2,p3⟩
 · rcases h2 with h2 | ⟨q1,q2,q3⟩ <;> exact Or.inl (by omega)
 · rcases h2 with h2 | ⟨q1,q2,q3⟩
   · exact Or.inl (by omega)
   · refine Or.inr ⟨by omega,p2,?_⟩
     rcases p3 with p3 | ⟨p3,p4,p5⟩
     · rcases q3 with q3 | ⟨q3,q4,q5⟩
       · exact Or.inl (ucbb_ p3 q3)
       · exact Or.inl (q3▸p3)
     · rcases q3 with q3 | ⟨q3,q4,q5⟩
       · exact Or.inl (p3▸q3)
       · rw [p5] at q4; cases q4
theorem ucjs_ {a b c:Edge} (h1:¬ elt a b) (h2:¬ elt b c):¬ elt a c:=by
 intro h
 unfold elt at *
 simp only [not_or,not_and] at h1 h2
 obtain ⟨a1,a2⟩:=h1
 obtain ⟨b1,b2⟩:=h2
 rcases h with h | ⟨p1,p2,p3⟩
 · omega
 · have e1:a.1=b.1:=by omega
   have e2:b.1=c.1:=by omega
   obtain ⟨a3,a4⟩:=a2 e1 p2
   obtain ⟨b3,b4⟩:=b2 e2 (by omega)
   rcases p3 with p3 | ⟨p3,p4,p5⟩
   · exact sntr a3 b3 p3
   · rcases stri a.2.1 b.2.1 with g | g | g
     · exact a3 g
     · have g2:b.2.1=c.2.1:=g▸p3
       have:=a4 g p4
       have:=b4 g2 (by cases hb:b.2.2.1 <;> simp_all)
       exact this p5
     · exact b3 (p3▸g)
theorem ucdu_ (xs:List ubm4_):Tot (uhd_ (xs,fun x=>(uf5_ x).bind fun r=>some r)) (fun r=>r.Perm xs∧r.Pairwise fun a b=>¬ elt b.1 a.1):=by
 have hF:∀ a b:ubm4_,(uf5_ (a,b)).bind (fun r=>some r)=some (eo a.1 b.1):=by
  intro a b
  unfold uf5_
  dsimp only
  rw [u5w_]
  rfl
 have e:∀ i j,ltAt xs (fun x=>(uf5_ x).bind fun r=>some r) i j=decide (elt (xs.get i).1 (xs.get j).1):=by
  intro i j
  unfold ltAt cfAt
  show decide ((((uf5_ (xs.get i,xs.get j)).bind fun r=>some r).getD 0)<0)=_
  rw [hF]
  simp only [Option.getD_some]
  exact decide_eq_decide.2 (ucjq_ _ _)
 have hs:ubvr_ xs (fun x=>(uf5_ x).bind fun r=>some r):=by
  refine ⟨fun i j=>by show ((uf5_ (xs.get i,xs.get j)).bind fun r=>some r).isSome=true; rw [hF]; rfl,fun i=>?_,fun i j k=>?_,fun i j k=>?_⟩
  · rw [e]; simp [ucjr_]
  · rw [e,e,e]; simp only [decide_eq_true_eq]; exact ucfs_
  · rw [e,e,e]; simp only [decide_eq_false_iff_not]; exact ucjs_
 refine (ub3y_ xs _ hs).mono fun r hr=>⟨hr.1,hr.2.imp fun {a b} h hlt=>?_⟩
 have:=h _ (hF b a)
 have:=(ucjq_ b.1 a.1).2 hlt
 omega
end Go.Ev.Pv
namespace Go.Ev.Pv
abbrev Af:=Str×Int×YY25×(List Str)×(List Str)
abbrev Adv:=Str×(List Str)×Str×Int×Bool×Str×(List Af)
abbrev Bnd:=Bool×Bool×Str
abbrev Spn:=Bnd×Bnd
def AfB (a:Af):Prop:=a.1.length≤1048576∧a.2.2.1.length≤1048576∧(∀ v∈a.2.2.1,v.2.length≤1048576)∧a.2.2.2.1.length≤1048576∧(∀ s∈a.2.2.2.1,s.length≤1048576)∧a.2.2.2.2.length≤1048576∧(∀ s∈a.2.2.2.2,s.length≤1048576)
def AfK (a:Af):Prop:=a.2.2.1.length≤100∧(∀ v∈a.2.2.1,1≤v.1∧v.1≤3)∧a.2.2.2.1.length≤500
def AdB (a:Adv):Prop:=a.1.length≤1048576∧a.2.1.length≤1048576∧(∀ s∈a.2.1,s.length≤1048576)∧a.2.2.1.length≤1048576∧a.2.2.2.2.2.1.length≤1048576∧a.2.2.2.2.2.2.length≤1048576∧∀ x∈a.2.2.2.2.2.2,AfB x
abbrev SpB (s:Spn):Prop:=s.1.2.2.length≤100∧s.2.2.2.length≤100
abbrev StB (s:ubm4_):Prop:=s.1.2.2.2.length≤100∧s.2.2.2.2.length≤100
theorem uio_ {α:Type} {l:List α} {i:Nat} {x:α} (h:l[i]? = some x):x∈l:=List.mem_of_getElem? h
theorem ubu6_ (x:Int×Int) (h:True):Tot (ui1_ x) fun _=>True:=⟨_,ust_ x.1 x.2,trivial⟩
theorem ur1_ (x:Edge×Edge) (h:True):Tot (ufb_ x) fun _=>True:=⟨_,u5w_ x.1 x.2,trivial⟩
end Go.Ev.Pv
namespace Go.Ev.Pv
theorem ujv_ (x:Str) (h:x.length≤1048576):Tot (uf2_ x) (fun r:Int×Bool=>0≤r.1∧r.1≤999999999999999999):=by
 unfold uf2_
 repeat' first
  | (with_reducible first | refine ug_.2 ⟨fun _=>?_,fun _=>?_⟩ | refine ua_.2 ?_ | refine ub_.2 ?_ | refine u1_.2 ⟨?_,fun _ _=>?_⟩ | refine (ucc_ _ ?_).mono fun _ _=>?_)
  | dsimp only
 all_goals grind [un_,uh_,uc_,uw_,ur_,u3_,u2_,u8le,uj_,ue_,uy_,ut_,uz_,xlc,xln,xmt,xmd]
theorem uuw_ (x:Int) (h:True):Tot (ukk_ x) (fun r:Bool=>True):=by
 unfold ukk_
 repeat' first
  | (with_reducible first | refine ug_.2 ⟨fun _=>?_,fun _=>?_⟩ | refine ua_.2 ?_ | refine ub_.2 ?_ | refine (us_ _ ?_).mono fun _ _=>?_ | refine (u8_ _ ?_).mono fun _ _=>?_)
  | dsimp only
 all_goals grind [un_,uh_,uc_,uw_,ur_,u3_,u2_,u8le,uj_,ue_,uy_,ut_,uz_,xlc,xln,xmt,xmd]
theorem ubch_ (x:(List Str)×Int×Int) (h:0≤x.2.2∧x.2.2≤x.2.1∧x.2.1=x.1.length∧x.2.1≤281474976710656∧∀ s∈x.1,s.length≤1000):Tot (uq1_ x) (fun r:Sum (Unit) YY30=>∀ y,r=.inr y→y.1=[]∧y.2=false):=by
 refine uq_ (R:=fun r:Sum (Unit) YY30=>∀ y,r=.inr y→y.1=[]∧y.2=false) (fun y:(List Str)×Int×Int=>(0≤y.2.2∧y.2.2≤y.2.1∧y.2.1=y.1.length∧y.2.1≤281474976710656∧∀ s∈y.1,s.length≤1000)) (fun y:(List Str)×Int×Int=>(y.2.1-y.2.2).toNat) ?_ _ _ (by grind) (by unfold fuel; grind)
 rintro next ⟨t9,t10,t11⟩ h hn
 try dsimp only at h hn
 unfold u2a_
 repeat' first
  | (with_reducible first | refine ug_.2 ⟨fun _=>?_,fun _=>?_⟩ | refine ua_.2 ?_ | refine ub_.2 ?_ | refine u1_.2 ⟨?_,fun _ _=>?_⟩ | refine (uuw_ _ ?_).mono fun _ _=>?_ | refine (ude_ _ ?_ ?_).mono fun _ _=>?_)
  | exact fun c=>clo (us_ c trivial)
  | exact fun c=>clo (u8_ c trivial)
  | exact fun c=>clo (uuw_ c trivial)
  | with_reducible refine hn _ ?_ ?_
  | dsimp only
 all_goals grind [un_,uh_,uc_,uw_,ur_,u3_,u2_,u8le,uj_,ue_,uy_,ut_,uz_,xlc,xln,xmt,xmd]
theorem u0k_ (x:Str) (h:x.length≤1000):Tot (ukl_ x) (fun r:(List Str)×Bool=>LS r.1):=by
 unfold ukl_
 repeat' first
  | (with_reducible first | refine ua_.2 ?_ | refine ub_.2 ?_ | refine (ubim_ _ ?_).mono fun _ _=>?_ | refine (ubch_ _ ?_).mono fun _ _=>?_)
  | split
  | dsimp only
 all_goals grind [un_,uh_,uc_,uw_,ur_,u3_,u2_,u8le,uj_,ue_,uy_,ut_,uz_,xlc,xln,xmt,xmd]
theorem ubj4_ (x:(List Str)×Int×Int) (h:0≤x.2.2∧x.2.2≤x.2.1∧x.2.1=x.1.length∧x.2.1≤281474976710656∧∀ s∈x.1,s.length≤1000):Tot (uxb_ x) (fun r:Sum (Unit) YY30=>∀ y,r=.inr y→y.1=[]∧y.2=false):=by
 refine uq_ (R:=fun r:Sum (Unit) YY30=>∀ y,r=.inr y→y.1=[]∧y.2=false) (fun y:(List Str)×Int×Int=>(0≤y.2.2∧y.2.2≤y.2.1∧y.2.1=y.1.length∧y.2.1≤281474976710656∧∀ s∈y.1,s.length≤1000)) (fun y:(List Str)×Int×Int=>(y.2.1-y.2.2).toNat) ?_ _ _ (by grind) (by unfold fuel; grind)
 rintro next ⟨t15,t16,t17⟩ h hn
 try dsimp only at h hn
 unfold u98_
 repeat' first
  | (with_reducible first | refine ug_.2 ⟨fun _=>?_,fun _=>?_⟩ | refine ua_.2 ?_ | refine ub_.2 ?_ | refine u1_.2 ⟨?_,fun _ _=>?_⟩ | refine (us_ _ ?_).mono fun _ _=>?_ | refine (ujv_ _ ?_).mono fun _ _=>?_ | refine (ude_ _ ?_ ?_).mono fun _ _=>?_)
  | exact fun c=>clo (us_ c trivial)
  | exact fun c=>clo (u8_ c trivial)
  | with_reducible refine hn _ ?_ ?_
  | dsimp only
 all_goals grind [un_,uh_,uc_,uw_,ur_,u3_,u2_,u8le,uj_,ue_,uy_,ut_,uz_,xlc,xln,xmt,xmd]
theorem ubsm_ (x:Str) (h:x.length≤1000):Tot (uxc_ x) (fun r:(List Str)×Bool=>LS r.1):=by
 unfold uxc_
 repeat' first
  | (with_reducible first | refine ua_.2 ?_ | refine ub_.2 ?_ | refine (u0k_ _ ?_).mono fun _ _=>?_ | refine (ubj4_ _ ?_).mono fun _ _=>?_)
  | split
  | dsimp only
 all_goals grind [un_,uh_,uc_,uw_,ur_,u3_,u2_,u8le,uj_,ue_,uy_,ut_,uz_,xlc,xln,xmt,xmd]
theorem ub12_ (x:Str) (h:x.length≤1000):Tot (ubfd_ x) (fun r:(List Str)×Bool=>LS r.1):=by
 unfold ubfd_
 repeat' first
  | (with_reducible first | refine ug_.2 ⟨fun _=>?_,fun _=>?_⟩ | refine ua_.2 ?_ | refine ub_.2 ?_ | refine u1_.2 ⟨?_,fun _ _=>?_⟩ | refine us8_.2 ⟨?_,?_⟩ | refine (ubqq_ _ ?_).mono fun _ _=>?_ | refine (u0k_ _ ?_).mono fun _ _=>?_ | refine (ubsm_ _ ?_).mono fun _ _=>?_)
  | dsimp only
 all_goals grind [un_,uh_,uc_,uw_,ur_,u3_,u2_,u8le,uj_,ue_,uy_,ut_,uz_,xlc,xln,xmt,xmd]
theorem ubey_ (x:Str×Int×Bool) (h:0≤x.2.1∧x.2.1≤x.1.length∧x.1.length≤1000):Tot (uly_ x) (fun r:Sum (Int) (YY3×Bool)=>(∀ y,r=.inl y→0≤y∧y≤x.1.length)∧∀ y,r=.inr y→y.2=false):=by
 obtain ⟨s_0,at_5,t16⟩:=x
 try dsimp only at h ⊢
 unfold uly_
 repeat' first
  | (with_reducible first | refine ug_.2 ⟨fun _=>?_,fun _=>?_⟩ | refine ua_.2 ?_ | refine ub_.2 ?_ | refine u1_.2 ⟨?_,fun _ _=>?_⟩)
  | dsimp only
 all_goals grind [un_,uh_,uc_,uw_,ur_,u3_,u2_,u8le,uj_,ue_,uy_,ut_,uz_,xlc,xln,xmt,xmd]
theorem ubez_ (x:Str×YY28×Int×Int) (h:0≤x.2.2.2∧x.2.2.2≤3∧0≤x.2.2.1∧x.2.2.1≤x.1.length∧x.1.length≤1000∧x.2.1.1.length=3∧(∀ n∈x.2.1.1,0≤n∧n≤999999999999999999)):Tot (utb_ x) (fun r:Sum (YY28×Int) (YY3×Bool)=>(∀ y,r=.inl y→y.1.1.length=3∧(∀ n∈y.1.1,0≤n∧n≤999999999999999999)∧0≤y.2∧y.2≤x.1.length)∧∀ y,r=.inr y→y.2=false):=by
 refine uq_ (R:=fun r:Sum (YY28×Int) (YY3×Bool)=>(∀ y,r=.inl y→y.1.1.length=3∧(∀ n∈y.1.1,0≤n∧n≤999999999999999999)∧0≤y.2∧y.2≤x.1.length)∧∀ y,r=.inr y→y.2=false) (fun y:Str×YY28×Int×Int=>(0≤y.2.2.2∧y.2.2.2≤3∧0≤y.2.2.1∧y.2.2.1≤y.1.length∧y.1.length≤1000∧y.2.1.1.length=3∧(∀ n∈y.2.1.1,0≤n∧n≤999999999999999999))∧y.1=x.1) (fun y:Str×YY28×Int×Int=>(3-y.2.2.2).toNat) ?_ _ _ (by grind) (by unfold fuel; grind)
 rintro next ⟨s_0,v_4,at_5,t12⟩ h hn
 try dsimp only at h hn
 unfold u4p_
 repeat' first
  | (with_reducible first | refine ug_.2 ⟨fun _=>?_,fun _=>?_⟩ | refine ua_.2 ?_ | refine ub_.2 ?_ | refine ucf_.2 ⟨?_,?_⟩ | refine us8_.2 ⟨?_,?_⟩ | refine (ubey_ _ ?_).mono fun _ _=>?_ | refine (us_ _ ?_).mono fun _ _=>?_ | refine (ujv_ _ ?_).mono fun _ _=>?_ | refine (ude_ _ ?_ ?_).mono fun _ _=>?_)
  | exact fun c=>clo (us_ c trivial)
  | exact fun c=>clo (u8_ c trivial)
  | with_reducible refine hn _ ?_ ?_
  | split
  | dsimp only
 all_goals grind [un_,uh_,uc_,uw_,ur_,u3_,u2_,u8le,uj_,ue_,uy_,ut_,uz_,xlc,xln,xmt,xmd]
theorem ubm5_ (x:Str) (h:x.length≤1000):Tot (ur5_ x) (fun r:YY3×Bool=>r.2=true→VOK r.1):=by
 unfold ur5_
 repeat' first
  | (with_reducible first | refine ua_.2 ?_ | refine ub_.2 ?_ | refine us8_.2 ⟨?_,?_⟩ | refine (ubez_ _ ?_).mono fun _ _=>?_ | refine (ub12_ _ ?_).mono fun _ _=>?_)
  | split
  | dsimp only
 all_goals grind [un_,uh_,uc_,uw_,ur_,u3_,u2_,u8le,uj_,ue_,uy_,ut_,uz_,xlc,xln,xmt,xmd,vok_d]
theorem uux_ (x:Int) (h:True):Tot (ukm_ x) (fun r:Bool=>True):=by
 unfold ukm_
 repeat' first
  | (with_reducible first | refine ug_.2 ⟨fun _=>?_,fun _=>?_⟩ | refine ua_.2 ?_ | refine ub_.2 ?_ | refine (us_ _ ?_).mono fun _ _=>?_ | refine (u8_ _ ?_).mono fun _ _=>?_ | refine (uin_ _ ?_).mono fun _ _=>?_)
  | dsimp only
 all_goals grind [un_,uh_,uc_,uw_,ur_,u3_,u2_,u8le,uj_,ue_,uy_,ut_,uz_,xlc,xln,xmt,xmd]
theorem ubhc_ (x:Str×Int) (h:0≤x.2∧x.2≤x.1.length∧x.1.length≤1000):Tot (uvg_ x) (fun r:Sum (Unit) (Bool)=>True):=by
 refine uq_ (R:=fun r:Sum (Unit) (Bool)=>True) (fun y:Str×Int=>(0≤y.2∧y.2≤y.1.length∧y.1.length≤1000)∧y.1=x.1) (fun y:Str×Int=>(y.1.length-y.2:Int).toNat) ?_ _ _ (by grind) (by unfold fuel; grind)
 rintro next ⟨s_0,at_3⟩ h hn
 try dsimp only at h hn
 unfold u6v_
 repeat' first
  | (with_reducible first | refine ug_.2 ⟨fun _=>?_,fun _=>?_⟩ | refine ua_.2 ?_ | refine ub_.2 ?_ | refine (us_ _ ?_).mono fun _ _=>?_ | refine (ude_ _ ?_ ?_).mono fun _ _=>?_)
  | exact fun c=>clo (us_ c trivial)
  | exact fun c=>clo (u8_ c trivial)
  | with_reducible refine hn _ ?_ ?_
  | dsimp only
 all_goals grind [un_,uh_,uc_,uw_,ur_,u3_,u2_,u8le,uj_,ue_,uy_,ut_,uz_,xlc,xln,xmt,xmd,maxI]
theorem ubpn_ (x:Str) (h:x.length≤1000):Tot (uu1_ x) (fun r:Bool=>True):=by
 unfold uu1_
 repeat' first
  | (with_reducible first | refine ua_.2 ?_ | refine ub_.2 ?_ | refine (ubhc_ _ ?_).mono fun _ _=>?_)
  | split
  | dsimp only
 all_goals grind [un_,uh_,uc_,uw_,ur_,u3_,u2_,u8le,uj_,ue_,uy_,ut_,uz_,xlc,xln,xmt,xmd]
theorem ubci_ (x:Str×YY33×Str×Str×Bool) (h:x.1.length≤1000∧x.2.2.2.1.length≤1000∧x.2.2.1.length≤1000∧x.2.1.1=0):Tot (ukn_ x) (fun r:Sum (Str×YY33) (YY3×Bool)=>(∀ y,r=.inl y→y.1.length≤1000∧0≤y.2.1∧y.2.1≤999999999999999999∧y.2.2=x.2.1.2)∧∀ y,r=.inr y→y.2=false):=by
 obtain ⟨s_0,v_4,epoch_5,rest_6,t18⟩:=x
 try dsimp only at h ⊢
 unfold ukn_
 repeat' first
  | (with_reducible first | refine ug_.2 ⟨fun _=>?_,fun _=>?_⟩ | refine ua_.2 ?_ | refine ub_.2 ?_ | refine (ujv_ _ ?_).mono fun _ _=>?_)
  | dsimp only
 all_goals grind [un_,uh_,uc_,uw_,ur_,u3_,u2_,u8le,uj_,ue_,uy_,ut_,uz_,xlc,xln,xmt,xmd]
set_option maxHeartbeats 4000000 in
theorem ubj5_ (x:Str) (h:x.length≤1000):Tot (uqg_ x) (fun r:YY3×Bool=>r.2=true→VOK r.1):=by
 unfold uqg_
 repeat' first
  | (with_reducible first | refine ug_.2 ⟨fun _=>?_,fun _=>?_⟩ | refine ua_.2 ?_ | refine ub_.2 ?_ | refine u1_.2 ⟨?_,fun _ _=>?_⟩ | refine us8_.2 ⟨?_,?_⟩ | refine (ubqq_ _ ?_).mono fun _ _=>?_ | refine (ubci_ _ ?_).mono fun _ _=>?_ | refine (us_ _ ?_).mono fun _ _=>?_ | refine (uux_ _ ?_).mono fun _ _=>?_ | refine (ubpn_ _ ?_).mono fun _ _=>?_ | refine (ubex_ _ ?_).mono fun _ _=>?_ | refine (uin_ _ ?_).mono fun _ _=>?_ | refine (ude_ _ ?_ ?_).mono fun _ _=>?_)
  | exact fun c=>clo (us_ c trivial)
  | exact fun c=>clo (u8_ c trivial)
  | exact fun c=>clo (uux_ c trivial)
  | split
  | dsimp only
 all_goals grind [un_,uh_,uc_,uw_,ur_,u3_,u2_,u8le,uj_,ue_,uy_,ut_,uz_,xlc,xln,xmt,xmd,vok_r]
theorem ubhd_ (x:Str×(List Int)) (h:x.1.length≤1000∧x.2.length+x.1.length≤1001∧(∀ n∈x.2,0≤n∧n≤999999999999999999)):Tot (uvh_ x) (fun r:(List Int)×Str×Bool=>NS r.1∧r.2.1.length≤1000):=by
 refine uq_ (R:=fun r:(List Int)×Str×Bool=>NS r.1∧r.2.1.length≤1000) (fun y:Str×(List Int)=>(y.1.length≤1000∧y.2.length+y.1.length≤1001∧(∀ n∈y.2,0≤n∧n≤999999999999999999))) (fun y:Str×(List Int)=>y.1.length) ?_ _ _ (by grind) (by unfold fuel; grind)
 rintro next ⟨s_0,out_5⟩ h hn
 try dsimp only at h hn
 unfold u6w_
 repeat' first
  | (with_reducible first | refine ug_.2 ⟨fun _=>?_,fun _=>?_⟩ | refine ua_.2 ?_ | refine ub_.2 ?_ | refine u1_.2 ⟨?_,fun _ _=>?_⟩ | refine us8_.2 ⟨?_,?_⟩ | refine ule_.2 ⟨?_,?_⟩ | refine (us_ _ ?_).mono fun _ _=>?_ | refine (ucc_ _ ?_).mono fun _ _=>?_ | refine (ude_ _ ?_ ?_).mono fun _ _=>?_)
  | exact fun c=>clo (us_ c trivial)
  | exact fun c=>clo (u8_ c trivial)
  | with_reducible refine hn _ ?_ ?_
  | dsimp only
 all_goals grind [un_,uh_,uc_,uw_,ur_,u3_,u2_,u8le,uj_,ue_,uy_,ut_,uz_,xlc,xln,xmt,xmd]
theorem ubpo_ (x:Str) (h:x.length≤1000):Tot (uu2_ x) (fun r:(List Int)×Str×Bool=>NS r.1∧r.2.1.length≤1000):=by
 unfold uu2_
 repeat' first
  | (with_reducible first | refine ua_.2 ?_ | refine ub_.2 ?_ | refine (ubhd_ _ ?_).mono fun _ _=>?_)
  | dsimp only
 all_goals grind [un_,uh_,uc_,uw_,ur_,u3_,u2_,u8le,uj_,ue_,uy_,ut_,uz_,xlc,xln,xmt,xmd]
theorem ubxi_ (x:Str×YY37) (h:∀ c,Tot (x.2 c) fun _=>True):Tot (uxd_ x) (fun r:Int=>0≤r∧r≤1∧r≤x.1.length):=by
 obtain ⟨s_0,is_1⟩:=x
 try dsimp only at h ⊢
 unfold uxd_
 repeat' first
  | (with_reducible first | refine ug_.2 ⟨fun _=>?_,fun _=>?_⟩ | refine ua_.2 ?_ | refine ub_.2 ?_ | refine u1_.2 ⟨?_,fun _ _=>?_⟩ | refine (ubxh_ _ ?_).mono fun _ _=>?_ | refine (h _).mono fun _ _=>?_)
  | dsimp only
 all_goals grind [un_,uh_,uc_,uw_,ur_,u3_,u2_,u8le,uj_,ue_,uy_,ut_,uz_,xlc,xln,xmt,xmd]
theorem ubhe_ (x:Str×Str×(List Str)×Int×Int) (h:0≤x.2.2.2.2∧x.2.2.2.2≤x.2.2.2.1∧x.2.2.2.1=x.2.2.1.length∧x.2.2.2.1≤281474976710656∧x.2.1=[]):Tot (uvi_ x) (fun r:Str=>r.length≤x.1.length):=by
 refine uq_ (R:=fun r:Str=>r.length≤x.1.length) (fun y:Str×Str×(List Str)×Int×Int=>(0≤y.2.2.2.2∧y.2.2.2.2≤y.2.2.2.1∧y.2.2.2.1=y.2.2.1.length∧y.2.2.2.1≤281474976710656∧y.2.1=[])∧y.1=x.1∧y.2.1=x.2.1) (fun y:Str×Str×(List Str)×Int×Int=>(y.2.2.2.1-y.2.2.2.2).toNat) ?_ _ _ (by grind) (by unfold fuel; grind)
 rintro next ⟨s_0,word_2,t7,t8,t9⟩ h hn
 try dsimp only at h hn
 unfold u6x_
 repeat' first
  | (with_reducible first | refine ug_.2 ⟨fun _=>?_,fun _=>?_⟩ | refine ua_.2 ?_ | refine ub_.2 ?_ | refine u1_.2 ⟨?_,fun _ _=>?_⟩ | refine (ubpl_ _ ?_).mono fun _ _=>?_ | refine hn _ ?_ ?_)
  | dsimp only
 all_goals grind [un_,uh_,uc_,uw_,ur_,u3_,u2_,u8le,uj_,ue_,uy_,ut_,uz_,xlc,xln,xmt,xmd]
theorem ubhf_ (x:Str×Bool) (h:True):Tot (unz_ x) (fun r:Bool=>True):=by
 obtain ⟨t18,t21⟩:=x
 try dsimp only at h ⊢
 unfold unz_
 repeat' first
  | (with_reducible first | refine ug_.2 ⟨fun _=>?_,fun _=>?_⟩ | refine ub_.2 ?_)
  | dsimp only
 all_goals grind [un_,uh_,uc_,uw_,ur_,u3_,u2_,u8le,uj_,ue_,uy_,ut_,uz_,xlc,xln,xmt,xmd]
theorem ubhg_ (x:Str×Bool) (h:True):Tot (un0_ x) (fun r:Bool=>True):=by
 obtain ⟨t18,t25⟩:=x
 try dsimp only at h ⊢
 unfold un0_
 repeat' first
  | (with_reducible first | refine ug_.2 ⟨fun _=>?_,fun _=>?_⟩ | refine ub_.2 ?_)
  | dsimp only
 all_goals grind [un_,uh_,uc_,uw_,ur_,u3_,u2_,u8le,uj_,ue_,uy_,ut_,uz_,xlc,xln,xmt,xmd]
theorem ubhh_ (x:Str×Bool) (h:True):Tot (un1_ x) (fun r:Bool=>True):=by
 obtain ⟨t18,t29⟩:=x
 try dsimp only at h ⊢
 unfold un1_
 repeat' first
  | (with_reducible first | refine ug_.2 ⟨fun _=>?_,fun _=>?_⟩ | refine ub_.2 ?_)
  | dsimp only
 all_goals grind [un_,uh_,uc_,uw_,ur_,u3_,u2_,u8le,uj_,ue_,uy_,ut_,uz_,xlc,xln,xmt,xmd]
theorem ubpp_ (x:Str) (h:True):Tot (uu3_ x) (fun r:Str×Int×Int=>x.length≤281474976710656→r.1.length≤x.length∧(r.1≠[]→1≤r.2.1)∧r.2.1≤3∧0≤r.2.2∧r.2.2≤3):=by
 unfold uu3_
 repeat' first
  | (with_reducible first | refine ug_.2 ⟨fun _=>?_,fun _=>?_⟩ | refine ua_.2 ?_ | refine ub_.2 ?_ | refine (ubhe_ _ ?_).mono fun _ _=>?_ | refine (ubhf_ _ ?_).mono fun _ _=>?_ | refine (ubhg_ _ ?_).mono fun _ _=>?_ | refine (ubhh_ _ ?_).mono fun _ _=>?_)
  | dsimp only
 all_goals grind [un_,uh_,uc_,uw_,ur_,u3_,u2_,u8le,uj_,ue_,uy_,ut_,uz_,xlc,xln,xmt,xmd]
theorem u9r_ (x:Str×Int×Int×Bool) (h:0≤x.2.2.1∧x.2.2.1≤x.1.length∧x.1.length≤1000∧0≤x.2.1∧x.2.1≤999999999999999999):Tot (uji_ x) (fun r:Sum (Str×Int) (Str×Bool)=>(∀ y,r=.inl y→y.1.length≤x.1.length∧0≤y.2∧y.2≤999999999999999999)∧∀ y,r=.inr y→y.2=false∧y.1=[]):=by
 obtain ⟨rest_7,n_11,k_12,t49⟩:=x
 try dsimp only at h ⊢
 unfold uji_
 repeat' first
  | (with_reducible first | refine ug_.2 ⟨fun _=>?_,fun _=>?_⟩ | refine ua_.2 ?_ | refine ub_.2 ?_ | refine us8_.2 ⟨?_,?_⟩ | refine (us_ _ ?_).mono fun _ _=>?_ | refine (ucc_ _ ?_).mono fun _ _=>?_ | refine (ude_ _ ?_ ?_).mono fun _ _=>?_)
  | exact fun c=>clo (us_ c trivial)
  | exact fun c=>clo (u8_ c trivial)
  | dsimp only
 all_goals grind [un_,uh_,uc_,uw_,ur_,u3_,u2_,u8le,uj_,ue_,uy_,ut_,uz_,xlc,xln,xmt,xmd]
set_option maxHeartbeats 1000000 in
theorem u9s_ (x:YY9×Str×Int) (h:x.2.1.length≤1000∧0≤x.2.2∧x.2.2≤3∧SOK x.1):Tot (upr_ x) (fun r:YY9×Str×Bool=>SOK r.1∧r.2.1.length≤1000):=by
 refine uq_ (R:=fun r:YY9×Str×Bool=>SOK r.1∧r.2.1.length≤1000) (fun y:YY9×Str×Int=>(y.2.1.length≤1000∧0≤y.2.2∧y.2.2≤3∧SOK y.1)) (fun y:YY9×Str×Int=>(4-y.2.2).toNat) ?_ _ _ (by grind) (by unfold fuel; grind)
 rintro next ⟨v_0,s_1,last_6⟩ h hn
 try dsimp only at h hn
 unfold uzt_
 repeat' first
  | (with_reducible first | refine ug_.2 ⟨fun _=>?_,fun _=>?_⟩ | refine ua_.2 ?_ | refine ub_.2 ?_ | refine u1_.2 ⟨?_,fun _ _=>?_⟩ | refine us8_.2 ⟨?_,?_⟩ | refine (ubxi_ _ ?_).mono fun _ _=>?_ | refine (u8_ _ ?_).mono fun _ _=>?_ | refine (ubpp_ _ ?_).mono fun _ _=>?_ | refine (us_ _ ?_).mono fun _ _=>?_ | refine (u9r_ _ ?_).mono fun _ _=>?_)
  | exact fun c=>clo (us_ c trivial)
  | exact fun c=>clo (u8_ c trivial)
  | with_reducible refine hn _ ?_ ?_
  | split
  | dsimp only
 all_goals grind [un_,uh_,uc_,uw_,ur_,u3_,u2_,u8le,uj_,ue_,uy_,ut_,uz_,xlc,xln,xmt,xmd]
theorem ubhi_ (x:YY9×Str) (h:x.2.length≤1000∧SOK x.1):Tot (un2_ x) (fun r:Str×Bool×YY9=>r.1.length≤1000∧SOK r.2.2):=by
 obtain ⟨v_0,s_1⟩:=x
 try dsimp only at h ⊢
 unfold un2_
 repeat' first
  | (with_reducible first | refine ua_.2 ?_ | refine ub_.2 ?_ | refine (u9s_ _ ?_).mono fun _ _=>?_)
  | dsimp only
 all_goals grind [un_,uh_,uc_,uw_,ur_,u3_,u2_,u8le,uj_,ue_,uy_,ut_,uz_,xlc,xln,xmt,xmd]
theorem u3h_ (x:Int) (h:True):Tot (ur6_ x) (fun r:Bool=>True):=by
 unfold ur6_
 repeat' first
  | (with_reducible first | refine ug_.2 ⟨fun _=>?_,fun _=>?_⟩ | refine ua_.2 ?_ | refine ub_.2 ?_ | refine (us_ _ ?_).mono fun _ _=>?_ | refine (u8_ _ ?_).mono fun _ _=>?_)
  | dsimp only
 all_goals grind [un_,uh_,uc_,uw_,ur_,u3_,u2_,u8le,uj_,ue_,uy_,ut_,uz_,xlc,xln,xmt,xmd]
theorem ubm6_ (x:Int×(List Str)×Int×Int) (h:0≤x.2.2.2∧x.2.2.2≤x.2.2.1∧x.2.2.1=x.2.1.length∧x.2.2.1≤281474976710656∧0≤x.1∧x.1≤1048576+1000*x.2.2.2∧(∀ s∈x.2.1,s.length≤1000)∧x.2.2.1≤1048576):Tot (u0u_ x) (fun r:Sum (Int) YY30=>∀ y,r=.inr y→y.1=[]):=by
 refine uq_ (R:=fun r:Sum (Int) YY30=>∀ y,r=.inr y→y.1=[]) (fun y:Int×(List Str)×Int×Int=>(0≤y.2.2.2∧y.2.2.2≤y.2.2.1∧y.2.2.1=y.2.1.length∧y.2.2.1≤281474976710656∧0≤y.1∧y.1≤1048576+1000*y.2.2.2∧(∀ s∈y.2.1,s.length≤1000)∧y.2.2.1≤1048576)) (fun y:Int×(List Str)×Int×Int=>(y.2.2.1-y.2.2.2).toNat) ?_ _ _ (by grind) (by unfold fuel; grind)
 rintro next ⟨n_5,t13,t14,t15⟩ h hn
 try dsimp only at h hn
 unfold ubcx_
 repeat' first
  | (with_reducible first | refine ug_.2 ⟨fun _=>?_,fun _=>?_⟩ | refine ua_.2 ?_ | refine ub_.2 ?_ | refine u1_.2 ⟨?_,fun _ _=>?_⟩ | refine (us_ _ ?_).mono fun _ _=>?_ | refine (u3h_ _ ?_).mono fun _ _=>?_ | refine (ude_ _ ?_ ?_).mono fun _ _=>?_)
  | exact fun c=>clo (us_ c trivial)
  | exact fun c=>clo (u8_ c trivial)
  | exact fun c=>clo (u3h_ c trivial)
  | with_reducible refine hn _ ?_ ?_
  | dsimp only
 all_goals grind [un_,uh_,uc_,uw_,ur_,u3_,u2_,u8le,uj_,ue_,uy_,ut_,uz_,xlc,xln,xmt,xmd]
theorem ubu7_ (x:Str) (h:x.length≤1000):Tot (u1s_ x) (fun r:(List Str)×Bool=>LS r.1):=by
 unfold u1s_
 repeat' first
  | (with_reducible first | refine ua_.2 ?_ | refine ub_.2 ?_ | refine (u3g_ _ ?_).mono fun _ _=>?_ | refine (ubm6_ _ ?_).mono fun _ _=>?_ | refine (ubm3_ _ ⟨?_,?_⟩).mono fun _ _=>?_)
  | exact fun c=>clo (u3g_ c trivial)
  | split
  | dsimp only
 all_goals grind [un_,uh_,uc_,uw_,ur_,u3_,u2_,u8le,uj_,ue_,uy_,ut_,uz_,xlc,xln,xmt,xmd]
theorem ube0_ (x:Str×YY9×Int×Bool) (h:x.1.length≤1000∧x.2.1.1=0∧0≤x.2.2.1∧x.2.2.1≤x.1.length∧(x.2.2.2=true→x.2.2.1<x.1.length)):Tot (ulz_ x) (fun r:Sum (Str×YY9) (YY3×Bool)=>(∀ y,r=.inl y→y.1.length≤1000∧0≤y.2.1∧y.2.1≤999999999999999999∧y.2.2=x.2.1.2)∧∀ y,r=.inr y→y.2=false):=by
 obtain ⟨s_0,v_4,n_5,t29⟩:=x
 try dsimp only at h ⊢
 unfold ulz_
 repeat' first
  | (with_reducible first | refine ug_.2 ⟨fun _=>?_,fun _=>?_⟩ | refine ua_.2 ?_ | refine ub_.2 ?_ | refine us8_.2 ⟨?_,?_⟩ | refine (ucc_ _ ?_).mono fun _ _=>?_)
  | dsimp only
 all_goals grind [un_,uh_,uc_,uw_,ur_,u3_,u2_,u8le,uj_,ue_,uy_,ut_,uz_,xlc,xln,xmt,xmd]
theorem ubm7_ (x:Str) (h:x.length≤1000):Tot (ur7_ x) (fun r:YY3×Bool=>r.2=true→VOK r.1):=by
 unfold ur7_
 repeat' first
  | (with_reducible first | refine ug_.2 ⟨fun _=>?_,fun _=>?_⟩ | refine ua_.2 ?_ | refine ub_.2 ?_ | refine u1_.2 ⟨?_,fun _ _=>?_⟩ | refine (ubm2_ _ ?_).mono fun _ _=>?_ | refine (us_ _ ?_).mono fun _ _=>?_ | refine (ube0_ _ ?_).mono fun _ _=>?_ | refine (ubpo_ _ ?_).mono fun _ _=>?_ | refine (ubhi_ _ ?_).mono fun _ _=>?_ | refine (ubpm_ _ ?_).mono fun _ _=>?_ | refine (ubu7_ _ ?_).mono fun _ _=>?_ | refine (ude_ _ ?_ ?_).mono fun _ _=>?_)
  | exact fun c=>clo (us_ c trivial)
  | exact fun c=>clo (u8_ c trivial)
  | split
  | dsimp only
 all_goals grind [un_,uh_,uc_,uw_,ur_,u3_,u2_,u8le,uj_,ue_,uy_,ut_,uz_,xlc,xln,xmt,xmd,vok_s]
theorem ubzh_ (x:Str×Bool) (h:x.1.length≤1000):Tot (u99_ x) (fun r:Str=>r.length≤5000):=by
 obtain ⟨w_0,followed_1⟩:=x
 try dsimp only at h ⊢
 unfold u99_
 repeat' first
  | (with_reducible first | refine ug_.2 ⟨fun _=>?_,fun _=>?_⟩ | refine ua_.2 ?_ | refine ub_.2 ?_ | refine (ubbc_ _ ?_).mono fun _ _=>?_)
  | dsimp only
 all_goals grind [un_,uh_,uc_,uw_,ur_,u3_,u2_,u8le,uj_,ue_,uy_,ut_,uz_,xlc,xln,xmt,xmd]
theorem uqb_ (x:Bool×Str×Int) (h:True):Tot (uhx_ x) (fun r:Bool=>True):=by
 unfold uhx_
 repeat' first
  | with_reducible refine ub_.2 ?_
  | dsimp only
 all_goals grind [un_,uh_,uc_,uw_,ur_,u3_,u2_,u8le,uj_,ue_,uy_,ut_,uz_,xlc,xln,xmt,xmd]
theorem u8h_ (x:Str×Int×Bool) (h:0≤x.2.1∧x.2.1<x.1.length∧x.1.length≤1000):Tot (uiq_ x) (fun r:Sum (Int) (YY3×Bool)=>(∀ y,r=.inl y→x.2.1≤y∧y≤x.1.length)∧∀ y,r=.inr y→y.2=false):=by
 obtain ⟨s_0,at_5,t24⟩:=x
 try dsimp only at h ⊢
 unfold uiq_
 repeat' first
  | (with_reducible first | refine ug_.2 ⟨fun _=>?_,fun _=>?_⟩ | refine ua_.2 ?_ | refine ub_.2 ?_ | refine u1_.2 ⟨?_,fun _ _=>?_⟩ | refine (us_ _ ?_).mono fun _ _=>?_ | refine (u8_ _ ?_).mono fun _ _=>?_)
  | dsimp only
 all_goals grind [un_,uh_,uc_,uw_,ur_,u3_,u2_,u8le,uj_,ue_,uy_,ut_,uz_,xlc,xln,xmt,xmd]
set_option maxHeartbeats 1000000 in
theorem u8i_ (x:Str×(List YY19)×Int) (h:0≤x.2.2∧(x.1.length:Int)≤281474976710656∧x.2.2≤(x.1.length:Int)∧x.1.length≤1000∧x.2.1.length≤x.2.2∧(∀ t∈x.2.1,t.2.1.length≤5000∧0≤t.2.2∧t.2.2≤999999999999999999)):Tot (un3_ x) (fun r:Sum (List YY19) (YY3×Bool)=>(∀ y,r=.inl y→TS y)∧∀ y,r=.inr y→y.2=false):=by
 refine uq_ (R:=fun r:Sum (List YY19) (YY3×Bool)=>(∀ y,r=.inl y→TS y)∧∀ y,r=.inr y→y.2=false) (fun y:Str×(List YY19)×Int=>(0≤y.2.2∧(y.1.length:Int)≤281474976710656∧y.2.2≤(y.1.length:Int)∧y.1.length≤1000∧y.2.1.length≤y.2.2∧(∀ t∈y.2.1,t.2.1.length≤5000∧0≤t.2.2∧t.2.2≤999999999999999999))) (fun y:Str×(List YY19)×Int=>((y.1.length:Int)-y.2.2).toNat) ?_ _ _ (by grind) (by unfold fuel; grind)
 rintro next ⟨s_0,v_4,at_5⟩ h hn
 try dsimp only at h hn
 unfold uxe_
 repeat' first
  | (with_reducible first | refine ug_.2 ⟨fun _=>?_,fun _=>?_⟩ | refine ua_.2 ?_ | refine ub_.2 ?_ | refine u1_.2 ⟨?_,fun _ _=>?_⟩ | refine us8_.2 ⟨?_,?_⟩ | refine ule_.2 ⟨?_,?_⟩ | refine (u8h_ _ ?_).mono fun _ _=>?_ | refine (us_ _ ?_).mono fun _ _=>?_ | refine (ucc_ _ ?_).mono fun _ _=>?_ | refine (u8_ _ ?_).mono fun _ _=>?_ | refine (ubzh_ _ ?_).mono fun _ _=>?_ | refine (ude_ _ ?_ ?_).mono fun _ _=>?_)
  | exact fun c=>clo (us_ c trivial)
  | exact fun c=>clo (u8_ c trivial)
  | with_reducible refine hn _ ?_ ?_
  | split
  | dsimp only
 all_goals grind [un_,uh_,uc_,uw_,ur_,u3_,u2_,u8le,uj_,ue_,uy_,ut_,uz_,xlc,xln,xmt,xmd]
theorem u8j_ (x:List YY19) (h:TS x):Tot (un4_ x) (fun r:List YY19=>TS r):=by
 refine uq_ (R:=fun r=>TS r) (fun y=>TS y) (fun y=>y.length) ?_ _ _ h (by unfold fuel; have:=h.1; omega)
 intro next v h hn
 unfold uxf_
 by_cases hc:(0:Int)<v.length
 · rw [ubc_ (by omega) (by have:=h.1; omega),decide_eq_true hc]
   simp only [cond_true,Bool.true_and]
   refine ua_.2 (u1_.2 ⟨⟨by omega,by omega⟩,fun b hb=>?_⟩)
   refine ua_.2 ((uqb_ _ trivial).mono fun r _=>?_)
   refine ug_.2 ⟨fun _=>ua_.2 (us8_.2 ⟨⟨by omega,by omega,by omega⟩,?_⟩),fun _=>ub_.2 h⟩
   refine hn _ ⟨?_,fun t ht=>h.2 t (uy_ ht)⟩ ?_
   · rw [ut_]; have:=h.1; omega
   · rw [ut_]; omega
 · rw [decide_eq_false hc]
   simp only [cond_false,Bool.false_and]
   exact ua_.2 (ub_.2 (ua_.2 (ub_.2 (ub_.2 h))))
theorem ube1_ (x:Str) (h:x.length≤1000):Tot (ul0_ x) (fun r:YY3×Bool=>r.2=true→VOK r.1):=by
 unfold ul0_
 repeat' first
  | (with_reducible first | refine ua_.2 ?_ | refine ub_.2 ?_ | refine (u8i_ _ ?_).mono fun _ _=>?_ | refine (u8j_ _ ?_).mono fun _ _=>?_)
  | split
  | dsimp only
 all_goals grind [un_,uh_,uc_,uw_,ur_,u3_,u2_,u8le,uj_,ue_,uy_,ut_,uz_,xlc,xln,xmt,xmd,vok_q]
theorem ubpq_ (x:Str) (h:x.length≤1000):Tot (uu4_ x) (fun r:YY3×Bool=>r.2=true→VOK r.1):=by
 unfold uu4_
 repeat' first
  | (with_reducible first | refine ua_.2 ?_ | refine ub_.2 ?_ | refine (ujv_ _ ?_).mono fun _ _=>?_)
  | dsimp only
 all_goals grind [un_,uh_,uc_,uw_,ur_,u3_,u2_,u8le,uj_,ue_,uy_,ut_,uz_,xlc,xln,xmt,xmd,vok_p]
theorem u8k_ (x:Int×Str) (h:x.2.length≤1048576):Tot (u0v_ x) (fun r:YY3×Int=>r.2=0→VOK r.1):=by
 obtain ⟨kind_0,s_1⟩:=x
 try dsimp only at h ⊢
 unfold u0v_
 repeat' first
  | (with_reducible first | refine ug_.2 ⟨fun _=>?_,fun _=>?_⟩ | refine ua_.2 ?_ | refine ub_.2 ?_ | refine (ubm5_ _ ?_).mono fun _ _=>?_ | refine (ubj5_ _ ?_).mono fun _ _=>?_ | refine (ubbc_ _ ?_).mono fun _ _=>?_ | refine (ubm7_ _ ?_).mono fun _ _=>?_ | refine (ube1_ _ ?_).mono fun _ _=>?_ | refine (ubpq_ _ ?_).mono fun _ _=>?_)
  | dsimp only
 all_goals grind [un_,uh_,uc_,uw_,ur_,u3_,u2_,u8le,uj_,ue_,uy_,ut_,uz_,xlc,xln,xmt,xmd]
end Go.Ev.Pv
namespace Go.Ev.Pv
theorem ubcj_ (x:(List Str)×(List Int)×Int×Int) (h:0≤x.2.2.2∧x.2.2.2≤x.2.2.1∧x.2.2.1=x.2.1.length∧x.2.2.1≤281474976710656∧x.1.length≤x.2.2.2∧(∀ s∈x.1,s.length≤21)∧x.2.2.1≤1002):Tot (uq2_ x) (fun r:List Str=>r.length≤1002∧∀ s∈r,s.length≤21):=by
 refine uq_ (R:=fun r:List Str=>r.length≤1002∧∀ s∈r,s.length≤21) (fun y:(List Str)×(List Int)×Int×Int=>(0≤y.2.2.2∧y.2.2.2≤y.2.2.1∧y.2.2.1=y.2.1.length∧y.2.2.1≤281474976710656∧y.1.length≤y.2.2.2∧(∀ s∈y.1,s.length≤21)∧y.2.2.1≤1002)) (fun y:(List Str)×(List Int)×Int×Int=>(y.2.2.1-y.2.2.2).toNat) ?_ _ _ (by grind) (by unfold fuel; grind)
 rintro next ⟨parts_3,t6,t7,t8⟩ h hn
 try dsimp only at h hn
 unfold u2b_
 repeat' first
  | (with_reducible first | refine ug_.2 ⟨fun _=>?_,fun _=>?_⟩ | refine ua_.2 ?_ | refine ub_.2 ?_ | refine u1_.2 ⟨?_,fun _ _=>?_⟩ | refine ule_.2 ⟨?_,?_⟩ | refine (ubq_ _ ?_).mono fun _ _=>?_ | refine hn _ ?_ ?_)
  | dsimp only
 all_goals grind [un_,uh_,uc_,uw_,ur_,u3_,u2_,u8le,uj_,ue_,uy_,ut_,uz_,xlc,xln,xmt,xmd]
theorem u0l_ (x:List Int) (h:x.length≤1002):Tot (uko_ x) (fun r:Str=>r.length≤30000):=by
 unfold uko_
 refine ua_.2 ((ubcj_ _ ⟨by simp,by simp,rfl,by simp; omega,by simp,by simp,by simp; omega⟩).mono fun r hr=>?_)
 have hj:(Lib.join r [46]).length≤1002*(21+1):=ub95_ hr.2 hr.1 (by simp)
 exact ua_.2 ((und_ _ ⟨by simp; omega,by dsimp only; omega⟩).mono fun s hs=>ub_.2 (by rw [hs]; dsimp only; omega))
theorem uy4_ (x:(List Int)×(List Str)) (h:DOK x):Tot (ui7_ x) (fun r:Str=>r.length≤1048576):=by
 unfold ui7_
 obtain ⟨h1,h2,h3,h4⟩:=h
 have hj:(Lib.join x.2 [46]).length≤1002*(1000+1):=ub95_ h4 h3 (by simp)
 refine ua_.2 (us8_.2 ⟨⟨by omega,by omega,by omega⟩,?_⟩)
 refine ua_.2 ((u0l_ _ (by rw [ut_]; omega)).mono fun r hr=>?_)
 refine ug_.2 ⟨fun _=>?_,fun _=>ub_.2 (by omega)⟩
 refine ua_.2 ((und_ _ ⟨by dsimp only; omega,by dsimp only; omega⟩).mono fun s hs=>?_)
 dsimp only at hs
 rw [← hs] at hj
 refine ua_.2 (uek_.2 ⟨by simp; omega,?_⟩)
 refine ua_.2 (uek_.2 ⟨by simp; omega,?_⟩)
 exact ub_.2 (by simp; omega)
theorem ubck_ (x:Str×(List Int)×Int) (h:0≤x.2.2∧x.2.2≤x.1.length∧x.1.length≤1000∧x.2.1.length≤21*x.2.2):Tot (uq3_ x) (fun r:List Int=>r.length≤21000):=by
 refine uq_ (R:=fun r:List Int=>r.length≤21000) (fun y:Str×(List Int)×Int=>(0≤y.2.2∧y.2.2≤y.1.length∧y.1.length≤1000∧y.2.1.length≤21*y.2.2)∧y.1=x.1) (fun y:Str×(List Int)×Int=>(y.1.length-y.2.2:Int).toNat) ?_ _ _ (by grind) (by unfold fuel; grind)
 rintro next ⟨s_0,b_3,at_4⟩ h hn
 try dsimp only at h hn
 unfold u2c_
 repeat' first
  | (with_reducible first | refine ug_.2 ⟨fun _=>?_,fun _=>?_⟩ | refine ua_.2 ?_ | refine ub_.2 ?_ | refine u1_.2 ⟨?_,fun _ _=>?_⟩ | refine us8_.2 ⟨?_,?_⟩ | refine (us_ _ ?_).mono fun _ _=>?_ | refine (udx_ _ ?_).mono fun _ _=>?_ | refine (ucc_ _ ?_).mono fun _ _=>?_ | refine (ubq_ _ ?_).mono fun _ _=>?_ | refine (ucy_ _ ?_).mono fun _ _=>?_ | refine (ude_ _ ?_ ?_).mono fun _ _=>?_)
  | exact fun c=>clo (us_ c trivial)
  | exact fun c=>clo (u8_ c trivial)
  | with_reducible refine hn _ ?_ ?_
  | dsimp only
 all_goals grind [un_,uh_,uc_,uw_,ur_,u3_,u2_,u8le,uj_,ue_,uy_,ut_,uz_,xlc,xln,xmt,xmd]
theorem ubj6_ (x:Str) (h:x.length≤1000):Tot (ukp_ x) (fun r:Str=>r.length≤21000):=by
 unfold ukp_
 repeat' first
  | (with_reducible first | refine ua_.2 ?_ | refine ub_.2 ?_ | refine (ubck_ _ ?_).mono fun _ _=>?_ | refine (uch_ _ ?_).mono fun _ _=>?_)
  | dsimp only
 all_goals grind [un_,uh_,uc_,uw_,ur_,u3_,u2_,u8le,uj_,ue_,uy_,ut_,uz_,xlc,xln,xmt,xmd]
theorem uy5_ (x:Int×Str×Str×Bool) (h:ROK x):Tot (ui8_ x) (fun r:Str=>r.length≤1000):=by
 unfold ui8_
 repeat' first
  | (with_reducible first | refine ug_.2 ⟨fun _=>?_,fun _=>?_⟩ | refine ub_.2 ?_)
  | dsimp only
 all_goals grind [un_,uh_,uc_,uw_,ur_,u3_,u2_,u8le,uj_,ue_,uy_,ut_,uz_,xlc,xln,xmt,xmd]
theorem ubm8_ (x:Str×(List Int)×Int×Int) (h:0≤x.2.2.2∧x.2.2.2≤x.2.2.1∧x.2.2.1=x.1.length∧x.2.2.1≤281474976710656∧x.2.2.1≤1000∧x.2.1.length≤x.2.2.2):Tot (u0w_ x) (fun r:List Int=>r.length≤x.1.length):=by
 refine uq_ (R:=fun r:List Int=>r.length≤x.1.length) (fun y:Str×(List Int)×Int×Int=>(0≤y.2.2.2∧y.2.2.2≤y.2.2.1∧y.2.2.1=y.1.length∧y.2.2.1≤281474976710656∧y.2.2.1≤1000∧y.2.1.length≤y.2.2.2)∧y.1=x.1) (fun y:Str×(List Int)×Int×Int=>(y.2.2.1-y.2.2.2).toNat) ?_ _ _ (by grind) (by unfold fuel; grind)
 rintro next ⟨s_0,b_3,t6,t7⟩ h hn
 try dsimp only at h hn
 unfold ubcy_
 repeat' first
  | (with_reducible first | refine ug_.2 ⟨fun _=>?_,fun _=>?_⟩ | refine ua_.2 ?_ | refine ub_.2 ?_ | refine u1_.2 ⟨?_,fun _ _=>?_⟩ | refine (udx_ _ ?_).mono fun _ _=>?_ | refine (u8_ _ ?_).mono fun _ _=>?_ | refine hn _ ?_ ?_)
  | dsimp only
 all_goals grind [un_,uh_,uc_,uw_,ur_,u3_,u2_,u8le,uj_,ue_,uy_,ut_,uz_,xlc,xln,xmt,xmd]
theorem ubu8_ (x:Str) (h:x.length≤1000):Tot (u1t_ x) (fun r:Str=>r.length≤x.length+1):=by
 unfold u1t_
 repeat' first
  | (with_reducible first | refine ua_.2 ?_ | refine ub_.2 ?_ | refine u1_.2 ⟨?_,fun _ _=>?_⟩ | refine uek_.2 ⟨?_,?_⟩ | refine (ubm8_ _ ?_).mono fun _ _=>?_ | refine (uch_ _ ?_).mono fun _ _=>?_)
  | dsimp only
 all_goals grind [un_,uh_,uc_,uw_,ur_,u3_,u2_,u8le,uj_,ue_,uy_,ut_,uz_,xlc,xln,xmt,xmd]
theorem ubz_ (x:Int) (h:0≤x∧x≤999999999999999999):Tot (ud2_ x) (fun r:Str=>r.length=18):=by
 unfold ud2_
 repeat' first
  | (with_reducible first | refine ua_.2 ?_ | refine ub_.2 ?_ | refine u1_.2 ⟨?_,fun _ _=>?_⟩ | refine uek_.2 ⟨?_,?_⟩ | refine (ubq_ _ ?_).mono fun _ _=>?_ | refine (ubxf_ _ ?_).mono fun _ _=>?_)
  | dsimp only
 all_goals grind [un_,uh_,uc_,uw_,ur_,u3_,u2_,u8le,uj_,ue_,uy_,ut_,uz_,xlc,xln,xmt,xmd]
theorem ube2_ (x:Str×(List Int)) (h:x.1.length≤1000∧x.2.length+40*x.1.length≤50000):Tot (utc_ x) (fun r:List Int=>r.length≤50000):=by
 refine uq_ (R:=fun r:List Int=>r.length≤50000) (fun y:Str×(List Int)=>y.1.length≤1000∧y.2.length+40*y.1.length≤50000) (fun y:Str×(List Int)=>y.1.length) ?_ _ _ h (by unfold fuel; have:=h.1; omega)
 rintro next ⟨s,b⟩ h hn
 dsimp only at h hn
 unfold u4q_
 dsimp only
 refine ug_.2 ⟨fun hc=>?_,fun _=>ub_.2 (by omega)⟩
 have hne:0<s.length:=by
  rw [uz_] at hc
  simp only [Bool.not_eq_true',decide_eq_false_iff_not] at hc
  omega
 have f1:∀ c,Tot ((ul1_ c).bind fun r=>some r) fun _=>True:=fun c=>⟨_,rfl,trivial⟩
 refine ua_.2 ((u14_ _ ⟨Int.le_refl _,by dsimp only; omega,by dsimp only; omega,f1⟩).mono fun r1 hr1=>?_)
 dsimp only at hr1
 obtain ⟨a0,a1,_,a3⟩:=hr1
 rw [Int.zero_add] at a1 a3
 refine ua_.2 ((u14_ _ ⟨a0,by dsimp only; omega,by dsimp only; omega,ub96_⟩).mono fun r2 hr2=>?_)
 dsimp only at hr2
 obtain ⟨b0,b1,_,b3⟩:=hr2
 have hpos:0<r1+r2:=by
  rcases Int.lt_or_le 0 (r1+r2) with h' | h'
  · exact h'
  · exfalso
    have e1:r1=0:=by omega
    have e2:r2=0:=by omega
    subst e1 e2
    have g:s[(0:Int).toNat]? = some (s[0]'hne):=List.getElem?_eq_getElem hne
    have g1:=a3 _ g
    have g2:=b3 _ g
    unfold ul1_ at g1
    unfold u9_ at g1 g2
    simp at g1 g2
    omega
 rw [ubc_ (by omega) (by omega)]
 refine ua_.2 (us8_.2 ⟨⟨by omega,by omega,by omega⟩,?_⟩)
 refine ua_.2 ((ucc_ _ (by rw [ut_]; omega)).mono fun r4 h4=>?_)
 refine ua_.2 (us8_.2 ⟨⟨by omega,by omega,by omega⟩,?_⟩)
 refine ua_.2 ((ubu8_ _ (by rw [ut_]; omega)).mono fun r6 h6=>?_)
 rw [ut_] at h6
 refine ua_.2 ((ubz_ _ h4).mono fun r7 h7=>?_)
 refine ua_.2 (uek_.2 ⟨by omega,?_⟩)
 refine ua_.2 ((ucy_ _ ⟨by dsimp only; omega,by dsimp only; rw [List.length_append]; omega⟩).mono fun r9 h9=>?_)
 dsimp only at h9
 rw [List.length_append] at h9
 refine ua_.2 (us8_.2 ⟨⟨by omega,by omega,by omega⟩,?_⟩)
 refine hn _ ⟨?_,?_⟩ ?_ <;> (dsimp only; rw [ut_]; omega)
theorem u3i_ (x:Str) (h:x.length≤1000):Tot (ugv_ x) (fun r:Str=>r.length≤50010):=by
 unfold ugv_
 repeat' first
  | (with_reducible first | refine ua_.2 ?_ | refine ub_.2 ?_ | refine u1_.2 ⟨?_,fun _ _=>?_⟩ | refine uek_.2 ⟨?_,?_⟩ | refine (ube2_ _ ?_).mono fun _ _=>?_ | refine (uch_ _ ?_).mono fun _ _=>?_)
  | dsimp only
 all_goals grind [un_,uh_,uc_,uw_,ur_,u3_,u2_,u8le,uj_,ue_,uy_,ut_,uz_,xlc,xln,xmt,xmd]
theorem u8l_ (x:YY33×Str×Bool) (h:x.2.1.length≤1000000):Tot (uir_ x) (fun r:YY33×Str=>r.1=x.1∧r.2.length≤x.2.1.length+30):=by
 obtain ⟨v_1,s_3,t9⟩:=x
 try dsimp only at h ⊢
 unfold uir_
 repeat' first
  | (with_reducible first | refine ug_.2 ⟨fun _=>?_,fun _=>?_⟩ | refine ua_.2 ?_ | refine ub_.2 ?_ | refine u1_.2 ⟨?_,fun _ _=>?_⟩ | refine uek_.2 ⟨?_,?_⟩ | refine (ubq_ _ ?_).mono fun _ _=>?_)
  | dsimp only
 all_goals grind [un_,uh_,uc_,uw_,ur_,u3_,u2_,u8le,uj_,ue_,uy_,ut_,uz_,xlc,xln,xmt,xmd]
theorem uwr_ (x:Int×Str×Str×Bool) (h:ROK x):Tot (uik_ x) (fun r:Str=>r.length≤1048576):=by
 unfold uik_
 repeat' first
  | (with_reducible first | refine ug_.2 ⟨fun _=>?_,fun _=>?_⟩ | refine ua_.2 ?_ | refine ub_.2 ?_ | refine u1_.2 ⟨?_,fun _ _=>?_⟩ | refine uek_.2 ⟨?_,?_⟩ | refine (ubj6_ _ ?_).mono fun _ _=>?_ | refine (u8l_ _ ?_).mono fun _ _=>?_ | refine (uy5_ _ ?_).mono fun _ _=>?_ | refine (u3i_ _ ?_).mono fun _ _=>?_)
  | dsimp only
 all_goals grind [un_,uh_,uc_,uw_,ur_,u3_,u2_,u8le,uj_,ue_,uy_,ut_,uz_,xlc,xln,xmt,xmd]
theorem ubm9_ (x:List Int) (h:NS x):Tot (u0x_ x) (fun r:List Int=>NS r):=by
 refine uq_ (R:=fun r=>NS r) (fun y=>NS y) (fun y=>y.length) ?_ _ _ h (by unfold fuel; have:=h.1; omega)
 intro next v h hn
 unfold ubcz_
 by_cases hc:(0:Int)<v.length
 · rw [ubc_ (by omega) (by have:=h.1; omega),decide_eq_true hc]
   simp only [cond_true,Bool.true_and]
   refine ua_.2 (u1_.2 ⟨⟨by omega,by omega⟩,fun b hb=>?_⟩)
   refine ug_.2 ⟨fun _=>ua_.2 (us8_.2 ⟨⟨by omega,by omega,by omega⟩,?_⟩),fun _=>ub_.2 h⟩
   refine hn _ ⟨?_,fun t ht=>h.2 t (uy_ ht)⟩ ?_
   · rw [ut_]; have:=h.1; omega
   · rw [ut_]; omega
 · rw [decide_eq_false hc]
   simp only [cond_false,Bool.false_and]
   exact ua_.2 (ub_.2 (ub_.2 h))
theorem ubbd_ (x:List Int) (h:NS x):Tot (uua_ x) (fun r:List Int=>NS r):=by
 unfold uua_
 repeat' first
  | (with_reducible first | refine ua_.2 ?_ | refine ub_.2 ?_ | refine (ubm9_ _ ?_).mono fun _ _=>?_)
  | dsimp only
 all_goals grind [un_,uh_,uc_,uw_,ur_,u3_,u2_,u8le,uj_,ue_,uy_,ut_,uz_,xlc,xln,xmt,xmd]
theorem u9t_ (x:YY9×Str×Bool) (h:x.2.1.length≤10):Tot (ujj_ x) (fun r:YY9×Str=>r.1=x.1∧r.2.length≤30):=by
 obtain ⟨v_1,s_3,t11⟩:=x
 try dsimp only at h ⊢
 unfold ujj_
 repeat' first
  | (with_reducible first | refine ug_.2 ⟨fun _=>?_,fun _=>?_⟩ | refine ua_.2 ?_ | refine ub_.2 ?_ | refine u1_.2 ⟨?_,fun _ _=>?_⟩ | refine uek_.2 ⟨?_,?_⟩ | refine (ubq_ _ ?_).mono fun _ _=>?_)
  | dsimp only
 all_goals grind [un_,uh_,uc_,uw_,ur_,u3_,u2_,u8le,uj_,ue_,uy_,ut_,uz_,xlc,xln,xmt,xmd]
theorem u9u_ (x:Str×(List Int)×Bool) (h:x.1.length≤30∧x.2.1.length≤1002):Tot (ujk_ x) (fun r:Str=>r.length≤31000):=by
 obtain ⟨s_3,l_4,t21⟩:=x
 try dsimp only at h ⊢
 unfold ujk_
 repeat' first
  | (with_reducible first | refine ug_.2 ⟨fun _=>?_,fun _=>?_⟩ | refine ua_.2 ?_ | refine ub_.2 ?_ | refine u1_.2 ⟨?_,fun _ _=>?_⟩ | refine uek_.2 ⟨?_,?_⟩ | refine (u0l_ _ ?_).mono fun _ _=>?_)
  | dsimp only
 all_goals grind [un_,uh_,uc_,uw_,ur_,u3_,u2_,u8le,uj_,ue_,uy_,ut_,uz_,xlc,xln,xmt,xmd]
theorem u9v_ (x:YY9×Str×Bool) (h:x.2.1.length≤31000∧0≤x.1.2.2.1∧x.1.2.2.1≤3):Tot (ujl_ x) (fun r:YY9×Str=>r.1=x.1∧r.2.length≤31100):=by
 obtain ⟨v_1,s_3,t30⟩:=x
 try dsimp only at h ⊢
 unfold ujl_
 repeat' first
  | (with_reducible first | refine ug_.2 ⟨fun _=>?_,fun _=>?_⟩ | refine ua_.2 ?_ | refine ub_.2 ?_ | refine u1_.2 ⟨?_,fun _ _=>?_⟩ | refine uek_.2 ⟨?_,?_⟩ | refine (ubq_ _ ?_).mono fun _ _=>?_)
  | dsimp only
 all_goals grind [un_,uh_,uc_,uw_,ur_,u3_,u2_,u8le,uj_,ue_,uy_,ut_,uz_,xlc,xln,xmt,xmd]
theorem u9w_ (x:YY9×Str×Bool) (h:x.2.1.length≤31100):Tot (ujm_ x) (fun r:YY9×Str=>r.1=x.1∧r.2.length≤31200):=by
 obtain ⟨v_1,s_3,t44⟩:=x
 try dsimp only at h ⊢
 unfold ujm_
 repeat' first
  | (with_reducible first | refine ug_.2 ⟨fun _=>?_,fun _=>?_⟩ | refine ua_.2 ?_ | refine ub_.2 ?_ | refine u1_.2 ⟨?_,fun _ _=>?_⟩ | refine uek_.2 ⟨?_,?_⟩ | refine (ubq_ _ ?_).mono fun _ _=>?_)
  | dsimp only
 all_goals grind [un_,uh_,uc_,uw_,ur_,u3_,u2_,u8le,uj_,ue_,uy_,ut_,uz_,xlc,xln,xmt,xmd]
theorem u9x_ (x:YY9×Str×Bool) (h:x.2.1.length≤31200):Tot (ujn_ x) (fun r:YY9×Str=>r.1=x.1∧r.2.length≤31300):=by
 obtain ⟨v_1,s_3,t53⟩:=x
 try dsimp only at h ⊢
 unfold ujn_
 repeat' first
  | (with_reducible first | refine ug_.2 ⟨fun _=>?_,fun _=>?_⟩ | refine ua_.2 ?_ | refine ub_.2 ?_ | refine u1_.2 ⟨?_,fun _ _=>?_⟩ | refine uek_.2 ⟨?_,?_⟩ | refine (ubq_ _ ?_).mono fun _ _=>?_)
  | dsimp only
 all_goals grind [un_,uh_,uc_,uw_,ur_,u3_,u2_,u8le,uj_,ue_,uy_,ut_,uz_,xlc,xln,xmt,xmd]
theorem u9y_ (x:Str×Int×Bool) (h:True):Tot (ujo_ x) (fun r:Str=>r.length≤x.1.length+21):=by
 obtain ⟨p_6,n_7,t73⟩:=x
 try dsimp only at h ⊢
 unfold ujo_
 repeat' first
  | (with_reducible first | refine ug_.2 ⟨fun _=>?_,fun _=>?_⟩ | refine ua_.2 ?_ | refine ub_.2 ?_ | refine (ubq_ _ ?_).mono fun _ _=>?_)
  | dsimp only
 all_goals grind [un_,uh_,uc_,uw_,ur_,u3_,u2_,u8le,uj_,ue_,uy_,ut_,uz_,xlc,xln,xmt,xmd]
theorem u9z_ (x:Str×(List Str)×Int×Int) (h:0≤x.2.2.2∧x.2.2.2≤x.2.2.1∧x.2.2.1=x.2.1.length∧x.2.2.1≤281474976710656∧x.1.length≤40000+1030*x.2.2.2∧x.2.2.1≤1002∧∀ s∈x.2.1,s.length≤1000):Tot (ups_ x) (fun r:Str=>r.length≤10000000):=by
 refine uq_ (R:=fun r:Str=>r.length≤10000000) (fun y:Str×(List Str)×Int×Int=>(0≤y.2.2.2∧y.2.2.2≤y.2.2.1∧y.2.2.1=y.2.1.length∧y.2.2.1≤281474976710656∧y.1.length≤40000+1030*y.2.2.2∧y.2.2.1≤1002∧∀ s∈y.2.1,s.length≤1000)) (fun y:Str×(List Str)×Int×Int=>(y.2.2.1-y.2.2.2).toNat) ?_ _ _ (by grind) (by unfold fuel; grind)
 rintro next ⟨s_3,t61,t62,t63⟩ h hn
 try dsimp only at h hn
 unfold uzu_
 repeat' first
  | (with_reducible first | refine ug_.2 ⟨fun _=>?_,fun _=>?_⟩ | refine ua_.2 ?_ | refine ub_.2 ?_ | refine u1_.2 ⟨?_,fun _ _=>?_⟩ | refine uek_.2 ⟨?_,?_⟩ | refine (ucc_ _ ?_).mono fun _ _=>?_ | refine (u9y_ _ ?_).mono fun _ _=>?_ | refine hn _ ?_ ?_)
  | dsimp only
 all_goals grind [un_,uh_,uc_,uw_,ur_,u3_,u2_,u8le,uj_,ue_,uy_,ut_,uz_,xlc,xln,xmt,xmd]
theorem uy6_ (x:Int×(List Int)×Int×Int×Int×Int×(List Str)) (h:SOK x):Tot (ui9_ x) (fun r:Str=>r.length≤10000000):=by
 unfold ui9_
 repeat' first
  | (with_reducible first | refine ua_.2 ?_ | refine ub_.2 ?_ | refine (u9t_ _ ?_).mono fun _ _=>?_ | refine (ubbd_ _ ?_).mono fun _ _=>?_ | refine (u9u_ _ ?_).mono fun _ _=>?_ | refine (u9v_ _ ?_).mono fun _ _=>?_ | refine (u9w_ _ ?_).mono fun _ _=>?_ | refine (u9x_ _ ?_).mono fun _ _=>?_ | refine (u9z_ _ ?_).mono fun _ _=>?_)
  | dsimp only
 all_goals grind [un_,uh_,uc_,uw_,ur_,u3_,u2_,u8le,uj_,ue_,uy_,ut_,uz_,xlc,xln,xmt,xmd]
theorem u4k_ (x:(List Str)×(List YY19)×Int×Int) (h:0≤x.2.2.2∧x.2.2.2≤x.2.2.1∧x.2.2.1=x.2.1.length∧x.2.2.1≤281474976710656∧x.1.length≤x.2.2.2∧(∀ s∈x.1,s.length≤5000)∧x.2.2.1≤1002∧∀ t∈x.2.1,t.2.1.length≤5000):Tot (ulf_ x) (fun r:List Str=>r.length≤1002∧∀ s∈r,s.length≤5000):=by
 refine uq_ (R:=fun r:List Str=>r.length≤1002∧∀ s∈r,s.length≤5000) (fun y:(List Str)×(List YY19)×Int×Int=>(0≤y.2.2.2∧y.2.2.2≤y.2.2.1∧y.2.2.1=y.2.1.length∧y.2.2.1≤281474976710656∧y.1.length≤y.2.2.2∧(∀ s∈y.1,s.length≤5000)∧y.2.2.1≤1002∧∀ t∈y.2.1,t.2.1.length≤5000)) (fun y:(List Str)×(List YY19)×Int×Int=>(y.2.2.1-y.2.2.2).toNat) ?_ _ _ (by grind) (by unfold fuel; grind)
 rintro next ⟨l_3,t7,t8,t9⟩ h hn
 try dsimp only at h hn
 unfold uub_
 repeat' first
  | (with_reducible first | refine ug_.2 ⟨fun _=>?_,fun _=>?_⟩ | refine ua_.2 ?_ | refine ub_.2 ?_ | refine u1_.2 ⟨?_,fun _ _=>?_⟩ | refine ule_.2 ⟨?_,?_⟩ | refine (uqb_ _ ?_).mono fun _ _=>?_ | refine (ubq_ _ ?_).mono fun _ _=>?_ | refine hn _ ?_ ?_)
  | dsimp only
 all_goals grind [un_,uh_,uc_,uw_,ur_,u3_,u2_,u8le,uj_,ue_,uy_,ut_,uz_,xlc,xln,xmt,xmd]
theorem us9_ (x:List YY19) (h:TS x):Tot (ugj_ x) (fun r:Str=>r.length≤10000000):=by
 unfold ugj_
 refine ua_.2 ((u4k_ _ ⟨by simp,by simp,rfl,by have:=h.1; simp; omega,by simp,by simp,by have:=h.1; simp; omega,fun t ht=>(h.2 t ht).1⟩).mono fun r hr=>?_)
 have hj:(Lib.join r [45]).length≤1002*(5000+1):=ub95_ hr.2 hr.1 (by simp)
 refine ug_.2 ⟨fun _=>ub_.2 (by simp),fun _=>?_⟩
 exact ua_.2 ((und_ _ ⟨by dsimp only; omega,by dsimp only; omega⟩).mono fun s hs=>ub_.2 (by rw [hs]; dsimp only; omega))
theorem u0m_ (x:Int) (h:True):Tot (ukq_ x) (fun r:Str=>r.length≤10000000):=by
 unfold ukq_
 repeat' first
  | (with_reducible first | refine ua_.2 ?_ | refine ub_.2 ?_ | refine (ubq_ _ ?_).mono fun _ _=>?_)
  | dsimp only
 all_goals grind [un_,uh_,uc_,uw_,ur_,u3_,u2_,u8le,uj_,ue_,uy_,ut_,uz_,xlc,xln,xmt,xmd]
theorem ubu9_ (x:Sum YY28 (Sum YY33 (Sum YY9 (Sum (List YY19) (Sum Int Unit))))) (h:VOK x):Tot (u1u_ x) (fun r:Str×Int=>r.1.length≤100):=by
 unfold u1u_
 refine ua_.2 (Tot.mono (P:=fun r:Str=>r.length≤10000000) ?_ fun r1 hr=>?_)
 · rcases x with x | x | x | x | x | x
   · exact ua_.2 ((uy4_ _ h).mono fun _ h=>ub_.2 (by omega))
   · exact ua_.2 ((uwr_ _ h).mono fun _ h=>ub_.2 (by omega))
   · exact ua_.2 ((uy6_ _ h).mono fun _ h=>ub_.2 h)
   · exact ua_.2 ((us9_ _ h).mono fun _ h=>ub_.2 h)
   · exact ua_.2 ((u0m_ _ trivial).mono fun _ h=>ub_.2 h)
   · exact h.elim
 · refine ug_.2 ⟨fun _=>ub_.2 (by simp),fun hc=>ub_.2 ?_⟩
   have:=of_decide_eq_false hc
   dsimp only
   omega
theorem uvc_ (x:Int×Str) (h:x.2.length≤1048576):Tot (uq4_ x) (fun r:Str×Int=>r.1.length≤100):=by
 obtain ⟨kind_0,s_1⟩:=x
 try dsimp only at h ⊢
 unfold uq4_
 repeat' first
  | (with_reducible first | refine ug_.2 ⟨fun _=>?_,fun _=>?_⟩ | refine ua_.2 ?_ | refine ub_.2 ?_ | refine (u8k_ _ ?_).mono fun _ _=>?_ | refine (ubu9_ _ ?_).mono fun _ _=>?_)
  | dsimp only
 all_goals grind [un_,uh_,uc_,uw_,ur_,u3_,u2_,u8le,uj_,ue_,uy_,ut_,uz_,xlc,xln,xmt,xmd]
end Go.Ev.Pv
namespace Go.Ev.Pv
theorem uv3_ (x:YY6×Int×YY8×Int×Int×Int) (h:(∀ p,Tot (x.2.2.1 p) fun _=>True)∧x.2.2.2.1=20∧0≤x.2.2.2.2.1∧x.2.2.2.2.2=x.2.2.2.2.1+20∧x.2.1=x.1.length∧x.2.1≤1048576∧x.2.2.2.2.1≤x.2.1):Tot (ugs_ x) (fun r:YY6×Int=>r.1.length=x.1.length∧(∀ q∈r.1,q∈x.1)∧0≤r.2∧r.2≤x.2.1):=by
 refine uq_ (R:=fun r:YY6×Int=>r.1.length=x.1.length∧(∀ q∈r.1,q∈x.1)∧0≤r.2∧r.2≤x.2.1) (fun y:YY6×Int×YY8×Int×Int×Int=>((∀ p,Tot (y.2.2.1 p) fun _=>True)∧y.2.2.2.1=20∧0≤y.2.2.2.2.1∧y.2.2.2.2.2=y.2.2.2.2.1+20∧y.2.1=y.1.length∧y.2.1≤1048576∧y.2.2.2.2.1≤y.2.1)∧y.2.1=x.2.1∧y.2.2.1=x.2.2.1∧y.2.2.2.1=x.2.2.2.1∧y.1.length=x.1.length∧∀ q∈y.1,q∈x.1) (fun y:YY6×Int×YY8×Int×Int×Int=>(y.2.1-y.2.2.2.2.1).toNat) ?_ _ _ (by grind) (by unfold fuel; grind)
 rintro next ⟨data_0,n_1,cmp_2,blockSize_6,a_7,b_8⟩ h hn
 try dsimp only at h hn
 unfold ume_
 repeat' first
  | (with_reducible first | refine ug_.2 ⟨fun _=>?_,fun _=>?_⟩ | refine ua_.2 ?_ | refine ub_.2 ?_ | refine (uhs_ _ ?_).mono fun _ _=>?_ | refine hn _ ?_ ?_)
  | dsimp only
 all_goals grind [un_,uh_,uc_,uw_,ur_,u3_,u2_,u8le,uj_,ue_,uy_,ut_,uz_,xlc,xln,xmt,xmd]
theorem uv4_ (x:YY6×Int×YY8×Int×Int×Int) (h:(∀ p,Tot (x.2.2.1 p) fun _=>True)∧0<x.2.2.2.1∧x.2.2.2.1<x.2.1∧0≤x.2.2.2.2.1∧x.2.2.2.2.2=x.2.2.2.2.1+2*x.2.2.2.1∧x.2.1=x.1.length∧x.2.1≤1048576∧x.2.2.2.2.1≤x.2.1):Tot (ugt_ x) (fun r:YY6×Int=>r.1.length=x.1.length∧(∀ q∈r.1,q∈x.1)∧0≤r.2∧r.2≤x.2.1):=by
 refine uq_ (R:=fun r:YY6×Int=>r.1.length=x.1.length∧(∀ q∈r.1,q∈x.1)∧0≤r.2∧r.2≤x.2.1) (fun y:YY6×Int×YY8×Int×Int×Int=>((∀ p,Tot (y.2.2.1 p) fun _=>True)∧0<y.2.2.2.1∧y.2.2.2.1<y.2.1∧0≤y.2.2.2.2.1∧y.2.2.2.2.2=y.2.2.2.2.1+2*y.2.2.2.1∧y.2.1=y.1.length∧y.2.1≤1048576∧y.2.2.2.2.1≤y.2.1)∧y.2.1=x.2.1∧y.2.2.1=x.2.2.1∧y.2.2.2.1=x.2.2.2.1∧y.1.length=x.1.length∧∀ q∈y.1,q∈x.1) (fun y:YY6×Int×YY8×Int×Int×Int=>(y.2.1-y.2.2.2.2.1).toNat) ?_ _ _ (by grind) (by unfold fuel; grind)
 rintro next ⟨data_0,n_1,cmp_2,blockSize_6,a_7,b_8⟩ h hn
 try dsimp only at h hn
 unfold umf_
 repeat' first
  | (with_reducible first | refine ug_.2 ⟨fun _=>?_,fun _=>?_⟩ | refine ua_.2 ?_ | refine ub_.2 ?_ | refine (uj1_ _ ?_).mono fun _ _=>?_ | refine hn _ ?_ ?_)
  | dsimp only
 all_goals grind [un_,uh_,uc_,uw_,ur_,u3_,u2_,u8le,uj_,ue_,uy_,ut_,uz_,xlc,xln,xmt,xmd]
theorem uv5_ (x:YY6×Int×YY8×Int) (h:(∀ p,Tot (x.2.2.1 p) fun _=>True)∧0<x.2.2.2∧x.2.2.2≤2097152∧x.2.1=x.1.length∧x.2.1≤1048576):Tot (ugu_ x) (fun r:List (Str×Str)=>r.length=x.1.length∧(∀ q∈r,q∈x.1)):=by
 refine uq_ (R:=fun r:List (Str×Str)=>r.length=x.1.length∧(∀ q∈r,q∈x.1)) (fun y:YY6×Int×YY8×Int=>((∀ p,Tot (y.2.2.1 p) fun _=>True)∧0<y.2.2.2∧y.2.2.2≤2097152∧y.2.1=y.1.length∧y.2.1≤1048576)∧y.2.1=x.2.1∧y.2.2.1=x.2.2.1∧y.1.length=x.1.length∧∀ q∈y.1,q∈x.1) (fun y:YY6×Int×YY8×Int=>(2097153-y.2.2.2).toNat) ?_ _ _ (by grind) (by unfold fuel; grind)
 rintro next ⟨data_0,n_1,cmp_2,blockSize_6⟩ h hn
 try dsimp only at h hn
 unfold umg_
 repeat' first
  | (with_reducible first | refine ug_.2 ⟨fun _=>?_,fun _=>?_⟩ | refine ua_.2 ?_ | refine ub_.2 ?_ | refine (uv4_ _ ?_).mono fun _ _=>?_ | refine (uj1_ _ ?_).mono fun _ _=>?_ | refine hn _ ?_ ?_)
  | dsimp only
 all_goals grind [un_,uh_,uc_,uw_,ur_,u3_,u2_,u8le,uj_,ue_,uy_,ut_,uz_,xlc,xln,xmt,xmd]
theorem uzm_ (x:YY6×Int×YY8) (h:(∀ p,Tot (x.2.2 p) fun _=>True)∧x.2.1=x.1.length∧x.2.1≤1048576):Tot (ufg_ x) (fun r:List (Str×Str)=>r.length=x.1.length∧(∀ q∈r,q∈x.1)):=by
 obtain ⟨data_0,n_1,cmp_2⟩:=x
 try dsimp only at h ⊢
 unfold ufg_
 repeat' first
  | (with_reducible first | refine ua_.2 ?_ | refine ub_.2 ?_ | refine (uv3_ _ ?_).mono fun _ _=>?_ | refine (uhs_ _ ?_).mono fun _ _=>?_ | refine (uv5_ _ ?_).mono fun _ _=>?_)
  | dsimp only
 all_goals grind [un_,uh_,uc_,uw_,ur_,u3_,u2_,u8le,uj_,ue_,uy_,ut_,uz_,xlc,xln,xmt,xmd]
theorem uy7_ (x:YY6×YY8) (h:(∀ p,Tot (x.2 p) fun _=>True)∧x.1.length≤1048576):Tot (uer_ x) (fun r:List (Str×Str)=>r.length=x.1.length∧(∀ q∈r,q∈x.1)):=by
 obtain ⟨x_0,cmp_1⟩:=x
 try dsimp only at h ⊢
 unfold uer_
 repeat' first
  | (with_reducible first | refine ua_.2 ?_ | refine ub_.2 ?_ | refine (uzm_ _ ?_).mono fun _ _=>?_)
  | dsimp only
 all_goals grind [un_,uh_,uc_,uw_,ur_,u3_,u2_,u8le,uj_,ue_,uy_,ut_,uz_,xlc,xln,xmt,xmd]
theorem upk_ (x:(List YY2)×Int×YY11×Int×Int×Int) (h:(∀ p,Tot (x.2.2.1 p) fun _=>True)∧x.2.2.2.1=20∧0≤x.2.2.2.2.1∧x.2.2.2.2.2=x.2.2.2.2.1+20∧x.2.1=x.1.length∧x.2.1≤1048576∧x.2.2.2.2.1≤x.2.1):Tot (ueg_ x) (fun r:(List YY2)×Int=>r.1.length=x.1.length∧(∀ q∈r.1,q∈x.1)∧0≤r.2∧r.2≤x.2.1):=by
 refine uq_ (R:=fun r:(List YY2)×Int=>r.1.length=x.1.length∧(∀ q∈r.1,q∈x.1)∧0≤r.2∧r.2≤x.2.1) (fun y:(List YY2)×Int×YY11×Int×Int×Int=>((∀ p,Tot (y.2.2.1 p) fun _=>True)∧y.2.2.2.1=20∧0≤y.2.2.2.2.1∧y.2.2.2.2.2=y.2.2.2.2.1+20∧y.2.1=y.1.length∧y.2.1≤1048576∧y.2.2.2.2.1≤y.2.1)∧y.2.1=x.2.1∧y.2.2.1=x.2.2.1∧y.2.2.2.1=x.2.2.2.1∧y.1.length=x.1.length∧∀ q∈y.1,q∈x.1) (fun y:(List YY2)×Int×YY11×Int×Int×Int=>(y.2.1-y.2.2.2.2.1).toNat) ?_ _ _ (by grind) (by unfold fuel; grind)
 rintro next ⟨data_0,n_1,cmp_2,blockSize_6,a_7,b_8⟩ h hn
 try dsimp only at h hn
 unfold uhz_
 repeat' first
  | (with_reducible first | refine ug_.2 ⟨fun _=>?_,fun _=>?_⟩ | refine ua_.2 ?_ | refine ub_.2 ?_ | refine (uey_ _ ?_).mono fun _ _=>?_ | refine hn _ ?_ ?_)
  | dsimp only
 all_goals grind [un_,uh_,uc_,uw_,ur_,u3_,u2_,u8le,uj_,ue_,uy_,ut_,uz_,xlc,xln,xmt,xmd]
theorem upl_ (x:(List YY2)×Int×YY11×Int×Int×Int) (h:(∀ p,Tot (x.2.2.1 p) fun _=>True)∧0<x.2.2.2.1∧x.2.2.2.1<x.2.1∧0≤x.2.2.2.2.1∧x.2.2.2.2.2=x.2.2.2.2.1+2*x.2.2.2.1∧x.2.1=x.1.length∧x.2.1≤1048576∧x.2.2.2.2.1≤x.2.1):Tot (ueh_ x) (fun r:(List YY2)×Int=>r.1.length=x.1.length∧(∀ q∈r.1,q∈x.1)∧0≤r.2∧r.2≤x.2.1):=by
 refine uq_ (R:=fun r:(List YY2)×Int=>r.1.length=x.1.length∧(∀ q∈r.1,q∈x.1)∧0≤r.2∧r.2≤x.2.1) (fun y:(List YY2)×Int×YY11×Int×Int×Int=>((∀ p,Tot (y.2.2.1 p) fun _=>True)∧0<y.2.2.2.1∧y.2.2.2.1<y.2.1∧0≤y.2.2.2.2.1∧y.2.2.2.2.2=y.2.2.2.2.1+2*y.2.2.2.1∧y.2.1=y.1.length∧y.2.1≤1048576∧y.2.2.2.2.1≤y.2.1)∧y.2.1=x.2.1∧y.2.2.1=x.2.2.1∧y.2.2.2.1=x.2.2.2.1∧y.1.length=x.1.length∧∀ q∈y.1,q∈x.1) (fun y:(List YY2)×Int×YY11×Int×Int×Int=>(y.2.1-y.2.2.2.2.1).toNat) ?_ _ _ (by grind) (by unfold fuel; grind)
 rintro next ⟨data_0,n_1,cmp_2,blockSize_6,a_7,b_8⟩ h hn
 try dsimp only at h hn
 unfold uh0_
 repeat' first
  | (with_reducible first | refine ug_.2 ⟨fun _=>?_,fun _=>?_⟩ | refine ua_.2 ?_ | refine ub_.2 ?_ | refine (ugp_ _ ?_).mono fun _ _=>?_ | refine hn _ ?_ ?_)
  | dsimp only
 all_goals grind [un_,uh_,uc_,uw_,ur_,u3_,u2_,u8le,uj_,ue_,uy_,ut_,uz_,xlc,xln,xmt,xmd]
theorem upm_ (x:(List YY2)×Int×YY11×Int) (h:(∀ p,Tot (x.2.2.1 p) fun _=>True)∧0<x.2.2.2∧x.2.2.2≤2097152∧x.2.1=x.1.length∧x.2.1≤1048576):Tot (uei_ x) (fun r:List YY2=>r.length=x.1.length∧(∀ q∈r,q∈x.1)):=by
 refine uq_ (R:=fun r:List YY2=>r.length=x.1.length∧(∀ q∈r,q∈x.1)) (fun y:(List YY2)×Int×YY11×Int=>((∀ p,Tot (y.2.2.1 p) fun _=>True)∧0<y.2.2.2∧y.2.2.2≤2097152∧y.2.1=y.1.length∧y.2.1≤1048576)∧y.2.1=x.2.1∧y.2.2.1=x.2.2.1∧y.1.length=x.1.length∧∀ q∈y.1,q∈x.1) (fun y:(List YY2)×Int×YY11×Int=>(2097153-y.2.2.2).toNat) ?_ _ _ (by grind) (by unfold fuel; grind)
 rintro next ⟨data_0,n_1,cmp_2,blockSize_6⟩ h hn
 try dsimp only at h hn
 unfold uh1_
 repeat' first
  | (with_reducible first | refine ug_.2 ⟨fun _=>?_,fun _=>?_⟩ | refine ua_.2 ?_ | refine ub_.2 ?_ | refine (upl_ _ ?_).mono fun _ _=>?_ | refine (ugp_ _ ?_).mono fun _ _=>?_ | refine hn _ ?_ ?_)
  | dsimp only
 all_goals grind [un_,uh_,uc_,uw_,ur_,u3_,u2_,u8le,uj_,ue_,uy_,ut_,uz_,xlc,xln,xmt,xmd]
theorem ur2_ (x:(List YY2)×Int×YY11) (h:(∀ p,Tot (x.2.2 p) fun _=>True)∧x.2.1=x.1.length∧x.2.1≤1048576):Tot (uc2_ x) (fun r:List YY2=>r.length=x.1.length∧(∀ q∈r,q∈x.1)):=by
 obtain ⟨data_0,n_1,cmp_2⟩:=x
 try dsimp only at h ⊢
 unfold uc2_
 repeat' first
  | (with_reducible first | refine ua_.2 ?_ | refine ub_.2 ?_ | refine (upk_ _ ?_).mono fun _ _=>?_ | refine (uey_ _ ?_).mono fun _ _=>?_ | refine (upm_ _ ?_).mono fun _ _=>?_)
  | dsimp only
 all_goals grind [un_,uh_,uc_,uw_,ur_,u3_,u2_,u8le,uj_,ue_,uy_,ut_,uz_,xlc,xln,xmt,xmd]
theorem uqy_ (x:(List YY2)×YY11) (h:(∀ p,Tot (x.2 p) fun _=>True)∧x.1.length≤1048576):Tot (ucs_ x) (fun r:List YY2=>r.length=x.1.length∧(∀ q∈r,q∈x.1)):=by
 obtain ⟨x_0,cmp_1⟩:=x
 try dsimp only at h ⊢
 unfold ucs_
 repeat' first
  | (with_reducible first | refine ua_.2 ?_ | refine ub_.2 ?_ | refine (ur2_ _ ?_).mono fun _ _=>?_)
  | dsimp only
 all_goals grind [un_,uh_,uc_,uw_,ur_,u3_,u2_,u8le,uj_,ue_,uy_,ut_,uz_,xlc,xln,xmt,xmd]
theorem ubsn_ (x:Str) (h:True):Tot (umh_ x) (fun r:Bool=>True):=by
 unfold umh_
 repeat' first
  | with_reducible refine ub_.2 ?_
  | dsimp only
 all_goals grind [un_,uh_,uc_,uw_,ur_,u3_,u2_,u8le,uj_,ue_,uy_,ut_,uz_,xlc,xln,xmt,xmd]
theorem u3j_ (x:Str×Str) (h:True):Tot (udj_ x) (fun r:Int=>-1≤r∧r≤1):=by
 obtain ⟨x_0,y_1⟩:=x
 try dsimp only at h ⊢
 unfold udj_
 repeat' first
  | (with_reducible first | refine ug_.2 ⟨fun _=>?_,fun _=>?_⟩ | refine ua_.2 ?_ | refine ub_.2 ?_ | refine (ubsn_ _ ?_).mono fun _ _=>?_)
  | dsimp only
 all_goals grind [un_,uh_,uc_,uw_,ur_,u3_,u2_,u8le,uj_,ue_,uy_,ut_,uz_,xlc,xln,xmt,xmd]
theorem ub13_ (x:(Str×Str)×(Str×Str)) (h:True):Tot (ube8_ x) (fun r:Int=>True):=by
 obtain ⟨a_0,b_1⟩:=x
 try dsimp only at h ⊢
 unfold ube8_
 repeat' first
  | (with_reducible first | refine ua_.2 ?_ | refine ub_.2 ?_ | refine (u3j_ _ ?_).mono fun _ _=>?_)
  | dsimp only
 all_goals grind [un_,uh_,uc_,uw_,ur_,u3_,u2_,u8le,uj_,ue_,uy_,ut_,uz_,xlc,xln,xmt,xmd]
theorem ubso_ (x:Str×Int×Int) (h:x.1.length≤3000∧x.2.1=0∧x.2.2 = -1):Tot (uw8_ x) (fun r:YY13×YY10=>r.1.2.2.2.2.1.length≤1048576):=by
 unfold uw8_
 obtain ⟨g1,g2,g3⟩:=h
 refine ua_.2 ((ubsl_ _ ⟨by dsimp only; omega,by dsimp only; omega,by dsimp only; omega⟩).mono fun r1 h1=>?_)
 dsimp only at h1
 refine ug_.2 ⟨fun _=>ub_.2 (by simp),fun _=>?_⟩
 refine ua_.2 ((u5v_ _ ⟨by rw [h1.1]; omega,h1.2.1,by rw [h1.1]; exact h1.2.2.1⟩).mono fun r2 h2=>?_)
 obtain ⟨a1,a2,a3,a4,a5,a6⟩:=h2
 rw [h1.1] at a1 a3
 rw [ubc_ (by omega) (by omega)]
 refine ua_.2 (us8_.2 ⟨⟨by omega,by omega,by omega⟩,?_⟩)
 have hj:(Lib.join ((r2.1.take ((r2.1.length:Int)-1).toNat).drop (0:Int).toNat) [47]).length≤1048577*(1048576+1):=ub95_ (fun s hs=>a6 s (uy_ hs)) (by rw [ut_]; omega) (by simp)
 refine ua_.2 ((und_ _ ⟨by dsimp only; rw [ut_]; omega,by dsimp only; omega⟩).mono fun r4 h4=>?_)
 refine ua_.2 (u1_.2 ⟨⟨by omega,by omega⟩,fun y5 hy5=>?_⟩)
 refine ua_.2 (Tot.mono (P:=fun r6:Int=>r6=0∨r2.2.2.1<r2.2.1.length) ?_ fun r6 h6=>?_)
 · refine ug_.2 ⟨fun _=>(ug3_ _ ⟨_,rfl,by omega⟩).mono fun r hr=>?_,fun _=>ub_.2 (Or.inl rfl)⟩
   rcases hr.2 with h | ⟨y,hy,h⟩
   · exact Or.inl h
   · cases hy; exact Or.inr h
 refine ua_.2 ((ubj1_ _ ⟨by dsimp only; rw [a1]; omega,by dsimp only; omega,by dsimp only; rw [a1]; omega,fun he=>?_,by simp⟩).mono fun r8 h8=>?_)
 · dsimp only at he ⊢
   rcases h6 with h6 | h6
   · subst h6
     simp [ur_] at he
   · exact h6
 dsimp only at h8
 obtain ⟨b1,b2,b3,b4,b5,b6,b7,b8⟩:=h8
 rw [a1] at b1 b3
 refine ua_.2 ((ubj2_ _ ⟨by dsimp only; rw [b1]; omega,by dsimp only; omega,by dsimp only; rw [b1]; omega,?_,by dsimp only; omega,?_⟩).mono fun r13 h13=>?_)
 · dsimp only; rw [b8]; simp; omega
 · dsimp only; rw [b8]; simp
 dsimp only at h13
 obtain ⟨c1,c2,c3,c4,c5,c6,c7,c8,c9,c10⟩:=h13
 rw [b1] at c1 c3
 refine ua_.2 (Tot.mono (P:=fun r14:Int=>r14=0∨r13.1.2.1<r13.1.1.length) ?_ fun r14 h14=>?_)
 · refine ug_.2 ⟨fun _=>(ug3_ _ ⟨_,rfl,by omega⟩).mono fun r hr=>?_,fun _=>ub_.2 (Or.inl rfl)⟩
   rcases hr.2 with h | ⟨y,hy,h⟩
   · exact Or.inl h
   · cases hy; exact Or.inr h
 refine ua_.2 ((ubj3_ _ ⟨by dsimp only; rw [c1]; omega,by dsimp only; omega,by dsimp only; rw [c1]; omega,fun he=>?_,?_⟩).mono fun r17 h17=>?_)
 · dsimp only at he ⊢
   rcases h14 with h14 | h14
   · subst h14
     simp [ur_] at he
   · exact h14
 · dsimp only; rw [c8,b8]; simp
 dsimp only at h17
 obtain ⟨d1,d2,d3,d4,d5,d6,d7,d8,d9⟩:=h17
 refine ug_.2 ⟨fun _=>ua_.2 ((ug2_ _ trivial).mono fun r19 _=>ub_.2 ?_),fun _=>ub_.2 ?_⟩ <;>
 · dsimp only; rw [d8]; exact c9
theorem ub14_ (x:YY16×YY13×Int) (h:1≤x.2.2∧x.2.1.2.2.2.2.1.length≤1048576):Tot (ubqv_ x) (fun r:Sum (YY16×YY13) (YY16×Int×Int)=>(∀ y,r=.inl y→y.2.2.2.2.2.1.length≤1048576)∧∀ y,r=.inr y→y.2.2≠0):=by
 refine uq_ (R:=fun r:Sum (YY16×YY13) (YY16×Int×Int)=>(∀ y,r=.inl y→y.2.2.2.2.2.1.length≤1048576)∧∀ y,r=.inr y→y.2.2≠0)
  (fun y:YY16×YY13×Int=>1≤y.2.2∧y.2.1.2.2.2.2.1.length≤1048576) (fun y:YY16×YY13×Int=>(y.2.1.2.2.2.2.1.length-y.2.2:Int).toNat) ?_ _ _ h (by unfold fuel; omega)
 rintro next ⟨t2,p,i⟩ h hn
 dsimp only at h hn
 unfold ub0k_
 dsimp only
 refine ug_.2 ⟨fun hc=>?_,fun _=>ub_.2 ⟨fun y hy=>by cases hy; exact h.2,fun y hy=>by cases hy⟩⟩
 have hc:=of_decide_eq_true hc
 rw [ubc_ (by omega) (by omega),ubc_ (by omega) (by omega)]
 refine ua_.2 (ucf_.2 ⟨⟨by omega,by omega⟩,?_⟩)
 refine ua_.2 (ucf_.2 ⟨⟨by omega,by omega⟩,?_⟩)
 refine ug_.2 ⟨fun _=>ub_.2 ⟨fun y hy=>(by cases hy),fun y hy=>(by cases hy; simp)⟩,fun _=>?_⟩
 exact hn _ ⟨by dsimp only; omega,by dsimp only; omega⟩ (by dsimp only; omega)
theorem ub7l_ (x:Str) (h:x.length≤1048576):Tot (ubzq_ x) (fun r:YY16×Int×Int=>r.2.2=0→r.1.2.2.2.2.1.length≤1048576):=by
 unfold ubzq_
 refine ug_.2 ⟨fun _=>ub_.2 (by simp),fun hc=>?_⟩
 have hc:=of_decide_eq_false hc
 refine ua_.2 ((ubso_ _ ⟨by dsimp only; omega,rfl,rfl⟩).mono fun r2 h2=>?_)
 refine ug_.2 ⟨fun _=>ub_.2 (by simp),fun _=>?_⟩
 refine ua_.2 ((uy7_ _ ⟨fun c=>clo (ub13_ c trivial),h2⟩).mono fun r4 h4=>?_)
 refine ua_.2 ((ub14_ _ ⟨by dsimp only; omega,by dsimp only; rw [h4.1]; exact h2⟩).mono fun r8 h8=>?_)
 rcases r8 with y | y
 · have hy:=h8.1 y rfl
   refine ua_.2 ((ubu4_ _ hy).mono fun r11 h11=>?_)
   refine ug_.2 ⟨fun he=>ub_.2 fun h0=>?_,fun he=>?_⟩
   · dsimp only at h0
     rw [h0,ur_] at he
     simp at he
   · rw [ur_] at he
     have h0:r11=0:=by simpa using he
     have hb:=h11 h0
     refine ua_.2 ((ubew_ _ hb).mono fun r14 h14=>ub_.2 fun _=>?_)
     have:=h14.2.2.2.2.2.1
     dsimp only
     omega
 · exact ub_.2 fun h0=>absurd h0 (h8.2 y rfl)
theorem ubxj_ (x:Str) (h:x.length≤1048576):Tot (u5z_ x) (fun r:Bool=>True):=by
 unfold u5z_
 repeat' first
  | (with_reducible first | refine ug_.2 ⟨fun _=>?_,fun _=>?_⟩ | refine ua_.2 ?_ | refine ub_.2 ?_ | refine (ub7l_ _ ?_).mono fun _ _=>?_ | refine (ub80_ _ ?_).mono fun _ _=>?_)
  | dsimp only
 all_goals grind [un_,uh_,uc_,uw_,ur_,u3_,u2_,u8le,uj_,ue_,uy_,ut_,uz_,xlc,xln,xmt,xmd]
end Go.Ev.Pv
