/-
  That the plain functions give an answer, third part; sorting of numbers, what is written down of advisories.
-/
import Derived.Test.YthepbdhoogphdaaGreatDoorA2
import Derived.Test.YthepbdhoogphdaaGreatDoorD
import Derived.KernelRfl
set_option linter.unusedVariables false
set_option linter.unusedSimpArgs false
set_option linter.unusedSectionVars false
set_option maxRecDepth 100000
namespace Go.Ev.Pv
theorem u90_ (x:YY5×YY25×Int×Int) (h:0≤x.2.2.2∧x.2.2.2≤x.2.2.1∧x.2.2.1=x.2.1.length∧x.2.2.1≤281474976710656∧(∀ v∈x.2.1,v.2.length≤1048576)∧(∀ j:Nat,(j:Int)<x.2.2.2→∀ v,x.2.1[j]? = some v→1≤v.1∧v.1≤3)):Tot (upt_ x) (fun r:Sum (Unit) (Int)=>(∀ y,r=.inl y→∀ v∈x.2.1,1≤v.1∧v.1≤3)∧∀ y,r=.inr y→y≠0):=by
 refine uq_ (R:=fun r:Sum Unit Int=>(∀ y,r=.inl y→∀ v∈x.2.1,1≤v.1∧v.1≤3)∧∀ y,r=.inr y→y≠0)
  (fun y:Af×YY25×Int×Int=>0≤y.2.2.2∧y.2.2.2≤y.2.2.1∧y.2.2.1=y.2.1.length∧y.2.2.1≤281474976710656∧y.2.1=x.2.1∧(∀ v∈y.2.1,v.2.length≤1048576)∧∀ j:Nat,(j:Int)<y.2.2.2→∀ v,y.2.1[j]? = some v→1≤v.1∧v.1≤3)
  (fun y=>(y.2.2.1-y.2.2.2).toNat) ?_ _ _ ⟨h.1,h.2.1,h.2.2.1,h.2.2.2.1,rfl,h.2.2.2.2⟩ (by unfold fuel; have:=h.2.2.2.1; omega)
 rintro next ⟨a,l,n,i⟩ hI hn
 dsimp only at hI hn
 obtain ⟨i0,i1,i2,i3,i4,i5,i6⟩:=hI
 unfold uzv_
 dsimp only
 refine ug_.2 ⟨fun hc=>?_,fun hc=>ub_.2 ⟨fun y _ v hv=>?_,fun y hy=>(by cases hy)⟩⟩
 · have hc:=of_decide_eq_true hc
   rw [ubc_ (by omega) (by omega)]
   refine ua_.2 (u1_.2 ⟨⟨i0,by omega⟩,fun v hv=>?_⟩)
   refine ug_.2 ⟨fun _=>ub_.2 ⟨fun y hy=>(by cases hy),fun y hy=>(by cases hy; decide)⟩,fun hk=>?_⟩
   have hk:1≤v.1∧v.1≤3:=by
    have:=Bool.or_eq_false_iff.1 hk
    have h1:=of_decide_eq_false this.1
    have h2:=of_decide_eq_false this.2
    omega
   have hstep:∀ j:Nat,(j:Int)<i+1→∀ v,l[j]? = some v→1≤v.1∧v.1≤3:=by
    intro j hj w hw
    by_cases hj':(j:Int)<i
    · exact i6 j hj' w hw
    · have:j=i.toNat:=by omega
      subst this
      rw [hv] at hw
      cases hw
      exact hk
   have hgo:Tot (next (a,l,n,i+1)) (fun r:Sum Unit Int=>(∀ y,r=.inl y→∀ v∈x.2.1,1≤v.1∧v.1≤3)∧∀ y,r=.inr y→y≠0) :=
    hn _ ⟨by dsimp only; omega,by dsimp only; omega,i2,i3,i4,i5,hstep⟩ (by dsimp only; omega)
   refine ug_.2 ⟨fun _=>ug_.2 ⟨fun _=>ub_.2 ⟨fun y hy=>(by cases hy),fun y hy=>(by cases hy; decide)⟩,fun _=>hgo⟩,fun _=>?_⟩
   refine ua_.2 ((uvc_ (a.2.1,v.2) (i5 v (uio_ hv))).mono fun r _=>?_)
   refine ug_.2 ⟨fun he=>ub_.2 ⟨fun y hy=>(by cases hy),fun y hy=>?_⟩,fun _=>hgo⟩
   cases hy
   rw [ur_] at he
   simpa using he
 · have hc:=of_decide_eq_false hc
   rw [← i4] at hv
   obtain ⟨j,hj,hjv⟩:=List.mem_iff_getElem.1 hv
   exact i6 j (by omega) v (by rw [← hjv]; exact List.getElem?_eq_getElem hj)
theorem ubhj_ (x:Str×Int×YY25×(List Str)×(List Str)) (h:AfB x):Tot (un5_ x) (fun r:Int=>r=0→x.2.2.1.length≤100∧∀ v∈x.2.2.1,1≤v.1∧v.1≤3):=by
 unfold un5_
 refine ug_.2 ⟨fun _=>ub_.2 fun h0=>absurd h0 (by decide),fun hc=>?_⟩
 have hc:=of_decide_eq_false hc
 refine ua_.2 ((u90_ _ ⟨Int.le_refl _,Int.natCast_nonneg _,rfl,by dsimp only; omega,h.2.2.1,fun j hj=>by dsimp only at hj; omega⟩).mono fun r hr=>?_)
 rcases r with r | r
 · exact ub_.2 fun _=>⟨by omega,hr.1 r rfl⟩
 · exact ub_.2 fun h0=>absurd h0 (hr.2 r rfl)
set_option maxHeartbeats 1000000 in
theorem u4l_ (x:Str×Bool×Int×Int) (h:0≤x.2.2.2∧x.2.2.2≤x.2.2.1∧x.2.2.1≤281474976710656∧x.2.2.1=x.1.length∧x.2.2.1≤1048576):Tot (ulg_ x) (fun r:Bool=>True):=by
 refine uq_ (R:=fun r:Bool=>True) (fun y:Str×Bool×Int×Int=>(0≤y.2.2.2∧y.2.2.2≤y.2.2.1∧y.2.2.1≤281474976710656∧y.2.2.1=y.1.length∧y.2.2.1≤1048576)) (fun y:Str×Bool×Int×Int=>(y.2.2.1-y.2.2.2).toNat) ?_ _ _ (by grind) (by unfold fuel; grind)
 rintro next ⟨s_4,bad_5,t25,t26⟩ h hn
 try dsimp only at h hn
 unfold uuc_
 repeat' first
  | (with_reducible first | refine ug_.2 ⟨fun _=>?_,fun _=>?_⟩ | refine ua_.2 ?_ | refine ub_.2 ?_ | refine u1_.2 ⟨?_,fun _ _=>?_⟩ | refine hn _ ?_ ?_)
  | dsimp only
 all_goals grind [un_,uh_,uc_,uw_,ur_,u3_,u2_,u8le,uj_,ue_,uy_,ut_,uz_,xlc,xln,xmt,xmd]
theorem u4m_ (x:(List Str)×(List Str)×Int×Int) (h:0≤x.2.2.2∧x.2.2.2≤x.2.2.1∧x.2.2.1=x.2.1.length∧x.2.2.1≤281474976710656∧x.1=x.2.1∧∀ s∈x.2.1,s.length≤1048576):Tot (ulh_ x) (fun r:Sum (Unit) (Int)=>∀ y,r=.inr y→y≠0):=by
 refine uq_ (R:=fun r:Sum Unit Int=>∀ y,r=.inr y→y≠0)
  (fun y:(List Str)×(List Str)×Int×Int=>0≤y.2.2.2∧y.2.2.2≤y.2.2.1∧y.2.2.1=y.2.1.length∧y.2.2.1≤281474976710656∧y.1=y.2.1∧∀ v∈y.2.1,v.length≤1048576)
  (fun y=>(y.2.2.1-y.2.2.2).toNat) ?_ _ _ h (by unfold fuel; have:=h.2.2.2.1; omega)
 rintro next ⟨a,l,n,i⟩ hI hn
 dsimp only at hI hn
 obtain ⟨i0,i1,i2,i3,i4,i5⟩:=hI
 subst i4
 unfold uud_
 dsimp only
 refine ug_.2 ⟨fun hc=>?_,fun hc=>ub_.2 fun y hy=>(by cases hy)⟩
 have hc:=of_decide_eq_true hc
 rw [ubc_ (n:=i+1) (by omega) (by omega),ubc_ (by omega) (by omega)]
 refine ua_.2 (u1_.2 ⟨⟨i0,by omega⟩,fun v hv=>?_⟩)
 have hvl:=i5 v (uio_ hv)
 refine ua_.2 ((u4l_ _ ⟨Int.le_refl _,Int.natCast_nonneg _,by dsimp only; omega,rfl,by dsimp only; omega⟩).mono fun r _=>?_)
 refine ug_.2 ⟨fun _=>ub_.2 fun y hy=>(by cases hy; decide),fun _=>?_⟩
 refine ua_.2 (Tot.mono (P:=fun _=>True) (ug_.2 ⟨fun hz=>?_,fun _=>ub_.2 trivial⟩) fun y7 _=>?_)
 · have hz:=of_decide_eq_true hz
   exact u1_.2 ⟨⟨by omega,by omega⟩,fun _ _=>trivial⟩
 · refine ug_.2 ⟨fun _=>ub_.2 fun y hy=>(by cases hy; decide),fun _=>?_⟩
   exact hn _ ⟨by dsimp only; omega,by dsimp only; omega,i2,i3,rfl,i5⟩ (by dsimp only; omega)
theorem u91_ (x:List Str) (h:∀ s∈x,s.length≤1048576):Tot (ujp_ x) (fun r:Int=>True):=by
 unfold ujp_
 repeat' first
  | (with_reducible first | refine ug_.2 ⟨fun _=>?_,fun _=>?_⟩ | refine ua_.2 ?_ | refine ub_.2 ?_ | refine (u4m_ _ ?_).mono fun _ _=>?_)
  | split
  | dsimp only
 all_goals grind [un_,uh_,uc_,uw_,ur_,u3_,u2_,u8le,uj_,ue_,uy_,ut_,uz_,xlc,xln,xmt,xmd]
theorem u6i_ (x:YY5×(List Str)×Int×Int) (h:0≤x.2.2.2∧x.2.2.2≤x.2.2.1∧x.2.2.1=x.2.1.length∧x.2.2.1≤281474976710656∧∀ s∈x.2.1,s.length≤1048576):Tot (umi_ x) (fun r:Sum YY5 (Int)=>(∀ y,r=.inl y→y=x.1)∧∀ y,r=.inr y→y≠0):=by
 refine uq_ (R:=fun r:Sum YY5 (Int)=>(∀ y,r=.inl y→y=x.1)∧∀ y,r=.inr y→y≠0) (fun y:YY5×(List Str)×Int×Int=>(0≤y.2.2.2∧y.2.2.2≤y.2.2.1∧y.2.2.1=y.2.1.length∧y.2.2.1≤281474976710656∧∀ s∈y.2.1,s.length≤1048576)∧y.1=x.1) (fun y:YY5×(List Str)×Int×Int=>(y.2.2.1-y.2.2.2).toNat) ?_ _ _ (by grind) (by unfold fuel; grind)
 rintro next ⟨a_1,t32,t33,t34⟩ h hn
 try dsimp only at h hn
 unfold uv8_
 repeat' first
  | (with_reducible first | refine ug_.2 ⟨fun _=>?_,fun _=>?_⟩ | refine ua_.2 ?_ | refine ub_.2 ?_ | refine u1_.2 ⟨?_,fun _ _=>?_⟩ | refine (uvc_ _ ?_).mono fun _ _=>?_ | refine hn _ ?_ ?_)
  | dsimp only
 all_goals grind [un_,uh_,uc_,uw_,ur_,u3_,u2_,u8le,uj_,ue_,uy_,ut_,uz_,xlc,xln,xmt,xmd]
theorem ubcl_ (x:Str×Int×YY25×(List Str)×(List Str)) (h:AfB x):Tot (ukr_ x) (fun r:Int=>r=0→AfK x):=by
 unfold ukr_
 refine ua_.2 ((ubxj_ _ h.1).mono fun r1 _=>?_)
 refine ug_.2 ⟨fun _=>ub_.2 fun h0=>absurd h0 (by decide),fun _=>?_⟩
 refine ug_.2 ⟨fun _=>ub_.2 fun h0=>absurd h0 (by decide),fun _=>?_⟩
 refine ua_.2 ((ubhj_ _ h).mono fun r3 h3=>?_)
 refine ug_.2 ⟨fun he=>ub_.2 fun h0=>?_,fun he=>?_⟩
 · rw [ur_,h0] at he; simp at he
 have h30:r3=0:=by rw [ur_] at he; simpa using he
 refine ug_.2 ⟨fun _=>ub_.2 fun h0=>absurd h0 (by decide),fun hc=>?_⟩
 have hc:=of_decide_eq_false hc
 refine ua_.2 ((u6i_ _ ⟨Int.le_refl _,Int.natCast_nonneg _,rfl,by dsimp only; omega,h.2.2.2.2.1⟩).mono fun r6 h6=>?_)
 rcases r6 with y | y
 · have:=h6.1 y rfl
   subst this
   exact ua_.2 ((u91_ _ h.2.2.2.2.2.2).mono fun r8 _=>ub_.2 fun _=>⟨(h3 h30).1,(h3 h30).2,by omega⟩)
 · exact ub_.2 fun h0=>absurd h0 (h6.2 y rfl)
theorem ubxk_ (x:Unit) (h:True):Tot (u50_ x) (fun r:List Int=>r.length=4):=by
 unfold u50_
 repeat' first
  | with_reducible refine ub_.2 ?_
  | dsimp only
 all_goals grind [un_,uh_,uc_,uw_,ur_,u3_,u2_,u8le,uj_,ue_,uy_,ut_,uz_,xlc,xln,xmt,xmd]
theorem ubcm_ (x:(Int→Option Str)×(List Int)×(List Int)×Int×Int) (h:0≤x.2.2.2.2∧x.2.2.2.2≤x.2.2.2.1∧x.2.2.2.1=x.2.2.1.length∧x.2.2.2.1≤281474976710656∧(∀ n∈x.2.2.1,Tot (x.1 n) fun s=>s.length≤100)∧x.2.2.2.1≤1002∧x.2.1.length≤100*x.2.2.2.2):Tot (uq5_ x) (fun r:List Int=>r.length≤100200):=by
 refine uq_ (R:=fun r:List Int=>r.length≤100200) (fun y:(Int→Option Str)×(List Int)×(List Int)×Int×Int=>0≤y.2.2.2.2∧y.2.2.2.2≤y.2.2.2.1∧y.2.2.2.1=y.2.2.1.length∧y.2.2.2.1≤281474976710656∧(∀ n∈y.2.2.1,Tot (y.1 n) fun s=>s.length≤100)∧y.2.2.2.1≤1002∧y.2.1.length≤100*y.2.2.2.2)
  (fun y=>(y.2.2.2.1-y.2.2.2.2).toNat) ?_ _ _ h (by unfold fuel; have:=h.2.2.2.1; omega)
 rintro next ⟨f,b,l,n,i⟩ hI hn
 dsimp only at hI hn
 obtain ⟨i0,i1,i2,i3,i4,i5,i6⟩:=hI
 unfold u2d_
 dsimp only
 refine ug_.2 ⟨fun hc=>?_,fun hc=>ub_.2 (by omega)⟩
 have hc:=of_decide_eq_true hc
 rw [ubc_ (by omega) (by omega)]
 refine ua_.2 (u1_.2 ⟨⟨i0,by omega⟩,fun v hv=>?_⟩)
 refine ua_.2 ((i4 v (uio_ hv)).mono fun s hs=>?_)
 refine ua_.2 ((ucy_ _ ⟨by dsimp only; omega,by dsimp only; omega⟩).mono fun r3 h3=>?_)
 dsimp only at h3
 exact hn _ ⟨by dsimp only; omega,by dsimp only; omega,i2,i3,i4,i5,by dsimp only; omega⟩ (by dsimp only; omega)
theorem u0n_ (x:(List Int)×Str×(Int→Option Str)) (h:(∀ n∈x.1,Tot (x.2.2 n) fun s=>s.length≤100)∧x.1.length≤1002∧x.2.1.length≤10):Tot (uks_ x) (fun r:Str=>r.length≤100210):=by
 obtain ⟨l,e,f⟩:=x
 dsimp only at h ⊢
 unfold uks_
 obtain ⟨h1,h2,h3⟩:=h
 dsimp only
 refine ua_.2 ((ubcm_ _ ⟨Int.le_refl _,Int.natCast_nonneg _,rfl,by dsimp only; omega,h1,by dsimp only; omega,by simp⟩).mono fun r hr=>?_)
 refine ua_.2 ((uch_ _ trivial).mono fun s hs=>?_)
 exact ua_.2 (uek_.2 ⟨by omega,ub_.2 (by rw [List.length_append]; omega)⟩)
theorem u6j_ (x:(Str→Option Str)×(List Int)×(List Str)×Int×Int) (h:0≤x.2.2.2.2∧x.2.2.2.2≤x.2.2.2.1∧x.2.2.2.1=x.2.2.1.length∧x.2.2.2.1≤281474976710656∧(∀ n∈x.2.2.1,Tot (x.1 n) fun s=>s.length≤3000)∧x.2.2.2.1≤1002∧x.2.1.length≤3000*x.2.2.2.2):Tot (umj_ x) (fun r:List Int=>r.length≤3006000):=by
 refine uq_ (R:=fun r:List Int=>r.length≤3006000) (fun y:(Str→Option Str)×(List Int)×(List Str)×Int×Int=>0≤y.2.2.2.2∧y.2.2.2.2≤y.2.2.2.1∧y.2.2.2.1=y.2.2.1.length∧y.2.2.2.1≤281474976710656∧(∀ n∈y.2.2.1,Tot (y.1 n) fun s=>s.length≤3000)∧y.2.2.2.1≤1002∧y.2.1.length≤3000*y.2.2.2.2)
  (fun y=>(y.2.2.2.1-y.2.2.2.2).toNat) ?_ _ _ h (by unfold fuel; have:=h.2.2.2.1; omega)
 rintro next ⟨f,b,l,n,i⟩ hI hn
 dsimp only at hI hn
 obtain ⟨i0,i1,i2,i3,i4,i5,i6⟩:=hI
 unfold uv9_
 dsimp only
 refine ug_.2 ⟨fun hc=>?_,fun hc=>ub_.2 (by omega)⟩
 have hc:=of_decide_eq_true hc
 rw [ubc_ (by omega) (by omega)]
 refine ua_.2 (u1_.2 ⟨⟨i0,by omega⟩,fun v hv=>?_⟩)
 refine ua_.2 ((i4 v (uio_ hv)).mono fun s hs=>?_)
 refine ua_.2 ((ucy_ _ ⟨by dsimp only; omega,by dsimp only; omega⟩).mono fun r3 h3=>?_)
 dsimp only at h3
 exact hn _ ⟨by dsimp only; omega,by dsimp only; omega,i2,i3,i4,i5,by dsimp only; omega⟩ (by dsimp only; omega)
theorem uuy_ (x:(List Str)×Str×(Str→Option Str)) (h:(∀ n∈x.1,Tot (x.2.2 n) fun s=>s.length≤3000)∧x.1.length≤1002∧x.2.1.length≤10):Tot (uhe_ x) (fun r:Str=>r.length≤3006010):=by
 obtain ⟨l,e,f⟩:=x
 dsimp only at h ⊢
 unfold uhe_
 obtain ⟨h1,h2,h3⟩:=h
 dsimp only
 refine ua_.2 ((u6j_ _ ⟨Int.le_refl _,Int.natCast_nonneg _,rfl,by dsimp only; omega,h1,by dsimp only; omega,by simp⟩).mono fun r hr=>?_)
 refine ua_.2 ((uch_ _ trivial).mono fun s hs=>?_)
 exact ua_.2 (uek_.2 ⟨by omega,ub_.2 (by rw [List.length_append]; omega)⟩)
theorem ubva_ (x:Str) (h:x.length≤1000):Tot (u1v_ x) (fun r:Str=>r.length≤3000):=by
 unfold u1v_
 repeat' first
  | (with_reducible first | refine ug_.2 ⟨fun _=>?_,fun _=>?_⟩ | refine ua_.2 ?_ | refine ub_.2 ?_ | refine u1_.2 ⟨?_,fun _ _=>?_⟩ | refine uek_.2 ⟨?_,?_⟩ | refine (ucc_ _ ?_).mono fun _ _=>?_ | refine (ubz_ _ ?_).mono fun _ _=>?_)
  | dsimp only
 all_goals grind [un_,uh_,uc_,uw_,ur_,u3_,u2_,u8le,uj_,ue_,uy_,ut_,uz_,xlc,xln,xmt,xmd]
theorem u3k_ (x:(List Int)×(List Str)) (h:DOK x):Tot (umk_ x) (fun r:Str=>r.length≤10000000):=by
 unfold umk_
 obtain ⟨h1,h2,h3,h4⟩:=h
 refine ua_.2 (us8_.2 ⟨⟨by omega,by omega,by omega⟩,?_⟩)
 refine ua_.2 ((u0n_ _ ⟨fun n hn=>ua_.2 ((ubz_ n (h2 n (uy_ hn))).mono fun r hr=>ub_.2 (by omega)),by dsimp only; rw [ut_]; omega,by simp⟩).mono fun r2 hr2=>?_)
 refine ug_.2 ⟨fun _=>ua_.2 (uek_.2 ⟨by simp; omega,ub_.2 (by simp; omega)⟩),fun _=>?_⟩
 refine ua_.2 (uek_.2 ⟨by simp; omega,?_⟩)
 refine ua_.2 ((uuy_ _ ⟨fun s hs=>ua_.2 ((ubva_ s (h4 s hs)).mono fun r hr=>ub_.2 hr),h3,by simp⟩).mono fun r5 hr5=>?_)
 exact ua_.2 (uek_.2 ⟨by simp; omega,ub_.2 (by simp; omega)⟩)
theorem u0o_ (x:Int×Str×Str×Bool) (h:ROK x):Tot (ukt_ x) (fun r:Str=>r.length≤10000000):=by
 unfold ukt_
 repeat' first
  | (with_reducible first | refine ua_.2 ?_ | refine ub_.2 ?_ | refine u1_.2 ⟨?_,fun _ _=>?_⟩ | refine uek_.2 ⟨?_,?_⟩ | refine (ubz_ _ ?_).mono fun _ _=>?_ | refine (u3i_ _ ?_).mono fun _ _=>?_ | refine (uy5_ _ ?_).mono fun _ _=>?_)
  | dsimp only
 all_goals grind [un_,uh_,uc_,uw_,ur_,u3_,u2_,u8le,uj_,ue_,uy_,ut_,uz_,xlc,xln,xmt,xmd]
theorem ube3_ (x:Int) (h:0≤x∧x≤999999999999999999):Tot (ul2_ x) (fun r:Str=>r.length≤100):=by
 unfold ul2_
 repeat' first
  | (with_reducible first | refine ua_.2 ?_ | refine ub_.2 ?_ | refine u1_.2 ⟨?_,fun _ _=>?_⟩ | refine uek_.2 ⟨?_,?_⟩ | refine (ubz_ _ ?_).mono fun _ _=>?_)
  | dsimp only
 all_goals grind [un_,uh_,uc_,uw_,ur_,u3_,u2_,u8le,uj_,ue_,uy_,ut_,uz_,xlc,xln,xmt,xmd]
theorem ubhk_ (x:Int×(List Int)×Int×Int×Int×Int×(List Str)) (h:0≤x.2.2.1∧x.2.2.1≤3):Tot (un6_ x) (fun r:Int=>0≤r∧r≤4):=by
 unfold un6_
 repeat' first
  | (with_reducible first | refine ug_.2 ⟨fun _=>?_,fun _=>?_⟩ | refine ub_.2 ?_)
  | dsimp only
 all_goals grind [un_,uh_,uc_,uw_,ur_,u3_,u2_,u8le,uj_,ue_,uy_,ut_,uz_,xlc,xln,xmt,xmd]
theorem ubzi_ (x:Int) (h:x≤999999999999999999):Tot (ubaa_ x) (fun r:Str=>r.length≤30):=by
 unfold ubaa_
 repeat' first
  | (with_reducible first | refine ug_.2 ⟨fun _=>?_,fun _=>?_⟩ | refine ua_.2 ?_ | refine ub_.2 ?_ | refine u1_.2 ⟨?_,fun _ _=>?_⟩ | refine uek_.2 ⟨?_,?_⟩ | refine (ubz_ _ ?_).mono fun _ _=>?_)
  | dsimp only
 all_goals grind [un_,uh_,uc_,uw_,ur_,u3_,u2_,u8le,uj_,ue_,uy_,ut_,uz_,xlc,xln,xmt,xmd]
theorem ubsp_ (x:Str) (h:x.length≤1000):Tot (uxg_ x) (fun r:Str=>r.length≤3000):=by
 unfold uxg_
 repeat' first
  | (with_reducible first | refine ug_.2 ⟨fun _=>?_,fun _=>?_⟩ | refine ua_.2 ?_ | refine ub_.2 ?_ | refine u1_.2 ⟨?_,fun _ _=>?_⟩ | refine uek_.2 ⟨?_,?_⟩ | refine (ucc_ _ ?_).mono fun _ _=>?_ | refine (ubz_ _ ?_).mono fun _ _=>?_)
  | dsimp only
 all_goals grind [un_,uh_,uc_,uw_,ur_,u3_,u2_,u8le,uj_,ue_,uy_,ut_,uz_,xlc,xln,xmt,xmd]
theorem ube4_ (x:YY9×Str×Bool) (h:(x.2.2=true→0≤x.1.2.2.2.2.2.1∧x.1.2.2.2.2.2.1≤999999999999999999)∧x.2.1.length≤10000000):Tot (ul3_ x) (fun r:YY9×Str=>r.1=x.1∧r.2.length≤x.2.1.length+30):=by
 obtain ⟨v_1,s_3,t27⟩:=x
 try dsimp only at h ⊢
 unfold ul3_
 repeat' first
  | (with_reducible first | refine ug_.2 ⟨fun _=>?_,fun _=>?_⟩ | refine ua_.2 ?_ | refine ub_.2 ?_ | refine u1_.2 ⟨?_,fun _ _=>?_⟩ | refine uek_.2 ⟨?_,?_⟩ | refine (ubz_ _ ?_).mono fun _ _=>?_)
  | dsimp only
 all_goals grind [un_,uh_,uc_,uw_,ur_,u3_,u2_,u8le,uj_,ue_,uy_,ut_,uz_,xlc,xln,xmt,xmd]
theorem u3l_ (x:Int×(List Int)×Int×Int×Int×Int×(List Str)) (h:SOK x):Tot (uml_ x) (fun r:Str=>r.length≤10000000):=by
 unfold uml_
 obtain ⟨h1,h2,h3,h4,h5,h6,h7⟩:=h
 refine ua_.2 ((ubz_ _ h1).mono fun r1 g1=>?_)
 refine ua_.2 ((ubbd_ _ h2).mono fun r2 g2=>?_)
 refine ua_.2 ((u0n_ _ ⟨fun n hn=>ua_.2 ((ube3_ n (g2.2 n hn)).mono fun r hr=>ub_.2 hr),g2.1,by simp⟩).mono fun r3 g3=>?_)
 refine ua_.2 (uek_.2 ⟨by omega,?_⟩)
 refine ua_.2 ((ubhk_ _ h3).mono fun r5 g5=>?_)
 refine ua_.2 ((ubq_ _ trivial).mono fun r6 g6=>?_)
 refine ua_.2 ((ubz_ _ h4).mono fun r7 g7=>?_)
 refine ua_.2 (uek_.2 ⟨by omega,?_⟩)
 refine ua_.2 ((ubzi_ _ h5.2).mono fun r9 g9=>?_)
 refine ua_.2 (uek_.2 ⟨by rw [List.length_append]; omega,?_⟩)
 refine ua_.2 (uek_.2 ⟨by simp only [List.length_append]; omega,?_⟩)
 refine ua_.2 ((ube4_ _ ⟨fun he=>⟨of_decide_eq_true he,h6.2⟩,by simp only [List.length_append]; omega⟩).mono fun r16 g16=>?_)
 simp only [List.length_append] at g16
 refine ug_.2 ⟨fun _=>ua_.2 (uek_.2 ⟨by simp; omega,ub_.2 (by simp; omega)⟩),fun _=>?_⟩
 refine ua_.2 (uek_.2 ⟨by simp; omega,?_⟩)
 refine ua_.2 ((uuy_ _ ⟨fun s hs=>ua_.2 ((ubsp_ s (h7.2 s (by rw [g16.1] at hs; exact hs))).mono fun r hr=>ub_.2 hr),by dsimp only; rw [g16.1]; exact h7.1,by simp⟩).mono fun r19 g19=>?_)
 exact ua_.2 (uek_.2 ⟨by simp; omega,ub_.2 (by simp; omega)⟩)
theorem ubin_ (x:Unit) (h:True):Tot (u2e_ x) (fun r:List Str=>r.length=5):=by
 unfold u2e_
 repeat' first
  | with_reducible refine ub_.2 ?_
  | dsimp only
 all_goals grind [un_,uh_,uc_,uw_,ur_,u3_,u2_,u8le,uj_,ue_,uy_,ut_,uz_,xlc,xln,xmt,xmd]
theorem ubcn_ (x:(List Str)×Str×Int×Int) (h:0≤x.2.2.2∧x.2.2.2≤x.2.2.1∧x.2.2.1=x.1.length∧x.2.2.1≤281474976710656):Tot (uq7_ x) (fun r:Sum (Unit) (Int)=>∀ y,r=.inr y→0≤y∧y<x.1.length):=by
 refine uq_ (R:=fun r:Sum (Unit) (Int)=>∀ y,r=.inr y→0≤y∧y<x.1.length) (fun y:(List Str)×Str×Int×Int=>(0≤y.2.2.2∧y.2.2.2≤y.2.2.1∧y.2.2.1=y.1.length∧y.2.2.1≤281474976710656)∧y.1=x.1) (fun y:(List Str)×Str×Int×Int=>(y.2.2.1-y.2.2.2).toNat) ?_ _ _ (by grind) (by unfold fuel; grind)
 rintro next ⟨s_0,v_1,t7,t8⟩ h hn
 try dsimp only at h hn
 unfold uq6_
 repeat' first
  | (with_reducible first | refine ug_.2 ⟨fun _=>?_,fun _=>?_⟩ | refine ua_.2 ?_ | refine ub_.2 ?_ | refine u1_.2 ⟨?_,fun _ _=>?_⟩ | refine hn _ ?_ ?_)
  | dsimp only
 all_goals grind [un_,uh_,uc_,uw_,ur_,u3_,u2_,u8le,uj_,ue_,uy_,ut_,uz_,xlc,xln,xmt,xmd]
theorem uqc_ (x:(List Str)×Str) (h:x.1.length≤1048576):Tot (uf4_ x) (fun r:Int=>-1≤r∧r<x.1.length):=by
 obtain ⟨s_0,v_1⟩:=x
 try dsimp only at h ⊢
 unfold uf4_
 repeat' first
  | (with_reducible first | refine ua_.2 ?_ | refine ub_.2 ?_ | refine (ubcn_ _ ?_).mono fun _ _=>?_)
  | split
  | dsimp only
 all_goals grind [un_,uh_,uc_,uw_,ur_,u3_,u2_,u8le,uj_,ue_,uy_,ut_,uz_,xlc,xln,xmt,xmd]
theorem ubco_ (x:(List Str)×Str) (h:x.1.length≤1048576):Tot (ud3_ x) (fun r:Bool=>True):=by
 obtain ⟨s_0,v_1⟩:=x
 try dsimp only at h ⊢
 unfold ud3_
 repeat' first
  | (with_reducible first | refine ua_.2 ?_ | refine ub_.2 ?_ | refine (uqc_ _ ?_).mono fun _ _=>?_)
  | dsimp only
 all_goals grind [un_,uh_,uc_,uw_,ur_,u3_,u2_,u8le,uj_,ue_,uy_,ut_,uz_,xlc,xln,xmt,xmd]
theorem uy8_ (x:Bool×Str×Int) (h:True):Tot (uja_ x) (fun r:Bool=>True):=by
 unfold uja_
 repeat' first
  | (with_reducible first | refine ug_.2 ⟨fun _=>?_,fun _=>?_⟩ | refine ua_.2 ?_ | refine ub_.2 ?_ | refine (ubin_ _ ?_).mono fun _ _=>?_ | refine (ubco_ _ ?_).mono fun _ _=>?_)
  | dsimp only
 all_goals grind [un_,uh_,uc_,uw_,ur_,u3_,u2_,u8le,uj_,ue_,uy_,ut_,uz_,xlc,xln,xmt,xmd]
theorem ubsq_ (x:Bool×Str×Int) (h:x.2.1.length≤5000∧0≤x.2.2∧x.2.2≤999999999999999999):Tot (uq8_ x) (fun r:Str=>r.length≤6000):=by
 unfold uq8_
 repeat' first
  | (with_reducible first | refine ug_.2 ⟨fun _=>?_,fun _=>?_⟩ | refine ua_.2 ?_ | refine ub_.2 ?_ | refine u1_.2 ⟨?_,fun _ _=>?_⟩ | refine uek_.2 ⟨?_,?_⟩ | refine (ubz_ _ ?_).mono fun _ _=>?_ | refine (uy8_ _ ?_).mono fun _ _=>?_ | refine (ubin_ _ ?_).mono fun _ _=>?_ | refine (uqc_ _ ?_).mono fun _ _=>?_ | refine (ubq_ _ ?_).mono fun _ _=>?_)
  | dsimp only
 all_goals grind [un_,uh_,uc_,uw_,ur_,u3_,u2_,u8le,uj_,ue_,uy_,ut_,uz_,xlc,xln,xmt,xmd]
theorem u8m_ (x:Str×Int×(List YY19)×Int×Int) (h:0≤x.2.2.2.2∧x.2.2.2.2≤x.2.2.2.1∧x.2.2.2.1=x.2.2.1.length∧x.2.2.2.1≤281474976710656∧x.1.length≤7000*x.2.2.2.2∧0≤x.2.1∧x.2.1≤x.2.2.2.2∧x.2.2.2.1≤1002∧(∀ t∈x.2.2.1,t.2.1.length≤5000∧0≤t.2.2∧t.2.2≤999999999999999999)):Tot (un7_ x) (fun r:Str=>r.length≤7014000):=by
 refine uq_ (R:=fun r:Str=>r.length≤7014000) (fun y:Str×Int×(List YY19)×Int×Int=>(0≤y.2.2.2.2∧y.2.2.2.2≤y.2.2.2.1∧y.2.2.2.1=y.2.2.1.length∧y.2.2.2.1≤281474976710656∧y.1.length≤7000*y.2.2.2.2∧0≤y.2.1∧y.2.1≤y.2.2.2.2∧y.2.2.2.1≤1002∧(∀ t∈y.2.2.1,t.2.1.length≤5000∧0≤t.2.2∧t.2.2≤999999999999999999))) (fun y:Str×Int×(List YY19)×Int×Int=>(y.2.2.2.1-y.2.2.2.2).toNat) ?_ _ _ (by grind) (by unfold fuel; grind)
 rintro next ⟨s_3,blanks_4,t8,t9,t10⟩ h hn
 try dsimp only at h hn
 unfold uxh_
 repeat' first
  | (with_reducible first | refine ug_.2 ⟨fun _=>?_,fun _=>?_⟩ | refine ua_.2 ?_ | refine ub_.2 ?_ | refine u1_.2 ⟨?_,fun _ _=>?_⟩ | refine uek_.2 ⟨?_,?_⟩ | refine (uqb_ _ ?_).mono fun _ _=>?_ | refine (uy8_ _ ?_).mono fun _ _=>?_ | refine (ubq_ _ ?_).mono fun _ _=>?_ | refine (ubsq_ _ ?_).mono fun _ _=>?_ | refine hn _ ?_ ?_)
  | dsimp only
 all_goals grind [un_,uh_,uc_,uw_,ur_,u3_,u2_,u8le,uj_,ue_,uy_,ut_,uz_,xlc,xln,xmt,xmd]
theorem uws_ (x:List YY19) (h:TS x):Tot (uil_ x) (fun r:Str=>r.length≤10000000):=by
 unfold uil_
 repeat' first
  | (with_reducible first | refine ua_.2 ?_ | refine ub_.2 ?_ | refine u1_.2 ⟨?_,fun _ _=>?_⟩ | refine uek_.2 ⟨?_,?_⟩ | refine (u8m_ _ ?_).mono fun _ _=>?_)
  | dsimp only
 all_goals grind [un_,uh_,uc_,uw_,ur_,u3_,u2_,u8le,uj_,ue_,uy_,ut_,uz_,xlc,xln,xmt,xmd]
theorem u5x_ (x:Int) (h:0≤x∧x≤999999999999999999):Tot (uo1_ x) (fun r:Str=>r.length≤10000000):=by
 unfold uo1_
 repeat' first
  | (with_reducible first | refine ua_.2 ?_ | refine ub_.2 ?_ | refine (ubz_ _ ?_).mono fun _ _=>?_)
  | dsimp only
 all_goals grind [un_,uh_,uc_,uw_,ur_,u3_,u2_,u8le,uj_,ue_,uy_,ut_,uz_,xlc,xln,xmt,xmd]
theorem ub3d_ (x:Int×Str) (h:x.2.length≤1048576):Tot (ubnk_ x) (fun r:Str×Int=>r.1.length≤10000000):=by
 unfold ubnk_
 refine ua_.2 ((u8k_ _ h).mono fun r1 h1=>?_)
 refine ug_.2 ⟨fun _=>ub_.2 (by simp),fun he=>?_⟩
 have h0:r1.2=0:=by rw [ur_] at he; simpa using he
 have hv:=h1 h0
 revert hv
 generalize r1.1=v
 intro hv
 refine ua_.2 (Tot.mono (P:=fun r:Str=>r.length≤10000000) ?_ fun r2 hr=>ub_.2 hr)
 · rcases v with x | x | x | x | x | x
   · exact ua_.2 ((u3k_ _ hv).mono fun _ h=>ub_.2 (by omega))
   · exact ua_.2 ((u0o_ _ hv).mono fun _ h=>ub_.2 (by omega))
   · exact ua_.2 ((u3l_ _ hv).mono fun _ h=>ub_.2 (by omega))
   · exact ua_.2 ((uws_ _ hv).mono fun _ h=>ub_.2 (by omega))
   · exact ua_.2 ((u5x_ _ hv).mono fun _ h=>ub_.2 (by omega))
   · exact hv.elim
theorem ubzj_ (x:Int×(List Int)×Int×Int) (h:0≤x.2.2.2∧x.2.2.2≤x.2.2.1∧x.2.2.1=x.2.1.length∧x.2.2.1≤281474976710656):Tot (ubkn_ x) (fun r:Sum (Unit) (Int)=>True):=by
 refine uq_ (R:=fun r:Sum (Unit) (Int)=>True) (fun y:Int×(List Int)×Int×Int=>(0≤y.2.2.2∧y.2.2.2≤y.2.2.1∧y.2.2.1=y.2.1.length∧y.2.2.1≤281474976710656)) (fun y:Int×(List Int)×Int×Int=>(y.2.2.1-y.2.2.2).toNat) ?_ _ _ (by grind) (by unfold fuel; grind)
 rintro next ⟨zero_3,t6,t7,t8⟩ h hn
 try dsimp only at h hn
 unfold ubxu_
 repeat' first
  | (with_reducible first | refine ug_.2 ⟨fun _=>?_,fun _=>?_⟩ | refine ua_.2 ?_ | refine ub_.2 ?_ | refine u1_.2 ⟨?_,fun _ _=>?_⟩ | refine hn _ ?_ ?_)
  | dsimp only
 all_goals grind [un_,uh_,uc_,uw_,ur_,u3_,u2_,u8le,uj_,ue_,uy_,ut_,uz_,xlc,xln,xmt,xmd]
theorem ubvb_ (x:List Int) (h:x.length≤1048576):Tot (ubko_ x) (fun r:Int=>True):=by
 unfold ubko_
 repeat' first
  | (with_reducible first | refine ua_.2 ?_ | refine ub_.2 ?_ | refine (ubzj_ _ ?_).mono fun _ _=>?_)
  | split
  | dsimp only
 all_goals grind [un_,uh_,uc_,uw_,ur_,u3_,u2_,u8le,uj_,ue_,uy_,ut_,uz_,xlc,xln,xmt,xmd]
theorem ubj7_ (x:YY2×YY2) (h:True):Tot (uqh_ x) (fun r:Int=>True):=by
 obtain ⟨x_0,y_1⟩:=x
 try dsimp only at h ⊢
 unfold uqh_
 repeat' first
  | (with_reducible first | refine ua_.2 ?_ | refine ub_.2 ?_ | refine (u3j_ _ ?_).mono fun _ _=>?_ | refine (ubu6_ _ ?_).mono fun _ _=>?_ | refine (ubvb_ _ ?_).mono fun _ _=>?_)
  | dsimp only
 all_goals grind [un_,uh_,uc_,uw_,ur_,u3_,u2_,u8le,uj_,ue_,uy_,ut_,uz_,xlc,xln,xmt,xmd]
theorem ubj8_ (x:YY5×(List YY2)×YY25×Int×Int) (h:0≤x.2.2.2.2∧x.2.2.2.2≤x.2.2.2.1∧x.2.2.2.1=x.2.2.1.length∧x.2.2.2.1≤281474976710656∧x.2.1.length≤x.2.2.2.2∧(∀ m∈x.2.1,m.2.2.1.length≤100)∧(∀ v∈x.2.2.1,v.2.length≤1048576∧1≤v.1∧v.1≤3)∧x.2.2.2.1≤100):Tot (uxi_ x) (fun r:List YY2=>r.length≤100∧∀ m∈r,m.2.2.1.length≤100):=by
 refine uq_ (R:=fun r:List YY2=>r.length≤100∧∀ m∈r,m.2.2.1.length≤100) (fun y:YY5×(List YY2)×YY25×Int×Int=>(0≤y.2.2.2.2∧y.2.2.2.2≤y.2.2.2.1∧y.2.2.2.1=y.2.2.1.length∧y.2.2.2.1≤281474976710656∧y.2.1.length≤y.2.2.2.2∧(∀ m∈y.2.1,m.2.2.1.length≤100)∧(∀ v∈y.2.2.1,v.2.length≤1048576∧1≤v.1∧v.1≤3)∧y.2.2.2.1≤100)) (fun y:YY5×(List YY2)×YY25×Int×Int=>(y.2.2.2.1-y.2.2.2.2).toNat) ?_ _ _ (by grind) (by unfold fuel; grind)
 rintro next ⟨a_1,out_3,t8,t9,t10⟩ h hn
 try dsimp only at h hn
 unfold ubac_
 repeat' first
  | (with_reducible first | refine ug_.2 ⟨fun _=>?_,fun _=>?_⟩ | refine ua_.2 ?_ | refine ub_.2 ?_ | refine u1_.2 ⟨?_,fun _ _=>?_⟩ | refine ule_.2 ⟨?_,?_⟩ | refine (ubxk_ _ ?_).mono fun _ _=>?_ | refine (ub3d_ _ ?_).mono fun _ _=>?_ | refine (uvc_ _ ?_).mono fun _ _=>?_ | refine hn _ ?_ ?_)
  | dsimp only
 all_goals grind [un_,uh_,uc_,uw_,ur_,u3_,u2_,u8le,uj_,ue_,uy_,ut_,uz_,xlc,xln,xmt,xmd]
theorem ubsr_ (x:Str×Int×YY25×(List Str)×(List Str)) (h:AfB x∧AfK x):Tot (uxj_ x) (fun r:List YY2=>r.length≤100∧∀ m∈r,m.2.2.1.length≤100):=by
 unfold uxj_
 obtain ⟨h1,h2,h3,h4⟩:=h
 refine ua_.2 ((ubj8_ _ ⟨Int.le_refl _,Int.natCast_nonneg _,rfl,by dsimp only; omega,by simp,by simp,fun v hv=>⟨h1.2.2.1 v hv,h3 v hv⟩,by dsimp only; omega⟩).mono fun r hr=>?_)
 refine ua_.2 ((uqy_ _ ⟨fun c=>clo (ubj7_ c trivial),by dsimp only; omega⟩).mono fun r2 hr2=>ub_.2 ?_)
 dsimp only at hr2
 exact ⟨by omega,fun m hm=>hr.2 m (hr2.2 m hm)⟩
theorem ubpr_ (x:(List YY4)×Bool×YY27×(List YY2)×Int×Int) (h:0≤x.2.2.2.2.2∧x.2.2.2.2.2≤x.2.2.2.2.1∧x.2.2.2.2.1=x.2.2.2.1.length∧x.2.2.2.2.1≤281474976710656∧x.1.length≤x.2.2.2.2.2∧(∀ s∈x.1,SpB s)∧x.2.2.1.2.2.length≤100∧x.2.2.2.2.1≤100∧∀ m∈x.2.2.2.1,m.2.2.1.length≤100):Tot (u3t_ x) (fun r:(List YY4)×Bool×YY27=>r.1.length≤100∧(∀ s∈r.1,SpB s)∧r.2.2.2.2.length≤100):=by
 refine uq_ (R:=fun r:(List YY4)×Bool×YY27=>r.1.length≤100∧(∀ s∈r.1,SpB s)∧r.2.2.2.2.length≤100) (fun y:(List YY4)×Bool×YY27×(List YY2)×Int×Int=>(0≤y.2.2.2.2.2∧y.2.2.2.2.2≤y.2.2.2.2.1∧y.2.2.2.2.1=y.2.2.2.1.length∧y.2.2.2.2.1≤281474976710656∧y.1.length≤y.2.2.2.2.2∧(∀ s∈y.1,SpB s)∧y.2.2.1.2.2.length≤100∧y.2.2.2.2.1≤100∧∀ m∈y.2.2.2.1,m.2.2.1.length≤100)) (fun y:(List YY4)×Bool×YY27×(List YY2)×Int×Int=>(y.2.2.2.2.1-y.2.2.2.2.2).toNat) ?_ _ _ (by grind) (by unfold fuel; grind)
 rintro next ⟨out_3,on_4,low_5,t15,t16,t17⟩ h hn
 try dsimp only at h hn
 unfold ubhp_
 repeat' first
  | (with_reducible first | refine ug_.2 ⟨fun _=>?_,fun _=>?_⟩ | refine ua_.2 ?_ | refine ub_.2 ?_ | refine u1_.2 ⟨?_,fun _ _=>?_⟩ | refine ule_.2 ⟨?_,?_⟩ | refine hn _ ?_ ?_)
  | dsimp only
 all_goals grind [un_,uh_,uc_,uw_,ur_,u3_,u2_,u8le,uj_,ue_,uy_,ut_,uz_,xlc,xln,xmt,xmd]
theorem ubps_ (x:(List YY4)×YY27×Bool) (h:x.1.length≤100∧(∀ s∈x.1,SpB s)∧x.2.1.2.2.length≤100):Tot (uu5_ x) (fun r:List YY4=>r.length≤101∧(∀ s∈r,SpB s)):=by
 obtain ⟨out_3,low_5,t56⟩:=x
 try dsimp only at h ⊢
 unfold uu5_
 repeat' first
  | (with_reducible first | refine ug_.2 ⟨fun _=>?_,fun _=>?_⟩ | refine ua_.2 ?_ | refine ub_.2 ?_ | refine ule_.2 ⟨?_,?_⟩)
  | dsimp only
 all_goals grind [un_,uh_,uc_,uw_,ur_,u3_,u2_,u8le,uj_,ue_,uy_,ut_,uz_,xlc,xln,xmt,xmd]
theorem ubpt_ (x:YY5×(List YY4)×(List Str)×Int×Int) (h:0≤x.2.2.2.2∧x.2.2.2.2≤x.2.2.2.1∧x.2.2.2.1=x.2.2.1.length∧x.2.2.2.1≤281474976710656∧x.2.1.length≤101+x.2.2.2.2∧(∀ s∈x.2.1,SpB s)∧x.2.2.2.1≤500∧∀ m∈x.2.2.1,m.length≤1048576):Tot (u3u_ x) (fun r:List YY4=>r.length≤601∧(∀ s∈r,SpB s)):=by
 refine uq_ (R:=fun r:List YY4=>r.length≤601∧(∀ s∈r,SpB s)) (fun y:YY5×(List YY4)×(List Str)×Int×Int=>(0≤y.2.2.2.2∧y.2.2.2.2≤y.2.2.2.1∧y.2.2.2.1=y.2.2.1.length∧y.2.2.2.1≤281474976710656∧y.2.1.length≤101+y.2.2.2.2∧(∀ s∈y.2.1,SpB s)∧y.2.2.2.1≤500∧∀ m∈y.2.2.1,m.length≤1048576)) (fun y:YY5×(List YY4)×(List Str)×Int×Int=>(y.2.2.2.1-y.2.2.2.2).toNat) ?_ _ _ (by grind) (by unfold fuel; grind)
 rintro next ⟨a_1,out_3,t63,t64,t65⟩ h hn
 try dsimp only at h hn
 unfold ubhq_
 repeat' first
  | (with_reducible first | refine ug_.2 ⟨fun _=>?_,fun _=>?_⟩ | refine ua_.2 ?_ | refine ub_.2 ?_ | refine u1_.2 ⟨?_,fun _ _=>?_⟩ | refine ule_.2 ⟨?_,?_⟩ | refine (uvc_ _ ?_).mono fun _ _=>?_ | refine hn _ ?_ ?_)
  | dsimp only
 all_goals grind [un_,uh_,uc_,uw_,ur_,u3_,u2_,u8le,uj_,ue_,uy_,ut_,uz_,xlc,xln,xmt,xmd]
theorem ubxl_ (x:Str×Int×YY25×(List Str)×(List Str)) (h:AfB x∧AfK x):Tot (u51_ x) (fun r:List YY4=>r.length≤601∧(∀ s∈r,SpB s)):=by
 unfold u51_
 refine ua_.2 ((ubsr_ _ h).mono fun r hr=>?_)
 obtain ⟨h1,h2,h3,h4⟩:=h
 refine ua_.2 ((ubpr_ _ ⟨Int.le_refl _,Int.natCast_nonneg _,rfl,by dsimp only; omega,by simp,by simp,by simp,by dsimp only; omega,hr.2⟩).mono fun r5 h5=>?_)
 refine ua_.2 ((ubps_ _ h5).mono fun r8 h8=>?_)
 exact ua_.2 ((ubpt_ _ ⟨Int.le_refl _,Int.natCast_nonneg _,rfl,by dsimp only; omega,by dsimp only; omega,h8.2,by dsimp only; omega,h1.2.2.2.2.1⟩).mono fun r13 h13=>ub_.2 h13)
theorem ubna_ (x:Int×YY27) (h:x.2.2.2.length≤1048576):Tot (umm_ x) (fun r:Str×Int=>True):=by
 unfold umm_
 refine ug_.2 ⟨fun _=>ug_.2 ⟨fun _=>ub_.2 trivial,fun _=>ub_.2 trivial⟩,fun _=>?_⟩
 refine ua_.2 ((u8k_ _ h).mono fun r1 h1=>?_)
 refine ug_.2 ⟨fun _=>ub_.2 trivial,fun he=>?_⟩
 have h0:r1.2=0:=by rw [ur_] at he; simpa using he
 have hv:=h1 h0
 revert hv
 generalize r1.1=v
 intro hv
 refine ua_.2 (Tot.mono (P:=fun r:Str=>r.length≤10000000) ?_ fun r2 hr=>?_)
 · rcases v with x | x | x | x | x | x
   · exact ua_.2 ((uy4_ _ hv).mono fun _ h=>ub_.2 (by omega))
   · exact ua_.2 ((uwr_ _ hv).mono fun _ h=>ub_.2 (by omega))
   · exact ua_.2 ((uy6_ _ hv).mono fun _ h=>ub_.2 (by omega))
   · exact ua_.2 ((us9_ _ hv).mono fun _ h=>ub_.2 (by omega))
   · exact ua_.2 ((u0m_ _ trivial).mono fun _ h=>ub_.2 (by omega))
   · exact hv.elim
 refine ug_.2 ⟨fun _=>ub_.2 trivial,fun _=>?_⟩
 refine ua_.2 (Tot.mono (P:=fun r:Str=>r.length≤10000000) ?_ fun r2 hr=>ub_.2 trivial)
 · rcases v with x | x | x | x | x | x
   · exact ua_.2 ((u3k_ _ hv).mono fun _ h=>ub_.2 (by omega))
   · exact ua_.2 ((u0o_ _ hv).mono fun _ h=>ub_.2 (by omega))
   · exact ua_.2 ((u3l_ _ hv).mono fun _ h=>ub_.2 (by omega))
   · exact ua_.2 ((uws_ _ hv).mono fun _ h=>ub_.2 (by omega))
   · exact ua_.2 ((u5x_ _ hv).mono fun _ h=>ub_.2 (by omega))
   · exact hv.elim
theorem ubvc_ (x:YY27×Str) (h:x.1.2.2.length≤100):Tot (u1w_ x) (fun r:Int×Str×Bool×Str=>r.2.2.2.length≤100):=by
 obtain ⟨b_0,key_1⟩:=x
 try dsimp only at h ⊢
 unfold u1w_
 repeat' first
  | (with_reducible first | refine ug_.2 ⟨fun _=>?_,fun _=>?_⟩ | refine ub_.2 ?_)
  | dsimp only
 all_goals grind [un_,uh_,uc_,uw_,ur_,u3_,u2_,u8le,uj_,ue_,uy_,ut_,uz_,xlc,xln,xmt,xmd]
theorem ubss_ (x:YY27×Str) (h:x.1.2.2.length≤100):Tot (uxk_ x) (fun r:Int×Str×Bool×Str=>r.2.2.2.length≤100):=by
 obtain ⟨b_0,key_1⟩:=x
 try dsimp only at h ⊢
 unfold uxk_
 repeat' first
  | (with_reducible first | refine ug_.2 ⟨fun _=>?_,fun _=>?_⟩ | refine ub_.2 ?_)
  | dsimp only
 all_goals grind [un_,uh_,uc_,uw_,ur_,u3_,u2_,u8le,uj_,ue_,uy_,ut_,uz_,xlc,xln,xmt,xmd]
theorem u92_ (x:YY7×Int×Bool) (h:x.1.1.2.2.2.length≤100∧x.2.1=0):Tot (ujq_ x) (fun r:YY7×Int=>r.1=x.1∧0≤r.2∧r.2≤1000000000000000000):=by
 obtain ⟨s_1,first_5,t10⟩:=x
 try dsimp only at h ⊢
 unfold ujq_
 repeat' first
  | (with_reducible first | refine ug_.2 ⟨fun _=>?_,fun _=>?_⟩ | refine ua_.2 ?_ | refine ub_.2 ?_ | refine (ucc_ _ ?_).mono fun _ _=>?_)
  | dsimp only
 all_goals grind [un_,uh_,uc_,uw_,ur_,u3_,u2_,u8le,uj_,ue_,uy_,ut_,uz_,xlc,xln,xmt,xmd]
set_option maxHeartbeats 1000000 in
theorem ubhl_ (x:YY34×YY34) (h:x.1.2.2.2.length≤100∧x.2.2.2.2.length≤100):Tot (un8_ x) (fun r:Int×Int×Bool=>0≤r.1∧r.2.1≤999999999999999999∧(r.2.2=true→r.1≤r.2.1)):=by
 unfold un8_
 repeat' first
  | (with_reducible first | refine ug_.2 ⟨fun _=>?_,fun _=>?_⟩ | refine ua_.2 ?_ | refine ub_.2 ?_ | refine (u92_ _ ?_).mono fun _ _=>?_ | refine (ucc_ _ ?_).mono fun _ _=>?_)
  | dsimp only
 all_goals grind [un_,uh_,uc_,uw_,ur_,u3_,u2_,u8le,uj_,ue_,uy_,ut_,uz_,xlc,xln,xmt,xmd]
theorem ubpu_ (x:Int×YY34×Bool) (h:0≤x.1∧x.1≤999999999999999999∧x.2.1.2.2.2.length≤100):Tot (uu6_ x) (fun r:Int×Str×Bool×Str=>r.2.2.2.length≤100):=by
 obtain ⟨last_8,high_10,t27⟩:=x
 try dsimp only at h ⊢
 unfold uu6_
 repeat' first
  | (with_reducible first | refine ug_.2 ⟨fun _=>?_,fun _=>?_⟩ | refine ua_.2 ?_ | refine ub_.2 ?_ | refine (ubz_ _ ?_).mono fun _ _=>?_ | refine (ubq_ _ ?_).mono fun _ _=>?_)
  | dsimp only
 all_goals grind [un_,uh_,uc_,uw_,ur_,u3_,u2_,u8le,uj_,ue_,uy_,ut_,uz_,xlc,xln,xmt,xmd]
theorem ubpv_ (x:(List YY7)×Int×(List YY7)×Int×Int) (h:0≤x.2.2.2.2∧x.2.2.2.2≤x.2.2.2.1∧x.2.2.2.1=x.2.2.1.length∧x.2.2.2.1≤281474976710656∧x.1.length≤x.2.2.2.2∧(∀ s∈x.1,StB s)∧(∀ s∈x.2.2.1,StB s)∧x.2.2.2.1≤1048576∧-2≤x.2.1∧x.2.1≤999999999999999999):Tot (u3v_ x) (fun r:List YY7=>r.length≤1048576∧∀ s∈r,StB s):=by
 refine uq_ (R:=fun r:List ubm4_=>r.length≤1048576∧∀ s∈r,StB s) (fun y:(List ubm4_)×Int×(List ubm4_)×Int×Int=>0≤y.2.2.2.2∧y.2.2.2.2≤y.2.2.2.1∧y.2.2.2.1=y.2.2.1.length∧y.2.2.2.1≤281474976710656∧y.1.length≤y.2.2.2.2∧(∀ s∈y.1,StB s)∧(∀ s∈y.2.2.1,StB s)∧y.2.2.2.1≤1048576∧-2≤y.2.1∧y.2.1≤999999999999999999)
  (fun y=>(y.2.2.2.1-y.2.2.2.2).toNat) ?_ _ _ h (by unfold fuel; have:=h.2.2.2.1; omega)
 rintro next ⟨out,e,l,n,i⟩ hI hn
 dsimp only at hI hn
 obtain ⟨i0,i1,i2,i3,i4,i5,i6,i7,i8,i9⟩:=hI
 unfold ubhr_
 dsimp only
 refine ug_.2 ⟨fun hc=>?_,fun hc=>ub_.2 ⟨by omega,i5⟩⟩
 have hc:=of_decide_eq_true hc
 rw [ubc_ (n:=i+1) (by omega) (by omega),ubc_ (n:=e+1) (by omega) (by omega)]
 refine ua_.2 (u1_.2 ⟨⟨i0,by omega⟩,fun v hv=>?_⟩)
 have hvb:=i6 v (uio_ hv)
 refine ua_.2 ((ubhl_ _ hvb).mono fun r2 h2=>?_)
 obtain ⟨j1,j2,j3⟩:=h2
 refine ug_.2 ⟨fun _=>hn _ ⟨by dsimp only; omega,by dsimp only; omega,i2,i3,by dsimp only; omega,i5,i6,i7,i8,i9⟩ (by dsimp only; omega),fun hb=>?_⟩
 have hle:=j3 (by simpa using hb)
 refine ua_.2 (Tot.mono (P:=fun r:Edge=>r.2.2.2.length≤100) ((ubpu_ _ ⟨by dsimp only; omega,by dsimp only; omega,by simp⟩)) fun r5 h5=>?_)
 by_cases hl:(0:Int)<out.length
 · rw [ubc_ (n:=(out.length:Int)-1) (by omega) (by omega)]
   refine ug_.2 ⟨fun _=>?_,fun _=>?_⟩
   · refine ua_.2 (ucf_.2 ⟨⟨by omega,by omega⟩,?_⟩)
     refine hn _ ⟨by dsimp only; omega,by dsimp only; omega,i2,i3,by dsimp only; rw [List.length_set]; omega,fun s hs=>?_,i6,i7,by dsimp only; omega,by dsimp only; omega⟩ (by dsimp only; omega)
     dsimp only at hs
     rcases ue_ hs with hs | hs
     · exact i5 s hs
     · subst hs
       exact ⟨(i5 _ (uj_ (by omega))).1,h5⟩
   · refine ua_.2 ((ubz_ _ ⟨j1,by omega⟩).mono fun r8 h8=>?_)
     refine ua_.2 ((ubq_ _ trivial).mono fun r9 h9=>?_)
     refine ua_.2 (ule_.2 ⟨by simp only [List.length_cons,List.length_nil]; omega,?_⟩)
     refine hn _ ⟨by dsimp only; omega,by dsimp only; omega,i2,i3,by dsimp only; rw [List.length_append]; simp only [List.length_cons,List.length_nil]; omega,fun s hs=>?_,i6,i7,by dsimp only; omega,by dsimp only; omega⟩ (by dsimp only; omega)
     dsimp only at hs
     rcases List.mem_append.1 hs with hs | hs
     · exact i5 s hs
     · rw [List.mem_singleton] at hs
       subst hs
       exact ⟨by dsimp only; omega,h5⟩
 · rw [decide_eq_false hl,Bool.false_and]
   simp only [cond_false]
   refine ua_.2 ((ubz_ _ ⟨j1,by omega⟩).mono fun r8 h8=>?_)
   refine ua_.2 ((ubq_ _ trivial).mono fun r9 h9=>?_)
   refine ua_.2 (ule_.2 ⟨by simp only [List.length_cons,List.length_nil]; omega,?_⟩)
   refine hn _ ⟨by dsimp only; omega,by dsimp only; omega,i2,i3,by dsimp only; rw [List.length_append]; simp only [List.length_cons,List.length_nil]; omega,fun s hs=>?_,i6,i7,by dsimp only; omega,by dsimp only; omega⟩ (by dsimp only; omega)
   dsimp only at hs
   rcases List.mem_append.1 hs with hs | hs
   · exact i5 s hs
   · rw [List.mem_singleton] at hs
     subst hs
     exact ⟨by dsimp only; omega,h5⟩
theorem ubxm_ (x:List YY7) (h:(∀ s∈x,StB s)∧x.length≤1048576):Tot (u52_ x) (fun r:List YY7=>r.length≤1048576∧∀ s∈r,StB s):=by
 unfold u52_
 repeat' first
  | (with_reducible first | refine ua_.2 ?_ | refine ub_.2 ?_ | refine (ubpv_ _ ?_).mono fun _ _=>?_)
  | dsimp only
 all_goals grind [un_,uh_,uc_,uw_,ur_,u3_,u2_,u8le,uj_,ue_,uy_,ut_,uz_,xlc,xln,xmt,xmd]
theorem ubvd_ (x:(List YY7)×Bool) (h:(∀ s∈x.1,StB s)∧x.1.length≤1048576):Tot (u1x_ x) (fun r:List YY7=>r.length≤1048576∧∀ s∈r,StB s):=by
 obtain ⟨l_1,t11⟩:=x
 try dsimp only at h ⊢
 unfold u1x_
 repeat' first
  | (with_reducible first | refine ug_.2 ⟨fun _=>?_,fun _=>?_⟩ | refine ua_.2 ?_ | refine ub_.2 ?_ | refine (ubxm_ _ ?_).mono fun _ _=>?_)
  | dsimp only
 all_goals grind [un_,uh_,uc_,uw_,ur_,u3_,u2_,u8le,uj_,ue_,uy_,ut_,uz_,xlc,xln,xmt,xmd]
theorem ubve_ (x:YY7×YY4×Bool) (h:StB x.1∧SpB x.2.1):Tot (u1y_ x) (fun r:YY7×YY4=>r.1=x.1∧SpB r.2):=by
 obtain ⟨s_8,x_9,t29⟩:=x
 try dsimp only at h ⊢
 unfold u1y_
 repeat' first
  | (with_reducible first | refine ug_.2 ⟨fun _=>?_,fun _=>?_⟩ | refine ub_.2 ?_)
  | dsimp only
 all_goals grind [un_,uh_,uc_,uw_,ur_,u3_,u2_,u8le,uj_,ue_,uy_,ut_,uz_,xlc,xln,xmt,xmd]
set_option maxHeartbeats 1000000 in
theorem ubvf_ (x:YY15×(List YY7)×Int×Int) (h:0≤x.2.2.2∧x.2.2.2≤x.2.2.1∧x.2.2.1=x.2.1.length∧x.2.2.1≤281474976710656∧x.1.2.length≤x.2.2.2∧x.2.2.1≤200∧(∀ s∈x.2.1,StB s)∧(∀ s∈x.1.2,SpB s)):Tot (ubbh_ x) (fun r:Int×(List YY4)=>r.1=x.1.1∧r.2.length≤200∧∀ s∈r.2,SpB s):=by
 refine uq_ (R:=fun r:Int×(List YY4)=>r.1=x.1.1∧r.2.length≤200∧∀ s∈r.2,SpB s) (fun y:YY15×(List YY7)×Int×Int=>(0≤y.2.2.2∧y.2.2.2≤y.2.2.1∧y.2.2.1=y.2.1.length∧y.2.2.1≤281474976710656∧y.1.2.length≤y.2.2.2∧y.2.2.1≤200∧(∀ s∈y.2.1,StB s)∧(∀ s∈y.1.2,SpB s))∧y.1.1=x.1.1) (fun y:YY15×(List YY7)×Int×Int=>(y.2.2.1-y.2.2.2).toNat) ?_ _ _ (by grind) (by unfold fuel; grind)
 rintro next ⟨r_6,t20,t21,t22⟩ h hn
 try dsimp only at h hn
 unfold ubpz_
 repeat' first
  | (with_reducible first | refine ug_.2 ⟨fun _=>?_,fun _=>?_⟩ | refine ua_.2 ?_ | refine ub_.2 ?_ | refine u1_.2 ⟨?_,fun _ _=>?_⟩ | refine ule_.2 ⟨?_,?_⟩ | refine (ubve_ _ ?_).mono fun _ _=>?_ | refine hn _ ?_ ?_)
  | dsimp only
 all_goals grind [un_,uh_,uc_,uw_,ur_,u3_,u2_,u8le,uj_,ue_,uy_,ut_,uz_,xlc,xln,xmt,xmd]
theorem ub15_ (x:Int×(List YY7)) (h:(∀ s∈x.2,StB s)∧x.2.length≤1048576):Tot (ubff_ x) (fun r:YY15×Int=>r.1.2.length≤200∧∀ s∈r.1.2,SpB s):=by
 obtain ⟨kind_0,l_1⟩:=x
 try dsimp only at h ⊢
 unfold ubff_
 repeat' first
  | (with_reducible first | refine ug_.2 ⟨fun _=>?_,fun _=>?_⟩ | refine ua_.2 ?_ | refine ub_.2 ?_ | refine (ubvd_ _ ?_).mono fun _ _=>?_ | refine (ubvf_ _ ?_).mono fun _ _=>?_)
  | dsimp only
 all_goals grind [un_,uh_,uc_,uw_,ur_,u3_,u2_,u8le,uj_,ue_,uy_,ut_,uz_,xlc,xln,xmt,xmd]
set_option maxHeartbeats 1000000 in
theorem ubst_ (x:Int×YY15×(List YY7)×(List YY4)×Int×Int) (h:0≤x.2.2.2.2.2∧x.2.2.2.2.2≤x.2.2.2.2.1∧x.2.2.2.2.1=x.2.2.2.1.length∧x.2.2.2.2.1≤281474976710656∧x.2.2.1.length≤x.2.2.2.2.2∧(∀ s∈x.2.2.1,StB s)∧x.2.2.2.2.1≤1048576∧(∀ s∈x.2.2.2.1,SpB s)):Tot (u6y_ x) (fun r:Sum (YY15×(List YY7)) (YY15×Int)=>(∀ y,r=.inl y→y.2.length≤1048576∧∀ s∈y.2,StB s)∧∀ y,r=.inr y→y.1.2=[]):=by
 refine uq_ (R:=fun r:Sum (YY15×(List YY7)) (YY15×Int)=>(∀ y,r=.inl y→y.2.length≤1048576∧∀ s∈y.2,StB s)∧∀ y,r=.inr y→y.1.2=[]) (fun y:Int×YY15×(List YY7)×(List YY4)×Int×Int=>(0≤y.2.2.2.2.2∧y.2.2.2.2.2≤y.2.2.2.2.1∧y.2.2.2.2.1=y.2.2.2.1.length∧y.2.2.2.2.1≤281474976710656∧y.2.2.1.length≤y.2.2.2.2.2∧(∀ s∈y.2.2.1,StB s)∧y.2.2.2.2.1≤1048576∧(∀ s∈y.2.2.2.1,SpB s))) (fun y:Int×YY15×(List YY7)×(List YY4)×Int×Int=>(y.2.2.2.2.1-y.2.2.2.2.2).toNat) ?_ _ _ (by grind) (by unfold fuel; grind)
 rintro next ⟨kind_0,t4,all_6,t17,t18,t19⟩ h hn
 try dsimp only at h hn
 unfold ubkp_
 repeat' first
  | (with_reducible first | refine ug_.2 ⟨fun _=>?_,fun _=>?_⟩ | refine ua_.2 ?_ | refine ub_.2 ?_ | refine u1_.2 ⟨?_,fun _ _=>?_⟩ | refine ule_.2 ⟨?_,?_⟩ | refine (ubna_ _ ?_).mono fun _ _=>?_ | refine (ubvc_ _ ?_).mono fun _ _=>?_ | refine (ubss_ _ ?_).mono fun _ _=>?_ | refine (ur1_ _ ?_).mono fun _ _=>?_ | refine hn _ ?_ ?_)
  | dsimp only
 all_goals grind [un_,uh_,uc_,uw_,ur_,u3_,u2_,u8le,uj_,ue_,uy_,ut_,uz_,xlc,xln,xmt,xmd]
theorem ubsu_ (x:(List YY7)×(List YY7)×Int×Int) (h:0≤x.2.2.2∧x.2.2.2≤x.2.2.1∧x.2.2.1=x.2.1.length∧x.2.2.1≤281474976710656∧x.1.length≤x.2.2.2∧(∀ s∈x.1,StB s)∧x.2.2.1≤1048576∧(∀ s∈x.2.1,StB s)):Tot (u6z_ x) (fun r:List YY7=>r.length≤1048576∧∀ s∈r,StB s):=by
 refine uq_ (R:=fun r:List ubm4_=>r.length≤1048576∧∀ s∈r,StB s) (fun y:(List ubm4_)×(List ubm4_)×Int×Int=>0≤y.2.2.2∧y.2.2.2≤y.2.2.1∧y.2.2.1=y.2.1.length∧y.2.2.1≤281474976710656∧y.1.length≤y.2.2.2∧(∀ s∈y.1,StB s)∧y.2.2.1≤1048576∧(∀ s∈y.2.1,StB s))
  (fun y=>(y.2.2.1-y.2.2.2).toNat) ?_ _ _ h (by unfold fuel; have:=h.2.2.2.1; omega)
 rintro next ⟨out,l,n,i⟩ hI hn
 dsimp only at hI hn
 obtain ⟨i0,i1,i2,i3,i4,i5,i6,i7⟩:=hI
 unfold ubkq_
 dsimp only
 refine ug_.2 ⟨fun hc=>?_,fun hc=>ub_.2 ⟨by omega,i5⟩⟩
 have hc:=of_decide_eq_true hc
 rw [ubc_ (n:=i+1) (by omega) (by omega)]
 refine ua_.2 (ucf_.2 ⟨⟨i0,by omega⟩,?_⟩)
 have hv:=i7 _ (uj_ (l:=l) (i:=i.toNat) (d:=((0,(([]:Str),(false,([]:Str)))),(0,(([]:Str),(false,([]:Str)))))) (by omega))
 generalize l.getD i.toNat ((0,(([]:Str),(false,([]:Str)))),(0,(([]:Str),(false,([]:Str)))))=v at hv
 have happ:∀ (Q:List ubm4_→Prop),Q (out++[v])→Tot (app? 192 out [v]) Q:=fun Q hQ=>ule_.2 ⟨by simp only [List.length_cons,List.length_nil]; omega,hQ⟩
 have hgo:Tot (next (out++[v],l,n,i+1)) (fun r:List ubm4_=>r.length≤1048576∧∀ s∈r,StB s):=by
  refine hn _ ⟨by dsimp only; omega,by dsimp only; omega,i2,i3,by dsimp only; rw [List.length_append]; simp only [List.length_cons,List.length_nil]; omega,fun s hs=>?_,i6,i7⟩ (by dsimp only; omega)
  dsimp only at hs
  rcases List.mem_append.1 hs with hs | hs
  · exact i5 s hs
  · rw [List.mem_singleton] at hs
    subst hs
    exact hv
 by_cases hl:(out.length:Int)=0
 · have e:eqI (out.length:Int) 0=true:=by rw [ur_]; exact decide_eq_true hl
   rw [e]
   simp only [Bool.not_true,cond_false,Bool.true_or,cond_true]
   refine ua_.2 (ub_.2 (ua_.2 (ub_.2 (ua_.2 (happ _ hgo)))))
 · have e:eqI (out.length:Int) 0=false:=by rw [ur_]; exact decide_eq_false hl
   rw [e,ubc_ (n:=(out.length:Int)-1) (by omega) (by omega)]
   simp only [Bool.not_false,cond_true,Bool.false_or]
   refine ua_.2 (ucf_.2 ⟨⟨by omega,by omega⟩,?_⟩)
   refine ua_.2 ((ur1_ _ trivial).mono fun r16 _=>?_)
   refine ug_.2 ⟨fun _=>ua_.2 (happ _ hgo),fun _=>?_⟩
   refine ua_.2 (ucf_.2 ⟨⟨by omega,by omega⟩,?_⟩)
   refine ua_.2 ((ur1_ _ trivial).mono fun r21 _=>?_)
   refine ug_.2 ⟨fun _=>?_,fun _=>hn _ ⟨by dsimp only; omega,by dsimp only; omega,i2,i3,by dsimp only; omega,i5,i6,i7⟩ (by dsimp only; omega)⟩
   refine ua_.2 (ucf_.2 ⟨⟨by omega,by omega⟩,?_⟩)
   refine hn _ ⟨by dsimp only; omega,by dsimp only; omega,i2,i3,by dsimp only; rw [List.length_set]; omega,fun s hs=>?_,i6,i7⟩ (by dsimp only; omega)
   dsimp only at hs
   rcases ue_ hs with hs | hs
   · exact i5 s hs
   · subst hs
     exact ⟨(i5 _ (uj_ (by omega))).1,hv.2⟩
theorem ubzk_ (x:Int×(List YY4)) (h:(∀ s∈x.2,SpB s)∧x.2.length≤1048576):Tot (ubad_ x) (fun r:YY15×Int=>r.1.2.length≤200∧∀ s∈r.1.2,SpB s):=by
 unfold ubad_
 obtain ⟨h1,h2⟩:=h
 refine ua_.2 ((ubst_ _ ⟨Int.le_refl _,Int.natCast_nonneg _,rfl,by dsimp only; omega,by simp,by simp,by dsimp only; omega,h1⟩).mono fun r hr=>?_)
 rcases r with y | y
 · obtain ⟨g1,g2⟩:=hr.1 y rfl
   refine ua_.2 ((ucdu_ y.2).mono fun r13 h13=>?_)
   have l13:=h13.1.length_eq
   refine ua_.2 ((ubsu_ _ ⟨Int.le_refl _,Int.natCast_nonneg _,rfl,by dsimp only; omega,by simp,by simp,by dsimp only; omega,fun s hs=>g2 s (h13.1.mem_iff.1 hs)⟩).mono fun r23 h23=>?_)
   exact ua_.2 ((ub15_ _ ⟨h23.2,h23.1⟩).mono fun r24 h24=>ub_.2 h24)
 · have:=hr.2 y rfl
   refine ub_.2 ?_
   dsimp only
   rw [this]
   simp
theorem ubsv_ (x:Str×Int×YY25×(List Str)×(List Str)) (h:AfB x):Tot (uxl_ x) (fun r:YY15×Int=>r.1.2.length≤200∧(∀ s∈r.1.2,SpB s)):=by
 unfold uxl_
 refine ua_.2 ((ubcl_ _ h).mono fun r1 h1=>?_)
 refine ug_.2 ⟨fun _=>ub_.2 (by simp),fun he=>?_⟩
 have h0:r1=0:=by rw [ur_] at he; simpa using he
 refine ua_.2 ((ubxl_ _ ⟨h,h1 h0⟩).mono fun r3 h3=>?_)
 exact ua_.2 ((ubzk_ _ ⟨h3.2,by dsimp only; omega⟩).mono fun r4 h4=>ub_.2 h4)
end Go.Ev.Pv
namespace Go.Ev.Pv
theorem u8n_ (x:YY1×(List Str)×Int×Int) (h:0≤x.2.2.2∧x.2.2.2≤x.2.2.1∧x.2.2.1=x.2.1.length∧x.2.2.1≤281474976710656∧(∀ s∈x.2.1,s.length≤1048576)∧x.2.1=x.1.2.1):Tot (uip_ x) (fun r:Sum (Unit) (Int)=>True):=by
 refine uq_ (R:=fun r:Sum Unit Int=>True)
  (fun y:Adv×(List Str)×Int×Int=>0≤y.2.2.2∧y.2.2.2≤y.2.2.1∧y.2.2.1=y.2.1.length∧y.2.2.1≤281474976710656∧(∀ v∈y.2.1,v.length≤1048576)∧y.2.1=y.1.2.1)
  (fun y=>(y.2.2.1-y.2.2.2).toNat) ?_ _ _ h (by unfold fuel; have:=h.2.2.2.1; omega)
 rintro next ⟨a,l,n,i⟩ hI hn
 dsimp only at hI hn
 obtain ⟨i0,i1,i2,i3,i4,i5⟩:=hI
 unfold unv_
 dsimp only
 refine ug_.2 ⟨fun hc=>?_,fun hc=>ub_.2 trivial⟩
 have hc:=of_decide_eq_true hc
 rw [ubc_ (n:=i+1) (by omega) (by omega),ubc_ (by omega) (by omega)]
 refine ua_.2 (u1_.2 ⟨⟨i0,by omega⟩,fun v hv=>?_⟩)
 have hvl:=i4 v (uio_ hv)
 refine ua_.2 ((u4h_ _ (by omega)).mono fun r _=>?_)
 refine ug_.2 ⟨fun _=>ub_.2 trivial,fun _=>?_⟩
 refine ug_.2 ⟨fun _=>ub_.2 trivial,fun _=>?_⟩
 refine ua_.2 (Tot.mono (P:=fun _=>True) (ug_.2 ⟨fun hz=>?_,fun _=>ub_.2 trivial⟩) fun y7 _=>?_)
 · have hz:=of_decide_eq_true hz
   exact u1_.2 ⟨⟨by omega,by rw [← i5]; omega⟩,fun _ _=>trivial⟩
 · refine ug_.2 ⟨fun _=>ub_.2 trivial,fun _=>?_⟩
   exact hn _ ⟨by dsimp only; omega,by dsimp only; omega,i2,i3,i4,i5⟩ (by dsimp only; omega)
theorem ube5_ (x:Str×(List Str)×Str×Int×Bool×Str×(List YY5)) (h:∀ s∈x.2.1,s.length≤1048576):Tot (udl_ x) (fun r:Int=>True):=by
 unfold udl_
 repeat' first
  | (with_reducible first | refine ug_.2 ⟨fun _=>?_,fun _=>?_⟩ | refine ua_.2 ?_ | refine ub_.2 ?_ | refine (u8n_ _ ?_).mono fun _ _=>?_)
  | split
  | dsimp only
 all_goals grind [un_,uh_,uc_,uw_,ur_,u3_,u2_,u8le,uj_,ue_,uy_,ut_,uz_,xlc,xln,xmt,xmd]
theorem ubsw_ (x:Unit) (h:True):Tot (uw1_ x) (fun r:List (List (Int×Int))=>r.length=6):=by
 unfold uw1_
 repeat' first
  | with_reducible refine ub_.2 ?_
  | dsimp only
 all_goals grind [un_,uh_,uc_,uw_,ur_,u3_,u2_,u8le,uj_,ue_,uy_,ut_,uz_,xlc,xln,xmt,xmd]
theorem ubpw_ (x:Str×(List Int)×YY39×Int) (h:0≤x.2.2.2∧x.2.2.2≤6∧x.2.2.1.length=6∧x.1.length=6):Tot (u3r_ x) (fun r:Sum (List Int) (Int×Int)=>True):=by
 refine uq_ (R:=fun r:Sum (List Int) (Int×Int)=>True) (fun y:Str×(List Int)×YY39×Int=>(0≤y.2.2.2∧y.2.2.2≤6∧y.2.2.1.length=6∧y.1.length=6)) (fun y:Str×(List Int)×YY39×Int=>(6-y.2.2.2).toNat) ?_ _ _ (by grind) (by unfold fuel; grind)
 rintro next ⟨vector_0,w_5,t16,t17⟩ h hn
 try dsimp only at h hn
 unfold ubhn_
 repeat' first
  | (with_reducible first | refine ug_.2 ⟨fun _=>?_,fun _=>?_⟩ | refine ua_.2 ?_ | refine ub_.2 ?_ | refine u1_.2 ⟨?_,fun _ _=>?_⟩ | refine ucf_.2 ⟨?_,?_⟩ | refine hn _ ?_ ?_)
  | dsimp only
 all_goals grind [un_,uh_,uc_,uw_,ur_,u3_,u2_,u8le,uj_,ue_,uy_,ut_,uz_,xlc,xln,xmt,xmd]
theorem ubxn_ (x:Str) (h:True):Tot (ur3_ x) (fun r:Int×Int=>True):=by
 unfold ur3_
 repeat' first
  | (with_reducible first | refine ug_.2 ⟨fun _=>?_,fun _=>?_⟩ | refine ua_.2 ?_ | refine ub_.2 ?_ | refine (ubsw_ _ ?_).mono fun _ _=>?_ | refine (ubpw_ _ ?_).mono fun _ _=>?_ | refine div8.2 ⟨?_,?_⟩)
  | split
  | dsimp only
 all_goals grind [un_,uh_,uc_,uw_,ur_,u3_,u2_,u8le,uj_,ue_,uy_,ut_,uz_,xlc,xln,xmt,xmd]
theorem ubnb_ (x:YY1×Bool) (h:True):Tot (ugw_ x) (fun r:Sum YY1 ((List YY15)×Int)=>∀ y,r=.inl y→y=x.1):=by
 obtain ⟨a_1,t37⟩:=x
 try dsimp only at h ⊢
 unfold ugw_
 repeat' first
  | (with_reducible first | refine ug_.2 ⟨fun _=>?_,fun _=>?_⟩ | refine ua_.2 ?_ | refine ub_.2 ?_ | refine (ubxn_ _ ?_).mono fun _ _=>?_)
  | dsimp only
 all_goals grind [un_,uh_,uc_,uw_,ur_,u3_,u2_,u8le,uj_,ue_,uy_,ut_,uz_,xlc,xln,xmt,xmd]
theorem ubnc_ (x:(List YY15)×(List YY5)×Int×Int) (h:0≤x.2.2.2∧x.2.2.2≤x.2.2.1∧x.2.2.1=x.2.1.length∧x.2.2.1≤281474976710656∧x.2.2.1≤50∧x.1.length≤x.2.2.2∧∀ z∈x.2.1,AfB z):Tot (ur8_ x) (fun r:Sum (List YY15) ((List YY15)×Int)=>True):=by
 refine uq_ (R:=fun r:Sum (List YY15) ((List YY15)×Int)=>True) (fun y:(List YY15)×(List YY5)×Int×Int=>(0≤y.2.2.2∧y.2.2.2≤y.2.2.1∧y.2.2.1=y.2.1.length∧y.2.2.1≤281474976710656∧y.2.2.1≤50∧y.1.length≤y.2.2.2∧∀ z∈y.2.1,AfB z)) (fun y:(List YY15)×(List YY5)×Int×Int=>(y.2.2.1-y.2.2.2).toNat) ?_ _ _ (by grind) (by unfold fuel; grind)
 rintro next ⟨out_7,t52,t53,t54⟩ h hn
 try dsimp only at h hn
 unfold ui4_
 repeat' first
  | (with_reducible first | refine ug_.2 ⟨fun _=>?_,fun _=>?_⟩ | refine ua_.2 ?_ | refine ub_.2 ?_ | refine u1_.2 ⟨?_,fun _ _=>?_⟩ | refine ule_.2 ⟨?_,?_⟩ | refine (ubsv_ _ ?_).mono fun _ _=>?_ | refine hn _ ?_ ?_)
  | dsimp only
 all_goals grind [un_,uh_,uc_,uw_,ur_,u3_,u2_,u8le,uj_,ue_,uy_,ut_,uz_,xlc,xln,xmt,xmd]
theorem ubvg_ (x:Str×(List Str)×Str×Int×Bool×Str×(List YY5)) (h:AdB x):Tot (uli_ x) (fun r:(List YY15)×Int=>True):=by
 unfold uli_
 repeat' first
  | (with_reducible first | refine ug_.2 ⟨fun _=>?_,fun _=>?_⟩ | refine ua_.2 ?_ | refine ub_.2 ?_ | refine (u4h_ _ ?_).mono fun _ _=>?_ | refine (ube5_ _ ?_).mono fun _ _=>?_ | refine (ubnb_ _ ?_).mono fun _ _=>?_ | refine (ubnc_ _ ?_).mono fun _ _=>?_)
  | split
  | dsimp only
 all_goals grind [un_,uh_,uc_,uw_,ur_,u3_,u2_,u8le,uj_,ue_,uy_,ut_,uz_,xlc,xln,xmt,xmd,AdB]
theorem ubxo_ (x:Str×(List Str)×Str×Int×Bool×Str×(List YY5)) (h:AdB x):Tot (uha_ x) (fun r:Int=>True):=by
 unfold uha_
 repeat' first
  | (with_reducible first | refine ua_.2 ?_ | refine ub_.2 ?_ | refine (ubvg_ _ ?_).mono fun _ _=>?_)
  | dsimp only
 all_goals grind [un_,uh_,uc_,uw_,ur_,u3_,u2_,u8le,uj_,ue_,uy_,ut_,uz_,xlc,xln,xmt,xmd]
end Go.Ev.Pv
namespace Go.Ev.Pv
def CT (F:Int×Int→Option Int) (l:List Int):Prop:=∀ a b,a∈l→b∈l→Tot (F (a,b)) fun _=>True
theorem CT.perm {F:Int×Int→Option Int} {l l':List Int} (h:CT F l) (p:l'.Perm l):CT F l':=fun a b ha hb=>h a b (p.mem_iff.1 ha) (p.mem_iff.1 hb)
theorem ubzs_ {l:List Int} {i j:Nat} (hi:i<l.length) (hj:j<l.length):((l.set i (l.getD j 0)).set j (l.getD i 0)).Perm l:=by
 have e1:l.getD i 0=l[i]:=by simp [List.getD,hi]
 have e2:l.getD j 0=l[j]:=by simp [List.getD,hj]
 rw [e1,e2]
 exact List.set_set_perm hi hj
theorem ut6_ (x:(List Int)×Int×YY22×Int) (h:CT x.2.2.1 x.1∧0≤x.2.1∧x.2.1≤x.2.2.2∧x.2.2.2<x.1.length∧x.1.length≤1048576) :
 Tot (uf6_ x) (fun r:List Int=>r.length=x.1.length∧r.Perm x.1):=by
 refine uq_ (R:=fun r:List Int=>r.length=x.1.length∧r.Perm x.1) (fun y:(List Int)×Int×YY22×Int=>CT y.2.2.1 x.1∧0≤y.2.1∧y.2.1≤y.2.2.2∧y.2.2.2<y.1.length∧y.1.length≤1048576∧y.1.length=x.1.length∧y.1.Perm x.1)
  (fun y=>y.2.2.2.toNat) ?_ _ _ ⟨h.1,h.2.1,h.2.2.1,h.2.2.2.1,h.2.2.2.2,rfl,List.Perm.refl _⟩ (by obtain ⟨_,_,_,_,_⟩:=h; unfold fuel; omega)
 rintro next ⟨data_0,a_1,cmp_3,j_9⟩ h hn
 dsimp only at h hn
 obtain ⟨h0,h1,h2,h3,h4,h5,h6⟩:=h
 unfold ukw_
 dsimp only
 by_cases hc:a_1<j_9
 · have hw:IntKind.i64.wrap (j_9-1)=j_9-1:=ubc_ (by omega) (by omega)
   simp only [hw,decide_eq_true hc,cond_true,Bool.true_and]
   refine ua_.2 (ucf_.2 ⟨⟨by omega,by omega⟩,?_⟩)
   refine ua_.2 (ucf_.2 ⟨⟨by omega,by omega⟩,?_⟩)
   refine ua_.2 ((h0 _ _ (h6.mem_iff.1 (uj_ (by omega))) (h6.mem_iff.1 (uj_ (by omega)))).mono fun r3 _=>?_)
   refine ug_.2 ⟨fun _=>?_,fun _=>ub_.2 ⟨h5,h6⟩⟩
   refine ua_.2 (ucf_.2 ⟨⟨by omega,by omega⟩,?_⟩)
   refine ua_.2 (ucf_.2 ⟨⟨by omega,by omega⟩,?_⟩)
   refine ua_.2 (ucf_.2 ⟨⟨by omega,by omega⟩,?_⟩)
   refine ua_.2 (ucf_.2 ⟨⟨by omega,by rw [List.length_set]; omega⟩,?_⟩)
   refine hn _ ⟨h0,h1,by dsimp only; omega,by simp only [List.length_set]; omega,by simp only [List.length_set]; omega,by simp only [List.length_set]; omega,(ubzs_ (by omega) (by omega)).trans h6⟩ (by dsimp only; omega)
 · simp only [decide_eq_false hc,cond_false,Bool.false_and]
   refine ua_.2 (ub_.2 ?_)
   refine ua_.2 (ub_.2 ?_)
   refine ua_.2 (ub_.2 ?_)
   exact ub_.2 ⟨h5,h6⟩
theorem ut7_ (x:(List Int)×Int×Int×YY22×Int) (h:CT x.2.2.2.1 x.1∧0≤x.2.1∧x.2.1≤x.2.2.2.2∧x.2.2.1≤x.1.length∧x.2.2.2.2≤1048577∧x.1.length≤1048576) :
 Tot (uf7_ x) (fun r:List Int=>r.length=x.1.length∧r.Perm x.1):=by
 refine uq_ (R:=fun r:List Int=>r.length=x.1.length∧r.Perm x.1) (fun y:(List Int)×Int×Int×YY22×Int=>CT y.2.2.2.1 x.1∧0≤y.2.1∧y.2.1≤y.2.2.2.2∧y.2.2.1≤y.1.length∧y.2.2.2.2≤1048577∧y.1.length≤1048576∧y.1.length=x.1.length∧y.1.Perm x.1)
  (fun y=>(y.2.2.1-y.2.2.2.2).toNat) ?_ _ _ ⟨h.1,h.2.1,h.2.2.1,h.2.2.2.1,h.2.2.2.2.1,h.2.2.2.2.2,rfl,List.Perm.refl _⟩ (by obtain ⟨_,_,_,_,_,_⟩:=h; unfold fuel; omega)
 rintro next ⟨data_0,a_1,b_2,cmp_3,i_8⟩ h hn
 dsimp only at h hn
 obtain ⟨h0,h1,h2,h3,h4,h5,h6,h7⟩:=h
 unfold ukx_
 dsimp only
 refine ug_.2 ⟨fun hc=>?_,fun _=>ub_.2 ⟨h6,h7⟩⟩
 have hc:=of_decide_eq_true hc
 have hw:IntKind.i64.wrap (i_8+1)=i_8+1:=ubc_ (by omega) (by omega)
 rw [hw]
 refine ua_.2 ((ut6_ _ ⟨h0.perm h7,h1,h2,by dsimp only; omega,h5⟩).mono fun r hr=>?_)
 dsimp only at hr
 obtain ⟨e1,e2⟩:=hr
 exact hn _ ⟨h0,h1,by dsimp only; omega,by dsimp only; omega,by dsimp only; omega,by dsimp only; omega,by dsimp only; omega,e2.trans h7⟩ (by dsimp only; omega)
theorem uj2_ (x:(List Int)×Int×Int×YY22) (h:CT x.2.2.2 x.1∧0≤x.2.1∧x.2.1≤1048576∧x.2.2.1≤x.1.length∧x.1.length≤1048576) :
 Tot (ucx_ x) (fun r:List Int=>r.length=x.1.length∧r.Perm x.1):=by
 obtain ⟨data_0,a_1,b_2,cmp_3⟩:=x
 dsimp only at h
 obtain ⟨h0,h1,h2,h3,h4⟩:=h
 unfold ucx_
 dsimp only
 rw [ubc_ (by omega) (by omega)]
 exact ua_.2 ((ut7_ _ ⟨h0,h1,by dsimp only; omega,h3,by dsimp only; omega,h4⟩).mono fun r hr=>ub_.2 hr)
theorem uy9_ (x:(List Int)×Int×Int×Int×Int) (h:0≤x.2.1∧0≤x.2.2.1∧x.2.1+x.2.2.2.1≤x.1.length∧x.2.2.1+x.2.2.2.1≤x.1.length∧0≤x.2.2.2.2∧x.1.length≤1048576) :
 Tot (uie_ x) (fun r:List Int=>r.length=x.1.length∧r.Perm x.1):=by
 refine uq_ (R:=fun r:List Int=>r.length=x.1.length∧r.Perm x.1) (fun y:(List Int)×Int×Int×Int×Int=>0≤y.2.1∧0≤y.2.2.1∧y.2.1+y.2.2.2.1≤y.1.length∧y.2.2.1+y.2.2.2.1≤y.1.length∧0≤y.2.2.2.2∧y.1.length≤1048576∧y.1.length=x.1.length∧y.1.Perm x.1)
  (fun y=>(y.2.2.2.1-y.2.2.2.2).toNat) ?_ _ _ ⟨h.1,h.2.1,h.2.2.1,h.2.2.2.1,h.2.2.2.2.1,h.2.2.2.2.2,rfl,List.Perm.refl _⟩ (by obtain ⟨_,_,_,_,_,_⟩:=h; unfold fuel; omega)
 rintro next ⟨data_0,a_1,b_2,n_3,i_10⟩ h hn
 dsimp only at h hn
 obtain ⟨h1,h2,h3,h4,h5,h6,h7,h8⟩:=h
 unfold uo2_
 dsimp only
 refine ug_.2 ⟨fun hc=>?_,fun _=>ub_.2 ⟨h7,h8⟩⟩
 have hc:=of_decide_eq_true hc
 have hw1:IntKind.i64.wrap (a_1+i_10)=a_1+i_10:=ubc_ (by omega) (by omega)
 have hw2:IntKind.i64.wrap (b_2+i_10)=b_2+i_10:=ubc_ (by omega) (by omega)
 have hw3:IntKind.i64.wrap (i_10+1)=i_10+1:=ubc_ (by omega) (by omega)
 rw [hw1,hw2,hw3]
 refine ua_.2 (ucf_.2 ⟨⟨by omega,by omega⟩,?_⟩)
 refine ua_.2 (ucf_.2 ⟨⟨by omega,by omega⟩,?_⟩)
 refine ua_.2 (ucf_.2 ⟨⟨by omega,by omega⟩,?_⟩)
 refine ua_.2 (ucf_.2 ⟨⟨by omega,by rw [List.length_set]; omega⟩,?_⟩)
 refine hn _ ⟨h1,h2,by simp only [List.length_set]; omega,by simp only [List.length_set]; omega,by dsimp only; omega,by simp only [List.length_set]; omega,by simp only [List.length_set]; omega,(ubzs_ (by omega) (by omega)).trans h8⟩ (by dsimp only; omega)
theorem uht_ (x:(List Int)×Int×Int×Int×YY22) (h:0≤x.2.1∧0≤x.2.2.1∧x.2.1+x.2.2.2.1≤x.1.length∧x.2.2.1+x.2.2.2.1≤x.1.length∧x.1.length≤1048576) :
 Tot (ucz_ x) (fun r:List Int=>r.length=x.1.length∧r.Perm x.1):=by
 obtain ⟨data_0,a_1,b_2,n_3,cmp_4⟩:=x
 obtain ⟨h1,h2,h3,h4,h5⟩:=h
 unfold ucz_
 dsimp only
 exact ua_.2 ((uy9_ _ ⟨h1,h2,h3,h4,Int.le_refl _,h5⟩).mono fun r hr=>ub_.2 hr)
theorem u3m_ (x:(List Int)×Int×YY22×Int×Int) (h:0<x.2.2.2.1∧0<x.2.2.2.2∧x.2.2.2.1≤x.2.1∧x.2.1+x.2.2.2.2≤x.1.length∧x.1.length≤1048576) :
 Tot (uj3_ x) (fun r:(List Int)×Int=>r.1.length=x.1.length∧r.1.Perm x.1∧0<r.2∧r.2≤x.2.1∧x.2.1+r.2≤x.1.length):=by
 refine uq_ (R:=fun r:(List Int)×Int=>r.1.length=x.1.length∧r.1.Perm x.1∧0<r.2∧r.2≤x.2.1∧x.2.1+r.2≤x.1.length) (fun y:(List Int)×Int×YY22×Int×Int=>0<y.2.2.2.1∧0<y.2.2.2.2∧y.2.2.2.1≤y.2.1∧y.2.1+y.2.2.2.2≤y.1.length∧y.1.length≤1048576∧y.1.length=x.1.length∧y.1.Perm x.1∧y.2.1=x.2.1)
  (fun y=>(y.2.2.2.1+y.2.2.2.2).toNat) ?_ _ _ ⟨h.1,h.2.1,h.2.2.1,h.2.2.2.1,h.2.2.2.2,rfl,(List.Perm.refl _),rfl⟩ (by obtain ⟨_,_,_,_,_⟩:=h; unfold fuel; omega)
 rintro next ⟨data_0,m_2,cmp_4,i_10,j_11⟩ h hn
 dsimp only at h hn
 obtain ⟨h1,h2,h3,h4,h5,h6,h7,h8⟩:=h
 unfold usu_
 dsimp only
 refine ug_.2 ⟨fun hc=>?_,fun hc=>ub_.2 ⟨h6,h7,h1,by dsimp only; omega,?_⟩⟩
 · have hc:i_10≠j_11:=by rw [ur_] at hc; simpa using hc
   have hw1:IntKind.i64.wrap (m_2-i_10)=m_2-i_10:=ubc_ (by omega) (by omega)
   have hw2:IntKind.i64.wrap (m_2+j_11)=m_2+j_11:=ubc_ (by omega) (by omega)
   have hw3:IntKind.i64.wrap (m_2+j_11-i_10)=m_2+j_11-i_10:=ubc_ (by omega) (by omega)
   have hw4:IntKind.i64.wrap (i_10-j_11)=i_10-j_11:=ubc_ (by omega) (by omega)
   have hw5:IntKind.i64.wrap (j_11-i_10)=j_11-i_10:=ubc_ (by omega) (by omega)
   rw [hw1,hw2,hw3,hw4,hw5]
   refine ug_.2 ⟨fun hd=>?_,fun hd=>?_⟩
   · have hd:=of_decide_eq_true hd
     refine ua_.2 ((uht_ _ ⟨by dsimp only; omega,by dsimp only; omega,by dsimp only; omega,by dsimp only; omega,h5⟩).mono fun r hr=>?_)
     dsimp only at hr
     exact hn _ ⟨by dsimp only; omega,h2,by dsimp only; omega,by dsimp only; omega,by dsimp only; omega,by dsimp only; omega,hr.2.trans h7,h8⟩ (by dsimp only; omega)
   · have hd:=of_decide_eq_false hd
     refine ua_.2 ((uht_ _ ⟨by dsimp only; omega,by dsimp only; omega,by dsimp only; omega,by dsimp only; omega,h5⟩).mono fun r hr=>?_)
     dsimp only at hr
     exact hn _ ⟨h1,by dsimp only; omega,h3,by dsimp only; omega,by dsimp only; omega,by dsimp only; omega,hr.2.trans h7,h8⟩ (by dsimp only; omega)
 · have hc:i_10=j_11:=by rw [ur_] at hc; simpa using hc
   omega
theorem u8o_ (x:(List Int)×Int×Int×Int×YY22) (h:0≤x.2.1∧x.2.1<x.2.2.1∧x.2.2.1<x.2.2.2.1∧x.2.2.2.1≤x.1.length∧x.1.length≤1048576) :
 Tot (uis_ x) (fun r:List Int=>r.length=x.1.length∧r.Perm x.1):=by
 obtain ⟨data_0,a_1,m_2,b_3,cmp_4⟩:=x
 dsimp only at h
 obtain ⟨h1,h2,h3,h4,h5⟩:=h
 unfold uis_
 dsimp only
 rw [ubc_ (n:=m_2-a_1) (by omega) (by omega),ubc_ (n:=b_3-m_2) (by omega) (by omega)]
 refine ua_.2 ((u3m_ _ ⟨by dsimp only; omega,by dsimp only; omega,by dsimp only; omega,by dsimp only; omega,h5⟩).mono fun r hr=>?_)
 dsimp only at hr
 obtain ⟨e1,e2,e3,e4,e5⟩:=hr
 rw [ubc_ (n:=m_2-r.2) (by omega) (by omega)]
 refine ua_.2 ((uht_ _ ⟨by dsimp only; omega,by dsimp only; omega,by dsimp only; omega,by dsimp only; omega,by dsimp only; omega⟩).mono fun r4 hr=>ub_.2 ?_)
 dsimp only at hr
 exact ⟨by omega,hr.2.trans e2⟩
theorem uzn_ (slf:(List Int)×Int×Int×Int×YY22→Option (List Int)) (x:(List Int)×Int×YY22×Int×Int) (h:CT x.2.2.1 x.1∧0≤x.2.1∧x.2.1<x.1.length∧0≤x.2.2.2.1∧x.2.2.2.1≤x.2.2.2.2∧x.2.2.2.2≤x.1.length∧x.1.length≤1048576) :
 Tot (uit_ slf x) (fun r:(List Int)×Int=>r.1=x.1∧x.2.2.2.1≤r.2∧r.2≤x.2.2.2.2):=by
 refine uq_ (R:=fun r:(List Int)×Int=>r.1=x.1∧x.2.2.2.1≤r.2∧r.2≤x.2.2.2.2) (fun y:(List Int)×Int×YY22×Int×Int=>CT y.2.2.1 x.1∧0≤y.2.1∧y.2.1<y.1.length∧0≤y.2.2.2.1∧y.2.2.2.1≤y.2.2.2.2∧y.2.2.2.2≤y.1.length∧y.1.length≤1048576∧y.1=x.1∧x.2.2.2.1≤y.2.2.2.1∧y.2.2.2.2≤x.2.2.2.2)
  (fun y=>(y.2.2.2.2-y.2.2.2.1).toNat) ?_ _ _ ⟨h.1,h.2.1,h.2.2.1,h.2.2.2.1,h.2.2.2.2.1,h.2.2.2.2.2.1,h.2.2.2.2.2.2,rfl,Int.le_refl _,Int.le_refl _⟩ (by obtain ⟨_,_,_,_,_,_,_⟩:=h; unfold fuel; omega)
 rintro next ⟨data_0,a_1,cmp_4,i_10,j_11⟩ h hn
 dsimp only at h hn
 obtain ⟨h0,h1,h2,h3,h4,h5,h6,h7,h8,h9⟩:=h
 unfold uqi_
 dsimp only
 refine ug_.2 ⟨fun hc=>?_,fun hc=>ub_.2 ⟨h7,h8,by dsimp only; omega⟩⟩
 have hc:=of_decide_eq_true hc
 refine ua_.2 (u4j_ (by omega) (by omega) (by omega) (by omega) ?_)
 have hw1:IntKind.i64.wrap ((i_10+j_11) / 2)=(i_10+j_11) / 2:=ubc_ (by omega) (by omega)
 have hw2:IntKind.i64.wrap ((i_10+j_11) / 2+1)=(i_10+j_11) / 2+1:=ubc_ (by omega) (by omega)
 rw [hw1,hw2]
 refine ua_.2 (ucf_.2 ⟨⟨by omega,by omega⟩,?_⟩)
 refine ua_.2 (ucf_.2 ⟨⟨by omega,by omega⟩,?_⟩)
 refine ua_.2 ((h0 _ _ (h7▸uj_ (by omega)) (h7▸uj_ (by omega))).mono fun r4 _=>?_)
 refine ug_.2 ⟨fun _=>?_,fun _=>?_⟩
 · exact hn _ ⟨h0,h1,h2,by dsimp only; omega,by dsimp only; omega,h5,h6,h7,by dsimp only; omega,h9⟩ (by dsimp only; omega)
 · exact hn _ ⟨h0,h1,h2,h3,by dsimp only; omega,by dsimp only; omega,h6,h7,h8,by dsimp only; omega⟩ (by dsimp only; omega)
theorem uzo_ (slf:(List Int)×Int×Int×Int×YY22→Option (List Int)) (x:(List Int)×Int×Int) (h:0≤x.2.1∧x.2.1≤x.1.length∧0≤x.2.2∧x.1.length≤1048576) :
 Tot (uiu_ slf x) (fun r:List Int=>r.length=x.1.length∧r.Perm x.1):=by
 refine uq_ (R:=fun r:List Int=>r.length=x.1.length∧r.Perm x.1) (fun y:(List Int)×Int×Int=>0≤y.2.1∧y.2.1≤y.1.length∧0≤y.2.2∧y.1.length≤1048576∧y.1.length=x.1.length∧y.1.Perm x.1)
  (fun y=>(y.2.1-y.2.2).toNat) ?_ _ _ ⟨h.1,h.2.1,h.2.2.1,h.2.2.2,rfl,List.Perm.refl _⟩ (by obtain ⟨_,_,_,_⟩:=h; unfold fuel; omega)
 rintro next ⟨data_0,i_10,k_13⟩ h hn
 dsimp only at h hn
 obtain ⟨h1,h2,h3,h4,h5,h6⟩:=h
 unfold uqj_
 dsimp only
 rw [ubc_ (n:=i_10-1) (by omega) (by omega)]
 refine ug_.2 ⟨fun hc=>?_,fun hc=>ub_.2 ⟨h5,h6⟩⟩
 have hc:=of_decide_eq_true hc
 have hw:IntKind.i64.wrap (k_13+1)=k_13+1:=ubc_ (by omega) (by omega)
 rw [hw]
 refine ua_.2 (ucf_.2 ⟨⟨by omega,by omega⟩,?_⟩)
 refine ua_.2 (ucf_.2 ⟨⟨by omega,by omega⟩,?_⟩)
 refine ua_.2 (ucf_.2 ⟨⟨by omega,by omega⟩,?_⟩)
 refine ua_.2 (ucf_.2 ⟨⟨by omega,by rw [List.length_set]; omega⟩,?_⟩)
 refine hn _ ⟨h1,by simp only [List.length_set]; omega,by dsimp only; omega,by simp only [List.length_set]; omega,by simp only [List.length_set]; omega,(ubzs_ (by omega) (by omega)).trans h6⟩ (by dsimp only; omega)
theorem uza_ (slf:(List Int)×Int×Int×Int×YY22→Option (List Int)) (x:(List Int)×Int×Int) (h:0≤x.2.1∧x.2.2<x.1.length∧x.1.length≤1048576) :
 Tot (uif_ slf x) (fun r:List Int=>r.length=x.1.length∧r.Perm x.1):=by
 refine uq_ (R:=fun r:List Int=>r.length=x.1.length∧r.Perm x.1) (fun y:(List Int)×Int×Int=>0≤y.2.1∧y.2.2<y.1.length∧y.1.length≤1048576∧y.1.length=x.1.length∧y.1.Perm x.1)
  (fun y=>(y.2.2-y.2.1).toNat) ?_ _ _ ⟨h.1,h.2.1,h.2.2,rfl,List.Perm.refl _⟩ (by obtain ⟨_,_,_⟩:=h; unfold fuel; omega)
 rintro next ⟨data_0,i_14,k_17⟩ h hn
 dsimp only at h hn
 obtain ⟨h1,h2,h4,h5,h6⟩:=h
 unfold uo3_
 dsimp only
 refine ug_.2 ⟨fun hc=>?_,fun hc=>ub_.2 ⟨h5,h6⟩⟩
 have hc:=of_decide_eq_true hc
 have hw:IntKind.i64.wrap (k_17-1)=k_17-1:=ubc_ (by omega) (by omega)
 rw [hw]
 refine ua_.2 (ucf_.2 ⟨⟨by omega,by omega⟩,?_⟩)
 refine ua_.2 (ucf_.2 ⟨⟨by omega,by omega⟩,?_⟩)
 refine ua_.2 (ucf_.2 ⟨⟨by omega,by omega⟩,?_⟩)
 refine ua_.2 (ucf_.2 ⟨⟨by omega,by rw [List.length_set]; omega⟩,?_⟩)
 refine hn _ ⟨h1,by simp only [List.length_set]; omega,by simp only [List.length_set]; omega,by simp only [List.length_set]; omega,(ubzs_ (by omega) (by omega)).trans h6⟩ (by dsimp only; omega)
theorem uzp_ (slf:(List Int)×Int×Int×Int×YY22→Option (List Int)) (x:(List Int)×Int×YY22×Int×Int) (h:CT x.2.2.1 x.1∧0≤x.2.1∧x.2.1<x.1.length∧0≤x.2.2.2.1∧x.2.2.2.1≤x.2.2.2.2∧x.2.2.2.2≤x.1.length∧x.1.length≤1048576) :
 Tot (uiv_ slf x) (fun r:(List Int)×Int=>r.1=x.1∧x.2.2.2.1≤r.2∧r.2≤x.2.2.2.2):=by
 refine uq_ (R:=fun r:(List Int)×Int=>r.1=x.1∧x.2.2.2.1≤r.2∧r.2≤x.2.2.2.2) (fun y:(List Int)×Int×YY22×Int×Int=>CT y.2.2.1 x.1∧0≤y.2.1∧y.2.1<y.1.length∧0≤y.2.2.2.1∧y.2.2.2.1≤y.2.2.2.2∧y.2.2.2.2≤y.1.length∧y.1.length≤1048576∧y.1=x.1∧x.2.2.2.1≤y.2.2.2.1∧y.2.2.2.2≤x.2.2.2.2)
  (fun y=>(y.2.2.2.2-y.2.2.2.1).toNat) ?_ _ _ ⟨h.1,h.2.1,h.2.2.1,h.2.2.2.1,h.2.2.2.2.1,h.2.2.2.2.2.1,h.2.2.2.2.2.2,rfl,Int.le_refl _,Int.le_refl _⟩ (by obtain ⟨_,_,_,_,_,_,_⟩:=h; unfold fuel; omega)
 rintro next ⟨data_0,m_2,cmp_4,i_14,j_15⟩ h hn
 dsimp only at h hn
 obtain ⟨h0,h1,h2,h3,h4,h5,h6,h7,h8,h9⟩:=h
 unfold uqk_
 dsimp only
 refine ug_.2 ⟨fun hc=>?_,fun hc=>ub_.2 ⟨h7,h8,by dsimp only; omega⟩⟩
 have hc:=of_decide_eq_true hc
 refine ua_.2 (u4j_ (by omega) (by omega) (by omega) (by omega) ?_)
 have hw1:IntKind.i64.wrap ((i_14+j_15) / 2)=(i_14+j_15) / 2:=ubc_ (by omega) (by omega)
 have hw2:IntKind.i64.wrap ((i_14+j_15) / 2+1)=(i_14+j_15) / 2+1:=ubc_ (by omega) (by omega)
 rw [hw1,hw2]
 refine ua_.2 (ucf_.2 ⟨⟨by omega,by omega⟩,?_⟩)
 refine ua_.2 (ucf_.2 ⟨⟨by omega,by omega⟩,?_⟩)
 refine ua_.2 ((h0 _ _ (h7▸uj_ (by omega)) (h7▸uj_ (by omega))).mono fun r13 _=>?_)
 refine ug_.2 ⟨fun _=>?_,fun _=>?_⟩
 · exact hn _ ⟨h0,h1,h2,by dsimp only; omega,by dsimp only; omega,h5,h6,h7,by dsimp only; omega,h9⟩ (by dsimp only; omega)
 · exact hn _ ⟨h0,h1,h2,h3,by dsimp only; omega,by dsimp only; omega,h6,h7,h8,by dsimp only; omega⟩ (by dsimp only; omega)
theorem uzb_ (slf:(List Int)×Int×Int×Int×YY22→Option (List Int)) (x:(List Int)×YY22×Int×Int×Int) (h:CT x.2.1 x.1∧0≤x.2.2.1∧x.2.2.1≤x.2.2.2.1∧x.2.2.2.1≤x.1.length∧x.2.2.2.1-1≤x.2.2.2.2∧x.2.2.2.2-x.2.2.1<x.1.length∧x.1.length≤1048576) :
 Tot (uig_ slf x) (fun r:(List Int)×Int=>r.1=x.1∧x.2.2.1≤r.2∧r.2≤x.2.2.2.1):=by
 refine uq_ (R:=fun r:(List Int)×Int=>r.1=x.1∧x.2.2.1≤r.2∧r.2≤x.2.2.2.1) (fun y:(List Int)×YY22×Int×Int×Int=>CT y.2.1 x.1∧0≤y.2.2.1∧y.2.2.1≤y.2.2.2.1∧y.2.2.2.1≤y.1.length∧y.2.2.2.1-1≤y.2.2.2.2∧y.2.2.2.2-y.2.2.1<y.1.length∧y.1.length≤1048576∧y.1=x.1∧x.2.2.1≤y.2.2.1∧y.2.2.2.1≤x.2.2.2.1)
  (fun y=>(y.2.2.2.1-y.2.2.1).toNat) ?_ _ _ ⟨h.1,h.2.1,h.2.2.1,h.2.2.2.1,h.2.2.2.2.1,h.2.2.2.2.2.1,h.2.2.2.2.2.2,rfl,Int.le_refl _,Int.le_refl _⟩ (by obtain ⟨_,_,_,_,_,_,_⟩:=h; unfold fuel; omega)
 rintro next ⟨data_0,cmp_4,start_20,r_21,p_22⟩ h hn
 dsimp only at h hn
 obtain ⟨h0,h1,h2,h3,h4,h5,h6,h7,h8,h9⟩:=h
 unfold uo4_
 dsimp only
 refine ug_.2 ⟨fun hc=>?_,fun hc=>ub_.2 ⟨h7,h8,by dsimp only; omega⟩⟩
 have hc:=of_decide_eq_true hc
 refine ua_.2 (u4j_ (by omega) (by omega) (by omega) (by omega) ?_)
 have hw1:IntKind.i64.wrap ((start_20+r_21) / 2)=(start_20+r_21) / 2:=ubc_ (by omega) (by omega)
 have hw2:IntKind.i64.wrap ((start_20+r_21) / 2+1)=(start_20+r_21) / 2+1:=ubc_ (by omega) (by omega)
 have hw3:IntKind.i64.wrap (p_22-(start_20+r_21) / 2)=p_22-(start_20+r_21) / 2:=ubc_ (by omega) (by omega)
 rw [hw1,hw2,hw3]
 refine ua_.2 (ucf_.2 ⟨⟨by omega,by omega⟩,?_⟩)
 refine ua_.2 (ucf_.2 ⟨⟨by omega,by omega⟩,?_⟩)
 refine ua_.2 ((h0 _ _ (h7▸uj_ (by omega)) (h7▸uj_ (by omega))).mono fun r4 _=>?_)
 refine ug_.2 ⟨fun _=>?_,fun _=>?_⟩
 · exact hn _ ⟨h0,by dsimp only; omega,by dsimp only; omega,h3,h4,by dsimp only; omega,h6,h7,by dsimp only; omega,h9⟩ (by dsimp only; omega)
 · exact hn _ ⟨h0,h1,by dsimp only; omega,by dsimp only; omega,by dsimp only; omega,h5,h6,h7,h8,by dsimp only; omega⟩ (by dsimp only; omega)
theorem uzc_ (slf:(List Int)×Int×Int×Int×YY22→Option (List Int)) (x:(List Int)×Int×YY22×Int×Int×Bool) (h:x.1.length≤1048576∧(x.2.2.2.2.2=true→0≤x.2.2.2.1∧x.2.2.2.1<x.2.1∧x.2.1<x.2.2.2.2.1∧x.2.2.2.2.1≤x.1.length)) :
 Tot (uet_ slf x) (fun r:List Int=>r.length=x.1.length∧r.Perm x.1):=by
 obtain ⟨data_0,m_2,cmp_4,start_20,end_24,t185⟩:=x
 dsimp only at h
 unfold uet_
 dsimp only
 refine ug_.2 ⟨fun hc=>?_,fun _=>ub_.2 ⟨rfl,List.Perm.refl _⟩⟩
 obtain ⟨h1,h2,h3,h4⟩:=h.2 hc
 exact ua_.2 ((u8o_ _ ⟨h1,h2,h3,h4,h.1⟩).mono fun r hr=>ub_.2 hr)
theorem uwx_ (slf:(List Int)×Int×Int×Int×YY22→Option (List Int)) (K:Int) (ih:∀ y:(List Int)×Int×Int×Int×YY22,(CT y.2.2.2.2 y.1∧0≤y.2.1∧y.2.1<y.2.2.1∧y.2.2.1<y.2.2.2.1∧y.2.2.2.1≤y.1.length∧y.1.length≤1048576)→y.2.2.2.1-y.2.1≤K→Tot (slf y) (fun r:List Int=>r.length=y.1.length∧r.Perm y.1)) (x:(List Int)×Int×Int×Int×YY22) (h:CT x.2.2.2.2 x.1∧0≤x.2.1∧x.2.1<x.2.2.1∧x.2.2.1<x.2.2.2.1∧x.2.2.2.1≤x.1.length∧x.1.length≤1048576) (hK:x.2.2.2.1-x.2.1≤2*K) :
 Tot (uhf_ slf x) (fun r:List Int=>r.length=x.1.length∧r.Perm x.1):=by
 obtain ⟨data_0,a_1,m_2,b_3,cmp_4⟩:=x
 dsimp only at h hK
 obtain ⟨h0,h1,h2,h3,h4,h5⟩:=h
 unfold uhf_
 dsimp only
 rw [ubc_ (n:=m_2-a_1) (by omega) (by omega),ubc_ (n:=b_3-m_2) (by omega) (by omega)]
 refine ug_.2 ⟨fun _=>?_,fun _=>ug_.2 ⟨fun _=>?_,fun _=>?_⟩⟩
 · refine ua_.2 ((uzn_ slf _ ⟨h0,h1,by dsimp only; omega,by dsimp only; omega,by dsimp only; omega,h4,h5⟩).mono fun r5 hr=>?_)
   dsimp only at hr
   obtain ⟨e1,e2,e3⟩:=hr
   refine ua_.2 ((uzo_ slf _ ⟨by dsimp only; omega,by dsimp only; rw [e1]; omega,h1,by dsimp only; rw [e1]; exact h5⟩).mono fun r9 hr=>ub_.2 ?_)
   dsimp only at hr
   rw [e1] at hr; exact hr
 · refine ua_.2 ((uzp_ slf _ ⟨h0,by dsimp only; omega,by dsimp only; omega,h1,by dsimp only; omega,by dsimp only; omega,h5⟩).mono fun r5 hr=>?_)
   dsimp only at hr
   obtain ⟨e1,e2,e3⟩:=hr
   refine ua_.2 ((uza_ slf _ ⟨by dsimp only; omega,by dsimp only; rw [e1]; omega,by dsimp only; rw [e1]; exact h5⟩).mono fun r9 hr=>ub_.2 ?_)
   dsimp only at hr
   rw [e1] at hr; exact hr
 · refine ua_.2 (u4j_ (by omega) (by omega) (by omega) (by omega) ?_)
   generalize hmid:(a_1+b_3) / 2=mid
   rw [ubc_ (n:=mid) (by omega) (by omega),ubc_ (n:=mid+m_2) (by omega) (by omega),ubc_ (n:=mid+m_2-1) (by omega) (by omega)]
   have hp:Tot (ues_ slf (a_1,m_2,b_3,mid,mid+m_2,decide (mid<m_2))) fun r:Int×Int=>0≤r.1∧a_1≤r.1∧mid+m_2-b_3≤r.1∧r.1≤r.2∧r.2≤m_2∧r.2≤mid+m_2∧mid+m_2-1-r.1<data_0.length:=by
    unfold ues_
    dsimp only
    refine ug_.2 ⟨fun hc=>ub_.2 ?_,fun hc=>ub_.2 ?_⟩
    · have hc:=of_decide_eq_true hc
      rw [ubc_ (by omega) (by omega)]
      dsimp only; omega
    · have hc:=of_decide_eq_false hc
      dsimp only; omega
   refine ua_.2 (hp.mono fun r20 hr=>?_)
   obtain ⟨f1,f2,f3,f4,f5,f6,f7⟩:=hr
   refine ua_.2 ((uzb_ slf _ ⟨h0,f1,f4,by dsimp only; omega,by dsimp only; omega,f7,h5⟩).mono fun r26 hr=>?_)
   dsimp only at hr
   obtain ⟨e1,e2,e3⟩:=hr
   rw [ubc_ (n:=mid+m_2-r26.2) (by omega) (by omega)]
   refine ua_.2 ((uzc_ slf _ ⟨by dsimp only; rw [e1]; exact h5,fun hc=>?_⟩).mono fun r29 hr=>?_)
   · dsimp only at hc ⊢
     rw [Bool.and_eq_true,decide_eq_true_eq,decide_eq_true_eq] at hc
     rw [e1]
     omega
   dsimp only at hr
   rw [e1] at hr
   obtain ⟨g1,g2⟩:=hr
   have hq:Tot (ueu_ slf (r29,a_1,cmp_4,mid,r26.2,decide (a_1<r26.2)&&decide (r26.2<mid))) fun r:List Int=>r.length=data_0.length∧r.Perm data_0:=by
    unfold ueu_
    dsimp only
    refine ug_.2 ⟨fun hc=>?_,fun _=>ub_.2 ⟨g1,g2⟩⟩
    rw [Bool.and_eq_true,decide_eq_true_eq,decide_eq_true_eq] at hc
    refine ua_.2 ((ih _ ⟨h0.perm g2,h1,by dsimp only; omega,by dsimp only; omega,by dsimp only; omega,by dsimp only; omega⟩ (by dsimp only; omega)).mono fun r31 hr=>ub_.2 ?_)
    dsimp only at hr
    exact ⟨by omega,hr.2.trans g2⟩
   refine ua_.2 (hq.mono fun r32 hr=>?_)
   obtain ⟨k1,k2⟩:=hr
   refine ug_.2 ⟨fun hc=>?_,fun _=>ub_.2 ⟨k1,k2⟩⟩
   rw [Bool.and_eq_true,decide_eq_true_eq,decide_eq_true_eq] at hc
   refine ua_.2 ((ih _ ⟨h0.perm k2,by dsimp only; omega,by dsimp only; omega,by dsimp only; omega,by dsimp only; omega,by dsimp only; omega⟩ (by dsimp only; omega)).mono fun r34 hr=>ub_.2 ?_)
   dsimp only at hr
   exact ⟨by omega,hr.2.trans k2⟩
theorem u1q_:∀ (n:Nat) (x:(List Int)×Int×Int×Int×YY22) (h:CT x.2.2.2.2 x.1∧0≤x.2.1∧x.2.1<x.2.2.1∧x.2.2.1<x.2.2.2.1∧x.2.2.2.1≤x.1.length∧x.1.length≤1048576) (hK:x.2.2.2.1-x.2.1≤2 ^ n),Tot (u5_ n x) (fun r:List Int=>r.length=x.1.length∧r.Perm x.1):=by
 intro n
 induction n with
 | zero =>
   intro x h hK
   obtain ⟨_,h1,h2,h3,_,_⟩:=h
   rw [Int.pow_zero] at hK
   omega
 | succ n ih =>
   intro x h hK
   refine uwx_ (u5_ n) (2 ^ n) (fun y hy hk=>ih y hy hk) x h ?_
   rw [Int.pow_succ] at hK
   omega
theorem upn_ (x:(List Int)×Int×Int×Int×YY22) (h:CT x.2.2.2.2 x.1∧0≤x.2.1∧x.2.1<x.2.2.1∧x.2.2.1<x.2.2.2.1∧x.2.2.2.1≤x.1.length∧x.1.length≤1048576):Tot (ueo_ x) (fun r:List Int=>r.length=x.1.length∧r.Perm x.1):=by
 unfold ueo_
 refine u1q_ 100 x h ?_
 obtain ⟨_,h1,h2,h3,h4,h5⟩:=h
 have:(1048576:Int)≤2 ^ 100:=by decide
 omega
end Go.Ev.Pv
namespace Go.Ev.Pv
theorem u3n_ (x:(List Int)×Int×YY12×Int×Int×Int) (h:CT x.2.2.1 x.1∧x.2.2.2.1=20∧0≤x.2.2.2.2.1∧x.2.2.2.2.2=x.2.2.2.2.1+20∧x.2.1=x.1.length∧x.2.1≤1048576∧x.2.2.2.2.1≤x.2.1):Tot (uj4_ x) (fun r:(List Int)×Int=>r.1.length=x.1.length∧r.1.Perm x.1∧0≤r.2∧r.2≤x.2.1):=by
 refine uq_ (R:=fun r:(List Int)×Int=>r.1.length=x.1.length∧r.1.Perm x.1∧0≤r.2∧r.2≤x.2.1) (fun y:(List Int)×Int×YY12×Int×Int×Int=>(CT y.2.2.1 x.1∧y.2.2.2.1=20∧0≤y.2.2.2.2.1∧y.2.2.2.2.2=y.2.2.2.2.1+20∧y.2.1=y.1.length∧y.2.1≤1048576∧y.2.2.2.2.1≤y.2.1)∧y.2.1=x.2.1∧y.2.2.1=x.2.2.1∧y.2.2.2.1=x.2.2.2.1∧y.1.length=x.1.length∧y.1.Perm x.1) (fun y:(List Int)×Int×YY12×Int×Int×Int=>(y.2.1-y.2.2.2.2.1).toNat) ?_ _ _ (by grind) (by unfold fuel; grind)
 rintro next ⟨data_0,n_1,cmp_2,blockSize_6,a_7,b_8⟩ h hn
 try dsimp only at h hn
 unfold usv_
 repeat' first
  | (with_reducible first | refine ug_.2 ⟨fun _=>?_,fun _=>?_⟩ | refine ua_.2 ?_ | refine ub_.2 ?_ | refine (uj2_ _ ?_).mono fun _ _=>?_ | refine hn _ ?_ ?_)
  | dsimp only
 all_goals grind [List.Perm.trans,List.Perm.refl,CT.perm,List.Perm.length_eq,un_,uh_,uc_,uw_,ur_,u3_,u2_,u8le,uj_,ue_,uy_,ut_,uz_,xlc,xln,xmt,xmd]
theorem u3o_ (x:(List Int)×Int×YY12×Int×Int×Int) (h:CT x.2.2.1 x.1∧0<x.2.2.2.1∧x.2.2.2.1<x.2.1∧0≤x.2.2.2.2.1∧x.2.2.2.2.2=x.2.2.2.2.1+2*x.2.2.2.1∧x.2.1=x.1.length∧x.2.1≤1048576∧x.2.2.2.2.1≤x.2.1):Tot (uj5_ x) (fun r:(List Int)×Int=>r.1.length=x.1.length∧r.1.Perm x.1∧0≤r.2∧r.2≤x.2.1):=by
 refine uq_ (R:=fun r:(List Int)×Int=>r.1.length=x.1.length∧r.1.Perm x.1∧0≤r.2∧r.2≤x.2.1) (fun y:(List Int)×Int×YY12×Int×Int×Int=>(CT y.2.2.1 x.1∧0<y.2.2.2.1∧y.2.2.2.1<y.2.1∧0≤y.2.2.2.2.1∧y.2.2.2.2.2=y.2.2.2.2.1+2*y.2.2.2.1∧y.2.1=y.1.length∧y.2.1≤1048576∧y.2.2.2.2.1≤y.2.1)∧y.2.1=x.2.1∧y.2.2.1=x.2.2.1∧y.2.2.2.1=x.2.2.2.1∧y.1.length=x.1.length∧y.1.Perm x.1) (fun y:(List Int)×Int×YY12×Int×Int×Int=>(y.2.1-y.2.2.2.2.1).toNat) ?_ _ _ (by grind) (by unfold fuel; grind)
 rintro next ⟨data_0,n_1,cmp_2,blockSize_6,a_7,b_8⟩ h hn
 try dsimp only at h hn
 unfold usw_
 repeat' first
  | (with_reducible first | refine ug_.2 ⟨fun _=>?_,fun _=>?_⟩ | refine ua_.2 ?_ | refine ub_.2 ?_ | refine (upn_ _ ?_).mono fun _ _=>?_ | refine hn _ ?_ ?_)
  | dsimp only
 all_goals grind [List.Perm.trans,List.Perm.refl,CT.perm,List.Perm.length_eq,un_,uh_,uc_,uw_,ur_,u3_,u2_,u8le,uj_,ue_,uy_,ut_,uz_,xlc,xln,xmt,xmd]
theorem u3p_ (x:(List Int)×Int×YY12×Int) (h:CT x.2.2.1 x.1∧0<x.2.2.2∧x.2.2.2≤2097152∧x.2.1=x.1.length∧x.2.1≤1048576):Tot (uj6_ x) (fun r:List Int=>r.length=x.1.length∧r.Perm x.1):=by
 refine uq_ (R:=fun r:List Int=>r.length=x.1.length∧r.Perm x.1) (fun y:(List Int)×Int×YY12×Int=>(CT y.2.2.1 x.1∧0<y.2.2.2∧y.2.2.2≤2097152∧y.2.1=y.1.length∧y.2.1≤1048576)∧y.2.1=x.2.1∧y.2.2.1=x.2.2.1∧y.1.length=x.1.length∧y.1.Perm x.1) (fun y:(List Int)×Int×YY12×Int=>(2097153-y.2.2.2).toNat) ?_ _ _ (by grind) (by unfold fuel; grind)
 rintro next ⟨data_0,n_1,cmp_2,blockSize_6⟩ h hn
 try dsimp only at h hn
 unfold usx_
 repeat' first
  | (with_reducible first | refine ug_.2 ⟨fun _=>?_,fun _=>?_⟩ | refine ua_.2 ?_ | refine ub_.2 ?_ | refine (u3o_ _ ?_).mono fun _ _=>?_ | refine (upn_ _ ?_).mono fun _ _=>?_ | refine hn _ ?_ ?_)
  | dsimp only
 all_goals grind [List.Perm.trans,List.Perm.refl,CT.perm,List.Perm.length_eq,un_,uh_,uc_,uw_,ur_,u3_,u2_,u8le,uj_,ue_,uy_,ut_,uz_,xlc,xln,xmt,xmd]
theorem u8p_ (x:(List Int)×Int×YY12) (h:CT x.2.2 x.1∧x.2.1=x.1.length∧x.2.1≤1048576):Tot (uiw_ x) (fun r:List Int=>r.length=x.1.length∧r.Perm x.1):=by
 obtain ⟨data_0,n_1,cmp_2⟩:=x
 try dsimp only at h ⊢
 unfold uiw_
 repeat' first
  | (with_reducible first | refine ua_.2 ?_ | refine ub_.2 ?_ | refine (u3n_ _ ?_).mono fun _ _=>?_ | refine (uj2_ _ ?_).mono fun _ _=>?_ | refine (u3p_ _ ?_).mono fun _ _=>?_)
  | dsimp only
 all_goals grind [List.Perm.trans,List.Perm.refl,CT.perm,List.Perm.length_eq,un_,uh_,uc_,uw_,ur_,u3_,u2_,u8le,uj_,ue_,uy_,ut_,uz_,xlc,xln,xmt,xmd]
theorem u6k_ (x:(List Int)×YY12) (h:CT x.2 x.1∧x.1.length≤1048576):Tot (uh4_ x) (fun r:List Int=>r.length=x.1.length∧r.Perm x.1):=by
 obtain ⟨x_0,cmp_1⟩:=x
 try dsimp only at h ⊢
 unfold uh4_
 repeat' first
  | (with_reducible first | refine ua_.2 ?_ | refine ub_.2 ?_ | refine (u8p_ _ ?_).mono fun _ _=>?_)
  | dsimp only
 all_goals grind [List.Perm.trans,List.Perm.refl,CT.perm,List.Perm.length_eq,un_,uh_,uc_,uw_,ur_,u3_,u2_,u8le,uj_,ue_,uy_,ut_,uz_,xlc,xln,xmt,xmd]
end Go.Ev.Pv
namespace Go.Ev.Pv
abbrev Bs:=Int×(List Adv)×(List Int)
abbrev Dl:=Int×Int×(List Adv)×(List Str)
noncomputable def chk (a:Adv):Int:=(uha_ a).getD 1
theorem ucjt_ {a:Adv} (h:AdB a):uha_ a=some (chk a):=by
 obtain ⟨r,hr,_⟩:=ubxo_ a h
 unfold chk
 rw [hr]; rfl
theorem ucgw_ (a b:Str):(Op.bytesLess a b||eqS a b) = !decide (b<a):=by
 rw [ucdr_,uw_]
 rcases stri a b with h | h | h
 · simp [h,sasym h]
 · subst h; simp [sirr]
 · have:a≠b:=fun e=>by subst e; exact sirr _ h
   simp [h,sasym h,this]
def BB (b:Bs):Prop:=∀ a∈b.2.1,AdB a
def DB (d:Dl):Prop:=d.2.2.1.length≤1048576∧∀ a∈d.2.2.1,AdB a
theorem ucdv_ {α β:Type} (r:(α→Option β)→α→Option β) (x:α):loopN r fuel x=r (loopN r (fuel-1)) x:=by
 have e:fuel=(fuel-1)+1:=by unfold fuel; omega
 rw [e]; rfl
theorem ucdw_ {α:Type} {B:Nat} (l:List α) (h:l.length*B≤70368744177664):app? B [] l=some l:=by
 unfold app?
 rw [decide_eq_true (by simpa using h)]
 rfl
theorem ucdx_ {l:List Str} (h:l.length≤1048576):uh2_ l=some l:=by
 unfold uh2_ utd_
 rw [ucdw_ l (by omega)]; rfl
theorem ucju_ {l:List (Int×Str)} (h:l.length≤1048576):uku_ l=some l:=by
 unfold uku_ un9_
 rw [ucdw_ l (by omega)]; rfl
theorem u6l_ {α:Type} {l:List α} {i:Nat} {a:α} (h:l[i]? = some a):l.take (i+1)=l.take i++[a]:=by
 rw [List.take_add_one,h]; rfl
theorem ucft_ (l:List Af) (hl:l.length≤1048576) (hb:∀ a∈l,AfB a):Tot (u0y_ (([]:List Af),l,(l.length:Int),0)) (fun r=>r=l):=by
 refine uq_ (R:=fun r:List Af=>r=l) (fun y:(List Af)×(List Af)×Int×Int=>y.1=l.take y.2.2.2.toNat∧y.2.1=l∧y.2.2.1=l.length∧0≤y.2.2.2∧y.2.2.2≤l.length)
  (fun y=>((l.length:Int)-y.2.2.2).toNat) ?_ _ _ ⟨rfl,rfl,rfl,Int.le_refl _,Int.natCast_nonneg _⟩ (by unfold fuel; dsimp only; omega)
 rintro next ⟨m',l',n,i⟩ hI hn
 dsimp only at hI hn
 obtain ⟨rfl,rfl,rfl,i0,i1⟩:=hI
 unfold ubc0_
 dsimp only
 refine ug_.2 ⟨fun hc=>?_,fun hc=>ub_.2 ?_⟩
 · have hc:=of_decide_eq_true hc
   rw [ubc_ (n:=i+1) (by omega) (by omega)]
   refine ua_.2 (u1_.2 ⟨⟨i0,hc⟩,fun a ha=>?_⟩)
   obtain ⟨b1,b2,b3,b4,b5,b6,b7⟩:=hb a (uio_ ha)
   rw [ucju_ b2,ucdx_ b4,ucdx_ b6]
   refine ua_.2 (ub_.2 (ua_.2 (ub_.2 (ua_.2 (ub_.2 (ua_.2 (ule_.2 ⟨?_,?_⟩)))))))
   · rw [List.length_take]; simp only [List.length_cons,List.length_nil]; omega
   refine hn _ ⟨?_,rfl,rfl,by dsimp only; omega,by dsimp only; omega⟩ (by dsimp only; omega)
   dsimp only
   rw [show (i+1).toNat=i.toNat+1 by omega,u6l_ ha]
 · have hc:=of_decide_eq_false hc
   exact List.take_of_length_le (by omega)
theorem ucfu_ {a:Adv} (h:AdB a):uue_ a=some a:=by
 unfold uue_
 obtain ⟨b1,b2,b3,b4,b5,b6,b7⟩:=h
 rw [ucdx_ b2]
 obtain ⟨r,hr,rfl⟩:=ucft_ a.2.2.2.2.2.2 b6 b7
 rw [Option.bind_some,hr]; rfl
end Go.Ev.Pv
namespace Go.Ev.Pv
theorem ucid_ (l:List Str) (h:l.length≤1048576):uh3_ (l,l)=some true:=by
 have:Tot (uq9_ (l,l,(l.length:Int),0)) (fun r=>r=.inl ()):=by
  refine uq_ (R:=fun r:Sum Unit Bool=>r=.inl ()) (fun y:(List Str)×(List Str)×Int×Int=>y.1=l∧y.2.1=l∧y.2.2.1=l.length∧0≤y.2.2.2∧y.2.2.2≤l.length) (fun y=>((l.length:Int)-y.2.2.2).toNat) ?_ _ _ ⟨rfl,rfl,rfl,Int.le_refl _,Int.natCast_nonneg _⟩ (by unfold fuel; dsimp only; omega)
  rintro next ⟨a,b,n,i⟩ hI hn
  dsimp only at hI hn
  obtain ⟨rfl,rfl,rfl,i0,i1⟩:=hI
  unfold u2g_
  dsimp only
  refine ug_.2 ⟨fun hc=>?_,fun _=>ub_.2 rfl⟩
  have hc:=of_decide_eq_true hc
  rw [ubc_ (by omega) (by omega)]
  refine ua_.2 (u1_.2 ⟨⟨i0,hc⟩,fun y hy=>ua_.2 (u1_.2 ⟨⟨i0,hc⟩,fun z hz=>?_⟩)⟩)
  rw [hy] at hz
  cases hz
  rw [uw_]
  simp only [decide_true,Bool.not_true,cond_false]
  exact hn _ ⟨rfl,rfl,rfl,by dsimp only; omega,by dsimp only; omega⟩ (by dsimp only; omega)
 obtain ⟨r,hr,rfl⟩:=this
 unfold uh3_
 dsimp only
 rw [ur_,hr]
 simp
theorem eq_ev (l:List (Int×Str)) (h:l.length≤1048576):ukv_ (l,l)=some true:=by
 have:Tot (umo_ (l,l,(l.length:Int),0)) (fun r=>r=.inl ()):=by
  refine uq_ (R:=fun r:Sum Unit Bool=>r=.inl ()) (fun y:YY25×YY25×Int×Int=>y.1=l∧y.2.1=l∧y.2.2.1=l.length∧0≤y.2.2.2∧y.2.2.2≤l.length) (fun y=>((l.length:Int)-y.2.2.2).toNat) ?_ _ _ ⟨rfl,rfl,rfl,Int.le_refl _,Int.natCast_nonneg _⟩ (by unfold fuel; dsimp only; omega)
  rintro next ⟨a,b,n,i⟩ hI hn
  dsimp only at hI hn
  obtain ⟨rfl,rfl,rfl,i0,i1⟩:=hI
  unfold uwa_
  dsimp only
  refine ug_.2 ⟨fun hc=>?_,fun _=>ub_.2 rfl⟩
  have hc:=of_decide_eq_true hc
  rw [ubc_ (by omega) (by omega)]
  refine ua_.2 (u1_.2 ⟨⟨i0,hc⟩,fun y hy=>ua_.2 (u1_.2 ⟨⟨i0,hc⟩,fun z hz=>?_⟩)⟩)
  rw [hy] at hz
  cases hz
  rw [uw_,ur_]
  simp only [decide_true,Bool.and_self,Bool.not_true,cond_false]
  exact hn _ ⟨rfl,rfl,rfl,by dsimp only; omega,by dsimp only; omega⟩ (by dsimp only; omega)
 obtain ⟨r,hr,rfl⟩:=this
 unfold ukv_
 dsimp only
 rw [ur_,hr]
 simp
theorem ucjv_ {a:Af} (h:AfB a):ulj_ (a,a)=some true:=by
 obtain ⟨b1,b2,b3,b4,b5,b6,b7⟩:=h
 unfold ulj_
 dsimp only
 rw [uw_,ur_,eq_ev _ b2,ucid_ _ b4,ucid_ _ b6]
 simp
theorem uckv_ (l:List Af) (h:l.length≤1048576) (hb:∀ a∈l,AfB a):ub4_ (l,l,(fun x=>(ulj_ x).bind fun r=>some r))=some true:=by
 have:Tot (ucu_ (l,(fun x=>(ulj_ x).bind fun r=>some r),l,(l.length:Int),0)) (fun r=>r=.inl ()):=by
  refine uq_ (R:=fun r:Sum Unit Bool=>r=.inl ()) (fun y:(List Af)×(Af×Af→Option Bool)×(List Af)×Int×Int=>y.1=l∧y.2.1=(fun x=>(ulj_ x).bind fun r=>some r)∧y.2.2.1=l∧y.2.2.2.1=l.length∧0≤y.2.2.2.2∧y.2.2.2.2≤l.length) (fun y=>((l.length:Int)-y.2.2.2.2).toNat) ?_ _ _ ⟨rfl,rfl,rfl,rfl,Int.le_refl _,Int.natCast_nonneg _⟩ (by unfold fuel; dsimp only; omega)
  rintro next ⟨a,f,b,n,i⟩ hI hn
  dsimp only at hI hn
  obtain ⟨rfl,rfl,rfl,rfl,i0,i1⟩:=hI
  unfold ufs_
  dsimp only
  refine ug_.2 ⟨fun hc=>?_,fun _=>ub_.2 rfl⟩
  have hc:=of_decide_eq_true hc
  rw [ubc_ (by omega) (by omega)]
  refine ua_.2 (u1_.2 ⟨⟨i0,hc⟩,fun y hy=>ua_.2 (u1_.2 ⟨⟨i0,hc⟩,fun z hz=>?_⟩)⟩)
  rw [hy] at hz
  cases hz
  rw [ucjv_ (hb y (uio_ hy))]
  refine ua_.2 (ub_.2 ?_)
  simp only [Bool.not_true,cond_false]
  exact hn _ ⟨rfl,rfl,rfl,rfl,by dsimp only; omega,by dsimp only; omega⟩ (by dsimp only; omega)
 obtain ⟨r,hr,rfl⟩:=this
 unfold ub4_
 dsimp only
 rw [ur_,hr]
 simp
theorem ucie_ (b:Bool):eqB b b=true:=by cases b <;> rfl
theorem ucjw_ {a:Adv} (h:AdB a):ub0n_ (a,a)=some true:=by
 obtain ⟨b1,b2,b3,b4,b5,b6,b7⟩:=h
 unfold ub0n_
 dsimp only
 rw [uw_,uw_,uw_,ur_,ucie_,ucid_ _ b2,uckv_ _ b6 b7]
 simp
theorem uckw_ (l:List Adv) (h:l.length≤1048576) (hb:∀ a∈l,AdB a):ub3_ (l,l,(fun x=>(ub0n_ x).bind fun r=>some r))=some true:=by
 have:Tot (uct_ (l,(fun x=>(ub0n_ x).bind fun r=>some r),l,(l.length:Int),0)) (fun r=>r=.inl ()):=by
  refine uq_ (R:=fun r:Sum Unit Bool=>r=.inl ()) (fun y:(List Adv)×(Adv×Adv→Option Bool)×(List Adv)×Int×Int=>y.1=l∧y.2.1=(fun x=>(ub0n_ x).bind fun r=>some r)∧y.2.2.1=l∧y.2.2.2.1=l.length∧0≤y.2.2.2.2∧y.2.2.2.2≤l.length) (fun y=>((l.length:Int)-y.2.2.2.2).toNat) ?_ _ _ ⟨rfl,rfl,rfl,rfl,Int.le_refl _,Int.natCast_nonneg _⟩ (by unfold fuel; dsimp only; omega)
  rintro next ⟨a,f,b,n,i⟩ hI hn
  dsimp only at hI hn
  obtain ⟨rfl,rfl,rfl,rfl,i0,i1⟩:=hI
  unfold ufr_
  dsimp only
  refine ug_.2 ⟨fun hc=>?_,fun _=>ub_.2 rfl⟩
  have hc:=of_decide_eq_true hc
  rw [ubc_ (by omega) (by omega)]
  refine ua_.2 (u1_.2 ⟨⟨i0,hc⟩,fun y hy=>ua_.2 (u1_.2 ⟨⟨i0,hc⟩,fun z hz=>?_⟩)⟩)
  rw [hy] at hz
  cases hz
  rw [ucjw_ (hb y (uio_ hy))]
  refine ua_.2 (ub_.2 ?_)
  simp only [Bool.not_true,cond_false]
  exact hn _ ⟨rfl,rfl,rfl,rfl,by dsimp only; omega,by dsimp only; omega⟩ (by dsimp only; omega)
 obtain ⟨r,hr,rfl⟩:=this
 unfold ub3_
 dsimp only
 rw [ur_,hr]
 simp
end Go.Ev.Pv
namespace Go.Ev.Pv
theorem told5:ub92_ ()=some true:=by kernel_rfl
theorem ub97_ {α:Type} {f:α→Str} {s t:List α} (h:s.Perm t) (h1:s.Pairwise (fun x y=>f x<f y)) (h2:t.Pairwise (fun x y=>f x<f y)):s=t :=
 List.Perm.eq_of_pairwise (le:=fun x y=>f x<f y) (fun a b _ _ g1 g2=>absurd g2 (sasym g1)) h1 h2 h
section
variable {b:Bs} {d:Dl} (hb:BB b) (hbl:b.2.1.length≤1048576) (hd:DB d) (h0:d.2.2.2=[])
end
end Go.Ev.Pv
