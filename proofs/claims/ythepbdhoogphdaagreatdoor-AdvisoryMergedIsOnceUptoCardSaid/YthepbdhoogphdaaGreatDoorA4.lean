/-
  What merging gives: groups, one for a group, the merged list; the law itself as plain Lean.
-/
import Derived.Test.YthepbdhoogphdaaGreatDoorA3
set_option linter.unusedVariables false
set_option linter.unusedSimpArgs false
set_option linter.unusedSectionVars false
set_option maxRecDepth 100000
namespace Go.Ev.Pv
def nms (a:Adv):List Str:=a.1::a.2.1
def Disj (l:List Adv):Prop:=∀ (i j:Nat) (a b:Adv) (s:Str),l[i]? = some a→l[j]? = some b→s∈nms a→s∈nms b→i=j
def Fst (n:Nat) (f:List Int) (ρ:Nat→Nat):Prop:=f.length=n∧∀ i,i<n→∃ j:Nat,f[i]? = some (j:Int)∧j≤i∧ρ j=ρ i∧(j=i→ρ i=i)
theorem Fst.root {n:Nat} {f:List Int} {ρ:Nat→Nat} (h:Fst n f ρ):∀ i,i<n→ρ i≤i∧ρ (ρ i)=ρ i:=by
 intro i
 induction i using Nat.strongRecOn with
 | ind i ih =>
   intro hi
   obtain ⟨j,h1,h2,h3,h4⟩:=h.2 i hi
   by_cases e:j=i
   · subst e
     have:=h4 rfl
     rw [this]; exact ⟨Nat.le_refl _,this⟩
   · obtain ⟨g1,g3⟩:=ih j (by omega) (by omega)
     rw [h3] at g1 g3
     exact ⟨by omega,g3⟩
theorem Fst.set {n:Nat} {f:List Int} {ρ:Nat→Nat} (h:Fst n f ρ) {k m:Nat} (hk:k<n) (h1:m≤k) (h2:ρ m=ρ k) (h3:m=k→ρ k=k):Fst n (f.set k (m:Int)) ρ:=by
 refine ⟨by rw [List.length_set]; exact h.1,fun i hi=>?_⟩
 by_cases e:k=i
 · subst e
   exact ⟨m,by rw [List.getElem?_set_self (by rw [h.1]; exact hk)],h1,h2,h3⟩
 · rw [List.getElem?_set_ne e]
   exact h.2 i hi
theorem Fst.join {n:Nat} {f:List Int} {ρ:Nat→Nat} (h:Fst n f ρ) {a b:Nat} (ha:a<n) (hb:b≤a) (ra:ρ a=a) (rb:ρ b=b):Fst n (f.set a (b:Int)) (fun k=>if ρ k=a then b else ρ k):=by
 refine ⟨by rw [List.length_set]; exact h.1,fun i hi=>?_⟩
 by_cases e:a=i
 · subst e
   refine ⟨b,by rw [List.getElem?_set_self (by rw [h.1]; exact ha)],hb,?_,fun hba=>?_⟩
   · dsimp only; rw [ra,rb]
     by_cases hz:b=a <;> simp [hz]
   · dsimp only; rw [ra]; simp [hba]
 · rw [List.getElem?_set_ne e]
   obtain ⟨j,h1,h2,h3,h4⟩:=h.2 i hi
   refine ⟨j,h1,h2,?_,fun hj=>?_⟩
   · dsimp only; rw [h3]
   · have h5:=h4 hj
     have hne:¬ i=a:=fun h=>e h.symm
     dsimp only; rw [h5,if_neg hne]
theorem ucdy_ {l:List Int} {i:Nat} {x:Int} (h:l[i]? = some x):l.getD i 0=x:=by simp [List.getD,h]
theorem ub83_ {n:Nat} {f:List Int} {ρ:Nat→Nat} (h:Fst n f ρ) (hn:n≤2000) {i:Nat} (hi:i<n) :
 Tot (ugx_ ((i:Int),f)) (fun r=>r.1=((ρ i:Nat):Int)∧Fst n r.2 ρ):=by
 unfold ugx_
 dsimp only
 refine ua_.2 (Tot.mono (P:=fun r:Int×List Int=>r.1=((ρ i:Nat):Int)∧Fst n r.2 ρ) ?_ fun r hr=>ub_.2 hr)
 refine uq_ (R:=fun r:Int×List Int=>r.1=((ρ i:Nat):Int)∧Fst n r.2 ρ) (fun y:Int×List Int=>∃ k:Nat,y.1=(k:Int)∧k<n∧ρ k=ρ i∧Fst n y.2 ρ) (fun y=>y.1.toNat) ?_ _ _ ⟨i,rfl,hi,rfl,h⟩ (by unfold fuel; dsimp only; omega)
 rintro next ⟨i',f'⟩ hI hn'
 dsimp only at hI hn'
 obtain ⟨k,rfl,hk,hr,hF⟩:=hI
 obtain ⟨j,j1,j2,j3,j4⟩:=hF.2 k hk
 obtain ⟨m,m1,m2,m3,m4⟩:=hF.2 j (by omega)
 have hl:=hF.1
 unfold u4s_
 simp only [Int.toNat_natCast,ucdy_ j1,ucdy_ m1,ur_]
 refine ua_.2 (ucf_.2 ⟨⟨by omega,by omega⟩,?_⟩)
 refine ug_.2 ⟨fun hc=>?_,fun hc=>ub_.2 ⟨?_,hF⟩⟩
 · have hc:¬ (j:Int)=k:=by simpa using hc
   have hjk:j≠k:=fun e=>hc (by rw [e])
   refine ua_.2 (ucf_.2 ⟨⟨by omega,by omega⟩,?_⟩)
   refine ua_.2 (ucf_.2 ⟨⟨by omega,by omega⟩,?_⟩)
   refine ua_.2 (ucf_.2 ⟨⟨by omega,by omega⟩,?_⟩)
   refine ua_.2 (ucf_.2 ⟨⟨by omega,by rw [List.length_set]; omega⟩,?_⟩)
   rw [ucdy_ (x:=(m:Int)) (by rw [List.getElem?_set_self (by omega)])]
   exact hn' _ ⟨m,rfl,by omega,by rw [m3,j3,hr],hF.set hk (by omega) (by rw [m3,j3]) (fun e=>by omega)⟩ (by dsimp only; omega)
 · have hc:(j:Int)=k:=by simpa using hc
   have hjk:j=k:=by omega
   rw [← hr,j4 hjk]
theorem ubzt_ {α β:Type} [DecidableEq α] {eq:α→α→Bool} (he:∀ x y,eq x y=decide (x=y)) (k k':α) (v:β):∀ m:List (α×β),ui5_ eq k (putKV eq k' v m)=if k=k' then some v else ui5_ eq k m:=by
 intro m
 induction m with
 | nil =>
   simp only [putKV,ui5_,he]
   by_cases h:k=k' <;> simp [h]
 | cons e r ih =>
   obtain ⟨a,b⟩:=e
   simp only [putKV,he]
   by_cases h:k'=a
   · subst h
     simp only [decide_true,cond_true,ui5_,he]
     by_cases h2:k=k' <;> simp [h2]
   · simp only [decide_eq_false h,cond_false,ui5_,he,ih]
     by_cases h2:k=a
     · subst h2
       have h3:¬ k=k':=fun e=>h e.symm
       simp [h3]
     · simp [h2]
structure Seen (l:List Adv) (ρ:Nat→Nat) (seen:List (Str×Int)) (i:Nat) (done:List Str):Prop where
 val:∀ s v,ui5_ eqS s seen=some v→∃ (j:Nat) (a:Adv),v=(j:Int)∧l[j]? = some a∧s∈nms a
 old:∀ i' a s,i'<i→l[i']? = some a→s∈nms a→∃ j:Nat,ui5_ eqS s seen=some (j:Int)∧ρ j=ρ i'
 new:∀ s,s∈done→∃ j:Nat,ui5_ eqS s seen=some (j:Int)∧ρ j=ρ i
 same:Disj l→∀ k,k<l.length→ρ k=k
theorem ucif_ (a b:Nat):maxI (a:Int) (b:Int)=((max a b:Nat):Int):=by
 unfold maxI
 by_cases h:(a:Int)<b
 · rw [decide_eq_true h]; simp only [cond_true]; omega
 · rw [decide_eq_false h]; simp only [cond_false]; omega
theorem ucig_ (a b:Nat):minI (a:Int) (b:Int)=((min a b:Nat):Int):=by
 unfold minI
 by_cases h:(b:Int)<a
 · rw [decide_eq_true h]; simp only [cond_true]; omega
 · rw [decide_eq_false h]; simp only [cond_false]; omega
theorem ucfv_ {l:List Adv} {f:List Int} {ρ:Nat→Nat} {seen:List (Str×Int)} {i:Nat} {a:Adv} (hl:l.length≤2000) (ha:l[i]? = some a) (hla:(nms a).length≤1048577) (hF:Fst l.length f ρ) (hS:Seen l ρ seen i []) :
 Tot (u00_ (f,seen,(i:Int),nms a,((nms a).length:Int),0)) (fun r=>∃ ρ',Fst l.length r.1 ρ'∧Seen l ρ' r.2 i (nms a)):=by
 have hi:i<l.length:=(List.getElem?_eq_some_iff.1 ha).1
 refine uq_ (R:=fun r:List Int×List (Str×Int)=>∃ ρ',Fst l.length r.1 ρ'∧Seen l ρ' r.2 i (nms a))
  (fun y:List Int×List (Str×Int)×Int×List Str×Int×Int=>y.2.2.1=(i:Int)∧y.2.2.2.1=nms a∧y.2.2.2.2.1=(nms a).length∧0≤y.2.2.2.2.2∧y.2.2.2.2.2≤(nms a).length∧∃ ρ',Fst l.length y.1 ρ'∧Seen l ρ' y.2.1 i ((nms a).take y.2.2.2.2.2.toNat))
  (fun y=>(((nms a).length:Int)-y.2.2.2.2.2).toNat) ?_ _ _ ⟨rfl,rfl,rfl,Int.le_refl _,Int.natCast_nonneg _,ρ,hF,by simpa using hS⟩ (by unfold fuel; dsimp only; omega)
 rintro next ⟨f,seen,i',ns,n,t⟩ hI hn
 dsimp only at hI hn
 obtain ⟨rfl,rfl,rfl,t0,t1,ρ,hF,hS⟩:=hI
 unfold ubc2_
 dsimp only
 refine ug_.2 ⟨fun hc=>?_,fun hc=>ub_.2 ?_⟩
 · have hc:=of_decide_eq_true hc
   rw [ubc_ (n:=t+1) (by omega) (by omega)]
   refine ua_.2 (u1_.2 ⟨⟨t0,hc⟩,fun s hs=>?_⟩)
   have hmem:=uio_ hs
   have htk:(t+1).toNat=t.toNat+1:=by omega
   cases hf:ui5_ eqS s seen with
   | none =>
     simp only [Option.isSome_none,Bool.not_false,cond_true]
     refine hn _ ⟨rfl,rfl,rfl,by dsimp only; omega,by dsimp only; omega,ρ,hF,?_⟩ (by dsimp only; omega)
     dsimp only
     rw [htk,u6l_ hs]
     have hne:∀ s' v,ui5_ eqS s' seen=some v→ui5_ eqS s' (putKV eqS s (i:Int) seen)=some v:=fun s' v hv=>by
      rw [ubzt_ uw_,if_neg (fun e=>by rw [e,hf] at hv; cases hv)]; exact hv
     refine ⟨fun s' v hv=>?_,fun i' a' s' h1 h2 h3=>?_,fun s' hs'=>?_,hS.same⟩
     · rw [ubzt_ uw_] at hv
       by_cases e:s'=s
       · rw [if_pos e] at hv; cases hv
         exact ⟨i,a,rfl,ha,by rw [e]; exact hmem⟩
       · rw [if_neg e] at hv; exact hS.val s' v hv
     · obtain ⟨j,q1,q2⟩:=hS.old i' a' s' h1 h2 h3
       exact ⟨j,hne _ _ q1,q2⟩
     · rcases List.mem_append.1 hs' with h | h
       · obtain ⟨j,q1,q2⟩:=hS.new s' h
         exact ⟨j,hne _ _ q1,q2⟩
       · obtain rfl:=List.mem_singleton.1 h
         exact ⟨i,by rw [ubzt_ uw_,if_pos rfl],rfl⟩
   | some v =>
     obtain ⟨j,b,rfl,hj,hsb⟩:=hS.val s v hf
     have hjl:j<l.length:=(List.getElem?_eq_some_iff.1 hj).1
     simp only [Option.isSome_some,Bool.not_true,cond_false,Option.getD_some]
     refine ua_.2 ((ub83_ hF hl hi).mono fun r6 h6=>?_)
     obtain ⟨e6,F6⟩:=h6
     refine ua_.2 ((ub83_ F6 hl hjl).mono fun r7 h7=>?_)
     obtain ⟨e7,F7⟩:=h7
     rw [e6,e7,ucif_,ucig_]
     obtain ⟨x1,x2⟩:=hF.root i hi
     obtain ⟨y1,y2⟩:=hF.root j hjl
     have hmax:ρ (max (ρ i) (ρ j))=max (ρ i) (ρ j):=by rcases Nat.le_total (ρ i) (ρ j) with h | h <;> simp [Nat.max_eq_left,Nat.max_eq_right,h,x2,y2]
     have hmin:ρ (min (ρ i) (ρ j))=min (ρ i) (ρ j):=by rcases Nat.le_total (ρ i) (ρ j) with h | h <;> simp [Nat.min_eq_left,Nat.min_eq_right,h,x2,y2]
     have hlt:max (ρ i) (ρ j)<l.length:=by omega
     have hl7:=F7.1
     refine ua_.2 (ucf_.2 ⟨⟨by omega,by omega⟩,?_⟩)
     rw [Int.toNat_natCast]
     have hmm:∀ k,ρ k=ρ i∨ρ k=ρ j→(if ρ k=max (ρ i) (ρ j) then min (ρ i) (ρ j) else ρ k)=min (ρ i) (ρ j):=by
      intro k hk
      split
      · rfl
      · rcases hk with hk | hk <;> omega
     refine hn _ ⟨rfl,rfl,rfl,by dsimp only; omega,by dsimp only; omega,_,F7.join hlt (by omega) hmax hmin,?_⟩ (by dsimp only; omega)
     dsimp only
     rw [htk,u6l_ hs]
     refine ⟨hS.val,fun i' a' s' h1 h2 h3=>?_,fun s' hs'=>?_,fun hd k hk=>?_⟩
     · obtain ⟨j',q1,q2⟩:=hS.old i' a' s' h1 h2 h3
       exact ⟨j',q1,by rw [q2]⟩
     · rcases List.mem_append.1 hs' with h | h
       · obtain ⟨j',q1,q2⟩:=hS.new s' h
         exact ⟨j',q1,by rw [q2]⟩
       · obtain rfl:=List.mem_singleton.1 h
         exact ⟨j,hf,by rw [hmm j (Or.inr rfl),hmm i (Or.inl rfl)]⟩
     · have hij:i=j:=hd i j a b s ha hj hmem hsb
       subst hij
       have:=hS.same hd k hk
       rw [this]
       split
       · rename_i e; omega
       · rfl
 · have hc:=of_decide_eq_false hc
   refine ⟨ρ,hF,?_⟩
   rwa [List.take_of_length_le (by omega)] at hS
end Go.Ev.Pv
namespace Go.Ev.Pv
def LB (l:List Adv):Prop:=l.length≤2000∧∀ a∈l,AdB a
theorem ucgx_ {a:Adv} (h:AdB a):(nms a).length≤1048577:=by
 have:a.2.1.length≤1048576:=h.2.1
 show a.2.1.length+1≤_
 omega
theorem ucfw_ (n:Nat) (hn:n≤2000):Tot (u0z_ (List.replicate n (0:Int),(n:Int),0)) (fun r=>Fst n r id):=by
 refine uq_ (R:=fun r:List Int=>Fst n r id) (fun y:List Int×Int×Int=>y.2.1=n∧0≤y.2.2∧y.2.2≤n∧y.1.length=n∧∀ k:Nat,(k:Int)<y.2.2→y.1[k]? = some (k:Int))
  (fun y=>((n:Int)-y.2.2).toNat) ?_ _ _ ⟨rfl,Int.le_refl _,Int.natCast_nonneg _,by simp,fun k hk=>by dsimp only at hk; omega⟩ (by unfold fuel; dsimp only; omega)
 rintro next ⟨f,n',t⟩ hI hn'
 dsimp only at hI hn'
 obtain ⟨rfl,t0,t1,hl,hk⟩:=hI
 unfold ubc1_
 dsimp only
 refine ug_.2 ⟨fun hc=>?_,fun hc=>ub_.2 ?_⟩
 · have hc:=of_decide_eq_true hc
   rw [ubc_ (n:=t+1) (by omega) (by omega)]
   refine ua_.2 (ucf_.2 ⟨⟨t0,by omega⟩,?_⟩)
   refine hn' _ ⟨rfl,by dsimp only; omega,by dsimp only; omega,by dsimp only; rw [List.length_set]; exact hl,fun k hk'=>?_⟩ (by dsimp only; omega)
   dsimp only at hk' ⊢
   by_cases e:t.toNat=k
   · rw [← e,List.getElem?_set_self (by omega)]
     congr 1; omega
   · rw [List.getElem?_set_ne e]
     exact hk k (by omega)
 · have hc:=of_decide_eq_false hc
   exact ⟨hl,fun i hi=>⟨i,hk i (by omega),Nat.le_refl _,rfl,fun _=>rfl⟩⟩
def Roots (l:List Adv) (ρ:Nat→Nat):Prop:=(∀ (i j:Nat) (a b:Adv) (s:Str),l[i]? = some a→l[j]? = some b→s∈nms a→s∈nms b→ρ i=ρ j)∧(Disj l→∀ k,k<l.length→ρ k=k)
theorem ucfx_ {l:List Adv} (hl:LB l) {f:List Int} (hF:Fst l.length f id) :
 Tot (u01_ (f,([]:List (Str×Int)),l,(l.length:Int),0)) (fun r=>∃ ρ,Fst l.length r ρ∧Roots l ρ):=by
 refine uq_ (R:=fun r:List Int=>∃ ρ,Fst l.length r ρ∧Roots l ρ)
  (fun y:List Int×List (Str×Int)×List Adv×Int×Int=>y.2.2.1=l∧y.2.2.2.1=l.length∧0≤y.2.2.2.2∧y.2.2.2.2≤l.length∧∃ ρ,Fst l.length y.1 ρ∧Seen l ρ y.2.1 y.2.2.2.2.toNat [])
  (fun y=>((l.length:Int)-y.2.2.2.2).toNat) ?_ _ _ ⟨rfl,rfl,Int.le_refl _,Int.natCast_nonneg _,id,hF,⟨fun s v h=>(by cases h),fun i a s h=>by dsimp only at h; omega,fun s h=>(by cases h),fun _ _ _=>rfl⟩⟩ (by unfold fuel; have:=hl.1; dsimp only; omega)
 rintro next ⟨f,seen,l',n,t⟩ hI hn
 dsimp only at hI hn
 obtain ⟨rfl,rfl,t0,t1,ρ,hF,hS⟩:=hI
 obtain ⟨hl1,hl2⟩:=hl
 unfold ubc3_
 dsimp only
 refine ug_.2 ⟨fun hc=>?_,fun hc=>ub_.2 ?_⟩
 · have hc:=of_decide_eq_true hc
   rw [ubc_ (n:=t+1) (by omega) (by omega)]
   refine ua_.2 (u1_.2 ⟨⟨t0,hc⟩,fun a ha=>?_⟩)
   have hal:=ucgx_ (hl2 a (uio_ ha))
   have hal':a.2.1.length+1≤1048577:=hal
   refine ua_.2 (ule_.2 ⟨by simp only [List.length_cons,List.length_nil]; omega,?_⟩)
   have:=ucfv_ (i:=t.toNat) hl1 ha hal hF hS
   rw [show ((t.toNat:Nat):Int)=t by omega] at this
   refine ua_.2 (this.mono fun r hr=>?_)
   obtain ⟨ρ',hF',hS'⟩:=hr
   refine hn _ ⟨rfl,rfl,by dsimp only; omega,by dsimp only; omega,ρ',hF',?_⟩ (by dsimp only; omega)
   dsimp only
   rw [show (t+1).toNat=t.toNat+1 by omega]
   refine ⟨hS'.val,fun i' a' s h1 h2 h3=>?_,fun s h=>(by cases h),hS'.same⟩
   by_cases e:i'=t.toNat
   · subst e
     rw [ha] at h2; cases h2
     exact hS'.new s h3
   · exact hS'.old i' a' s (by omega) h2 h3
 · have hc:=of_decide_eq_false hc
   refine ⟨ρ,hF,fun i j a b s h1 h2 h3 h4=>?_,hS.same⟩
   have hi:=(List.getElem?_eq_some_iff.1 h1).1
   have hj:=(List.getElem?_eq_some_iff.1 h2).1
   obtain ⟨x,x1,x2⟩:=hS.old i a s (by omega) h1 h3
   obtain ⟨y,y1,y2⟩:=hS.old j b s (by omega) h2 h4
   rw [x1] at y1
   have:x=y:=by have:=Option.some.inj y1; omega
   rw [← x2,← y2,this]
def grp (ρ:Nat→Nat) (t r:Nat):List Int:=((List.range t).filter (fun i=>decide (ρ i=r))).map (fun i:Nat=>(i:Int))
theorem ucgy_ (ρ:Nat→Nat) (t r:Nat):(grp ρ t r).length≤t:=by
 unfold grp
 rw [List.length_map]
 exact Nat.le_trans (List.length_filter_le _ _) (by simp)
theorem ucdz_ (ρ:Nat→Nat) (t r:Nat):grp ρ (t+1) r=grp ρ t r++if ρ t=r then [(t:Int)] else []:=by
 unfold grp
 rw [List.range_succ,List.filter_append,List.map_append]
 congr 1
 by_cases h:ρ t=r <;> simp [h]
theorem ub7m_ {ρ:Nat→Nat} {t r:Nat} {x:Int}:x∈grp ρ t r↔∃ i:Nat,x=(i:Int)∧i<t∧ρ i=r:=by
 unfold grp
 constructor
 · intro h
   obtain ⟨i,h1,rfl⟩:=List.mem_map.1 h
   obtain ⟨h1,h2⟩:=List.mem_filter.1 h1
   exact ⟨i,rfl,List.mem_range.1 h1,of_decide_eq_true h2⟩
 · rintro ⟨i,rfl,h1,h2⟩
   exact List.mem_map.2 ⟨i,List.mem_filter.2 ⟨List.mem_range.2 h1,decide_eq_true h2⟩,rfl⟩
theorem ucfy_ {n:Nat} {f:List Int} {ρ:Nat→Nat} (hn:n≤2000) (hF:Fst n f ρ) :
 Tot (u02_ (f,([]:List YY38),(n:Int),0)) (fun r=>∀ k:Nat,(ui5_ eqI (k:Int) r).getD ([]:List Int)=grp ρ n k):=by
 refine uq_ (R:=fun r:List YY38=>∀ k:Nat,(ui5_ eqI (k:Int) r).getD ([]:List Int)=grp ρ n k)
  (fun y:List Int×List YY38×Int×Int=>y.2.2.1=n∧0≤y.2.2.2∧y.2.2.2≤n∧Fst n y.1 ρ∧∀ k:Nat,(ui5_ eqI (k:Int) y.2.1).getD ([]:List Int)=grp ρ y.2.2.2.toNat k)
  (fun y=>((n:Int)-y.2.2.2).toNat) ?_ _ _ ⟨rfl,Int.le_refl _,Int.natCast_nonneg _,hF,fun k=>rfl⟩ (by unfold fuel; dsimp only; omega)
 rintro next ⟨f,all,n',t⟩ hI hn'
 dsimp only at hI hn'
 obtain ⟨rfl,t0,t1,hF,hA⟩:=hI
 unfold ubc4_
 dsimp only
 refine ug_.2 ⟨fun hc=>?_,fun hc=>ub_.2 ?_⟩
 · have hc:=of_decide_eq_true hc
   rw [ubc_ (n:=t+1) (by omega) (by omega)]
   have ht:t=((t.toNat:Nat):Int):=by omega
   have hr:=fun {f:List Int} (hF:Fst n f ρ)=>ub83_ hF hn (i:=t.toNat) (by omega)
   rw [← ht] at hr
   refine ua_.2 ((hr hF).mono fun r10 h10=>?_)
   obtain ⟨e10,F10⟩:=h10
   refine ua_.2 ((hr F10).mono fun r11 h11=>?_)
   obtain ⟨e11,F11⟩:=h11
   rw [e10,e11,hA]
   have hg:=ucgy_ ρ t.toNat (ρ t.toNat)
   refine ua_.2 (ule_.2 ⟨by simp only [List.length_cons,List.length_nil]; omega,?_⟩)
   refine ua_.2 (ug_.2 ⟨fun _=>ub_.2 ?_,fun h=>by rw [ur_] at h; simp at h⟩)
   refine hn' _ ⟨rfl,by dsimp only; omega,by dsimp only; omega,F11,fun k=>?_⟩ (by dsimp only; omega)
   dsimp only
   rw [show (t+1).toNat=t.toNat+1 by omega,ucdz_,ubzt_ ur_]
   by_cases h:ρ t.toNat=k
   · subst h
     rw [if_pos rfl,if_pos rfl,← ht]; rfl
   · rw [if_neg (fun e=>h (by omega)),if_neg h,List.append_nil]; exact hA k
 · have hc:=of_decide_eq_false hc
   rwa [show t.toNat=n by omega] at hA
def grps (ρ:Nat→Nat) (n:Nat):List (List Int):=((List.range n).map (grp ρ n)).filter (fun g=>decide (0<g.length))
theorem ucfz_ {n:Nat} {all:List YY38} {ρ:Nat→Nat} (hn:n≤2000) (hA:∀ k:Nat,(ui5_ eqI (k:Int) all).getD ([]:List Int)=grp ρ n k) :
 Tot (u03_ (all,([]:List (List Int)),(n:Int),0)) (fun r=>r=grps ρ n):=by
 refine uq_ (R:=fun r:List (List Int)=>r=grps ρ n)
  (fun y:List YY38×List (List Int)×Int×Int=>y.1=all∧y.2.2.1=n∧0≤y.2.2.2∧y.2.2.2≤n∧y.2.1=((List.range y.2.2.2.toNat).map (grp ρ n)).filter (fun g=>decide (0<g.length)))
  (fun y=>((n:Int)-y.2.2.2).toNat) ?_ _ _ ⟨rfl,rfl,Int.le_refl _,Int.natCast_nonneg _,rfl⟩ (by unfold fuel; dsimp only; omega)
 rintro next ⟨all',out,n',t⟩ hI hn'
 dsimp only at hI hn'
 obtain ⟨rfl,rfl,t0,t1,rfl⟩:=hI
 unfold ubc5_
 dsimp only
 refine ug_.2 ⟨fun hc=>?_,fun hc=>ub_.2 ?_⟩
 · have hc:=of_decide_eq_true hc
   rw [ubc_ (n:=t+1) (by omega) (by omega)]
   have ht:t=((t.toNat:Nat):Int):=by omega
   have e:(ui5_ eqI t all').getD ([]:List Int)=grp ρ n t.toNat:=by have:=hA t.toNat; rwa [← ht] at this
   rw [e]
   have hs:((List.range (t.toNat+1)).map (grp ρ n)).filter (fun g=>decide (0<g.length))=((List.range t.toNat).map (grp ρ n)).filter (fun g=>decide (0<g.length))++if 0<(grp ρ n t.toNat).length then [grp ρ n t.toNat] else []:=by
    rw [List.range_succ,List.map_append,List.filter_append]
    congr 1
    by_cases h:0<(grp ρ n t.toNat).length <;> simp [h]
   have hle:(((List.range t.toNat).map (grp ρ n)).filter (fun g=>decide (0<g.length))).length≤t.toNat:=Nat.le_trans (List.length_filter_le _ _) (by simp)
   refine ug_.2 ⟨fun h=>ua_.2 (ule_.2 ⟨by simp only [List.length_cons,List.length_nil]; omega,?_⟩),fun h=>?_⟩
   · have h:=of_decide_eq_true h
     refine hn' _ ⟨rfl,rfl,by dsimp only; omega,by dsimp only; omega,?_⟩ (by dsimp only; omega)
     dsimp only
     rw [show (t+1).toNat=t.toNat+1 by omega,hs,if_pos (by omega)]
   · have h:=of_decide_eq_false h
     refine hn' _ ⟨rfl,rfl,by dsimp only; omega,by dsimp only; omega,?_⟩ (by dsimp only; omega)
     dsimp only
     rw [show (t+1).toNat=t.toNat+1 by omega,hs,if_neg (by omega),List.append_nil]
 · have hc:=of_decide_eq_false hc
   rw [show t.toNat=n by omega]; rfl
theorem ucd0_ {l:List Adv} (hl:LB l):Tot (u1z_ l) (fun r=>∃ ρ,(∀ i,i<l.length→ρ i≤i∧ρ (ρ i)=ρ i)∧Roots l ρ∧r=grps ρ l.length):=by
 have h1:=hl.1
 unfold u1z_
 refine ua_.2 ⟨List.replicate l.length (0:Int),?_,?_⟩
 · unfold mks?
   rw [decide_eq_true (show (0:Int)≤(l.length:Int) by omega),decide_eq_true (Int.le_refl _),decide_eq_true (show (l.length:Int).toNat*24≤70368744177664 by omega)]
   rfl
 dsimp only
 rw [List.length_replicate]
 refine ua_.2 ((ucfw_ l.length h1).mono fun r2 h2=>?_)
 refine ua_.2 ((ucfx_ hl h2).mono fun r9 h9=>?_)
 obtain ⟨ρ,hF,hR⟩:=h9
 refine ua_.2 ((ucfy_ h1 hF).mono fun r13 h13=>?_)
 refine ua_.2 ((ucfz_ h1 h13).mono fun r17 h17=>ub_.2 ⟨ρ,hF.root,hR,h17⟩)
end Go.Ev.Pv
namespace Go.Ev.Pv
def idOk (s:Str):Prop:=ui0_ s=some true
theorem uckx_ {s:Str} (h:s.length≤1048576):Tot (ui0_ s) (fun r=>r=true↔idOk s):=by
 obtain ⟨r,h1,_⟩:=u4h_ s (by omega)
 refine ⟨r,h1,?_⟩
 unfold idOk
 rw [h1]
 cases r <;> simp
def AO (a:Adv):Prop:=a.2.1.length≤20∧a.2.1.Pairwise (fun x y=>x<y)∧(∀ s∈a.2.1,idOk s∧s≠a.1)
def okA (a:Adv) (j:Nat):Prop:=∀ s,a.2.1[j]? = some s→(idOk s∧s≠a.1)∧(0<j→∀ s',a.2.1[j-1]? = some s'→s'<s)
theorem al_l1 (a:Adv) (hb:∀ s∈a.2.1,s.length≤1048576) (hl:a.2.1.length≤20) :
 Tot (uip_ (a,a.2.1,(a.2.1.length:Int),0)) (fun r=>(∀ u,r=.inl u→∀ j,j<a.2.1.length→okA a j)∧∀ e,r=.inr e→e≠0∧¬ ∀ j,j<a.2.1.length→okA a j):=by
 refine uq_ (R:=fun r:Sum Unit Int=>(∀ u,r=.inl u→∀ j,j<a.2.1.length→okA a j)∧∀ e,r=.inr e→e≠0∧¬ ∀ j,j<a.2.1.length→okA a j)
  (fun y:Adv×(List Str)×Int×Int=>y.1=a∧y.2.1=a.2.1∧y.2.2.1=a.2.1.length∧0≤y.2.2.2∧y.2.2.2≤a.2.1.length∧∀ j:Nat,(j:Int)<y.2.2.2→okA a j)
  (fun y=>((a.2.1.length:Int)-y.2.2.2).toNat) ?_ _ _ ⟨rfl,rfl,rfl,Int.le_refl _,Int.natCast_nonneg _,fun j hj=>by dsimp only at hj; omega⟩ (by unfold fuel; dsimp only; omega)
 rintro next ⟨a',l,n,i⟩ hI hn
 dsimp only at hI hn
 obtain ⟨rfl,rfl,rfl,i0,i1,i2⟩:=hI
 unfold unv_
 dsimp only
 refine ug_.2 ⟨fun hc=>?_,fun hc=>ub_.2 ⟨fun u _ j hj=>?_,fun e he=>(by cases he)⟩⟩
 · have hc:=of_decide_eq_true hc
   rw [ubc_ (n:=i+1) (by omega) (by omega),ubc_ (by omega) (by omega)]
   refine ua_.2 (u1_.2 ⟨⟨i0,hc⟩,fun s hs=>?_⟩)
   have hlt:i.toNat<a'.2.1.length:=by omega
   refine ua_.2 ((uckx_ (hb s (uio_ hs))).mono fun r hr=>?_)
   refine ug_.2 ⟨fun he=>ub_.2 ⟨fun u hu=>(by cases hu),fun e he'=>?_⟩,fun he=>?_⟩
   · cases he'
     refine ⟨by decide,fun h=>?_⟩
     rw [hr.2 ((h i.toNat hlt) s hs).1.1] at he; cases he
   have hid:idOk s:=hr.1 (by cases r <;> simp_all)
   rw [uw_]
   refine ug_.2 ⟨fun he=>ub_.2 ⟨fun u hu=>(by cases hu),fun e he'=>?_⟩,fun he2=>?_⟩
   · cases he'
     exact ⟨by decide,fun h=>((h i.toNat hlt) s hs).1.2 (of_decide_eq_true he)⟩
   have hne:s≠a'.1:=of_decide_eq_false he2
   refine ua_.2 (Tot.mono (P:=fun y4:Str=>0<i→a'.2.1[i.toNat-1]? = some y4) (ug_.2 ⟨fun hz=>?_,fun hz=>ub_.2 fun h0=>absurd h0 (of_decide_eq_false hz)⟩) fun y4 h4=>?_)
   · have hz:=of_decide_eq_true hz
     refine u1_.2 ⟨⟨by omega,by omega⟩,fun w hw _=>?_⟩
     rw [show i.toNat-1=(i-1).toNat by omega]
     exact hw
   have hlb:(Op.bytesLess s y4||decide (s=y4)) = !decide (y4<s):=by rw [← uw_]; exact ucgw_ s y4
   rw [show (Op.bytesLess s y4||eqS s y4) = !decide (y4<s) from ucgw_ s y4]
   refine ug_.2 ⟨fun he3=>ub_.2 ⟨fun u hu=>(by cases hu),fun e he'=>?_⟩,fun he3=>?_⟩
   · cases he'
     obtain ⟨z1,z2⟩:=Bool.and_eq_true_iff.1 he3
     have z1:=of_decide_eq_true z1
     have z2:¬ y4<s:=by simpa using z2
     exact ⟨by decide,fun h=>z2 ((h i.toNat hlt s hs).2 (by omega) y4 (h4 z1))⟩
   refine hn _ ⟨rfl,rfl,rfl,by dsimp only; omega,by dsimp only; omega,fun j hj=>?_⟩ (by dsimp only; omega)
   dsimp only at hj
   by_cases e:(j:Int)<i
   · exact i2 j e
   · have:j=i.toNat:=by omega
     subst this
     intro s' hs'
     rw [hs] at hs'; cases hs'
     refine ⟨⟨hid,hne⟩,fun h0 s' hs'=>?_⟩
     have h0:0<i:=by omega
     rw [h4 h0] at hs'; cases hs'
     rcases Bool.and_eq_false_iff.1 he3 with h | h
     · exact absurd h0 (of_decide_eq_false h)
     · simpa using h
 · have hc:=of_decide_eq_false hc
   exact i2 j (by omega)
theorem ucjx_ {a:Adv} (h:∀ j,j<a.2.1.length→okA a j):a.2.1.Pairwise (fun x y=>x<y):=by
 rw [List.pairwise_iff_getElem]
 intro i j hi hj hij
 induction j with
 | zero=>omega
 | succ j ih =>
   have h1:a.2.1[j]'(by omega)<a.2.1[j+1]:=(h (j+1) hj _ (List.getElem?_eq_getElem hj)).2 (by omega) _ (by rw [show j+1-1=j by omega]; exact List.getElem?_eq_getElem (by omega))
   by_cases e:i=j
   · subst e; exact h1
   · exact ucbb_ (ih (by omega) (by omega)) h1
theorem ucbc_ (a:Adv) (hb:∀ s∈a.2.1,s.length≤1048576):Tot (udl_ a) (fun r=>r=0↔AO a):=by
 unfold udl_
 refine ug_.2 ⟨fun hc=>ub_.2 ⟨fun h=>(by cases h),fun h=>?_⟩,fun hc=>?_⟩
 · have hc:=of_decide_eq_true hc
   have:=h.1
   omega
 · have hc:=of_decide_eq_false hc
   refine ua_.2 ((al_l1 a hb (by omega)).mono fun r hr=>?_)
   rcases r with u | e
   · refine ub_.2 ⟨fun _=>?_,fun _=>rfl⟩
     have h1:=hr.1 u rfl
     refine ⟨by omega,ucjx_ h1,fun s hs=>?_⟩
     obtain ⟨j,hj,rfl⟩:=List.getElem_of_mem hs
     exact (h1 j hj _ (List.getElem?_eq_getElem hj)).1
   · obtain ⟨h1,h2⟩:=hr.2 e rfl
     refine ub_.2 ⟨fun h=>absurd h h1,fun h=>absurd (fun j hj s hs=>?_) h2⟩
     refine ⟨h.2.2 s (uio_ hs),fun h0 s' hs'=>?_⟩
     have hp:=List.pairwise_iff_getElem.1 h.2.1
     obtain ⟨g1,rfl⟩:=List.getElem?_eq_some_iff.1 hs
     obtain ⟨g2,rfl⟩:=List.getElem?_eq_some_iff.1 hs'
     exact hp _ _ g2 g1 (by omega)
abbrev Rg8:=Int×(List YY4)
def vecOk (v:Str):Prop:=v=[]∨∃ x,ur3_ v=some (x,0)
def Tail (src:Str) (day:Int) (aff:List Af):Prop:=idOk src∧¬ day<0∧¬ 1000000<day∧¬ (50:Int)<(aff.length:Int)∧∃ y,ur8_ (([]:List Rg8),aff,(aff.length:Int),0)=some (.inl y)
theorem ucky_:∀ (k:Nat) (x:List Rg8×List Af×Int×Int) {y:List Rg8×Int},loopN ui4_ k x=some (.inr y)→y.2≠0:=by
 intro k
 induction k with
 | zero=>intro x y h; cases h
 | succ k ih =>
   rintro ⟨o,l,n,t⟩ y h
   have h:ui4_ (loopN ui4_ k) (o,l,n,t)=some (.inr y):=h
   unfold ui4_ at h
   dsimp only at h
   cases hc:decide (t<n) with
   | false=>rw [hc] at h; cases h
   | true =>
     rw [hc] at h
     obtain ⟨a,_,h⟩:=Option.bind_eq_some_iff.1 h
     obtain ⟨⟨r,e⟩,_,h⟩:=Option.bind_eq_some_iff.1 h
     by_cases e0:e=0
     · subst e0
       obtain ⟨q,_,h⟩:=Option.bind_eq_some_iff.1 h
       exact ih _ h
     · have:(!eqI e 0)=true:=by rw [ur_]; simpa using e0
       dsimp only at h
       rw [this] at h
       cases h
       exact e0
theorem ucjy_ {a:Adv} (h:uha_ a=some 0):idOk a.1∧udl_ a=some 0∧vecOk a.2.2.2.2.2.1∧Tail a.2.2.1 a.2.2.2.1 a.2.2.2.2.2.2:=by
 unfold uha_ at h
 obtain ⟨⟨rg,e⟩,h1,h2⟩:=Option.bind_eq_some_iff.1 h
 have h2:e=0:=Option.some.inj h2
 subst h2
 unfold uli_ at h1
 obtain ⟨r1,g1,h1⟩:=Option.bind_eq_some_iff.1 h1
 cases r1 with
 | false=>cases h1
 | true =>
 obtain ⟨r2,g2,h1⟩:=Option.bind_eq_some_iff.1 h1
 by_cases e2:r2=0
 case neg =>
  have:(!eqI r2 0)=true:=by rw [ur_]; simpa using e2
  rw [this] at h1
  have:=Option.some.inj h1
  exact absurd (congrArg (·.2) this) e2
 subst e2
 obtain ⟨r3,g3,h1⟩:=Option.bind_eq_some_iff.1 h1
 cases r3 with
 | false=>cases h1
 | true =>
 have h1:(bif ((decide (a.2.2.2.1<(0:Int)))||(decide ((1000000:Int)<a.2.2.2.1))) then some (([]:List Rg8),(9:Int)) else _)=some (rg,(0:Int)):=h1
 cases hd:((decide (a.2.2.2.1<(0:Int)))||(decide ((1000000:Int)<a.2.2.2.1))) with
 | true=>rw [hd] at h1; cases h1
 | false =>
 rw [hd] at h1
 obtain ⟨d1,d2⟩:=Bool.or_eq_false_iff.1 hd
 obtain ⟨r6,g6,h1⟩:=Option.bind_eq_some_iff.1 h1
 have hv:vecOk a.2.2.2.2.2.1∧r6=.inl a:=by
  unfold ugw_ at g6
  dsimp only at g6
  rw [uw_] at g6
  by_cases hv:a.2.2.2.2.2.1=[]
  · rw [decide_eq_true hv] at g6
    exact ⟨Or.inl hv,(Option.some.inj g6).symm⟩
  · rw [decide_eq_false hv] at g6
    obtain ⟨⟨x,e⟩,g7,g8⟩:=Option.bind_eq_some_iff.1 g6
    by_cases e0:e=0
    · subst e0
      exact ⟨Or.inr ⟨x,g7⟩,(Option.some.inj g8).symm⟩
    · have:(!eqI e 0)=true:=by rw [ur_]; simpa using e0
      dsimp only at g8
      rw [this] at g8
      have:=Option.some.inj g8
      subst this
      have:=Option.some.inj h1
      exact absurd (congrArg (·.2) this) e0
 obtain ⟨hv,rfl⟩:=hv
 dsimp only at h1
 by_cases h50:(50:Int)<(a.2.2.2.2.2.2.length:Int)
 · rw [decide_eq_true h50] at h1; cases h1
 · rw [decide_eq_false h50] at h1
   obtain ⟨r12,g12,h1⟩:=Option.bind_eq_some_iff.1 h1
   rcases r12 with y | y
   · exact ⟨g1,g2,hv,g3,of_decide_eq_false d1,of_decide_eq_false d2,h50,y,g12⟩
   · exfalso
     have h1:=Option.some.inj h1
     exact ucky_ _ _ g12 (congrArg (·.2) h1)
theorem uckz_ {a:Adv} (h1:idOk a.1) (h2:udl_ a=some 0) (h3:vecOk a.2.2.2.2.2.1) (h4:Tail a.2.2.1 a.2.2.2.1 a.2.2.2.2.2.2):uha_ a=some 0:=by
 obtain ⟨t1,t2,t3,t4,y,t5⟩:=h4
 have hp:ugw_ (a,(!(eqS a.2.2.2.2.2.1 ([]:Str))))=some (.inl a):=by
  unfold ugw_
  dsimp only
  rw [uw_]
  rcases h3 with h3 | ⟨x,h3⟩
  · rw [decide_eq_true h3]; rfl
  · cases decide (a.2.2.2.2.2.1=[]) with
    | true=>rfl
    | false=>rw [h3]; rfl
 have hr:uli_ a=some (y,0):=by
  unfold uli_
  rw [show ui0_ a.1=some true from h1]
  simp only [Option.bind_some,Bool.not_true,cond_false]
  rw [h2]
  simp only [Option.bind_some,ur_,decide_true,Bool.not_true,cond_false]
  rw [show ui0_ a.2.2.1=some true from t1]
  simp only [Option.bind_some,Bool.not_true,cond_false]
  rw [decide_eq_false t2,decide_eq_false t3]
  simp only [Bool.or_self,cond_false]
  rw [hp]
  simp only [Option.bind_some]
  rw [decide_eq_false t4]
  simp only [cond_false]
  rw [t5]
  rfl
 unfold uha_
 rw [hr]; rfl
theorem ub3z_ {a:Adv} (h:AdB a):chk a=0↔idOk a.1∧AO a∧vecOk a.2.2.2.2.2.1∧Tail a.2.2.1 a.2.2.2.1 a.2.2.2.2.2.2:=by
 obtain ⟨r,r1,r2⟩:=ucbc_ a h.2.2.1
 constructor
 · intro hc
   have:=ucjt_ h
   rw [hc] at this
   obtain ⟨g1,g2,g3,g4⟩:=ucjy_ this
   rw [r1] at g2
   exact ⟨g1,r2.1 (Option.some.inj g2),g3,g4⟩
 · rintro ⟨g1,g2,g3,g4⟩
   have:=uckz_ g1 (by rw [r1,r2.2 g2]) g3 g4
   unfold chk
   rw [this]; rfl
theorem ub84_ (l:List Adv) (hl:l.length≤2000) (hb:∀ a∈l,AdB a) :
 Tot (ute_ (l,(l.length:Int),0)) (fun r=>(∀ u,r=.inl u→∀ a∈l,chk a=0)∧∀ e,r=.inr e→e≠0∧¬ ∀ a∈l,chk a=0):=by
 refine uq_ (R:=fun r:Sum Unit Int=>(∀ u,r=.inl u→∀ a∈l,chk a=0)∧∀ e,r=.inr e→e≠0∧¬ ∀ a∈l,chk a=0)
  (fun y:(List Adv)×Int×Int=>y.1=l∧y.2.1=l.length∧0≤y.2.2∧y.2.2≤l.length∧∀ a∈l.take y.2.2.toNat,chk a=0)
  (fun y=>((l.length:Int)-y.2.2).toNat) ?_ _ _ ⟨rfl,rfl,Int.le_refl _,Int.natCast_nonneg _,by simp⟩ (by unfold fuel; dsimp only; omega)
 rintro next ⟨l',n,i⟩ hI hn
 dsimp only at hI hn
 obtain ⟨rfl,rfl,i0,i1,i2⟩:=hI
 unfold u4r_
 dsimp only
 refine ug_.2 ⟨fun hc=>?_,fun hc=>ub_.2 ⟨fun u _=>?_,fun e he=>(by cases he)⟩⟩
 · have hc:=of_decide_eq_true hc
   rw [ubc_ (n:=i+1) (by omega) (by omega)]
   refine ua_.2 (u1_.2 ⟨⟨i0,hc⟩,fun a ha=>?_⟩)
   rw [ucjt_ (hb a (uio_ ha))]
   refine ua_.2 (ub_.2 (ug_.2 ⟨fun he=>ub_.2 ⟨fun u hu=>(by cases hu),fun e he'=>?_⟩,fun he=>?_⟩))
   · cases he'
     rw [ur_] at he
     have he:¬ chk a=0:=by simpa using he
     exact ⟨he,fun h=>he (h a (uio_ ha))⟩
   · have hk:chk a=0:=by rw [ur_] at he; simpa using he
     refine hn _ ⟨rfl,rfl,by dsimp only; omega,by dsimp only; omega,?_⟩ (by dsimp only; omega)
     dsimp only
     rw [show (i+1).toNat=i.toNat+1 by omega,u6l_ ha]
     intro b hb'
     rcases List.mem_append.1 hb' with h | h
     · exact i2 b h
     · cases List.mem_singleton.1 h; exact hk
 · have hc:=of_decide_eq_false hc
   rwa [List.take_of_length_le (by omega)] at i2
theorem ub7n_ (l:List Adv) (hb:∀ a∈l,AdB a):Tot (umn_ l) (fun r=>r=0↔l.length≤2000∧∀ a∈l,chk a=0):=by
 unfold umn_
 refine ug_.2 ⟨fun hc=>ub_.2 ⟨fun h=>(by cases h),fun h=>?_⟩,fun hc=>?_⟩
 · have hc:=of_decide_eq_true hc
   have:=h.1
   omega
 · have hc:=of_decide_eq_false hc
   refine ua_.2 ((ub84_ l (by omega) hb).mono fun r hr=>?_)
   rcases r with u | e
   · exact ub_.2 ⟨fun _=>⟨by omega,hr.1 u rfl⟩,fun _=>rfl⟩
   · obtain ⟨h1,h2⟩:=hr.2 e rfl
     exact ub_.2 ⟨fun h=>absurd h h1,fun h=>absurd h.2 h2⟩
end Go.Ev.Pv
namespace Go.Ev.Pv
theorem ub98_ (l:List Adv) (ss:List Str) (hs:ss.length≤1048576) (x:Int) (h0:0≤x) (h1:x<l.length):Tot (ump_ (x,some ss,some l)) (fun _=>True):=by
 unfold ump_
 dsimp only
 simp only [Option.bind_some]
 refine ua_.2 (u1_.2 ⟨⟨h0,h1⟩,fun a ha=>?_⟩)
 refine ua_.2 ((uqc_ _ hs).mono fun r _=>ug_.2 ⟨fun _=>ub_.2 trivial,fun _=>ub_.2 trivial⟩)
theorem ucf0_ (l:List Adv) (ss:List Str) (hs:ss.length≤1048576) (i j:Int) (hi0:0≤i) (hi1:i<l.length) (hj0:0≤j) (hj1:j<l.length) :
 Tot ((ur9_ (i,j,(some (some (fun x=>(ump_ (x,(some ss),(some l))).bind fun r=>some r))),(some l))).bind fun r=>some r) (fun _=>True):=by
 refine clo (P:=fun _=>True) ?_
 unfold ur9_
 dsimp only
 simp only [Option.bind_some]
 refine ua_.2 ((clo (ub98_ l ss hs i hi0 hi1)).mono fun r2 _=>?_)
 refine ua_.2 ((clo (ub98_ l ss hs j hj0 hj1)).mono fun r4 _=>?_)
 rw [ust_]
 refine ua_.2 (ub_.2 ?_)
 refine ua_.2 (u1_.2 ⟨⟨hj0,hj1⟩,fun a _=>?_⟩)
 refine ua_.2 (u1_.2 ⟨⟨hi0,hi1⟩,fun b _=>?_⟩)
 rw [ust_]
 refine ua_.2 (ub_.2 ?_)
 refine ua_.2 (u1_.2 ⟨⟨hi0,hi1⟩,fun c _=>?_⟩)
 refine ua_.2 (u1_.2 ⟨⟨hj0,hj1⟩,fun d _=>?_⟩)
 rw [ut5_]
 refine ua_.2 (ub_.2 ?_)
 exact ua_.2 ((ubvb_ _ (by simp)).mono fun r _=>ub_.2 trivial)
theorem ucd1_ (l:List Adv) (g:List Int) (ss:List Str) (hs:ss.length≤1048576) (hg:g.length≤2000) (hi:∀ x∈g,0≤x∧x<l.length):Tot (u10_ (l,g,ss)) (fun r=>r.Perm g):=by
 unfold u10_
 dsimp only
 have hc:uxm_ g=some g:=by
  unfold uxm_ u04_
  rw [ucdw_ g (by omega)]; rfl
 rw [hc]
 refine ua_.2 (ub_.2 ?_)
 refine ua_.2 ((u6k_ _ ⟨fun a b ha hb=>?_,by dsimp only; omega⟩).mono fun r hr=>ub_.2 hr.2)
 exact ucf0_ l ss hs a b (hi a ha).1 (hi a ha).2 (hi b hb).1 (hi b hb).2
theorem or2 (a b:Str):ubae_ [a,b]=some (if a=[] then b else a):=by
 unfold ubae_ u60_
 rw [ucdv_]
 have e1:fuel-1=(fuel-2)+1:=by unfold fuel; omega
 have e2:fuel-2=(fuel-3)+1:=by unfold fuel; omega
 have h0:at? [a,b] 0=some a:=rfl
 have h1:at? [a,b] 1=some b:=rfl
 rw [e1,e2]
 show ((uhg_ (uhg_ (uhg_ (loopN uhg_ (fuel-3)))) (([]:Str),[a,b],(2:Int),0)).bind _)=_
 have w1:IntKind.i64.wrap 1=1:=by decide
 have w2:IntKind.i64.wrap 2=2:=by decide
 have w3:IntKind.i64.wrap (1+1)=2:=by decide
 by_cases ha:a=[]
 · subst ha
   by_cases hb:b=[]
   · subst hb
     simp [uhg_,h0,h1,w1,w2,w3,uw_]
   · simp [uhg_,h0,h1,w1,w2,w3,uw_,hb]
 · simp [uhg_,h0,uw_,ha]
theorem ucf1_ {a b c:Str} (h1:a≤b) (h2:b≤c):a≤c:=List.le_trans h1 h2
theorem ucf2_ (a b:Str):a≤b∨b≤a:=List.le_total a b
theorem ub85_ (d:List Str) (hd:d.Pairwise (fun x y=>x≤y)):∀ m,m≤d.length→(Lib.compactUpTo d.toArray m).Pairwise (fun x y=>x<y)∧∀ s,s∈Lib.compactUpTo d.toArray m↔s∈d.take m:=by
 intro m
 induction m with
 | zero=>intro _; simp [Lib.compactUpTo]
 | succ m ih =>
   intro hm
   obtain ⟨h1,h2⟩:=ih (by omega)
   have hget:∀ j (hj:j<d.length),(d.toArray)[j]! = d[j]:=fun j hj=>by rw [getElem!_pos _ j (by simpa using hj)]; simp
   have hp:=List.pairwise_iff_getElem.1 hd
   rw [Lib.compactUpTo_succ]
   have htk:d.take (m+1)=d.take m++[d[m]]:=u6l_ (List.getElem?_eq_getElem (by omega))
   cases hk:Lib.keeps d.toArray m with
   | true =>
     rw [if_pos rfl,hget m (by omega)]
     refine ⟨?_,fun s=>by rw [List.mem_append,htk,List.mem_append,h2]⟩
     rw [List.pairwise_append]
     refine ⟨h1,List.pairwise_singleton _ _,fun s hs t ht=>?_⟩
     obtain rfl:=List.mem_singleton.1 ht
     have hs:=(h2 s).1 hs
     obtain ⟨j,hj,rfl⟩:=List.getElem_of_mem hs
     have hjm:j<m:=by rw [List.length_take] at hj; omega
     rw [List.getElem_take]
     unfold Lib.keeps at hk
     have hk:=of_decide_eq_true hk
     have hne:d[m]≠d[m-1]:=by
      rcases hk with hk | hk
      · omega
      · rw [hget m (by omega),hget (m-1) (by omega)] at hk; exact hk
     have hle1:d[m-1]≤d[m]:=hp (m-1) m (by omega) (by omega) (by omega)
     have hlt:d[m-1]<d[m]:=by
      rcases stri d[m-1] d[m] with h | h | h
      · exact h
      · exact absurd h.symm hne
      · exact absurd h (List.not_lt.2 hle1)
     by_cases e:j=m-1
     · subst e; exact hlt
     · have hle2:d[j]≤d[m-1]:=hp j (m-1) (by omega) (by omega) (by omega)
       rcases stri d[j] d[m] with h | h | h
       · exact h
       · rw [h] at hle2; exact absurd hlt (List.not_lt.2 hle2)
       · exact absurd (ucbb_ h (by
          rcases stri d[j] d[m-1] with g | g | g
          · exact g
          · rw [g] at h; exact absurd h (sasym hlt)
          · exact absurd g (List.not_lt.2 hle2))) (sasym hlt)
   | false =>
     rw [if_neg (by simp),List.append_nil]
     refine ⟨h1,fun s=>?_⟩
     unfold Lib.keeps at hk
     have hk:=of_decide_eq_false hk
     have hm0:m≠0:=fun e=>hk (Or.inl e)
     have he:d[m]=d[m-1]:=by
      have:¬ (d.toArray)[m]!≠(d.toArray)[m-1]!:=fun e=>hk (Or.inr e)
      rw [hget m (by omega),hget (m-1) (by omega)] at this
      exact Classical.not_not.1 this
     rw [h2,htk,List.mem_append,List.mem_singleton,he]
     refine ⟨Or.inl,fun h=>h.elim id fun h=>?_⟩
     rw [h]
     exact List.mem_take_iff_getElem.2 ⟨m-1,by omega,rfl⟩
theorem ub86_ (xs:List Str):(Lib.compact (xs.mergeSort fun x y=>decide (x≤y))).Pairwise (fun x y=>x<y)∧∀ s,s∈Lib.compact (xs.mergeSort fun x y=>decide (x≤y))↔s∈xs:=by
 have hs:(xs.mergeSort fun x y=>decide (x≤y)).Pairwise (fun x y=>x≤y):=by
  have:=List.pairwise_mergeSort (le:=fun x y:Str=>decide (x≤y)) (fun a b c h1 h2=>decide_eq_true (ucf1_ (of_decide_eq_true h1) (of_decide_eq_true h2))) (fun a b=>by rcases ucf2_ a b with h | h <;> simp [h]) xs
  exact this.imp fun h=>of_decide_eq_true h
 have h:=ub85_ _ hs (xs.mergeSort fun x y=>decide (x≤y)).length (Nat.le_refl _)
 unfold Lib.compact
 refine ⟨h.1,fun s=>?_⟩
 rw [h.2,List.take_length]
 exact (List.mergeSort_perm _ _).mem_iff
end Go.Ev.Pv
namespace Go.Ev.Pv
def vget (l:List Adv) (i:Int):Str:=((l[i.toNat]?).map (fun a:Adv=>a.2.2.2.2.2.1)).getD []
def vecs (l:List Adv) (o:List Int):Str:=o.foldl (fun v i=>if v=[] then vget l i else v) []
def InG (l:List Adv) (o:List Int) (s:Str):Prop:=∃ i∈o,∃ a,l[i.toNat]? = some a∧s∈nms a
def wv (b:Adv) (v:Str):Adv:=(b.1,b.2.1,b.2.2.1,b.2.2.2.1,b.2.2.2.2.1,v,b.2.2.2.2.2.2)
theorem ucd2_ {l:List Adv} {i:Int} {a:Adv} (h:l[i.toNat]? = some a):vget l i=a.2.2.2.2.2.1:=by unfold vget; rw [h]; rfl
theorem uck0_ (l:List Adv) (o:List Int) (b:Adv) (hl:LB l) (hc:∀ a∈l,chk a=0) (ho:o.length≤2000) (hi:∀ x∈o,0≤x∧x<l.length) :
 Tot (ubbi_ (l,(b.1,(b.2.1,(b.2.2.1,(b.2.2.2.1,(b.2.2.2.2.1,(([]:Str),b.2.2.2.2.2.2)))))),([]:List Str),o,(o.length:Int),0)) (fun r=>r.1=wv b (vecs l o)∧∀ s,s∈r.2↔InG l o s):=by
 refine uq_ (R:=fun r:Adv×List Str=>r.1=wv b (vecs l o)∧∀ s,s∈r.2↔InG l o s)
  (fun y:List Adv×Adv×List Str×List Int×Int×Int=>y.1=l∧y.2.1=wv b (vecs l (o.take y.2.2.2.2.2.toNat))∧(∀ s,s∈y.2.2.1↔InG l (o.take y.2.2.2.2.2.toNat) s)∧y.2.2.2.1=o∧y.2.2.2.2.1=o.length∧0≤y.2.2.2.2.2∧y.2.2.2.2.2≤o.length∧(y.2.2.1.length:Int)≤y.2.2.2.2.2*21)
  (fun y=>((o.length:Int)-y.2.2.2.2.2).toNat) ?_ _ _ ⟨rfl,rfl,fun s=>⟨fun h=>(by cases h),fun ⟨i,h,_⟩=>(by cases h)⟩,rfl,rfl,Int.le_refl _,Int.natCast_nonneg _,by simp⟩ (by unfold fuel; dsimp only; omega)
 rintro next ⟨l',out,names,o',n,t⟩ hI hn
 dsimp only at hI hn
 obtain ⟨rfl,rfl,hm,rfl,rfl,t0,t1,hln⟩:=hI
 unfold ubp2_
 dsimp only
 refine ug_.2 ⟨fun hc'=>?_,fun hc'=>ub_.2 ?_⟩
 · have hc':=of_decide_eq_true hc'
   rw [ubc_ (n:=t+1) (by omega) (by omega)]
   refine ua_.2 (u1_.2 ⟨⟨t0,hc'⟩,fun i hx=>?_⟩)
   obtain ⟨i0,i1⟩:=hi i (uio_ hx)
   refine ua_.2 (u1_.2 ⟨⟨i0,i1⟩,fun a ha=>?_⟩)
   have haB:=hl.2 a (uio_ ha)
   have hAO:=((ub3z_ haB).1 (hc a (uio_ ha))).2.1
   rw [or2]
   refine ua_.2 (ub_.2 ?_)
   refine ua_.2 (u1_.2 ⟨⟨i0,i1⟩,fun a' ha'=>?_⟩)
   rw [ha] at ha'; cases ha'
   refine ua_.2 (ule_.2 ⟨by simp only [List.length_cons,List.length_nil]; omega,?_⟩)
   refine ua_.2 (u1_.2 ⟨⟨i0,i1⟩,fun a' ha'=>?_⟩)
   rw [ha] at ha'; cases ha'
   have h20:=hAO.1
   refine ua_.2 (ule_.2 ⟨by rw [List.length_append]; simp only [List.length_cons,List.length_nil]; omega,?_⟩)
   have htk:o'.take (t+1).toNat=o'.take t.toNat++[i]:=by rw [show (t+1).toNat=t.toNat+1 by omega,u6l_ hx]
   refine hn _ ⟨rfl,?_,fun s=>?_,rfl,rfl,by dsimp only; omega,by dsimp only; omega,?_⟩ (by dsimp only; omega)
   · dsimp only
     rw [htk]
     unfold vecs
     rw [List.foldl_append,List.foldl_cons,List.foldl_nil,ucd2_ ha]
     rfl
   · dsimp only
     rw [htk,List.mem_append,List.mem_append,hm]
     constructor
     · rintro ((⟨j,h1,h2⟩ | h) | h)
       · exact ⟨j,List.mem_append.2 (Or.inl h1),h2⟩
       · exact ⟨i,List.mem_append.2 (Or.inr (List.mem_singleton.2 rfl)),a,ha,by rw [List.mem_singleton.1 h]; exact List.mem_cons_self⟩
       · exact ⟨i,List.mem_append.2 (Or.inr (List.mem_singleton.2 rfl)),a,ha,List.mem_cons_of_mem _ h⟩
     · rintro ⟨j,h1,a',h2,h3⟩
       rcases List.mem_append.1 h1 with h1 | h1
       · exact Or.inl (Or.inl ⟨j,h1,a',h2,h3⟩)
       · obtain rfl:=List.mem_singleton.1 h1
         rw [ha] at h2; cases h2
         rcases List.mem_cons.1 h3 with h3 | h3
         · exact Or.inl (Or.inr (List.mem_singleton.2 h3))
         · exact Or.inr h3
   · dsimp only
     rw [List.length_append,List.length_append]
     simp only [List.length_cons,List.length_nil]
     omega
 · have hc':=of_decide_eq_false hc'
   rw [List.take_of_length_le (by omega)] at hm ⊢
   exact ⟨rfl,hm⟩
def OneR (l:List Adv) (g:List Int) (r:Adv×Bool):Prop:=∃ (o:List Int) (b:Adv) (al:List Str),o.Perm g∧(∃ i∈g,l[i.toNat]? = some b)∧r.1=(b.1,al,b.2.2.1,b.2.2.2.1,b.2.2.2.2.1,vecs l o,b.2.2.2.2.2.2) ∧
 al.Pairwise (fun x y=>x<y)∧(∀ s,s∈al↔InG l g s∧s≠b.1)∧r.2=decide ((al.length:Int)≤20)
theorem ucjz_ (l:List Adv) (g:List Int) (ss:List Str) (hl:LB l) (hc:∀ a∈l,chk a=0) (hs:ss.length≤1048576) (hg:g.length≤2000) (h0:0<g.length) (hi:∀ x∈g,0≤x∧x<l.length):Tot (ubfh_ (l,g,ss)) (OneR l g):=by
 unfold ubfh_
 dsimp only
 refine ua_.2 ((ucd1_ l g ss hs hg hi).mono fun o ho=>?_)
 have hlen:=ho.length_eq
 have hio:∀ x∈o,0≤x∧x<l.length:=fun x hx=>hi x (ho.mem_iff.1 hx)
 refine ua_.2 (u1_.2 ⟨⟨Int.le_refl _,by omega⟩,fun i hx=>?_⟩)
 have him:=uio_ hx
 obtain ⟨i0,i1⟩:=hio i him
 refine ua_.2 (u1_.2 ⟨⟨i0,i1⟩,fun b hb=>?_⟩)
 rw [ucfu_ (hl.2 b (uio_ hb))]
 refine ua_.2 (ub_.2 ?_)
 refine ua_.2 ((uck0_ l o b hl hc (by omega) hio).mono fun r12 h12=>?_)
 obtain ⟨e1,e2⟩:=h12
 have hmem:∀ s,InG l o s↔InG l g s:=fun s=>⟨fun ⟨j,h1,h2⟩=>⟨j,ho.mem_iff.1 h1,h2⟩,fun ⟨j,h1,h2⟩=>⟨j,ho.mem_iff.2 h1,h2⟩⟩
 unfold slices_Sort_string slices_Compact_string
 refine ua_.2 (ub_.2 (ua_.2 (ub_.2 ?_)))
 obtain ⟨c1,c2⟩:=ub86_ r12.2
 have hbn:b.1∈Lib.compact (r12.2.mergeSort fun x y=>decide (x≤y)):=(c2 _).2 ((e2 _).2 ⟨i,him,b,hb,List.mem_cons_self⟩)
 generalize Lib.compact (r12.2.mergeSort fun x y=>decide (x≤y))=ys at c1 c2 hbn ⊢
 unfold unu_
 dsimp only
 have hem:ys.isEmpty=false:=by cases ys with
  | nil=>cases hbn
  | cons _ _=>rfl
 rw [hem,e1]
 refine ua_.2 (ub_.2 (ub_.2 ⟨o,b,ys.filter fun s=>!(eqS s b.1),ho,⟨i,ho.mem_iff.1 him,hb⟩,rfl,c1.filter _,fun s=>?_,rfl⟩))
 rw [List.mem_filter,c2,e2,hmem,uw_]
 simp
theorem ucj0_ (l:List Adv) (P:Str→Prop) (h0:P []) (o:List Int) (h:∀ x∈o,P (vget l x)):P (vecs l o):=by
 have:∀ (o:List Int) (v:Str),P v→(∀ x∈o,P (vget l x))→P (o.foldl (fun v i=>if v=[] then vget l i else v) v):=by
  intro o
  induction o with
  | nil=>intro v hv _; exact hv
  | cons x r ih =>
    intro v hv hx
    rw [List.foldl_cons]
    refine ih _ ?_ fun y hy=>hx y (List.mem_cons_of_mem _ hy)
    split
    · exact hx x List.mem_cons_self
    · exact hv
 exact this o [] h0 h
theorem ucj1_ {s t:List Str} (h1:s.Pairwise (fun x y=>x<y)) (h2:t.Pairwise (fun x y=>x<y)) (h:∀ x,x∈s↔x∈t):s=t:=by
 have nd:∀ {s:List Str},s.Pairwise (fun x y=>x<y)→s.Nodup:=fun h=>h.imp fun g e=>by rw [e] at g; exact sirr _ g
 exact ub97_ (f:=fun x:Str=>x) ((List.perm_ext_iff_of_nodup (nd h1) (nd h2)).2 h) h1 h2
theorem ucih_ {l:List Adv} {g:List Int} {r:Adv×Bool} (hl:LB l) (hc:∀ a∈l,chk a=0) (hg:∀ x∈g,0≤x∧x<l.length) (h:OneR l g r) (hr:r.2=true):AdB r.1∧chk r.1=0∧∀ s,s∈nms r.1↔InG l g s:=by
 obtain ⟨o,b,al,ho,⟨i,hi,hb⟩,e1,hp,hm,e2⟩:=h
 rw [hr] at e2
 have h20:(al.length:Int)≤20:=of_decide_eq_true e2.symm
 have hbB:=hl.2 b (uio_ hb)
 obtain ⟨k1,k2,k3,k4⟩:=(ub3z_ hbB).1 (hc b (uio_ hb))
 have hname:∀ s,InG l g s→s.length≤1048576∧idOk s:=by
  rintro s ⟨j,_,a,ha,hs⟩
  have haB:=hl.2 a (uio_ ha)
  obtain ⟨q1,q2,_,_⟩:=(ub3z_ haB).1 (hc a (uio_ ha))
  rcases List.mem_cons.1 hs with rfl | hs
  · exact ⟨haB.1,q1⟩
  · exact ⟨haB.2.2.1 s hs,(q2.2.2 s hs).1⟩
 have hv:vecOk (vecs l o)∧(vecs l o).length≤1048576:=by
  refine ucj0_ l (fun v=>vecOk v∧v.length≤1048576) ⟨Or.inl rfl,by simp⟩ o fun x hx=>?_
  obtain ⟨x0,x1⟩:=hg x (ho.mem_iff.1 hx)
  have ha:l[x.toNat]? = some l[x.toNat]:=List.getElem?_eq_getElem (by omega)
  rw [ucd2_ ha]
  have haB:=hl.2 _ (uio_ ha)
  exact ⟨((ub3z_ haB).1 (hc _ (uio_ ha))).2.2.1,haB.2.2.2.2.1⟩
 have hB:AdB r.1:=by
  rw [e1]
  exact ⟨hbB.1,by dsimp only; omega,fun s hs=>(hname s ((hm s).1 hs).1).1,hbB.2.2.2.1,hv.2,hbB.2.2.2.2.2.1,hbB.2.2.2.2.2.2⟩
 refine ⟨hB,(ub3z_ hB).2 ?_,fun s=>?_⟩
 · rw [e1]
   exact ⟨k1,⟨by dsimp only; omega,hp,fun s hs=>⟨(hname s ((hm s).1 hs).1).2,((hm s).1 hs).2⟩⟩,hv.1,k4⟩
 · rw [e1]
   unfold nms
   rw [List.mem_cons,hm]
   constructor
   · rintro (rfl | h)
     · exact ⟨i,hi,b,hb,List.mem_cons_self⟩
     · exact h.1
   · intro h
     by_cases e:s=b.1
     · exact Or.inl e
     · exact Or.inr ⟨h,e⟩
theorem ucd3_ {l:List Adv} {i:Int} {a:Adv} {r:Adv×Bool} (ha:l[i.toNat]? = some a) (haB:AdB a) (hc:chk a=0) (h:OneR l [i] r):r=(a,true):=by
 obtain ⟨o,b,al,ho,⟨j,hj,hb⟩,e1,hp,hm,e2⟩:=h
 obtain rfl:=List.mem_singleton.1 hj
 rw [ha] at hb; cases hb
 have ho:=List.perm_singleton.1 ho
 subst ho
 obtain ⟨_,q2,_,_⟩:=(ub3z_ haB).1 hc
 have hal:al=a.2.1:=by
  refine ucj1_ hp q2.2.1 fun s=>?_
  rw [hm]
  constructor
  · rintro ⟨⟨j',h1,a',h2,h3⟩,h4⟩
    obtain rfl:=List.mem_singleton.1 h1
    rw [ha] at h2; cases h2
    rcases List.mem_cons.1 h3 with h3 | h3
    · exact absurd h3 h4
    · exact h3
  · intro h
    exact ⟨⟨j,List.mem_singleton.2 rfl,a,ha,List.mem_cons_of_mem _ h⟩,(q2.2.2 s h).2⟩
 have hv:vecs l [j]=a.2.2.2.2.2.1:=by
  unfold vecs
  rw [List.foldl_cons,List.foldl_nil,if_pos rfl,ucd2_ ha]
 have h20:=q2.1
 refine Prod.ext ?_ ?_
 · rw [e1,hal,hv]
 · rw [e2,hal]; exact decide_eq_true (by omega)
end Go.Ev.Pv
namespace Go.Ev.Pv
def Outs (l:List Adv) (gs:List (List Int)) (out:List Adv):Prop:=out.length=gs.length∧∀ (k:Nat) (g:List Int) (a:Adv),gs[k]? = some g→out[k]? = some a→OneR l g (a,true)
theorem ucii_ (l:List Adv) (ss:List Str) (gs:List (List Int)) (hl:LB l) (hc:∀ a∈l,chk a=0) (hs:ss.length≤1048576) (hgs:gs.length≤2000) (hg:∀ g∈gs,0<g.length∧g.length≤2000∧∀ x∈g,0≤x∧x<l.length) :
 Tot (u3w_ (l,ss,([]:List Adv),gs,(gs.length:Int),0)) (fun r=>(∀ out,r=.inl out→Outs l gs out)∧∀ e,r=.inr e→e.2≠0∧∃ g∈gs,∃ a,OneR l g (a,false)):=by
 refine uq_ (R:=fun r:Sum (List Adv) (List Adv×Int)=>(∀ out,r=.inl out→Outs l gs out)∧∀ e,r=.inr e→e.2≠0∧∃ g∈gs,∃ a,OneR l g (a,false))
  (fun y:List Adv×List Str×List Adv×List (List Int)×Int×Int=>y.1=l∧y.2.1=ss∧Outs l (gs.take y.2.2.2.2.2.toNat) y.2.2.1∧y.2.2.2.1=gs∧y.2.2.2.2.1=gs.length∧0≤y.2.2.2.2.2∧y.2.2.2.2.2≤gs.length)
  (fun y=>((gs.length:Int)-y.2.2.2.2.2).toNat) ?_ _ _ ⟨rfl,rfl,⟨by simp,fun k g a h=>by simp at h⟩,rfl,rfl,Int.le_refl _,Int.natCast_nonneg _⟩ (by unfold fuel; dsimp only; omega)
 rintro next ⟨l',ss',out,gs',n,t⟩ hI hn
 dsimp only at hI hn
 obtain ⟨rfl,rfl,hO,rfl,rfl,t0,t1⟩:=hI
 unfold ubhs_
 dsimp only
 refine ug_.2 ⟨fun hc'=>?_,fun hc'=>ub_.2 ⟨fun o ho=>?_,fun e he=>(by cases he)⟩⟩
 · have hc':=of_decide_eq_true hc'
   rw [ubc_ (n:=t+1) (by omega) (by omega)]
   refine ua_.2 (u1_.2 ⟨⟨t0,hc'⟩,fun g hx=>?_⟩)
   obtain ⟨g1,g2,g3⟩:=hg g (uio_ hx)
   refine ua_.2 ((ucjz_ l' g ss' hl hc hs g2 g1 g3).mono fun r hr=>?_)
   obtain ⟨a,ok⟩:=r
   cases ok with
   | false=>exact ub_.2 ⟨fun o ho=>(by cases ho),fun e he=>by cases he; exact ⟨by decide,g,uio_ hx,a,hr⟩⟩
   | true =>
     have hol:out.length=t.toNat:=by rw [hO.1,List.length_take]; omega
     refine ua_.2 (ule_.2 ⟨by simp only [List.length_cons,List.length_nil]; omega,?_⟩)
     refine hn _ ⟨rfl,rfl,?_,rfl,rfl,by dsimp only; omega,by dsimp only; omega⟩ (by dsimp only; omega)
     dsimp only
     rw [show (t+1).toNat=t.toNat+1 by omega,u6l_ hx]
     refine ⟨by rw [List.length_append,List.length_append,hO.1]; rfl,fun k g' a' h1 h2=>?_⟩
     have hgl:(gs'.take t.toNat).length=t.toNat:=by rw [List.length_take]; omega
     by_cases e:k<t.toNat
     · rw [List.getElem?_append_left (by omega)] at h1 h2
       exact hO.2 k g' a' h1 h2
     · rw [List.getElem?_append_right (by omega)] at h1 h2
       rw [hgl] at h1
       rw [hol] at h2
       have hk:k-t.toNat=0:=by
        have:=(List.getElem?_eq_some_iff.1 h1).1
        simp only [List.length_cons,List.length_nil] at this
        omega
       rw [hk] at h1 h2
       cases h1
       cases h2
       exact hr
 · cases ho
   have hc':=of_decide_eq_false hc'
   rwa [List.take_of_length_le (by omega)] at hO
def Rho (l:List Adv) (ρ:Nat→Nat):Prop:=(∀ i,i<l.length→ρ i≤i∧ρ (ρ i)=ρ i)∧Roots l ρ
def ucij_ (l:List Adv) (q:List Adv×Int):Prop :=
 (q.2=0→LB l∧(∀ a∈l,chk a=0)∧∃ ρ out,Rho l ρ∧Outs l (grps ρ l.length) out∧q.1.Perm out∧q.1.Pairwise (fun a b=>¬ b.1<a.1)) ∧
 (q.2≠0→¬ (l.length≤2000∧∀ a∈l,chk a=0)∨∃ ρ,Rho l ρ∧∃ g∈grps ρ l.length,∃ a,OneR l g (a,false))
theorem ucgz_ (ρ:Nat→Nat) (n:Nat):(grps ρ n).length≤n∧∀ g∈grps ρ n,0<g.length∧g.length≤n∧∀ x∈g,0≤x∧x<n:=by
 refine ⟨Nat.le_trans (List.length_filter_le _ _) (by simp),fun g hg=>?_⟩
 obtain ⟨h1,h2⟩:=List.mem_filter.1 hg
 obtain ⟨t,_,rfl⟩:=List.mem_map.1 h1
 refine ⟨of_decide_eq_true h2,ucgy_ _ _ _,fun x hx=>?_⟩
 obtain ⟨i,rfl,hi,_⟩:=ub7m_.1 hx
 omega
theorem ub99_ (l:List Adv) (ss:List Str) (hl:∀ a∈l,AdB a) (hs:ss.length≤1048576):Tot (uxn_ (l,ss)) (ucij_ l):=by
 unfold uxn_
 dsimp only
 refine ua_.2 ((ub7n_ l hl).mono fun r1 h1=>ug_.2 ⟨fun he=>ub_.2 ⟨fun h=>?_,fun h=>Or.inl fun g=>h (h1.2 g)⟩,fun he=>?_⟩)
 · dsimp only at h; rw [h] at he; simp [ur_] at he
 have he:r1=0:=by rw [ur_] at he; simpa using he
 obtain ⟨c1,c2⟩:=h1.1 he
 have hLB:LB l:=⟨c1,hl⟩
 refine ua_.2 ((ucd0_ hLB).mono fun gs hgs=>?_)
 obtain ⟨ρ,hρ,hR,rfl⟩:=hgs
 obtain ⟨k1,k2⟩:=ucgz_ ρ l.length
 refine ua_.2 ((ucii_ l ss (grps ρ l.length) hLB c2 hs (by omega) fun g hg=>⟨(k2 g hg).1,by have:=(k2 g hg).2.1; omega,(k2 g hg).2.2⟩).mono fun r7 h7=>?_)
 rcases r7 with out | e
 · have hO:=h7.1 out rfl
   unfold ufx_
   refine ua_.2 ((ucdt_ out _ (fun a:Adv=>a.1) (fun a b=>?_)).mono fun q hq=>ub_.2 ⟨fun _=>⟨hLB,c2,ρ,out,⟨hρ,hR⟩,hO,hq.1,hq.2⟩,fun h=>absurd rfl h⟩)
   show (u2f_ (a,b)).bind (fun r=>some r)=_
   unfold u2f_
   dsimp only
   rw [ut5_]; rfl
 · obtain ⟨e1,g,hg,a,ha⟩:=h7.2 e rfl
   exact ub_.2 ⟨fun h=>absurd h e1,fun _=>Or.inr ⟨ρ,⟨hρ,hR⟩,g,hg,a,ha⟩⟩
def Apart (a b:Adv):Prop:=∀ s,s∈nms a→s ∉ nms b
theorem ucd4_ {l:List Adv} {ρ:Nat→Nat} (hR:Rho l ρ):(grps ρ l.length).Pairwise (fun g g'=>∀ s,InG l g s→¬ InG l g' s):=by
 unfold grps
 refine List.Pairwise.filter _ ?_
 rw [List.pairwise_map]
 refine List.pairwise_lt_range.imp fun {t t'} hlt s h1 h2=>?_
 obtain ⟨x,hx,a,ha,hs⟩:=h1
 obtain ⟨y,hy,b,hb,hs'⟩:=h2
 obtain ⟨i,rfl,_,hi⟩:=ub7m_.1 hx
 obtain ⟨j,rfl,_,hj⟩:=ub7m_.1 hy
 rw [Int.toNat_natCast] at ha hb
 have:=hR.2.1 i j a b s ha hb hs hs'
 omega
theorem ucf3_ {l:List Adv} {ρ:Nat→Nat} {out:List Adv} (hl:LB l) (hc:∀ a∈l,chk a=0) (hR:Rho l ρ) (hO:Outs l (grps ρ l.length) out) :
 out.length≤2000∧(∀ b∈out,AdB b∧chk b=0)∧out.Pairwise Apart∧∀ a s,a∈l→s∈nms a→∃ b∈out,s∈nms b:=by
 obtain ⟨k1,k2⟩:=ucgz_ ρ l.length
 have hlen:=hO.1
 have hk:∀ k (h:k<out.length),AdB out[k]∧chk out[k]=0∧∀ s,s∈nms out[k]↔InG l ((grps ρ l.length)[k]'(by omega)) s:=fun k h=>by
  have h1:=List.getElem?_eq_getElem (l:=grps ρ l.length) (i:=k) (by omega)
  have h2:=List.getElem?_eq_getElem h
  exact ucih_ hl hc (k2 _ (List.getElem_mem _)).2.2 (hO.2 k _ _ h1 h2) rfl
 refine ⟨by have:=hl.1; omega,fun b hb=>?_,?_,fun a s ha hs=>?_⟩
 · obtain ⟨k,h,rfl⟩:=List.getElem_of_mem hb
   exact ⟨(hk k h).1,(hk k h).2.1⟩
 · rw [List.pairwise_iff_getElem]
   intro i j hi hj hij s h1 h2
   exact List.pairwise_iff_getElem.1 (ucd4_ hR) i j (by omega) (by omega) hij s (((hk i hi).2.2 s).1 h1) (((hk j hj).2.2 s).1 h2)
 · obtain ⟨i,hi,rfl⟩:=List.getElem_of_mem ha
   have hm:grp ρ l.length (ρ i)∈grps ρ l.length:=by
    have hin:(i:Int)∈grp ρ l.length (ρ i):=ub7m_.2 ⟨i,rfl,hi,rfl⟩
    refine List.mem_filter.2 ⟨List.mem_map.2 ⟨ρ i,List.mem_range.2 (by have:=(hR.1 i hi).1; omega),rfl⟩,decide_eq_true ?_⟩
    exact List.length_pos_of_mem hin
   obtain ⟨k,h,e⟩:=List.getElem_of_mem hm
   refine ⟨out[k]'(by omega),List.getElem_mem _,((hk k (by omega)).2.2 s).2 ?_⟩
   rw [e]
   exact ⟨(i:Int),ub7m_.2 ⟨i,rfl,hi,rfl⟩,l[i],by rw [Int.toNat_natCast]; exact List.getElem?_eq_getElem hi,hs⟩
theorem ucd5_ {a b:Adv} (h:Apart a b):Apart b a:=fun s h1 h2=>h s h2 h1
structure Merged (x:List Adv):Prop where
 lb:LB x
 ok:∀ a∈x,chk a=0
 apart:x.Pairwise Apart
 sorted:x.Pairwise (fun a b=>a.1<b.1)
theorem ucf4_ {l:List Adv} {x:List Adv} (h:ucij_ l (x,0)):Merged x∧∀ a s,a∈l→s∈nms a→∃ b∈x,s∈nms b:=by
 obtain ⟨hl,hc,ρ,out,hR,hO,hp,hs⟩:=h.1 rfl
 dsimp only at hp hs
 obtain ⟨g1,g2,g3,g4⟩:=ucf3_ hl hc hR hO
 have hap:x.Pairwise Apart:=(hp.pairwise_iff fun h=>ucd5_ h).2 g3
 refine ⟨⟨⟨by rw [hp.length_eq]; exact g1,fun a ha=>(g2 a (hp.mem_iff.1 ha)).1⟩,fun a ha=>(g2 a (hp.mem_iff.1 ha)).2,hap,?_⟩,fun a s ha hs'=>?_⟩
 · refine (List.Pairwise.and hs hap).imp fun {a b} ⟨h1,h2⟩=>?_
   rcases stri a.1 b.1 with h | h | h
   · exact h
   · exact absurd (show a.1∈nms b by rw [h]; exact List.mem_cons_self) (h2 a.1 List.mem_cons_self)
   · exact absurd h h1
 · obtain ⟨b,hb,h⟩:=g4 a s ha hs'
   exact ⟨b,hp.mem_iff.2 hb,h⟩
theorem ucj2_ {x:List Adv} (h:x.Pairwise Apart):Disj x:=by
 intro i j a b s h1 h2 h3 h4
 obtain ⟨hi,rfl⟩:=List.getElem?_eq_some_iff.1 h1
 obtain ⟨hj,rfl⟩:=List.getElem?_eq_some_iff.1 h2
 have hp:=List.pairwise_iff_getElem.1 h
 rcases Nat.lt_trichotomy i j with e | e | e
 · exact absurd h4 (hp i j hi hj e s h3)
 · exact e
 · exact absurd h3 (hp j i hj hi e s h4)
theorem uck1_ {ρ:Nat→Nat} {n:Nat} (h:∀ k,k<n→ρ k=k) (t:Nat):∀ m,m≤n→grp ρ m t=if t<m then [(t:Int)] else []:=by
 intro m
 induction m with
 | zero=>intro _; rfl
 | succ m ih =>
   intro hm
   rw [ucdz_,ih (by omega),h m (by omega)]
   by_cases e:m=t
   · subst e
     rw [if_neg (Nat.lt_irrefl _),if_pos rfl,if_pos (Nat.lt_succ_self _)]; rfl
   · rw [if_neg e,List.append_nil]
     by_cases e2:t<m
     · rw [if_pos e2,if_pos (by omega)]
     · rw [if_neg e2,if_neg (by omega)]
theorem ucj3_ {ρ:Nat→Nat} {n:Nat} (h:∀ k,k<n→ρ k=k):grps ρ n=(List.range n).map (fun t:Nat=>[(t:Int)]):=by
 unfold grps
 have e:(List.range n).map (grp ρ n)=(List.range n).map (fun t:Nat=>[(t:Int)]):=List.map_congr_left fun t ht=>by
  rw [uck1_ h t n (Nat.le_refl _),if_pos (List.mem_range.1 ht)]
 rw [e]
 refine List.filter_eq_self.2 fun g hg=>?_
 obtain ⟨t,_,rfl⟩:=List.mem_map.1 hg
 rfl
theorem ucbd_ {x:List Adv} (h:Merged x) {q:List Adv×Int} (hq:ucij_ x q):q=(x,0):=by
 have hid:∀ ρ,Rho x ρ→grps ρ x.length=(List.range x.length).map (fun t:Nat=>[(t:Int)]):=fun ρ hR=>ucj3_ (hR.2.2 (ucj2_ h.apart))
 obtain ⟨y,e⟩:=q
 by_cases e0:e=0
 · subst e0
   obtain ⟨_,_,ρ,out,hR,hO,hp,hs⟩:=hq.1 rfl
   rw [hid ρ hR] at hO
   dsimp only at hp hs
   have hout:out=x:=by
    have hl:out.length=x.length:=by rw [hO.1]; simp
    apply List.ext_getElem hl
    intro k h1 h2
    have g1:((List.range x.length).map (fun t:Nat=>[(t:Int)]))[k]? = some [(k:Int)]:=by simp [h2]
    have:=hO.2 k _ _ g1 (List.getElem?_eq_getElem h1)
    have hk:x[(k:Int).toNat]? = some x[k]:=by rw [Int.toNat_natCast]; exact List.getElem?_eq_getElem h2
    have:=ucd3_ hk (h.lb.2 _ (List.getElem_mem _)) (h.ok _ (List.getElem_mem _)) this
    exact congrArg (·.1) this
   subst hout
   have hne:y.Pairwise (fun a b=>a.1≠b.1):=(hp.pairwise_iff fun h e=>h e.symm).2 (h.sorted.imp fun g e=>by rw [e] at g; exact sirr _ g)
   have hst:y.Pairwise (fun a b=>a.1<b.1):=(List.Pairwise.and hs hne).imp fun {a b} ⟨h1,h2⟩=>by
    rcases stri a.1 b.1 with h | h | h
    · exact h
    · exact absurd h h2
    · exact absurd h h1
   rw [ub97_ (f:=fun a:Adv=>a.1) hp hst h.sorted]
 · rcases hq.2 e0 with hn | ⟨ρ,hR,g,hg,a,ha⟩
   · exact absurd ⟨h.lb.1,h.ok⟩ hn
   · rw [hid ρ hR] at hg
     obtain ⟨t,ht,rfl⟩:=List.mem_map.1 hg
     have ht:=List.mem_range.1 ht
     have hk:x[(t:Int).toNat]? = some x[t]:=by rw [Int.toNat_natCast]; exact List.getElem?_eq_getElem ht
     have:=ucd3_ hk (h.lb.2 _ (List.getElem_mem _)) (h.ok _ (List.getElem_mem _)) ha
     exact absurd (congrArg (·.2) this) (by simp)
end Go.Ev.Pv
namespace Go.Ev.Pv
theorem ub87_ (l:List Str) (v:Str) (hl:l.length≤1048576):Tot (ud3_ (l,v)) (fun q=>q=decide (v∈l)):=by
 unfold ud3_ uf4_
 dsimp only
 refine ua_.2 (ua_.2 (Tot.mono (P:=fun q:Sum Unit Int=>(∀ y,q=.inr y→0≤y∧v∈l)∧∀ y,q=.inl y→v ∉ l) ?_ fun q hq=>?_))
 · refine uq_ (R:=fun q:Sum Unit Int=>(∀ y,q=.inr y→0≤y∧v∈l)∧∀ y,q=.inl y→v ∉ l) (fun y:(List Str)×Str×Int×Int=>y.1=l∧y.2.1=v∧y.2.2.1=l.length∧0≤y.2.2.2∧y.2.2.2≤l.length∧v ∉ l.take y.2.2.2.toNat)
    (fun y=>((l.length:Int)-y.2.2.2).toNat) ?_ _ _ ⟨rfl,rfl,rfl,Int.le_refl _,Int.natCast_nonneg _,by simp⟩ (by unfold fuel; dsimp only; omega)
   rintro next ⟨l',v',n,i⟩ hI hn
   dsimp only at hI hn
   obtain ⟨rfl,rfl,rfl,i0,i1,h5⟩:=hI
   unfold uq6_
   dsimp only
   refine ug_.2 ⟨fun hc=>?_,fun hc=>ub_.2 ⟨fun y e=>(by cases e),fun y e=>?_⟩⟩
   · have hc:=of_decide_eq_true hc
     rw [ubc_ (n:=i+1) (by omega) (by omega)]
     refine ua_.2 (u1_.2 ⟨⟨i0,hc⟩,fun w hx=>ug_.2 ⟨fun he=>ub_.2 ⟨fun y e=>?_,fun y e=>(by cases e)⟩,fun he=>?_⟩⟩)
     · cases e
       rw [uw_] at he
       have he:=of_decide_eq_true he
       refine ⟨i0,?_⟩
       rw [he]; exact uio_ hx
     refine hn _ ⟨rfl,rfl,rfl,by dsimp only; omega,by dsimp only; omega,?_⟩ (by dsimp only; omega)
     dsimp only
     rw [show (i+1).toNat=i.toNat+1 by omega,u6l_ hx,List.mem_append,List.mem_singleton]
     rw [uw_] at he
     exact fun h=>h.elim h5 (of_decide_eq_false he)
   · have hc:=of_decide_eq_false hc
     rwa [List.take_of_length_le (by omega)] at h5
 · rcases q with y | y
   · exact ub_.2 (ub_.2 (by rw [decide_eq_false (hq.2 y rfl)]; rfl))
   · exact ub_.2 (ub_.2 (by rw [decide_eq_true (hq.1 y rfl).2]; exact decide_eq_true (hq.1 y rfl).1))
def many (x:List Adv) (s:Str):Nat:=x.countP (fun b=>decide (s∈nms b))
theorem ucik_ {x:List Adv} (h:x.Pairwise Apart) {s:Str} (hs:∃ b∈x,s∈nms b):many x s=1:=by
 unfold many
 induction x with
 | nil=>obtain ⟨b,hb,_⟩:=hs; cases hb
 | cons a r ih =>
   obtain ⟨h1,h2⟩:=List.pairwise_cons.1 h
   rw [List.countP_cons]
   by_cases ha:s∈nms a
   · rw [if_pos (decide_eq_true ha)]
     have:r.countP (fun b=>decide (s∈nms b))=0:=List.countP_eq_zero.2 fun b hb=>by
      have:=h1 b hb s ha
      simpa using this
     rw [this]
   · rw [if_neg (by simpa using ha)]
     obtain ⟨b,hb,hsb⟩:=hs
     rcases List.mem_cons.1 hb with rfl | hb
     · exact absurd hsb ha
     · exact ih h2 ⟨b,hb,hsb⟩
theorem uck2_ (x:List Adv) (s:Str) (hx:LB x):Tot (ulk_ (s,0,x,(x.length:Int),0)) (fun r=>r=(many x s:Int)):=by
 refine uq_ (R:=fun r:Int=>r=(many x s:Int))
  (fun y:Str×Int×List Adv×Int×Int=>y.1=s∧y.2.1=(many (x.take y.2.2.2.2.toNat) s:Int)∧y.2.2.1=x∧y.2.2.2.1=x.length∧0≤y.2.2.2.2∧y.2.2.2.2≤x.length)
  (fun y=>((x.length:Int)-y.2.2.2.2).toNat) ?_ _ _ ⟨rfl,rfl,rfl,rfl,Int.le_refl _,Int.natCast_nonneg _⟩ (by have:=hx.1; unfold fuel; dsimp only; omega)
 rintro next ⟨s',m,x',n,t⟩ hI hn
 dsimp only at hI hn
 obtain ⟨rfl,rfl,rfl,rfl,t0,t1⟩:=hI
 have hx1:=hx.1
 unfold uuf_
 dsimp only
 refine ug_.2 ⟨fun hc=>?_,fun hc=>ub_.2 ?_⟩
 · have hc:=of_decide_eq_true hc
   have hm:many (x'.take t.toNat) s'≤x'.length:=Nat.le_trans List.countP_le_length (by rw [List.length_take]; omega)
   rw [ubc_ (n:=t+1) (by omega) (by omega),ubc_ (n:=(many (x'.take t.toNat) s':Int)+1) (by omega) (by omega)]
   refine ua_.2 (u1_.2 ⟨⟨t0,hc⟩,fun b hb=>?_⟩)
   have hbB:=hx.2 b (uio_ hb)
   have hstep:many (x'.take (t+1).toNat) s'=many (x'.take t.toNat) s'+if s'∈nms b then 1 else 0:=by
    rw [show (t+1).toNat=t.toNat+1 by omega,u6l_ hb]
    unfold many
    rw [List.countP_append,List.countP_singleton]
    by_cases h:s'∈nms b <;> simp [h]
   rw [uw_]
   refine ua_.2 (Tot.mono (P:=fun q=>(decide (b.1=s')||q)=decide (s'∈nms b)) (ug_.2 ⟨fun h=>?_,fun h=>ub_.2 ?_⟩) fun q hq=>?_)
   · refine (ub87_ b.2.1 s' hbB.2.1).mono fun q hq=>?_
     have h:¬ b.1=s':=by simpa using h
     rw [hq,decide_eq_false h,Bool.false_or]
     unfold nms
     have h':¬ s'=b.1:=fun e=>h e.symm
     simp [h']
   · have h:b.1=s':=by simpa using h
     rw [decide_eq_true h]
     unfold nms
     simp [h]
   · rw [hq]
     refine ug_.2 ⟨fun h=>?_,fun h=>?_⟩
     · have h:=of_decide_eq_true h
       refine hn _ ⟨rfl,?_,rfl,rfl,by dsimp only; omega,by dsimp only; omega⟩ (by dsimp only; omega)
       dsimp only
       rw [hstep,if_pos h]; omega
     · have h:=of_decide_eq_false h
       refine hn _ ⟨rfl,?_,rfl,rfl,by dsimp only; omega,by dsimp only; omega⟩ (by dsimp only; omega)
       dsimp only
       rw [hstep,if_neg h]; omega
 · have hc:=of_decide_eq_false hc
   rw [List.take_of_length_le (by omega)]
theorem uck3_ (x:List Adv) (ns:List Str) (hx:LB x) (hn':ns.length≤1048577) (h1:∀ s∈ns,many x s=1):Tot (ull_ (x,ns,(ns.length:Int),0)) (fun r=>r=.inl ()):=by
 refine uq_ (R:=fun r:Sum Unit Bool=>r=.inl ())
  (fun y:List Adv×List Str×Int×Int=>y.1=x∧y.2.1=ns∧y.2.2.1=ns.length∧0≤y.2.2.2∧y.2.2.2≤ns.length)
  (fun y=>((ns.length:Int)-y.2.2.2).toNat) ?_ _ _ ⟨rfl,rfl,rfl,Int.le_refl _,Int.natCast_nonneg _⟩ (by unfold fuel; dsimp only; omega)
 rintro next ⟨x',ns',n,t⟩ hI hn
 dsimp only at hI hn
 obtain ⟨rfl,rfl,rfl,t0,t1⟩:=hI
 unfold uug_
 dsimp only
 refine ug_.2 ⟨fun hc=>?_,fun hc=>ub_.2 rfl⟩
 have hc:=of_decide_eq_true hc
 rw [ubc_ (n:=t+1) (by omega) (by omega)]
 refine ua_.2 (u1_.2 ⟨⟨t0,hc⟩,fun s hs=>?_⟩)
 refine ua_.2 ((uck2_ x' s hx).mono fun r hr=>?_)
 rw [hr,h1 s (uio_ hs)]
 refine ug_.2 ⟨fun h=>by simp [ur_] at h,fun _=>?_⟩
 exact hn _ ⟨rfl,rfl,rfl,by dsimp only; omega,by dsimp only; omega⟩ (by dsimp only; omega)
theorem uck4_ (x l:List Adv) (hx:LB x) (hl:LB l) (h1:∀ a∈l,∀ s∈nms a,many x s=1):Tot (ulm_ (x,l,(l.length:Int),0)) (fun r=>r=.inl ()):=by
 refine uq_ (R:=fun r:Sum Unit Bool=>r=.inl ())
  (fun y:List Adv×List Adv×Int×Int=>y.1=x∧y.2.1=l∧y.2.2.1=l.length∧0≤y.2.2.2∧y.2.2.2≤l.length)
  (fun y=>((l.length:Int)-y.2.2.2).toNat) ?_ _ _ ⟨rfl,rfl,rfl,Int.le_refl _,Int.natCast_nonneg _⟩ (by have:=hl.1; unfold fuel; dsimp only; omega)
 rintro next ⟨x',l',n,t⟩ hI hn
 dsimp only at hI hn
 obtain ⟨rfl,rfl,rfl,t0,t1⟩:=hI
 have hl1:=hl.1
 unfold uuh_
 dsimp only
 refine ug_.2 ⟨fun hc=>?_,fun hc=>ub_.2 rfl⟩
 have hc:=of_decide_eq_true hc
 rw [ubc_ (n:=t+1) (by omega) (by omega)]
 refine ua_.2 (u1_.2 ⟨⟨t0,hc⟩,fun a ha=>?_⟩)
 have hal:=ucgx_ (hl.2 a (uio_ ha))
 have hal':a.2.1.length+1≤1048577:=hal
 refine ua_.2 (ule_.2 ⟨by simp only [List.length_cons,List.length_nil]; omega,?_⟩)
 refine ua_.2 ((uck3_ x' (nms a) hx hal (h1 a (uio_ ha))).mono fun r hr=>?_)
 rw [hr]
 exact hn _ ⟨rfl,rfl,rfl,by dsimp only; omega,by dsimp only; omega⟩ (by dsimp only; omega)
theorem law8 (l:List Adv) (ss:List Str) (hl:∀ a∈l,AdB a) (hs:ss.length≤1048576):ujr_ (l,ss)=some true:=by
 suffices h:Tot (ujr_ (l,ss)) (fun q=>q=true) by obtain ⟨q,h1,rfl⟩:=h; exact h1
 unfold ujr_
 dsimp only
 refine ua_.2 ((ub99_ l ss hl hs).mono fun q hq=>ug_.2 ⟨fun _=>by rw [told5]; exact ua_.2 (ub_.2 (ub_.2 rfl)),fun he=>?_⟩)
 obtain ⟨x,e⟩:=q
 have he:e=0:=by rw [ur_] at he; simpa using he
 subst he
 obtain ⟨hx,hall⟩:=ucf4_ hq
 have hLB:LB l:=(hq.1 rfl).1
 dsimp only
 refine ua_.2 ((ub99_ x ss hx.lb.2 hs).mono fun q2 hq2=>?_)
 rw [ucbd_ hx hq2]
 dsimp only
 have hx1:=hx.lb.1
 rw [uckw_ x (by omega) hx.lb.2]
 simp only [ur_,decide_true,Bool.not_true,Bool.not_false,cond_true]
 refine ua_.2 (ub_.2 ?_)
 simp only [Bool.not_true,Bool.or_self,cond_false]
 refine ua_.2 ((uck4_ x l hx.lb hLB fun a ha s hs'=>ucik_ hx.apart (hall a s ha hs')).mono fun r hr=>?_)
 rw [hr,told5]
 exact ua_.2 (ub_.2 (ub_.2 rfl))
end Go.Ev.Pv
