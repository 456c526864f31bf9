/-
  The evaluator's functions: a function of the program keeps what the evaluator says.
-/
import Derived.Test.YthdkjfbmhbimlaaGreatDoorE2
set_option linter.unusedVariables false
set_option linter.unusedSimpArgs false
set_option linter.unusedSectionVars false
set_option maxRecDepth 100000
namespace Go.Ev
variable [Pins]
section
variable {P:Program} {fr:Fr} {free free':Nat→Prop} {self:Nat} {σ σ':Nat→Option Obj} {w w':World} {G G':Gh} {I:Im}
theorem MemS.back (hm:MemS P fr free σ w G) {k b:Nat} {t:Ty} {c:SV} (hbox:G.box k=some (b,t)) {wr:Bool} (ho:ObjOK P fr w G k (.box t c wr)) (hb:∀ j o',σ j=some o'→¬ Bk G j o' b) :
 MemS P fr free (u3_ σ [(k,some (.box t c wr))]) w G:=by
 have hblk:∀ {b'},Bk G k (.box t c wr) b'→b=b':=by intro b' h; simpa [Bk,hbox] using h
 refine ⟨fun j o h=>?_,fun i j o1 o2 b' hi hj hbi hbj=>?_,hm.after,fun j hj=>?_⟩
 · rw [uba_] at h
   by_cases e:j=k
   · rw [if_pos e] at h; cases h; subst e; exact ho
   · rw [if_neg e] at h; exact hm.objs j o h
 · rw [uba_] at hi hj
   by_cases e1:i=k <;> by_cases e2:j=k
   · rw [e1,e2]
   · exfalso
     rw [if_pos e1] at hi; rw [if_neg e2] at hj
     cases hi; subst e1
     have:=hblk hbi; subst this
     exact hb j o2 hj hbj
   · exfalso
     rw [if_neg e1] at hi; rw [if_pos e2] at hj
     cases hj; subst e2
     have:=hblk hbj; subst this
     exact hb i o1 hi hbi
   · rw [if_neg e1] at hi; rw [if_neg e2] at hj
     exact hm.sep i j o1 o2 b' hi hj hbi hbj
 · have hf:=hm.fresh j hj
   refine ⟨?_,hf.2⟩
   rw [uba_,if_neg (fun e=>?_)]
   · exact hf.1
   · subst e
     rw [hf.2.2.1] at hbox; cases hbox
theorem MemS.backO (hm:MemS P fr free σ w G) {k:Nat} {o:Obj} (ho:ObjOK P fr w G k o) (hnf:¬ free k) (hb:∀ b,Bk G k o b→∀ j o',σ j=some o'→¬ Bk G j o' b) :
 MemS P fr free (u3_ σ [(k,some o)]) w G:=by
 refine ⟨fun j o' h=>?_,fun i j o1 o2 b' hi hj hbi hbj=>?_,hm.after,fun j hj=>?_⟩
 · rw [uba_] at h
   by_cases e:j=k
   · rw [if_pos e] at h; cases h; subst e; exact ho
   · rw [if_neg e] at h; exact hm.objs j o' h
 · rw [uba_] at hi hj
   by_cases e1:i=k <;> by_cases e2:j=k
   · rw [e1,e2]
   · exfalso
     rw [if_pos e1] at hi; rw [if_neg e2] at hj
     cases hi; subst e1
     exact hb _ hbi j o2 hj hbj
   · exfalso
     rw [if_neg e1] at hi; rw [if_pos e2] at hj
     cases hj; subst e2
     exact hb _ hbj i o1 hi hbi
   · rw [if_neg e1] at hi; rw [if_neg e2] at hj
     exact hm.sep i j o1 o2 b' hi hj hbi hbj
 · have hf:=hm.fresh j hj
   refine ⟨?_,hf.2⟩
   rw [uba_,if_neg (fun e=>?_)]
   · exact hf.1
   · subst e; exact hnf hj
def BoxArgs (G:Gh):List Sh→List SV→List Value→Prop
 | .box c::ps,s::ss,v::vs=>(∃ k u b,s=.ptr k [] u∧G.box k=some (b,c.ty)∧v=.pointer (some ⟨b,0,none⟩))∧BoxArgs G ps ss vs
 | .bld _ false::ps,s::ss,v::vs=>(∃ k u b,s=.ptr k [] u∧G.box k=some (b,bldTy)∧v=.pointer (some ⟨b,0,none⟩))∧BoxArgs G ps ss vs
 | .io _ t::ps,s::ss,v::vs=>((∃ k,s=.obj k 0∧G.val k 0=some v∧G.ety k=some t)∨(s=.nilS∧v=.slice none 0 0))∧BoxArgs G ps ss vs
 | _::ps,_::ss,_::vs=>BoxArgs G ps ss vs
 | _,_,_=>True
theorem ub5w_:∀ {ps:List Sh} {ss:List SV} {vals:List Value} {r:TupR (ps.filter isBox)} {n:Nat} {bs:List Nat} {free:Nat→Prop},MemS P fr free σ w G→ss.length=ps.length→vals.length=ps.length →
 BoxArgs G ps ss vals→ShL P w G.im (ps.filter isBox) r (ulq_ ps vals) bs→bs.Nodup →
 (∀ b∈bs,fr.owned b∧∀ j o,σ j=some o→¬ Bk G j o b)→(∀ k,n≤k→k<n+cntL (ps.filter isBox)→free k) →
 ∃ G',Made P fr free σ w G n (n+cntL (ps.filter isBox)) (unj_ ps ss (mkL (ps.filter isBox) r n)) bs G':=by
 intro ps
 induction ps with
 | nil =>
   intro ss vals r n bs free hm _ _ _ h _ _ _
   obtain ⟨_,rfl⟩:=h
   have:unj_ [] ss (mkL ([]:List Sh) r n)=[]:=by cases ss <;> rfl
   refine ⟨G,?_⟩
   show Made P fr free σ w G n n (unj_ [] ss (mkL ([]:List Sh) r n)) [] G
   rw [this]
   exact Made.none hm
 | cons p ps ih =>
   intro ss vals r n bs free hm hls hlv hba h hnd hbs hfree
   cases ss with
   | nil=>cases hls
   | cons s ss =>
     cases vals with
     | nil=>cases hlv
     | cons v vals =>
       cases p with
       | box c =>
         obtain ⟨⟨k,u,b,rfl,hbox,rfl⟩,hba'⟩:=hba
         have hsplit:∃ (x:c.T) (r':TupR (ps.filter isBox)) (b1 b2:List Nat),bs=b1++b2∧ShC P w G.im (.box c) x [.pointer (some ⟨b,0,none⟩)] b1∧ShL P w G.im (ps.filter isBox) r' (ulq_ ps vals) b2 ∧
          mkL ((Sh.box c::ps).filter isBox) r n=mkC (.box c) x n::mkL (ps.filter isBox) r' (n+(c.cnt+1)):=by
          have h:ShL P w G.im ([Sh.box c]++ps.filter isBox) r ([.pointer (some ⟨b,0,none⟩)]++ulq_ ps vals) bs:=h
          obtain ⟨b1,b2,e1,h1,h2⟩:=h.split rfl
          obtain ⟨v',e2,h3⟩:=h1
          have e2:Value.pointer (some ⟨b,0,none⟩)=v':=by injection e2
          subst e2
          refine ⟨_,_,b1,b2,e1,h3,h2,?_⟩
          exact ubk1_ (a:=[Sh.box c]) (b:=ps.filter isBox) (x:=r) (n:=n)
         obtain ⟨x,r',b1,b2,rfl,h1,h2,h3⟩:=hsplit
         have hnd':=List.nodup_append.1 hnd
         have hcnt:cntL ((Sh.box c::ps).filter isBox)=c.cnt+1+cntL (ps.filter isBox):=rfl
         rw [hcnt] at hfree ⊢
         obtain ⟨G1,m1⟩:=ih (n:=n+(c.cnt+1)) hm (by simpa using hls) (by simpa using hlv) hba' h2 hnd'.2.1 (fun b hb=>hbs b (List.mem_append_right _ hb)) (fun k h1 h2=>hfree k (by omega) (by omega))
         obtain ⟨b0,cells,el,bs',e1,rfl,q1,q2,q3,q4,q5,hlay⟩:=h1
         have hb0:b0=b:=by
          injection e1 with e1 _
          injection e1 with e1
          injection e1 with e1
          injection e1 with e1 _ _
          exact e1.symm
         subst hb0
         have hndc:=List.nodup_cons.1 hnd'.1
         have hfr:∀ b'∈b0::bs',fr.owned b'∧∀ j o,u3_ σ (unj_ ps ss (mkL (ps.filter isBox) r' (n+(c.cnt+1)))) j=some o→¬ Bk G1 j o b':=fun b' hb' =>
          ⟨(hbs b' (List.mem_append_left _ hb')).1,fun j o ho hb2=>by
            rcases m1.own j o b' ho hb2 with h | ⟨j',o',h3,h4⟩
            · exact hnd'.2.2 b' hb' b' h rfl
            · exact (hbs b' (List.mem_append_left _ hb')).2 j' o' h3 h4⟩
         obtain ⟨G2,m2,r2,f2⟩:=ubk0_ (s:=c) (x:=x) (n:=n+1) m1.mem (by rw [m1.im]; exact q3) hndc.2 (fun b' hb'=>hfr b' (List.mem_cons_of_mem _ hb')) (fun k h1 h2=>⟨hfree k (by omega) (by omega),by omega⟩)
         have him:G2.im=G.im:=m2.im.trans m1.im
         have hle:=m1.le.trans m2.le
         have hbox2:G2.box k=some (b0,c.ty):=hle.box _ _ hbox
         have hno:∀ j o',u3_ (u3_ σ (unj_ ps ss (mkL (ps.filter isBox) r' (n+(c.cnt+1))))) (mkC c x (n+1)).obs j=some o'→¬ Bk G2 j o' b0:=by
          intro j o' ho hb2
          rcases m2.own j o' b0 ho hb2 with h | ⟨j',o2,h3,h4⟩
          · exact hndc.1 h
          · exact (hfr b0 List.mem_cons_self).2 j' o2 h3 h4
         have hback:=m2.mem.back (wr:=true) (k:=k) (b:=b0) (t:=c.ty) (c:=(mkC c x (n+1)).sv) hbox2
          ⟨b0,cells,el,hbox2,q1,q2,f2,r2,⟨fun _ o=>by rw [him]; exact q4 o,fun h=>by cases h⟩,by rw [him]; exact q5,(hfr b0 List.mem_cons_self).1,hlay⟩ hno
         have eobs:unj_ (.box c::ps) (.ptr k [] u::ss) (mkL ((Sh.box c::ps).filter isBox) r n) =
          ([(k,some (.box c.ty (mkC c x (n+1)).sv true))]++(mkC c x (n+1)).obs)++unj_ ps ss (mkL (ps.filter isBox) r' (n+(c.cnt+1))):=by
          rw [h3]; rfl
         refine ⟨G2,hle,him,?_,?_⟩
         · rw [eobs,uu_,uu_]
           exact hback.shrink fun j hj=>⟨⟨hj.1,fun e=>hj.2 ⟨by omega,by omega⟩⟩,fun e=>hj.2 ⟨by omega,by omega⟩⟩
         · intro j o b' hj hb'
           rw [eobs,uu_,uu_,uba_] at hj
           by_cases e:j=k
           · rw [if_pos e] at hj; cases hj; subst e
             simp only [Bk,hbox2,Option.map_some,Option.some.injEq] at hb'
             subst hb'
             exact .inl (List.mem_append_left _ List.mem_cons_self)
           · rw [if_neg e] at hj
             rcases m2.own j o b' hj hb' with h | ⟨j',o',h3,h4⟩
             · exact .inl (List.mem_append_left _ (List.mem_cons_of_mem _ h))
             · rcases m1.own j' o' b' h3 h4 with h | h
               · exact .inl (List.mem_append_right _ h)
               · exact .inr h
       | io el t =>
         obtain ⟨hs,hba'⟩:=hba
         have hsplit:∃ (x:List t.T) (r':TupR (ps.filter isBox)) (b1 b2:List Nat),bs=b1++b2∧ShC P w G.im (.io el t) x [v] b1∧ShL P w G.im (ps.filter isBox) r' (ulq_ ps vals) b2 ∧
          mkL ((Sh.io el t::ps).filter isBox) r n=mkC (.io el t) x n::mkL (ps.filter isBox) r' (n+1):=by
          have h:ShL P w G.im ([Sh.io el t]++ps.filter isBox) r ([v]++ulq_ ps vals) bs:=h
          obtain ⟨b1,b2,e1,h1,h2⟩:=h.split rfl
          obtain ⟨v',e2,h3⟩:=h1
          have e2:v=v':=by injection e2
          subst e2
          exact ⟨_,_,b1,b2,e1,h3,h2,ubk1_ (a:=[Sh.io el t]) (b:=ps.filter isBox) (x:=r) (n:=n)⟩
         obtain ⟨x,r',b1,b2,rfl,h1,h2,h3⟩:=hsplit
         have hnd':=List.nodup_append.1 hnd
         have hcnt:cntL ((Sh.io el t::ps).filter isBox)=1+cntL (ps.filter isBox):=rfl
         rw [hcnt] at hfree ⊢
         obtain ⟨G1,m1⟩:=ih (n:=n+1) hm (by simpa using hls) (by simpa using hlv) hba' h2 hnd'.2.1 (fun b hb=>hbs b (List.mem_append_right _ hb)) (fun k h1 h2=>hfree k (by omega) (by omega))
         have hfr:∀ b'∈b1,fr.owned b'∧∀ j o,u3_ σ (unj_ ps ss (mkL (ps.filter isBox) r' (n+1))) j=some o→¬ Bk G1 j o b':=fun b' hb' =>
          ⟨(hbs b' (List.mem_append_left _ hb')).1,fun j o ho hb2=>by
            rcases m1.own j o b' ho hb2 with h | ⟨j',o',h3,h4⟩
            · exact hnd'.2.2 b' hb' b' h rfl
            · exact (hbs b' (List.mem_append_left _ hb')).2 j' o' h3 h4⟩
         rcases hs with ⟨k,rfl,hval,hety⟩ | ⟨rfl,rfl⟩
         · have hval1:=m1.le.val _ _ _ hval
           have hety1:=m1.le.ety _ _ hety
           have hsl:SlOK fr w G1.im el t x true v∧∀ b',Bk G1 k (.sl el t x 0 true) b'→b'∈b1:=by
            rw [m1.im]
            rcases h1 with ⟨e1,e2,rfl⟩ | ⟨b',cap,cells,e1,rfl,q1,q2,q3,q4,q5,q6,q7⟩
            · have e1:v=.slice none 0 0:=by injection e1
              subst e1
              exact ⟨.inl ⟨rfl,e2⟩,fun b' hb'=>by simp [Bk,hval1] at hb'⟩
            · have e1:v=.slice (some ⟨b',0,none⟩) x.length cap:=by injection e1
              subst e1
              refine ⟨.inr ⟨b',cap,cells,rfl,q1,q2,q3,q4,(hfr b' (by simp)).1,q5,q6,q7⟩,fun b2' hb'=>?_⟩
              simp only [Bk,hval1,Option.some.injEq] at hb'
              subst hb'; simp
           have hback:=m1.mem.backO (k:=k) (o:=.sl el t x 0 true) ⟨hety1,v,hval1,hsl.1⟩ (fun hf=>by
            have:=(hm.fresh k hf.1).2.1
            rw [hety] at this; cases this) (fun b' hb' j o' ho'=>(hfr b' (hsl.2 b' hb')).2 j o' ho')
           have eobs:unj_ (.io el t::ps) (.obj k 0::ss) (mkL ((Sh.io el t::ps).filter isBox) r n)=[(k,some (.sl el t x 0 true))]++unj_ ps ss (mkL (ps.filter isBox) r' (n+1)):=by
            rw [h3]; rfl
           refine ⟨G1,m1.le,m1.im,?_,?_⟩
           · rw [eobs,uu_]
             exact hback.shrink fun j hj=>⟨hj.1,fun e=>hj.2 ⟨by omega,by omega⟩⟩
           · intro j o b' hj hb'
             rw [eobs,uu_,uba_] at hj
             by_cases e:j=k
             · rw [if_pos e] at hj; cases hj; subst e
               exact .inl (List.mem_append_left _ (hsl.2 b' hb'))
             · rw [if_neg e] at hj
               rcases m1.own j o b' hj hb' with h | h
               · exact .inl (List.mem_append_right _ h)
               · exact .inr h
         · have eobs:unj_ (.io el t::ps) (.nilS::ss) (mkL ((Sh.io el t::ps).filter isBox) r n)=unj_ ps ss (mkL (ps.filter isBox) r' (n+1)):=by
            rw [h3]; rfl
           refine ⟨G1,m1.le,m1.im,?_,?_⟩
           · rw [eobs]
             exact m1.mem.shrink fun j hj=>⟨hj.1,fun e=>hj.2 ⟨by omega,by omega⟩⟩
           · intro j o b' hj hb'
             rw [eobs] at hj
             rcases m1.own j o b' hj hb' with h | h
             · exact .inl (List.mem_append_right _ h)
             · exact .inr h
       | bld el c0 =>
         cases c0 with
         | true=>exact ih hm (by simpa using hls) (by simpa using hlv) hba h hnd hbs hfree
         | false =>
         obtain ⟨⟨k,u,b,rfl,hbox,rfl⟩,hba'⟩:=hba
         have hsplit:∃ (x:List Int) (r':TupR (ps.filter isBox)) (b1 b2:List Nat),bs=b1++b2∧ShC P w G.im (.bld el false) x [.pointer (some ⟨b,0,none⟩)] b1∧ShL P w G.im (ps.filter isBox) r' (ulq_ ps vals) b2 ∧
          mkL ((Sh.bld el false::ps).filter isBox) r n=mkC (.bld el false) x n::mkL (ps.filter isBox) r' (n+2):=by
          have h:ShL P w G.im ([Sh.bld el false]++ps.filter isBox) r ([.pointer (some ⟨b,0,none⟩)]++ulq_ ps vals) bs:=h
          obtain ⟨b1,b2,e1,h1,h2⟩:=h.split rfl
          obtain ⟨v',e2,h3⟩:=h1
          have e2:Value.pointer (some ⟨b,0,none⟩)=v':=by injection e2
          subst e2
          refine ⟨_,_,b1,b2,e1,h3,h2,?_⟩
          exact ubk1_ (a:=[Sh.bld el false]) (b:=ps.filter isBox) (x:=r) (n:=n)
         obtain ⟨x,r',b1,b2,rfl,h1,h2,h3⟩:=hsplit
         have hnd':=List.nodup_append.1 hnd
         have hcnt:cntL ((Sh.bld el false::ps).filter isBox)=2+cntL (ps.filter isBox):=rfl
         rw [hcnt] at hfree ⊢
         obtain ⟨G1,m1⟩:=ih (n:=n+2) hm (by simpa using hls) (by simpa using hlv) hba' h2 hnd'.2.1 (fun b hb=>hbs b (List.mem_append_right _ hb)) (fun k h1 h2=>hfree k (by omega) (by omega))
         obtain ⟨b0,cells,el',p,q,bs',e1,rfl,q1,hlay,q2,hp,q4,q5,q6⟩:=h1
         have hb0:b0=b:=by
          injection e1 with e1 _
          injection e1 with e1
          injection e1 with e1
          injection e1 with e1 _ _
          exact e1.symm
         subst hb0
         have hndc:=List.nodup_cons.1 hnd'.1
         have hfr:∀ b'∈b0::bs',fr.owned b'∧∀ j o,u3_ σ (unj_ ps ss (mkL (ps.filter isBox) r' (n+2))) j=some o→¬ Bk G1 j o b':=fun b' hb' =>
          ⟨(hbs b' (List.mem_append_left _ hb')).1,fun j o ho hb2=>by
            rcases m1.own j o b' ho hb2 with h | ⟨j',o',h3,h4⟩
            · exact hnd'.2.2 b' hb' b' h rfl
            · exact (hbs b' (List.mem_append_left _ hb')).2 j' o' h3 h4⟩
         have hown:ShC P w G1.im (.own el (.int .u8) true) x [q] bs':=by
          rw [m1.im]
          rcases q6 with ⟨rfl,k1,k2⟩ | ⟨g,cap,gc,rfl,k1,k2,k3,k4,k5,k6,k7⟩
          · exact .inl ⟨rfl,k1,k2⟩
          · exact .inr ⟨g,cap,gc,rfl,k1,k2,k3,k4,k5,(fun _=>k6),(fun h=>by cases h),k7⟩
         obtain ⟨G2,m2,r2,f2⟩:=ubw6_ (n:=n+1) m1.mem hown (fun b' hb'=>hfr b' (List.mem_cons_of_mem _ hb')) (fun k h1 h2=>by
          have h2:k<n+1+1:=h2
          exact ⟨hfree k (by omega) (by omega),by omega⟩)
         have hcnt2:(Sh.own el (.int .u8) true).cnt=1:=rfl
         rw [hcnt2] at m2
         have him:G2.im=G.im:=m2.im.trans m1.im
         have hle:=m1.le.trans m2.le
         have hbox2:G2.box k=some (b0,bldTy):=hle.box _ _ hbox
         have hno:∀ j o',u3_ (u3_ σ (unj_ ps ss (mkL (ps.filter isBox) r' (n+2)))) (mkC (.own el (.int .u8) true) x (n+1)).obs j=some o'→¬ Bk G2 j o' b0:=by
          intro j o' ho hb2
          rcases m2.own j o' b0 ho hb2 with h | ⟨j',o2,h3,h4⟩
          · exact hndc.1 h
          · exact (hfr b0 List.mem_cons_self).2 j' o2 h3 h4
         have hsz:cells.size=2:=by rw [← Array.length_toList,q2]; rfl
         have hback:=m2.mem.back (wr:=true) (k:=k) (b:=b0) (t:=bldTy) (c:=.pr (.slf k) (.obj (n+1) 0)) hbox2
          ⟨b0,cells,el',hbox2,q1,hsz,⟨_,_,rfl,rfl,f2⟩,⟨[p],[q],q2,⟨b0,bldTy,hbox2,by rcases hp with rfl | rfl <;> simp⟩,r2⟩,⟨fun _ o=>by rw [him]; exact q4 o,fun h=>by cases h⟩,by rw [him]; exact q5,(hfr b0 List.mem_cons_self).1,fun _=>hlay⟩ hno
         have eobs:unj_ (.bld el false::ps) (.ptr k [] u::ss) (mkL ((Sh.bld el false::ps).filter isBox) r n) =
          ([(k,some (.box bldTy (.pr (.slf k) (.obj (n+1) 0)) true))]++(mkC (.own el (.int .u8) true) x (n+1)).obs)++unj_ ps ss (mkL (ps.filter isBox) r' (n+2)):=by
          rw [h3]; rfl
         refine ⟨G2,hle,him,?_,?_⟩
         · rw [eobs,uu_,uu_]
           exact hback.shrink fun j hj=>⟨⟨hj.1,fun e=>hj.2 ⟨by omega,by omega⟩⟩,fun e=>hj.2 ⟨by omega,by omega⟩⟩
         · intro j o b' hj hb'
           rw [eobs,uu_,uu_,uba_] at hj
           by_cases e:j=k
           · rw [if_pos e] at hj; cases hj; subst e
             simp only [Bk,hbox2,Option.map_some,Option.some.injEq] at hb'
             subst hb'
             exact .inl (List.mem_append_left _ List.mem_cons_self)
           · rw [if_neg e] at hj
             rcases m2.own j o b' hj hb' with h | ⟨j',o',h3,h4⟩
             · exact .inl (List.mem_append_left _ (List.mem_cons_of_mem _ h))
             · rcases m1.own j' o' b' h3 h4 with h | h
               · exact .inl (List.mem_append_right _ h)
               · exact .inr h
       | _=>exact ih hm (by simpa using hls) (by simpa using hlv) hba h hnd hbs hfree
end
end Go.Ev
namespace Go.Ev
variable [Pins]
theorem ubvx_:∀ (a b:List Sh),cntL (a++b)=cntL a+cntL b:=by
 intro a b
 induction a with
 | nil=>simp [cntL]
 | cons s a ih=>simp only [List.cons_append,cntL,ih]; omega
section
variable {P:Program} {fr:Fr} {free free':Nat→Prop} {self:Nat} {σ σ':Nat→Option Obj} {w w':World} {G G':Gh} {I:Im}
theorem BoxArgs.mono:∀ {l:List Sh} {ss:List SV} {vs:List Value},BoxArgs G l ss vs→(∀ k b,G.box k=some b→G'.box k=some b)→(∀ k g v,G.val k g=some v→G'.val k g=some v)→(∀ k t,G.ety k=some t→G'.ety k=some t)→BoxArgs G' l ss vs:=by
 intro l
 induction l with
 | nil=>intro ss vs _ _ _ _; cases ss <;> exact trivial
 | cons a l ih =>
   intro ss vs h hb hv he
   cases ss with
   | nil=>cases a <;> first | exact trivial | (rename_i el0 c0; cases c0 <;> exact trivial)
   | cons s ss =>
     cases vs with
     | nil=>cases a <;> first | exact trivial | (rename_i el0 c0; cases c0 <;> exact trivial)
     | cons v vs =>
       cases a with
       | box c =>
         obtain ⟨⟨k,u,b,h1,h2,h3⟩,h4⟩:=h
         exact ⟨⟨k,u,b,h1,hb _ _ h2,h3⟩,ih h4 hb hv he⟩
       | io el t =>
         obtain ⟨h1,h2⟩:=h
         refine ⟨h1.imp (fun ⟨k,e1,e2,e3⟩=>⟨k,e1,hv _ _ _ e2,he _ _ e3⟩) id,ih h2 hb hv he⟩
       | bld el c =>
         cases c with
         | true=>exact ih h hb hv he
         | false =>
           obtain ⟨⟨k,u,b,h1,h2,h3⟩,h4⟩:=h
           exact ⟨⟨k,u,b,h1,hb _ _ h2,h3⟩,ih h4 hb hv he⟩
       | _=>exact ih h hb hv he
theorem ub5x_ (hm:MemS P fr free σ w G) {fs:Nat→Option FSpec}:∀ {l:List Sh} {svs:List SV} {x:TupR l} {vs:List Value},ubyb_ fs σ l svs=some x →
 (∀ (j:Nat) (s:SV) (v:Value),svs[j]? = some s→vs[j]? = some v→SR P w G s v)→BoxArgs G l svs vs:=by
 intro l
 induction l with
 | nil=>intro svs x vs _ _; cases svs <;> exact trivial
 | cons a l ih =>
   intro svs x vs h hs
   cases svs with
   | nil=>cases a <;> first | exact trivial | (rename_i el0 c0; cases c0 <;> exact trivial)
   | cons s svs =>
     cases vs with
     | nil=>cases a <;> first | exact trivial | (rename_i el0 c0; cases c0 <;> exact trivial)
     | cons v vs =>
       have h0:=hs 0 s v rfl rfl
       have hrest:BoxArgs G l svs vs:=by
        cases l with
        | nil=>cases svs <;> exact trivial
        | cons b l =>
          rw [ubgd_] at h
          split at h
          · rename_i x1 x2 h1 h2
            exact ih h2 (fun j s v h1 h2=>hs (j+1) s v (by simpa using h1) (by simpa using h2))
          · cases h
       have hfirst:∃ y,ub3b_ fs σ a s=some y:=by
        cases l with
        | nil =>
          cases svs with
          | nil=>exact ⟨x,h⟩
          | cons _ _=>cases h
        | cons b l =>
          rw [ubgd_] at h
          split at h
          · rename_i x1 x2 h1 h2
            exact ⟨x1,h1⟩
          · cases h
       cases a with
       | box c =>
         refine ⟨?_,hrest⟩
         obtain ⟨y,hy⟩:=hfirst
         have hy:ubnq_ σ c s=some y:=hy
         unfold ubnq_ at hy
         split at hy
         · rename_i k u
           split at hy
           · rename_i t cv hk
             cases hts:t.same c.ty with
             | false=>rw [hts] at hy; cases hy
             | true =>
               have et:=Ty.same_eq hts
               subst et
               obtain ⟨b,cells,el,k1,k2,_⟩:=hm.objs _ _ hk
               obtain ⟨cc,hc,b',t',o,j1,j2,_,j4⟩:=h0
               rw [k1] at j1
               cases j1
               have ho:o=0:=by
                have:Ty.off c.ty []=some o:=j2
                cases hc:c.ty <;> rw [hc] at this <;> exact (Option.some.inj this).symm
               subst ho
               have hv:[v]=[Value.pointer (some ⟨b,0,none⟩)]:=(show cc=[v] from hc).symm.trans j4
               exact ⟨_,_,b,rfl,k1,List.singleton_inj.1 hv⟩
           · cases hy
         · cases hy
       | io el t =>
         refine ⟨?_,hrest⟩
         obtain ⟨y,hy⟩:=hfirst
         replace hy:usn_ σ el t true s=some y:=hy
         unfold usn_ at hy
         split at hy
         · rename_i k g
           split at hy
           · rename_i id' t' xs g' w1 hk
             cases hb:(Nat.beq g 0&&Nat.beq g g'&&(Nat.beq el id'&&(bif true then w1 else !w1))) with
             | false=>rw [hb] at hy; cases hy
             | true =>
               rw [hb] at hy
               have hy:Ty.cast? (.slice t') (.slice t) xs=some y:=hy
               simp only [Bool.and_eq_true] at hb
               have e0:=Nat.eq_of_beq_eq_true hb.1.1
               have e1:=Nat.eq_of_beq_eq_true hb.1.2
               subst e0 e1
               obtain ⟨et,_⟩:=Ty.cast?_some hy
               have et':t'=t:=by injection et
               subst et'
               obtain ⟨k1,v',k2,_⟩:=hm.objs _ _ hk
               have hv:=ubkt_ h0
               exact .inl ⟨k,rfl,hv,k1⟩
           · cases hy
         · obtain ⟨cc,hc,h1⟩:=h0
           have h1:cc=[.slice none 0 0]:=h1
           have hv:v=.slice none 0 0:=List.singleton_inj.1 ((show cc=[v] from hc).symm.trans h1)
           exact .inr ⟨rfl,hv⟩
         · cases hy
       | bld el c =>
         cases c with
         | true=>exact hrest
         | false =>
         refine ⟨?_,hrest⟩
         obtain ⟨y,hy⟩:=hfirst
         replace hy:ubnp_ σ el s=some y:=hy
         unfold ubnp_ at hy
         split at hy
         · rename_i k u
           split at hy
           · rename_i t cv hk
             cases hts:t.same bldTy with
             | false=>rw [hts] at hy; cases hy
             | true =>
               have et:=Ty.same_eq hts
               subst et
               obtain ⟨b,cells,el,k1,k2,_⟩:=hm.objs _ _ hk
               obtain ⟨cc,hc,b',t',o,j1,j2,_,j4⟩:=h0
               rw [k1] at j1
               cases j1
               have ho:o=0:=(Option.some.inj j2).symm
               subst ho
               have hv:[v]=[Value.pointer (some ⟨b,0,none⟩)]:=(show cc=[v] from hc).symm.trans j4
               exact ⟨_,_,b,rfl,k1,List.singleton_inj.1 hv⟩
           · cases hy
         · cases hy
       | _=>exact hrest
theorem ub8n_ {m:Mk} {vs:List Value} {rv:Value} (h:retIs vs rv) (hl:vs.length=1) (hs:∀ (j:Nat) (m':Mk) (v:Value),[m][j]? = some m'→vs[j]? = some v→SR P w G m'.sv v):SR P w G m.sv rv:=by
 cases vs with
 | nil=>cases hl
 | cons v vs =>
   have:vs=[]:=List.eq_nil_of_length_eq_zero (by simpa using hl)
   subst this
   have h:rv=v:=h
   rw [h]
   exact hs 0 m v rfl rfl
theorem uby5_ {ms:List Mk} {vs:List Value} {rv:Value} (h:retIs vs rv) (hl:vs.length=ms.length) (hn:ms.length≠1) (hs:∀ (j:Nat) (m':Mk) (v:Value),ms[j]? = some m'→vs[j]? = some v→SR P w G m'.sv v) :
 SR P w G (.tup (SV.ofList (ms.map (·.sv)))) rv:=by
 have hrv:rv=.tuple vs.toArray:=by
  cases vs with
  | nil=>exact h
  | cons v vs =>
    cases vs with
    | nil=>exact absurd hl.symm hn
    | cons _ _=>exact h
 rw [hrv]
 refine ⟨_,rfl,vs.toArray,rfl,?_⟩
 refine ub5r_ (by simp [hl]) fun j s v h1 h2=>?_
 rw [List.getElem?_map] at h1
 cases hm:ms[j]? with
 | none=>rw [hm] at h1; cases h1
 | some m =>
   rw [hm] at h1
   cases h1
   exact hs j m v hm h2
def resOf (ms:List Mk):SV:=match ms with
 | [m]=>m.sv
 | _=>.tup (SV.ofList (ms.map (·.sv)))
theorem ub5y_ {ms:List Mk} {vs:List Value} {rv:Value} (h:retIs vs rv) (hl:vs.length=ms.length) (hs:∀ (j:Nat) (m':Mk) (v:Value),ms[j]? = some m'→vs[j]? = some v→SR P w G m'.sv v):SR P w G (resOf ms) rv:=by
 cases ms with
 | nil=>exact uby5_ h hl (by simp) hs
 | cons m ms =>
   cases ms with
   | nil=>exact ub8n_ h hl hs
   | cons m2 ms=>exact uby5_ h hl (by simp) hs
def imRO (σ:Nat→Option Obj) (G:Gh):Im :=
 ⟨fun b o=>G.im.cell b o∨(∃ k t c,σ k=some (.box t c true)∧G.box k=some (b,t)∧o<t.sz)∨∃ k id t xs g,σ k=some (.sl id t xs g true)∧Bk G k (.sl id t xs g true) b∧o<xs.length*t.sz,
  fun b=>G.im.obj b∨∃ k a c es,σ k=some (.mp a c es true)∧Bk G k (.mp a c es true) b⟩
theorem uqy_ (w:World):Ext w G.im w (imRO σ G):=⟨fun _ _ h=>⟨.inl h,rfl⟩,fun _ h=>⟨.inl h,rfl⟩⟩
theorem ub2s_ {b o:Nat} (h:(imRO σ G).cell b o):G.im.cell b o∨∃ k ob,σ k=some ob∧Bk G k ob b:=by
 rcases h with h | ⟨k,t,c,h1,h2,_⟩ | ⟨k,id,t,xs,g,h1,h2,_⟩
 · exact .inl h
 · exact .inr ⟨k,_,h1,by simp [Bk,h2]⟩
 · exact .inr ⟨k,_,h1,h2⟩
theorem ub5z_ {b:Nat} (h:(imRO σ G).obj b):G.im.obj b∨∃ k ob,σ k=some ob∧Bk G k ob b:=by
 rcases h with h | ⟨k,a,c,es,h1,h2⟩
 · exact .inl h
 · exact .inr ⟨k,_,h1,h2⟩
theorem ub50_ (hm:MemS P fr free σ w G):Mem w (imRO σ G):=by
 refine ⟨fun b o h=>?_,fun b h=>?_,hm.after.pins.ext (uqy_ w)⟩
 · rcases ub2s_ h with h | ⟨k,ob,h1,h2⟩
   · exact hm.after.mem.1 b o h
   · exact ubkw_ (hm.objs _ _ h1) h2
 · rcases ub5z_ h with h | ⟨k,ob,h1,h2⟩
   · exact hm.after.mem.2.1 b h
   · exact ubkw_ (hm.objs _ _ h1) h2
theorem ub51_ (hm:MemS P fr free σ w G) {k g:Nat} {t:Ty} {x:t.T} {v:Value} (h:viewR σ k g t=some x) (hv:G.val k g=some v):Rel w (imRO σ G) t x [v]:=by
 unfold viewR at h
 split at h
 · rename_i id e xs g' wr hk
   split at h
   · rename_i hg
     have hgg:=Nat.eq_of_beq_eq_true hg
     subst hgg
     obtain ⟨_,v',h1,h2⟩:=hm.objs _ _ hk
     rw [hv] at h1
     cases h1
     cases wr with
     | false=>exact Rel.cast h ((ub3f_ h2).ext (uqy_ w))
     | true =>
       refine Rel.cast h ?_
       rcases h2 with ⟨rfl,rfl⟩ | ⟨b,cap,cs,rfl,q1,q2,q3,q4,q5,q6,q7,q8⟩
       · exact ⟨none,0,rfl,⟨Nat.le_refl _,Nat.zero_le _⟩,fun _=>⟨rfl,rfl⟩,fun ad h=>by cases h⟩
       · refine ⟨some ⟨b,0,none⟩,cap,rfl,q1,(fun h=>by cases h),fun ad had=>?_⟩
         cases had
         refine ⟨fun _=>rfl,fun i y hy=>⟨_,⟨?_,fun j hj=>?_⟩,(q4 i y hy).ext (uqy_ w)⟩⟩
         · exact (q4 i y hy).length
         · have hi:i<xs.length:=(List.getElem?_eq_some_iff.1 hy).1
           have hb:i*e.sz+j<xs.length*e.sz:=by
            have:(i+1)*e.sz≤xs.length*e.sz:=Nat.mul_le_mul_right _ hi
            rw [Nat.succ_mul] at this; omega
           refine ⟨.inr (.inr ⟨k,id,e,xs,g,hk,by simp [Bk,hv],by simpa using hb⟩),?_⟩
           rw [List.getElem?_take,if_pos hj,List.getElem?_drop,← q2.cell]
           simp only [Nat.zero_add]
   · cases h
 · rename_i a b es wr hk
   split at h
   · rename_i hg
     have hgg:=Nat.eq_of_beq_eq_true hg
     subst hgg
     obtain ⟨v',h1,b',ents,clock,rfl,q1,q2,q3,q4,_⟩:=hm.objs _ _ hk
     rw [hv] at h1
     cases h1
     refine Rel.cast h ⟨some b',rfl,(fun h=>by cases h),fun b2 hb2=>?_⟩
     cases hb2
     refine ⟨?_,ents,clock,q1,q2,fun i x e hx he=>⟨(q3 i x e hx he).1.ext (uqy_ w),(q3 i x e hx he).2.ext (uqy_ w)⟩⟩
     cases wr with
     | false=>exact .inl (q4.2 rfl)
     | true=>exact .inr ⟨k,a,b,es,hk,by simp [Bk,hv]⟩
   · cases h
 · rename_i id r e x' gk hh wr hk
   split at h
   · rename_i hg
     simp only [Bool.and_eq_true,Bool.not_eq_true'] at hg
     have hgg:=Nat.eq_of_beq_eq_true hg.1
     subst hgg
     have hw:wr=false:=hg.2
     subst hw
     obtain ⟨v',h1,h2⟩:=hm.objs _ _ hk
     rw [hv] at h1
     cases h1
     exact Rel.cast h (Rel.ext (uqy_ w) h2)
   · cases h
 · cases h
theorem ucda_ (hm:MemS P fr free σ w G) {t:Ty} {s:SV} {x:t.T} {cs:List Value} (h:s.asLR σ t=some x) (hr:CR P w G s cs):Rel w (imRO σ G) t x cs:=by
 unfold SV.asLR at h
 split at h
 · obtain ⟨v,h1,_,rfl⟩:=hr
   exact ub51_ hm h h1
 · exact (ub45_ (fun k o h=>hm.objs k o h) h hr).ext (uqy_ w)
theorem ub98_ (hm:MemS P fr free σ w G):∀ {t:Ty} {s:SV} {x:t.T} {cs:List Value},s.asCR σ t=some x→CR P w G s cs→Rel w (imRO σ G) t x cs:=by
 intro t
 induction t with
 | prod a b iha ihb =>
   intro s x cs h hr
   simp only [SV.asCR] at h
   split at h
   · split at h
     · rename_i u v h1 h2
       cases h
       obtain ⟨c,d,rfl,r1,r2⟩:=hr
       exact ⟨c,d,rfl,iha h1 r1,ihb h2 r2⟩
     · cases h
   · exact (ub45_ (fun k o h=>hm.objs k o h) h hr).ext (uqy_ w)
 | agg p ih =>
   intro s x cs h hr
   cases s with
   | val u y=>exact Rel.ext (uqy_ w) (show Rel w G.im p x cs from u0y_ (p:=p) h hr)
   | _=>exact ih h hr
 | _=>intro s x cs h hr; exact ucda_ hm h hr
theorem ub04_ (hm:MemS P fr free σ w G) {t:Ty} {s:SV} {x:t.T} {v:Value} (h:roArg σ t s=some x) (hr:SR P w G s v):VRel w (imRO σ G) t x v:=by
 unfold roArg at h
 split at h
 · rename_i e k u
   split at h
   · rename_i t' c hk
     cases hs:t'.same e.bare with
     | false=>rw [hs] at h; cases h
     | true =>
       rw [hs] at h
       simp only [cond_true] at h
       have et:=Ty.same_eq hs
       cases hc:c.asCR σ e with
       | none=>rw [hc] at h; cases h
       | some y =>
         rw [hc] at h
         cases h
         obtain ⟨b,cells,el,k1,k2,k3,k4,k5,_⟩:=hm.objs _ _ hk
         obtain ⟨cc,hcc,b',t2,o,j1,j2,_,j4⟩:=hr
         rw [k1] at j1
         cases j1
         have ho:o=0:=by
          have:Ty.off t' []=some o:=j2
          cases hc:t' <;> rw [hc] at this <;> exact (Option.some.inj this).symm
         subst ho
         have hsz:t'.sz=e.sz:=by rw [et,Ty.sz_bare]
         refine ⟨cc,hcc,⟨b,0,none⟩,j4,rfl,cells.toList,⟨by rw [Array.length_toList,k3,hsz],fun j hj=>?_⟩,ub98_ hm hc k5⟩
         refine ⟨.inr (.inl ⟨k,t',c,hk,k1,by rw [hsz]; simpa using hj⟩),?_⟩
         show World.cell? w ⟨b,0+j,none⟩=_
         simp [World.cell?,k2]
   · cases h
 · rename_i k g
   obtain ⟨c,hc,v2,k3,k4,k5⟩:=hr
   have:[v]=[v2]:=(show c=[v] from hc).symm.trans k5
   have hv:=List.singleton_inj.1 this
   subst hv
   have hrel:=ub51_ hm h k3
   refine ⟨[v],?_,hrel⟩
   unfold viewR at h
   split at h
   · split at h
     · exact usp_ h
     · cases h
   · split at h
     · exact ubks_ h
     · cases h
   · rename_i id r e x' gk hh wr hk
     split at h
     · exact usp_ (t:=deep r e) h
     · cases h
   · cases h
 · rename_i u c
   cases hb:u.same t with
   | false=>rw [hb] at h; cases h
   | true =>
     rw [hb] at h
     have h:c.asCR σ t=some x:=h
     have:=Ty.same_eq hb
     subst this
     obtain ⟨cc,hcc,cs',h1,⟨a,b,rfl,h2⟩,h3,h4⟩:=hr
     have hv:v=.agg cs'.toArray:=List.singleton_inj.1 ((show cc=[v] from hcc).symm.trans h1)
     subst hv
     exact ⟨cs',rfl,ub98_ hm h h4⟩
 · obtain ⟨c,h1,h2⟩:=ubgh_ (fun k o h=>hm.objs k o h) h hr
   exact ⟨c,h1,h2.ext (uqy_ w)⟩
theorem ucdb_ (hm:MemS P fr free σ w G) {s:Sh} {sv:SV} {x:s.T} {v:Value} (h:roS σ s sv=some x) (hr:SR P w G sv v):ShV P w (imRO σ G) s x v []:=by
 cases s with
 | val t=>exact ⟨ub04_ hm h hr,rfl⟩
 | _=>cases h
theorem ucbh_ {a b:Sh} {r:List Sh} {v:SV} {vs:List SV}:roL σ (a::b::r) (v::vs)=(match roS σ a v,roL σ (b::r) vs with
 | some x,some y=>some (x,y)
 | _,_=>none):=rfl
theorem uceo_ (hm:MemS P fr free σ w G):∀ {l:List Sh} {svs:List SV} {x:TupR l} {vs:List Value},roL σ l svs=some x→svs.length=vs.length →
 (∀ (j:Nat) (s:SV) (v:Value),svs[j]? = some s→vs[j]? = some v→SR P w G s v)→ShL P w (imRO σ G) l x vs []:=by
 intro l
 induction l with
 | nil =>
   intro svs x vs h hl hs
   cases svs with
   | nil=>exact ⟨List.eq_nil_of_length_eq_zero hl.symm,rfl⟩
   | cons _ _=>cases h
 | cons a l ih =>
   intro svs x vs h hl hs
   cases svs with
   | nil=>cases l <;> cases h
   | cons s svs =>
     cases vs with
     | nil=>cases hl
     | cons v vs =>
       have h0:=hs 0 s v rfl rfl
       cases l with
       | nil =>
         cases svs with
         | nil =>
           have:vs=[]:=List.eq_nil_of_length_eq_zero (by simpa using hl.symm)
           subst this
           exact ⟨v,rfl,ucdb_ hm h h0⟩
         | cons _ _=>cases h
       | cons b l =>
         rw [ucbh_] at h
         split at h
         · rename_i x1 x2 h1 h2
           cases h
           exact ⟨v,vs,[],[],rfl,rfl,ucdb_ hm h1 h0,ih h2 (by simpa using hl) fun j s v h3 h4=>hs (j+1) s v (by simpa using h3) (by simpa using h4)⟩
         · cases h
theorem ub52_ {I:Im} {t:Ty} {x:t.T} {v:Value} (hf:t.lit=true) (h:VRel w' I t x v):SR P w' G (.val t x) v:=by
 obtain ⟨c,h1,h2⟩:=h
 refine ⟨c,h1,?_⟩
 cases t with
 | bool=>exact h2
 | int k=>exact h2
 | str=>exact h2
 | _=>cases hf
theorem ucdc_ {I:Im}:∀ {l:List Sh} {x:TupR l} {vs:List Value} {bs:List Nat} {n:Nat},ubyf_ l=true→ShL P w' I l x vs bs →
 (mkL l x n).length=l.length∧∀ (j:Nat) (m:Mk) (v:Value),(mkL l x n)[j]? = some m→vs[j]? = some v→SR P w' G m.sv v:=by
 intro l
 induction l with
 | nil=>intro x vs bs n _ _; exact ⟨rfl,fun j m v h=>by cases h⟩
 | cons a l ih =>
   intro x vs bs n hf h
   cases a with
   | val t =>
     simp only [ubyf_,Bool.and_eq_true] at hf
     cases l with
     | nil =>
       obtain ⟨v,rfl,h1,_⟩:=h
       refine ⟨rfl,fun j m v' hj hv=>?_⟩
       cases j with
       | zero=>cases hj; cases hv; exact ub52_ hf.1 h1
       | succ j=>cases hj
     | cons b l =>
       obtain ⟨v,vs',b1,b2,rfl,_,⟨h1,_⟩,h2⟩:=h
       obtain ⟨i1,i2⟩:=ih (n:=(mkC (.val t) x.1 n).nx) hf.2 h2
       refine ⟨by simp only [mkL,List.length_cons,i1],fun j m v' hj hv=>?_⟩
       cases j with
       | zero=>cases hj; cases hv; exact ub52_ hf.1 h1
       | succ j=>exact i2 j m v' (by simpa [mkL] using hj) (by simpa using hv)
   | _=>cases hf
theorem After.flat {I1 I2:Im} (ha:After (·∈([]:List Nat)) w I1 w' I2) (he:Ext w I w I1) (hm:Mem w I):After (·∈([]:List Nat)) w I w' I :=
 have hx:Ext w I w' I:=⟨fun b o h=>⟨h,(ha.ext.cell b o (he.cell b o h).1).2⟩,fun b h=>⟨h,(ha.ext.obj b (he.obj b h).1).2⟩⟩
 ⟨hx,ha.heap,ha.size,fun _ _ h=>.inl h,fun _ h=>.inl h,
  fun b o h=>Nat.lt_of_lt_of_le (hm.1 b o h) ha.size,fun b h=>Nat.lt_of_lt_of_le (hm.2.1 b h) ha.size,ha.os,ha.tape,ha.output,
  hm.2.2.ext hx⟩
def ub8o_ (I I1 I2:Im):Im:=⟨fun b o=>I.cell b o∨(I2.cell b o∧¬ I1.cell b o),fun b=>I.obj b∨(I2.obj b∧¬ I1.obj b)⟩
theorem After.lend {bs:List Nat} {I1 I2:Im} (ha:After (·∈bs) w I1 w' I2) (he:Ext w I w I1) (hm:Mem w I):After (·∈bs) w I w' (ub8o_ I I1 I2) :=
 have hx:Ext w I w' (ub8o_ I I1 I2):=⟨fun b o h=>⟨.inl h,(ha.ext.cell b o (he.cell b o h).1).2⟩,fun b h=>⟨.inl h,(ha.ext.obj b (he.obj b h).1).2⟩⟩
 ⟨hx,ha.heap,ha.size,fun b o h=>h.imp id fun ⟨h1,h2⟩=>(ha.newC b o h1).resolve_left h2,fun b h=>h.imp id fun ⟨h1,h2⟩=>(ha.newO b h1).resolve_left h2,
  fun b o h=>h.elim (fun h=>Nat.lt_of_lt_of_le (hm.1 b o h) ha.size) fun h=>ha.inC b o h.1,fun b h=>h.elim (fun h=>Nat.lt_of_lt_of_le (hm.2.1 b h) ha.size) fun h=>ha.inO b h.1,ha.os,ha.tape,ha.output,
  hm.2.2.ext hx⟩
theorem ub99_ {I I':Im} {t:Ty} {x:t.T} {cs:List Value} (hf:t.lit=true) (h:Rel w' I t x cs):Rel w' I' t x cs:=by
 cases t with
 | bool=>exact h
 | int k=>exact h
 | str=>exact h
 | _=>cases hf
theorem ub8p_ {bs0:List Nat} {I I1 I2:Im} (ha:After (·∈bs0) w I1 w' I2) (he:Ext w I w I1):∀ {l:List Sh} {x:TupR l} {vs:List Value} {bs:List Nat},ubr6_ l=true→ShL P w' I2 l x vs bs→ShL P w' (ub8o_ I I1 I2) l x vs bs:=by
 have one:∀ {a:Sh} {x:a.T} {v:Value} {bs:List Nat},ubr6_ [a]=true→ShV P w' I2 a x v bs→ShV P w' (ub8o_ I I1 I2) a x v bs:=by
  intro a x v bs hf h
  cases a with
  | val t =>
    simp only [ubr6_,Bool.and_true] at hf
    obtain ⟨⟨c,h1,h2⟩,h3⟩:=h
    exact ⟨⟨c,h1,ub99_ hf h2⟩,h3⟩
  | own el t wr =>
    simp only [ubr6_,Bool.and_true,Bool.and_eq_true] at hf
    obtain ⟨rfl,hf⟩:=hf
    rcases h with h | ⟨b,cap,cells,h1,h2,h3,h4,h5,h6,h7,h8,h9⟩
    · exact .inl h
    · refine .inr ⟨b,cap,cells,h1,h2,h3,h4,h5,fun i y hy=>ub99_ hf (h6 i y hy),fun _ o ho=>?_,(fun h=>by cases h),fun ho=>?_⟩
      · rcases ho with ho | ho
        · exact h7 rfl o (ha.ext.cell _ _ (he.cell _ _ ho).1).1
        · exact h7 rfl o ho.1
      · rcases ho with ho | ho
        · exact h9 (ha.ext.obj _ (he.obj _ ho).1).1
        · exact h9 ho.1
  | _=>cases hf
 intro l
 induction l with
 | nil=>intro x vs bs _ h; exact h
 | cons a l ih =>
   intro x vs bs hf h
   have h1:ubr6_ [a]=true∧ubr6_ l=true:=by
    cases a <;> simp only [ubr6_,Bool.and_eq_true,Bool.and_true] at hf ⊢ <;> first | exact hf | exact ⟨⟨hf.1,hf.2.1⟩,hf.2.2⟩ | cases hf
   cases l with
   | nil =>
     obtain ⟨v,h2,h3⟩:=h
     exact ⟨v,h2,one h1.1 h3⟩
   | cons b l =>
     obtain ⟨v,vs',b1,b2,h2,h3,h4,h5⟩:=h
     exact ⟨v,vs',b1,b2,h2,h3,one h1.1 h4,ih h1.2 h5⟩
theorem uby6_ (hm:MemS P fr free σ w G) {t:Ty} {s:SV} {x:t.T} {v:Value} (h:ubyg_ σ t s=some x) (hr:SR P w G s v):VRel w (imRO σ G) t x v:=by
 unfold ubyg_ at h
 split at h
 · rename_i y hy
   cases h
   exact ub04_ hm hy hr
 · exact (ubrs_ (fun k o h=>hm.objs k o h) h hr).ext (uqy_ w)
theorem ub3r_ (hm:MemS P fr free σ w G):∀ {l:List Sh} {ss:List SV} {x:TupR l} {vs:List Value},ubwp_ σ l ss=some x→ss.length=vs.length →
 (∀ (j:Nat) (s:SV) (v:Value),ss[j]? = some s→vs[j]? = some v→SR P w G s v)→∀ w' I',Ext w (imRO σ G) w' I'→ShL P w' I' l x vs []:=by
 intro l
 induction l with
 | nil =>
   intro ss x vs h hl _ w' I' _
   cases ss with
   | nil=>exact ⟨List.eq_nil_of_length_eq_zero hl.symm,rfl⟩
   | cons _ _=>cases h
 | cons a l ih =>
   intro ss x vs h hl hs w' I' he
   cases ss with
   | nil=>cases a <;> cases h
   | cons s ss =>
     cases vs with
     | nil=>cases hl
     | cons v vs =>
       cases a <;> first | (cases h; done) | skip
       rename_i t
       simp only [ubwp_] at h
       split at h
       · rename_i y z h1 h2
         have h:=Option.some.inj h
         subst h
         refine ubnw_ ⟨(uby6_ hm h1 (hs 0 s v rfl rfl)).ext he,rfl⟩ (ih h2 (by simpa using hl) (fun j s v h3 h4=>hs (j+1) s v (by simpa using h3) (by simpa using h4)) w' I' he)
       · cases h
theorem ucbi_ (hm:MemS P fr free σ w G) {cs:List SV} {vs:List Value} (hl:cs.length=vs.length) (hs:∀ (j:Nat) (s:SV) (v:Value),cs[j]? = some s→vs[j]? = some v→SR P w G s v)
 {w':World} {I':Im} (he:Ext w (imRO σ G) w' I'):∀ {n:Nat} {ps:List Sh} {d:Ty} {x:d.T} {v:TupR ps} {l:List Value},lendT σ cs n ps d x=some v→ArgsV w' I' d x l→ShL P w' I' ps v (l++vs) []:=by
 intro n
 induction n with
 | zero =>
   intro ps d x v l h hx
   cases ps with
   | nil=>cases h
   | cons a ps =>
     cases a <;> first | (cases h; done) | skip
     rename_i t
     simp only [lendT] at h
     cases hp:ubno_ d with
     | true=>rw [hp] at h; cases h
     | false =>
       rw [hp] at h
       simp only [cond_false] at h
       split at h
       · rename_i y z h1 h2
         have h:=Option.some.inj h
         subst h
         obtain ⟨u,rfl,hu⟩:=hx.one (fun a b e=>by subst e; cases hp)
         exact ubnw_ ⟨VRel.cast h1 hu,rfl⟩ (ub3r_ hm h2 hl hs w' I' he)
       · cases h
 | succ n ih =>
   intro ps d x v l h hx
   cases ps with
   | nil=>cases h
   | cons a ps =>
     cases a <;> first | (cases h; done) | skip
     rename_i t
     cases d <;> first | (cases h; done) | skip
     rename_i p q
     simp only [lendT] at h
     split at h
     · rename_i y z h1 h2
       have h:=Option.some.inj h
       subst h
       obtain ⟨u,r,rfl,k1,k2⟩:=hx
       exact ubnw_ ⟨VRel.cast h1 k1,rfl⟩ (ih h2 k2)
     · cases h
theorem ub53_ (hm:MemS P fr free σ w G) {fs:Nat→Option FSpec} (hE:∀ f sp,fs f=some sp→ugs_ P f∧FunOK P f sp) {d c:Ty} {v:SV} {F:d.T→Option c.T} {cs:List Value} (h:ub2d_ fs σ d c v=some F) (hr:CR P w G v cs) :
 ∃ f vs,cs=[.func (.func f) #[] vs]∧HofD P (false=true) w (imRO σ G) d c F f vs:=by
 unfold ub2d_ at h
 split at h
 · rename_i f caps
   split at h
   · rename_i sp hf
     cases hav:(ubwh_ caps&&ub3a_ sp.ps) with
     | false=>rw [hav] at h; cases h
     | true =>
       rw [hav] at h
       have h:=Option.some.inj h
       subst h
       simp only [Bool.and_eq_true] at hav
       obtain ⟨vs,h1,h2⟩:=hr
       obtain ⟨he,hfun⟩:=hE _ _ hf
       have hlen:=ub2q_ h2 hav.1
       refine ⟨f,vs,h1,he,fun w' I' hext hm' x l hx y hy=>?_⟩
       obtain ⟨v,hv,hy⟩:=Option.bind_eq_some_iff.1 hy
       obtain ⟨r,hr,hy⟩:=Option.bind_eq_some_iff.1 hy
       obtain ⟨a1,a2⟩:=uby3_ hav.2
       have hc:=hfun w' I' v (l++vs.toList) [] hm' (ucbi_ hm hlen (uby4_ h2 (by omega)) hext hv hx) List.nodup_nil r hr
       rw [show (l++vs.toList).toArray=(l.toArray++vs:Array Value) by apply Array.ext'; simp] at hc
       refine Calls.mono hc fun e w'' hq=>?_
       obtain ⟨rv,vs',I',bs',q1,q2,q3,q4,q5,_,_,qd⟩:=hq
       rw [a2,List.append_nil] at q5
       exact ⟨rv,I',q1,q4.mono (fun b hb=>by cases hb),ub5v_ hy q5 q3,fun hd=>by cases hd⟩
   · cases h
 · cases h
theorem ub54_ (hm:MemS P fr free σ w G) {σ0:Nat→Option Obj} (hσ0:∀ k o,σ0 k=some o→σ k=some o) {fs:Nat→Option FSpec} (hE:∀ f sp,fs f=some sp→ugs_ P f∧FunOK P f sp) {s:Sh} {sv:SV} {x:s.T} {v:Value} (h:lendS fs σ0 σ s sv=some x) (hr:SR P w G sv v)
 (hks:∀ k∈keysS σ s sv,σ0 k=none):∃ bs,ShV P w (imRO σ0 G) s x v bs∧bs.Nodup∧BlksOf σ G (keysS σ s sv) bs:=by
 have hnil:BlksOf σ G (keysS σ s sv) []:=fun b hb=>by cases hb
 have hm0:=hm.sub hσ0
 cases s with
 | val t=>exact ⟨[],⟨ub04_ hm0 h hr,rfl⟩,List.nodup_nil,hnil⟩
 | own el t wr =>
   have h:usn_ σ el t wr sv=some x:=h
   have hcr:CR P w G sv [v]:=hr.cell fun t y e=>by
    subst e
    cases h
   obtain ⟨bs,h1,h2,h3⟩:=u0z_ hm h hcr
   refine ⟨bs,?_,h2,h3⟩
   have hbad:∀ b∈bs,∀ k ob,σ0 k=some ob→¬ Bk G k ob b:=by
    intro b hb k ob hk hbk
    obtain ⟨k',hk',o',ho',hbo⟩:=h3 b hb
    have:=hm.sep k' k o' ob b ho' (hσ0 _ _ hk) hbo hbk
    subst this
    rw [hks k' hk'] at hk
    cases hk
   have hno:∀ b∈bs,∀ o,(imRO σ0 G).cell b o→G.im.cell b o:=by
    intro b hb o ho
    rcases ub2s_ ho with ho | ⟨k,ob,k1,k2⟩
    · exact ho
    · exact absurd k2 (hbad b hb k ob k1)
   have hnO:∀ b∈bs,(imRO σ0 G).obj b→G.im.obj b:=by
    intro b hb ho
    rcases ub5z_ ho with ho | ⟨k,ob,k1,k2⟩
    · exact ho
    · exact absurd k2 (hbad b hb k ob k1)
   rcases h1 with h1 | ⟨b,cap,cells,e1,rfl,q1,q2,q3,q4,q5,q6,q7⟩
   · exact .inl h1
   · exact .inr ⟨b,cap,cells,e1,rfl,q1,q2,q3,fun i y hy=>(q4 i y hy).ext (uqy_ w),fun hw o ho=>q5 hw o (hno b (by simp) o ho),fun hw o=>⟨fun ho=>.inl ((q6 hw o).1 ho),fun ho=>(q6 hw o).2 (hno b (by simp) o ho)⟩,fun ho=>q7 (hnO b (by simp) ho)⟩
 | hof nd d c =>
   cases nd with
   | true=>cases h
   | false =>
   have h:ub2d_ fs σ0 d c sv=some x:=h
   have hcr:CR P w G sv [v]:=hr.cell fun t y e=>by
    subst e
    cases h
   exact ⟨[],⟨rfl,ub53_ hm0 hE h hcr⟩,List.nodup_nil,hnil⟩
 | cl f t =>
   have h:ubvk_ (ubyg_ σ0) f t sv=some x:=h
   exact ⟨[],uby2_ (fun h hr=>uby6_ hm0 h hr) h (hr.cell fun t y e=>by subst e; cases h),List.nodup_nil,hnil⟩
 | _=>cases h
theorem ub55_ {fs:Nat→Option FSpec} {σ0:Nat→Option Obj} {a b:Sh} {r:List Sh} {v:SV} {vs:List SV}:lendL fs σ0 σ (a::b::r) (v::vs)=(match lendS fs σ0 σ a v,lendL fs σ0 σ (b::r) vs with
 | some x,some y=>some (x,y)
 | _,_=>none):=rfl
theorem ucbj_ (hm:MemS P fr free σ w G) {σ0:Nat→Option Obj} (hσ0:∀ k o,σ0 k=some o→σ k=some o) {fs:Nat→Option FSpec} (hE:∀ f sp,fs f=some sp→ugs_ P f∧FunOK P f sp):∀ {l:List Sh} {svs:List SV} {x:TupR l} {vs:List Value},lendL fs σ0 σ l svs=some x→svs.length=vs.length →
 (∀ (j:Nat) (s:SV) (v:Value),svs[j]? = some s→vs[j]? = some v→SR P w G s v)→(keysL σ l svs).Nodup→(∀ k∈keysL σ l svs,σ0 k=none) →
 svs.length=l.length∧∃ bs,ShL P w (imRO σ0 G) l x vs bs∧bs.Nodup∧BlksOf σ G (keysL σ l svs) bs:=by
 intro l
 induction l with
 | nil =>
   intro svs x vs h hl hs _ _
   cases svs with
   | nil=>exact ⟨rfl,[],⟨List.eq_nil_of_length_eq_zero hl.symm,rfl⟩,List.nodup_nil,fun b hb=>by cases hb⟩
   | cons _ _=>cases h
 | cons a l ih =>
   intro svs x vs h hl hs hnd hks
   cases svs with
   | nil=>cases l <;> cases h
   | cons s svs =>
     cases vs with
     | nil=>cases hl
     | cons v vs =>
       have h0:=hs 0 s v rfl rfl
       cases l with
       | nil =>
         cases svs with
         | nil =>
           have:vs=[]:=List.eq_nil_of_length_eq_zero (by simpa using hl.symm)
           subst this
           obtain ⟨bs,h1,h2,h3⟩:=ub54_ hm hσ0 hE h h0 (fun k hk=>hks k (by simpa [keysL] using hk))
           exact ⟨rfl,bs,⟨v,rfl,h1⟩,h2,by simpa [keysL] using h3⟩
         | cons _ _=>cases h
       | cons b l =>
         rw [ub55_] at h
         split at h
         · rename_i x1 x2 h1 h2
           cases h
           have hk:keysL σ (a::b::l) (s::svs)=keysS σ a s++keysL σ (b::l) svs:=rfl
           rw [hk] at hnd hks ⊢
           have hnd':=List.nodup_append.1 hnd
           obtain ⟨b1,p1,p2,p3⟩:=ub54_ hm hσ0 hE h1 h0 (fun k hk=>hks k (List.mem_append_left _ hk))
           obtain ⟨q0,b2,q1,q2,q3⟩:=ih h2 (by simpa using hl) (fun j s v h3 h4=>hs (j+1) s v (by simpa using h3) (by simpa using h4)) hnd'.2.1 (fun k hk=>hks k (List.mem_append_right _ hk))
           obtain ⟨r1,r2⟩:=p3.append hm q3 p2 q2 hnd
           exact ⟨by simp [q0],b1++b2,⟨v,vs,b1,b2,rfl,rfl,p1,q1⟩,r1,r2⟩
         · cases h
theorem ub56_:∀ {l:List Sh},noBox l=true→l.filter isBox=[]∧(∀ vs,ulq_ l vs=[])∧∀ ss vs,BoxArgs G l ss vs:=by
 intro l
 induction l with
 | nil=>intro _; exact ⟨rfl,fun vs=>by cases vs <;> rfl,fun ss vs=>by cases ss <;> exact trivial⟩
 | cons a l ih =>
   intro h
   simp only [noBox,Bool.and_eq_true,Bool.not_eq_true'] at h
   obtain ⟨h1,h2,h3⟩:=ih h.2
   refine ⟨by rw [List.filter_cons,if_neg (by rw [h.1]; simp)]; exact h1,fun vs=>?_,fun ss vs=>?_⟩
   · cases vs with
     | nil=>cases a <;> first | rfl | (rename_i el0 c0; cases c0 <;> rfl)
     | cons v vs=>cases a <;> first | exact h2 vs | (cases h.1; done) | (rename_i el0 c0; cases c0 <;> first | exact h2 vs | (cases h.1; done))
   · cases ss with
     | nil=>cases a <;> first | exact trivial | (rename_i el0 c0; cases c0 <;> exact trivial)
     | cons s ss =>
       cases vs with
       | nil=>cases a <;> first | exact trivial | (rename_i el0 c0; cases c0 <;> exact trivial)
       | cons v vs=>cases a <;> first | exact h3 ss vs | (cases h.1; done) | (rename_i el0 c0; cases c0 <;> first | exact h3 ss vs | (cases h.1; done))
theorem ShL.nil_any {I I':Im} {l:List Sh} (hl:l=[]) {x:TupR l} {vs:List Value} {bs:List Nat} (h:ShL P w' I l x vs bs):ShL P w' I' l x vs bs:=by
 subst hl; exact h
theorem ubw7_:∀ {l:List Nat},uso_ l=true→l.Nodup:=by
 intro l
 induction l with
 | nil=>intro _; exact List.nodup_nil
 | cons k r ih =>
   intro h
   simp only [uso_,Bool.and_eq_true,Bool.not_eq_true'] at h
   refine List.nodup_cons.2 ⟨fun hm=>?_,ih h.2⟩
   have:hasN k r=true:=u5k_.2 hm
   rw [h.1] at this; cases this
theorem uby7_ (hm:MemS P fr free σ w G) (hσ:∀ k o,σ' k=some o→σ k=some o) (hfree:∀ k,self≤k→k<self+8→free k) {sp:FSpec} {args:List SV} {vals:List Value} (hlen:args.length=vals.length) (hal:args.length=sp.ps.length)
 (hba:BoxArgs G sp.ps args vals) {bs:List Nat} (p3:BlksOf σ' G (keysL σ' sp.ps args) bs) (hcnt:cntL sp.rs+cntL (sp.ps.filter isBox)≤8) {y:TupR (sp.rs++sp.ps.filter isBox)} {rv:Value} {vs:List Value} {I':Im} {b1 b2:List Nat}
 (hvl:vs.length=sp.rs.length) (hret:retIs vs rv) (haft:After (·∈bs) w G.im w' I') (r1:ShL P w' I' sp.rs (ubsh_ sp.rs (sp.ps.filter isBox) y).1 vs b1) (r2:ShL P w' I' (sp.ps.filter isBox) (ubsh_ sp.rs (sp.ps.filter isBox) y).2 (ulq_ sp.ps vals) b2)
 (hnd':(b1++b2).Nodup) (hown:∀ b∈b1++b2,b∈bs∨w.heap.size≤b):Res P fr free self σ w G (ub4w_ σ' self sp args y) rv w':=by
 have p3':BlksOf σ G (keysL σ' sp.ps args) bs:=fun b hb=>let ⟨k,h1,o,h2,h3⟩:=p3 b hb; ⟨k,h1,o,hσ k o h2,h3⟩
 obtain ⟨g1,g2⟩:=hm.called p3' haft
 have hndp:=List.nodup_append.1 hnd'
 have hbk:∀ b∈b1++b2,fr.owned b∧∀ j o,u3_ σ (gone (keysL σ' sp.ps args)) j=some o→¬ Bk { G with im:=I' } j o b:=by
  intro b hb
  refine ⟨?_,fun j o ho hbj=>?_⟩
  · rcases hown b hb with h | h
    · obtain ⟨k,_,o,ho,hbo⟩:=p3' b h
      exact u8e_ (hm.objs k o ho) hbo
    · exact .inl (Nat.le_trans hm.after.size h)
  · have ho':j ∉ keysL σ' sp.ps args∧σ j=some o:=by
     rw [urt_] at ho
     by_cases hj:j∈keysL σ' sp.ps args
     · rw [if_pos hj] at ho; cases ho
     · rw [if_neg hj] at ho; exact ⟨hj,ho⟩
    have hbj0:Bk G j o b:=by rw [← ufb_ (hm.objs j o ho'.2) g1]; exact hbj
    rcases hown b hb with h | h
    · obtain ⟨k,hk,o2,ho2,hbo⟩:=p3' b h
      have:=hm.sep j k o o2 b ho'.2 ho2 hbj0 hbo
      subst this
      exact ho'.1 hk
    · have:=ubkw_ (hm.objs j o ho'.2) hbj0
      omega
 obtain ⟨G2,m2⟩:=ub5w_ (ps:=sp.ps) (ss:=args) (vals:=vals) (n:=self+cntL sp.rs) g2 hal (by omega) (by
  exact hba.mono (fun k b h=>h) (fun k g v h=>h) (fun k t h=>h)) r2 hndp.2.1 (fun b hb=>hbk b (List.mem_append_right _ hb)) (fun k h1 h2=>hfree k (by omega) (by omega))
 obtain ⟨G3,m3,e1,e2,e3⟩:=ucbg_ (l:=sp.rs) (n:=self) m2.mem (by rw [m2.im]; exact r1) hndp.1 (fun b hb=>⟨(hbk b (List.mem_append_left _ hb)).1,fun j o ho hb2=>by
  rcases m2.own j o b ho hb2 with h | ⟨j',o',h3,h4⟩
  · exact hndp.2.2 b hb b h rfl
  · exact (hbk b (List.mem_append_left _ hb)).2 j' o' h3 h4⟩) (fun k h1 h2=>⟨hfree k h1 (by omega),by omega⟩)
 have hsplit:=ubk1_ (a:=sp.rs) (b:=sp.ps.filter isBox) (x:=y) (n:=self)
 have htake:(mkL (sp.rs++sp.ps.filter isBox) y self).take sp.rs.length=mkL sp.rs (ubsh_ sp.rs (sp.ps.filter isBox) y).1 self:=by
  rw [hsplit,List.take_left' e2]
 have hdrop:(mkL (sp.rs++sp.ps.filter isBox) y self).drop sp.rs.length=mkL (sp.ps.filter isBox) (ubsh_ sp.rs (sp.ps.filter isBox) y).2 (self+cntL sp.rs):=by
  rw [hsplit,List.drop_left' e2]
 refine ⟨G3,(g1.trans m2.le).trans m3.le,?_,?_⟩
 · show MemS P fr _ (u3_ σ ((((mkL (sp.rs++sp.ps.filter isBox) y self).take sp.rs.length).flatMap (·.obs))++(unj_ sp.ps args ((mkL (sp.rs++sp.ps.filter isBox) y self).drop sp.rs.length)++gone (keysL σ' sp.ps args)))) w' G3
   rw [htake,hdrop,uu_,uu_]
   refine m3.mem.shrink fun j hj=>?_
   have hns:¬ (self≤j∧j<self+8):=fun h=>by
    have:=hj.2
    simp only [ubc8_,Bool.and_eq_false_iff] at this
    rcases this with h1 | h1
    · rw [Nat.ble_eq_true_of_le h.1] at h1; cases h1
    · rw [show Nat.blt j (self+8)=true from Nat.ble_eq_true_of_le h.2] at h1; cases h1
   exact ⟨⟨hj.1,fun e=>hns ⟨by omega,by omega⟩⟩,fun e=>hns ⟨by omega,by omega⟩⟩
 · show SR P w' G3 (resOf ((mkL (sp.rs++sp.ps.filter isBox) y self).take sp.rs.length)) rv
   rw [htake]
   exact ub5y_ hret (by rw [hvl,e2]) e3
theorem ub8q_ {fs:Nat→Option FSpec} (hE:∀ f sp,fs f=some sp→ugs_ P f∧FunOK P f sp) (hD:fr.dr=true→∀ f sp,fs f=some sp→sp.dr=true) (hm:MemS P fr free σ w G) (hσ:∀ k o,σ' k=some o→σ k=some o) (hfree:∀ k,self≤k→k<self+8→free k)
 {f:Nat} {args:List SV} {vals:List Value} {r:OpRes} {u:Upd} (hlen:args.length=vals.length) (hs:∀ (j:Nat) (s:SV) (v:Value),args[j]? = some s→vals[j]? = some v→SR P w G s v)
 (hr:ucaw_ fs σ' self f args=some r) (hu:Gives r u) :
 ugs_ P f∧Calls P f vals.toArray w fun e w'=>∃ v,e=.returned v∧Res P fr free self σ w G u v w'∧(fr.dr=true→w.drawn≤w'.drawn):=by
 unfold ucaw_ at hr
 split at hr
 · rename_i sp hsp
   obtain ⟨hent,hfun⟩:=hE _ _ hsp
   · split at hr
     · rename_i v hv0
       have hcv:Nat.ble (cntL (sp.rs++sp.ps.filter isBox)) 8=true∧ubyc_ fs σ' sp.ps args=some v:=by
        cases hc:Nat.ble (cntL (sp.rs++sp.ps.filter isBox)) 8 with
        | false=>rw [hc] at hv0; cases hv0
        | true=>rw [hc] at hv0; exact ⟨rfl,hv0⟩
       obtain ⟨hc,hv⟩:=hcv
       have hcnt:=Nat.le_of_ble_eq_true hc
       rw [ubvx_] at hcnt
       cases hr
       obtain ⟨y,hy,rfl⟩:=hu.may_inv
       have hm':=hm.sub hσ
       obtain ⟨bs,p1,p2,p3⟩:=ubrt_ hm' hE hv hlen hs
       have hpl:ubyb_ fs σ' sp.ps args=some v:=by
        unfold ubyc_ at hv
        cases hd:uso_ (keysL σ' sp.ps args) with
        | false=>rw [hd] at hv; cases hv
        | true=>rw [hd] at hv; exact hv
       have hba:=ub5x_ hm' hpl hs
       have hplen:∀ {l:List Sh} {svs:List SV} {x:TupR l},ubyb_ fs σ' l svs=some x→svs.length=l.length:=by
        intro l
        induction l with
        | nil=>intro svs x h; cases svs with
          | nil=>rfl
          | cons _ _=>cases h
        | cons a l ih =>
          intro svs x h
          cases svs with
          | nil=>cases l <;> cases h
          | cons s svs =>
            cases l with
            | nil=>cases svs with
              | nil=>rfl
              | cons _ _=>cases h
            | cons b l =>
              rw [ubgd_] at h
              split at h
              · rename_i x1 x2 h1 h2
                simp [ih h2]
              · cases h
       have hal:=hplen hpl
       refine ⟨hent,Calls.mono (hfun w G.im v vals bs hm.after.mem p1 p2 y hy) fun e w' hq=>?_⟩
       obtain ⟨rv,vs,I',bs',rfl,hvl,hret,haft,hres,hnd',hown,qd⟩:=hq
       refine ⟨rv,rfl,?_,fun h=>qd (hD h _ _ hsp)⟩
       obtain ⟨b1,b2,rfl,r1,r2⟩:=hres.split hvl
       exact uby7_ hm hσ hfree hlen hal hba p3 hcnt hvl hret haft r1 r2 hnd' hown
     · split at hr
       · rename_i v hv
         cases hr
         obtain ⟨y,hy,rfl⟩:=hu.may_inv
         cases hfl:ubyf_ sp.rs with
         | false=>rw [hfl] at hv; cases hv
         | true =>
           rw [hfl] at hv
           have hv:roL σ' sp.ps args=some v:=hv
           have hm':=hm.sub hσ
           have p1:=uceo_ hm' hv hlen hs
           refine ⟨hent,Calls.mono (hfun w (imRO σ' G) v vals [] (ub50_ hm') p1 .nil y hy) fun e w' hq=>?_⟩
           obtain ⟨rv,vs,I',bs',rfl,hvl,hret,haft,hres,_,_,qd⟩:=hq
           refine ⟨rv,rfl,?_,fun h=>qd (hD h _ _ hsp)⟩
           have haft2:=haft.flat (uqy_ w) hm.after.mem
           obtain ⟨g1,g2⟩:=hm.called (ks:=[]) (bs:=[]) (fun b hb=>by cases hb) haft2
           obtain ⟨b1,b2,rfl,r1,r2⟩:=hres.split hvl
           obtain ⟨f1,f2⟩:=ucdc_ (G:={ G with im:=G.im }) (n:=self) hfl r1
           have hsplit:=ubk1_ (a:=sp.rs) (b:=sp.ps.filter isBox) (x:=y) (n:=self)
           have htake:(mkL (sp.rs++sp.ps.filter isBox) y self).take sp.rs.length=mkL sp.rs (ubsh_ sp.rs (sp.ps.filter isBox) y).1 self:=by
            rw [hsplit,List.take_left' f1]
           refine ⟨_,g1,g2.shrink fun j hj=>hj.1,?_⟩
           show SR P w' { G with im:=G.im } (resOf ((mkL (sp.rs++sp.ps.filter isBox) y self).take sp.rs.length)) rv
           rw [htake]
           exact ub5y_ hret (by rw [hvl,f1]) f2
       · split at hr
         · rename_i v hv
           cases hr
           obtain ⟨y,hy,rfl⟩:=hu.may_inv
           unfold lendN at hv
           cases hc:(ubr6_ sp.rs&&(noBox sp.ps&&(Nat.ble (cntL (sp.rs++sp.ps.filter isBox)) 8&&uso_ (keysL σ' sp.ps args)))) with
           | false=>rw [hc] at hv; cases hv
           | true =>
             rw [hc] at hv
             have hv:lendL fs (u3_ σ' (gone (keysL σ' sp.ps args))) σ' sp.ps args=some v:=hv
             have hσ0:∀ k o,u3_ σ' (gone (keysL σ' sp.ps args)) k=some o→σ' k=some o∧k ∉ keysL σ' sp.ps args:=by
              intro k o hk
              rw [urt_] at hk
              by_cases e:k∈keysL σ' sp.ps args
              · rw [if_pos e] at hk; cases hk
              · rw [if_neg e] at hk; exact ⟨hk,e⟩
             simp only [Bool.and_eq_true] at hc
             obtain ⟨c1,c2,c3,c4⟩:=hc
             have hcnt:=Nat.le_of_ble_eq_true c3
             rw [ubvx_] at hcnt
             have hm':=hm.sub hσ
             obtain ⟨hal,bs,p1,p2,p3⟩:=ucbj_ hm' (fun k o h=>(hσ0 k o h).1) hE hv hlen hs (ubw7_ c4) (fun k hk=>by rw [urt_,if_pos hk])
             obtain ⟨n1,n2,n3⟩:=ub56_ (G:=G) c2
             refine ⟨hent,Calls.mono (hfun w (imRO (u3_ σ' (gone (keysL σ' sp.ps args))) G) v vals bs (ub50_ (hm'.sub fun k o h=>(hσ0 k o h).1)) p1 p2 y hy) fun e w' hq=>?_⟩
             obtain ⟨rv,vs,I',bs',rfl,hvl,hret,haft,hres,hnd',hown,qd⟩:=hq
             refine ⟨rv,rfl,?_,fun h=>qd (hD h _ _ hsp)⟩
             have haft2:=haft.lend (uqy_ w) hm.after.mem
             obtain ⟨b1,b2,rfl,r1,r2⟩:=hres.split hvl
             exact uby7_ hm hσ hfree hlen hal (n3 _ _) p3 hcnt hvl hret haft2 (ub8p_ haft (uqy_ w) c1 r1) (r2.nil_any n1) hnd' hown
         · cases hr
 · cases hr
end
end Go.Ev
namespace Go.Ev
variable [Pins]
section
variable {P:Program} {fr:Fr} {free free':Nat→Prop} {self:Nat} {σ σ':Nat→Option Obj} {w w':World} {G G':Gh} {I:Im}
theorem ubw8_ {o:Oper} {a:Act} {fo:Operand} {as:Array Operand} {ts:Array TypeId} (ho:o.op=.call ⟨.value fo,as,ts⟩) {f:Nat} {caps:Array Value} (hf:a.eval fo=.func (.func f) #[] caps) (he:ugs_ P f) :
 (execOp a.eval o).run P w=.ok (.enter f (as.map a.eval++caps)) w:=by
 obtain ⟨fn,c,h1,h2,h3⟩:=he
 have h2':fn.name≠"runtime.NumGoroutine" := by simpa using h2
 have:(callFunc f (as.map a.eval++caps)).run P w=.ok (.enter f (as.map a.eval++caps)) w:=by simp [callFunc,h1,h2',h3]
 simp [execOp,ho,resolve,hf,Deferred.ofValue,invoke,this]
theorem ub8r_:∀ {l:SV} {vs:List Value},CR P w G l vs→l.list.length≤vs.length→∀ (j:Nat) (s:SV) (v:Value),l.list[j]? = some s→vs[j]? = some v→SR P w G s v:=by
 intro l
 induction l with
 | scons a b iha ihb =>
   intro vs h hl j s v hj hv
   obtain ⟨v',r,rfl,⟨c,h2,h3⟩,h4⟩:=h
   cases j with
   | zero =>
     have e1:a=s:=by simpa [SV.list] using hj
     have e2:v'=v:=by simpa using hv
     subst e1 e2
     exact ⟨c,h2,h3⟩
   | succ j=>exact ihb h4 (by simpa [SV.list] using hl) j s v (by simpa [SV.list] using hj) (by simpa using hv)
 | _=>intro vs h hl j s v hj; simp [SV.list] at hj
theorem ub57_:∀ {l:SV} {vs:List Value},CR P w G l vs→ubwh_ l=true→l.list.length=vs.length:=by
 intro l
 induction l with
 | snil=>intro vs h _; have h:vs=[]:=h; rw [h]; rfl
 | scons a b iha ihb =>
   intro vs h hk
   obtain ⟨v',r,rfl,_,h4⟩:=h
   simp [SV.list,ihb h4 hk]
 | _=>intro vs h hk; cases hk
theorem ubsi_ {σ:Nat→Option Obj} (ho:∀ k o,σ k=some o→ObjOK P fr w G k o):∀ {d:Ty} {l:List SV} {x:d.T} {vs:List Value},ubkq_ σ d l=some x→l.length=vs.length →
 (∀ (j:Nat) (s:SV) (v:Value),l[j]? = some s→vs[j]? = some v→SR P w G s v)→ArgsV w G.im d x vs:=by
 have one:∀ {d:Ty} {l:List SV} {x:d.T} {vs:List Value},(match l with | [s]=>s.asV σ d | _=>none)=some x→l.length=vs.length →
  (∀ (j:Nat) (s:SV) (v:Value),l[j]? = some s→vs[j]? = some v→SR P w G s v)→∃ v,vs=[v]∧VRel w G.im d x v:=by
  intro d l x vs h hl hs
  rcases l with _ | ⟨s,_ | ⟨_,_⟩⟩ <;> first | (cases h; done) | skip
  rcases vs with _ | ⟨v,_ | ⟨_,_⟩⟩ <;> first | (cases hl; done) | skip
  exact ⟨v,rfl,ubgh_ ho h (hs 0 s v rfl rfl)⟩
 intro d
 induction d with
 | prod a b iha ihb =>
   intro l x vs h hl hs
   cases l with
   | nil=>cases h
   | cons s r =>
     cases vs with
     | nil=>cases hl
     | cons v vs =>
       simp only [ubkq_] at h
       split at h
       · rename_i y z h1 h2
         cases h
         exact ⟨v,vs,rfl,ubgh_ ho h1 (hs 0 s v rfl rfl),ihb h2 (by simpa using hl) fun j s v h1 h2=>hs (j+1) s v (by simpa using h1) (by simpa using h2)⟩
       · cases h
 | _ =>
   intro l x vs h hl hs
   refine one ?_ hl hs
   rcases l with _ | ⟨s,_ | ⟨_,_⟩⟩ <;> exact h
theorem ub8s_:∀ {c:Ty} {y:c.T} {vs:List Value},ArgsV w G.im c y vs→CR P w G (ucam_ c y) vs:=by
 intro c
 induction c with
 | prod a b iha ihb =>
   intro y vs h
   obtain ⟨v,r,rfl,⟨cs,h1,h2⟩,h3⟩:=h
   exact ⟨v,r,rfl,⟨cs,h1,h2⟩,ihb h3⟩
 | _ =>
   intro y vs h
   obtain ⟨v,rfl,cs,h1,h2⟩:=h
   exact ⟨v,[],rfl,⟨cs,h1,h2⟩,rfl⟩
theorem ub05_ {c:Ty} {y:c.T} {rv:Value} (h:RetV w G.im c y rv):SR P w G (retSV c y) rv:=by
 cases c <;> first | exact h | skip
 obtain ⟨vs,rfl,h⟩:=h
 exact ⟨_,rfl,vs,rfl,ub8s_ h⟩
theorem ub58_ (hpin:Pins.P=P) {fs:Nat→Option FSpec} (hE:∀ f sp,fs f=some sp→ugs_ P f∧FunOK P f sp) (hD:fr.dr=true→∀ f sp,fs f=some sp→sp.dr=true) {dr:Bool} (hdr:fr.dr=true→dr=true) (hm:MemS P fr free σ w G) (hσ:∀ k o,σ' k=some o→σ k=some o) (hfree:∀ k,self≤k→k<self+8→free k)
 {o:Oper} {a:Act} {fo:Operand} {as:Array Operand} {ts:Array TypeId} (ho:o.op=.call ⟨.value fo,as,ts⟩) {sf:SV} (hsf:SR P w G sf (a.eval fo)) {args:List SV} {r:OpRes} {u:Upd}
 (hlen:args.length=as.toList.length) (hs:∀ (j:Nat) (s:SV) (x:Operand),args[j]? = some s→as.toList[j]? = some x→SR P w G s (a.eval x)) (hr:ub4x_ dr fs σ' self sf args=some r) (hu:Gives r u) :
 Done P fr.dr o a w (Res P fr free self σ w G u):=by
 unfold ub4x_ at hr
 split at hr
 · rename_i f caps
   cases hk:ubwh_ caps with
   | false=>rw [hk] at hr; cases hr
   | true =>
     rw [hk] at hr
     obtain ⟨cc,hcc,vs,h1,h2⟩:=hsf
     have hf:a.eval fo=.func (.func f) #[] vs:=List.singleton_inj.1 ((show cc=[a.eval fo] from hcc).symm.trans h1)
     have hcl:=ub57_ h2 hk
     have hall:∀ (j:Nat) (s:SV) (v:Value),(args++caps.list)[j]? = some s→(as.toList.map a.eval++vs.toList)[j]? = some v→SR P w G s v:=by
      intro j s v hj hv
      by_cases hlt:j<args.length
      · rw [List.getElem?_append_left hlt] at hj
        rw [List.getElem?_append_left (by rw [List.length_map,← hlen]; exact hlt),List.getElem?_map] at hv
        cases hx:as.toList[j]? with
        | none=>rw [hx] at hv; cases hv
        | some x =>
          rw [hx] at hv
          cases hv
          exact hs j s x hj hx
      · have hle:args.length≤j:=Nat.le_of_not_lt hlt
        rw [List.getElem?_append_right hle] at hj
        rw [List.getElem?_append_right (by rw [List.length_map,← hlen]; exact hle),List.length_map,← hlen] at hv
        exact ub8r_ h2 (by omega) _ s v hj hv
     obtain ⟨he,hcall⟩:=ub8q_ hE hD hm hσ hfree (vals:=as.toList.map a.eval++vs.toList) (by simp [hlen,hcl]) hall hr hu
     refine Done.enter (ubw8_ ho hf he) ?_
     have e:(as.toList.map a.eval++vs.toList).toArray=as.map a.eval++vs:=by
      apply Array.ext'
      simp
     rw [e] at hcall
     exact hcall
 · rename_i nd d c F
   cases hnd:(!dr||nd) with
   | false=>rw [hnd] at hr; cases hr
   | true =>
   rw [hnd] at hr
   simp only [cond_true] at hr
   split at hr
   · rename_i x hx
     cases hr
     obtain ⟨y,hy,rfl⟩:=hu.may_inv
     obtain ⟨cc,hcc,f,vs,h1,he,h2⟩:=hsf
     have hf:a.eval fo=.func (.func f) #[] vs:=List.singleton_inj.1 ((show cc=[a.eval fo] from hcc).symm.trans h1)
     have hv:=ubsi_ (fun k o h=>hm.objs k o (hσ k o h)) hx (vs:=as.toList.map a.eval) (by simp [hlen]) (fun j s v hj hv=>by
      rw [List.getElem?_map] at hv
      cases hx:as.toList[j]? with
      | none=>rw [hx] at hv; cases hv
      | some x =>
        rw [hx] at hv
        cases hv
        exact hs j s x hj hx)
     refine Done.enter (ubw8_ ho hf he) ?_
     have hargs:as.map a.eval++vs=(as.toList.map a.eval).toArray++vs:=by
      apply Array.ext'
      simp
     rw [hargs]
     refine Calls.mono (h2 w G.im (Ext.refl _ _) hm.after.mem x _ hv y hy) fun e w' hq=>?_
     obtain ⟨rv,I',rfl,ha,hrv,qd⟩:=hq
     obtain ⟨g1,g2⟩:=hm.called (ks:=[]) (bs:=[]) (fun b hb=>by cases hb) (ha.mono fun b hb=>absurd hb id)
     exact ⟨rv,rfl,⟨_,g1,g2.shrink fun _ h=>h.1,ub05_ hrv⟩,fun h=>qd (by have:=hdr h; subst this; simpa using hnd)⟩
   · cases hr
 · rename_i d c q
   cases hnd:(!dr) with
   | false=>rw [hnd] at hr; cases hr
   | true =>
   rw [hnd] at hr
   simp only [cond_true] at hr
   split at hr
   · rename_i x hx
     cases hr
     obtain ⟨y,hy,rfl⟩:=hu.may_inv
     obtain ⟨F,hF,hy⟩:=Option.bind_eq_some_iff.1 hy
     have hF:q=some F:=hF
     subst hF
     obtain ⟨cc,hcc,h1⟩:=hsf
     obtain ⟨f,vs,h1,he,h2⟩:=ub94_ h1
     rw [hpin] at he h2
     have hf:a.eval fo=.func (.func f) #[] vs:=List.singleton_inj.1 ((show cc=[a.eval fo] from hcc).symm.trans h1)
     have hv:=ubsi_ (fun k o h=>hm.objs k o (hσ k o h)) hx (vs:=as.toList.map a.eval) (by simp [hlen]) (fun j s v hj hv=>by
      rw [List.getElem?_map] at hv
      cases hx:as.toList[j]? with
      | none=>rw [hx] at hv; cases hv
      | some x =>
        rw [hx] at hv
        cases hv
        exact hs j s x hj hx)
     refine Done.enter (ubw8_ ho hf he) ?_
     have hargs:as.map a.eval++vs=(as.toList.map a.eval).toArray++vs:=by
      apply Array.ext'
      simp
     rw [hargs]
     refine Calls.mono (h2 w G.im (Ext.refl _ _) hm.after.mem x _ hv y hy) fun e w' hq=>?_
     obtain ⟨rv,I',rfl,ha,hrv,_⟩:=hq
     obtain ⟨g1,g2⟩:=hm.called (ks:=[]) (bs:=[]) (fun b hb=>by cases hb) (ha.mono fun b hb=>absurd hb id)
     exact ⟨rv,rfl,⟨_,g1,g2.shrink fun _ h=>h.1,ub05_ hrv⟩,fun h=>by have:=hdr h; subst this; cases hnd⟩
   · cases hr
 · cases hr
theorem ub3s_ {o:Oper} {a:Act} {r:Operand} {m:String} {as:Array Operand} {ts:Array TypeId} (ho:o.op=.call ⟨.invoke r m,as,ts⟩) (has:as.toList=[]) {id:Nat} {v:Value} (hv:a.eval r=.iface id v)
 {f:Nat} (hm:(method (P.types.size+Made.depth) id v m).run P w=.ok (f,v) w) (he:ugs_ P f):(execOp a.eval o).run P w=.ok (.enter f #[v]) w:=by
 obtain ⟨fn,c,h1,h2,h3⟩:=he
 have h2':fn.name≠"runtime.NumGoroutine" := by simpa using h2
 have hc:(callFunc f #[v]).run P w=.ok (.enter f #[v]) w:=by simp [callFunc,h1,h2',h3]
 have has':as = #[]:=by apply Array.ext'; simpa using has
 subst has'
 have hcm:(callMethod (.iface id v) m #[]).run P w=.ok (.enter f #[v]) w:=by
  simp only [callMethod,Sem.run_bind,run_program,Result.andThen_ok,hm]
  exact hc
 simp [execOp,ho,resolve,hv,invoke,hcm]
theorem ub59_ {fs:Nat→Option FSpec} (hE:∀ f sp,fs f=some sp→ugs_ P f∧FunOK P f sp) {D:Prop} (hD:D→∀ f sp,fs f=some sp→sp.dr=true) {mt:Nat→Option Nat} {m:String}
 (hM:∀ id f,mt id=some f→∀ (v:Value) (w:World),(method (P.types.size+Made.depth) id v m).run P w=.ok (f,v) w) {c:Ty} (hw:Mem w G.im) :
 ∀ {u:Ty} {F:u.T→Option c.T} {x:u.T} {y:c.T} {v:Value},ub2e_ fs mt c u=some F→F x=some y→Rel w G.im u x [v] →
 ∃ id v' f,v=.iface id v'∧(method (P.types.size+Made.depth) id v' m).run P w=.ok (f,v') w∧ugs_ P f ∧
  Calls P f #[v'] w fun e w'=>∃ rv I',e=.returned rv∧After noGv w G.im w' I'∧RetV w' I' c y rv∧(D→w.drawn≤w'.drawn):=by
 intro u
 induction u with
 | inil=>intro F x y v h hy _; cases h; cases hy
 | ialt id t r _ ihr =>
   intro F x y v h hy hr
   unfold ub2e_ at h
   split at h
   · rename_i f hf
     cases hip:ubno_ t with
     | true=>rw [hip] at h; cases h
     | false =>
     rw [hip] at h
     simp only [cond_false] at h
     split at h
     · rename_i F1 F2 h1 h2
       cases h
       cases x with
       | inl z =>
         obtain ⟨v',cs,e1,e2,e3⟩:=hr
         have hh:=ubw5_ (P:=P) (w:=w) (G:=G) (fr:=⟨noGv,w,G.im,fun _=>none,false⟩) (σ:=fun _=>none) (D:=D) (fun k o h=>by cases h) hE (fun h=>.inr ⟨hD h,fun _ _ _ _ he=>by cases he⟩) h1 (cs:=[.func (.func f) #[] #[]]) ⟨#[],rfl,rfl⟩
         obtain ⟨f',vs',e4,hent,hcall⟩:=hh
         cases e4
         have ha:ArgsV w G.im t z [v']:=by
          have:∃ v,[v']=[v]∧VRel w G.im t z v:=⟨v',rfl,cs,e2,e3⟩
          cases t with
          | prod a b=>cases hip
          | _=>exact this
         have:=hcall w G.im (Ext.refl _ _) hw z [v'] ha y hy
         exact ⟨id,v',f,List.singleton_inj.1 e1,hM id f hf v' w,hent,this⟩
       | inr z=>exact ihr h2 hy hr.2
     · cases h
   · cases h
 | _=>intro F x y v h; cases h
theorem ub3t_ {fs:Nat→Option FSpec} (hE:∀ f sp,fs f=some sp→ugs_ P f∧FunOK P f sp) (hD:fr.dr=true→∀ f sp,fs f=some sp→sp.dr=true) {mt:String→Nat→Option Nat}
 (hM:∀ m id f,mt m id=some f→∀ (v:Value) (w:World),(method (P.types.size+Made.depth) id v m).run P w=.ok (f,v) w) (hm:MemS P fr free σ w G)
 {o:Oper} {a:Act} {ro:Operand} {m:String} {as:Array Operand} {ts:Array TypeId} (ho:o.op=.call ⟨.invoke ro m,as,ts⟩) (has:as.toList=[]) {s:SV} (hs:SR P w G s (a.eval ro)) {c:Ty} {r:OpRes} {u:Upd}
 (hr:ub0q_ fs mt c m s=some r) (hu:Gives r u):Done P fr.dr o a w (Res P fr free self σ w G u):=by
 unfold ub0q_ at hr
 split at hr
 · rename_i ut x
   split at hr
   · rename_i F hF
     cases hr
     obtain ⟨y,hy,rfl⟩:=hu.may_inv
     obtain ⟨cs,h1,h2⟩:=hs
     have hcs:cs=[a.eval ro]:=by
      cases ut with
      | ialt _ _ _=>exact h1
      | inil=>exact h1
      | _=>cases hF
     subst hcs
     obtain ⟨tid,v',f,hv,hmt,hent,hcall⟩:=ub59_ hE hD (hM m) hm.after.mem hF hy h2
     refine Done.enter (ub3s_ ho has hv hmt hent) ?_
     refine Calls.mono hcall fun e w' hq=>?_
     obtain ⟨rv,I',rfl,ha,hrv,qd⟩:=hq
     obtain ⟨g1,g2⟩:=hm.called (ks:=[]) (bs:=[]) (fun b hb=>by cases hb) (ha.mono fun b hb=>absurd hb id)
     exact ⟨rv,rfl,⟨_,g1,g2.shrink fun _ h=>h.1,ub05_ hrv⟩,qd⟩
   · cases hr
 · cases hr
end
end Go.Ev
namespace Go.Ev
variable [Pins]
section
variable {P:Program} {fr:Fr} {free free':Nat→Prop} {self:Nat} {σ σ':Nat→Option Obj} {w w':World} {G G':Gh} {I:Im}
theorem Done.calm {o:Oper} {a:Act} {u:Upd} (hm:MemS P fr free σ w G) (h:u.wr=[]∧∃ z,(execOp a.eval o).run P w=.ok (.value z) w∧SR P w G u.sv z):Done P fr.dr o a w (Res P fr free self σ w G u):=by
 obtain ⟨h1,z,h2,h3⟩:=h
 obtain ⟨sv,wr⟩:=u
 have h1:wr=[]:=h1
 subst h1
 exact Done.value h2 (Res.same hm h3)
theorem Done.makes {o:Oper} {a:Act} {u:Upd} (h:∃ z w',(execOp a.eval o).run P w=.ok (.value z) w'∧Res P fr free self σ w G u z w'):Done P fr.dr o a w (Res P fr free self σ w G u):=by
 obtain ⟨z,w',h2,h3⟩:=h
 exact Done.value h2 h3
theorem Done.writes {o:Oper} {a:Act} {u:Upd} (h:∃ w',(execOp a.eval o).run P w=.ok .skip w'∧Res P fr free self σ w G u undef w'):Done P fr.dr o a w (Res P fr free self σ w G u):=by
 obtain ⟨w',h2,h3⟩:=h
 exact Done.skip h2 h3
end
end Go.Ev
namespace Go.Ev
variable [Pins]
section
variable {P:Program} {fr:Fr} {free free':Nat→Prop} {self:Nat} {σ σ':Nat→Option Obj} {w w':World} {G G':Gh} {I:Im}
theorem ucbk_ {a t:Ty} {g:a.T→t.T} (h:castF a t=some g) {y:a.T} {v:Value} (hr:VRel w I a y v):VRel w I t (g y) v:=by
 unfold castF at h
 split at h
 · rename_i hs
   have e:=Ty.same_eq hs
   subst e
   have h:=Option.some.inj h
   subst h
   exact hr
 · cases h
theorem ub6a_ {id:Nat} {t:Ty}:∀ {u:Ty} {f:u.T→Option t.T} {y:u.T} {v:Value},ubvm_ id t u=some f→Rel w I u y [v] →
 (f y=none∧(v=.nilIface∨∃ j x,v=.iface j x∧j≠id))∨∃ q x,f y=some q∧v=.iface id x∧VRel w I t q x:=by
 intro u
 induction u with
 | inil =>
   intro f y v h hr
   have h:=Option.some.inj h
   subst h
   have hr:[v]=[.nilIface]:=hr
   exact .inl ⟨rfl,.inl (List.singleton_inj.1 hr)⟩
 | ialt j a r iha ihr =>
   intro f y v h hr
   simp only [ubvm_] at h
   split at h
   · rename_i fr hfr
     cases hb:Nat.beq id j with
     | true =>
       rw [hb] at h
       simp only [cond_true] at h
       have e:=Nat.eq_of_beq_eq_true hb
       subst e
       split at h
       · rename_i g hg
         have h:=Option.some.inj h
         subst h
         cases y with
         | inl z =>
           obtain ⟨x,c,h1,h2,h3⟩:=hr
           exact .inr ⟨g z,x,rfl,List.singleton_inj.1 h1,ucbk_ hg ⟨c,h2,h3⟩⟩
         | inr z=>exact ihr hfr hr.2
       · cases h
     | false =>
       rw [hb] at h
       simp only [cond_false] at h
       have h:=Option.some.inj h
       subst h
       cases y with
       | inl z =>
         obtain ⟨x,c,h1,h2,h3⟩:=hr
         refine .inl ⟨rfl,.inr ⟨j,x,List.singleton_inj.1 h1,fun e=>?_⟩⟩
         rw [e,Nat.beq_refl] at hb; cases hb
       | inr z=>exact ihr hfr hr.2
   · cases h
 | _=>intro f y v h; cases h
theorem uby8_ {id:Nat} {t u:Ty} {f:u.T→Option t.T} {y:u.T} {v:Value} (h:ubvm_ id t u=some f) (hr:VRel w I u y v):Rel w I u y [v]:=by
 obtain ⟨c,h1,h2⟩:=hr
 have:c=[v]:=by
  cases u <;> first | exact h1 | cases h
 rw [← this]; exact h2
theorem Lay.conc {t:Ty} {id:Nat} (hl:Lay P t id) (ht:t.isIface=false):∃ d,P.underlying id=some d∧∀ ms,d≠.interface ms:=by
 cases t with
 | bool=>exact ⟨_,hl.bool,fun _ h=>by cases h⟩
 | int k=>exact ⟨_,hl.int,fun _ h=>by cases h⟩
 | str=>exact ⟨_,hl.str,fun _ h=>by cases h⟩
 | slice e=>obtain ⟨_,h,_⟩:=hl.slice; exact ⟨_,h,fun _ h=>by cases h⟩
 | agg p=>obtain ⟨_,h,_⟩:=hl.agg; exact ⟨_,h,fun _ h=>by cases h⟩
 | arr n e=>obtain ⟨_,h,_⟩:=hl.arr; exact ⟨_,h,fun _ h=>by cases h⟩
 | ptr e=>obtain ⟨_,h,_⟩:=hl.ptr; exact ⟨_,h,fun _ h=>by cases h⟩
 | map a b=>obtain ⟨_,_,h,_⟩:=hl.map; exact ⟨_,h,fun _ h=>by cases h⟩
 | self=>obtain ⟨_,h⟩:=hl.self; exact ⟨_,h,fun _ h=>by cases h⟩
 | opq=>exact hl.opq
 | fnc a b=>exact hl.fnc
 | unit=>simp [Lay,layB] at hl
 | prod a b=>simp [Lay,layB] at hl
 | inil=>simp [Ty.isIface] at ht
 | ialt i a r =>
   obtain ⟨_,d,hd,hc⟩:=urs_ hl
   split at hc
   · rw [hc] at ht; cases ht
   · cases hc
theorem uby9_ {t u:Ty} {id xt:Nat} (hl:Lay P t id) (ht:t.isIface=false) {f:u.T→Option t.T} {y:u.T} {v:Value} (hf:ubvm_ id t u=some f) (hv:VRel w G.im u y v) :
 ∃ z,(Instr.typeAssert v xt id true).run P w=.ok z w∧SR P w G (.tup (.scons (.val t ((f y).getD t.dflt)) (.scons (.val .bool (f y).isSome) .snil))) z:=by
 obtain ⟨d,hd,hn⟩:=hl.conc ht
 obtain ⟨zv,hz,hzr⟩:=ubsc_ (P:=P) (w:=w) (G:=G) hl
 rcases ub6a_ hf (uby8_ hf hv) with ⟨h1,h2⟩ | ⟨q,x,h1,rfl,h3⟩
 · have hrun:(Instr.typeAssert v xt id true).run P w=.ok (.tuple #[zv,.bool false]) w:=by
    rcases h2 with rfl | ⟨j,x,rfl,hj⟩
    · cases d <;> first | exact absurd rfl (hn _) | simp [Instr.typeAssert,run_underlying hd,hz]
    · cases d <;> first | exact absurd rfl (hn _) | simp [Instr.typeAssert,run_underlying hd,hz,hj]
   refine ⟨_,hrun,_,rfl,_,rfl,_,_,rfl,?_,_,_,rfl,?_,rfl⟩
   · rw [h1]; exact hzr
   · rw [h1]; exact ⟨_,rfl,rfl⟩
 · have hrun:(Instr.typeAssert (.iface id x) xt id true).run P w=.ok (.tuple #[x,.bool true]) w:=by
    cases d <;> first | exact absurd rfl (hn _) | simp [Instr.typeAssert,run_underlying hd]
   refine ⟨_,hrun,_,rfl,_,rfl,_,_,rfl,?_,_,_,rfl,?_,rfl⟩
   · rw [h1]; exact h3
   · rw [h1]; exact ⟨_,rfl,rfl⟩
end
end Go.Ev
namespace Go.Ev
variable [Pins]
open Go.MapKept
section
variable {P:Program} {fr:Fr} {free free':Nat→Prop} {self:Nat} {σ σ':Nat→Option Obj} {w w':World} {G G':Gh} {I:Im}
theorem ubru_ {t:Ty} {eq:t.T→t.T→Bool} (h:keyEq t=some eq) (x y:t.T):eq x y=true↔x=y:=by
 cases t <;> simp only [keyEq] at h <;> first | (cases h; done) | skip
 · have h:=Option.some.inj h
   subst h
   exact (beq_iff_eq (α:=Bool) (a:=x) (b:=y))
 · have h:=Option.some.inj h
   subst h
   exact (beq_iff_eq (α:=Int) (a:=x) (b:=y))
 · have h:=Option.some.inj h
   subst h
   exact (beq_iff_eq (α:=Str) (a:=x) (b:=y))
theorem ubk2_ (k:Nat):ubc8_ k (k+1)=true:=by
 simp only [ubc8_,Nat.blt,Bool.and_eq_true]
 exact ⟨Nat.ble_eq_true_of_le (by omega),Nat.ble_eq_true_of_le (by omega)⟩
theorem ucaa_ {k v:Ty} {eq:k.T→k.T→Bool} {d:TypeDesc} (hk:KeyAt P w I k eq d) {x:k.T} {vx:Value} (hx:VRel w I k x vx):∀ (es:List (k.T×v.T)) (ents:List MapEntry) (i:Nat),EntsOK w I k v es ents →
 (Instr.findNow d vx ents i=some none∧uck_ eq x es=none∧(∀ z,putKV eq x z es=es++[(x,z)])∧(∀ q∈es,eq x q.1=false)∧∀ e∈ents,e.key≠vx) ∨
 (∃ j e q,Instr.findNow d vx ents i=some (some (i+j,e.val))∧ents[j]? = some e∧es[j]? = some q∧eq x q.1=true∧uck_ eq x es=some q.2∧Instr.sameBits 10000 e.key vx=true∧(∀ z,putKV eq x z es=es.set j (x,z))∧e.key=vx):=by
 intro es
 induction es with
 | nil =>
   intro ents i h
   have:ents=[]:=List.eq_nil_of_length_eq_zero h.1
   subst this
   exact .inl ⟨rfl,rfl,fun z=>rfl,fun q hq=>(by cases hq),fun _ h=>by cases h⟩
 | cons q es ih =>
   intro ents i h
   cases ents with
   | nil=>cases h.1
   | cons e ents =>
     obtain ⟨h1,h2⟩:=h.2 0 q e rfl rfl
     obtain ⟨s1,s2,s3⟩:=hk.same _ _ _ _ hx h1
     cases hq:eq x q.1 with
     | true =>
       rw [hq] at s1
       exact .inr ⟨0,e,q,by simp [Instr.findNow,s1],rfl,rfl,hq,by simp [uck_,hq],(s2 hq).1,fun z=>by simp [putKV,hq],(s2 hq).2⟩
     | false =>
       rw [hq] at s1
       rcases ih ents (i+1) ⟨by simpa using h.1,fun j y e h1 h2=>h.2 (j+1) y e (by simpa using h1) (by simpa using h2)⟩ with ⟨a1,a2,a3,a4,a8⟩ | ⟨j,e',y,a1,a2,a3,a4,a5,a6,a7,a8⟩
       · exact .inl ⟨by simp [Instr.findNow,s1,a1],by simp [uck_,hq,a2],fun z=>by simp [putKV,hq,a3],fun p hp=>(List.mem_cons.1 hp).elim (fun h=>h▸hq) (a4 p),fun e' he'=>(List.mem_cons.1 he').elim (fun h=>h▸s3 hq) (a8 e')⟩
       · exact .inr ⟨j+1,e',y,by simp [Instr.findNow,s1,a1]; omega,by simpa using a2,by simpa using a3,a4,by simp [uck_,hq,a5],a6,fun z=>by simp [putKV,hq,a7],a8⟩
theorem ub3u_ {k e:Ty} {id el:Nat} (hl:Lay P (.map k (.slice e)) id) (hm:MemS P fr free σ w G) (hself:free self) (hself1:free (self+1)) {r:Option Value} (hrn:∀ x,r=some x→∃ kd n,x=.int kd n) :
 ∃ z w',(Instr.makeMap id r).run P w=.ok z w'∧Res P fr free self σ w G ⟨.obj self 0,[(self,some (.mg el k e [] none (self+1)))]⟩ z w':=by
 obtain ⟨a,b,hu,_,_⟩:=hl.map
 have hrun:(Instr.makeMap id r).run P w=.ok (.map (some w.heap.size)) (w.alloc (.map #[] 0)):=by
  cases r with
  | none=>simp [Instr.makeMap]
  | some x =>
    obtain ⟨kd,n,rfl⟩:=hrn x rfl
    simp [Instr.makeMap,run_underlying hu,asInt,asIntOf]
 obtain ⟨g0,m0⟩:=hm.ghost hself1 (.tuple #[])
 let G0:Gh:=G.addVal (self+1) 0 (.tuple #[])
 have m0:MemS P fr (fun j=>free j∧j≠self+1) σ w G0:=m0
 have g0:GLe w G w G0:=g0
 let G':Gh:=G0.addVal self 0 (.map (some w.heap.size))
 have hval:G'.val self 0=some (.map (some w.heap.size)):=by simp [G',Gh.addVal]
 have hus:G'.val (self+1) 0=some (.tuple #[]):=by simp [G',G0,Gh.addVal]
 have hblk:∀ c,Bk G' self (.mg el k e [] none (self+1)) c→c=w.heap.size:=by
  intro c hc
  rcases hc with hc | ⟨us',h8,hc⟩
  · rw [hval] at hc; cases hc; rfl
  · rw [hus] at h8; cases h8; simp at hc
 obtain ⟨g1,g2⟩:=m0.new (w':=w.alloc (.map #[] 0)) (G':=G') (o':=.mg el k e [] none (self+1)) (self:=self) ⟨hself,by omega⟩ rfl rfl rfl rfl (fun _ _ h=>h) (fun _ _ h=>.inl h) rfl
  (fun j hj=>⟨rfl,rfl,fun g=>by simp [G',Gh.addVal,hj]⟩) (fun hn hle=>⟨⟨_,#[],hval,hus,w.heap.size,#[],0,rfl,hn,⟨rfl,stamped_empty 0⟩,rfl,fun i x e u h=>by simp at h,
   fun i j c h=>by simp at h,List.nodup_nil,fun h=>absurd (hm.after.inO _ h) (Nat.lt_irrefl _),fun o h=>absurd (hm.after.inC _ _ h) (Nat.lt_irrefl _),hm.owned_new⟩,hblk⟩)
 exact ⟨_,_,hrun,G',g0.trans g1,g2.shrink fun j hj=>⟨⟨hj.1,fun e=>by
  have:=hj.2
  subst e
  rw [ubk2_] at this; cases this⟩,hj.2⟩,_,rfl,_,hval,rfl,rfl⟩
theorem MemS.swapG (hm:MemS P fr free σ w G) {k:Nat} {o o':Obj} (hk:σ k=some o) (ho:ObjOK P fr w G k o') (hb:∀ b,Bk G k o' b→Bk G k o b) :
 MemS P fr free (u3_ σ [(k,some o')]) w G:=by
 refine ⟨fun j p h=>?_,fun i j o1 o2 b' hi hj hbi hbj=>?_,hm.after,fun j hj=>?_⟩
 · rw [uba_] at h
   by_cases e:j=k
   · rw [if_pos e] at h; cases h; subst e; exact ho
   · rw [if_neg e] at h; exact hm.objs j p h
 · rw [uba_] at hi hj
   by_cases e1:i=k <;> by_cases e2:j=k
   · rw [e1,e2]
   · rw [if_pos e1] at hi; rw [if_neg e2] at hj
     cases hi; subst e1
     exact hm.sep i j o o2 b' hk hj (hb _ hbi) hbj
   · rw [if_neg e1] at hi; rw [if_pos e2] at hj
     cases hj; subst e2
     exact hm.sep i j o1 o b' hi hk hbi (hb _ hbj)
   · rw [if_neg e1] at hi; rw [if_neg e2] at hj
     exact hm.sep i j o1 o2 b' hi hj hbi hbj
 · have hf:=hm.fresh j hj
   refine ⟨?_,hf.2⟩
   rw [uba_,if_neg (fun e=>?_)]
   · exact hf.1
   · subst e; rw [hf.1] at hk; cases hk
theorem ub6b_ {k t:Ty} {id:Nat} (hl:Lay P (.map k (.slice t)) id) {b clock:Nat} {ents:Array MapEntry} (hb:w.heap[b]? = some (.map ents clock)) {d:TypeDesc} {ka va:Nat} (hun:P.underlying id=some (.map ka va)) (hd:P.underlying ka=some d)
 {vk:Value} (hkey:IsKey d vk) {a:Option (Nat×Value)} (ha:Instr.findNow d vk ents.toList 0=some a) :
 (Instr.lookup id (.map (some b)) vk false).run P w=.ok (match a with | some p=>p.2 | none=>.slice none 0 0) w:=by
 have hck:=run_checkKey (P:=P) (w:=w) hd hkey ents.isEmpty 9999
 obtain ⟨ka',va',hun',hlk,hlv⟩:=hl.map
 rw [hun] at hun'
 cases hun'
 have hz:(zeroValue va).run P w=.ok (.slice none 0 0) w:=by
  obtain ⟨i,v,h1,h2,h3,h4,h5⟩:=ubdc_ hlv.inf
  have hv:v=.slice none 0 0:=by
   simp only [zv] at h5
   split at h5
   · cases h5
   · unfold zv1 at h5
     split at h5
     · rename_i hz
       simp only [zc] at hz
       split at hz
       · rename_i r' he
         cases he; rfl
       · cases hz
     · cases h5
  subst hv
  simp [zeroValue,typeInfo,h1,h4]
 have hf:=run_findKey (P:=P) (w:=w) hd ha
 cases a with
 | none=>simp [Instr.lookup,run_underlying hun,run_getObj_map hb,hck,hf,hz]
 | some p=>simp [Instr.lookup,run_underlying hun,run_getObj_map hb,hck,hf]
theorem ub3v_ {m:Value} {j g:Nat} (hm:SR P w G (.obj j g) m):G.val j g=some m:=by
 obtain ⟨c,hc,v2,k3,_,k5⟩:=hm
 have:[m]=[v2]:=(show c=[m] from hc).symm.trans k5
 rw [k3,List.singleton_inj.1 this]
theorem ub8t_ {t:Ty} {id:Nat} (hl:Lay P t id) (hm:MemS P fr free σ w G) (hσ:∀ k o,σ' k=some o→σ k=some o) (hself:free self) (hself1:free (self+1)) {m s:SV} {vm vk:Value} {r:OpRes} {u:Upd}
 (hr:ub72_ σ' self t m s=some r) (hu:Gives r u) (hsm:SR P w G m vm) (hs:SR P w G s vk) :
 ∃ z,(Instr.lookup id vm vk false).run P w=.ok z w∧Res P fr free self σ w G u z w:=by
 unfold ub72_ at hr
 split at hr
 · rename_i k v
   split at hr
   · rename_i j g
     split at hr
     · rename_i el k' t' es gk hk
       cases hb:(Nat.beq g 0&&(k'.same k&&(Ty.slice t').same v)) with
       | false=>rw [hb] at hr; cases hr
       | true =>
         rw [hb] at hr
         simp only [cond_true] at hr
         simp only [Bool.and_eq_true] at hb
         have hg:=Nat.eq_of_beq_eq_true hb.1
         have e1:=Ty.same_eq hb.2.1
         have e2:=Ty.same_eq hb.2.2
         subst hg e1 e2
         split at hr
         · rename_i eq a heq ha
           cases hr
           rw [hu.pure_inv]
           have hkσ:=hσ _ _ hk
           obtain ⟨cv,us,q1,q2,hmg⟩:=hm.objs _ _ hkσ
           have hmg0:=hmg
           have hmg1:=hmg
           obtain ⟨bl,ents,clock,rfl,p1,p2,p3,p4,p5,p6,p7,p8,p9⟩:=hmg
           obtain ⟨_,_,_,he0,hh,hents⟩:=hmg1.ents
           cases he0
           rw [p1] at hh
           cases hh
           have hvm:=ub3v_ hsm
           rw [q1] at hvm
           cases hvm
           obtain ⟨ka,va,hun,hlk,hlv⟩:=hl.map
           have hav:VRel w G.im k' a vk:=as_ok ha hs
           obtain ⟨d,hd,hkey⟩:=ucbc_ (P:=P) (w:=w) (I:=G.im) hlk heq
           have hkj:∀ {i},free i→i≠j:=fun {i} hi e=>by
            have h1:=(hm.fresh i hi).1
            rw [e,hkσ] at h1; cases h1
           obtain ⟨z,us',hz,hslz,husl,hus⟩:∃ z us',(Instr.lookup id (.map (some bl)) vk false).run P w=.ok z w∧SlOK fr w G.im el t' ((uck_ eq a es).getD []) false z ∧
            MgOK fr w G.im el k' t' es (some a) us' (.map (some bl))∧((∀ c,Value.map (some c)∈us'→Value.map (some c)∈us.toList∧bkVal z≠.map (some c))∧∀ c,bkVal z=.map (some c)→Value.map (some c)∈us.toList):=by
            rcases ucaa_ (P:=P) (v:=.slice t') hkey hav es ents.toList 0 hents with ⟨a1,a2,a3,a4,_⟩ | ⟨i,e,q,a1,a2,a3,a4,a5,a6,a7,_⟩
            · refine ⟨_,us.toList,ub6b_ hl p1 hun hd (hkey.key _ _ hav) a1,?_,⟨bl,ents,clock,rfl,p1,p2,p3,fun i x e u h1 h2 h3=>?_,p5,p6,p7,p8,p9⟩,fun c hc=>⟨hc,fun h=>by cases h⟩,fun c h=>by cases h⟩
              · have a2:uck_ eq a es=(none:Option (List t'.T)):=a2
                rw [a2]; exact .inl ⟨rfl,rfl⟩
              · obtain ⟨b1,b2⟩:=p4 i x e u h1 h2 h3
                rcases b2 with ⟨b2,_⟩ | b2
                · cases b2
                · exact ⟨b1,.inr b2⟩
            · have hiu:i<us.toList.length:=by rw [p3]; exact (List.getElem?_eq_some_iff.1 a3).1
              obtain ⟨b1,b2⟩:=p4 i q e _ a3 (by rw [← Array.getElem?_toList]; exact a2) (List.getElem?_eq_getElem hiu)
              rcases b2 with ⟨b2,_⟩ | ⟨b2,b3⟩
              · cases b2
              have hq:a=q.1:=(ubru_ heq _ _).1 a4
              have a3:es[i]? = (some q:Option (k'.T×List t'.T)):=a3
              have a5:uck_ eq a es=(some q.2:Option (List t'.T)):=a5
              refine ⟨e.val,us.toList.set i (Value.map none),ub6b_ hl p1 hun hd (hkey.key _ _ hav) a1,by rw [a5]; exact b2,⟨bl,ents,clock,rfl,p1,p2,by simpa using p3,fun i' x e' u h1 h2 h3=>?_,fun i1 i2 c h1 h2=>?_,p6,p7,p8,p9⟩,fun c hc=>?_,fun c hc=>?_⟩
              · by_cases hii:i=i'
                · subst hii
                  rw [a3] at h1
                  cases h1
                  rw [List.getElem?_set_self hiu] at h3
                  cases h3
                  obtain ⟨b4,b5⟩:=p4 i q e' _ a3 h2 (List.getElem?_eq_getElem hiu)
                  refine ⟨b4,.inl ⟨by rw [hq],rfl,?_⟩⟩
                  rcases b5 with ⟨_,_,b5⟩ | ⟨b5,_⟩
                  · exact b5
                  · exact ⟨_,rfl,ub3f_ b5⟩
                · rw [List.getElem?_set_ne hii] at h3
                  obtain ⟨b4,b5⟩:=p4 i' x e' u h1 h2 h3
                  rcases b5 with ⟨b5,_⟩ | b5
                  · cases b5
                  · exact ⟨b4,.inr b5⟩
              · have hne:∀ i':Nat,(us.toList.set i (Value.map none))[i']? = some (Value.map (some c))→us.toList[i']? = some (Value.map (some c)):=by
                 intro i' h
                 by_cases hii:i=i'
                 · subst hii
                   rw [List.getElem?_set_self hiu] at h
                   cases h
                 · rw [List.getElem?_set_ne hii] at h; exact h
                exact p5 i1 i2 c (hne _ h1) (hne _ h2)
              · obtain ⟨i',hi'⟩:=List.getElem?_of_mem hc
                by_cases hii:i=i'
                · subst hii
                  rw [List.getElem?_set_self hiu] at hi'
                  cases hi'
                · rw [List.getElem?_set_ne hii] at hi'
                  refine ⟨List.mem_of_getElem? hi',fun h=>hii ?_⟩
                  exact p5 i i' c (by rw [List.getElem?_eq_getElem hiu,b3,h]) hi'
              · rw [← hc,← b3]; exact List.getElem_mem hiu
           obtain ⟨hus1,hus2⟩:=hus
           refine ⟨z,hz,?_⟩
           obtain ⟨g0,m0⟩:=hm.ghost hself1 (.tuple us'.toArray)
           let G0:Gh:=G.addVal (self+1) 0 (.tuple us'.toArray)
           have m0:MemS P fr (fun j=>free j∧j≠self+1) σ w G0:=m0
           have g0:GLe w G w G0:=g0
           have hG0j:G0.val j 0=some (.map (some bl)):=g0.val _ _ _ q1
           have hG0u:G0.val (self+1) 0=some (.tuple us'.toArray):=by simp [G0,Gh.addVal]
           have hne1:self+1≠j:=hkj hself1
           have hne0:self≠j:=hkj hself
           have hsub:∀ c,Bk G0 j (.mg el k' t' es (some a) (self+1)) c→Bk G0 j (.mg el k' t' es none gk) c:=by
            intro c hc
            rcases hc with hc | ⟨us2,h8,hc⟩
            · exact .inl hc
            · rw [hG0u] at h8; cases h8
              exact .inr ⟨us,g0.val _ _ _ q2,(hus1 c (by simpa using hc)).1⟩
           have m1:=m0.swapG hkσ (o':=.mg el k' t' es (some a) (self+1)) ⟨_,us'.toArray,hG0j,hG0u,(by simpa using husl:MgOK fr w G.im el k' t' es (some a) us'.toArray.toList (.map (some bl)))⟩ hsub
           let G':Gh:=(G0.addVal self 0 z).addEty self t'
           have hval:G'.val self 0=some z:=by simp [G',Gh.addVal,Gh.addEty]
           have hblkz:∀ c,Bk G' self (.sl el t' ((uck_ eq a es).getD []) 0 false) c→bkVal z=.map (some c):=by
            intro c hc
            simp only [Bk,hval] at hc
            split at hc
            · rename_i ad _ _ he
              cases he
              cases hc; rfl
            · cases hc
           have hfs:free self∧self≠self+1:=⟨hself,by omega⟩
           obtain ⟨g1,m2⟩:=m1.add (G':=G') (o:=.sl el t' ((uck_ eq a es).getD []) 0 false) (k:=self) hfs rfl (fun i hi=>⟨rfl,by simp [G',Gh.addVal,Gh.addEty,hi],fun g=>by simp [G',Gh.addVal,Gh.addEty,hi]⟩)
            (fun hle=>⟨by simp [G',Gh.addVal,Gh.addEty],z,hval,hslz⟩)
            (fun c hc i o' hi hb=>by
             have hc:=hblkz c hc
             have hin:=hus2 c hc
             by_cases hij:i=j
             · subst hij
               rw [uba_,if_pos rfl] at hi
               cases hi
               rcases hb with hb | ⟨us2,h8,hb⟩
               · rw [hG0j] at hb
                 cases hb
                 obtain ⟨_,_,cap,cells,_,fz,a5,_⟩:=hslz.slice hc
                 rw [p1] at a5; cases a5
               · rw [hG0u] at h8; cases h8
                 exact (hus1 c (by simpa using hb)).2 hc
             · rw [uba_,if_neg hij] at hi
               exact hij (m0.sep i j o' _ c hi hkσ hb (.inr ⟨us,g0.val _ _ _ q2,hin⟩)))
           refine ⟨G',g0.trans g1,?_,_,rfl,z,hval,?_,rfl⟩
           · have e3:u3_ σ [(self,some (.sl el t' ((uck_ eq a es).getD []) 0 false)),(j,some (.mg el k' t' es (some a) (self+1)))]=u3_ (u3_ σ [(j,some (.mg el k' t' es (some a) (self+1)))]) [(self,some (.sl el t' ((uck_ eq a es).getD []) 0 false))] :=
              uu_ σ [(self,some (.sl el t' ((uck_ eq a es).getD []) 0 false))] [(j,some (.mg el k' t' es (some a) (self+1)))]
             show MemS P fr (uo7_ free self) (u3_ σ [(self,some (.sl el t' ((uck_ eq a es).getD []) 0 false)),(j,some (.mg el k' t' es (some a) (self+1)))]) w G'
             rw [e3]
             exact m2.shrink fun i hi=>⟨⟨hi.1,fun e=>by
              have:=hi.2
              subst e
              rw [ubk2_] at this; cases this⟩,fun e=>by
              have:=hi.2
              subst e
              rw [ubgc_] at this; cases this⟩
           · rcases hslz with ⟨rfl,_⟩ | ⟨b,cap,cs,rfl,_⟩ <;> rfl
         · cases hr
     · cases hr
   · cases hr
 · cases hr
theorem MgOK.put {fr:Fr} {w w':World} {I:Im} {el:Nat} {k t:Ty} {eq:k.T→k.T→Bool} (heq:keyEq k=some eq) {es:List (k.T×List t.T)} {tk:Option k.T} {us:List Value} {bl clock:Nat} {ents:Array MapEntry}
 (h:MgOK fr w I el k t es tk us (.map (some bl))) (hb:w.heap[bl]? = some (.map ents clock)) {a:k.T} {xs:List t.T} {vx:Value} (hx:SlOK fr w I el t xs false vx) (htk:tk=none∨tk=some a)
 (hne:∀ c,bkVal vx=.map (some c)→Value.map (some c) ∉ us) (e:Ext w I w' I) (hw:∀ b',b'≠bl→w'.heap[b']? = w.heap[b']?) {ents':Array MapEntry} {clock':Nat} (hh:w'.heap[bl]? = some (.map ents' clock')) {en:MapEntry} (hk:VRel w I k a en.key) (hv:en.val=vx) (hst:Stamped ents' clock')
 (hp:(putKV eq a xs es=es++[(a,xs)]∧(∀ q∈es,eq a q.1=false)∧ents'.toList=ents.toList++[en])∨(∃ j q,es[j]? = some q∧eq a q.1=true∧putKV eq a xs es=es.set j (a,xs)∧ents'.toList=ents.toList.set j en)) :
 ∃ us',MgOK fr w' I el k t (putKV eq a xs es) none us' (.map (some bl))∧∀ c,Value.map (some c)∈us'→Value.map (some c)∈us∨bkVal vx=.map (some c):=by
 have hbn:∀ {ys:List t.T} {v:Value},SlOK fr w I el t ys false v→SlOK fr w' I el t ys false v:=by
  intro ys v hs
  refine hs.keep e fun c hc=>⟨hw c fun ec=>?_,fun _ h=>h,fun h=>h⟩
  obtain ⟨_,_,cap,cells,_,fz,a5,_⟩:=hs.slice hc
  rw [ec,hb] at a5; cases a5
 obtain ⟨bl',ents0,clock0,h0,p1,⟨p2,_⟩,p3,p4,p5,p6,p7,p8,p9⟩:=h
 cases h0
 rw [hb] at p1
 cases p1
 have hsz:∀ i:Nat,ents[i]? = ents.toList[i]?:=fun i=>by rw [Array.getElem?_toList]
 have hold:∀ (i:Nat) (x:k.T×List t.T) (e':MapEntry) (u:Value),es[i]? = some x→ents[i]? = some e'→us[i]? = some u→x.1≠a →
  VRel w' I k x.1 e'.key∧SlOK fr w' I el t x.2 false e'.val∧u=bkVal e'.val:=by
  intro i x e' u h1 h2 h3 hxa
  obtain ⟨b1,b2⟩:=p4 i x e' u h1 h2 h3
  rcases b2 with ⟨b2,_⟩ | ⟨b2,b3⟩
  · exfalso
    rcases htk with htk | htk
    · rw [htk] at b2; cases b2
    · rw [htk] at b2
      exact hxa (Option.some.inj b2).symm
  · exact ⟨b1.ext e,hbn b2,b3⟩
 rcases hp with ⟨c1,c2,c3⟩ | ⟨j,q,c1,c2,c3,c4⟩
 · have hna:∀ q∈es,q.1≠a:=fun q hq e1=>by
    have:=c2 q hq
    rw [e1,(ubru_ heq a a).2 rfl] at this; cases this
   refine ⟨us++[bkVal vx],⟨bl,ents',clock',rfl,hh,⟨?_,hst⟩,by rw [c1]; simp [p3],fun i x e' u h1 h2 h3=>?_,fun i1 i2 c h1 h2=>?_,?_,p7,p8,p9⟩,fun c hc=>?_⟩
   · rw [← Array.length_toList,c3,c1]; simp [p2]
   · rw [c1] at h1
     rw [← Array.getElem?_toList,c3] at h2
     by_cases hlt:i<es.length
     · rw [List.getElem?_append_left hlt] at h1
       rw [List.getElem?_append_left (by rw [Array.length_toList,p2]; exact hlt),← hsz] at h2
       rw [List.getElem?_append_left (by rw [p3]; exact hlt)] at h3
       obtain ⟨d1,d2⟩:=hold i x e' u h1 h2 h3 (hna x (List.mem_of_getElem? h1))
       exact ⟨d1,.inr d2⟩
     · have hle:es.length≤i:=Nat.le_of_not_lt hlt
       rw [List.getElem?_append_right hle] at h1
       rw [List.getElem?_append_right (by rw [Array.length_toList,p2]; exact hle),Array.length_toList,p2] at h2
       rw [List.getElem?_append_right (by rw [p3]; exact hle),p3] at h3
       have h0:i-es.length=0:=by
        have:=(List.getElem?_eq_some_iff.1 h1).1
        simp at this; omega
       rw [h0] at h1 h2 h3
       cases h1; cases h2; cases h3
       exact ⟨hk.ext e,.inr ⟨hv▸hbn hx,by rw [hv]⟩⟩
   · have key:∀ i:Nat,(us++[bkVal vx])[i]? = some (Value.map (some c))→(us[i]? = some (Value.map (some c))∨(i=us.length∧bkVal vx=.map (some c))):=by
      intro i h
      by_cases hlt:i<us.length
      · rw [List.getElem?_append_left hlt] at h; exact .inl h
      · rw [List.getElem?_append_right (Nat.le_of_not_lt hlt)] at h
        have h0:i-us.length=0:=by
         have:=(List.getElem?_eq_some_iff.1 h).1
         simp at this; omega
        rw [h0] at h
        exact .inr ⟨by omega,by simpa using h⟩
     rcases key i1 h1 with k1 | ⟨k1,k1'⟩ <;> rcases key i2 h2 with k2 | ⟨k2,k2'⟩
     · exact p5 i1 i2 c k1 k2
     · exact absurd (List.mem_of_getElem? k1) (hne c k2')
     · exact absurd (List.mem_of_getElem? k2) (hne c k1')
     · omega
   · rw [c1,List.map_append,List.nodup_append]
     refine ⟨p6,by simp,fun y hy z hz=>?_⟩
     obtain ⟨q,hq,rfl⟩:=List.mem_map.1 hy
     have hz:z=a:=by simpa using hz
     rw [hz]; exact hna q hq
   · rcases List.mem_append.1 hc with h | h
     · exact .inl h
     · have h:Value.map (some c)=bkVal vx:=by simpa using h
       exact .inr h.symm
 · have hq:a=q.1:=(ubru_ heq _ _).1 c2
   have hj:j<es.length:=(List.getElem?_eq_some_iff.1 c1).1
   have hinj:∀ (i:Nat) (x:k.T×List t.T),es[i]? = some x→i≠j→x.1≠a:=by
    intro i x hi hij e1
    have h1:(es.map (·.1))[i]? = some a:=by rw [List.getElem?_map,hi,← e1]; rfl
    have h2:(es.map (·.1))[j]? = some a:=by rw [List.getElem?_map,c1,hq]; rfl
    have hi':i<(es.map (·.1)).length:=(List.getElem?_eq_some_iff.1 h1).1
    exact hij ((List.getElem?_inj hi' p6).1 (h1.trans h2.symm))
   refine ⟨us.set j (bkVal vx),⟨bl,ents',clock',rfl,hh,⟨?_,hst⟩,by rw [c3]; simp [p3],fun i x e' u h1 h2 h3=>?_,fun i1 i2 c h1 h2=>?_,?_,p7,p8,p9⟩,fun c hc=>?_⟩
   · rw [← Array.length_toList,c4,c3]; simp [p2]
   · rw [c3] at h1
     rw [← Array.getElem?_toList,c4] at h2
     by_cases hij:j=i
     · subst hij
       rw [List.getElem?_set_self hj] at h1
       rw [List.getElem?_set_self (by rw [Array.length_toList,p2]; exact hj)] at h2
       rw [List.getElem?_set_self (by rw [p3]; exact hj)] at h3
       cases h1; cases h2; cases h3
       exact ⟨hk.ext e,.inr ⟨hv▸hbn hx,by rw [hv]⟩⟩
     · rw [List.getElem?_set_ne hij] at h1 h2 h3
       rw [← hsz] at h2
       obtain ⟨d1,d2⟩:=hold i x e' u h1 h2 h3 (hinj i x h1 (fun h=>hij h.symm))
       exact ⟨d1,.inr d2⟩
   · have key:∀ i:Nat,(us.set j (bkVal vx))[i]? = some (Value.map (some c))→((i≠j∧us[i]? = some (Value.map (some c)))∨(i=j∧bkVal vx=.map (some c))):=by
      intro i h
      by_cases hij:j=i
      · subst hij
        rw [List.getElem?_set_self (by rw [p3]; exact hj)] at h
        exact .inr ⟨rfl,Option.some.inj h⟩
      · rw [List.getElem?_set_ne hij] at h; exact .inl ⟨fun h=>hij h.symm,h⟩
     rcases key i1 h1 with ⟨_,k1⟩ | ⟨k1,k1'⟩ <;> rcases key i2 h2 with ⟨_,k2⟩ | ⟨k2,k2'⟩
     · exact p5 i1 i2 c k1 k2
     · exact absurd (List.mem_of_getElem? k1) (hne c k2')
     · exact absurd (List.mem_of_getElem? k2) (hne c k1')
     · omega
   · rw [c3,List.map_set,hq]
     have:(es.map (·.1)).set j q.1=es.map (·.1):=by
      apply List.ext_getElem?
      intro n
      by_cases hn:j=n
      · subst hn
        rw [List.getElem?_set_self (by simpa using hj),List.getElem?_map,c1]; rfl
      · rw [List.getElem?_set_ne hn]
     rw [this]; exact p6
   · rcases List.mem_or_eq_of_mem_set hc with h | h
     · exact .inl h
     · exact .inr h.symm
theorem ub8u_ {t:Ty} {id:Nat} (hl:Lay P t id) (hm:MemS P fr free σ w G) (hσ:∀ k o,σ' k=some o→σ k=some o) (hself1:free (self+1)) {m s sx:SV} {vm vk vx:Value} {r:OpRes} {u:Upd}
 (hr:ucau_ σ' self t m s sx=some r) (hu:Gives r u) (hsm:SR P w G m vm) (hs:SR P w G s vk) (hsx:SR P w G sx vx) :
 ∃ w',(Instr.mapUpdate id vm vk vx).run P w=.ok () w'∧Res P fr free self σ w G u undef w':=by
 unfold ucau_ at hr
 split at hr
 · rename_i k v
   split at hr
   · rename_i j g i h
     split at hr
     · rename_i el k' t' es tk gk id2 t2 xs h2 hkj hki
       cases hb:(Nat.beq g 0&&((k'.same k&&(Ty.slice t').same v)&&(Nat.beq h 0&&(Nat.beq h2 0&&(Nat.beq el id2 && !(Nat.beq i j)))))) with
       | false=>rw [hb] at hr; cases hr
       | true =>
         rw [hb] at hr
         simp only [cond_true] at hr
         simp only [Bool.and_eq_true,Bool.not_eq_true'] at hb
         obtain ⟨b1,⟨b2,b3⟩,b4,b5,b6,b7⟩:=hb
         have e1:=Nat.eq_of_beq_eq_true b1
         have e2:=Ty.same_eq b2
         have e3:=Ty.same_eq b3
         have e4:=Nat.eq_of_beq_eq_true b4
         have e5:=Nat.eq_of_beq_eq_true b5
         have e6:=Nat.eq_of_beq_eq_true b6
         subst e1 e2 e3 e4 e5 e6
         have hij:i≠j:=fun e=>by rw [e,Nat.beq_refl] at b7; cases b7
         split at hr
         · rename_i eq a ys heq ha hys
           obtain ⟨ety,ey⟩:=Ty.cast?_some hys
           injection ety with ety
           subst ety
           cases ey
           have hfin:tk=none∨tk=some a→∃ w',(Instr.mapUpdate id vm vk vx).run P w=.ok () w'∧Res P fr free self σ w G ⟨.undef,[(j,some (.mg el k' t2 (putKV eq a xs es) none (self+1))),(i,none)]⟩ undef w':=by
            intro htk
            have hkσ:=hσ _ _ hkj
            have hiσ:=hσ _ _ hki
            obtain ⟨cv,us,q1,q2,hmg⟩:=hm.objs _ _ hkσ
            obtain ⟨_,vx',x1,x2⟩:=hm.objs _ _ hiσ
            have hvx:=ub3v_ hsx
            rw [x1] at hvx
            cases hvx
            obtain ⟨bl,ents,clock,he0,hh,hents⟩:=hmg.ents
            subst he0
            have hvm:=ub3v_ hsm
            rw [q1] at hvm
            cases hvm
            have hmgb:=hmg
            obtain ⟨bl',ents0,clock0,h0,p1,p2,p3,p4,p5,p6,p7,p8,p9⟩:=hmgb
            cases h0
            rw [hh] at p1
            cases p1
            obtain ⟨ka,va,hun,hlk,hlv⟩:=hl.map
            have hav:VRel w G.im k' a vk:=as_ok ha hs
            obtain ⟨d,hd,hkey⟩:=ucbc_ (P:=P) (w:=w) (I:=G.im) hlk heq
            have hck:=run_checkKey (P:=P) (w:=w) hd (hkey.key _ _ hav) false 9999
            have hset:=fun o'=>heap_set (o':=o') hh
            have hbi:∀ c,bkVal vx=.map (some c)→Bk G i (.sl el t2 xs 0 false) c:=by
             intro c hc
             obtain ⟨_,_,cap,cells,e1,_⟩:=x2.slice hc
             simp only [Bk,x1,e1]
            have hne:∀ c,bkVal vx=.map (some c)→Value.map (some c) ∉ us.toList:=fun c hc hin=>hij (hm.sep i j _ _ c hiσ hkσ (hbi c hc) (.inr ⟨us,q2,hin⟩))
            have fin:∀ (ents':Array MapEntry) (clock':Nat) (en:MapEntry),VRel w G.im k' a en.key→en.val=vx→Stamped ents' clock' →
             ((putKV eq a xs es=es++[(a,xs)]∧(∀ q∈es,eq a q.1=false)∧ents'.toList=ents.toList++[en])∨(∃ j q,es[j]? = some q∧eq a q.1=true∧putKV eq a xs es=es.set j (a,xs)∧ents'.toList=ents.toList.set j en)) →
             Res P fr free self σ w G ⟨.undef,[(j,some (.mg el k' t2 (putKV eq a xs es) none (self+1))),(i,none)]⟩ undef { w with heap:=w.heap.setIfInBounds bl (.map ents' clock') }:=by
             intro ents' clock' en hen1 hen2 hst hp
             obtain ⟨s1,s2⟩:=hset (.map ents' clock')
             have m0:=hm.drop i
             have hd0:∀ y o,u3_ σ [(i,none)] y=some o→y≠i∧σ y=some o:=by
              intro y o hy
              rw [uba_] at hy
              by_cases e:y=i
              · rw [if_pos e] at hy; cases hy
              · rw [if_neg e] at hy; exact ⟨e,hy⟩
             have hle0:GLe w G { w with heap:=w.heap.setIfInBounds bl (.map ents' clock') } G:=GLe.of_heap (b:=bl) (fun b' hne=>s2 b' hne) p8 p7
             obtain ⟨us',hmg',hus'⟩:=hmg.put heq hh x2 htk hne hle0.ext (w':={ w with heap:=w.heap.setIfInBounds bl (.map ents' clock') }) (fun b' hne=>s2 b' hne) s1 hen1 hen2 hst hp
             obtain ⟨g1,m1⟩:=m0.ghost hself1 (.tuple us'.toArray)
             let G0:Gh:=G.addVal (self+1) 0 (.tuple us'.toArray)
             have m1:MemS P fr (fun j=>free j∧j≠self+1) (u3_ σ [(i,none)]) w G0:=m1
             have g1:GLe w G w G0:=g1
             have hus0:G0.val (self+1) 0=some (.tuple us'.toArray):=by simp [G0,Gh.addVal]
             have hle:GLe w G0 { w with heap:=w.heap.setIfInBounds bl (.map ents' clock') } G0:=GLe.of_heap (b:=bl) (fun b' hne=>s2 b' hne) p8 p7
             have m2:=m1.change (w':={ w with heap:=w.heap.setIfInBounds bl (.map ents' clock') }) (G':=G0) (b:=bl) (k:=j) (o':=some (.mg el k' t2 (putKV eq a xs es) none (self+1))) (free':=uo7_ free self) hle
              (fun y o hy hoy hby=>by
               obtain ⟨hyi,hoy⟩:=hd0 y o hoy
               exact hy (hm.sep y j o _ bl hoy hkσ (by rw [← ufb_ (hm.objs y o hoy) g1]; exact hby) (.inl q1)))
              (fun b' _ hne=>s2 b' hne) (by simp) (by simpa using usr_ hh) p9 (fun _ _ h=>.inl h) (fun _ h=>.inl h) rfl rfl rfl
              (fun o ho=>by
               cases ho
               refine ⟨⟨_,us'.toArray,g1.val _ _ _ q1,hus0,(by simpa using hmg':MgOK fr { w with heap:=w.heap.setIfInBounds bl (.map ents' clock') } G.im el k' t2 (putKV eq a xs es) none us'.toArray.toList (.map (some bl)))⟩,fun c hc=>?_⟩
               rcases hc with hc | ⟨us2,h8,hc⟩
               · rw [g1.val _ _ _ q1] at hc; cases hc; exact .inl rfl
               · rw [hus0] at h8; cases h8
                 refine .inr fun y oy hy hoy hby=>?_
                 obtain ⟨hyi,hoy⟩:=hd0 y oy hoy
                 rw [ufb_ (hm.objs y oy hoy) g1] at hby
                 rcases hus' c (by simpa using hc) with h | h
                 · exact hy (hm.sep y j oy _ c hoy hkσ hby (.inr ⟨us,q2,h⟩))
                 · exact hyi (hm.sep y i oy _ c hoy hiσ hby (hbi c h)))
              (fun y hy=>by
               have hf:=hm.fresh y hy.1
               have hy1:y≠self+1:=fun e=>by
                have:=hy.2
                rw [e,ubk2_] at this; cases this
               exact ⟨fun e=>(by rw [e,hkσ] at hf; cases hf.1),⟨hy.1,hy1⟩,hf.2.1,hf.2.2.1,fun g=>by simp only [G0,Gh.addVal,hy1,false_and,if_false]; exact hf.2.2.2 g⟩)
             refine ⟨G0,g1.trans hle,?_,_,rfl,trivial⟩
             have e3:u3_ σ [(j,some (.mg el k' t2 (putKV eq a xs es) none (self+1))),(i,none)]=u3_ (u3_ σ [(i,none)]) [(j,some (.mg el k' t2 (putKV eq a xs es) none (self+1)))] :=
              uu_ σ [(j,some (.mg el k' t2 (putKV eq a xs es) none (self+1)))] [(i,none)]
             show MemS P fr (uo7_ free self) (u3_ σ [(j,some (.mg el k' t2 (putKV eq a xs es) none (self+1))),(i,none)]) _ G0
             rw [e3]
             exact m2
            rcases ucaa_ (P:=P) (v:=.slice t2) hkey hav es ents.toList 0 hents with ⟨a1,a2,a3,a4,a8⟩ | ⟨i',e,q,a1,a2,a3,a4,a5,a6,a7,a8⟩
            · have hf:=run_findKey (P:=P) (w:=w) hd a1
              refine ⟨_,?_,fin (ents.push { key:=vk,val:=vx,born:=clock }) (clock+1) { key:=vk,val:=vx,born:=clock } hav rfl (stamped_push p2.2 a8) (.inl ⟨a3 xs,a4,Array.toList_push⟩)⟩
              simp [Instr.mapUpdate,run_underlying hun,run_getObj_map hh,hck,hf,run_setObj_map _ hh]
            · have hf:=run_findKey (P:=P) (w:=w) hd a1
              rw [Nat.zero_add] at hf
              have a2':ents[i']? = some e:=by rw [← Array.getElem?_toList]; exact a2
              refine ⟨_,?_,fin (ents.modify i' fun e=>{ e with key:=vk,val:=vx }) clock { e with key:=vk,val:=vx } hav rfl (stamped_modify p2.2 i' _ (fun _ _=>rfl) (fun e' _ h=>by rw [a2'] at h; cases h; exact a8.symm)) (.inr ⟨i',q,a3,a4,a7 xs,?_⟩)⟩
              · simp [Instr.mapUpdate,run_underlying hun,run_getObj_map hh,hck,hf,a2',Instr.keyThatStays,a6,run_setObj_map _ hh]
              · apply List.ext_getElem?
                intro n
                rw [Array.getElem?_toList,Array.getElem?_modify]
                by_cases hin:i'=n
                · subst hin
                  rw [if_pos rfl,a2',List.getElem?_set_self (by have:=(Array.getElem?_eq_some_iff.1 a2').1; simpa using this)]
                  rfl
                · rw [if_neg hin,List.getElem?_set_ne hin,Array.getElem?_toList]
           cases tk with
           | none =>
             cases hr
             rw [hu.pure_inv]
             exact hfin (.inl rfl)
           | some q =>
             cases hr
             obtain ⟨y,hy,rfl⟩:=hu.may_inv
             have hqa:eq q a=true:=by
              cases hqa:eq q a with
              | true=>rfl
              | false=>rw [hqa] at hy; cases hy
             exact hfin (.inr (by rw [(ubru_ heq _ _).1 hqa]))
         · cases hr
     · cases hr
   · cases hr
 · cases hr
end
end Go.Ev
namespace Go.Ev
variable [Pins]
section
variable {P:Program} {fr:Fr} {free free':Nat→Prop} {self:Nat} {σ σ':Nat→Option Obj} {w w':World} {G G':Gh} {I:Im}
theorem ubnx_ {bss:List (List Nat)} {i:Nat} {c:List Nat} (h:i<bss.length):(bss.set i c).flatten=(bss.take i).flatten++(c++(bss.drop (i+1)).flatten):=by
 rw [List.set_eq_take_append_cons_drop,if_pos h]
 simp
theorem ubza_ {bss:List (List Nat)} {i:Nat} (h:i<bss.length):bss.flatten=(bss.take i).flatten++(bss.getD i []++(bss.drop (i+1)).flatten):=by
 have:=ubnx_ (c:=bss.getD i []) h
 rw [← this]
 congr 1
 rw [List.getD_eq_getElem?_getD,List.getElem?_eq_getElem h]
 simp
theorem ub6c_ {bss:List (List Nat)} {i j:Nat} {c:List Nat} (h:i<bss.length):(bss.set i c).getD j []=if i=j then c else bss.getD j []:=by
 rw [List.getD_eq_getElem?_getD,List.getD_eq_getElem?_getD,List.getElem?_set]
 by_cases e:i=j
 · subst e; simp [h]
 · simp [e]
theorem ubzb_ {i:Nat}:ub3d_ none i=none:=rfl
theorem ubzc_ {i j:Nat}:ub3d_ (some [j]) i=if j=i then some [] else none:=by
 simp only [ub3d_]
 by_cases h:j=i
 · subst h; simp [Nat.beq_refl]
 · rw [if_neg h,show Nat.beq j i=false by rw [← Bool.not_eq_true]; exact fun hh=>h (Nat.eq_of_beq_eq_true hh)]; rfl
theorem DV.inv1 {ow:Nat→Prop} {id:Nat} {t:Ty} {xs:List t.T} {v:Value} {bs:List Nat} (h:DV ow w I t [id] xs none [v] bs) :
 (v=.slice none 0 0∧xs=[]∧bs=[])∨∃ b o cap cells,v=.slice (some ⟨b,o,none⟩) xs.length cap∧bs=[b]∧LenOK xs.length cap∧RowAt w b cells id∧o+cap*t.sz≤cells.size∧ow b ∧
  (∀ c,¬ I.cell b c)∧¬ I.obj b∧RowsOK w I t xs (cells.toList.drop o):=by
 have h0:=h
 obtain ⟨v',h1,_,h2⟩:=h0
 have e:v=v':=List.singleton_inj.1 h1
 subst e
 rcases h2 with ⟨h2,_⟩ | ⟨_,h3,h4,h5⟩ | ⟨_,b,o,cap,_,_,hv,_⟩
 · cases h2
 · exact .inl ⟨h3,h4,h5⟩
 · obtain ⟨cells,h3,q1,q2,q3,q4,q5,q6,q7,q9⟩:=h.leaf hv
   exact .inr ⟨b,o,cap,cells,hv,q7,q1,q2,q3,q4,q5,q6,fun i x hx=>by rw [List.drop_drop]; exact q9 i x hx⟩
theorem DV.mk1 {ow:Nat→Prop} {id b o cap:Nat} {t:Ty} {xs:List t.T} {cells:Array Value} (q1:LenOK xs.length cap) (q2:RowAt w b cells id) (q3:o+cap*t.sz≤cells.size) (q4:ow b)
 (q5:∀ c,¬ I.cell b c) (q6:¬ I.obj b) (q9:RowsOK w I t xs (cells.toList.drop o)):DV ow w I t [id] xs none [.slice (some ⟨b,o,none⟩) xs.length cap] [b] :=
 DV.mkleaf q1 q2 q3 q4 q5 q6 fun i x hx=>by
  have:=q9 i x hx
  rw [List.drop_drop] at this; exact this
theorem ucbl_ {free:Nat→Prop} {self j:Nat} (h:uo7_ free self j):free j∧¬ (self≤j∧j<self+2):=by
 have h2:=h.2
 refine ⟨h.1,fun hj=>?_⟩
 have:ubc8_ self j=true:=by
  simp only [ubc8_,Nat.blt,Bool.and_eq_true]
  exact ⟨Nat.ble_eq_true_of_le hj.1,Nat.ble_eq_true_of_le (by omega)⟩
 rw [this] at h2; cases h2
theorem MemS.mk_dp (hm:MemS P fr free σ w G) (hself:free self) (hself1:free (self+1)) {id:Nat} {r:List Nat} {t:Ty} {x:(deep (id::r) t).T} {v:Value} {bs:List Nat}
 (hd:DV fr.owned w G.im t (id::r) x none [v] bs) (hnd:bs.Nodup) (hsep:∀ b∈bs,∀ j o,σ j=some o→¬ Bk G j o b) :
 ∃ G',GLe w G w G'∧MemS P fr (uo7_ free self) (u3_ σ [(self,some (.dp (id::r) t x (self+1) none true))]) w G'∧SR P w G' (.obj self 0) v:=by
 obtain ⟨G',h1,h2,_⟩:=ub97_ (n:=self) hm (ids:=id::r) (t:=t) (x:=x) (cs:=[v]) ⟨(by intro h; cases h),hd.own fun _ _=>trivial⟩ hnd (fun b hb=>⟨(hd.blk b hb).2.1,hsep b hb⟩) (fun k h1 h2=>by
  rcases Nat.lt_or_ge self k with h | h
  · have:k=self+1:=by omega
    rw [this]; exact hself1
  · have:k=self:=by omega
    rw [this]; exact hself)
 exact ⟨G',h1.le,h1.mem.shrink fun j hj=>ucbl_ hj,[v],rfl,h2⟩
theorem ubvy_ {k:Nat} {id:Nat} {r:List Nat} {t:Ty} {x:(deep (id::r) t).T} {gk:Nat} {h:Option (List Nat)} {us:Array Value} {bs:List Nat} (h2:G.val gk 0=some (.tuple us)) (h3:us.toList=List.map ubdb_ bs) {b:Nat} :
 Bk G k (.dp (id::r) t x gk h true) b↔b∈bs:=by
 constructor
 · rintro ⟨_,us',h4,h5⟩
   rw [h2] at h4; cases h4
   exact (ubh3_ h3).1 h5
 · intro h; exact ⟨rfl,us,h2,(ubh3_ h3).2 h⟩
theorem MemS.touch (hm:MemS P fr free σ w G) {k b:Nat} (hnk:¬ free k) (hb:∀ j o,j≠k→σ j=some o→¬ Bk G j o b) (hC:∀ o,¬ G.im.cell b o) (hO:¬ G.im.obj b) (hown:fr.owned b)
 (hw:∀ b',b'<w.heap.size→b'≠b→w'.heap[b']? = w.heap[b']?) (hsz:w.heap.size≤w'.heap.size) (hbs:b<w'.heap.size)
 (hos:w'.os=w.os) (htape:w'.tape=w.tape) (hout:w'.output=w.output) :
 GLe w G w' G∧MemS P fr free (u3_ σ [(k,none)]) w' G:=by
 have hle:GLe w G w' G:=by
  refine ⟨⟨fun b' o h=>⟨h,?_⟩,fun b' h=>⟨h,?_⟩⟩,fun _ _ _ h=>h,fun _ _ h=>h,fun _ _ h=>h⟩
  · have:b'≠b:=fun e=>hC o (e▸h)
    simp only [World.cell?,hw b' (hm.after.inC b' o h) this]
  · exact hw b' (hm.after.inO b' h) (fun e=>hO (e▸h))
 refine ⟨hle,hm.change (b:=b) (o':=none) hle hb hw hsz hbs hown (fun _ _ h=>.inl h) (fun _ h=>.inl h) hos htape hout (fun o h=>by cases h) fun j hj=>?_⟩
 have hf:=hm.fresh j hj
 exact ⟨fun e=>hnk (e▸hj),hj,hf.2⟩
theorem ub6d_ {k:Nat} {o:Obj} (hm:MemS P fr free σ w G) (hk:σ k=some o):¬ free k:=fun h=>by
 have:=(hm.fresh k h).1
 rw [hk] at this; cases this
theorem ub3w_ {e':Ty} {id el ty k gk:Nat} (hl:Lay P (.slice e') id) (hel:∀ x,P.underlying id=some (.slice x)→el=x) (hm:MemS P fr free σ w G) (hself:free self) (hself1:free (self+1))
 {xs ys zs:List e'.T} {v vx:Value} (hkσ:σ k=some (.dp [el] e' xs gk none true)) (hs:SR P w G (.obj k 0) v) (hv0:SrcAt P w G.im e' id ys vx) (hz:app? (24*e'.sz) xs ys=some zs) :
 ∃ z w',(Builtin.append_ #[id,id] ty #[v,vx]).run P w=.ok z w'∧Res P fr free self σ w G ⟨.obj self 0,[(self,some (.dp [el] e' zs (self+1) none true)),(k,none)]⟩ z w':=by
 have hnk:=ub6d_ hm hkσ
 obtain ⟨_,hety,v',us,bs,k1,k2,k3,k4,k5⟩:=DpOK.inv (hm.objs _ _ hkσ)
 have hv:=ub3v_ hs
 rw [k1] at hv
 cases hv
 have hbk:∀ b,Bk G k (.dp [el] e' xs gk none true) b↔b∈bs:=fun b=>ubvy_ k2 k3
 obtain ⟨el',hun,hle,hpos⟩:=hl.slice
 have:=hel _ hun
 subst this
 obtain ⟨hB,hzs⟩:=ub5m_ hz
 subst hzs
 obtain ⟨i,z,h1,h2',h3,h4,h5,h6⟩:=ubkz_ (P:=P) (w:=w) (I:=G.im) hle
 have hvs:=hv0
 obtain ⟨news,s1,s2,s3⟩:=hvs
 rw [← h2'] at s1
 have fin:∀ {w':World} {b o cap:Nat} {cells:Array Value},(∀ j ob,j≠k→σ j=some ob→¬ Bk G j ob b)→(∀ c,¬ G.im.cell b c)→¬ G.im.obj b→fr.owned b →
  (∀ b',b'<w.heap.size→b'≠b→w'.heap[b']? = w.heap[b']?)→w.heap.size≤w'.heap.size→w'.os=w.os→w'.tape=w.tape→w'.output=w.output →
  LenOK (xs++ys).length cap→RowAt w' b cells el→o+cap*e'.sz≤cells.size→RowsOK w G.im e' (xs++ys) (cells.toList.drop o) →
  Res P fr free self σ w G ⟨.obj self 0,[(self,some (.dp [el] e' (xs++ys) (self+1) none true)),(k,none)]⟩ (.slice (some ⟨b,o,none⟩) (xs++ys).length cap) w':=by
  intro w' b o cap cells a1 a2 a3 a4 a5 a6 a7 a8 a9 a10 a11 a12 a13
  obtain ⟨g1,m1⟩:=hm.touch (w':=w') hnk a1 a2 a3 a4 a5 a6 a11.lt a7 a8 a9
  obtain ⟨G',g2,m2,m3⟩:=m1.mk_dp hself hself1 (id:=el) (r:=[]) (t:=e') (x:=(xs++ys:List e'.T)) (DV.mk1 (id:=el) (t:=e') a10 a11 a12 a4 a2 a3 (a13.ext g1.ext)) (by simp) (fun b' hb' j ob hj hbj=>by
   have:b'=b:=by simpa using hb'
   subst this
   rw [uba_] at hj
   by_cases e:j=k
   · rw [if_pos e] at hj; cases hj
   · rw [if_neg e] at hj; exact a1 j ob e hj hbj)
  exact ⟨G',g1.trans g2,by
   show MemS P fr (uo7_ free self) (u3_ σ ([(self,some (.dp [el] e' (xs++ys) (self+1) none true))]++[(k,none)])) w' G'
   rw [uu_]; exact m2,m3⟩
 have hnew:(∀ j ob,j≠k→σ j=some ob→¬ Bk G j ob w.heap.size)∧(∀ c,¬ G.im.cell w.heap.size c)∧¬ G.im.obj w.heap.size :=
  ⟨fun j ob _ hj hbj=>absurd (ubkw_ (hm.objs j ob hj) hbj) (Nat.lt_irrefl _),fun c h=>absurd (hm.after.inC _ _ h) (Nat.lt_irrefl _),fun h=>absurd (hm.after.inO _ h) (Nat.lt_irrefl _)⟩
 have grow:∀ {base:Option Addr} {cap:Nat} {olds:List Value},cap<xs.length+ys.length→(Builtin.firstCells e'.sz xs.length (.slice base xs.length cap)).run P w.drew=.ok olds.toArray w.drew →
  olds.length=xs.length*e'.sz→RowsOK w G.im e' xs olds→∃ z w',(Builtin.append_ #[id,id] ty #[.slice base xs.length cap,vx]).run P w=.ok z w' ∧
  Res P fr free self σ w G ⟨.obj self 0,[(self,some (.dp [el] e' (xs++ys) (self+1) none true)),(k,none)]⟩ z w':=by
  intro base cap olds hcap hold hol hor
  have hbig:(xs.length+ys.length)*i.bytes≤140737488355328:=by
   have:(xs.length+ys.length)*i.bytes≤(xs.length+ys.length)*(24*e'.sz):=Nat.mul_le_mul_left _ h3
   have hB:(xs.length+ys.length)*(24*e'.sz)≤70368744177664:=hB
   omega
  have hB:(xs.length+ys.length)*(24*e'.sz)≤70368744177664:=hB
  have h63:xs.length+ys.length≤70368744177664:=by
   have:(xs.length+ys.length)*1≤(xs.length+ys.length)*(24*e'.sz):=Nat.mul_le_mul_left _ (by omega)
   omega
  have hrun:=run_append_grow_src w id id ty el i z hun h1 h4 base xs.length cap olds (by rw [h2']; exact hold) vx ys.length news s1 hcap (by omega) (growslice_fits hcap hbig)
  have hge:=grownCap_ge w (xs.length+ys.length) cap el
  have hzs:z.cells.size=e'.sz:=by have:=h6.length; simpa using this
  have:=fin (w':=w.drew.alloc (.cells ((olds++news).toArray++Builtin.zeroCells z.cells (grownCap w (xs.length+ys.length) cap el-(xs.length+ys.length))) el)) (b:=w.heap.size) (o:=0)
   (cap:=grownCap w (xs.length+ys.length) cap el) (cells:=((olds++news).toArray++Builtin.zeroCells z.cells (grownCap w (xs.length+ys.length) cap el-(xs.length+ys.length))))
   hnew.1 hnew.2.1 hnew.2.2 hm.owned_new (fun b' h _=>by show (w.heap.push _)[b']? = _; rw [Array.getElem?_push_lt h,Array.getElem?_eq_getElem h]) (by show _≤(w.heap.push _).size; simp) rfl rfl rfl
   (by rw [List.length_append]; exact ⟨hge,by omega⟩) ⟨(0,0),by show (w.heap.push _)[_]? = _; rw [Array.getElem?_push_size],.inl (Nat.le_refl _)⟩
   (by
    rw [Nat.zero_add,Array.size_append,size_zeroCells,hzs,List.size_toArray,List.length_append,hol,s2,← Nat.add_mul,← Nat.add_mul]
    refine Nat.mul_le_mul_right _ ?_
    omega)
   (by
    rw [List.drop_zero,Array.toList_append,List.append_assoc]
    exact RowsOK.append hor s3 hol s2)
  rw [List.length_append] at this
  exact ⟨_,_,hrun,this⟩
 rcases k5.inv1 with ⟨rfl,hx0,hb0⟩ | ⟨b,o,cap,cells,rfl,hb0,hcap,hrow,hsz,hown,hC,hO,hrows⟩
 · have hx0:xs=([]:List e'.T):=hx0
   subst hx0
   by_cases h0:ys.length=0
   · have hy:ys=[]:=List.eq_nil_of_length_eq_zero h0
     subst hy
     have hn:news=[]:=List.eq_nil_of_length_eq_zero (by simpa using s2)
     subst hn
     have m0:=hm.drop k
     obtain ⟨G',g2,m2,m3⟩:=m0.mk_dp hself hself1 (id:=el) (r:=[]) (t:=e') (x:=([]:List e'.T)) (v:=.slice none 0 0) (bs:=[]) ⟨_,rfl,rfl,.inr (.inl ⟨(by intro h; cases h),rfl,rfl,rfl⟩)⟩ List.nodup_nil (fun b hb=>by cases hb)
     refine ⟨.slice none 0 0,w,?_,G',g2,?_,m3⟩
     · have hl1:=s1.len w
       have hc1:=s1.cells
       simp at hc1
       rcases s1.kind with ⟨e',hk⟩ | hk <;> simp [Builtin.append_,run_underlying hun,run_underlying hk,sizeOf,typeInfo,h1,hl1,hc1]
     · show MemS P fr (uo7_ free self) (u3_ σ ([(self,some (.dp [el] e' [] (self+1) none true))]++[(k,none)])) w G'
       rw [uu_]; exact m2
   · exact grow (base:=none) (cap:=0) (olds:=[]) (by simp; omega) (run_firstCells_none _ _ _ _ _) (by simp) (fun i x hx=>by simp at hx)
 · have hbin:∀ j ob,j≠k→σ j=some ob→¬ Bk G j ob b:=fun j ob hj ho hbj=>hj (hm.sep j k ob _ b ho hkσ hbj ((hbk b).2 (by rw [hb0]; simp)))
   have hle2:xs.length*e'.sz≤cap*e'.sz:=Nat.mul_le_mul_right _ hcap.1
   have hfull:o+xs.length*e'.sz≤cells.size:=by omega
   have hcell:∀ o,w.cell? ⟨b,o,none⟩=cells.toList[o]?:=hrow.cell
   have hB':(xs.length+ys.length)*(24*e'.sz)≤70368744177664:=hB
   by_cases hroom:xs.length+ys.length≤cap
   · have hroom2:(xs.length+ys.length)*e'.sz≤cap*e'.sz:=Nat.mul_le_mul_right _ hroom
     rw [Nat.add_mul] at hroom2
     have hfit:o+xs.length*e'.sz+news.length≤cells.size:=by rw [s2]; omega
     obtain ⟨fz,hb1,hfz⟩:=(show RowAt w b cells el from hrow)
     have hst:=uoe_ P b (o+xs.length*e'.sz) el fz news 0 cells w hb1 hfz (by omega) s1.one
     have hrun:(Builtin.append_ #[id,id] ty #[.slice (some ⟨b,o,none⟩) xs.length cap,vx]).run P w =
      .ok (.slice (some ⟨b,o,none⟩) (xs.length+ys.length) cap) (w.setRow b (ucf_ cells.toList (o+xs.length*e'.sz) news).toArray):=by
      have hl1:=s1.len w
      have hc1:=s1.cells
      rw [h2'] at hc1
      simp only [Nat.add_zero] at hst
      rcases s1.kind with ⟨e',hk2⟩ | hk2 <;> simp [Builtin.append_,run_underlying hun,run_underlying hk2,sizeOf,typeInfo,h1,h2',hl1,hroom,hc1,Addr.add_lit,hst,ucf_]
     have hspl:(ucf_ cells.toList (o+xs.length*e'.sz) news).length=cells.size:=by rw [ujl_ (by simpa using hfit)]; simp
     have:=fin (w':=w.setRow b (ucf_ cells.toList (o+xs.length*e'.sz) news).toArray) (b:=b) (o:=o) (cap:=cap) (cells:=(ucf_ cells.toList (o+xs.length*e'.sz) news).toArray)
      hbin hC hO hown (fun b' _ hne=>setRow_other w b b' _ hne) (by simp) rfl rfl rfl
      (by
       rw [List.length_append]
       have h63:(xs.length+ys.length)*1≤(xs.length+ys.length)*(24*e'.sz):=Nat.mul_le_mul_left _ (by omega)
       exact ⟨hroom,by omega⟩) (hrow.set (by rw [List.size_toArray,hspl])) (by rw [List.size_toArray,hspl]; exact hsz)
      (by
       show RowsOK w G.im e' (xs++ys) ((ucf_ cells.toList (o+xs.length*e'.sz) news).drop o)
       rw [ubvq_ (by simpa using hfit)]
       exact RowsOK.append (RowsOK.take hrows (Nat.le_refl _)) s3 (by simp; omega) s2)
     rw [List.length_append] at this
     exact ⟨_,_,hrun,this⟩
   · exact grow (base:=some ⟨b,o,none⟩) (cap:=cap) (olds:=(cells.toList.drop o).take (xs.length*e'.sz)) (by omega)
      (run_firstCells_some _ _ _ _ _ _ _ (by simp; omega) (fun j u hj=>by
       rw [World.cell?_drew,Addr.add_lit,hcell]
       rw [List.getElem?_take] at hj
       split at hj
       · rw [List.getElem?_drop] at hj; exact hj
       · cases hj)) (by simp; omega) (RowsOK.take hrows (Nat.le_refl _))
theorem ub06_ {t:Ty} {id el ty:Nat} (hl:Lay P t id) (hel:∀ x,P.underlying id=some (.slice x)→el=x) (hm:MemS P fr free σ w G) (hσ:∀ k o,σ' k=some o→σ k=some o) (hself:free self) (hself1:free (self+1))
 {s sx:SV} {v vx:Value} {r:OpRes} {u:Upd} (hr:ubro_ σ' self el t s sx=some r) (hu:Gives r u) (hs:SR P w G s v) (hsx:SR P w G sx vx) :
 ∃ z w',(Builtin.append_ #[id,id] ty #[v,vx]).run P w=.ok z w'∧Res P fr free self σ w G u z w':=by
 have ho:∀ k o,σ' k=some o→ObjOK P fr w G k o:=fun k o h=>hm.objs k o (hσ k o h)
 unfold ubro_ at hr
 split at hr
 · rename_i e k g
   split at hr
   · rename_i id' e' xs gk hk
     cases hb:(Nat.beq g 0&&(Nat.beq el id'&&e'.same e)) with
     | false=>rw [hb] at hr; cases hr
     | true =>
       rw [hb] at hr
       simp only [cond_true] at hr
       simp only [Bool.and_eq_true] at hb
       have e1:=Nat.eq_of_beq_eq_true hb.1
       have e2:=Nat.eq_of_beq_eq_true hb.2.1
       have e3:=Ty.same_eq hb.2.2
       subst e1 e2 e3
       split at hr
       · rename_i ys hys
         cases hr
         obtain ⟨zs,hz,rfl⟩:=hu.may_inv
         exact ub3w_ (xs:=xs) hl hel hm hself hself1 (hσ _ _ hk) hs (ubnv_ hl (ubgh_ ho hys hsx)) hz
       · cases hr
   · cases hr
 · cases hr
theorem ub3x_ {t:Ty} {id:Nat} (hl:Lay P t id) (hm:MemS P fr free σ w G) (hσ:∀ k o,σ' k=some o→σ k=some o) (hself:free self) (hself1:free (self+1))
 {s:SV} {v:Value} {lo hi:Option SV} {vlo vhi:Option Value} {r:OpRes} {u:Upd} (hr:ubr5_ σ' self t s lo hi=some r) (hu:Gives r u) (hs:SR P w G s v) (hlo:OptSR P w G lo vlo) (hhi:OptSR P w G hi vhi) :
 ∃ z,(Instr.sliceAt id v vlo vhi none).run P w=.ok z w∧Res P fr free self σ w G u z w:=by
 have key:∀ {k el:Nat} {e:Ty} {xs:List e.T} {ob:Obj} {bs:List Nat},t=.slice e→σ k=some ob→G.val k 0=some v→DV fr.owned w G.im e [el] xs none [v] bs→(∀ b∈bs,Bk G k ob b)→ub73_ self k el e xs lo hi=some r →
  ∃ z,(Instr.sliceAt id v vlo vhi none).run P w=.ok z w∧Res P fr free self σ w G u z w:=by
  intro k el e xs ob bs ht hkσ hval hdv hbk hr2
  subst ht
  obtain ⟨el',hun,hle,_⟩:=hl.slice
  obtain ⟨inf,z0,hinf,hisz,_,_,_⟩:=ubdc_ hle.inf
  have hc2:P.cellsOf el'=e.sz:=by simp [Program.cellsOf,hinf,hisz]
  unfold ub73_ at hr2
  split at hr2
  · rename_i l h' hbl hbh
    cases hr2
    obtain ⟨y,hy,rfl⟩:=hu.may_inv
    obtain ⟨h1,h2,h3,h4⟩:=cut?_some hy
    have hylen:y.length=h'.toNat-l.toNat:=by rw [h4]; simp only [List.length_drop,List.length_take]; omega
    have m0:=hm.drop k
    have fin:∀ {z:Value} {bs':List Nat},DV fr.owned w G.im e [el] y none [z] bs'→bs'.Nodup→(∀ b∈bs',b∈bs) →
     Res P fr free self σ w G ⟨.obj self 0,[(self,some (.dp [el] e y (self+1) none true)),(k,none)]⟩ z w:=by
     intro z bs' d1 d2 d3
     obtain ⟨G',g2,m2,m3⟩:=m0.mk_dp hself hself1 (id:=el) (r:=[]) (t:=e) (x:=(y:List e.T)) d1 d2 (fun b hb j o hj hbj=>by
      rw [uba_] at hj
      by_cases e:j=k
      · rw [if_pos e] at hj; cases hj
      · rw [if_neg e] at hj
        exact e (hm.sep j k o ob b hj hkσ hbj (hbk b (d3 b hb))))
     exact ⟨G',g2,by
      show MemS P fr (uo7_ free self) (u3_ σ ([(self,some (.dp [el] e y (self+1) none true))]++[(k,none)])) w G'
      rw [uu_]; exact m2,m3⟩
    rcases hdv.inv1 with ⟨rfl,rfl,_⟩ | ⟨b,o,cap,cells,rfl,hb0,hcap,hrow,hsz,hown,hC,hO,hrows⟩
    · have hsb:=usq_ (P:=P) (w:=w) (isS:=true) (len:=0) (cap:=0) (u5j_ hbl hlo) (u5j_ hbh hhi) h1 h2 (by simpa using h3)
      have hh0:h'.toNat=0:=by simp at h3; omega
      have hl0:l.toNat=0:=by omega
      have hy0:y=[]:=List.eq_nil_of_length_eq_zero (by omega)
      subst hy0
      refine ⟨.slice none 0 0,?_,fin (bs':=[]) ⟨_,rfl,rfl,.inr (.inl ⟨(by intro h; cases h),rfl,rfl,rfl⟩)⟩ List.nodup_nil (fun b hb=>by cases hb)⟩
      simp only [Instr.sliceAt,Sem.run_bind,run_underlying hun,Result.andThen_ok,Instr.slice,hsb,run_sizeOf w hinf,hc2,hh0,hl0]
      rfl
    · have hcap1:=hcap.1
      have hsb:=usq_ (P:=P) (w:=w) (isS:=true) (len:=xs.length) (cap:=cap) (u5j_ hbl hlo) (u5j_ hbh hhi) h1 h2 (by omega)
      have hrun:(Instr.sliceAt id (.slice (some ⟨b,o,none⟩) xs.length cap) vlo vhi none).run P w =
       .ok (.slice (if cap=l.toNat then some ⟨b,o,none⟩ else some ⟨b,o+l.toNat*e.sz,none⟩) (h'.toNat-l.toNat) (cap-l.toNat)) w:=by
       simp only [Instr.sliceAt,Sem.run_bind,run_underlying hun,Result.andThen_ok,Instr.slice,hsb,run_sizeOf w hinf,hc2,Option.map_some,uwb_]
       rfl
      have hmul:l.toNat*e.sz≤cap*e.sz:=Nat.mul_le_mul_right _ (by omega)
      refine ⟨_,hrun,?_⟩
      rw [← hylen]
      by_cases hcl:cap=l.toNat
      · rw [if_pos hcl]
        have hy0:y=[]:=List.eq_nil_of_length_eq_zero (by omega)
        subst hy0
        exact fin (DV.mk1 (xs:=([]:List e.T)) ⟨Nat.zero_le _,Nat.zero_le _⟩ hrow (by rw [hcl,Nat.sub_self,Nat.zero_mul]; omega) hown hC hO (fun i x hx=>by simp at hx)) (by simp) (fun b' hb'=>by rw [hb0]; exact hb')
      · rw [if_neg hcl]
        refine fin (DV.mk1 ⟨by omega,by have:=hcap.2; omega⟩ hrow (by rw [Nat.sub_mul]; omega) hown hC hO (fun i x hx=>?_)) (by simp) (fun b' hb'=>by rw [hb0]; exact hb')
        have hx':xs[l.toNat+i]? = some x:=by
         rw [h4,List.getElem?_drop,List.getElem?_take] at hx
         split at hx
         · exact hx
         · cases hx
        have:=hrows _ _ hx'
        rw [List.drop_drop] at this ⊢
        rw [Nat.add_mul,← Nat.add_assoc] at this
        exact this
  · cases hr2
 unfold ubr5_ at hr
 split at hr
 · rename_i e k g
   split at hr
   · rename_i el e' xs gk hk
     cases hb:(Nat.beq g 0&&e'.same e) with
     | false=>rw [hb] at hr; cases hr
     | true =>
       rw [hb] at hr
       simp only [Bool.and_eq_true] at hb
       have e1:=Nat.eq_of_beq_eq_true hb.1
       have e3:=Ty.same_eq hb.2
       subst e1 e3
       have hkσ:=hσ _ _ hk
       obtain ⟨_,hety,v',us,bs,k1,k2,k3,k4,k5⟩:=DpOK.inv (hm.objs _ _ hkσ)
       have hv:=ub3v_ hs
       rw [k1] at hv
       cases hv
       exact key rfl hkσ k1 k5 (fun b hb=>(ubvy_ k2 k3).2 hb) hr
   · rename_i el e' xs g' hk
     cases hb:(Nat.beq g 0&&(Nat.beq g' 0&&e'.same e)) with
     | false=>rw [hb] at hr; cases hr
     | true =>
       rw [hb] at hr
       simp only [Bool.and_eq_true] at hb
       have e1:=Nat.eq_of_beq_eq_true hb.1
       have e2:=Nat.eq_of_beq_eq_true hb.2.1
       have e3:=Ty.same_eq hb.2.2
       subst e1 e2 e3
       have hkσ:=hσ _ _ hk
       obtain ⟨_,v',k1,k2⟩:=hm.objs _ _ hkσ
       have hv:=ub3v_ hs
       rw [k1] at hv
       cases hv
       obtain ⟨bs,d1,d2,d3⟩:=SlOK.dv k2
       refine key rfl hkσ k1 d1 (fun b hb=>?_) hr
       obtain ⟨_,_,cap,cells,e1,_⟩:=k2.slice (d3 b hb)
       simp only [Bk,k1,e1]
   · cases hr
 · cases hr
theorem MemS.grow1 (hm:MemS P fr free σ w G) (hold:∀ b,b<w.heap.size→w'.heap[b]? = w.heap[b]?) (hsz:w.heap.size≤w'.heap.size) (hos:w'.os=w.os) (htape:w'.tape=w.tape) (hout:w'.output=w.output) :
 GLe w G w' G∧MemS P fr free σ w' G:=by
 have hext:Ext w G.im w' G.im:=⟨fun b o h=>⟨h,by simp only [World.cell?,hold b (hm.after.inC b o h)]⟩,fun b h=>⟨h,hold b (hm.after.inO b h)⟩⟩
 have hle:GLe w G w' G:=⟨hext,fun _ _ _ h=>h,fun _ _ h=>h,fun _ _ h=>h⟩
 refine ⟨hle,fun j o h=>(hm.objs j o h).keep hle fun b hb=>⟨hold b (ubkw_ (hm.objs j o h) hb),fun _ h=>h,fun h=>h⟩,hm.sep,?_,hm.fresh⟩
 exact hm.after.trans (gv':=noGv) ⟨hext,fun b hb _=>hold b hb,hsz,fun _ _ h=>.inl h,fun _ h=>.inl h,fun b o h=>Nat.lt_of_lt_of_le (hm.after.inC b o h) hsz,fun b h=>Nat.lt_of_lt_of_le (hm.after.inO b h) hsz,
  hos,htape,hout,hm.after.pins.ext hext⟩ (fun b h=>h.elim)
theorem ucbm_ {z:Value} {n i:Nat} (h:i<n):((madeCells #[z] n).toList.drop i).take 1=[z]:=by
 rw [List.drop_eq_getElem_cons (by simpa [size_madeCells] using h)]
 simp [madeCells,Nat.mod_one]
theorem ucbn_ {e:Ty} {el:Nat} (hle:Lay P (.slice e) el):∃ i,P.info? el=some i∧i.size=1∧i.bytes≤24∧i.zero=some (.slice none 0 0):=by
 obtain ⟨i,v,h1,h2,h3,h4,h5⟩:=ubdc_ hle.inf
 have hv:v=.slice none 0 0:=by
  simp only [zv] at h5
  split at h5
  · cases h5
  · unfold zv1 at h5
    split at h5
    · rename_i hz
      simp only [zc] at hz
      split at hz
      · rename_i r' he
        cases he; rfl
      · cases hz
    · cases h5
 subst hv
 exact ⟨i,h1,h2,h3,h4⟩
theorem ub6e_ {t:Ty} {id n:Nat} {ids:List Nat} (hl:Lay P t id) (hm:MemS P fr free σ w G) (hself:free self) (hself1:free (self+1)) {a b:Int} (hin:und_ .i64 b)
 {r:OpRes} {u:Upd} (hr:ubvl_ self n ids t a b=some r) (hu:Gives r u) (hids:∃ l,ids=(match P.underlying id with | some (.slice x)=>x | _=>0)::l) :
 ∃ v w',(Instr.makeSlice id (.int .i64 a) (.int .i64 b)).run P w=.ok v w'∧Res P fr free self σ w G u v w':=by
 unfold ubvl_ at hr
 split at hr
 · rename_i el id2 q
   split at hr
   · rename_i lf _
     cases hsm:(deep (el::id2::q) lf).same t with
     | false=>rw [hsm] at hr; cases hr
     | true =>
       rw [hsm] at hr
       have ht:=Ty.same_eq hsm
       subst ht
       cases hr
       obtain ⟨zs,hz,rfl⟩:=hu.may_inv
       have hl:Lay P (.slice (deep (id2::q) lf)) id:=hl
       obtain ⟨el',hun,hle,hpos⟩:=hl.slice
       obtain ⟨l,hids⟩:=hids
       rw [hun] at hids
       injection hids with hel _
       have hel:el=el':=hel
       subst hel
       obtain ⟨h0,hab,hB,rfl⟩:=ub95_ hz
       obtain ⟨i,h1,h2,h3,h4⟩:=ucbn_ (P:=P) (e:=deep q lf) hle
       have hb3:(i.bytes:Int)*b≤281474976710656:=by
        have hb0:b=(b.toNat:Int):=by omega
        have hh:i.bytes*b.toNat≤281474976710656:=by
         have:i.bytes*b.toNat≤b.toNat*24:=by rw [Nat.mul_comm]; exact Nat.mul_le_mul_left _ h3
         omega
        rw [hb0,← Int.natCast_mul]; exact Int.ofNat_le.2 hh
       have hb4:b≤9223372036854775807:=hin.2
       have hrun:=run_make (P:=P) w id el i _ hun h1 h4 .i64 .i64 a b h0 hab hb3 hb4
       rw [h2,Nat.mul_one] at hrun
       have hcells:(Value.slice none 0 0).cells = #[.slice none 0 0]:=rfl
       rw [hcells] at hrun
       obtain ⟨hle1,m1⟩:=hm.grow1 (w':=w.alloc (.cells (madeCells #[.slice none 0 0] b.toNat) el)) (fun b' h=>by
        show (w.heap.push _)[b']? = _
        rw [Array.getElem?_push_lt h,Array.getElem?_eq_getElem h]) (by show _≤(w.heap.push _).size; simp) rfl rfl rfl
       have hrow:RowAt (w.alloc (.cells (madeCells #[.slice none 0 0] b.toNat) el)) w.heap.size (madeCells #[.slice none 0 0] b.toNat) el :=
        ⟨(0,0),by show (w.heap.push _)[_]? = _; rw [Array.getElem?_push_size],.inl (Nat.le_refl _)⟩
       have hab':a.toNat≤b.toNat:=by omega
       obtain ⟨G',g2,m2,m3⟩:=m1.mk_dp hself hself1 (id:=el) (r:=id2::q) (t:=lf) (x:=(List.replicate a.toNat (deep (id2::q) lf).dflt:List (deep (id2::q) lf).T)) (v:=.slice (some ⟨w.heap.size,0,none⟩) a.toNat b.toNat) (bs:=[w.heap.size])
        ⟨_,rfl,rfl,.inr (.inr ⟨(by intro h; cases h),w.heap.size,0,b.toNat,_,List.replicate a.toNat [],by rw [List.length_replicate],by rw [List.length_replicate]; exact ⟨hab',by omega⟩,hrow,
         by rw [size_madeCells,Nat.zero_add]; exact Nat.le_of_eq (Nat.mul_one _),hm.owned_new,fun c h=>absurd (hm.after.inC _ _ h) (Nat.lt_irrefl _),fun h=>absurd (hm.after.inO _ h) (Nat.lt_irrefl _),
         by rw [List.length_replicate,List.length_replicate],by rw [ubab_],fun i x hx=>by
          have hlt:=lt_of_getElem? hx
          rw [List.length_replicate] at hlt
          have hx0:x=([]:List (deep q lf).T):=by
           rw [List.getElem?_replicate,if_pos hlt] at hx
           exact (Option.some.inj hx).symm
          subst hx0
          refine ⟨.slice none 0 0,?_,rfl,.inr (.inl ⟨(by intro h; cases h),rfl,rfl,?_⟩)⟩
          · show ((madeCells #[.slice none 0 0] b.toNat).toList.drop (0+i*1)).take 1=_
            rw [Nat.zero_add,Nat.mul_one]
            exact ucbm_ (by omega)
          · rw [List.getD_eq_getElem?_getD,List.getElem?_replicate]; split <;> rfl⟩)⟩ (by simp)
        (fun b' hb' j o hj hbj=>by
         have:b'=w.heap.size:=by simpa using hb'
         subst this
         exact absurd (ubkw_ (hm.objs j o hj) hbj) (Nat.lt_irrefl _))
       exact ⟨_,_,hrun,G',hle1.trans g2,m2,m3⟩
   · cases hr
 · cases hr
theorem DV.three {ow:Nat→Prop} {t:Ty} {id:Nat} {r:List Nat} {xs:List (deep r t).T} {h:Option (List Nat)} {v:Value} {bs:List Nat} (hd:DV ow w I t (id::r) xs h [v] bs) (hne:h≠some []) {b o len cap:Nat}
 (hv:v=.slice (some ⟨b,o,none⟩) len cap):∃ cells bss,len=xs.length∧LenOK xs.length cap∧RowAt w b cells id∧o+cap*(deep r t).sz≤cells.size∧ow b∧(∀ c,¬ I.cell b c)∧¬ I.obj b∧List.length bss=xs.length∧bs=b::List.flatten bss ∧
  ∀ i x,xs[i]? = some x→DV ow w I t r x (ub3d_ h i) ((cells.toList.drop (o+i*(deep r t).sz)).take (deep r t).sz) (bss.getD i []):=by
 obtain ⟨v',h0,h1,h2⟩:=hd
 have e:v=v':=List.singleton_inj.1 h0
 subst e
 rcases h2 with ⟨h2,_⟩ | ⟨_,h2,_⟩ | ⟨_,b',o',cap',cells,bss,h3,q1,q2,q3,q4,q5,q6,q7,q8,q9⟩
 · exact absurd h2 hne
 · rw [hv] at h2; cases h2
 · rw [hv] at h3; cases h3
   exact ⟨cells,bss,rfl,q1,q2,q3,q4,q5,q6,q7,q8,q9⟩
theorem ucab_ (t:Ty):t.off []=some 0:=by cases t <;> rfl
theorem ucbo_ {t:Ty} {id:Nat} (hl:Lay P t id) (hm:MemS P fr free σ w G) (hσ:∀ k o,σ' k=some o→σ k=some o) (hself:free self) (hself1:free (self+1)) (hself2:free (self+2)) {s:SV} {v:Value} {r:OpRes} {u:Upd}
 (hr:takeD σ' self t s=some r) (hu:Gives r u) (hs:SR P w G s v):∃ z,(Instr.loadAt id v).run P w=.ok z w∧Res P fr free self σ w G u z w:=by
 unfold takeD at hr
 split at hr
 · rename_i k g i u0
   split at hr
   · rename_i id1 id2 q lf xs gk hk
     cases hb:(Nat.beq g 0&&(deep (id2::q) lf).same t) with
     | false=>rw [hb] at hr; cases hr
     | true =>
       rw [hb] at hr
       simp only [Bool.and_eq_true] at hb
       have e1:=Nat.eq_of_beq_eq_true hb.1
       have e2:=Ty.same_eq hb.2
       subst e1 e2
       cases hr
       rw [hu.pure_inv]
       have hkσ:=hσ _ _ hk
       have hnk:=ub6d_ hm hkσ
       obtain ⟨h0,hety,v',us,bs,k1,k2,k3,k4,k5⟩:=DpOK.inv (hm.objs _ _ hkσ)
       obtain ⟨b,o,len,cap,e',o2,p1,p2,p3,p4,p5,rfl⟩:=ubde_ hs
       rw [k1] at p1
       cases p1
       rw [hety] at p2
       cases p2
       rw [ucab_] at p4
       cases p4
       obtain ⟨cells,bss,rfl,q1,q2,q3,q4,q5,q6,q7,rfl,q9⟩:=k5.three (xs:=xs) h0 rfl
       have hsz:(deep (id2::q) lf).sz=1:=rfl
       have hget:=getD_some (d:=(deep (id2::q) lf).dflt) (xs:=(show List (deep (id2::q) lf).T from xs)) p3
       have hch:=q9 i _ hget
       rw [ubzb_] at hch
       have hch0:=hch
       obtain ⟨z,hz,hz1,_⟩:=hch0
       rw [hz] at hch
       have hcell:w.cell? ⟨b,o+i*(deep (id2::q) lf).sz,none⟩=some z:=by
        have:=ubkx_ (n:=1) (o:=o+i*(deep (id2::q) lf).sz) q2 0 (by omega)
        rw [show (cells.toList.drop (o+i*(deep (id2::q) lf).sz)).take 1=[z] from hz] at this
        simpa using this
       have hrun:(Instr.loadAt id (.pointer (some ⟨b,o+i*(deep (id2::q) lf).sz+0,none⟩))).run P w=.ok z w:=by
        have hag:(deep (id2::q) lf).isAgg=false:=rfl
        simp only [Instr.loadAt,Sem.run_bind,Instr.sureAddr,Sem.run_pure,Result.andThen_ok,loadVar,ubrq_ hl,hag,Bool.false_eq_true,if_false,Nat.add_zero]
        exact ub5f_ hcell
       refine ⟨z,hrun,?_⟩
       have hi:i<bss.length:=by rw [q7]; exact p3
       have hfl:=ubza_ hi
       have hfs:(bss.set i []).flatten=(bss.take i).flatten++(bss.drop (i+1)).flatten:=by rw [ubnx_ hi]; rfl
       have hnd:=List.nodup_cons.1 k4
       rw [hfl] at hnd
       have hsub:∀ c,c∈(bss.set i []).flatten→c∈bss.flatten:=by
        intro c hc
        rw [hfs] at hc
        rw [hfl]
        rcases List.mem_append.1 hc with h | h
        · exact List.mem_append_left _ h
        · exact List.mem_append_right _ (List.mem_append_right _ h)
       have hnd2:=List.nodup_append.1 hnd.2
       have hnd3:=List.nodup_append.1 hnd2.2.1
       have hndc:(bss.getD i []).Nodup:=hnd3.1
       have hnds:(b::(bss.set i []).flatten).Nodup:=by
        refine List.nodup_cons.2 ⟨fun h=>(List.nodup_cons.1 k4).1 (hsub b h),?_⟩
        rw [hfs]
        exact List.nodup_append.2 ⟨hnd2.1,hnd3.2.1,fun x hx y hy=>hnd2.2.2 x hx y (List.mem_append_right _ hy)⟩
       have hdisj:∀ c,c∈bss.getD i []→c ∉ b::(bss.set i []).flatten:=by
        intro c hc h
        rcases List.mem_cons.1 h with rfl | h
        · exact hnd.1 (List.mem_append_right _ (List.mem_append_left _ hc))
        · rw [hfs] at h
          rcases List.mem_append.1 h with h | h
          · exact hnd2.2.2 c h c (List.mem_append_left _ hc) rfl
          · exact hnd3.2.2 c hc c h rfl
       obtain ⟨g0,m0⟩:=hm.ghost hself2 (.tuple (List.map ubdb_ (b::(bss.set i []).flatten)).toArray)
       let G0:Gh:=G.addVal (self+2) 0 (.tuple (List.map ubdb_ (b::(bss.set i []).flatten)).toArray)
       have m0:MemS P fr (fun j=>free j∧j≠self+2) σ w G0:=m0
       have g0:GLe w G w G0:=g0
       have hus:G0.val (self+2) 0=some (.tuple (List.map ubdb_ (b::(bss.set i []).flatten)).toArray):=by simp [G0,Gh.addVal]
       have hbk:∀ c,Bk G0 k (.dp (id1::id2::q) lf xs (self+2) (some [i]) true) c↔c∈b::(bss.set i []).flatten:=fun c=>ubvy_ hus (by simp)
       have hbk0:∀ c,Bk G k (.dp (id1::id2::q) lf xs gk none true) c↔c∈b::bss.flatten:=fun c=>ubvy_ k2 k3
       have m1:=m0.swapG hkσ (o':=.dp (id1::id2::q) lf xs (self+2) (some [i]) true)
        ⟨(by intro h; cases h),g0.ety _ _ hety,_,_,b::(bss.set i []).flatten,g0.val _ _ _ k1,hus,by simp,hnds,_,rfl,rfl,.inr (.inr ⟨(by intro h; cases h),b,o,cap,cells,bss.set i [],rfl,q1,q2,q3,q4,q5,q6,by rw [List.length_set]; exact q7,rfl,fun j x hx=>by
          rw [ub6c_ hi,ubzc_]
          by_cases e:i=j
          · subst e
            rw [if_pos rfl,if_pos rfl]
            exact ⟨z,hz,hz1,.inl ⟨rfl,rfl⟩⟩
          · rw [if_neg e,if_neg e]
            exact (q9 j x hx).keep g0.ext fun _ _=>⟨rfl,fun _ h=>h,fun h=>h⟩⟩)⟩
        (fun c hc=>by
         rw [ufb_ (hm.objs k _ hkσ) g0,hbk0]
         rw [hbk] at hc
         rcases List.mem_cons.1 hc with rfl | hc
         · exact List.mem_cons_self
         · exact List.mem_cons_of_mem _ (hsub c hc))
       obtain ⟨G',g2,m2,m3⟩:=m1.mk_dp (self:=self) ⟨hself,by omega⟩ ⟨hself1,by omega⟩ (id:=id2) (r:=q) (t:=lf) (v:=z) (hch.keep g0.ext fun _ _=>⟨rfl,fun _ h=>h,fun h=>h⟩) hndc (fun c hc j o hj hbj=>by
        rw [uba_] at hj
        by_cases e:j=k
        · rw [if_pos e] at hj; cases hj; subst e
          exact hdisj c hc ((hbk c).1 hbj)
        · rw [if_neg e] at hj
          refine e (hm.sep j k o _ c hj hkσ (by rw [← ufb_ (hm.objs j o hj) g0]; exact hbj) ((hbk0 c).2 ?_))
          rw [hfl]
          exact List.mem_cons_of_mem _ (List.mem_append_right _ (List.mem_append_left _ hc)))
       refine ⟨G',g0.trans g2,?_,m3⟩
       have e3:=uu_ σ [(self,some (Obj.dp (id2::q) lf ((show List (deep (id2::q) lf).T from xs).getD i (deep (id2::q) lf).dflt) (self+1) none true))] [(k,some (Obj.dp (id1::id2::q) lf xs (self+2) (some [i]) true))]
       show MemS P fr (uo7_ free self) (u3_ σ ([(self,_)]++[(k,_)])) w G'
       rw [e3]
       refine m2.shrink fun j hj=>⟨⟨hj.1,fun e=>?_⟩,hj.2⟩
       have h5:=hj.2
       rw [e] at h5
       have:ubc8_ self (self+2)=true:=by
        simp only [ubc8_,Nat.blt,Bool.and_eq_true]
        exact ⟨Nat.ble_eq_true_of_le (by omega),Nat.ble_eq_true_of_le (by omega)⟩
       rw [this] at h5; cases h5
   · cases hr
 · cases hr
theorem ucdd_ {t:Ty} {id:Nat} (hl:Lay P t id) (hm:MemS P fr free σ w G) (hσ:∀ k o,σ' k=some o→σ k=some o) (hself1:free (self+1)) {s sv:SV} {v vx:Value} {r:OpRes} {u:Upd}
 (hr:putD σ' self t sv s=some r) (hu:Gives r u) (hs:SR P w G s v) (hsv:SR P w G sv vx):∃ w',(Instr.storeAt id v vx).run P w=.ok () w'∧Res P fr free self σ w G u undef w':=by
 unfold putD at hr
 split at hr
 · rename_i k g i u0
   split at hr
   · rename_i id1 id2 q lf xs gk hh hk
     cases hb:(Nat.beq g 0&&((deep (id2::q) lf).same t && !(hasN k (uod_ sv)))) with
     | false=>rw [hb] at hr; cases hr
     | true =>
       rw [hb] at hr
       simp only [Bool.and_eq_true,Bool.not_eq_true'] at hb
       have e1:=Nat.eq_of_beq_eq_true hb.1
       have e2:=Ty.same_eq hb.2.1
       have hkk:k ∉ uod_ sv:=fun h=>by rw [u5k_.2 h] at hb; exact absurd hb.2.2 (by simp)
       subst e1 e2
       simp only [cond_true] at hr
       split at hr
       · rename_i y hy
         cases hr
         obtain ⟨x0,hx0,rfl⟩:=hu.may_inv
         have hho:ucav_ i hh=true:=by
          cases h:ucav_ i hh with
          | true=>rfl
          | false=>rw [h] at hx0; cases hx0
         have hkσ:=hσ _ _ hk
         obtain ⟨h0,hety,v',us,bs,k1,k2,k3,k4,k5⟩:=DpOK.inv (hm.objs _ _ hkσ)
         obtain ⟨b,o,len,cap,e',o2,p1,p2,p3,p4,p5,rfl⟩:=ubde_ hs
         rw [k1] at p1
         cases p1
         rw [hety] at p2
         cases p2
         rw [ucab_] at p4
         cases p4
         obtain ⟨cells,bss,rfl,q1,q2,q3,q4,q5,q6,q7,rfl,q9⟩:=k5.three (xs:=xs) h0 rfl
         have hsub:MemS P fr free σ' w G:=hm.sub hσ
         have hsv1:CR P w G sv [vx]:=hsv.one (by
          intro t y e
          subst e
          exact absurd hy (by simp [ubpl_]))
         obtain ⟨bc,⟨_,d1⟩,d2,d3⟩:=ubyz_ hsub hy hsv1
         have d3:∀ c∈bc,∃ j∈uod_ sv,∃ ob,σ j=some ob∧Bk G j ob c:=fun c hc =>
          let ⟨j,h1,ob,h2,h3⟩:=d3 c hc
          ⟨j,h1,ob,hσ _ _ h2,h3⟩
         have hbk0:∀ c,Bk G k (.dp (id1::id2::q) lf xs gk hh true) c↔c∈b::bss.flatten:=fun c=>ubvy_ k2 k3
         have hbc:∀ c∈bc,c ∉ b::bss.flatten:=fun c hc h=>by
          obtain ⟨j,j1,ob,j2,j3⟩:=d3 c hc
          exact hkk ((hm.sep j k ob _ c j2 hkσ j3 ((hbk0 c).2 h))▸j1)
         have hsz:(deep (id2::q) lf).sz=1:=rfl
         have hd1:=d1
         obtain ⟨vx',hvx,hone,_⟩:=hd1
         have hvx:vx=vx':=List.singleton_inj.1 hvx
         subst hvx
         have hmul:(i+1)*(deep (id2::q) lf).sz≤cap*(deep (id2::q) lf).sz:=Nat.mul_le_mul_right _ (by have:=q1.1; omega)
         have hpos:o+i*(deep (id2::q) lf).sz+1≤cells.size:=by
          rw [Nat.succ_mul] at hmul
          omega
         obtain ⟨fz,hb0,hfz⟩:=(show RowAt w b cells id1 from q2)
         have hcl:vx.cells.toList=[vx]:=by rw [u8d_ hone]
         have hrun:(Instr.storeAt id (.pointer (some ⟨b,o+i*(deep (id2::q) lf).sz+0,none⟩)) vx).run P w=.ok () (w.setRow b (ucf_ cells.toList (o+i*(deep (id2::q) lf).sz) [vx]).toArray):=by
          simp only [Instr.storeAt,Sem.run_bind,Instr.sureAddr,Sem.run_pure,Result.andThen_ok,Nat.add_zero]
          have:=ubix_ hl (b:=b) (o:=o+i*(deep (id2::q) lf).sz) (v:=vx) q2 (by rw [hcl]; rfl) (by rw [hcl]; simpa using hone) (by rw [hsz] at hpos ⊢; exact hpos)
          rw [hcl] at this
          exact this
         refine ⟨_,hrun,?_⟩
         have hi:i<bss.length:=by rw [q7]; exact p3
         have hfl:=ubza_ hi
         have hfs:=ubnx_ (c:=bc) hi
         have hnd:=List.nodup_cons.1 k4
         have hnd1:=hnd.2
         rw [hfl] at hnd1
         have hnd2:=List.nodup_append.1 hnd1
         have hnd3:=List.nodup_append.1 hnd2.2.1
         have hinl:∀ c,c∈(bss.take i).flatten→c∈bss.flatten:=fun c hc=>by rw [hfl]; exact List.mem_append_left _ hc
         have hinr:∀ c,c∈(bss.drop (i+1)).flatten→c∈bss.flatten:=fun c hc=>by rw [hfl]; exact List.mem_append_right _ (List.mem_append_right _ hc)
         have hnds:(b::(bss.set i bc).flatten).Nodup:=by
          rw [hfs]
          refine List.nodup_cons.2 ⟨fun h=>?_,List.nodup_append.2 ⟨hnd2.1,List.nodup_append.2 ⟨d2,hnd3.2.1,fun x hx y hy e=>?_⟩,fun x hx y hy e=>?_⟩⟩
          · rcases List.mem_append.1 h with h | h
            · exact hnd.1 (hinl b h)
            · rcases List.mem_append.1 h with h | h
              · exact hbc b h List.mem_cons_self
              · exact hnd.1 (hinr b h)
          · subst e; exact hbc x hx (List.mem_cons_of_mem _ (hinr x hy))
          · subst e
            rcases List.mem_append.1 hy with h | h
            · exact hbc x h (List.mem_cons_of_mem _ (hinl x hx))
            · exact hnd2.2.2 x hx x (List.mem_append_right _ h) rfl
         have hmem:∀ c,c∈b::(bss.set i bc).flatten→c=b∨c∈bss.flatten∨c∈bc:=by
          intro c hc
          rcases List.mem_cons.1 hc with h | h
          · exact .inl h
          · rw [hfs] at h
            rcases List.mem_append.1 h with h | h
            · exact .inr (.inl (hinl c h))
            · rcases List.mem_append.1 h with h | h
              · exact .inr (.inr h)
              · exact .inr (.inl (hinr c h))
         have m0:MemS P fr free (u3_ σ (gone (uod_ sv))) w G:=hm.sub fun j o h=>by
          rw [urt_] at h
          by_cases e:j∈uod_ sv
          · rw [if_pos e] at h; cases h
          · rw [if_neg e] at h; exact h
         have hs0:∀ j ob,u3_ σ (gone (uod_ sv)) j=some ob→j ∉ uod_ sv∧σ j=some ob:=by
          intro j ob h
          rw [urt_] at h
          by_cases e:j∈uod_ sv
          · rw [if_pos e] at h; cases h
          · rw [if_neg e] at h; exact ⟨e,h⟩
         obtain ⟨g0,m1⟩:=m0.ghost hself1 (.tuple (List.map ubdb_ (b::(bss.set i bc).flatten)).toArray)
         let G0:Gh:=G.addVal (self+1) 0 (.tuple (List.map ubdb_ (b::(bss.set i bc).flatten)).toArray)
         have m1:MemS P fr (fun j=>free j∧j≠self+1) (u3_ σ (gone (uod_ sv))) w G0:=m1
         have g0:GLe w G w G0:=g0
         have hus:G0.val (self+1) 0=some (.tuple (List.map ubdb_ (b::(bss.set i bc).flatten)).toArray):=by simp [G0,Gh.addVal]
         let w1:World:=w.setRow b (ucf_ cells.toList (o+i*(deep (id2::q) lf).sz) [vx]).toArray
         have hw1:∀ b',b'≠b→w1.heap[b']? = w.heap[b']?:=fun b' h=>setRow_other w b b' _ h
         have hle:GLe w G0 w1 G0:=GLe.of_heap (b:=b) hw1 q5 q6
         have hspl:(ucf_ cells.toList (o+i*(deep (id2::q) lf).sz) [vx]).length=cells.size:=by rw [ujl_ (by simp; omega)]; simp
         have hbin:∀ c,c∈bss.flatten→c≠b:=fun c hc e=>hnd.1 (e▸hc)
         have hext:Ext w G.im w1 G0.im:=g0.ext.trans hle.ext
         have hobj:DpOK fr w1 G0 k (id1::id2::q) lf ((show List (deep (id2::q) lf).T from xs).set i y) (self+1) none true:=by
          refine ⟨(by intro h; cases h),g0.ety _ _ hety,_,_,b::(bss.set i bc).flatten,g0.val _ _ _ k1,hus,by simp,hnds,_,rfl,rfl,.inr (.inr ⟨(by intro h; cases h),b,o,cap,_,bss.set i bc,by rw [List.length_set],
           by rw [List.length_set]; exact q1,q2.set (by rw [List.size_toArray,hspl]),by rw [List.size_toArray,hspl]; exact q3,q4,q5,q6,by rw [List.length_set,List.length_set]; exact q7,rfl,fun j x hx=>?_⟩)⟩
          rw [ubzb_,ub6c_ hi]
          by_cases e:i=j
          · subst e
            rw [if_pos rfl]
            rw [List.getElem?_set_self p3] at hx
            cases hx
            have hcut:((ucf_ cells.toList (o+i*(deep (id2::q) lf).sz) [vx]).drop (o+i*(deep (id2::q) lf).sz)).take (deep (id2::q) lf).sz=[vx]:=by
             rw [hsz]
             have:=ub2j_ (cs:=cells.toList) (ds:=[vx]) (a:=o+i*1) (n:=1) (o:=0) (by simp; rw [hsz] at hpos; omega) (by simp)
             rw [Nat.add_zero] at this
             rw [this]
             unfold ucf_
             simp
            show DV fr.owned w1 G0.im lf (id2::q) y none (((ucf_ cells.toList (o+i*(deep (id2::q) lf).sz) [vx]).toArray.toList.drop (o+i*(deep (id2::q) lf).sz)).take (deep (id2::q) lf).sz) bc
            rw [List.toList_toArray,hcut]
            exact d1.keep hext fun c hc=>⟨hw1 c fun e=>hbc c hc (e▸List.mem_cons_self),fun _ h=>h,fun h=>h⟩
          · rw [if_neg e]
            rw [List.getElem?_set_ne e] at hx
            have hc:=q9 j x hx
            have hhole:ub3d_ hh j=none:=by
             cases hh with
             | none=>rfl
             | some p =>
               cases p with
               | nil=>exact absurd rfl h0
               | cons a p =>
                 cases p with
                 | cons _ _=>cases hho
                 | nil =>
                   have ha:=Nat.eq_of_beq_eq_true hho
                   subst ha
                   rw [ubzc_,if_neg e]
            rw [hhole] at hc
            show DV fr.owned w1 G0.im lf (id2::q) x none (((ucf_ cells.toList (o+i*(deep (id2::q) lf).sz) [vx]).toArray.toList.drop (o+j*(deep (id2::q) lf).sz)).take (deep (id2::q) lf).sz) (bss.getD j [])
            rw [List.toList_toArray,ubyp_ (by simp; omega) (by rw [hsz]; simp; omega)]
            exact hc.keep hext fun c hc=>⟨hw1 c (hbin c (ubwy_ hc)),fun _ h=>h,fun h=>h⟩
         have hbk1:∀ c,Bk G0 k (.dp (id1::id2::q) lf ((show List (deep (id2::q) lf).T from xs).set i y) (self+1) none true) c↔c∈b::(bss.set i bc).flatten:=fun c=>ubvy_ hus (by simp)
         have m2:=m1.change (w':=w1) (G':=G0) (b:=b) (k:=k) (o':=some (.dp (id1::id2::q) lf ((show List (deep (id2::q) lf).T from xs).set i y) (self+1) none true)) (free':=uo7_ free self) hle
          (fun j ob hj hob hbj=>by
           obtain ⟨_,hob⟩:=hs0 j ob hob
           rw [ufb_ (hm.objs j ob hob) g0] at hbj
           exact hj (hm.sep j k ob _ b hob hkσ hbj ((hbk0 b).2 List.mem_cons_self)))
          (fun b' _ hne=>hw1 b' hne) (by simp [w1]) (by simpa [w1] using q2.lt) q4 (fun _ _ h=>.inl h) (fun _ h=>.inl h) rfl rfl rfl
          (fun ob hob=>by
           cases hob
           refine ⟨hobj,fun c hc=>?_⟩
           rw [hbk1] at hc
           rcases hmem c hc with h | h | h
           · exact .inl h
           · refine .inr fun j oj hj hoj hbj=>?_
             obtain ⟨_,hoj⟩:=hs0 j oj hoj
             rw [ufb_ (hm.objs j oj hoj) g0] at hbj
             exact hj (hm.sep j k oj _ c hoj hkσ hbj ((hbk0 c).2 (List.mem_cons_of_mem _ h)))
           · refine .inr fun j oj hj hoj hbj=>?_
             obtain ⟨hjn,hoj⟩:=hs0 j oj hoj
             rw [ufb_ (hm.objs j oj hoj) g0] at hbj
             obtain ⟨j',j1,ob',j2,j3⟩:=d3 c h
             exact hjn ((hm.sep j j' oj ob' c hoj j2 hbj j3)▸j1))
          (fun j hj=>by
           have hf:=hm.fresh j hj.1
           have hj1:j≠self+1:=fun e=>by
            have:=hj.2
            rw [e,ubk2_] at this; cases this
           exact ⟨fun e=>(by rw [e,hkσ] at hf; cases hf.1),⟨hj.1,hj1⟩,hf.2.1,hf.2.2.1,fun g=>by simp only [G0,Gh.addVal,hj1,false_and,if_false]; exact hf.2.2.2 g⟩)
         refine ⟨G0,g0.trans hle,?_,_,rfl,trivial⟩
         have e3:=uu_ σ [(k,some (Obj.dp (id1::id2::q) lf ((show List (deep (id2::q) lf).T from xs).set i y) (self+1) none true))] (gone (uod_ sv))
         show MemS P fr (uo7_ free self) (u3_ σ ([(k,_)]++gone (uod_ sv))) w1 G0
         rw [e3]; exact m2
       · cases hr
   · cases hr
 · cases hr
end
end Go.Ev
namespace Go.Ev
variable [Pins]
section
variable {P:Program} {fr:Fr} {free free':Nat→Prop} {self:Nat} {σ σ':Nat→Option Obj} {w w':World} {G G':Gh} {I:Im}
theorem ubsj_ {E:Env} {dr:Bool} (hE:EnvOK P dr E) {id:Nat} {ty:Ty} (h:ubvn_ E id ty=true):∀ k v,ty=.map k v→∀ x y,P.underlying id=some (.map x y)→eqOK P k x=true:=by
 intro k v e x y hu
 subst e
 simp only [ubvn_,Bool.and_eq_true,hE.ky _ _ _ hu] at h
 obtain ⟨h1,h2⟩:=h
 split at h2
 · rename_i k' hk
   have:=Ty.same_eq h2
   subst this
   exact hE.eq _ _ h1 hk
 · cases h2
theorem ucde_ {E:Env} (hE:EnvOK P fr.dr E) (hm:MemS P fr free σ w G) (hσ:∀ k o,σ' k=some o→σ k=some o) {t:Option Ty} {s:SV} {v:Value} (h:SR P w G s v):SR P w G (toFn E.fs σ' t s) v:=by
 unfold toFn
 split
 · rename_i d c f cs
   split
   · rename_i F hF
     have hcr:CR P w G (.fn f cs) [v]:=h.one (by intro u y e; cases e)
     obtain ⟨f',vs',e1,e2⟩:=ubw5_ (D:=False) (fun k o h=>hm.objs k o (hσ k o h)) hE.fs (fun h=>h.elim) hF hcr
     have e1:=List.singleton_inj.1 e1
     subst e1
     exact ⟨_,rfl,HofD.fnc (by rw [hE.pin]; exact e2)⟩
   · exact h
 · exact h
theorem ub07_ {ps:Array (Nat×Operand)} {ρ:Nat×Operand→SV} {a:Act} (h:∀ p∈ps.toList,SR P w G (ρ p) (a.eval p.2)) :
 ∀ (j:Nat) (q:Nat×SV) (u:Nat×Value),(ps.toList.map fun p=>(p.1,ρ p))[j]? = some q→(ps.map fun p=>(p.1,a.eval p.2)).toList[j]? = some u→q.1=u.1∧SR P w G q.2 u.2:=by
 intro j q u h1 h2
 rw [List.getElem?_map] at h1
 rw [Array.toList_map,List.getElem?_map] at h2
 cases hp:ps.toList[j]? with
 | none=>rw [hp] at h1; cases h1
 | some p =>
   rw [hp] at h1 h2
   cases h1
   cases h2
   exact ⟨rfl,h p (List.mem_of_getElem? hp)⟩
theorem ub3y_ {t:Ty} {id el ty:Nat} {wf:Bool} (hl:Lay P t id) (hel:∀ x,P.underlying id=some (.slice x)→el=x) (hm:MemS P fr free σ w G) (hσ:∀ k o,σ' k=some o→σ k=some o) (hself:free self)
 {s x:SV} {v vx:Value} {r:OpRes} {u:Upd} (hr:ubr4_ σ' wf self el t s x=some r) (hu:Gives r u) (hs:SR P w G s v) (hx:SR P w G x vx) :
 ∃ z w',(Builtin.append_ #[id,id] ty #[v,vx]).run P w=.ok z w'∧Res P fr free self σ w G u z w':=by
 have ho:∀ k o,σ' k=some o→ObjOK P fr w G k o:=fun k o h=>hm.objs k o (hσ k o h)
 unfold ubr4_ at hr
 split at hr
 · rename_i e
   split at hr
   · rename_i ys hys
     have hv:VRel w G.im (.slice e) ys vx:=ubgh_ ho hys hx
     split at hr
     · have hr:=Option.some.inj hr
       subst hr
       obtain ⟨zs,hz,rfl⟩:=hu.may_inv
       obtain ⟨c,h1,h2⟩:=hs
       have h2:c=[.slice none 0 0]:=h2
       have hv0:v=.slice none 0 0:=List.singleton_inj.1 ((show c=[v] from h1).symm.trans h2)
       subst hv0
       exact ubdf_ hl hel hm hself (ubnv_ hl hv) hz
     · rename_i k g
       split at hr
       · rename_i id' e' xs g' w' hk
         cases hg:(Nat.beq g 0&&(Nat.beq g' 0&&Nat.beq el id')) with
         | false=>rw [hg] at hr; cases hr
         | true =>
           rw [hg] at hr
           simp only [cond_true] at hr
           simp only [Bool.and_eq_true] at hg
           have e1:=Nat.eq_of_beq_eq_true hg.1
           have e2:=Nat.eq_of_beq_eq_true hg.2.1
           have e3:=Nat.eq_of_beq_eq_true hg.2.2
           subst e1 e2 e3
           split at hr
           · rename_i xs' hxs
             have hr:=Option.some.inj hr
             subst hr
             obtain ⟨zs,hz,rfl⟩:=hu.may_inv
             obtain ⟨et,ex⟩:=Ty.cast?_some hxs
             have et':e'=e:=by injection et
             subst et'
             cases ex
             exact ub2m_ hl hel hm hself (hσ _ _ hk) hs (ubnv_ hl hv) hz
           · cases hr
       · cases hr
     · cases hr
   · cases hr
 · cases hr
theorem ub08_ {t t':Ty} {id id2 el ty:Nat} {wf:Bool} (hl:Lay P t id) (hl2:Lay P t' id2) (hel:∀ x,P.underlying id=some (.slice x)→el=x) (hm:MemS P fr free σ w G) (hσ:∀ k o,σ' k=some o→σ k=some o) (hself:free self)
 {s x:SV} {v vx:Value} {r:OpRes} {u:Upd} (hr:ubwo_ σ' wf self el t t' s x=some r) (hu:Gives r u) (hs:SR P w G s v) (hx:SR P w G x vx) :
 ∃ z w',(Builtin.append_ #[id,id2] ty #[v,vx]).run P w=.ok z w'∧Res P fr free self σ w G u z w':=by
 unfold ubwo_ at hr
 split at hr
 · rename_i ys
   have hv:=ub8g_ hl2 hx
   unfold ubr4_ at hr
   simp only [SV.asV,SV.as] at hr
   split at hr
   · rename_i ys' hys
     obtain ⟨_,ex⟩:=Ty.cast?_some hys
     have ex:ud0_ ys=ys':=ex
     subst ex
     split at hr
     · have hr:=Option.some.inj hr
       subst hr
       obtain ⟨zs,hz,rfl⟩:=hu.may_inv
       obtain ⟨c,h1,h2⟩:=hs
       have h2:c=[.slice none 0 0]:=h2
       have hv0:v=.slice none 0 0:=List.singleton_inj.1 ((show c=[v] from h1).symm.trans h2)
       subst hv0
       exact ubdf_ hl hel hm hself hv hz
     · rename_i k g
       split at hr
       · rename_i id' e' xs g' w' hk
         cases hg:(Nat.beq g 0&&(Nat.beq g' 0&&Nat.beq el id')) with
         | false=>rw [hg] at hr; cases hr
         | true =>
           rw [hg] at hr
           simp only [cond_true] at hr
           simp only [Bool.and_eq_true] at hg
           have e1:=Nat.eq_of_beq_eq_true hg.1
           have e2:=Nat.eq_of_beq_eq_true hg.2.1
           have e3:=Nat.eq_of_beq_eq_true hg.2.2
           subst e1 e2 e3
           split at hr
           · rename_i xs' hxs
             have hr:=Option.some.inj hr
             subst hr
             obtain ⟨zs,hz,rfl⟩:=hu.may_inv
             obtain ⟨et,ex⟩:=Ty.cast?_some hxs
             have et':e'=.int .u8:=by injection et
             subst et'
             cases ex
             exact ub2m_ hl hel hm hself (hσ _ _ hk) hs hv hz
           · cases hr
       · cases hr
     · cases hr
   · cases hr
 · cases hr
theorem ucep_ {E:Env} (hE:EnvOK P fr.dr E) (hm:MemS P fr free σ w G) (hσ:∀ k o,σ' k=some o→σ k=some o) (hfree:∀ k,self≤k→k<self+8→free k) {o:Oper} {a:Act} {ρ ρt ρf:Operand→SV}
 (hρ:(∀ c x y,o.op≠.pick c x y)→∀ x∈o.op.operands,SR P w G (ρ x) (a.eval x))
 (hpick:∀ c x y,o.op=.pick c x y→SR P w G (ρ c) (a.eval c)∧(a.eval c=.bool true→SR P w G (ρt x) (a.eval x))∧(a.eval c=.bool false→SR P w G (ρf y) (a.eval y)))
 {r:OpRes} {u:Upd} (hr:opV E ρ ρt ρf σ' self o=some r) (hu:Gives r u):Done P fr.dr o a w (Res P fr free self σ w G u):=by
 have hself:free self:=hfree self (Nat.le_refl _) (by omega)
 have ho:∀ k o,σ' k=some o→ObjOK P fr w G k o:=fun k o h=>hm.objs k o (hσ k o h)
 unfold opV at hr
 cases hop:o.op with
 | move x =>
   rw [hop] at hr
   have hr:=Option.some.inj hr
   subst hr; rw [hu.v_inv]
   exact Done.calm hm ⟨rfl,_,by simp [execOp,hop],hρ (by simp [hop]) x (by simp [hop,Op.operands])⟩
 | assign x =>
   rw [hop] at hr
   have hr:=Option.some.inj hr
   subst hr; rw [hu.v_inv]
   exact Done.calm hm ⟨rfl,_,by simp [execOp,hop],hρ (by simp [hop]) x (by simp [hop,Op.operands])⟩
 | pick c x y =>
   rw [hop] at hr
   obtain ⟨h1,h2,h3⟩:=hpick c x y hop
   obtain ⟨e1,b,e2,e3⟩:=ub8b_ (P:=P) (w:=w) (G:=G) hr hu h1 h2 h3
   exact Done.calm hm ⟨e1,_,by simp [execOp,hop,e2,asBool],e3⟩
 | alloc t =>
   rw [hop] at hr
   simp only at hr
   split at hr
   · rename_i ty hty
     have hr:=Option.some.inj hr
     subst hr; rw [hu.pure_inv]
     obtain ⟨z,w',h1,h2⟩:=uca6_ (hE.ty _ _ hty) hm hself
     exact Done.makes ⟨z,w',by simp [execOp,hop,h1],h2⟩
   · cases hr
 | box t x =>
   rw [hop] at hr
   simp only at hr
   split at hr
   · rename_i ty hty
     split at hr
     · rename_i y hy
       have hr:=Option.some.inj hr
       subst hr; rw [hu.pure_inv]
       obtain ⟨z,w',h1,h2⟩:=ucej_ (id:=t) (hE.ty _ _ hty) hm hself hy (hρ (by simp [hop]) x (by simp [hop,Op.operands]))
       exact Done.makes ⟨z,w',by simp [execOp,hop,h1],h2⟩
     · cases hr
   · cases hr
 | load t x =>
   rw [hop] at hr
   simp only at hr
   split at hr
   · rename_i ty hty
     have hex:∃ wf:Bool,(bif wf then (match takeD σ' self ty (ρ x) with
      | some r=>some r
      | none=>(loadT σ' ty (ρ x)).map OpRes.v) else loadO σ' ty (ρ x))=some r:=⟨_,hr⟩
     clear hr
     obtain ⟨wf,hr⟩:=hex
     cases wf with
     | true =>
       simp only [cond_true] at hr
       cases htk:takeD σ' self ty (ρ x) with
       | some r1 =>
         rw [htk] at hr
         have hr:=Option.some.inj hr
         subst hr
         obtain ⟨z,h1,h2⟩:=ucbo_ (self:=self) (hE.ty _ _ hty) hm hσ hself (hfree _ (by omega) (by omega)) (hfree _ (by omega) (by omega)) htk hu (hρ (by simp [hop]) x (by simp [hop,Op.operands]))
         exact Done.makes ⟨z,w,by simp [execOp,hop,h1],h2⟩
       | none =>
       rw [htk] at hr
       simp only at hr
       cases hl:loadT σ' ty (ρ x) with
       | none=>rw [hl] at hr; cases hr
       | some s =>
         rw [hl] at hr
         have hr:=Option.some.inj hr
         subst hr; rw [hu.v_inv]
         obtain ⟨z,h1,h2⟩:=ub5h_ (hE.ty _ _ hty) ho hl (hρ (by simp [hop]) x (by simp [hop,Op.operands]))
         exact Done.calm hm ⟨rfl,z,by simp [execOp,hop,h1],h2⟩
     | false =>
     simp only [cond_false] at hr
     have hx:=hρ (by simp [hop]) x (by simp [hop,Op.operands])
     unfold loadO at hr
     split at hr
     · rename_i e y he
       cases hs:e.same ty with
       | false=>rw [hs] at hr; cases hr
       | true =>
         rw [hs] at hr
         have hr:=Option.some.inj hr
         subst hr
         rw [he] at hx
         obtain ⟨z,hz,rfl⟩:=hu.may_inv
         have hz:y=some z:=hz
         subst hz
         obtain ⟨c,hc,ad,h2,h3,cc,h4,h5⟩:=hx
         have hv:a.eval x=.pointer (some ad):=List.singleton_inj.1 ((show c=[a.eval x] from hc).symm.trans h2)
         have hsame:=Ty.same_eq hs
         subst hsame
         obtain ⟨z',k1,k2⟩:=ub5g_ (P:=P) (w:=w) (G:=G) (hE.ty _ _ hty) (x:=z) (v:=.pointer (some ad)) ⟨_,rfl,ad,cc,rfl,h3,h4,h5⟩
         exact Done.calm hm ⟨rfl,z',by simp [execOp,hop,hv,k1],k2⟩
     · cases hl:loadAt σ' ty (ρ x) with
       | none=>rw [hl] at hr; cases hr
       | some s =>
         rw [hl] at hr
         have hr:=Option.some.inj hr
         subst hr; rw [hu.v_inv]
         obtain ⟨z,h1,h2⟩:=ub2i_ (hE.ty _ _ hty) ho hl hx
         exact Done.calm hm ⟨rfl,z,by simp [execOp,hop,h1],h2⟩
   · cases hr
 | store t x y =>
   rw [hop] at hr
   simp only at hr
   split at hr
   · rename_i ty hty
     cases hpd:putD σ' self ty (ρ y) (ρ x) with
     | some r1 =>
       rw [hpd] at hr
       have hr:=Option.some.inj hr
       subst hr
       obtain ⟨w',h1,h2⟩:=ucdd_ (self:=self) (hE.ty _ _ hty) hm hσ (hfree _ (by omega) (by omega)) hpd hu (hρ (by simp [hop]) x (by simp [hop,Op.operands])) (hρ (by simp [hop]) y (by simp [hop,Op.operands]))
       exact Done.writes ⟨w',by simp [execOp,hop,h1],h2⟩
     | none =>
     rw [hpd] at hr
     simp only at hr
     cases hl:storeAt σ' ty (ρ y) (ρ x) with
     | none=>rw [hl] at hr; cases hr
     | some s =>
       rw [hl] at hr
       have hr:=Option.some.inj hr
       subst hr; rw [hu.pure_inv]
       obtain ⟨k,o'⟩:=s
       obtain ⟨w',h1,h2,h3⟩:=ub5k_ (self:=self) (hE.ty _ _ hty) hm hσ hl (hρ (by simp [hop]) x (by simp [hop,Op.operands])) (hρ (by simp [hop]) y (by simp [hop,Op.operands]))
       exact Done.writes ⟨w',by simp [execOp,hop,h1],G,h2,h3,⟨_,rfl,trivial⟩⟩
   · cases hr
 | extract x i =>
   rw [hop] at hr
   obtain ⟨h1,z,h2,h3⟩:=ub0v_ (P:=P) (w:=w) (G:=G) hr hu (hρ (by simp [hop]) x (by simp [hop,Op.operands]))
   exact Done.calm hm ⟨h1,z,by simp [execOp,hop,h2],h3⟩
 | unOp op t x =>
   rw [hop] at hr
   obtain ⟨h1,z,h2,h3⟩:=uccs_ (P:=P) (w:=w) (G:=G) hr hu (hρ (by simp [hop]) x (by simp [hop,Op.operands]))
   exact Done.calm hm ⟨h1,z,by simp [execOp,hop,h2],h3⟩
 | insert t m k v =>
   rw [hop] at hr
   simp only at hr
   split at hr
   · rename_i ty hty
     obtain ⟨w',h1,h2⟩:=ub5q_ (self:=self) (hE.ty _ _ hty) (fun h=>ubsj_ hE h) hm hσ hr hu (hρ (by simp [hop]) m (by simp [hop,Op.operands])) (hρ (by simp [hop]) k (by simp [hop,Op.operands])) (hρ (by simp [hop]) v (by simp [hop,Op.operands]))
     exact Done.writes ⟨w',by simp [execOp,hop,h1],h2⟩
   · cases hr
 | mapUpdate t m k v =>
   rw [hop] at hr
   simp only at hr
   split at hr
   · rename_i ty hty
     cases hmg:isMg σ' (ρ m) with
     | true =>
       rw [hmg] at hr
       obtain ⟨w',h1,h2⟩:=ub8u_ (self:=self) (hE.ty _ _ hty) hm hσ (hfree _ (by omega) (by omega)) hr hu (hρ (by simp [hop]) m (by simp [hop,Op.operands])) (hρ (by simp [hop]) k (by simp [hop,Op.operands])) (hρ (by simp [hop]) v (by simp [hop,Op.operands]))
       exact Done.writes ⟨w',by simp [execOp,hop,h1],h2⟩
     | false =>
     rw [hmg] at hr
     simp only [cond_false] at hr
     obtain ⟨w',h1,h2⟩:=ub5q_ (self:=self) (hE.ty _ _ hty) (fun h=>ubsj_ hE h) hm hσ hr hu (hρ (by simp [hop]) m (by simp [hop,Op.operands])) (hρ (by simp [hop]) k (by simp [hop,Op.operands])) (hρ (by simp [hop]) v (by simp [hop,Op.operands]))
     exact Done.writes ⟨w',by simp [execOp,hop,h1],h2⟩
   · cases hr
 | lookup t m k ok =>
   rw [hop] at hr
   simp only at hr
   split at hr
   · rename_i ty hty
     have hex:∃ b:Bool,(b=true→ok=false)∧(bif b then ub72_ σ' self ty (ρ m) (ρ k) else ubwn_ σ' (ubvn_ E t ty) ty ok (ρ m) (ρ k))=some r:=⟨_,fun h=>by
      simp only [Bool.and_eq_true,Bool.not_eq_true'] at h
      exact h.2,hr⟩
     clear hr
     obtain ⟨b,hb,hr⟩:=hex
     cases b with
     | true =>
       have hok:=hb rfl
       subst hok
       obtain ⟨z,h2,h3⟩:=ub8t_ (self:=self) (hE.ty _ _ hty) hm hσ hself (hfree _ (by omega) (by omega)) hr hu (hρ (by simp [hop]) m (by simp [hop,Op.operands])) (hρ (by simp [hop]) k (by simp [hop,Op.operands]))
       exact Done.makes ⟨z,w,by simp [execOp,hop,h2],h3⟩
     | false =>
     simp only [cond_false] at hr
     obtain ⟨h1,z,h2,h3⟩:=ub3o_ (hE.ty _ _ hty) (fun h=>ubsj_ hE h) ho hr hu (hρ (by simp [hop]) m (by simp [hop,Op.operands])) (hρ (by simp [hop]) k (by simp [hop,Op.operands]))
     exact Done.calm hm ⟨h1,z,by simp [execOp,hop,h2],h3⟩
   · cases hr
 | fieldAddr t x f =>
   rw [hop] at hr
   simp only at hr
   split at hr
   · rename_i p hty
     cases hf:Nat.blt f p.fields with
     | false=>rw [hf] at hr; cases hr
     | true =>
       rw [hf] at hr
       rw [Nat.blt_eq] at hf
       simp only [cond_true] at hr
       have hx:=hρ (by simp [hop]) x (by simp [hop,Op.operands])
       split at hr
       · rename_i e y he
         rw [he] at hx
         cases hd:(ujk_ p f (.ref e e.dflt)).isSome with
         | false=>rw [hd] at hr; cases hr
         | true =>
           rw [hd] at hr
           have hr:=Option.some.inj hr
           subst hr
           obtain ⟨z,hz,rfl⟩:=hu.may_inv
           have hz:y=some z:=hz
           subst hz
           obtain ⟨s,hs⟩:=Option.isSome_iff_exists.1 ((ubun_ (z':=z))▸hd:(ujk_ p f (.ref e z)).isSome=true)
           obtain ⟨c,hc,ad,h2,h3,cc,h4,h5⟩:=hx
           have hv:a.eval x=.pointer (some ad):=List.singleton_inj.1 ((show c=[a.eval x] from hc).symm.trans h2)
           obtain ⟨z',q2,q3⟩:=ubkv_ (hE.ty _ _ hty) hf hs (w:=w) (G:=G) (v:=a.eval x) ⟨_,rfl,ad,cc,by rw [hv],h3,h4,h5⟩
           exact Done.calm hm ⟨rfl,z',by simp [execOp,hop,q2],by rw [hs]; exact q3⟩
       · cases hl:ujk_ p f (ρ x) with
         | none=>rw [hl] at hr; cases hr
         | some s =>
           rw [hl] at hr
           have hr:=Option.some.inj hr
           subst hr; rw [hu.v_inv]
           obtain ⟨z,h2,h3⟩:=ubkv_ (hE.ty _ _ hty) hf hl hx
           exact Done.calm hm ⟨rfl,z,by simp [execOp,hop,h2],h3⟩
   · cases hr
 | field t x f =>
   rw [hop] at hr
   simp only at hr
   split at hr
   · rename_i p hty
     cases hf:Nat.blt f p.fields with
     | false=>rw [hf] at hr; cases hr
     | true =>
       rw [hf] at hr
       rw [Nat.blt_eq] at hf
       obtain ⟨h1,z,h2,h3⟩:=ub5c_ (hE.ty _ _ hty) hf hr hu (hρ (by simp [hop]) x (by simp [hop,Op.operands]))
       exact Done.calm hm ⟨h1,z,by simp [execOp,hop,h2],h3⟩
   · cases hr
 | indexAddr t x i =>
   rw [hop] at hr
   simp only at hr
   split at hr
   · rename_i ty kd n hty hi
     have hiv:=hρ (by simp [hop]) i (by simp [hop,Op.operands])
     rw [hi] at hiv
     obtain ⟨e,_⟩:=hiv.int
     obtain ⟨h1,z,h2,h3⟩:=ubwx_ (k:=kd) (hE.ty _ _ hty) ho hr hu (hρ (by simp [hop]) x (by simp [hop,Op.operands]))
     exact Done.calm hm ⟨h1,z,by simp [execOp,hop,e,h2],h3⟩
   · cases hr
 | index t x i =>
   rw [hop] at hr
   simp only at hr
   split at hr
   · rename_i ty kd n hty hi
     have hiv:=hρ (by simp [hop]) i (by simp [hop,Op.operands])
     rw [hi] at hiv
     obtain ⟨e,_⟩:=hiv.int
     obtain ⟨h1,z,h2,h3⟩:=ub49_ (k:=kd) (hE.ty _ _ hty) hr hu (hρ (by simp [hop]) x (by simp [hop,Op.operands]))
     exact Done.calm hm ⟨h1,z,by simp [execOp,hop,e,h2],h3⟩
   · cases hr
 | slice t x lo hi mx =>
   rw [hop] at hr
   cases mx with
   | some _=>cases hr
   | none =>
     simp only at hr
     split at hr
     · rename_i ty hty
       have hopt:∀ b:Option Operand,(∀ y,b=some y→y∈o.op.operands)→OptSR P w G (b.map ρ) (b.map a.eval):=by
        intro b hb
        cases b with
        | none=>exact trivial
        | some y=>exact hρ (by simp [hop]) y (hb y rfl)
       have hex:∃ wf:Bool,(match (bif wf then ubr5_ σ' self ty (ρ x) (lo.map ρ) (hi.map ρ) else none) with
        | some r=>some r
        | none=>ubwl_ σ' ty (ρ x) (lo.map ρ) (hi.map ρ))=some r:=⟨_,hr⟩
       clear hr
       obtain ⟨wf,hr⟩:=hex
       cases hsd:(bif wf then ubr5_ σ' self ty (ρ x) (lo.map ρ) (hi.map ρ) else none) with
       | some r1 =>
         rw [hsd] at hr
         have hr:=Option.some.inj hr
         subst hr
         cases wf with
         | false=>cases hsd
         | true =>
         obtain ⟨z,h2,h3⟩:=ub3x_ (self:=self) (hE.ty _ _ hty) hm hσ hself (hfree _ (by omega) (by omega)) hsd hu (hρ (by simp [hop]) x (by simp [hop,Op.operands])) (hopt lo (fun y hy=>by simp [hop,Op.operands,hy])) (hopt hi (fun y hy=>by simp [hop,Op.operands,hy]))
         exact Done.makes ⟨z,w,by simp [execOp,hop,h2],h3⟩
       | none =>
       rw [hsd] at hr
       simp only at hr
       obtain ⟨h1,z,h2,h3⟩:=ub3k_ (hE.ty _ _ hty) ho hr hu (hρ (by simp [hop]) x (by simp [hop,Op.operands])) (hopt lo (fun y hy=>by simp [hop,Op.operands,hy])) (hopt hi (fun y hy=>by simp [hop,Op.operands,hy]))
       exact Done.calm hm ⟨h1,z,by simp [execOp,hop,h2],h3⟩
     · cases hr
 | makeInterface t x =>
   rw [hop] at hr
   simp only at hr
   split at hr
   · rename_i ta tu hta htu
     cases hi:ta.isIface with
     | true=>rw [hi] at hr; cases hr
     | false =>
       rw [hi] at hr
       simp only [cond_false] at hr
       split at hr
       · rename_i y hy
         cases hj:ubum_ t ta y tu with
         | none=>rw [hj] at hr; cases hr
         | some z =>
           rw [hj] at hr
           have hr:=Option.some.inj hr
           subst hr; rw [hu.v_inv]
           have hv:=ubgh_ ho hy (hρ (by simp [hop]) x (by simp [hop,Op.operands]))
           obtain ⟨v,h2,h3⟩:=ubsg_ (P:=P) (w:=w) (G:=G) (hE.ty _ _ hta) hi hv hj
           exact Done.calm hm ⟨rfl,v,by simp [execOp,hop,h2],h3⟩
       · cases hr
   · cases hr
 | makeSlice t l c =>
   rw [hop] at hr
   simp only at hr
   split at hr
   · rename_i e x y hty hl hc
     have hlv:=hρ (by simp [hop]) l (by simp [hop,Op.operands])
     have hcv:=hρ (by simp [hop]) c (by simp [hop,Op.operands])
     rw [hl] at hlv
     rw [hc] at hcv
     obtain ⟨e1,_⟩:=hlv.int
     obtain ⟨e2,e3⟩:=hcv.int
     have hex:∃ dd:Nat,(match ubvl_ self dd (idsOf E.el dd t) (.slice e) x y with
      | some r=>some r
      | none=>some (OpRes.may (List e.T) (mks? (24*e.sz) x y e.dflt) [] fun zs=>⟨.obj self 0,[(self,some (.sl (E.el t) e zs 0 (match o.dst with | some d=>E.wr d | none=>false)))]⟩))=some r:=⟨_,hr⟩
     clear hr
     obtain ⟨dd,hr⟩:=hex
     cases hmd:ubvl_ self dd (idsOf E.el dd t) (.slice e) x y with
     | some r1 =>
       rw [hmd] at hr
       have hr:=Option.some.inj hr
       subst hr
       obtain ⟨z,w',h1,h2⟩:=ub6e_ (self:=self) (id:=t) (hE.ty _ _ hty) hm hself (hfree _ (by omega) (by omega)) e3 hmd hu (by
        obtain ⟨el,hun,_,_⟩:=(show Lay P (.slice e) t from hE.ty _ _ hty).slice
        cases dd with
        | zero=>exact absurd hmd (by simp [idsOf,ubvl_])
        | succ n=>exact ⟨idsOf E.el n el,by simp only [idsOf,hun,hE.el _ _ hun]⟩)
       exact Done.makes ⟨z,w',by simp [execOp,hop,e1,e2,h1],h2⟩
     | none =>
     rw [hmd] at hr
     simp only at hr
     have hr:=Option.some.inj hr
     subst hr
     obtain ⟨zs,hz,rfl⟩:=hu.may_inv
     obtain ⟨z,w',h1,h2⟩:=ub0y_ (wr:=(match o.dst with | some d=>E.wr d | none=>false)) (hE.ty _ _ hty) hm hself e3 hz (fun x hx=>hE.el _ _ hx)
     exact Done.makes ⟨z,w',by simp [execOp,hop,e1,e2,h1],h2⟩
   · cases hr
 | makeMap t h =>
   rw [hop] at hr
   simp only at hr
   split at hr
   · rename_i k v hty
     have hcond:∃ b,∃ wf:Bool,(bif b then (bif wf then ub93_ (E.el t) self k v else some (OpRes.pure ⟨.obj self 0,[(self,some (.mp k v [] true))]⟩)) else none)=some r∧(b=true→∀ x,h.map a.eval=some x→∃ kd n,x=.int kd n):=by
      refine ⟨_,_,hr,fun hb x hx=>?_⟩
      cases h with
      | none=>cases hx
      | some y =>
        have hy:=hρ (by simp [hop]) y (by simp [hop,Op.operands])
        have hx:a.eval y=x:=Option.some.inj hx
        simp only at hb
        split at hb
        · rename_i kd n he
          rw [he] at hy
          exact ⟨kd,n,by rw [← hx]; exact hy.int.1⟩
        · cases hb
     obtain ⟨b,wf,h1,h2⟩:=hcond
     cases b with
     | false=>cases h1
     | true =>
       cases wf with
       | true =>
         simp only [cond_true] at h1
         cases v <;> first | (cases h1; done) | skip
         rename_i e hty
         have h1:=Option.some.inj h1
         subst h1; rw [hu.pure_inv]
         obtain ⟨z,w',h3,h4⟩:=ub3u_ (el:=E.el t) (hE.ty _ _ hty) hm hself (hfree _ (by omega) (by omega)) (h2 rfl)
         exact Done.makes ⟨z,w',by simp [execOp,hop,h3],h4⟩
       | false =>
       have h1:=Option.some.inj h1
       subst h1; rw [hu.pure_inv]
       obtain ⟨z,w',h3,h4⟩:=ub5l_ (hE.ty _ _ hty) hm hself (h2 rfl)
       exact Done.makes ⟨z,w',by simp [execOp,hop,h3],h4⟩
   · cases hr
 | build t ps =>
   rw [hop] at hr
   simp only at hr
   split at hr
   · rename_i ty hty
     have hex:∃ wf:Bool,(bif wf then ubr3_ σ' ty (ps.toList.map fun p=>(p.1,ρ p.2)) else ub2c_ σ' ty (ps.toList.map fun p=>(p.1,toFn E.fs σ' (ucay_ ty p.1) (ρ p.2))))=some r:=⟨_,hr⟩
     clear hr
     obtain ⟨wf,hr⟩:=hex
     cases wf with
     | true =>
       obtain ⟨h1,z,h2,h3⟩:=ub8f_ (hE.ty _ _ hty) hm hσ hr hu (vs:=ps.map fun p=>(p.1,a.eval p.2)) (by simp) (ub07_ (ρ:=fun p=>ρ p.2) fun p hp=>hρ (by simp [hop]) p.2 (by simp [hop,Op.operands]; exact ⟨p.1,by simpa using hp⟩))
       exact Done.calm hm ⟨h1,z,by simp [execOp,hop,h2],h3⟩
     | false =>
       obtain ⟨h1,z,h2,h3⟩:=uca7_ (hE.ty _ _ hty) hm hσ hr hu (vs:=ps.map fun p=>(p.1,a.eval p.2)) (by simp) (ub07_ (ρ:=fun p=>toFn E.fs σ' (ucay_ ty p.1) (ρ p.2)) fun p hp=>ucde_ hE hm hσ (hρ (by simp [hop]) p.2 (by simp [hop,Op.operands]; exact ⟨p.1,by simpa using hp⟩)))
       exact Done.calm hm ⟨h1,z,by simp [execOp,hop,h2],h3⟩
   · cases hr
 | buildSlice t len ps =>
   rw [hop] at hr
   simp only at hr
   split at hr
   · rename_i e hty
     split at hr
     · rename_i xs hx
       have hr:=Option.some.inj hr
       subst hr; rw [hu.pure_inv]
       cases hz:Nat.beq len 0 with
       | true =>
         rw [hz] at hx
         have e0:=Nat.eq_of_beq_eq_true hz
         subst e0
         simp only [cond_true] at hx
         split at hx
         · rename_i hps
           cases hx
           have eps:ps = #[]:=by simpa using hps
           subst eps
           obtain ⟨z,w',h2,h3⟩:=ubyw_ (wr:=(match o.dst with | some d=>E.wr d | none=>false)) (hE.ty _ _ hty) hm hself (fun x hx=>hE.el _ _ hx)
           exact Done.makes ⟨z,w',by simp [execOp,hop,h2],h3⟩
         · cases hx
       | false =>
       have hx:(bif Nat.blt 0 len&&Nat.ble (len*e.sz) 16777216 then ubc7_ σ' e (ps.toList.map fun p=>(p.1,ρ p.2)) (List.replicate len e.dflt) else none)=some xs:=by
        rw [hz] at hx
        have hpos:Nat.blt 0 len=true:=by
         rw [Nat.blt_eq]
         apply Nat.pos_of_ne_zero
         intro e0
         rw [e0] at hz; cases hz
        rw [hpos]
        exact hx
       obtain ⟨z,w',h2,h3⟩:=ubyv_ (wr:=(match o.dst with | some d=>E.wr d | none=>false)) (hE.ty _ _ hty) hm hσ hself hx (vs:=ps.map fun p=>(p.1,a.eval p.2)) (by simp) (fun x hx=>hE.el _ _ hx) (ub07_ fun p hp=>hρ (by simp [hop]) p.2 (by simp [hop,Op.operands]; exact ⟨p.1,by simpa using hp⟩))
       exact Done.makes ⟨z,w',by simp [execOp,hop,h2],h3⟩
     · cases hr
   · cases hr
 | binOp op t x y z =>
   rw [hop] at hr
   simp only at hr
   split at hr
   · rename_i r0 hr0
     have hr:=Option.some.inj hr
     subst hr
     obtain ⟨e1,v,e2,e3⟩:=ub8a_ (P:=P) (w:=w) (G:=G) hr0 hu (hρ (by simp [hop]) x (by simp [hop,Op.operands])) (hρ (by simp [hop]) y (by simp [hop,Op.operands])) (fun q hq=>hE.ty _ _ hq) x y
     exact Done.calm hm ⟨e1,v,by simp only [execOp,hop,Sem.run_bind] at e2 ⊢; rw [e2]; rfl,e3⟩
   split at hr
   · rename_i r0 hr0
     have hr:=Option.some.inj hr
     subst hr
     unfold ub92_ at hr0
     split at hr0
     · rename_i ty hty
       cases hok:(E.eq t&&uccm_ ty) with
       | false=>rw [hok] at hr0; cases hr0
       | true =>
         rw [hok] at hr0
         simp only [cond_true] at hr0
         simp only [Bool.and_eq_true] at hok
         split at hr0
         · rename_i xu xv hxu hxv
           split at hr0
           · rename_i bb hbb
             have ha:∃ p,ty=.agg p:=by
              cases ty <;> first | exact ⟨_,rfl⟩ | cases hok.2
             have h1:=as_ok hxu (hρ (by simp [hop]) x (by simp [hop,Op.operands]))
             have h2:=as_ok hxv (hρ (by simp [hop]) y (by simp [hop,Op.operands]))
             obtain ⟨q1,q2⟩:=uca3_ (op:=op) (ox:=x) (oy:=y) (hE.ty _ _ hty) ha (hE.eq _ _ hok.1 hty) h1 h2 hbb
             cases op <;> simp only [nilR,Option.some.injEq] at hr0 <;> first | (cases hr0; done) | skip
             · subst hr0; rw [hu.v_inv]
               have e2:=q1 rfl
               exact Done.calm hm ⟨rfl,.bool bb,by simp only [execOp,hop,Sem.run_bind] at e2 ⊢; rw [e2]; rfl,SR.mk_bool _⟩
             · subst hr0; rw [hu.v_inv]
               have e2:=q2 rfl
               exact Done.calm hm ⟨rfl,.bool (!bb),by simp only [execOp,hop,Sem.run_bind] at e2 ⊢; rw [e2]; rfl,SR.mk_bool _⟩
           · cases hr0
         · cases hr0
     · cases hr0
   have hcond:∃ b,(bif b then opBin op (ρ x) (ρ y) else none)=some r∧(b=true→∀ c,ρ x=.val .bool c→P.underlying t=some .bool):=by
    refine ⟨_,hr,fun hb c hc=>?_⟩
    rw [hc] at hb
    simp only at hb
    split at hb
    · rename_i ht; exact (hE.ty _ _ ht).bool
    · cases hb
   obtain ⟨b,h1,h2⟩:=hcond
   cases b with
   | false=>cases h1
   | true =>
     obtain ⟨e1,v,e2,e3⟩:=uca1_ (P:=P) (w:=w) (G:=G) h1 hu (hρ (by simp [hop]) x (by simp [hop,Op.operands])) (hρ (by simp [hop]) y (by simp [hop,Op.operands])) t x y (h2 rfl)
     exact Done.calm hm ⟨e1,v,by simp only [execOp,hop,Sem.run_bind] at e2 ⊢; rw [e2]; rfl,e3⟩
 | makeFunc fn first caps =>
   rw [hop] at hr
   cases fn with
   | func f =>
     simp only at hr
     split at hr
     · rename_i hfirst
       have hf0:first = #[]:=by simpa using hfirst
       subst hf0
       have hex:∃ wf:Bool,(bif wf then (match E.ty o.type with
        | some (.fnc d c)=>(hofOf false E.fs σ' d c (.fn f (SV.ofList (caps.toList.map ρ)))).map fun F=>OpRes.v (.val (.fnc d c) (some F:Option (d.T→Option c.T)))
        | _=>none) else some (.v (.fn f (SV.ofList (caps.toList.map ρ)))))=some r:=⟨_,hr⟩
       clear hr
       obtain ⟨wf,hr⟩:=hex
       have hcr:CR P w G (.fn f (SV.ofList (caps.toList.map ρ))) [.func (.func f) #[] (caps.map a.eval)]:=by
        refine ⟨caps.map a.eval,rfl,?_⟩
        refine ub5r_ (by simp) fun j s v h1 h2=>?_
        rw [List.getElem?_map] at h1
        rw [Array.toList_map,List.getElem?_map] at h2
        cases hp:caps.toList[j]? with
        | none=>rw [hp] at h1; cases h1
        | some p =>
          rw [hp] at h1 h2
          cases h1
          cases h2
          have hmem:=List.mem_of_getElem? hp
          exact hρ (by simp [hop]) p (by simp [hop,Op.operands]; simpa using hmem)
       cases wf with
       | true =>
         simp only [cond_true] at hr
         split at hr
         · rename_i d c hty
           cases hh:hofOf false E.fs σ' d c (.fn f (SV.ofList (caps.toList.map ρ))) with
           | none=>rw [hh] at hr; cases hr
           | some F =>
             rw [hh] at hr
             have hr:=Option.some.inj hr
             subst hr; rw [hu.v_inv]
             obtain ⟨f',vs',e1,e2⟩:=ubw5_ (D:=False) (fun k o h=>hm.objs k o (hσ k o h)) hE.fs (fun h=>h.elim) hh hcr
             injection e1 with e1 _
             refine Done.calm hm ⟨rfl,.func (.func f) #[] (caps.map a.eval),by simp [execOp,hop,Instr.makeFunc],_,rfl,?_⟩
             rw [e1]
             exact HofD.fnc (by rw [hE.pin]; exact e2)
         · cases hr
       | false =>
       have hr:=Option.some.inj hr
       subst hr; rw [hu.v_inv]
       refine Done.calm hm ⟨rfl,.func (.func f) #[] (caps.map a.eval),by simp [execOp,hop,Instr.makeFunc],_,rfl,caps.map a.eval,rfl,?_⟩
       refine ub5r_ (by simp) fun j s v h1 h2=>?_
       rw [List.getElem?_map] at h1
       rw [Array.toList_map,List.getElem?_map] at h2
       cases hp:caps.toList[j]? with
       | none=>rw [hp] at h1; cases h1
       | some p =>
         rw [hp] at h1 h2
         cases h1
         cases h2
         have hmem:=List.mem_of_getElem? hp
         exact hρ (by simp [hop]) p (by simp [hop,Op.operands]; simpa using hmem)
     · cases hr
   | _=>cases hr
 | nilCheck x =>
   rw [hop] at hr
   have hx:=hρ (by simp [hop]) x (by simp [hop,Op.operands])
   have fin:∀ {s:SV} {ad:Addr},a.eval x=.pointer (some ad)→SR P w G s (.pointer (some ad))→u=⟨s,[]⟩→Done P fr.dr o a w (Res P fr free self σ w G u):=by
    intro s ad h1 h2 h3
    subst h3
    exact Done.calm hm ⟨rfl,_,by simp only [execOp,hop,h1]; rfl,h2⟩
   have finF:∀ {s:SV} {f:Nat} {vs:Array Value},a.eval x=.func (.func f) #[] vs→SR P w G s (.func (.func f) #[] vs)→u=⟨s,[]⟩→Done P fr.dr o a w (Res P fr free self σ w G u):=by
    intro s f vs h1 h2 h3
    subst h3
    exact Done.calm hm ⟨rfl,_,by simp only [execOp,hop,h1]; rfl,h2⟩
   simp only at hr
   split at hr
   · rename_i k p q he
     have hr:=Option.some.inj hr
     subst hr
     rw [he] at hx
     obtain ⟨b,t,oo,_,_,_,hv⟩:=ubaa_ hx
     exact fin hv (hv▸hx) hu.v_inv
   · rename_i k p i q uu he
     have hr:=Option.some.inj hr
     subst hr
     rw [he] at hx
     obtain ⟨b,t,oo,n,e,o',_,_,_,_,_,_,hv⟩:=ubwv_ hx
     exact fin hv (hv▸hx) hu.v_inv
   · rename_i k g i q uu he
     have hr:=Option.some.inj hr
     subst hr
     rw [he] at hx
     obtain ⟨b,oo,len,cap,e,o',_,_,_,_,_,hv⟩:=ubde_ hx
     exact fin hv (hv▸hx) hu.v_inv
   · rename_i t y he
     have hr:=Option.some.inj hr
     subst hr
     rw [he] at hx
     obtain ⟨ad,c,hv,_⟩:=ubsa_ hx
     exact fin hv (hv▸hx) hu.v_inv
   · rename_i e y he
     have hr:=Option.some.inj hr
     subst hr
     rw [he] at hx
     obtain ⟨z,hz,rfl⟩:=hu.may_inv
     have hz:y=some z:=hz
     subst hz
     obtain ⟨c,hc,ad,h2,h3,cc,h4,h5⟩:=hx
     have hv:a.eval x=.pointer (some ad):=List.singleton_inj.1 ((show c=[a.eval x] from hc).symm.trans h2)
     exact fin (s:=.ref e z) hv ⟨_,rfl,ad,cc,rfl,h3,h4,h5⟩ rfl
   · rename_i f cc he
     have hr:=Option.some.inj hr
     subst hr
     rw [he] at hx
     obtain ⟨c,hc,vs,h1,h2⟩:=hx
     have hv:a.eval x=.func (.func f) #[] vs:=List.singleton_inj.1 ((show c=[a.eval x] from hc).symm.trans h1)
     exact finF (s:=.fn f cc) hv ⟨_,rfl,vs,rfl,h2⟩ hu.v_inv
   · rename_i nd d c F he
     have hr:=Option.some.inj hr
     subst hr
     rw [he] at hx
     obtain ⟨cc,hc,f,vs,h1,h2⟩:=hx
     have hv:a.eval x=.func (.func f) #[] vs:=List.singleton_inj.1 ((show cc=[a.eval x] from hc).symm.trans h1)
     exact finF (s:=.hof nd d c F) hv ⟨_,rfl,f,vs,rfl,h2⟩ hu.v_inv
   · rename_i d c y he
     have hr:=Option.some.inj hr
     subst hr
     rw [he] at hx
     obtain ⟨F,hF,rfl⟩:=hu.may_inv
     have hF:y=some F:=hF
     subst hF
     obtain ⟨cc,hc,h2⟩:=hx
     obtain ⟨f,vs,h3,h4⟩:=ub94_ h2
     have hv:a.eval x=.func (.func f) #[] vs:=List.singleton_inj.1 ((show cc=[a.eval x] from hc).symm.trans h3)
     exact finF (s:=.hof false d c F) hv ⟨_,rfl,f,vs,rfl,by rw [← hE.pin]; exact ⟨h4.1,fun w' I' he hm x l hx y hy=>(h4.2 w' I' he hm x l hx y hy).mono fun _ _ ⟨rv,I'',q1,q2,q3,_⟩=>⟨rv,I'',q1,q2,q3,fun h=>by cases h⟩⟩⟩ rfl
   · cases hr
 | convert st t x =>
   rw [hop] at hr
   simp only at hr
   have hx:=hρ (by simp [hop]) x (by simp [hop,Op.operands])
   split at hr
   · rename_i sy ty hst hty
     have hls:=hE.ty _ _ hst
     have hsrc:∃ d,P.underlying st=some d:=let ⟨d,hd,_⟩:=hls.isAgg; ⟨d,hd⟩
     have hlt:=hE.ty _ _ hty
     have hex:∃ wf:Bool,(bif wf then ubr7_ self (E.el t) ty (ρ x) else ubwq_ σ' sy ty (ρ x))=some r:=⟨_,hr⟩
     clear hr
     obtain ⟨wf,hr⟩:=hex
     cases wf with
     | true =>
       simp only [cond_true] at hr
       unfold ubr7_ at hr
       split at hr
       · rename_i s he
         have hr:=Option.some.inj hr
         subst hr; rw [hu.pure_inv]
         rw [he] at hx
         obtain ⟨z,w',h1,h2⟩:=ub00_ (wr:=true) hlt (fun x hx=>hE.el _ _ hx) hsrc hm hself hx
         exact Done.makes ⟨z,w',by simp [execOp,hop,h1],h2⟩
       · cases hr
     | false =>
     simp only [cond_false] at hr
     unfold ubwq_ at hr
     split at hr
     · split at hr
       · rename_i s he
         have hr:=Option.some.inj hr
         subst hr; rw [hu.v_inv]
         rw [he] at hx
         obtain ⟨z,w',h1,h2⟩:=ubyx_ hlt hsrc hm hx
         exact Done.makes ⟨z,w',by simp [execOp,hop,h1],h2⟩
       · cases hr
     · split at hr
       · rename_i s he
         rw [he] at hx
         obtain ⟨h1,z,h2,h3⟩:=ub2o_ (t:=.str) hlt hsrc (s:=.val .str s) rfl (show Gives (.v (.val .str s)) u from by have:=Option.some.inj hr; rw [this]; exact hu) hx
         exact Done.calm hm ⟨h1,z,by simp [execOp,hop,h2],h3⟩
       · cases hs:sy.same (.slice (.int .u8)) with
         | false=>rw [hs] at hr; cases hr
         | true =>
           rw [hs] at hr
           have es:=Ty.same_eq hs
           subst es
           simp only [cond_true] at hr
           split at hr
           · rename_i xs hxs
             have hr:=Option.some.inj hr
             subst hr
             obtain ⟨s,hs',rfl⟩:=hu.may_inv
             obtain ⟨z,h2,h3⟩:=ubw3_ (G:=G) hlt hls (ubgh_ ho hxs hx) hs'
             exact Done.calm hm ⟨rfl,z,by simp [execOp,hop,h2],h3⟩
           · cases hr
     · obtain ⟨h1,z,h2,h3⟩:=ub2o_ hlt hsrc hr hu hx
       exact Done.calm hm ⟨h1,z,by simp [execOp,hop,h2],h3⟩
   · cases hr
 | typeAssert x xt t ok =>
   rw [hop] at hr
   cases ok with
   | false=>cases hr
   | true =>
     simp only at hr
     have hx:=hρ (by simp [hop]) x (by simp [hop,Op.operands])
     split at hr
     · rename_i ty uu y hty he
       rw [he] at hx
       cases hi:ty.isIface with
       | true=>rw [hi] at hr; cases hr
       | false =>
         rw [hi] at hr
         simp only [cond_false] at hr
         split at hr
         · rename_i f hf
           have hr:=Option.some.inj hr
           subst hr; rw [hu.v_inv]
           obtain ⟨z,h2,h3⟩:=uby9_ (P:=P) (w:=w) (G:=G) (xt:=xt) (hE.ty _ _ hty) hi hf hx
           exact Done.calm hm ⟨rfl,z,by simp [execOp,hop,h2],h3⟩
         · cases hr
     · cases hr
 | call c =>
   obtain ⟨cal,as,ts⟩:=c
   rw [hop] at hr
   cases cal with
   | invoke ro m =>
     simp only at hr
     have h1:=hρ (by simp [hop]) ro (by simp [hop,Op.operands,Call.operands])
     split at hr
     · rename_i c has hty
       exact ub3t_ hE.fs hE.drs hE.mt hm hop has h1 hr hu
     · cases hr
   | value fo =>
     have h1:=hρ (by simp [hop]) fo (by simp [hop,Op.operands,Call.operands])
     exact ub58_ hE.pin hE.fs hE.drs hE.drE hm hσ hfree hop h1 (by simp) (fun j s x hj hx=>by
      rw [List.getElem?_map,hx] at hj
      cases hj
      have hmem:=List.mem_of_getElem? hx
      exact hρ (by simp [hop]) x (by simp [hop,Op.operands,Call.operands]; right; simpa using hmem)) hr hu
   | builtin b =>
     have hargs:∀ x∈as.toList,SR P w G (ρ x) (a.eval x):=fun x hx=>hρ (by simp [hop]) x (by simp [hop,Op.operands,Call.operands]; simpa using hx)
     cases b <;> first | (cases hr; done) | skip
     case append =>
      rcases has:as.toList with _ | ⟨s,_ | ⟨x,_ | ⟨y,rr⟩⟩⟩ <;> simp only [has] at hr <;> first | (cases hr; done) | skip
      rcases hts:ts.toList with _ | ⟨t,_ | ⟨t',_ | ⟨t'',rr⟩⟩⟩ <;> simp only [hts] at hr <;> first | (cases hr; done) | skip
      cases htt:Nat.beq t t' with
      | false =>
        rw [htt] at hr
        simp only [cond_false] at hr
        split at hr
        · rename_i ty ty' hty hty'
          have eas:as = #[s,x]:=by apply Array.ext'; simpa using has
          have ets:ts = #[t,t']:=by apply Array.ext'; simpa using hts
          subst eas ets
          obtain ⟨z,w',h1,h2⟩:=ub08_ (ty:=o.type) (wf:=(match o.dst with | some d=>E.wr d | none=>false)) (hE.ty _ _ hty) (hE.ty _ _ hty') (fun x hx=>hE.el _ _ hx) hm hσ hself hr hu (hargs s (by simp)) (hargs x (by simp))
          exact Done.makes ⟨z,w',by simp [execOp,hop,resolve,invoke,builtin,h1],h2⟩
        · cases hr
      | true =>
        rw [htt] at hr
        have:=Nat.eq_of_beq_eq_true htt
        subst this
        simp only [cond_true] at hr
        split at hr
        · rename_i ty hty
          have eas:as = #[s,x]:=by apply Array.ext'; simpa using has
          have ets:ts = #[t,t]:=by apply Array.ext'; simpa using hts
          subst eas ets
          cases had:ubro_ σ' self (E.el t) ty (ρ s) (ρ x) with
          | some r1 =>
            rw [had] at hr
            have hr:=Option.some.inj hr
            subst hr
            obtain ⟨z,w',h1,h2⟩:=ub06_ (ty:=o.type) (hE.ty _ _ hty) (fun x hx=>hE.el _ _ hx) hm hσ hself (hfree _ (by omega) (by omega)) had hu (hargs s (by simp)) (hargs x (by simp))
            exact Done.makes ⟨z,w',by simp [execOp,hop,resolve,invoke,builtin,h1],h2⟩
          | none =>
          rw [had] at hr
          simp only at hr
          obtain ⟨z,w',h1,h2⟩:=ub3y_ (ty:=o.type) (wf:=(match o.dst with | some d=>E.wr d | none=>false)) (hE.ty _ _ hty) (fun x hx=>hE.el _ _ hx) hm hσ hself hr hu (hargs s (by simp)) (hargs x (by simp))
          exact Done.makes ⟨z,w',by simp [execOp,hop,resolve,invoke,builtin,h1],h2⟩
        · cases hr
     case len =>
      rcases has:as.toList with _ | ⟨x,_ | ⟨y,rr⟩⟩ <;> simp only [has] at hr <;> first | (cases hr; done) | skip
      rcases hts:ts.toList with _ | ⟨t,_ | ⟨t',rr⟩⟩ <;> simp only [hts] at hr <;> first | (cases hr; done) | skip
      split at hr
      · rename_i ty hty
        have eas:as = #[x]:=by apply Array.ext'; simpa using has
        have ets:ts = #[t]:=by apply Array.ext'; simpa using hts
        subst eas ets
        obtain ⟨h1,z,h2,h3⟩:=uca2_ (hE.ty _ _ hty) ho hr hu (hargs x (by simp)) #[t] rfl o.type
        exact Done.calm hm ⟨h1,z,by simp [execOp,hop,resolve,invoke,builtin,h2],h3⟩
      · cases hr
     case max =>
      rcases has:as.toList with _ | ⟨x,_ | ⟨y,_ | ⟨yy,rr⟩⟩⟩ <;> simp only [has] at hr <;> first | (cases hr; done) | skip
      · have eas:as = #[x,y]:=by apply Array.ext'; simpa using has
        subst eas
        split at hr
        · rename_i k m l n hx hy
          have h1:=hargs x (by simp)
          have h2:=hargs y (by simp)
          rw [hx] at h1
          rw [hy] at h2
          obtain ⟨e1,e2⟩:=h1.int
          obtain ⟨e3,e4⟩:=h2.int
          cases hk:u00_ k l with
          | false=>rw [hk] at hr; cases hr
          | true =>
            rw [hk] at hr
            have:=u0x_ hk
            subst this
            have hr:=Option.some.inj hr
            subst hr; rw [hu.v_inv]
            obtain ⟨z,h5,h6⟩:=ucc5_ (P:=P) (w:=w) (G:=G) ts o.type e2 e4
            exact Done.calm hm ⟨rfl,z,by simp [execOp,hop,resolve,invoke,builtin,e1,e3,h5],h6⟩
        · cases hr
     case min =>
      rcases has:as.toList with _ | ⟨x,_ | ⟨y,_ | ⟨yy,rr⟩⟩⟩ <;> simp only [has] at hr <;> first | (cases hr; done) | skip
      · have eas:as = #[x,y]:=by apply Array.ext'; simpa using has
        subst eas
        split at hr
        · rename_i k m l n hx hy
          have h1:=hargs x (by simp)
          have h2:=hargs y (by simp)
          rw [hx] at h1
          rw [hy] at h2
          obtain ⟨e1,e2⟩:=h1.int
          obtain ⟨e3,e4⟩:=h2.int
          cases hk:u00_ k l with
          | false=>rw [hk] at hr; cases hr
          | true =>
            rw [hk] at hr
            have:=u0x_ hk
            subst this
            have hr:=Option.some.inj hr
            subst hr; rw [hu.v_inv]
            obtain ⟨z,h5,h6⟩:=ucc4_ (P:=P) (w:=w) (G:=G) ts o.type e2 e4
            exact Done.calm hm ⟨rfl,z,by simp [execOp,hop,resolve,invoke,builtin,e1,e3,h5],h6⟩
        · cases hr
 | _=>cases hop▸hr
end
end Go.Ev
namespace Go.Ev
variable [Pins]
section
variable {P:Program} {fr:Fr} {free free':Nat→Prop} {self:Nat} {σ σ':Nat→Option Obj} {w w':World} {G G':Gh} {I:Im}
theorem MemS.swap (hm:MemS P fr free σ w G) {k:Nat} {o o':Obj} (hk:σ k=some o) (ho:ObjOK P fr w G k o') (hb:∀ b,Bk G k o' b→Bk G k o b) :
 MemS P fr free (u3_ σ [(k,some o')]) w G:=by
 refine ⟨fun j p h=>?_,fun i j o1 o2 b' hi hj hbi hbj=>?_,hm.after,fun j hj=>?_⟩
 · rw [uba_] at h
   by_cases e:j=k
   · rw [if_pos e] at h; cases h; subst e; exact ho
   · rw [if_neg e] at h; exact hm.objs j p h
 · rw [uba_] at hi hj
   by_cases e1:i=k <;> by_cases e2:j=k
   · rw [e1,e2]
   · rw [if_pos e1] at hi; rw [if_neg e2] at hj
     cases hi; subst e1
     exact hm.sep i j o o2 b' hk hj (hb _ hbi) hbj
   · rw [if_neg e1] at hi; rw [if_pos e2] at hj
     cases hj; subst e2
     exact hm.sep i j o1 o b' hi hk hbi (hb _ hbj)
   · rw [if_neg e1] at hi; rw [if_neg e2] at hj
     exact hm.sep i j o1 o2 b' hi hj hbi hbj
 · have hf:=hm.fresh j hj
   refine ⟨?_,hf.2⟩
   rw [uba_,if_neg (fun e=>?_)]
   · exact hf.1
   · subst e; rw [hf.1] at hk; cases hk
theorem MemS.freeze (hm:MemS P fr free σ w G) {k:Nat} {o o':Obj} (hk:σ k=some o) {C:Nat→Prop} (hC:∀ b,C b→Bk G k o b)
 (ho:GLe w G w { G with im:=⟨fun b off=>G.im.cell b off∨C b,G.im.obj⟩ }→ObjOK P fr w { G with im:=⟨fun b off=>G.im.cell b off∨C b,G.im.obj⟩ } k o') (hb:∀ b,¬ Bk { G with im:=⟨fun b off=>G.im.cell b off∨C b,G.im.obj⟩ } k o' b) :
 ∃ G',GLe w G w G'∧MemS P fr free (u3_ σ [(k,some o')]) w G':=by
 have hle:GLe w G w { G with im:=⟨fun b off=>G.im.cell b off∨C b,G.im.obj⟩ }:=⟨⟨fun _ _ h=>⟨.inl h,rfl⟩,fun _ h=>⟨h,rfl⟩⟩,fun _ _ _ h=>h,fun _ _ h=>h,fun _ _ h=>h⟩
 refine ⟨_,hle,fun j p h=>?_,fun i j o1 o2 b' hi hj hbi hbj=>?_,?_,fun j hj=>?_⟩
 · rw [uba_] at h
   by_cases e:j=k
   · rw [if_pos e] at h; cases h; subst e; exact ho hle
   · rw [if_neg e] at h
     exact (hm.objs j p h).keep hle fun b hb=>⟨rfl,fun off hoff=>hoff.resolve_right fun hc=>e (hm.sep j k p o b h hk hb (hC b hc)),id⟩
 · rw [uba_] at hi hj
   by_cases e1:i=k <;> by_cases e2:j=k
   · rw [e1,e2]
   · rw [if_pos e1] at hi
     cases hi; subst e1
     exact absurd hbi (hb _)
   · rw [if_pos e2] at hj
     cases hj; subst e2
     exact absurd hbj (hb _)
   · rw [if_neg e1] at hi; rw [if_neg e2] at hj
     exact hm.sep i j o1 o2 b' hi hj (by rw [← ufb_ (hm.objs i o1 hi) hle]; exact hbi) (by rw [← ufb_ (hm.objs j o2 hj) hle]; exact hbj)
 · have ha:=hm.after
   refine ⟨ha.ext.trans hle.ext,ha.heap,ha.size,fun b off h=>?_,ha.newO,fun b off h=>?_,ha.inO,ha.os,ha.tape,ha.output,ha.pins.ext hle.ext⟩
   · rcases h with h | h
     · exact ha.newC b off h
     · exact .inr (u8e_ (hm.objs k o hk) (hC b h))
   · rcases h with h | h
     · exact ha.inC b off h
     · exact ubkw_ (hm.objs k o hk) (hC b h)
 · have hf:=hm.fresh j hj
   refine ⟨?_,hf.2⟩
   rw [uba_,if_neg (fun e=>?_)]
   · exact hf.1
   · subst e; rw [hf.1] at hk; cases hk
theorem DV.rel {ow:Nat→Prop} {I':Im} {t:Ty} (e:Ext w I w I'):∀ {ids:List Nat} {x:(deep ids t).T} {cs:List Value} {bs:List Nat},DV ow w I t ids x none cs bs →
 (∀ b∈bs,∀ off,I'.cell b off)→Rel w I' (deep ids t) x cs:=by
 intro ids
 induction ids with
 | nil=>intro x cs bs h _; exact Rel.ext e h.2
 | cons id r ih =>
   intro x cs bs h hb
   obtain ⟨v,rfl,h1,h2⟩:=h
   rcases h2 with ⟨h2,_⟩ | ⟨_,rfl,h3,_⟩ | ⟨h2,b,o,cap,cells,bss,rfl,q1,q2,q3,q4,q5,q6,q7,rfl,q9⟩
   · cases h2
   · have h3:(show List (deep r t).T from x)=[]:=h3
     refine ⟨none,0,by rw [h3]; rfl,by rw [h3]; exact ⟨Nat.le_refl _,Nat.zero_le _⟩,fun _=>⟨h3,rfl⟩,fun ad h=>by cases h⟩
   · refine ⟨some ⟨b,o,none⟩,cap,rfl,q1,(fun h=>by cases h),fun ad had=>?_⟩
     cases had
     refine ⟨fun _=>rfl,fun i y hy=>?_⟩
     have hr:=ih (q9 i y hy) fun b' hb'=>hb b' (List.mem_cons_of_mem _ (ubwy_ hb'))
     exact ⟨_,⟨hr.length,fun j hj=>⟨hb b List.mem_cons_self _,ubkx_ q2 j hj⟩⟩,hr⟩
theorem ucdf_ (hm:MemS P fr free σ w G) {k:Nat} {o:Obj} (hk:σ k=some o):∃ G',GLe w G w G'∧MemS P fr free (u3_ σ [(k,some (u3e_ o))]) w G':=by
 have hsame:∀ {o':Obj},σ k=some o'→∃ G',GLe w G w G'∧MemS P fr free (u3_ σ [(k,some o')]) w G':=fun {o'} h =>
  ⟨G,GLe.refl _ _,hm.swap h (hm.objs k o' h) fun _ h=>h⟩
 have hfresh:∀ j,free j→j≠k∧free j∧G.ety j=none∧G.box j=none∧∀ g,G.val j g=none:=by
  intro j hj
  have hf:=hm.fresh j hj
  exact ⟨fun e=>(by subst e; rw [hf.1] at hk; cases hk),hj,hf.2⟩
 cases o with
 | box t c wr =>
   cases wr with
   | false=>exact hsame hk
   | true =>
     obtain ⟨b,cs,el,q1,q2,q3,q4,q5,q6,q7,q8⟩:=hm.objs k _ hk
     let G':Gh:={ G with im:=⟨fun b' off=>G.im.cell b' off∨(b'=b∧off<t.sz),G.im.obj⟩ }
     have hle:GLe w G w G':=⟨⟨fun _ _ h=>⟨.inl h,rfl⟩,fun _ h=>⟨h,rfl⟩⟩,fun _ _ _ h=>h,fun _ _ h=>h,fun _ _ h=>h⟩
     refine ⟨G',hle,hm.change (b:=b) hle (fun j o' hj ho' hb=>hj (hm.sep j k o' _ b ho' hk hb (by simp [Bk,q1]))) (fun _ _ _=>rfl) (Nat.le_refl _) (usr_ q2) q8.1
      (fun b' off h=>h.imp id fun h=>h.1) (fun _ h=>.inl h) rfl rfl rfl (fun o' ho'=>?_) hfresh⟩
     cases ho'
     exact ⟨⟨b,cs,el,q1,q2,q3,q4,q5.mono hle,⟨(fun h=>by cases h),fun _ off h=>.inr ⟨rfl,h⟩⟩,q7,q8⟩,by intro b' hb'; simp [Bk,u3e_,G',q1] at hb'; exact .inl hb'.symm⟩
 | sl el t xs g wr =>
   cases wr with
   | false=>exact hsame hk
   | true =>
     obtain ⟨h0,v,h1,h2⟩:=hm.objs k _ hk
     rcases h2 with ⟨rfl,rfl⟩ | ⟨b,cap,cs,rfl,q1,q2,q3,q4,q5,q6,q7,q8⟩
     · exact ⟨G,GLe.refl _ _,hm.swap hk ⟨h0,_,h1,.inl ⟨rfl,rfl⟩⟩ fun b hb=>by simp [u3e_,Bk,h1] at hb⟩
     · let G':Gh:={ G with im:=⟨fun b' off=>G.im.cell b' off∨(b'=b∧off<xs.length*t.sz),G.im.obj⟩ }
       have hle:GLe w G w G':=⟨⟨fun _ _ h=>⟨.inl h,rfl⟩,fun _ h=>⟨h,rfl⟩⟩,fun _ _ _ h=>h,fun _ _ h=>h,fun _ _ h=>h⟩
       refine ⟨G',hle,hm.change (b:=b) hle (fun j o' hj ho' hb=>hj (hm.sep j k o' _ b ho' hk hb (by simp [Bk,h1]))) (fun _ _ _=>rfl) (Nat.le_refl _) (q2.lt) q5
        (fun b' off h=>h.imp id fun h=>h.1) (fun _ h=>.inl h) rfl rfl rfl (fun o' ho'=>?_) hfresh⟩
       cases ho'
       refine ⟨⟨h0,_,h1,.inr ⟨b,cap,cs,rfl,q1,q2,q3,fun i x hx=>(q4 i x hx).ext hle.ext,q5,(fun h=>by cases h),fun _ off=>⟨fun h=>.inr ⟨rfl,h⟩,fun h=>?_⟩,q8⟩⟩,by intro b' hb'; simp [Bk,u3e_,G',h1] at hb'; exact .inl hb'.symm⟩
       rcases h with h | h
       · exact absurd h (q6 rfl off)
       · exact h.2
 | mp a c es wr =>
   cases wr with
   | false=>exact hsame hk
   | true =>
     obtain ⟨v,h1,b,ents,clock,rfl,q1,q2,q3,q4,q5,q6⟩:=hm.objs k _ hk
     let G':Gh:={ G with im:=⟨G.im.cell,fun b'=>G.im.obj b'∨b'=b⟩ }
     have hle:GLe w G w G':=⟨⟨fun _ _ h=>⟨h,rfl⟩,fun _ h=>⟨.inl h,rfl⟩⟩,fun _ _ _ h=>h,fun _ _ h=>h,fun _ _ h=>h⟩
     refine ⟨G',hle,hm.change (b:=b) hle (fun j o' hj ho' hb=>hj (hm.sep j k o' _ b ho' hk hb (by simp [Bk,h1]))) (fun _ _ _=>rfl) (Nat.le_refl _) (usr_ q1) q6
      (fun b' off h=>.inl h) (fun b' h=>h) rfl rfl rfl (fun o' ho'=>?_) hfresh⟩
     cases ho'
     exact ⟨⟨_,h1,b,ents,clock,rfl,q1,q2,fun i x e hx he=>⟨(q3 i x e hx he).1.ext hle.ext,(q3 i x e hx he).2.ext hle.ext⟩,⟨(fun h=>by cases h),fun _=>.inr rfl⟩,q5,q6⟩,by intro b' hb'; simp [Bk,u3e_,G',h1] at hb'; exact .inl hb'.symm⟩
 | mg el a t es tk gk =>
   cases tk with
   | some q=>exact hsame hk
   | none =>
     obtain ⟨v,us,h1,h2,b,ents,clock,rfl,q1,q2,q3,q4,q5,q6,q7,q8,q9⟩:=hm.objs k _ hk
     let G':Gh:={ G with im:=⟨G.im.cell,fun b'=>G.im.obj b'∨b'=b⟩ }
     have hle:GLe w G w G':=⟨⟨fun _ _ h=>⟨h,rfl⟩,fun _ h=>⟨.inl h,rfl⟩⟩,fun _ _ _ h=>h,fun _ _ h=>h,fun _ _ h=>h⟩
     refine ⟨G',hle,hm.change (b:=b) (o':=some (.mp a (.slice t) es false)) hle (fun j o' hj ho' hb=>hj (hm.sep j k o' _ b ho' hk hb (.inl h1))) (fun _ _ _=>rfl) (Nat.le_refl _) (usr_ q1) q9
      (fun b' off h=>.inl h) (fun b' h=>h) rfl rfl rfl (fun o' ho'=>?_) hfresh⟩
     cases ho'
     refine ⟨⟨_,h1,b,ents,clock,rfl,q1,q2,fun i x e hx he=>?_,⟨(fun h=>by cases h),fun _=>.inr rfl⟩,q8,q9⟩,by intro b' hb'; simp [Bk,G',h1] at hb'; exact .inl hb'.symm⟩
     have hlt:i<es.length:=(List.getElem?_eq_some_iff.1 hx).1
     obtain ⟨k1,k2⟩:=q4 i x e _ hx he (List.getElem?_eq_getElem (by rw [q3]; exact hlt))
     refine ⟨k1.ext hle.ext,?_⟩
     rcases k2 with ⟨k2,_⟩ | ⟨k2,_⟩
     · cases k2
     · exact ⟨_,rfl,Rel.ext hle.ext (ub3f_ k2)⟩
 | dp ids t x gk h wr =>
   cases h with
   | some p=>exact hsame hk
   | none =>
     cases wr with
     | false=>exact hsame hk
     | true =>
       cases ids with
       | nil=>exact absurd (hm.objs k _ hk) id
       | cons id r =>
         obtain ⟨_,_,v,us,bs,h1,h2,h3,h4,h5⟩:=DpOK.inv (hm.objs k _ hk)
         exact hm.freeze (o':=.dp (id::r) t x gk none false) hk (C:=(·∈bs)) (fun b hb=>⟨rfl,us,h2,(ubh3_ h3).2 hb⟩)
          (fun hle=>⟨v,h1,h5.rel hle.ext fun b hb off=>.inr hb⟩) (fun b hb=>by cases hb.1)
theorem ub09_ (o:Obj):u3e_ (u3e_ o)=u3e_ o:=by
 cases o with
 | mg id k t es tk gk=>cases tk <;> rfl
 | dp ids t x gk h wr=>cases h <;> rfl
 | _=>rfl
theorem ucbp_:∀ {fz:List (Nat×Option Obj)} {G:Gh},MemS P fr free σ w G→(∀ p∈fz,∃ o,σ p.1=some o∧p.2=some (u3e_ o))→∃ G',GLe w G w G'∧MemS P fr free (u3_ σ fz) w G':=by
 intro fz
 induction fz with
 | nil=>intro G hm _; exact ⟨G,GLe.refl _ _,hm⟩
 | cons p r ih =>
   intro G hm h
   obtain ⟨G1,h1,h2⟩:=ih hm fun q hq=>h q (List.mem_cons_of_mem _ hq)
   obtain ⟨k,x⟩:=p
   obtain ⟨o,ho,hx⟩:=h (k,x) List.mem_cons_self
   have hx:x=some (u3e_ o):=hx
   have ho:σ k=some o:=ho
   subst hx
   have hk:∃ o1,u3_ σ r k=some o1∧u3e_ o1=u3e_ o:=by
    have:∀ (r:List (Nat×Option Obj)),(∀ p∈r,∃ o,σ p.1=some o∧p.2=some (u3e_ o))→∃ o1,u3_ σ r k=some o1∧u3e_ o1=u3e_ o:=by
     intro r
     induction r with
     | nil=>intro _; exact ⟨o,ho,rfl⟩
     | cons q r ih2 =>
       intro hr
       obtain ⟨j,y⟩:=q
       obtain ⟨o',ho',hy⟩:=hr (j,y) List.mem_cons_self
       have hy:y=some (u3e_ o'):=hy
       have ho':σ j=some o':=ho'
       subst hy
       by_cases e:k=j
       · subst e
         rw [ho] at ho'
         cases ho'
         exact ⟨u3e_ o,by simp [u3_,Nat.beq_refl],ub09_ o⟩
       · obtain ⟨o1,a1,a2⟩:=ih2 fun q hq=>hr q (List.mem_cons_of_mem _ hq)
         refine ⟨o1,?_,a2⟩
         simp only [u3_]
         rw [show Nat.beq k j=false by rw [← Bool.not_eq_true]; exact fun hh=>e (Nat.eq_of_beq_eq_true hh)]
         exact a1
    exact this r fun q hq=>h q (List.mem_cons_of_mem _ hq)
   obtain ⟨o1,a1,a2⟩:=hk
   obtain ⟨G2,h3,h4⟩:=ucdf_ h2 a1
   refine ⟨G2,h1.trans h3,?_⟩
   rw [a2] at h4
   have e:u3_ σ ((k,some (u3e_ o))::r)=u3_ (u3_ σ r) [(k,some (u3e_ o))]:=uu_ σ [(k,some (u3e_ o))] r
   rw [e]; exact h4
theorem ubw9_ {ks:List Nat}:∀ p∈ubr2_ σ ks,∃ o,σ p.1=some o∧p.2=some (u3e_ o):=by
 induction ks with
 | nil=>intro p hp; cases hp
 | cons k r ih =>
   intro p hp
   simp only [ubr2_] at hp
   split at hp
   · rename_i o ho
     rcases List.mem_cons.1 hp with rfl | hp
     · exact ⟨o,ho,rfl⟩
     · exact ih p hp
   · exact ih p hp
theorem ub2t_ (hm:MemS P fr free σ w G) (l:List Sh) (vs:List SV):∃ G',GLe w G w G'∧MemS P fr free (ub71_ σ l vs) w G':=ucbp_ hm ubw9_
theorem ub3z_ {l:List (Nat×Option Obj)} (hσ:∀ k o,σ' k=some o→σ k=some o):∀ k o,u3_ σ' l k=some o→u3_ σ l k=some o:=by
 induction l with
 | nil=>exact hσ
 | cons p r ih =>
   intro k o h
   obtain ⟨j,x⟩:=p
   simp only [u3_] at h ⊢
   cases hb:Nat.beq k j with
   | true=>rw [hb] at h; exact h
   | false=>rw [hb] at h; exact ih k o h
theorem uceq_ {E:Env} (hE:EnvOK P fr.dr E) (hm:MemS P fr free σ w G) (hσ:∀ k o,σ' k=some o→σ k=some o) (hfree:∀ k,self≤k→k<self+8→free k) {o:Oper} {a:Act} {ρ ρt ρf:Operand→SV}
 (hρ:(∀ c x y,o.op≠.pick c x y)→∀ x∈o.op.operands,SR P w G (ρ x) (a.eval x))
 (hpick:∀ c x y,o.op=.pick c x y→SR P w G (ρ c) (a.eval c)∧(a.eval c=.bool true→SR P w G (ρt x) (a.eval x))∧(a.eval c=.bool false→SR P w G (ρf y) (a.eval y)))
 {r:OpRes} {u:Upd} (hr:opF E ρ ρt ρf σ' self o=some r) (hu:Gives r u):Done P fr.dr o a w (Res P fr free self σ w G u):=by
 unfold opF at hr
 split at hr
 · rename_i r0 hr0
   cases hr
   obtain ⟨G1,g1,g2⟩:=ucbp_ (fz:=ubr2_ σ' (ub2f_ E ρ σ' o)) hm fun p hp=>let ⟨ob,h1,h2⟩:=ubw9_ p hp; ⟨ob,hσ _ _ h1,h2⟩
   have hu0:∃ u0,Gives r0 u0∧u=⟨u0.sv,u0.wr++ubr2_ σ' (ub2f_ E ρ σ' o)⟩:=by
    cases r0 with
    | pure u0=>exact ⟨u0,.pure u0,hu.pure_inv⟩
    | may α m d f =>
      obtain ⟨x,hx,rfl⟩:=hu.may_inv
      exact ⟨f x,.may hx,rfl⟩
   obtain ⟨u0,hu0,rfl⟩:=hu0
   refine (ucep_ hE g2 (ub3z_ hσ) hfree (fun h x hx=>(hρ h x hx).mono g1) (fun c x y h=>?_) hr0 hu0).mono fun v w' hres=>?_
   · obtain ⟨h1,h2,h3⟩:=hpick c x y h
     exact ⟨h1.mono g1,fun hh=>(h2 hh).mono g1,fun hh=>(h3 hh).mono g1⟩
   · obtain ⟨G',k1,k2,k3⟩:=hres
     exact ⟨G',g1.trans k1,by rw [uu_]; exact k2,k3⟩
 · cases hr
end
end Go.Ev
