/-
  The evaluator's functions: a function of the program keeps what the evaluator says.
-/
import Derived.Test.YthepbdhoogphdaaGreatDoorE2
set_option linter.unusedVariables false
set_option linter.unusedSimpArgs false
set_option linter.unusedSectionVars false
set_option maxRecDepth 100000
namespace Go.Ev
variable [Pins]
section
variable {P:Program} {fr:Fr} {free free':Nat→Prop} {self:Nat} {σ σ':Nat→Option Obj} {w w':World} {G G':Gh} {I:Im}
theorem MemS.back (hm:MemS P fr free σ w G) {k b:Nat} {t:Ty} {c:SV} (hbox:G.box k=some (b,t)) {wr:Bool} (ho:ObjOK P fr w G k (.box t c wr)) (hb:∀ j o',σ j=some o'→¬ Bk G j o' b) :
 MemS P fr free (ub7_ σ [(k,some (.box t c wr))]) w G:=by
 have hblk:∀ {b'},Bk G k (.box t c wr) b'→b=b':=by intro b' h; simpa [Bk,hbox] using h
 refine ⟨fun j o h=>?_,fun i j o1 o2 b' hi hj hbi hbj=>?_,hm.after,fun j hj=>?_⟩
 · rw [ucv_] at h
   by_cases e:j=k
   · rw [if_pos e] at h; cases h; subst e; exact ho
   · rw [if_neg e] at h; exact hm.objs j o h
 · rw [ucv_] at hi hj
   by_cases e1:i=k <;> by_cases e2:j=k
   · rw [e1,e2]
   · exfalso
     rw [if_pos e1] at hi; rw [if_neg e2] at hj
     cases hi; subst e1
     have:=hblk hbi; subst this
     exact hb j o2 hj hbj
   · exfalso
     rw [if_neg e1] at hi; rw [if_pos e2] at hj
     cases hj; subst e2
     have:=hblk hbj; subst this
     exact hb i o1 hi hbi
   · rw [if_neg e1] at hi; rw [if_neg e2] at hj
     exact hm.sep i j o1 o2 b' hi hj hbi hbj
 · have hf:=hm.fresh j hj
   refine ⟨?_,hf.2⟩
   rw [ucv_,if_neg (fun e=>?_)]
   · exact hf.1
   · subst e
     rw [hf.2.2.1] at hbox; cases hbox
theorem MemS.backO (hm:MemS P fr free σ w G) {k:Nat} {o:Obj} (ho:ObjOK P fr w G k o) (hnf:¬ free k) (hb:∀ b,Bk G k o b→∀ j o',σ j=some o'→¬ Bk G j o' b) :
 MemS P fr free (ub7_ σ [(k,some o)]) w G:=by
 refine ⟨fun j o' h=>?_,fun i j o1 o2 b' hi hj hbi hbj=>?_,hm.after,fun j hj=>?_⟩
 · rw [ucv_] at h
   by_cases e:j=k
   · rw [if_pos e] at h; cases h; subst e; exact ho
   · rw [if_neg e] at h; exact hm.objs j o' h
 · rw [ucv_] at hi hj
   by_cases e1:i=k <;> by_cases e2:j=k
   · rw [e1,e2]
   · exfalso
     rw [if_pos e1] at hi; rw [if_neg e2] at hj
     cases hi; subst e1
     exact hb _ hbi j o2 hj hbj
   · exfalso
     rw [if_neg e1] at hi; rw [if_pos e2] at hj
     cases hj; subst e2
     exact hb _ hbj i o1 hi hbi
   · rw [if_neg e1] at hi; rw [if_neg e2] at hj
     exact hm.sep i j o1 o2 b' hi hj hbi hbj
 · have hf:=hm.fresh j hj
   refine ⟨?_,hf.2⟩
   rw [ucv_,if_neg (fun e=>?_)]
   · exact hf.1
   · subst e; exact hnf hj
def BoxArgs (G:Gh):List Sh→List SV→List Value→Prop
 | .box c::ps,s::ss,v::vs=>(∃ k u b,s=.ptr k [] u∧G.box k=some (b,c.ty)∧v=.pointer (some ⟨b,0,none⟩))∧BoxArgs G ps ss vs
 | .bld _ false::ps,s::ss,v::vs=>(∃ k u b,s=.ptr k [] u∧G.box k=some (b,bldTy)∧v=.pointer (some ⟨b,0,none⟩))∧BoxArgs G ps ss vs
 | .io _ t::ps,s::ss,v::vs=>((∃ k,s=.obj k 0∧G.val k 0=some v∧G.ety k=some t)∨(s=.nilS∧v=.slice none 0 0))∧BoxArgs G ps ss vs
 | _::ps,_::ss,_::vs=>BoxArgs G ps ss vs
 | _,_,_=>True
theorem ucch_:∀ {ps:List Sh} {ss:List SV} {vals:List Value} {r:TupR (ps.filter isBox)} {n:Nat} {bs:List Nat} {free:Nat→Prop},MemS P fr free σ w G→ss.length=ps.length→vals.length=ps.length →
 BoxArgs G ps ss vals→ShL P w G.im (ps.filter isBox) r (uoy_ ps vals) bs→bs.Nodup →
 (∀ b∈bs,fr.owned b∧∀ j o,σ j=some o→¬ Bk G j o b)→(∀ k,n≤k→k<n+cntL (ps.filter isBox)→free k) →
 ∃ G',Made P fr free σ w G n (n+cntL (ps.filter isBox)) (uqz_ ps ss (mkL (ps.filter isBox) r n)) bs G':=by
 intro ps
 induction ps with
 | nil =>
   intro ss vals r n bs free hm _ _ _ h _ _ _
   obtain ⟨_,rfl⟩:=h
   have:uqz_ [] ss (mkL ([]:List Sh) r n)=[]:=by cases ss <;> rfl
   refine ⟨G,?_⟩
   show Made P fr free σ w G n n (uqz_ [] ss (mkL ([]:List Sh) r n)) [] G
   rw [this]
   exact Made.none hm
 | cons p ps ih =>
   intro ss vals r n bs free hm hls hlv hba h hnd hbs hfree
   cases ss with
   | nil=>cases hls
   | cons s ss =>
     cases vals with
     | nil=>cases hlv
     | cons v vals =>
       cases p with
       | box c =>
         obtain ⟨⟨k,u,b,rfl,hbox,rfl⟩,hba'⟩:=hba
         have hsplit:∃ (x:c.T) (r':TupR (ps.filter isBox)) (b1 b2:List Nat),bs=b1++b2∧ShC P w G.im (.box c) x [.pointer (some ⟨b,0,none⟩)] b1∧ShL P w G.im (ps.filter isBox) r' (uoy_ ps vals) b2 ∧
          mkL ((Sh.box c::ps).filter isBox) r n=mkC (.box c) x n::mkL (ps.filter isBox) r' (n+(c.cnt+1)):=by
          have h:ShL P w G.im ([Sh.box c]++ps.filter isBox) r ([.pointer (some ⟨b,0,none⟩)]++uoy_ ps vals) bs:=h
          obtain ⟨b1,b2,e1,h1,h2⟩:=h.split rfl
          obtain ⟨v',e2,h3⟩:=h1
          have e2:Value.pointer (some ⟨b,0,none⟩)=v':=by injection e2
          subst e2
          refine ⟨_,_,b1,b2,e1,h3,h2,?_⟩
          exact ubs8_ (a:=[Sh.box c]) (b:=ps.filter isBox) (x:=r) (n:=n)
         obtain ⟨x,r',b1,b2,rfl,h1,h2,h3⟩:=hsplit
         have hnd':=List.nodup_append.1 hnd
         have hcnt:cntL ((Sh.box c::ps).filter isBox)=c.cnt+1+cntL (ps.filter isBox):=rfl
         rw [hcnt] at hfree ⊢
         obtain ⟨G1,m1⟩:=ih (n:=n+(c.cnt+1)) hm (by simpa using hls) (by simpa using hlv) hba' h2 hnd'.2.1 (fun b hb=>hbs b (List.mem_append_right _ hb)) (fun k h1 h2=>hfree k (by omega) (by omega))
         obtain ⟨b0,cells,el,bs',e1,rfl,q1,q2,q3,q4,q5,hlay⟩:=h1
         have hb0:b0=b:=by
          injection e1 with e1 _
          injection e1 with e1
          injection e1 with e1
          injection e1 with e1 _ _
          exact e1.symm
         subst hb0
         have hndc:=List.nodup_cons.1 hnd'.1
         have hfr:∀ b'∈b0::bs',fr.owned b'∧∀ j o,ub7_ σ (uqz_ ps ss (mkL (ps.filter isBox) r' (n+(c.cnt+1)))) j=some o→¬ Bk G1 j o b':=fun b' hb' =>
          ⟨(hbs b' (List.mem_append_left _ hb')).1,fun j o ho hb2=>by
            rcases m1.own j o b' ho hb2 with h | ⟨j',o',h3,h4⟩
            · exact hnd'.2.2 b' hb' b' h rfl
            · exact (hbs b' (List.mem_append_left _ hb')).2 j' o' h3 h4⟩
         obtain ⟨G2,m2,r2,f2⟩:=ubvp_ (s:=c) (x:=x) (n:=n+1) m1.mem (by rw [m1.im]; exact q3) hndc.2 (fun b' hb'=>hfr b' (List.mem_cons_of_mem _ hb')) (fun k h1 h2=>⟨hfree k (by omega) (by omega),by omega⟩)
         have him:G2.im=G.im:=m2.im.trans m1.im
         have hle:=m1.le.trans m2.le
         have hbox2:G2.box k=some (b0,c.ty):=hle.box _ _ hbox
         have hno:∀ j o',ub7_ (ub7_ σ (uqz_ ps ss (mkL (ps.filter isBox) r' (n+(c.cnt+1))))) (mkC c x (n+1)).obs j=some o'→¬ Bk G2 j o' b0:=by
          intro j o' ho hb2
          rcases m2.own j o' b0 ho hb2 with h | ⟨j',o2,h3,h4⟩
          · exact hndc.1 h
          · exact (hfr b0 List.mem_cons_self).2 j' o2 h3 h4
         have hback:=m2.mem.back (wr:=true) (k:=k) (b:=b0) (t:=c.ty) (c:=(mkC c x (n+1)).sv) hbox2
          ⟨b0,cells,el,hbox2,q1,q2,f2,r2,⟨fun _ o=>by rw [him]; exact q4 o,fun h=>by cases h⟩,by rw [him]; exact q5,(hfr b0 List.mem_cons_self).1,hlay⟩ hno
         have eobs:uqz_ (.box c::ps) (.ptr k [] u::ss) (mkL ((Sh.box c::ps).filter isBox) r n) =
          ([(k,some (.box c.ty (mkC c x (n+1)).sv true))]++(mkC c x (n+1)).obs)++uqz_ ps ss (mkL (ps.filter isBox) r' (n+(c.cnt+1))):=by
          rw [h3]; rfl
         refine ⟨G2,hle,him,?_,?_⟩
         · rw [eobs,ubk_,ubk_]
           exact hback.shrink fun j hj=>⟨⟨hj.1,fun e=>hj.2 ⟨by omega,by omega⟩⟩,fun e=>hj.2 ⟨by omega,by omega⟩⟩
         · intro j o b' hj hb'
           rw [eobs,ubk_,ubk_,ucv_] at hj
           by_cases e:j=k
           · rw [if_pos e] at hj; cases hj; subst e
             simp only [Bk,hbox2,Option.map_some,Option.some.injEq] at hb'
             subst hb'
             exact .inl (List.mem_append_left _ List.mem_cons_self)
           · rw [if_neg e] at hj
             rcases m2.own j o b' hj hb' with h | ⟨j',o',h3,h4⟩
             · exact .inl (List.mem_append_left _ (List.mem_cons_of_mem _ h))
             · rcases m1.own j' o' b' h3 h4 with h | h
               · exact .inl (List.mem_append_right _ h)
               · exact .inr h
       | io el t =>
         obtain ⟨hs,hba'⟩:=hba
         have hsplit:∃ (x:List t.T) (r':TupR (ps.filter isBox)) (b1 b2:List Nat),bs=b1++b2∧ShC P w G.im (.io el t) x [v] b1∧ShL P w G.im (ps.filter isBox) r' (uoy_ ps vals) b2 ∧
          mkL ((Sh.io el t::ps).filter isBox) r n=mkC (.io el t) x n::mkL (ps.filter isBox) r' (n+1):=by
          have h:ShL P w G.im ([Sh.io el t]++ps.filter isBox) r ([v]++uoy_ ps vals) bs:=h
          obtain ⟨b1,b2,e1,h1,h2⟩:=h.split rfl
          obtain ⟨v',e2,h3⟩:=h1
          have e2:v=v':=by injection e2
          subst e2
          exact ⟨_,_,b1,b2,e1,h3,h2,ubs8_ (a:=[Sh.io el t]) (b:=ps.filter isBox) (x:=r) (n:=n)⟩
         obtain ⟨x,r',b1,b2,rfl,h1,h2,h3⟩:=hsplit
         have hnd':=List.nodup_append.1 hnd
         have hcnt:cntL ((Sh.io el t::ps).filter isBox)=1+cntL (ps.filter isBox):=rfl
         rw [hcnt] at hfree ⊢
         obtain ⟨G1,m1⟩:=ih (n:=n+1) hm (by simpa using hls) (by simpa using hlv) hba' h2 hnd'.2.1 (fun b hb=>hbs b (List.mem_append_right _ hb)) (fun k h1 h2=>hfree k (by omega) (by omega))
         have hfr:∀ b'∈b1,fr.owned b'∧∀ j o,ub7_ σ (uqz_ ps ss (mkL (ps.filter isBox) r' (n+1))) j=some o→¬ Bk G1 j o b':=fun b' hb' =>
          ⟨(hbs b' (List.mem_append_left _ hb')).1,fun j o ho hb2=>by
            rcases m1.own j o b' ho hb2 with h | ⟨j',o',h3,h4⟩
            · exact hnd'.2.2 b' hb' b' h rfl
            · exact (hbs b' (List.mem_append_left _ hb')).2 j' o' h3 h4⟩
         rcases hs with ⟨k,rfl,hval,hety⟩ | ⟨rfl,rfl⟩
         · have hval1:=m1.le.val _ _ _ hval
           have hety1:=m1.le.ety _ _ hety
           have hsl:SlOK fr w G1.im el t x true v∧∀ b',Bk G1 k (.sl el t x 0 true) b'→b'∈b1:=by
            rw [m1.im]
            rcases h1 with ⟨e1,e2,rfl⟩ | ⟨b',cap,cells,e1,rfl,q1,q2,q3,q4,q5,q6,q7⟩
            · have e1:v=.slice none 0 0:=by injection e1
              subst e1
              exact ⟨.inl ⟨rfl,e2⟩,fun b' hb'=>by simp [Bk,hval1] at hb'⟩
            · have e1:v=.slice (some ⟨b',0,none⟩) x.length cap:=by injection e1
              subst e1
              refine ⟨.inr ⟨b',cap,cells,rfl,q1,q2,q3,q4,(hfr b' (by simp)).1,q5,q6,q7⟩,fun b2' hb'=>?_⟩
              simp only [Bk,hval1,Option.some.injEq] at hb'
              subst hb'; simp
           have hback:=m1.mem.backO (k:=k) (o:=.sl el t x 0 true) ⟨hety1,v,hval1,hsl.1⟩ (fun hf=>by
            have:=(hm.fresh k hf.1).2.1
            rw [hety] at this; cases this) (fun b' hb' j o' ho'=>(hfr b' (hsl.2 b' hb')).2 j o' ho')
           have eobs:uqz_ (.io el t::ps) (.obj k 0::ss) (mkL ((Sh.io el t::ps).filter isBox) r n)=[(k,some (.sl el t x 0 true))]++uqz_ ps ss (mkL (ps.filter isBox) r' (n+1)):=by
            rw [h3]; rfl
           refine ⟨G1,m1.le,m1.im,?_,?_⟩
           · rw [eobs,ubk_]
             exact hback.shrink fun j hj=>⟨hj.1,fun e=>hj.2 ⟨by omega,by omega⟩⟩
           · intro j o b' hj hb'
             rw [eobs,ubk_,ucv_] at hj
             by_cases e:j=k
             · rw [if_pos e] at hj; cases hj; subst e
               exact .inl (List.mem_append_left _ (hsl.2 b' hb'))
             · rw [if_neg e] at hj
               rcases m1.own j o b' hj hb' with h | h
               · exact .inl (List.mem_append_right _ h)
               · exact .inr h
         · have eobs:uqz_ (.io el t::ps) (.nilS::ss) (mkL ((Sh.io el t::ps).filter isBox) r n)=uqz_ ps ss (mkL (ps.filter isBox) r' (n+1)):=by
            rw [h3]; rfl
           refine ⟨G1,m1.le,m1.im,?_,?_⟩
           · rw [eobs]
             exact m1.mem.shrink fun j hj=>⟨hj.1,fun e=>hj.2 ⟨by omega,by omega⟩⟩
           · intro j o b' hj hb'
             rw [eobs] at hj
             rcases m1.own j o b' hj hb' with h | h
             · exact .inl (List.mem_append_right _ h)
             · exact .inr h
       | bld el c0 =>
         cases c0 with
         | true=>exact ih hm (by simpa using hls) (by simpa using hlv) hba h hnd hbs hfree
         | false =>
         obtain ⟨⟨k,u,b,rfl,hbox,rfl⟩,hba'⟩:=hba
         have hsplit:∃ (x:List Int) (r':TupR (ps.filter isBox)) (b1 b2:List Nat),bs=b1++b2∧ShC P w G.im (.bld el false) x [.pointer (some ⟨b,0,none⟩)] b1∧ShL P w G.im (ps.filter isBox) r' (uoy_ ps vals) b2 ∧
          mkL ((Sh.bld el false::ps).filter isBox) r n=mkC (.bld el false) x n::mkL (ps.filter isBox) r' (n+2):=by
          have h:ShL P w G.im ([Sh.bld el false]++ps.filter isBox) r ([.pointer (some ⟨b,0,none⟩)]++uoy_ ps vals) bs:=h
          obtain ⟨b1,b2,e1,h1,h2⟩:=h.split rfl
          obtain ⟨v',e2,h3⟩:=h1
          have e2:Value.pointer (some ⟨b,0,none⟩)=v':=by injection e2
          subst e2
          refine ⟨_,_,b1,b2,e1,h3,h2,?_⟩
          exact ubs8_ (a:=[Sh.bld el false]) (b:=ps.filter isBox) (x:=r) (n:=n)
         obtain ⟨x,r',b1,b2,rfl,h1,h2,h3⟩:=hsplit
         have hnd':=List.nodup_append.1 hnd
         have hcnt:cntL ((Sh.bld el false::ps).filter isBox)=2+cntL (ps.filter isBox):=rfl
         rw [hcnt] at hfree ⊢
         obtain ⟨G1,m1⟩:=ih (n:=n+2) hm (by simpa using hls) (by simpa using hlv) hba' h2 hnd'.2.1 (fun b hb=>hbs b (List.mem_append_right _ hb)) (fun k h1 h2=>hfree k (by omega) (by omega))
         obtain ⟨b0,cells,el',p,q,bs',e1,rfl,q1,hlay,q2,hp,q4,q5,q6⟩:=h1
         have hb0:b0=b:=by
          injection e1 with e1 _
          injection e1 with e1
          injection e1 with e1
          injection e1 with e1 _ _
          exact e1.symm
         subst hb0
         have hndc:=List.nodup_cons.1 hnd'.1
         have hfr:∀ b'∈b0::bs',fr.owned b'∧∀ j o,ub7_ σ (uqz_ ps ss (mkL (ps.filter isBox) r' (n+2))) j=some o→¬ Bk G1 j o b':=fun b' hb' =>
          ⟨(hbs b' (List.mem_append_left _ hb')).1,fun j o ho hb2=>by
            rcases m1.own j o b' ho hb2 with h | ⟨j',o',h3,h4⟩
            · exact hnd'.2.2 b' hb' b' h rfl
            · exact (hbs b' (List.mem_append_left _ hb')).2 j' o' h3 h4⟩
         have hown:ShC P w G1.im (.own el (.int .u8) true) x [q] bs':=by
          rw [m1.im]
          rcases q6 with ⟨rfl,k1,k2⟩ | ⟨g,cap,gc,rfl,k1,k2,k3,k4,k5,k6,k7⟩
          · exact .inl ⟨rfl,k1,k2⟩
          · exact .inr ⟨g,cap,gc,rfl,k1,k2,k3,k4,k5,(fun _=>k6),(fun h=>by cases h),k7⟩
         obtain ⟨G2,m2,r2,f2⟩:=ub4s_ (n:=n+1) m1.mem hown (fun b' hb'=>hfr b' (List.mem_cons_of_mem _ hb')) (fun k h1 h2=>by
          have h2:k<n+1+1:=h2
          exact ⟨hfree k (by omega) (by omega),by omega⟩)
         have hcnt2:(Sh.own el (.int .u8) true).cnt=1:=rfl
         rw [hcnt2] at m2
         have him:G2.im=G.im:=m2.im.trans m1.im
         have hle:=m1.le.trans m2.le
         have hbox2:G2.box k=some (b0,bldTy):=hle.box _ _ hbox
         have hno:∀ j o',ub7_ (ub7_ σ (uqz_ ps ss (mkL (ps.filter isBox) r' (n+2)))) (mkC (.own el (.int .u8) true) x (n+1)).obs j=some o'→¬ Bk G2 j o' b0:=by
          intro j o' ho hb2
          rcases m2.own j o' b0 ho hb2 with h | ⟨j',o2,h3,h4⟩
          · exact hndc.1 h
          · exact (hfr b0 List.mem_cons_self).2 j' o2 h3 h4
         have hsz:cells.size=2:=by rw [← Array.length_toList,q2]; rfl
         have hback:=m2.mem.back (wr:=true) (k:=k) (b:=b0) (t:=bldTy) (c:=.pr (.slf k) (.obj (n+1) 0)) hbox2
          ⟨b0,cells,el',hbox2,q1,hsz,⟨_,_,rfl,rfl,f2⟩,⟨[p],[q],q2,⟨b0,bldTy,hbox2,by rcases hp with rfl | rfl <;> simp⟩,r2⟩,⟨fun _ o=>by rw [him]; exact q4 o,fun h=>by cases h⟩,by rw [him]; exact q5,(hfr b0 List.mem_cons_self).1,fun _=>hlay⟩ hno
         have eobs:uqz_ (.bld el false::ps) (.ptr k [] u::ss) (mkL ((Sh.bld el false::ps).filter isBox) r n) =
          ([(k,some (.box bldTy (.pr (.slf k) (.obj (n+1) 0)) true))]++(mkC (.own el (.int .u8) true) x (n+1)).obs)++uqz_ ps ss (mkL (ps.filter isBox) r' (n+2)):=by
          rw [h3]; rfl
         refine ⟨G2,hle,him,?_,?_⟩
         · rw [eobs,ubk_,ubk_]
           exact hback.shrink fun j hj=>⟨⟨hj.1,fun e=>hj.2 ⟨by omega,by omega⟩⟩,fun e=>hj.2 ⟨by omega,by omega⟩⟩
         · intro j o b' hj hb'
           rw [eobs,ubk_,ubk_,ucv_] at hj
           by_cases e:j=k
           · rw [if_pos e] at hj; cases hj; subst e
             simp only [Bk,hbox2,Option.map_some,Option.some.injEq] at hb'
             subst hb'
             exact .inl (List.mem_append_left _ List.mem_cons_self)
           · rw [if_neg e] at hj
             rcases m2.own j o b' hj hb' with h | ⟨j',o',h3,h4⟩
             · exact .inl (List.mem_append_left _ (List.mem_cons_of_mem _ h))
             · rcases m1.own j' o' b' h3 h4 with h | h
               · exact .inl (List.mem_append_right _ h)
               · exact .inr h
       | _=>exact ih hm (by simpa using hls) (by simpa using hlv) hba h hnd hbs hfree
end
end Go.Ev
namespace Go.Ev
variable [Pins]
theorem ub3q_:∀ (a b:List Sh),cntL (a++b)=cntL a+cntL b:=by
 intro a b
 induction a with
 | nil=>simp [cntL]
 | cons s a ih=>simp only [List.cons_append,cntL,ih]; omega
section
variable {P:Program} {fr:Fr} {free free':Nat→Prop} {self:Nat} {σ σ':Nat→Option Obj} {w w':World} {G G':Gh} {I:Im}
theorem BoxArgs.mono:∀ {l:List Sh} {ss:List SV} {vs:List Value},BoxArgs G l ss vs→(∀ k b,G.box k=some b→G'.box k=some b)→(∀ k g v,G.val k g=some v→G'.val k g=some v)→(∀ k t,G.ety k=some t→G'.ety k=some t)→BoxArgs G' l ss vs:=by
 intro l
 induction l with
 | nil=>intro ss vs _ _ _ _; cases ss <;> exact trivial
 | cons a l ih =>
   intro ss vs h hb hv he
   cases ss with
   | nil=>cases a <;> first | exact trivial | (rename_i el0 c0; cases c0 <;> exact trivial)
   | cons s ss =>
     cases vs with
     | nil=>cases a <;> first | exact trivial | (rename_i el0 c0; cases c0 <;> exact trivial)
     | cons v vs =>
       cases a with
       | box c =>
         obtain ⟨⟨k,u,b,h1,h2,h3⟩,h4⟩:=h
         exact ⟨⟨k,u,b,h1,hb _ _ h2,h3⟩,ih h4 hb hv he⟩
       | io el t =>
         obtain ⟨h1,h2⟩:=h
         refine ⟨h1.imp (fun ⟨k,e1,e2,e3⟩=>⟨k,e1,hv _ _ _ e2,he _ _ e3⟩) id,ih h2 hb hv he⟩
       | bld el c =>
         cases c with
         | true=>exact ih h hb hv he
         | false =>
           obtain ⟨⟨k,u,b,h1,h2,h3⟩,h4⟩:=h
           exact ⟨⟨k,u,b,h1,hb _ _ h2,h3⟩,ih h4 hb hv he⟩
       | _=>exact ih h hb hv he
theorem ucci_ (hm:MemS P fr free σ w G) {fs:Nat→Option FSpec}:∀ {l:List Sh} {svs:List SV} {x:TupR l} {vs:List Value},ub5w_ fs σ l svs=some x →
 (∀ (j:Nat) (s:SV) (v:Value),svs[j]? = some s→vs[j]? = some v→SR P w G s v)→BoxArgs G l svs vs:=by
 intro l
 induction l with
 | nil=>intro svs x vs _ _; cases svs <;> exact trivial
 | cons a l ih =>
   intro svs x vs h hs
   cases svs with
   | nil=>cases a <;> first | exact trivial | (rename_i el0 c0; cases c0 <;> exact trivial)
   | cons s svs =>
     cases vs with
     | nil=>cases a <;> first | exact trivial | (rename_i el0 c0; cases c0 <;> exact trivial)
     | cons v vs =>
       have h0:=hs 0 s v rfl rfl
       have hrest:BoxArgs G l svs vs:=by
        cases l with
        | nil=>cases svs <;> exact trivial
        | cons b l =>
          rw [ubnf_] at h
          split at h
          · rename_i x1 x2 h1 h2
            exact ih h2 (fun j s v h1 h2=>hs (j+1) s v (by simpa using h1) (by simpa using h2))
          · cases h
       have hfirst:∃ y,ucab_ fs σ a s=some y:=by
        cases l with
        | nil =>
          cases svs with
          | nil=>exact ⟨x,h⟩
          | cons _ _=>cases h
        | cons b l =>
          rw [ubnf_] at h
          split at h
          · rename_i x1 x2 h1 h2
            exact ⟨x1,h1⟩
          · cases h
       cases a with
       | box c =>
         refine ⟨?_,hrest⟩
         obtain ⟨y,hy⟩:=hfirst
         have hy:ubvi_ σ c s=some y:=hy
         unfold ubvi_ at hy
         split at hy
         · rename_i k u
           split at hy
           · rename_i t cv hk
             cases hts:t.same c.ty with
             | false=>rw [hts] at hy; cases hy
             | true =>
               have et:=Ty.same_eq hts
               subst et
               obtain ⟨b,cells,el,k1,k2,_⟩:=hm.objs _ _ hk
               obtain ⟨cc,hc,b',t',o,j1,j2,_,j4⟩:=h0
               rw [k1] at j1
               cases j1
               have ho:o=0:=by
                have:Ty.off c.ty []=some o:=j2
                cases hc:c.ty <;> rw [hc] at this <;> exact (Option.some.inj this).symm
               subst ho
               have hv:[v]=[Value.pointer (some ⟨b,0,none⟩)]:=(show cc=[v] from hc).symm.trans j4
               exact ⟨_,_,b,rfl,k1,List.singleton_inj.1 hv⟩
           · cases hy
         · cases hy
       | io el t =>
         refine ⟨?_,hrest⟩
         obtain ⟨y,hy⟩:=hfirst
         replace hy:uvd_ σ el t true s=some y:=hy
         unfold uvd_ at hy
         split at hy
         · rename_i k g
           split at hy
           · rename_i id' t' xs g' w1 hk
             cases hb:(Nat.beq g 0&&Nat.beq g g'&&(Nat.beq el id'&&(bif true then w1 else !w1))) with
             | false=>rw [hb] at hy; cases hy
             | true =>
               rw [hb] at hy
               have hy:Ty.cast? (.slice t') (.slice t) xs=some y:=hy
               simp only [Bool.and_eq_true] at hb
               have e0:=Nat.eq_of_beq_eq_true hb.1.1
               have e1:=Nat.eq_of_beq_eq_true hb.1.2
               subst e0 e1
               obtain ⟨et,_⟩:=Ty.cast?_some hy
               have et':t'=t:=by injection et
               subst et'
               obtain ⟨k1,v',k2,_⟩:=hm.objs _ _ hk
               have hv:=ub3i_ h0
               exact .inl ⟨k,rfl,hv,k1⟩
           · cases hy
         · obtain ⟨cc,hc,h1⟩:=h0
           have h1:cc=[.slice none 0 0]:=h1
           have hv:v=.slice none 0 0:=List.singleton_inj.1 ((show cc=[v] from hc).symm.trans h1)
           exact .inr ⟨rfl,hv⟩
         · cases hy
       | bld el c =>
         cases c with
         | true=>exact hrest
         | false =>
         refine ⟨?_,hrest⟩
         obtain ⟨y,hy⟩:=hfirst
         replace hy:ubvh_ σ el s=some y:=hy
         unfold ubvh_ at hy
         split at hy
         · rename_i k u
           split at hy
           · rename_i t cv hk
             cases hts:t.same bldTy with
             | false=>rw [hts] at hy; cases hy
             | true =>
               have et:=Ty.same_eq hts
               subst et
               obtain ⟨b,cells,el,k1,k2,_⟩:=hm.objs _ _ hk
               obtain ⟨cc,hc,b',t',o,j1,j2,_,j4⟩:=h0
               rw [k1] at j1
               cases j1
               have ho:o=0:=(Option.some.inj j2).symm
               subst ho
               have hv:[v]=[Value.pointer (some ⟨b,0,none⟩)]:=(show cc=[v] from hc).symm.trans j4
               exact ⟨_,_,b,rfl,k1,List.singleton_inj.1 hv⟩
           · cases hy
         · cases hy
       | _=>exact hrest
theorem ucew_ {m:Mk} {vs:List Value} {rv:Value} (h:retIs vs rv) (hl:vs.length=1) (hs:∀ (j:Nat) (m':Mk) (v:Value),[m][j]? = some m'→vs[j]? = some v→SR P w G m'.sv v):SR P w G m.sv rv:=by
 cases vs with
 | nil=>cases hl
 | cons v vs =>
   have:vs=[]:=List.eq_nil_of_length_eq_zero (by simpa using hl)
   subst this
   have h:rv=v:=h
   rw [h]
   exact hs 0 m v rfl rfl
theorem ub6n_ {ms:List Mk} {vs:List Value} {rv:Value} (h:retIs vs rv) (hl:vs.length=ms.length) (hn:ms.length≠1) (hs:∀ (j:Nat) (m':Mk) (v:Value),ms[j]? = some m'→vs[j]? = some v→SR P w G m'.sv v) :
 SR P w G (.tup (SV.ofList (ms.map (·.sv)))) rv:=by
 have hrv:rv=.tuple vs.toArray:=by
  cases vs with
  | nil=>exact h
  | cons v vs =>
    cases vs with
    | nil=>exact absurd hl.symm hn
    | cons _ _=>exact h
 rw [hrv]
 refine ⟨_,rfl,vs.toArray,rfl,?_⟩
 refine uccd_ (by simp [hl]) fun j s v h1 h2=>?_
 rw [List.getElem?_map] at h1
 cases hm:ms[j]? with
 | none=>rw [hm] at h1; cases h1
 | some m =>
   rw [hm] at h1
   cases h1
   exact hs j m v hm h2
def resOf (ms:List Mk):SV:=match ms with
 | [m]=>m.sv
 | _=>.tup (SV.ofList (ms.map (·.sv)))
theorem uccj_ {ms:List Mk} {vs:List Value} {rv:Value} (h:retIs vs rv) (hl:vs.length=ms.length) (hs:∀ (j:Nat) (m':Mk) (v:Value),ms[j]? = some m'→vs[j]? = some v→SR P w G m'.sv v):SR P w G (resOf ms) rv:=by
 cases ms with
 | nil=>exact ub6n_ h hl (by simp) hs
 | cons m ms =>
   cases ms with
   | nil=>exact ucew_ h hl hs
   | cons m2 ms=>exact ub6n_ h hl (by simp) hs
def imRO (σ:Nat→Option Obj) (G:Gh):Im :=
 ⟨fun b o=>G.im.cell b o∨∃ k t c,σ k=some (.box t c true)∧G.box k=some (b,t)∧o<t.sz,G.im.obj⟩
theorem ubkh_ (w:World):Ext w G.im w (imRO σ G):=⟨fun _ _ h=>⟨.inl h,rfl⟩,fun _ h=>⟨h,rfl⟩⟩
theorem ucck_ (hm:MemS P fr free σ w G):Mem w (imRO σ G):=by
 refine ⟨fun b o h=>?_,fun b h=>hm.after.mem.2.1 b h,hm.after.pins.ext (ubkh_ w)⟩
 rcases h with h | ⟨k,t,c,h1,h2,_⟩
 · exact hm.after.mem.1 b o h
 · obtain ⟨b',cs,el,k1,k2,_⟩:=hm.objs _ _ h1
   rw [k1] at h2
   cases h2
   exact (Array.getElem?_eq_some_iff.1 k2).1
theorem ub79_ (hm:MemS P fr free σ w G) {t:Ty} {s:SV} {x:t.T} {v:Value} (h:roArg σ t s=some x) (hr:SR P w G s v):VRel w (imRO σ G) t x v:=by
 unfold roArg at h
 split at h
 · rename_i e k u
   split at h
   · rename_i t' c hk
     cases hs:t'.same e.bare with
     | false=>rw [hs] at h; cases h
     | true =>
       rw [hs] at h
       simp only [cond_true] at h
       have et:=Ty.same_eq hs
       cases hc:c.asC σ e with
       | none=>rw [hc] at h; cases h
       | some y =>
         rw [hc] at h
         cases h
         obtain ⟨b,cells,el,k1,k2,k3,k4,k5,_⟩:=hm.objs _ _ hk
         obtain ⟨cc,hcc,b',t2,o,j1,j2,_,j4⟩:=hr
         rw [k1] at j1
         cases j1
         have ho:o=0:=by
          have:Ty.off t' []=some o:=j2
          cases hc:t' <;> rw [hc] at this <;> exact (Option.some.inj this).symm
         subst ho
         have hsz:t'.sz=e.sz:=by rw [et,Ty.sz_bare]
         refine ⟨cc,hcc,⟨b,0,none⟩,j4,rfl,cells.toList,⟨by rw [Array.length_toList,k3,hsz],fun j hj=>?_⟩,(uceg_ (fun k o h=>hm.objs k o h) hc k5).ext (ubkh_ w)⟩
         refine ⟨.inr ⟨k,t',c,hk,k1,by rw [hsz]; simpa using hj⟩,?_⟩
         show World.cell? w ⟨b,0+j,none⟩=_
         simp [World.cell?,k2]
   · cases h
 · obtain ⟨c,h1,h2⟩:=ubs3_ (fun k o h=>hm.objs k o h) h hr
   exact ⟨c,h1,h2.ext (ubkh_ w)⟩
theorem ucja_ (hm:MemS P fr free σ w G) {s:Sh} {sv:SV} {x:s.T} {v:Value} (h:roS σ s sv=some x) (hr:SR P w G sv v):ShV P w (imRO σ G) s x v []:=by
 cases s with
 | val t=>exact ⟨ub79_ hm h hr,rfl⟩
 | _=>cases h
theorem uchs_ {a b:Sh} {r:List Sh} {v:SV} {vs:List SV}:roL σ (a::b::r) (v::vs)=(match roS σ a v,roL σ (b::r) vs with
 | some x,some y=>some (x,y)
 | _,_=>none):=rfl
theorem uckj_ (hm:MemS P fr free σ w G):∀ {l:List Sh} {svs:List SV} {x:TupR l} {vs:List Value},roL σ l svs=some x→svs.length=vs.length →
 (∀ (j:Nat) (s:SV) (v:Value),svs[j]? = some s→vs[j]? = some v→SR P w G s v)→ShL P w (imRO σ G) l x vs []:=by
 intro l
 induction l with
 | nil =>
   intro svs x vs h hl hs
   cases svs with
   | nil=>exact ⟨List.eq_nil_of_length_eq_zero hl.symm,rfl⟩
   | cons _ _=>cases h
 | cons a l ih =>
   intro svs x vs h hl hs
   cases svs with
   | nil=>cases l <;> cases h
   | cons s svs =>
     cases vs with
     | nil=>cases hl
     | cons v vs =>
       have h0:=hs 0 s v rfl rfl
       cases l with
       | nil =>
         cases svs with
         | nil =>
           have:vs=[]:=List.eq_nil_of_length_eq_zero (by simpa using hl.symm)
           subst this
           exact ⟨v,rfl,ucja_ hm h h0⟩
         | cons _ _=>cases h
       | cons b l =>
         rw [uchs_] at h
         split at h
         · rename_i x1 x2 h1 h2
           cases h
           exact ⟨v,vs,[],[],rfl,rfl,ucja_ hm h1 h0,ih h2 (by simpa using hl) fun j s v h3 h4=>hs (j+1) s v (by simpa using h3) (by simpa using h4)⟩
         · cases h
theorem uccl_ {I:Im} {t:Ty} {x:t.T} {v:Value} (hf:t.lit=true) (h:VRel w' I t x v):SR P w' G (.val t x) v:=by
 obtain ⟨c,h1,h2⟩:=h
 refine ⟨c,h1,?_⟩
 cases t with
 | bool=>exact h2
 | int k=>exact h2
 | str=>exact h2
 | _=>cases hf
theorem ucjb_ {I:Im}:∀ {l:List Sh} {x:TupR l} {vs:List Value} {bs:List Nat} {n:Nat},ub5z_ l=true→ShL P w' I l x vs bs →
 (mkL l x n).length=l.length∧∀ (j:Nat) (m:Mk) (v:Value),(mkL l x n)[j]? = some m→vs[j]? = some v→SR P w' G m.sv v:=by
 intro l
 induction l with
 | nil=>intro x vs bs n _ _; exact ⟨rfl,fun j m v h=>by cases h⟩
 | cons a l ih =>
   intro x vs bs n hf h
   cases a with
   | val t =>
     simp only [ub5z_,Bool.and_eq_true] at hf
     cases l with
     | nil =>
       obtain ⟨v,rfl,h1,_⟩:=h
       refine ⟨rfl,fun j m v' hj hv=>?_⟩
       cases j with
       | zero=>cases hj; cases hv; exact uccl_ hf.1 h1
       | succ j=>cases hj
     | cons b l =>
       obtain ⟨v,vs',b1,b2,rfl,_,⟨h1,_⟩,h2⟩:=h
       obtain ⟨i1,i2⟩:=ih (n:=(mkC (.val t) x.1 n).nx) hf.2 h2
       refine ⟨by simp only [mkL,List.length_cons,i1],fun j m v' hj hv=>?_⟩
       cases j with
       | zero=>cases hj; cases hv; exact uccl_ hf.1 h1
       | succ j=>exact i2 j m v' (by simpa [mkL] using hj) (by simpa using hv)
   | _=>cases hf
theorem After.flat {I1 I2:Im} (ha:After (·∈([]:List Nat)) w I1 w' I2) (he:Ext w I w I1) (hm:Mem w I):After (·∈([]:List Nat)) w I w' I :=
 have hx:Ext w I w' I:=⟨fun b o h=>⟨h,(ha.ext.cell b o (he.cell b o h).1).2⟩,fun b h=>⟨h,(ha.ext.obj b (he.obj b h).1).2⟩⟩
 ⟨hx,ha.heap,ha.size,fun _ _ h=>.inl h,fun _ h=>.inl h,
  fun b o h=>Nat.lt_of_lt_of_le (hm.1 b o h) ha.size,fun b h=>Nat.lt_of_lt_of_le (hm.2.1 b h) ha.size,ha.os,ha.tape,ha.output,
  hm.2.2.ext hx⟩
def ucex_ (I I1 I2:Im):Im:=⟨fun b o=>I.cell b o∨(I2.cell b o∧¬ I1.cell b o),fun b=>I.obj b∨(I2.obj b∧¬ I1.obj b)⟩
theorem After.lend {bs:List Nat} {I1 I2:Im} (ha:After (·∈bs) w I1 w' I2) (he:Ext w I w I1) (hm:Mem w I):After (·∈bs) w I w' (ucex_ I I1 I2) :=
 have hx:Ext w I w' (ucex_ I I1 I2):=⟨fun b o h=>⟨.inl h,(ha.ext.cell b o (he.cell b o h).1).2⟩,fun b h=>⟨.inl h,(ha.ext.obj b (he.obj b h).1).2⟩⟩
 ⟨hx,ha.heap,ha.size,fun b o h=>h.imp id fun ⟨h1,h2⟩=>(ha.newC b o h1).resolve_left h2,fun b h=>h.imp id fun ⟨h1,h2⟩=>(ha.newO b h1).resolve_left h2,
  fun b o h=>h.elim (fun h=>Nat.lt_of_lt_of_le (hm.1 b o h) ha.size) fun h=>ha.inC b o h.1,fun b h=>h.elim (fun h=>Nat.lt_of_lt_of_le (hm.2.1 b h) ha.size) fun h=>ha.inO b h.1,ha.os,ha.tape,ha.output,
  hm.2.2.ext hx⟩
theorem ucgl_ {I I':Im} {t:Ty} {x:t.T} {cs:List Value} (hf:t.lit=true) (h:Rel w' I t x cs):Rel w' I' t x cs:=by
 cases t with
 | bool=>exact h
 | int k=>exact h
 | str=>exact h
 | _=>cases hf
theorem ucey_ {bs0:List Nat} {I I1 I2:Im} (ha:After (·∈bs0) w I1 w' I2) (he:Ext w I w I1):∀ {l:List Sh} {x:TupR l} {vs:List Value} {bs:List Nat},ubz1_ l=true→ShL P w' I2 l x vs bs→ShL P w' (ucex_ I I1 I2) l x vs bs:=by
 have one:∀ {a:Sh} {x:a.T} {v:Value} {bs:List Nat},ubz1_ [a]=true→ShV P w' I2 a x v bs→ShV P w' (ucex_ I I1 I2) a x v bs:=by
  intro a x v bs hf h
  cases a with
  | val t =>
    simp only [ubz1_,Bool.and_true] at hf
    obtain ⟨⟨c,h1,h2⟩,h3⟩:=h
    exact ⟨⟨c,h1,ucgl_ hf h2⟩,h3⟩
  | own el t wr =>
    simp only [ubz1_,Bool.and_true,Bool.and_eq_true] at hf
    obtain ⟨rfl,hf⟩:=hf
    rcases h with h | ⟨b,cap,cells,h1,h2,h3,h4,h5,h6,h7,h8,h9⟩
    · exact .inl h
    · refine .inr ⟨b,cap,cells,h1,h2,h3,h4,h5,fun i y hy=>ucgl_ hf (h6 i y hy),fun _ o ho=>?_,(fun h=>by cases h),fun ho=>?_⟩
      · rcases ho with ho | ho
        · exact h7 rfl o (ha.ext.cell _ _ (he.cell _ _ ho).1).1
        · exact h7 rfl o ho.1
      · rcases ho with ho | ho
        · exact h9 (ha.ext.obj _ (he.obj _ ho).1).1
        · exact h9 ho.1
  | _=>cases hf
 intro l
 induction l with
 | nil=>intro x vs bs _ h; exact h
 | cons a l ih =>
   intro x vs bs hf h
   have h1:ubz1_ [a]=true∧ubz1_ l=true:=by
    cases a <;> simp only [ubz1_,Bool.and_eq_true,Bool.and_true] at hf ⊢ <;> first | exact hf | exact ⟨⟨hf.1,hf.2.1⟩,hf.2.2⟩ | cases hf
   cases l with
   | nil =>
     obtain ⟨v,h2,h3⟩:=h
     exact ⟨v,h2,one h1.1 h3⟩
   | cons b l =>
     obtain ⟨v,vs',b1,b2,h2,h3,h4,h5⟩:=h
     exact ⟨v,vs',b1,b2,h2,h3,one h1.1 h4,ih h1.2 h5⟩
theorem ub6o_ (hm:MemS P fr free σ w G) {t:Ty} {s:SV} {x:t.T} {v:Value} (h:ub50_ σ t s=some x) (hr:SR P w G s v):VRel w (imRO σ G) t x v:=by
 unfold ub50_ at h
 split at h
 · rename_i y hy
   cases h
   exact ub79_ hm hy hr
 · exact (ub4r_ (fun k o h=>hm.objs k o h) h hr).ext (ubkh_ w)
theorem ucao_ (hm:MemS P fr free σ w G):∀ {l:List Sh} {ss:List SV} {x:TupR l} {vs:List Value},ub4a_ σ l ss=some x→ss.length=vs.length →
 (∀ (j:Nat) (s:SV) (v:Value),ss[j]? = some s→vs[j]? = some v→SR P w G s v)→∀ w' I',Ext w (imRO σ G) w' I'→ShL P w' I' l x vs []:=by
 intro l
 induction l with
 | nil =>
   intro ss x vs h hl _ w' I' _
   cases ss with
   | nil=>exact ⟨List.eq_nil_of_length_eq_zero hl.symm,rfl⟩
   | cons _ _=>cases h
 | cons a l ih =>
   intro ss x vs h hl hs w' I' he
   cases ss with
   | nil=>cases a <;> cases h
   | cons s ss =>
     cases vs with
     | nil=>cases hl
     | cons v vs =>
       cases a <;> first | (cases h; done) | skip
       rename_i t
       simp only [ub4a_] at h
       split at h
       · rename_i y z h1 h2
         have h:=Option.some.inj h
         subst h
         refine ubvn_ ⟨(ub6o_ hm h1 (hs 0 s v rfl rfl)).ext he,rfl⟩ (ih h2 (by simpa using hl) (fun j s v h3 h4=>hs (j+1) s v (by simpa using h3) (by simpa using h4)) w' I' he)
       · cases h
theorem ucht_ (hm:MemS P fr free σ w G) {cs:List SV} {vs:List Value} (hl:cs.length=vs.length) (hs:∀ (j:Nat) (s:SV) (v:Value),cs[j]? = some s→vs[j]? = some v→SR P w G s v)
 {w':World} {I':Im} (he:Ext w (imRO σ G) w' I'):∀ {n:Nat} {ps:List Sh} {d:Ty} {x:d.T} {v:TupR ps} {l:List Value},lendT σ cs n ps d x=some v→ArgsV w' I' d x l→ShL P w' I' ps v (l++vs) []:=by
 intro n
 induction n with
 | zero =>
   intro ps d x v l h hx
   cases ps with
   | nil=>cases h
   | cons a ps =>
     cases a <;> first | (cases h; done) | skip
     rename_i t
     simp only [lendT] at h
     cases hp:ubsx_ d with
     | true=>rw [hp] at h; cases h
     | false =>
       rw [hp] at h
       simp only [cond_false] at h
       split at h
       · rename_i y z h1 h2
         have h:=Option.some.inj h
         subst h
         obtain ⟨u,rfl,hu⟩:=hx.one (fun a b e=>by subst e; cases hp)
         exact ubvn_ ⟨VRel.cast h1 hu,rfl⟩ (ucao_ hm h2 hl hs w' I' he)
       · cases h
 | succ n ih =>
   intro ps d x v l h hx
   cases ps with
   | nil=>cases h
   | cons a ps =>
     cases a <;> first | (cases h; done) | skip
     rename_i t
     cases d <;> first | (cases h; done) | skip
     rename_i p q
     simp only [lendT] at h
     split at h
     · rename_i y z h1 h2
       have h:=Option.some.inj h
       subst h
       obtain ⟨u,r,rfl,k1,k2⟩:=hx
       exact ubvn_ ⟨VRel.cast h1 k1,rfl⟩ (ih h2 k2)
     · cases h
theorem uccm_ (hm:MemS P fr free σ w G) {fs:Nat→Option FSpec} (hE:∀ f sp,fs f=some sp→um_ P f∧FunOK P f sp) {d c:Ty} {v:SV} {F:d.T→Option c.T} {cs:List Value} (h:ub9d_ fs σ d c v=some F) (hr:CR P w G v cs) :
 ∃ f vs,cs=[.func (.func f) #[] vs]∧HofD P (false=true) w (imRO σ G) d c F f vs:=by
 unfold ub9d_ at h
 split at h
 · rename_i f caps
   split at h
   · rename_i sp hf
     cases hav:(ub33_ caps&&ucaa_ sp.ps) with
     | false=>rw [hav] at h; cases h
     | true =>
       rw [hav] at h
       have h:=Option.some.inj h
       subst h
       simp only [Bool.and_eq_true] at hav
       obtain ⟨vs,h1,h2⟩:=hr
       obtain ⟨he,hfun⟩:=hE _ _ hf
       have hlen:=ub9n_ h2 hav.1
       refine ⟨f,vs,h1,he,fun w' I' hext hm' x l hx y hy=>?_⟩
       obtain ⟨v,hv,hy⟩:=Option.bind_eq_some_iff.1 hy
       obtain ⟨r,hr,hy⟩:=Option.bind_eq_some_iff.1 hy
       obtain ⟨a1,a2⟩:=ub6l_ hav.2
       have hc:=hfun w' I' v (l++vs.toList) [] hm' (ucht_ hm hlen (ub6m_ h2 (by omega)) hext hv hx) List.nodup_nil r hr
       rw [show (l++vs.toList).toArray=(l.toArray++vs:Array Value) by apply Array.ext'; simp] at hc
       refine Calls.mono hc fun e w'' hq=>?_
       obtain ⟨rv,vs',I',bs',q1,q2,q3,q4,q5,_,_,qd⟩:=hq
       rw [a2,List.append_nil] at q5
       exact ⟨rv,I',q1,q4.mono (fun b hb=>by cases hb),uccg_ hy q5 q3,fun hd=>by cases hd⟩
   · cases h
 · cases h
theorem uccn_ (hm:MemS P fr free σ w G) {fs:Nat→Option FSpec} (hE:∀ f sp,fs f=some sp→um_ P f∧FunOK P f sp) {s:Sh} {sv:SV} {x:s.T} {v:Value} (h:lendS fs σ s sv=some x) (hr:SR P w G sv v) :
 ∃ bs,ShV P w (imRO σ G) s x v bs∧bs.Nodup∧BlksOf σ G (keysS σ s sv) bs:=by
 have hnil:BlksOf σ G (keysS σ s sv) []:=fun b hb=>by cases hb
 cases s with
 | val t=>exact ⟨[],⟨ub79_ hm h hr,rfl⟩,List.nodup_nil,hnil⟩
 | own el t wr =>
   have h:uvd_ σ el t wr sv=some x:=h
   have hcr:CR P w G sv [v]:=hr.cell fun t y e=>by
    subst e
    cases h
   obtain ⟨bs,h1,h2,h3⟩:=u6n_ hm h hcr
   refine ⟨bs,?_,h2,h3⟩
   have hsl:∀ k∈ubio_ sv,∀ o,σ k=some o→∃ a b c d e,o=.sl a b c d e:=by
    intro k hk o ho
    cases sv with
    | obj k' g =>
      have e:k=k':=by simpa [ubio_] using hk
      subst e
      simp only [uvd_,ho] at h
      cases o with
      | sl a b c d e=>exact ⟨_,_,_,_,_,rfl⟩
      | _=>cases h
    | _=>simp [ubio_] at hk
   have hno:∀ b∈bs,∀ o,(imRO σ G).cell b o→G.im.cell b o:=by
    intro b hb o ho
    rcases ho with ho | ⟨k,t',c,k1,k2,_⟩
    · exact ho
    · exfalso
      obtain ⟨k',hk',o',ho',hbo⟩:=h3 b hb
      have:=hm.sep k' k o' _ b ho' k1 hbo (by simp [Bk,k2])
      subst this
      obtain ⟨_,_,_,_,_,e⟩:=hsl _ hk' _ k1
      cases e
   rcases h1 with h1 | ⟨b,cap,cells,e1,rfl,q1,q2,q3,q4,q5,q6,q7⟩
   · exact .inl h1
   · exact .inr ⟨b,cap,cells,e1,rfl,q1,q2,q3,fun i y hy=>(q4 i y hy).ext (ubkh_ w),fun hw o ho=>q5 hw o (hno b (by simp) o ho),fun hw o=>⟨fun ho=>.inl ((q6 hw o).1 ho),fun ho=>(q6 hw o).2 (hno b (by simp) o ho)⟩,q7⟩
 | hof nd d c =>
   cases nd with
   | true=>cases h
   | false =>
   have h:ub9d_ fs σ d c sv=some x:=h
   have hcr:CR P w G sv [v]:=hr.cell fun t y e=>by
    subst e
    cases h
   exact ⟨[],⟨rfl,uccm_ hm hE h hcr⟩,List.nodup_nil,hnil⟩
 | cl f t =>
   have h:ub3e_ (ub50_ σ) f t sv=some x:=h
   exact ⟨[],ub6k_ (fun h hr=>ub6o_ hm h hr) h (hr.cell fun t y e=>by subst e; cases h),List.nodup_nil,hnil⟩
 | _=>cases h
theorem ucco_ {fs:Nat→Option FSpec} {a b:Sh} {r:List Sh} {v:SV} {vs:List SV}:lendL fs σ (a::b::r) (v::vs)=(match lendS fs σ a v,lendL fs σ (b::r) vs with
 | some x,some y=>some (x,y)
 | _,_=>none):=rfl
theorem uchu_ (hm:MemS P fr free σ w G) {fs:Nat→Option FSpec} (hE:∀ f sp,fs f=some sp→um_ P f∧FunOK P f sp):∀ {l:List Sh} {svs:List SV} {x:TupR l} {vs:List Value},lendL fs σ l svs=some x→svs.length=vs.length →
 (∀ (j:Nat) (s:SV) (v:Value),svs[j]? = some s→vs[j]? = some v→SR P w G s v)→(keysL σ l svs).Nodup →
 svs.length=l.length∧∃ bs,ShL P w (imRO σ G) l x vs bs∧bs.Nodup∧BlksOf σ G (keysL σ l svs) bs:=by
 intro l
 induction l with
 | nil =>
   intro svs x vs h hl hs _
   cases svs with
   | nil=>exact ⟨rfl,[],⟨List.eq_nil_of_length_eq_zero hl.symm,rfl⟩,List.nodup_nil,fun b hb=>by cases hb⟩
   | cons _ _=>cases h
 | cons a l ih =>
   intro svs x vs h hl hs hnd
   cases svs with
   | nil=>cases l <;> cases h
   | cons s svs =>
     cases vs with
     | nil=>cases hl
     | cons v vs =>
       have h0:=hs 0 s v rfl rfl
       cases l with
       | nil =>
         cases svs with
         | nil =>
           have:vs=[]:=List.eq_nil_of_length_eq_zero (by simpa using hl.symm)
           subst this
           obtain ⟨bs,h1,h2,h3⟩:=uccn_ hm hE h h0
           exact ⟨rfl,bs,⟨v,rfl,h1⟩,h2,by simpa [keysL] using h3⟩
         | cons _ _=>cases h
       | cons b l =>
         rw [ucco_] at h
         split at h
         · rename_i x1 x2 h1 h2
           cases h
           have hk:keysL σ (a::b::l) (s::svs)=keysS σ a s++keysL σ (b::l) svs:=rfl
           rw [hk] at hnd ⊢
           have hnd':=List.nodup_append.1 hnd
           obtain ⟨b1,p1,p2,p3⟩:=uccn_ hm hE h1 h0
           obtain ⟨q0,b2,q1,q2,q3⟩:=ih h2 (by simpa using hl) (fun j s v h3 h4=>hs (j+1) s v (by simpa using h3) (by simpa using h4)) hnd'.2.1
           obtain ⟨r1,r2⟩:=p3.append hm q3 p2 q2 hnd
           exact ⟨by simp [q0],b1++b2,⟨v,vs,b1,b2,rfl,rfl,p1,q1⟩,r1,r2⟩
         · cases h
theorem uccp_:∀ {l:List Sh},noBox l=true→l.filter isBox=[]∧(∀ vs,uoy_ l vs=[])∧∀ ss vs,BoxArgs G l ss vs:=by
 intro l
 induction l with
 | nil=>intro _; exact ⟨rfl,fun vs=>by cases vs <;> rfl,fun ss vs=>by cases ss <;> exact trivial⟩
 | cons a l ih =>
   intro h
   simp only [noBox,Bool.and_eq_true,Bool.not_eq_true'] at h
   obtain ⟨h1,h2,h3⟩:=ih h.2
   refine ⟨by rw [List.filter_cons,if_neg (by rw [h.1]; simp)]; exact h1,fun vs=>?_,fun ss vs=>?_⟩
   · cases vs with
     | nil=>cases a <;> first | rfl | (rename_i el0 c0; cases c0 <;> rfl)
     | cons v vs=>cases a <;> first | exact h2 vs | (cases h.1; done) | (rename_i el0 c0; cases c0 <;> first | exact h2 vs | (cases h.1; done))
   · cases ss with
     | nil=>cases a <;> first | exact trivial | (rename_i el0 c0; cases c0 <;> exact trivial)
     | cons s ss =>
       cases vs with
       | nil=>cases a <;> first | exact trivial | (rename_i el0 c0; cases c0 <;> exact trivial)
       | cons v vs=>cases a <;> first | exact h3 ss vs | (cases h.1; done) | (rename_i el0 c0; cases c0 <;> first | exact h3 ss vs | (cases h.1; done))
theorem ShL.nil_any {I I':Im} {l:List Sh} (hl:l=[]) {x:TupR l} {vs:List Value} {bs:List Nat} (h:ShL P w' I l x vs bs):ShL P w' I' l x vs bs:=by
 subst hl; exact h
theorem ub4t_:∀ {l:List Nat},uwy_ l=true→l.Nodup:=by
 intro l
 induction l with
 | nil=>intro _; exact List.nodup_nil
 | cons k r ih =>
   intro h
   simp only [uwy_,Bool.and_eq_true,Bool.not_eq_true'] at h
   refine List.nodup_cons.2 ⟨fun hm=>?_,ih h.2⟩
   have:hasN k r=true:=ubvo_.2 hm
   rw [h.1] at this; cases this
theorem ub6p_ (hm:MemS P fr free σ w G) (hσ:∀ k o,σ' k=some o→σ k=some o) (hfree:∀ k,self≤k→k<self+8→free k) {sp:FSpec} {args:List SV} {vals:List Value} (hlen:args.length=vals.length) (hal:args.length=sp.ps.length)
 (hba:BoxArgs G sp.ps args vals) {bs:List Nat} (p3:BlksOf σ' G (keysL σ' sp.ps args) bs) (hcnt:cntL sp.rs+cntL (sp.ps.filter isBox)≤8) {y:TupR (sp.rs++sp.ps.filter isBox)} {rv:Value} {vs:List Value} {I':Im} {b1 b2:List Nat}
 (hvl:vs.length=sp.rs.length) (hret:retIs vs rv) (haft:After (·∈bs) w G.im w' I') (r1:ShL P w' I' sp.rs (ub0c_ sp.rs (sp.ps.filter isBox) y).1 vs b1) (r2:ShL P w' I' (sp.ps.filter isBox) (ub0c_ sp.rs (sp.ps.filter isBox) y).2 (uoy_ sp.ps vals) b2)
 (hnd':(b1++b2).Nodup) (hown:∀ b∈b1++b2,b∈bs∨w.heap.size≤b):Res P fr free self σ w G (ucbp_ σ' self sp args y) rv w':=by
 have p3':BlksOf σ G (keysL σ' sp.ps args) bs:=fun b hb=>let ⟨k,h1,o,h2,h3⟩:=p3 b hb; ⟨k,h1,o,hσ k o h2,h3⟩
 obtain ⟨g1,g2⟩:=hm.called p3' haft
 have hndp:=List.nodup_append.1 hnd'
 have hbk:∀ b∈b1++b2,fr.owned b∧∀ j o,ub7_ σ (gone (keysL σ' sp.ps args)) j=some o→¬ Bk { G with im:=I' } j o b:=by
  intro b hb
  refine ⟨?_,fun j o ho hbj=>?_⟩
  · rcases hown b hb with h | h
    · obtain ⟨k,_,o,ho,hbo⟩:=p3' b h
      exact ubnh_ (hm.objs k o ho) hbo
    · exact .inl (Nat.le_trans hm.after.size h)
  · have ho':j ∉ keysL σ' sp.ps args∧σ j=some o:=by
     rw [ubng_] at ho
     by_cases hj:j∈keysL σ' sp.ps args
     · rw [if_pos hj] at ho; cases ho
     · rw [if_neg hj] at ho; exact ⟨hj,ho⟩
    have hbj0:Bk G j o b:=by rw [← upp_ (hm.objs j o ho'.2) g1]; exact hbj
    rcases hown b hb with h | h
    · obtain ⟨k,hk,o2,ho2,hbo⟩:=p3' b h
      have:=hm.sep j k o o2 b ho'.2 ho2 hbj0 hbo
      subst this
      exact ho'.1 hk
    · have:=ub58_ (hm.objs j o ho'.2) hbj0
      omega
 obtain ⟨G2,m2⟩:=ucch_ (ps:=sp.ps) (ss:=args) (vals:=vals) (n:=self+cntL sp.rs) g2 hal (by omega) (by
  exact hba.mono (fun k b h=>h) (fun k g v h=>h) (fun k t h=>h)) r2 hndp.2.1 (fun b hb=>hbk b (List.mem_append_right _ hb)) (fun k h1 h2=>hfree k (by omega) (by omega))
 obtain ⟨G3,m3,e1,e2,e3⟩:=uchr_ (l:=sp.rs) (n:=self) m2.mem (by rw [m2.im]; exact r1) hndp.1 (fun b hb=>⟨(hbk b (List.mem_append_left _ hb)).1,fun j o ho hb2=>by
  rcases m2.own j o b ho hb2 with h | ⟨j',o',h3,h4⟩
  · exact hndp.2.2 b hb b h rfl
  · exact (hbk b (List.mem_append_left _ hb)).2 j' o' h3 h4⟩) (fun k h1 h2=>⟨hfree k h1 (by omega),by omega⟩)
 have hsplit:=ubs8_ (a:=sp.rs) (b:=sp.ps.filter isBox) (x:=y) (n:=self)
 have htake:(mkL (sp.rs++sp.ps.filter isBox) y self).take sp.rs.length=mkL sp.rs (ub0c_ sp.rs (sp.ps.filter isBox) y).1 self:=by
  rw [hsplit,List.take_left' e2]
 have hdrop:(mkL (sp.rs++sp.ps.filter isBox) y self).drop sp.rs.length=mkL (sp.ps.filter isBox) (ub0c_ sp.rs (sp.ps.filter isBox) y).2 (self+cntL sp.rs):=by
  rw [hsplit,List.drop_left' e2]
 refine ⟨G3,(g1.trans m2.le).trans m3.le,?_,?_⟩
 · show MemS P fr _ (ub7_ σ ((((mkL (sp.rs++sp.ps.filter isBox) y self).take sp.rs.length).flatMap (·.obs))++(uqz_ sp.ps args ((mkL (sp.rs++sp.ps.filter isBox) y self).drop sp.rs.length)++gone (keysL σ' sp.ps args)))) w' G3
   rw [htake,hdrop,ubk_,ubk_]
   refine m3.mem.shrink fun j hj=>?_
   have hns:¬ (self≤j∧j<self+8):=fun h=>by
    have:=hj.2
    simp only [ubs1_,Bool.and_eq_false_iff] at this
    rcases this with h1 | h1
    · rw [Nat.ble_eq_true_of_le h.1] at h1; cases h1
    · rw [show Nat.blt j (self+8)=true from Nat.ble_eq_true_of_le h.2] at h1; cases h1
   exact ⟨⟨hj.1,fun e=>hns ⟨by omega,by omega⟩⟩,fun e=>hns ⟨by omega,by omega⟩⟩
 · show SR P w' G3 (resOf ((mkL (sp.rs++sp.ps.filter isBox) y self).take sp.rs.length)) rv
   rw [htake]
   exact uccj_ hret (by rw [hvl,e2]) e3
theorem ucez_ {fs:Nat→Option FSpec} (hE:∀ f sp,fs f=some sp→um_ P f∧FunOK P f sp) (hD:fr.dr=true→∀ f sp,fs f=some sp→sp.dr=true) (hm:MemS P fr free σ w G) (hσ:∀ k o,σ' k=some o→σ k=some o) (hfree:∀ k,self≤k→k<self+8→free k)
 {f:Nat} {args:List SV} {vals:List Value} {r:OpRes} {u:Upd} (hlen:args.length=vals.length) (hs:∀ (j:Nat) (s:SV) (v:Value),args[j]? = some s→vals[j]? = some v→SR P w G s v)
 (hr:ucg9_ fs σ' self f args=some r) (hu:Gives r u) :
 um_ P f∧Calls P f vals.toArray w fun e w'=>∃ v,e=.returned v∧Res P fr free self σ w G u v w'∧(fr.dr=true→w.drawn≤w'.drawn):=by
 unfold ucg9_ at hr
 split at hr
 · rename_i sp hsp
   obtain ⟨hent,hfun⟩:=hE _ _ hsp
   · split at hr
     · rename_i v hv0
       have hcv:Nat.ble (cntL (sp.rs++sp.ps.filter isBox)) 8=true∧ub5x_ fs σ' sp.ps args=some v:=by
        cases hc:Nat.ble (cntL (sp.rs++sp.ps.filter isBox)) 8 with
        | false=>rw [hc] at hv0; cases hv0
        | true=>rw [hc] at hv0; exact ⟨rfl,hv0⟩
       obtain ⟨hc,hv⟩:=hcv
       have hcnt:=Nat.le_of_ble_eq_true hc
       rw [ub3q_] at hcnt
       cases hr
       obtain ⟨y,hy,rfl⟩:=hu.may_inv
       have hm':=hm.sub hσ
       obtain ⟨bs,p1,p2,p3⟩:=ubzm_ hm' hE hv hlen hs
       have hpl:ub5w_ fs σ' sp.ps args=some v:=by
        unfold ub5x_ at hv
        cases hd:uwy_ (keysL σ' sp.ps args) with
        | false=>rw [hd] at hv; cases hv
        | true=>rw [hd] at hv; exact hv
       have hba:=ucci_ hm' hpl hs
       have hplen:∀ {l:List Sh} {svs:List SV} {x:TupR l},ub5w_ fs σ' l svs=some x→svs.length=l.length:=by
        intro l
        induction l with
        | nil=>intro svs x h; cases svs with
          | nil=>rfl
          | cons _ _=>cases h
        | cons a l ih =>
          intro svs x h
          cases svs with
          | nil=>cases l <;> cases h
          | cons s svs =>
            cases l with
            | nil=>cases svs with
              | nil=>rfl
              | cons _ _=>cases h
            | cons b l =>
              rw [ubnf_] at h
              split at h
              · rename_i x1 x2 h1 h2
                simp [ih h2]
              · cases h
       have hal:=hplen hpl
       refine ⟨hent,Calls.mono (hfun w G.im v vals bs hm.after.mem p1 p2 y hy) fun e w' hq=>?_⟩
       obtain ⟨rv,vs,I',bs',rfl,hvl,hret,haft,hres,hnd',hown,qd⟩:=hq
       refine ⟨rv,rfl,?_,fun h=>qd (hD h _ _ hsp)⟩
       obtain ⟨b1,b2,rfl,r1,r2⟩:=hres.split hvl
       exact ub6p_ hm hσ hfree hlen hal hba p3 hcnt hvl hret haft r1 r2 hnd' hown
     · split at hr
       · rename_i v hv
         cases hr
         obtain ⟨y,hy,rfl⟩:=hu.may_inv
         cases hfl:ub5z_ sp.rs with
         | false=>rw [hfl] at hv; cases hv
         | true =>
           rw [hfl] at hv
           have hv:roL σ' sp.ps args=some v:=hv
           have hm':=hm.sub hσ
           have p1:=uckj_ hm' hv hlen hs
           refine ⟨hent,Calls.mono (hfun w (imRO σ' G) v vals [] (ucck_ hm') p1 .nil y hy) fun e w' hq=>?_⟩
           obtain ⟨rv,vs,I',bs',rfl,hvl,hret,haft,hres,_,_,qd⟩:=hq
           refine ⟨rv,rfl,?_,fun h=>qd (hD h _ _ hsp)⟩
           have haft2:=haft.flat (ubkh_ w) hm.after.mem
           obtain ⟨g1,g2⟩:=hm.called (ks:=[]) (bs:=[]) (fun b hb=>by cases hb) haft2
           obtain ⟨b1,b2,rfl,r1,r2⟩:=hres.split hvl
           obtain ⟨f1,f2⟩:=ucjb_ (G:={ G with im:=G.im }) (n:=self) hfl r1
           have hsplit:=ubs8_ (a:=sp.rs) (b:=sp.ps.filter isBox) (x:=y) (n:=self)
           have htake:(mkL (sp.rs++sp.ps.filter isBox) y self).take sp.rs.length=mkL sp.rs (ub0c_ sp.rs (sp.ps.filter isBox) y).1 self:=by
            rw [hsplit,List.take_left' f1]
           refine ⟨_,g1,g2.shrink fun j hj=>hj.1,?_⟩
           show SR P w' { G with im:=G.im } (resOf ((mkL (sp.rs++sp.ps.filter isBox) y self).take sp.rs.length)) rv
           rw [htake]
           exact uccj_ hret (by rw [hvl,f1]) f2
       · split at hr
         · rename_i v hv
           cases hr
           obtain ⟨y,hy,rfl⟩:=hu.may_inv
           unfold lendN at hv
           cases hc:(ubz1_ sp.rs&&(noBox sp.ps&&(Nat.ble (cntL (sp.rs++sp.ps.filter isBox)) 8&&uwy_ (keysL σ' sp.ps args)))) with
           | false=>rw [hc] at hv; cases hv
           | true =>
             rw [hc] at hv
             have hv:lendL fs σ' sp.ps args=some v:=hv
             simp only [Bool.and_eq_true] at hc
             obtain ⟨c1,c2,c3,c4⟩:=hc
             have hcnt:=Nat.le_of_ble_eq_true c3
             rw [ub3q_] at hcnt
             have hm':=hm.sub hσ
             obtain ⟨hal,bs,p1,p2,p3⟩:=uchu_ hm' hE hv hlen hs (ub4t_ c4)
             obtain ⟨n1,n2,n3⟩:=uccp_ (G:=G) c2
             refine ⟨hent,Calls.mono (hfun w (imRO σ' G) v vals bs (ucck_ hm') p1 p2 y hy) fun e w' hq=>?_⟩
             obtain ⟨rv,vs,I',bs',rfl,hvl,hret,haft,hres,hnd',hown,qd⟩:=hq
             refine ⟨rv,rfl,?_,fun h=>qd (hD h _ _ hsp)⟩
             have haft2:=haft.lend (ubkh_ w) hm.after.mem
             obtain ⟨b1,b2,rfl,r1,r2⟩:=hres.split hvl
             exact ub6p_ hm hσ hfree hlen hal (n3 _ _) p3 hcnt hvl hret haft2 (ucey_ haft (ubkh_ w) c1 r1) (r2.nil_any n1) hnd' hown
         · cases hr
 · cases hr
end
end Go.Ev
namespace Go.Ev
variable [Pins]
section
variable {P:Program} {fr:Fr} {free free':Nat→Prop} {self:Nat} {σ σ':Nat→Option Obj} {w w':World} {G G':Gh} {I:Im}
theorem ub4u_ {o:Oper} {a:Act} {fo:Operand} {as:Array Operand} {ts:Array TypeId} (ho:o.op=.call ⟨.value fo,as,ts⟩) {f:Nat} {caps:Array Value} (hf:a.eval fo=.func (.func f) #[] caps) (he:um_ P f) :
 (execOp a.eval o).run P w=.ok (.enter f (as.map a.eval++caps)) w:=by
 obtain ⟨fn,c,h1,h2,h3⟩:=he
 have h2':fn.name≠"runtime.NumGoroutine" := by simpa using h2
 have:(callFunc f (as.map a.eval++caps)).run P w=.ok (.enter f (as.map a.eval++caps)) w:=by simp [callFunc,h1,h2',h3]
 simp [execOp,ho,resolve,hf,Deferred.ofValue,invoke,this]
theorem uce0_:∀ {l:SV} {vs:List Value},CR P w G l vs→l.list.length≤vs.length→∀ (j:Nat) (s:SV) (v:Value),l.list[j]? = some s→vs[j]? = some v→SR P w G s v:=by
 intro l
 induction l with
 | scons a b iha ihb =>
   intro vs h hl j s v hj hv
   obtain ⟨v',r,rfl,⟨c,h2,h3⟩,h4⟩:=h
   cases j with
   | zero =>
     have e1:a=s:=by simpa [SV.list] using hj
     have e2:v'=v:=by simpa using hv
     subst e1 e2
     exact ⟨c,h2,h3⟩
   | succ j=>exact ihb h4 (by simpa [SV.list] using hl) j s v (by simpa [SV.list] using hj) (by simpa using hv)
 | _=>intro vs h hl j s v hj; simp [SV.list] at hj
theorem uccq_:∀ {l:SV} {vs:List Value},CR P w G l vs→ub33_ l=true→l.list.length=vs.length:=by
 intro l
 induction l with
 | snil=>intro vs h _; have h:vs=[]:=h; rw [h]; rfl
 | scons a b iha ihb =>
   intro vs h hk
   obtain ⟨v',r,rfl,_,h4⟩:=h
   simp [SV.list,ihb h4 hk]
 | _=>intro vs h hk; cases hk
theorem ub0d_ {σ:Nat→Option Obj} (ho:∀ k o,σ k=some o→ObjOK P fr w G k o):∀ {d:Ty} {l:List SV} {x:d.T} {vs:List Value},ubsz_ σ d l=some x→l.length=vs.length →
 (∀ (j:Nat) (s:SV) (v:Value),l[j]? = some s→vs[j]? = some v→SR P w G s v)→ArgsV w G.im d x vs:=by
 have one:∀ {d:Ty} {l:List SV} {x:d.T} {vs:List Value},(match l with | [s]=>s.asV σ d | _=>none)=some x→l.length=vs.length →
  (∀ (j:Nat) (s:SV) (v:Value),l[j]? = some s→vs[j]? = some v→SR P w G s v)→∃ v,vs=[v]∧VRel w G.im d x v:=by
  intro d l x vs h hl hs
  rcases l with _ | ⟨s,_ | ⟨_,_⟩⟩ <;> first | (cases h; done) | skip
  rcases vs with _ | ⟨v,_ | ⟨_,_⟩⟩ <;> first | (cases hl; done) | skip
  exact ⟨v,rfl,ubs3_ ho h (hs 0 s v rfl rfl)⟩
 intro d
 induction d with
 | prod a b iha ihb =>
   intro l x vs h hl hs
   cases l with
   | nil=>cases h
   | cons s r =>
     cases vs with
     | nil=>cases hl
     | cons v vs =>
       simp only [ubsz_] at h
       split at h
       · rename_i y z h1 h2
         cases h
         exact ⟨v,vs,rfl,ubs3_ ho h1 (hs 0 s v rfl rfl),ihb h2 (by simpa using hl) fun j s v h1 h2=>hs (j+1) s v (by simpa using h1) (by simpa using h2)⟩
       · cases h
 | _ =>
   intro l x vs h hl hs
   refine one ?_ hl hs
   rcases l with _ | ⟨s,_ | ⟨_,_⟩⟩ <;> exact h
theorem uce1_:∀ {c:Ty} {y:c.T} {vs:List Value},ArgsV w G.im c y vs→CR P w G (ucg1_ c y) vs:=by
 intro c
 induction c with
 | prod a b iha ihb =>
   intro y vs h
   obtain ⟨v,r,rfl,⟨cs,h1,h2⟩,h3⟩:=h
   exact ⟨v,r,rfl,⟨cs,h1,h2⟩,ihb h3⟩
 | _ =>
   intro y vs h
   obtain ⟨v,rfl,cs,h1,h2⟩:=h
   exact ⟨v,[],rfl,⟨cs,h1,h2⟩,rfl⟩
theorem ub8a_ {c:Ty} {y:c.T} {rv:Value} (h:RetV w G.im c y rv):SR P w G (retSV c y) rv:=by
 cases c <;> first | exact h | skip
 obtain ⟨vs,rfl,h⟩:=h
 exact ⟨_,rfl,vs,rfl,uce1_ h⟩
theorem uccr_ (hpin:Pins.P=P) {fs:Nat→Option FSpec} (hE:∀ f sp,fs f=some sp→um_ P f∧FunOK P f sp) (hD:fr.dr=true→∀ f sp,fs f=some sp→sp.dr=true) {dr:Bool} (hdr:fr.dr=true→dr=true) (hm:MemS P fr free σ w G) (hσ:∀ k o,σ' k=some o→σ k=some o) (hfree:∀ k,self≤k→k<self+8→free k)
 {o:Oper} {a:Act} {fo:Operand} {as:Array Operand} {ts:Array TypeId} (ho:o.op=.call ⟨.value fo,as,ts⟩) {sf:SV} (hsf:SR P w G sf (a.eval fo)) {args:List SV} {r:OpRes} {u:Upd}
 (hlen:args.length=as.toList.length) (hs:∀ (j:Nat) (s:SV) (x:Operand),args[j]? = some s→as.toList[j]? = some x→SR P w G s (a.eval x)) (hr:ucbq_ dr fs σ' self sf args=some r) (hu:Gives r u) :
 Done P fr.dr o a w (Res P fr free self σ w G u):=by
 unfold ucbq_ at hr
 split at hr
 · rename_i f caps
   cases hk:ub33_ caps with
   | false=>rw [hk] at hr; cases hr
   | true =>
     rw [hk] at hr
     obtain ⟨cc,hcc,vs,h1,h2⟩:=hsf
     have hf:a.eval fo=.func (.func f) #[] vs:=List.singleton_inj.1 ((show cc=[a.eval fo] from hcc).symm.trans h1)
     have hcl:=uccq_ h2 hk
     have hall:∀ (j:Nat) (s:SV) (v:Value),(args++caps.list)[j]? = some s→(as.toList.map a.eval++vs.toList)[j]? = some v→SR P w G s v:=by
      intro j s v hj hv
      by_cases hlt:j<args.length
      · rw [List.getElem?_append_left hlt] at hj
        rw [List.getElem?_append_left (by rw [List.length_map,← hlen]; exact hlt),List.getElem?_map] at hv
        cases hx:as.toList[j]? with
        | none=>rw [hx] at hv; cases hv
        | some x =>
          rw [hx] at hv
          cases hv
          exact hs j s x hj hx
      · have hle:args.length≤j:=Nat.le_of_not_lt hlt
        rw [List.getElem?_append_right hle] at hj
        rw [List.getElem?_append_right (by rw [List.length_map,← hlen]; exact hle),List.length_map,← hlen] at hv
        exact uce0_ h2 (by omega) _ s v hj hv
     obtain ⟨he,hcall⟩:=ucez_ hE hD hm hσ hfree (vals:=as.toList.map a.eval++vs.toList) (by simp [hlen,hcl]) hall hr hu
     refine Done.enter (ub4u_ ho hf he) ?_
     have e:(as.toList.map a.eval++vs.toList).toArray=as.map a.eval++vs:=by
      apply Array.ext'
      simp
     rw [e] at hcall
     exact hcall
 · rename_i nd d c F
   cases hnd:(!dr||nd) with
   | false=>rw [hnd] at hr; cases hr
   | true =>
   rw [hnd] at hr
   simp only [cond_true] at hr
   split at hr
   · rename_i x hx
     cases hr
     obtain ⟨y,hy,rfl⟩:=hu.may_inv
     obtain ⟨cc,hcc,f,vs,h1,he,h2⟩:=hsf
     have hf:a.eval fo=.func (.func f) #[] vs:=List.singleton_inj.1 ((show cc=[a.eval fo] from hcc).symm.trans h1)
     have hv:=ub0d_ (fun k o h=>hm.objs k o (hσ k o h)) hx (vs:=as.toList.map a.eval) (by simp [hlen]) (fun j s v hj hv=>by
      rw [List.getElem?_map] at hv
      cases hx:as.toList[j]? with
      | none=>rw [hx] at hv; cases hv
      | some x =>
        rw [hx] at hv
        cases hv
        exact hs j s x hj hx)
     refine Done.enter (ub4u_ ho hf he) ?_
     have hargs:as.map a.eval++vs=(as.toList.map a.eval).toArray++vs:=by
      apply Array.ext'
      simp
     rw [hargs]
     refine Calls.mono (h2 w G.im (Ext.refl _ _) hm.after.mem x _ hv y hy) fun e w' hq=>?_
     obtain ⟨rv,I',rfl,ha,hrv,qd⟩:=hq
     obtain ⟨g1,g2⟩:=hm.called (ks:=[]) (bs:=[]) (fun b hb=>by cases hb) (ha.mono fun b hb=>absurd hb id)
     exact ⟨rv,rfl,⟨_,g1,g2.shrink fun _ h=>h.1,ub8a_ hrv⟩,fun h=>qd (by have:=hdr h; subst this; simpa using hnd)⟩
   · cases hr
 · rename_i d c q
   cases hnd:(!dr) with
   | false=>rw [hnd] at hr; cases hr
   | true =>
   rw [hnd] at hr
   simp only [cond_true] at hr
   split at hr
   · rename_i x hx
     cases hr
     obtain ⟨y,hy,rfl⟩:=hu.may_inv
     obtain ⟨F,hF,hy⟩:=Option.bind_eq_some_iff.1 hy
     have hF:q=some F:=hF
     subst hF
     obtain ⟨cc,hcc,h1⟩:=hsf
     obtain ⟨f,vs,h1,he,h2⟩:=ucge_ h1
     rw [hpin] at he h2
     have hf:a.eval fo=.func (.func f) #[] vs:=List.singleton_inj.1 ((show cc=[a.eval fo] from hcc).symm.trans h1)
     have hv:=ub0d_ (fun k o h=>hm.objs k o (hσ k o h)) hx (vs:=as.toList.map a.eval) (by simp [hlen]) (fun j s v hj hv=>by
      rw [List.getElem?_map] at hv
      cases hx:as.toList[j]? with
      | none=>rw [hx] at hv; cases hv
      | some x =>
        rw [hx] at hv
        cases hv
        exact hs j s x hj hx)
     refine Done.enter (ub4u_ ho hf he) ?_
     have hargs:as.map a.eval++vs=(as.toList.map a.eval).toArray++vs:=by
      apply Array.ext'
      simp
     rw [hargs]
     refine Calls.mono (h2 w G.im (Ext.refl _ _) hm.after.mem x _ hv y hy) fun e w' hq=>?_
     obtain ⟨rv,I',rfl,ha,hrv,_⟩:=hq
     obtain ⟨g1,g2⟩:=hm.called (ks:=[]) (bs:=[]) (fun b hb=>by cases hb) (ha.mono fun b hb=>absurd hb id)
     exact ⟨rv,rfl,⟨_,g1,g2.shrink fun _ h=>h.1,ub8a_ hrv⟩,fun h=>by have:=hdr h; subst this; cases hnd⟩
   · cases hr
 · cases hr
theorem ucap_ {o:Oper} {a:Act} {r:Operand} {m:String} {as:Array Operand} {ts:Array TypeId} (ho:o.op=.call ⟨.invoke r m,as,ts⟩) (has:as.toList=[]) {id:Nat} {v:Value} (hv:a.eval r=.iface id v)
 {f:Nat} (hm:(method (P.types.size+Made.depth) id v m).run P w=.ok (f,v) w) (he:um_ P f):(execOp a.eval o).run P w=.ok (.enter f #[v]) w:=by
 obtain ⟨fn,c,h1,h2,h3⟩:=he
 have h2':fn.name≠"runtime.NumGoroutine" := by simpa using h2
 have hc:(callFunc f #[v]).run P w=.ok (.enter f #[v]) w:=by simp [callFunc,h1,h2',h3]
 have has':as = #[]:=by apply Array.ext'; simpa using has
 subst has'
 have hcm:(callMethod (.iface id v) m #[]).run P w=.ok (.enter f #[v]) w:=by
  simp only [callMethod,Sem.run_bind,run_program,Result.andThen_ok,hm]
  exact hc
 simp [execOp,ho,resolve,hv,invoke,hcm]
theorem uccs_ {fs:Nat→Option FSpec} (hE:∀ f sp,fs f=some sp→um_ P f∧FunOK P f sp) {D:Prop} (hD:D→∀ f sp,fs f=some sp→sp.dr=true) {mt:Nat→Option Nat} {m:String}
 (hM:∀ id f,mt id=some f→∀ (v:Value) (w:World),(method (P.types.size+Made.depth) id v m).run P w=.ok (f,v) w) {c:Ty} (hw:Mem w G.im) :
 ∀ {u:Ty} {F:u.T→Option c.T} {x:u.T} {y:c.T} {v:Value},ub9e_ fs mt c u=some F→F x=some y→Rel w G.im u x [v] →
 ∃ id v' f,v=.iface id v'∧(method (P.types.size+Made.depth) id v' m).run P w=.ok (f,v') w∧um_ P f ∧
  Calls P f #[v'] w fun e w'=>∃ rv I',e=.returned rv∧After noGv w G.im w' I'∧RetV w' I' c y rv∧(D→w.drawn≤w'.drawn):=by
 intro u
 induction u with
 | inil=>intro F x y v h hy _; cases h; cases hy
 | ialt id t r _ ihr =>
   intro F x y v h hy hr
   unfold ub9e_ at h
   split at h
   · rename_i f hf
     cases hip:ubsx_ t with
     | true=>rw [hip] at h; cases h
     | false =>
     rw [hip] at h
     simp only [cond_false] at h
     split at h
     · rename_i F1 F2 h1 h2
       cases h
       cases x with
       | inl z =>
         obtain ⟨v',cs,e1,e2,e3⟩:=hr
         have hh:=ub77_ (P:=P) (w:=w) (G:=G) (fr:=⟨noGv,w,G.im,fun _=>none,false⟩) (σ:=fun _=>none) (D:=D) (fun k o h=>by cases h) hE (fun h=>.inr ⟨hD h,fun _ _ _ _ he=>by cases he⟩) h1 (cs:=[.func (.func f) #[] #[]]) ⟨#[],rfl,rfl⟩
         obtain ⟨f',vs',e4,hent,hcall⟩:=hh
         cases e4
         have ha:ArgsV w G.im t z [v']:=by
          have:∃ v,[v']=[v]∧VRel w G.im t z v:=⟨v',rfl,cs,e2,e3⟩
          cases t with
          | prod a b=>cases hip
          | _=>exact this
         have:=hcall w G.im (Ext.refl _ _) hw z [v'] ha y hy
         exact ⟨id,v',f,List.singleton_inj.1 e1,hM id f hf v' w,hent,this⟩
       | inr z=>exact ihr h2 hy hr.2
     · cases h
   · cases h
 | _=>intro F x y v h; cases h
theorem ucaq_ {fs:Nat→Option FSpec} (hE:∀ f sp,fs f=some sp→um_ P f∧FunOK P f sp) (hD:fr.dr=true→∀ f sp,fs f=some sp→sp.dr=true) {mt:String→Nat→Option Nat}
 (hM:∀ m id f,mt m id=some f→∀ (v:Value) (w:World),(method (P.types.size+Made.depth) id v m).run P w=.ok (f,v) w) (hm:MemS P fr free σ w G)
 {o:Oper} {a:Act} {ro:Operand} {m:String} {as:Array Operand} {ts:Array TypeId} (ho:o.op=.call ⟨.invoke ro m,as,ts⟩) (has:as.toList=[]) {s:SV} (hs:SR P w G s (a.eval ro)) {c:Ty} {r:OpRes} {u:Upd}
 (hr:ub7s_ fs mt c m s=some r) (hu:Gives r u):Done P fr.dr o a w (Res P fr free self σ w G u):=by
 unfold ub7s_ at hr
 split at hr
 · rename_i ut x
   split at hr
   · rename_i F hF
     cases hr
     obtain ⟨y,hy,rfl⟩:=hu.may_inv
     obtain ⟨cs,h1,h2⟩:=hs
     have hcs:cs=[a.eval ro]:=by
      cases ut with
      | ialt _ _ _=>exact h1
      | inil=>exact h1
      | _=>cases hF
     subst hcs
     obtain ⟨tid,v',f,hv,hmt,hent,hcall⟩:=uccs_ hE hD (hM m) hm.after.mem hF hy h2
     refine Done.enter (ucap_ ho has hv hmt hent) ?_
     refine Calls.mono hcall fun e w' hq=>?_
     obtain ⟨rv,I',rfl,ha,hrv,qd⟩:=hq
     obtain ⟨g1,g2⟩:=hm.called (ks:=[]) (bs:=[]) (fun b hb=>by cases hb) (ha.mono fun b hb=>absurd hb id)
     exact ⟨rv,rfl,⟨_,g1,g2.shrink fun _ h=>h.1,ub8a_ hrv⟩,qd⟩
   · cases hr
 · cases hr
end
end Go.Ev
namespace Go.Ev
variable [Pins]
section
variable {P:Program} {fr:Fr} {free free':Nat→Prop} {self:Nat} {σ σ':Nat→Option Obj} {w w':World} {G G':Gh} {I:Im}
theorem Done.calm {o:Oper} {a:Act} {u:Upd} (hm:MemS P fr free σ w G) (h:u.wr=[]∧∃ z,(execOp a.eval o).run P w=.ok (.value z) w∧SR P w G u.sv z):Done P fr.dr o a w (Res P fr free self σ w G u):=by
 obtain ⟨h1,z,h2,h3⟩:=h
 obtain ⟨sv,wr⟩:=u
 have h1:wr=[]:=h1
 subst h1
 exact Done.value h2 (Res.same hm h3)
theorem Done.makes {o:Oper} {a:Act} {u:Upd} (h:∃ z w',(execOp a.eval o).run P w=.ok (.value z) w'∧Res P fr free self σ w G u z w'):Done P fr.dr o a w (Res P fr free self σ w G u):=by
 obtain ⟨z,w',h2,h3⟩:=h
 exact Done.value h2 h3
theorem Done.writes {o:Oper} {a:Act} {u:Upd} (h:∃ w',(execOp a.eval o).run P w=.ok .skip w'∧Res P fr free self σ w G u undef w'):Done P fr.dr o a w (Res P fr free self σ w G u):=by
 obtain ⟨w',h2,h3⟩:=h
 exact Done.skip h2 h3
end
end Go.Ev
namespace Go.Ev
variable [Pins]
section
variable {P:Program} {fr:Fr} {free free':Nat→Prop} {self:Nat} {σ σ':Nat→Option Obj} {w w':World} {G G':Gh} {I:Im}
theorem uchv_ {a t:Ty} {g:a.T→t.T} (h:castF a t=some g) {y:a.T} {v:Value} (hr:VRel w I a y v):VRel w I t (g y) v:=by
 unfold castF at h
 split at h
 · rename_i hs
   have e:=Ty.same_eq hs
   subst e
   have h:=Option.some.inj h
   subst h
   exact hr
 · cases h
theorem ucct_ {id:Nat} {t:Ty}:∀ {u:Ty} {f:u.T→Option t.T} {y:u.T} {v:Value},ub3f_ id t u=some f→Rel w I u y [v] →
 (f y=none∧(v=.nilIface∨∃ j x,v=.iface j x∧j≠id))∨∃ q x,f y=some q∧v=.iface id x∧VRel w I t q x:=by
 intro u
 induction u with
 | inil =>
   intro f y v h hr
   have h:=Option.some.inj h
   subst h
   have hr:[v]=[.nilIface]:=hr
   exact .inl ⟨rfl,.inl (List.singleton_inj.1 hr)⟩
 | ialt j a r iha ihr =>
   intro f y v h hr
   simp only [ub3f_] at h
   split at h
   · rename_i fr hfr
     cases hb:Nat.beq id j with
     | true =>
       rw [hb] at h
       simp only [cond_true] at h
       have e:=Nat.eq_of_beq_eq_true hb
       subst e
       split at h
       · rename_i g hg
         have h:=Option.some.inj h
         subst h
         cases y with
         | inl z =>
           obtain ⟨x,c,h1,h2,h3⟩:=hr
           exact .inr ⟨g z,x,rfl,List.singleton_inj.1 h1,uchv_ hg ⟨c,h2,h3⟩⟩
         | inr z=>exact ihr hfr hr.2
       · cases h
     | false =>
       rw [hb] at h
       simp only [cond_false] at h
       have h:=Option.some.inj h
       subst h
       cases y with
       | inl z =>
         obtain ⟨x,c,h1,h2,h3⟩:=hr
         refine .inl ⟨rfl,.inr ⟨j,x,List.singleton_inj.1 h1,fun e=>?_⟩⟩
         rw [e,Nat.beq_refl] at hb; cases hb
       | inr z=>exact ihr hfr hr.2
   · cases h
 | _=>intro f y v h; cases h
theorem ub6q_ {id:Nat} {t u:Ty} {f:u.T→Option t.T} {y:u.T} {v:Value} (h:ub3f_ id t u=some f) (hr:VRel w I u y v):Rel w I u y [v]:=by
 obtain ⟨c,h1,h2⟩:=hr
 have:c=[v]:=by
  cases u <;> first | exact h1 | cases h
 rw [← this]; exact h2
theorem Lay.conc {t:Ty} {id:Nat} (hl:Lay P t id) (ht:t.isIface=false):∃ d,P.underlying id=some d∧∀ ms,d≠.interface ms:=by
 cases t with
 | bool=>exact ⟨_,hl.bool,fun _ h=>by cases h⟩
 | int k=>exact ⟨_,hl.int,fun _ h=>by cases h⟩
 | str=>exact ⟨_,hl.str,fun _ h=>by cases h⟩
 | slice e=>obtain ⟨_,h,_⟩:=hl.slice; exact ⟨_,h,fun _ h=>by cases h⟩
 | agg p=>obtain ⟨_,h,_⟩:=hl.agg; exact ⟨_,h,fun _ h=>by cases h⟩
 | arr n e=>obtain ⟨_,h,_⟩:=hl.arr; exact ⟨_,h,fun _ h=>by cases h⟩
 | ptr e=>obtain ⟨_,h,_⟩:=hl.ptr; exact ⟨_,h,fun _ h=>by cases h⟩
 | map a b=>obtain ⟨_,_,h,_⟩:=hl.map; exact ⟨_,h,fun _ h=>by cases h⟩
 | self=>obtain ⟨_,h⟩:=hl.self; exact ⟨_,h,fun _ h=>by cases h⟩
 | opq=>exact hl.opq
 | fnc a b=>exact hl.fnc
 | unit=>simp [Lay,layB] at hl
 | prod a b=>simp [Lay,layB] at hl
 | inil=>simp [Ty.isIface] at ht
 | ialt i a r =>
   obtain ⟨_,d,hd,hc⟩:=uv6_ hl
   split at hc
   · rw [hc] at ht; cases ht
   · cases hc
theorem ub6r_ {t u:Ty} {id xt:Nat} (hl:Lay P t id) (ht:t.isIface=false) {f:u.T→Option t.T} {y:u.T} {v:Value} (hf:ub3f_ id t u=some f) (hv:VRel w G.im u y v) :
 ∃ z,(Instr.typeAssert v xt id true).run P w=.ok z w∧SR P w G (.tup (.scons (.val t ((f y).getD t.dflt)) (.scons (.val .bool (f y).isSome) .snil))) z:=by
 obtain ⟨d,hd,hn⟩:=hl.conc ht
 obtain ⟨zv,hz,hzr⟩:=ubz9_ (P:=P) (w:=w) (G:=G) hl
 rcases ucct_ hf (ub6q_ hf hv) with ⟨h1,h2⟩ | ⟨q,x,h1,rfl,h3⟩
 · have hrun:(Instr.typeAssert v xt id true).run P w=.ok (.tuple #[zv,.bool false]) w:=by
    rcases h2 with rfl | ⟨j,x,rfl,hj⟩
    · cases d <;> first | exact absurd rfl (hn _) | simp [Instr.typeAssert,run_underlying hd,hz]
    · cases d <;> first | exact absurd rfl (hn _) | simp [Instr.typeAssert,run_underlying hd,hz,hj]
   refine ⟨_,hrun,_,rfl,_,rfl,_,_,rfl,?_,_,_,rfl,?_,rfl⟩
   · rw [h1]; exact hzr
   · rw [h1]; exact ⟨_,rfl,rfl⟩
 · have hrun:(Instr.typeAssert (.iface id x) xt id true).run P w=.ok (.tuple #[x,.bool true]) w:=by
    cases d <;> first | exact absurd rfl (hn _) | simp [Instr.typeAssert,run_underlying hd]
   refine ⟨_,hrun,_,rfl,_,rfl,_,_,rfl,?_,_,_,rfl,?_,rfl⟩
   · rw [h1]; exact h3
   · rw [h1]; exact ⟨_,rfl,rfl⟩
end
end Go.Ev
namespace Go.Ev
variable [Pins]
open Go.MapKept
section
variable {P:Program} {fr:Fr} {free free':Nat→Prop} {self:Nat} {σ σ':Nat→Option Obj} {w w':World} {G G':Gh} {I:Im}
theorem ubzn_ {t:Ty} {eq:t.T→t.T→Bool} (h:keyEq t=some eq) (x y:t.T):eq x y=true↔x=y:=by
 cases t <;> simp only [keyEq] at h <;> first | (cases h; done) | skip
 · have h:=Option.some.inj h
   subst h
   exact (beq_iff_eq (α:=Bool) (a:=x) (b:=y))
 · have h:=Option.some.inj h
   subst h
   exact (beq_iff_eq (α:=Int) (a:=x) (b:=y))
 · have h:=Option.some.inj h
   subst h
   exact (beq_iff_eq (α:=Str) (a:=x) (b:=y))
theorem ub0e_ (k:Nat):ubs1_ k (k+1)=true:=by
 simp only [ubs1_,Nat.blt,Bool.and_eq_true]
 exact ⟨Nat.ble_eq_true_of_le (by omega),Nat.ble_eq_true_of_le (by omega)⟩
theorem ucgm_ {k v:Ty} {eq:k.T→k.T→Bool} {d:TypeDesc} (hk:KeyAt P w I k eq d) {x:k.T} {vx:Value} (hx:VRel w I k x vx):∀ (es:List (k.T×v.T)) (ents:List MapEntry) (i:Nat),EntsOK w I k v es ents →
 (Instr.findNow d vx ents i=some none∧ui5_ eq x es=none∧(∀ z,putKV eq x z es=es++[(x,z)])∧∀ q∈es,eq x q.1=false) ∨
 (∃ j e q,Instr.findNow d vx ents i=some (some (i+j,e.val))∧ents[j]? = some e∧es[j]? = some q∧eq x q.1=true∧ui5_ eq x es=some q.2∧Instr.sameBits 10000 e.key vx=true∧∀ z,putKV eq x z es=es.set j (x,z)):=by
 intro es
 induction es with
 | nil =>
   intro ents i h
   have:ents=[]:=List.eq_nil_of_length_eq_zero h.1
   subst this
   exact .inl ⟨rfl,rfl,fun z=>rfl,fun q hq=>by cases hq⟩
 | cons q es ih =>
   intro ents i h
   cases ents with
   | nil=>cases h.1
   | cons e ents =>
     obtain ⟨h1,h2⟩:=h.2 0 q e rfl rfl
     obtain ⟨s1,s2⟩:=hk.same _ _ _ _ hx h1
     cases hq:eq x q.1 with
     | true =>
       rw [hq] at s1
       exact .inr ⟨0,e,q,by simp [Instr.findNow,s1],rfl,rfl,hq,by simp [ui5_,hq],s2 hq,fun z=>by simp [putKV,hq]⟩
     | false =>
       rw [hq] at s1
       rcases ih ents (i+1) ⟨by simpa using h.1,fun j y e h1 h2=>h.2 (j+1) y e (by simpa using h1) (by simpa using h2)⟩ with ⟨a1,a2,a3,a4⟩ | ⟨j,e',y,a1,a2,a3,a4,a5,a6,a7⟩
       · exact .inl ⟨by simp [Instr.findNow,s1,a1],by simp [ui5_,hq,a2],fun z=>by simp [putKV,hq,a3],fun p hp=>by
          rcases List.mem_cons.1 hp with rfl | hp
          · exact hq
          · exact a4 p hp⟩
       · exact .inr ⟨j+1,e',y,by simp [Instr.findNow,s1,a1]; omega,by simpa using a2,by simpa using a3,a4,by simp [ui5_,hq,a5],a6,fun z=>by simp [putKV,hq,a7]⟩
theorem ucar_ {k e:Ty} {id el:Nat} (hl:Lay P (.map k (.slice e)) id) (hm:MemS P fr free σ w G) (hself:free self) (hself1:free (self+1)) {r:Option Value} (hrn:∀ x,r=some x→∃ kd n,x=.int kd n) :
 ∃ z w',(Instr.makeMap id r).run P w=.ok z w'∧Res P fr free self σ w G ⟨.obj self 0,[(self,some (.mg el k e [] none (self+1)))]⟩ z w':=by
 obtain ⟨a,b,hu,_,_⟩:=hl.map
 have hrun:(Instr.makeMap id r).run P w=.ok (.map (some w.heap.size)) (w.alloc (.map #[] 0)):=by
  cases r with
  | none=>simp [Instr.makeMap]
  | some x =>
    obtain ⟨kd,n,rfl⟩:=hrn x rfl
    simp [Instr.makeMap,run_underlying hu,asInt,asIntOf]
 obtain ⟨g0,m0⟩:=hm.ghost hself1 (.tuple #[])
 let G0:Gh:=G.addVal (self+1) 0 (.tuple #[])
 have m0:MemS P fr (fun j=>free j∧j≠self+1) σ w G0:=m0
 have g0:GLe w G w G0:=g0
 let G':Gh:=G0.addVal self 0 (.map (some w.heap.size))
 have hval:G'.val self 0=some (.map (some w.heap.size)):=by simp [G',Gh.addVal]
 have hus:G'.val (self+1) 0=some (.tuple #[]):=by simp [G',G0,Gh.addVal]
 have hblk:∀ c,Bk G' self (.mg el k e [] none (self+1)) c→c=w.heap.size:=by
  intro c hc
  rcases hc with hc | ⟨us',h8,hc⟩
  · rw [hval] at hc; cases hc; rfl
  · rw [hus] at h8; cases h8; simp at hc
 obtain ⟨g1,g2⟩:=m0.new (w':=w.alloc (.map #[] 0)) (G':=G') (o':=.mg el k e [] none (self+1)) (self:=self) ⟨hself,by omega⟩ rfl rfl rfl rfl (fun _ _ h=>h) (fun _ _ h=>.inl h) rfl
  (fun j hj=>⟨rfl,rfl,fun g=>by simp [G',Gh.addVal,hj]⟩) (fun hn hle=>⟨⟨_,#[],hval,hus,w.heap.size,#[],0,rfl,hn,rfl,rfl,fun i x e u h=>by simp at h,
   fun i j c h=>by simp at h,List.nodup_nil,fun h=>absurd (hm.after.inO _ h) (Nat.lt_irrefl _),fun o h=>absurd (hm.after.inC _ _ h) (Nat.lt_irrefl _),hm.owned_new⟩,hblk⟩)
 exact ⟨_,_,hrun,G',g0.trans g1,g2.shrink fun j hj=>⟨⟨hj.1,fun e=>by
  have:=hj.2
  subst e
  rw [ub0e_] at this; cases this⟩,hj.2⟩,_,rfl,_,hval,rfl,rfl⟩
theorem MemS.swapG (hm:MemS P fr free σ w G) {k:Nat} {o o':Obj} (hk:σ k=some o) (ho:ObjOK P fr w G k o') (hb:∀ b,Bk G k o' b→Bk G k o b) :
 MemS P fr free (ub7_ σ [(k,some o')]) w G:=by
 refine ⟨fun j p h=>?_,fun i j o1 o2 b' hi hj hbi hbj=>?_,hm.after,fun j hj=>?_⟩
 · rw [ucv_] at h
   by_cases e:j=k
   · rw [if_pos e] at h; cases h; subst e; exact ho
   · rw [if_neg e] at h; exact hm.objs j p h
 · rw [ucv_] at hi hj
   by_cases e1:i=k <;> by_cases e2:j=k
   · rw [e1,e2]
   · rw [if_pos e1] at hi; rw [if_neg e2] at hj
     cases hi; subst e1
     exact hm.sep i j o o2 b' hk hj (hb _ hbi) hbj
   · rw [if_neg e1] at hi; rw [if_pos e2] at hj
     cases hj; subst e2
     exact hm.sep i j o1 o b' hi hk hbi (hb _ hbj)
   · rw [if_neg e1] at hi; rw [if_neg e2] at hj
     exact hm.sep i j o1 o2 b' hi hj hbi hbj
 · have hf:=hm.fresh j hj
   refine ⟨?_,hf.2⟩
   rw [ucv_,if_neg (fun e=>?_)]
   · exact hf.1
   · subst e; rw [hf.1] at hk; cases hk
theorem uccu_ {k t:Ty} {id:Nat} (hl:Lay P (.map k (.slice t)) id) {b clock:Nat} {ents:Array MapEntry} (hb:w.heap[b]? = some (.map ents clock)) {d:TypeDesc} {ka va:Nat} (hun:P.underlying id=some (.map ka va)) (hd:P.underlying ka=some d)
 {vk:Value} (hkey:IsKey d vk) {a:Option (Nat×Value)} (ha:Instr.findNow d vk ents.toList 0=some a) :
 (Instr.lookup id (.map (some b)) vk false).run P w=.ok (match a with | some p=>p.2 | none=>.slice none 0 0) w:=by
 have hck:=run_checkKey (P:=P) (w:=w) hd hkey ents.isEmpty 9999
 obtain ⟨ka',va',hun',hlk,hlv⟩:=hl.map
 rw [hun] at hun'
 cases hun'
 have hz:(zeroValue va).run P w=.ok (.slice none 0 0) w:=by
  obtain ⟨i,v,h1,h2,h3,h4,h5⟩:=ubqr_ hlv.inf
  have hv:v=.slice none 0 0:=by
   simp only [zv] at h5
   split at h5
   · cases h5
   · unfold zv1 at h5
     split at h5
     · rename_i hz
       simp only [zc] at hz
       split at hz
       · rename_i r' he
         cases he; rfl
       · cases hz
     · cases h5
  subst hv
  simp [zeroValue,typeInfo,h1,h4]
 have hf:=run_findKey (P:=P) (w:=w) hd ha
 cases a with
 | none=>simp [Instr.lookup,run_underlying hun,run_getObj_map hb,hck,hf,hz]
 | some p=>simp [Instr.lookup,run_underlying hun,run_getObj_map hb,hck,hf]
theorem uchw_ {m:Value} {j g:Nat} (hm:SR P w G (.obj j g) m):G.val j g=some m:=by
 obtain ⟨c,hc,v2,k3,_,k5⟩:=hm
 have:[m]=[v2]:=(show c=[m] from hc).symm.trans k5
 rw [k3,List.singleton_inj.1 this]
theorem uce2_ {t:Ty} {id:Nat} (hl:Lay P t id) (hm:MemS P fr free σ w G) (hσ:∀ k o,σ' k=some o→σ k=some o) (hself:free self) (hself1:free (self+1)) {m s:SV} {vm vk:Value} {r:OpRes} {u:Upd}
 (hr:ucea_ σ' self t m s=some r) (hu:Gives r u) (hsm:SR P w G m vm) (hs:SR P w G s vk) :
 ∃ z,(Instr.lookup id vm vk false).run P w=.ok z w∧Res P fr free self σ w G u z w:=by
 unfold ucea_ at hr
 split at hr
 · rename_i k v
   split at hr
   · rename_i j g
     split at hr
     · rename_i el k' t' es gk hk
       cases hb:(Nat.beq g 0&&(k'.same k&&(Ty.slice t').same v)) with
       | false=>rw [hb] at hr; cases hr
       | true =>
         rw [hb] at hr
         simp only [cond_true] at hr
         simp only [Bool.and_eq_true] at hb
         have hg:=Nat.eq_of_beq_eq_true hb.1
         have e1:=Ty.same_eq hb.2.1
         have e2:=Ty.same_eq hb.2.2
         subst hg e1 e2
         split at hr
         · rename_i eq a heq ha
           cases hr
           rw [hu.pure_inv]
           have hkσ:=hσ _ _ hk
           obtain ⟨cv,us,q1,q2,hmg⟩:=hm.objs _ _ hkσ
           have hmg0:=hmg
           have hmg1:=hmg
           obtain ⟨bl,ents,clock,rfl,p1,p2,p3,p4,p5,p6,p7,p8,p9⟩:=hmg
           obtain ⟨_,_,_,he0,hh,hents⟩:=hmg1.ents
           cases he0
           rw [p1] at hh
           cases hh
           have hvm:=uchw_ hsm
           rw [q1] at hvm
           cases hvm
           obtain ⟨ka,va,hun,hlk,hlv⟩:=hl.map
           have hav:VRel w G.im k' a vk:=as_ok ha hs
           obtain ⟨d,hd,hkey⟩:=uceq_ (P:=P) (w:=w) (I:=G.im) hlk heq
           have hkj:∀ {i},free i→i≠j:=fun {i} hi e=>by
            have h1:=(hm.fresh i hi).1
            rw [e,hkσ] at h1; cases h1
           obtain ⟨z,us',hz,hslz,husl,hus⟩:∃ z us',(Instr.lookup id (.map (some bl)) vk false).run P w=.ok z w∧SlOK fr w G.im el t' ((ui5_ eq a es).getD []) false z ∧
            MgOK fr w G.im el k' t' es (some a) us' (.map (some bl))∧((∀ c,Value.map (some c)∈us'→Value.map (some c)∈us.toList∧bkVal z≠.map (some c))∧∀ c,bkVal z=.map (some c)→Value.map (some c)∈us.toList):=by
            rcases ucgm_ (P:=P) (v:=.slice t') hkey hav es ents.toList 0 hents with ⟨a1,a2,a3,a4⟩ | ⟨i,e,q,a1,a2,a3,a4,a5,a6,a7⟩
            · refine ⟨_,us.toList,uccu_ hl p1 hun hd (hkey.key _ _ hav) a1,?_,⟨bl,ents,clock,rfl,p1,p2,p3,fun i x e u h1 h2 h3=>?_,p5,p6,p7,p8,p9⟩,fun c hc=>⟨hc,fun h=>by cases h⟩,fun c h=>by cases h⟩
              · have a2:ui5_ eq a es=(none:Option (List t'.T)):=a2
                rw [a2]; exact .inl ⟨rfl,rfl⟩
              · obtain ⟨b1,b2⟩:=p4 i x e u h1 h2 h3
                rcases b2 with ⟨b2,_⟩ | b2
                · cases b2
                · exact ⟨b1,.inr b2⟩
            · have hiu:i<us.toList.length:=by rw [p3]; exact (List.getElem?_eq_some_iff.1 a3).1
              obtain ⟨b1,b2⟩:=p4 i q e _ a3 (by rw [← Array.getElem?_toList]; exact a2) (List.getElem?_eq_getElem hiu)
              rcases b2 with ⟨b2,_⟩ | ⟨b2,b3⟩
              · cases b2
              have hq:a=q.1:=(ubzn_ heq _ _).1 a4
              have a3:es[i]? = (some q:Option (k'.T×List t'.T)):=a3
              have a5:ui5_ eq a es=(some q.2:Option (List t'.T)):=a5
              refine ⟨e.val,us.toList.set i (Value.map none),uccu_ hl p1 hun hd (hkey.key _ _ hav) a1,by rw [a5]; exact b2,⟨bl,ents,clock,rfl,p1,p2,by simpa using p3,fun i' x e' u h1 h2 h3=>?_,fun i1 i2 c h1 h2=>?_,p6,p7,p8,p9⟩,fun c hc=>?_,fun c hc=>?_⟩
              · by_cases hii:i=i'
                · subst hii
                  rw [a3] at h1
                  cases h1
                  rw [List.getElem?_set_self hiu] at h3
                  cases h3
                  obtain ⟨b4,b5⟩:=p4 i q e' _ a3 h2 (List.getElem?_eq_getElem hiu)
                  refine ⟨b4,.inl ⟨by rw [hq],rfl,?_⟩⟩
                  rcases b5 with ⟨_,_,b5⟩ | ⟨b5,_⟩
                  · exact b5
                  · exact ⟨_,rfl,ucee_ b5⟩
                · rw [List.getElem?_set_ne hii] at h3
                  obtain ⟨b4,b5⟩:=p4 i' x e' u h1 h2 h3
                  rcases b5 with ⟨b5,_⟩ | b5
                  · cases b5
                  · exact ⟨b4,.inr b5⟩
              · have hne:∀ i':Nat,(us.toList.set i (Value.map none))[i']? = some (Value.map (some c))→us.toList[i']? = some (Value.map (some c)):=by
                 intro i' h
                 by_cases hii:i=i'
                 · subst hii
                   rw [List.getElem?_set_self hiu] at h
                   cases h
                 · rw [List.getElem?_set_ne hii] at h; exact h
                exact p5 i1 i2 c (hne _ h1) (hne _ h2)
              · obtain ⟨i',hi'⟩:=List.getElem?_of_mem hc
                by_cases hii:i=i'
                · subst hii
                  rw [List.getElem?_set_self hiu] at hi'
                  cases hi'
                · rw [List.getElem?_set_ne hii] at hi'
                  refine ⟨List.mem_of_getElem? hi',fun h=>hii ?_⟩
                  exact p5 i i' c (by rw [List.getElem?_eq_getElem hiu,b3,h]) hi'
              · rw [← hc,← b3]; exact List.getElem_mem hiu
           obtain ⟨hus1,hus2⟩:=hus
           refine ⟨z,hz,?_⟩
           obtain ⟨g0,m0⟩:=hm.ghost hself1 (.tuple us'.toArray)
           let G0:Gh:=G.addVal (self+1) 0 (.tuple us'.toArray)
           have m0:MemS P fr (fun j=>free j∧j≠self+1) σ w G0:=m0
           have g0:GLe w G w G0:=g0
           have hG0j:G0.val j 0=some (.map (some bl)):=g0.val _ _ _ q1
           have hG0u:G0.val (self+1) 0=some (.tuple us'.toArray):=by simp [G0,Gh.addVal]
           have hne1:self+1≠j:=hkj hself1
           have hne0:self≠j:=hkj hself
           have hsub:∀ c,Bk G0 j (.mg el k' t' es (some a) (self+1)) c→Bk G0 j (.mg el k' t' es none gk) c:=by
            intro c hc
            rcases hc with hc | ⟨us2,h8,hc⟩
            · exact .inl hc
            · rw [hG0u] at h8; cases h8
              exact .inr ⟨us,g0.val _ _ _ q2,(hus1 c (by simpa using hc)).1⟩
           have m1:=m0.swapG hkσ (o':=.mg el k' t' es (some a) (self+1)) ⟨_,us'.toArray,hG0j,hG0u,(by simpa using husl:MgOK fr w G.im el k' t' es (some a) us'.toArray.toList (.map (some bl)))⟩ hsub
           let G':Gh:=(G0.addVal self 0 z).addEty self t'
           have hval:G'.val self 0=some z:=by simp [G',Gh.addVal,Gh.addEty]
           have hblkz:∀ c,Bk G' self (.sl el t' ((ui5_ eq a es).getD []) 0 false) c→bkVal z=.map (some c):=by
            intro c hc
            simp only [Bk,hval] at hc
            split at hc
            · rename_i ad _ _ he
              cases he
              cases hc; rfl
            · cases hc
           have hfs:free self∧self≠self+1:=⟨hself,by omega⟩
           obtain ⟨g1,m2⟩:=m1.add (G':=G') (o:=.sl el t' ((ui5_ eq a es).getD []) 0 false) (k:=self) hfs rfl (fun i hi=>⟨rfl,by simp [G',Gh.addVal,Gh.addEty,hi],fun g=>by simp [G',Gh.addVal,Gh.addEty,hi]⟩)
            (fun hle=>⟨by simp [G',Gh.addVal,Gh.addEty],z,hval,hslz⟩)
            (fun c hc i o' hi hb=>by
             have hc:=hblkz c hc
             have hin:=hus2 c hc
             by_cases hij:i=j
             · subst hij
               rw [ucv_,if_pos rfl] at hi
               cases hi
               rcases hb with hb | ⟨us2,h8,hb⟩
               · rw [hG0j] at hb
                 cases hb
                 obtain ⟨_,_,cap,cells,_,fz,a5,_⟩:=hslz.slice hc
                 rw [p1] at a5; cases a5
               · rw [hG0u] at h8; cases h8
                 exact (hus1 c (by simpa using hb)).2 hc
             · rw [ucv_,if_neg hij] at hi
               exact hij (m0.sep i j o' _ c hi hkσ hb (.inr ⟨us,g0.val _ _ _ q2,hin⟩)))
           refine ⟨G',g0.trans g1,?_,_,rfl,z,hval,?_,rfl⟩
           · have e3:ub7_ σ [(self,some (.sl el t' ((ui5_ eq a es).getD []) 0 false)),(j,some (.mg el k' t' es (some a) (self+1)))]=ub7_ (ub7_ σ [(j,some (.mg el k' t' es (some a) (self+1)))]) [(self,some (.sl el t' ((ui5_ eq a es).getD []) 0 false))] :=
              ubk_ σ [(self,some (.sl el t' ((ui5_ eq a es).getD []) 0 false))] [(j,some (.mg el k' t' es (some a) (self+1)))]
             show MemS P fr (ubcs_ free self) (ub7_ σ [(self,some (.sl el t' ((ui5_ eq a es).getD []) 0 false)),(j,some (.mg el k' t' es (some a) (self+1)))]) w G'
             rw [e3]
             exact m2.shrink fun i hi=>⟨⟨hi.1,fun e=>by
              have:=hi.2
              subst e
              rw [ub0e_] at this; cases this⟩,fun e=>by
              have:=hi.2
              subst e
              rw [ubne_] at this; cases this⟩
           · rcases hslz with ⟨rfl,_⟩ | ⟨b,cap,cs,rfl,_⟩ <;> rfl
         · cases hr
     · cases hr
   · cases hr
 · cases hr
theorem MgOK.put {fr:Fr} {w w':World} {I:Im} {el:Nat} {k t:Ty} {eq:k.T→k.T→Bool} (heq:keyEq k=some eq) {es:List (k.T×List t.T)} {tk:Option k.T} {us:List Value} {bl clock:Nat} {ents:Array MapEntry}
 (h:MgOK fr w I el k t es tk us (.map (some bl))) (hb:w.heap[bl]? = some (.map ents clock)) {a:k.T} {xs:List t.T} {vx:Value} (hx:SlOK fr w I el t xs false vx) (htk:tk=none∨tk=some a)
 (hne:∀ c,bkVal vx=.map (some c)→Value.map (some c) ∉ us) (e:Ext w I w' I) (hw:∀ b',b'≠bl→w'.heap[b']? = w.heap[b']?) {ents':Array MapEntry} {clock':Nat} (hh:w'.heap[bl]? = some (.map ents' clock')) {en:MapEntry} (hk:VRel w I k a en.key) (hv:en.val=vx)
 (hp:(putKV eq a xs es=es++[(a,xs)]∧(∀ q∈es,eq a q.1=false)∧ents'.toList=ents.toList++[en])∨(∃ j q,es[j]? = some q∧eq a q.1=true∧putKV eq a xs es=es.set j (a,xs)∧ents'.toList=ents.toList.set j en)) :
 ∃ us',MgOK fr w' I el k t (putKV eq a xs es) none us' (.map (some bl))∧∀ c,Value.map (some c)∈us'→Value.map (some c)∈us∨bkVal vx=.map (some c):=by
 have hbn:∀ {ys:List t.T} {v:Value},SlOK fr w I el t ys false v→SlOK fr w' I el t ys false v:=by
  intro ys v hs
  refine hs.keep e fun c hc=>⟨hw c fun ec=>?_,fun _ h=>h,fun h=>h⟩
  obtain ⟨_,_,cap,cells,_,fz,a5,_⟩:=hs.slice hc
  rw [ec,hb] at a5; cases a5
 obtain ⟨bl',ents0,clock0,h0,p1,p2,p3,p4,p5,p6,p7,p8,p9⟩:=h
 cases h0
 rw [hb] at p1
 cases p1
 have hsz:∀ i:Nat,ents[i]? = ents.toList[i]?:=fun i=>by rw [Array.getElem?_toList]
 have hold:∀ (i:Nat) (x:k.T×List t.T) (e':MapEntry) (u:Value),es[i]? = some x→ents[i]? = some e'→us[i]? = some u→x.1≠a →
  VRel w' I k x.1 e'.key∧SlOK fr w' I el t x.2 false e'.val∧u=bkVal e'.val:=by
  intro i x e' u h1 h2 h3 hxa
  obtain ⟨b1,b2⟩:=p4 i x e' u h1 h2 h3
  rcases b2 with ⟨b2,_⟩ | ⟨b2,b3⟩
  · exfalso
    rcases htk with htk | htk
    · rw [htk] at b2; cases b2
    · rw [htk] at b2
      exact hxa (Option.some.inj b2).symm
  · exact ⟨b1.ext e,hbn b2,b3⟩
 rcases hp with ⟨c1,c2,c3⟩ | ⟨j,q,c1,c2,c3,c4⟩
 · have hna:∀ q∈es,q.1≠a:=fun q hq e1=>by
    have:=c2 q hq
    rw [e1,(ubzn_ heq a a).2 rfl] at this; cases this
   refine ⟨us++[bkVal vx],⟨bl,ents',clock',rfl,hh,?_,by rw [c1]; simp [p3],fun i x e' u h1 h2 h3=>?_,fun i1 i2 c h1 h2=>?_,?_,p7,p8,p9⟩,fun c hc=>?_⟩
   · rw [← Array.length_toList,c3,c1]; simp [p2]
   · rw [c1] at h1
     rw [← Array.getElem?_toList,c3] at h2
     by_cases hlt:i<es.length
     · rw [List.getElem?_append_left hlt] at h1
       rw [List.getElem?_append_left (by rw [Array.length_toList,p2]; exact hlt),← hsz] at h2
       rw [List.getElem?_append_left (by rw [p3]; exact hlt)] at h3
       obtain ⟨d1,d2⟩:=hold i x e' u h1 h2 h3 (hna x (List.mem_of_getElem? h1))
       exact ⟨d1,.inr d2⟩
     · have hle:es.length≤i:=Nat.le_of_not_lt hlt
       rw [List.getElem?_append_right hle] at h1
       rw [List.getElem?_append_right (by rw [Array.length_toList,p2]; exact hle),Array.length_toList,p2] at h2
       rw [List.getElem?_append_right (by rw [p3]; exact hle),p3] at h3
       have h0:i-es.length=0:=by
        have:=(List.getElem?_eq_some_iff.1 h1).1
        simp at this; omega
       rw [h0] at h1 h2 h3
       cases h1; cases h2; cases h3
       exact ⟨hk.ext e,.inr ⟨hv▸hbn hx,by rw [hv]⟩⟩
   · have key:∀ i:Nat,(us++[bkVal vx])[i]? = some (Value.map (some c))→(us[i]? = some (Value.map (some c))∨(i=us.length∧bkVal vx=.map (some c))):=by
      intro i h
      by_cases hlt:i<us.length
      · rw [List.getElem?_append_left hlt] at h; exact .inl h
      · rw [List.getElem?_append_right (Nat.le_of_not_lt hlt)] at h
        have h0:i-us.length=0:=by
         have:=(List.getElem?_eq_some_iff.1 h).1
         simp at this; omega
        rw [h0] at h
        exact .inr ⟨by omega,by simpa using h⟩
     rcases key i1 h1 with k1 | ⟨k1,k1'⟩ <;> rcases key i2 h2 with k2 | ⟨k2,k2'⟩
     · exact p5 i1 i2 c k1 k2
     · exact absurd (List.mem_of_getElem? k1) (hne c k2')
     · exact absurd (List.mem_of_getElem? k2) (hne c k1')
     · omega
   · rw [c1,List.map_append,List.nodup_append]
     refine ⟨p6,by simp,fun y hy z hz=>?_⟩
     obtain ⟨q,hq,rfl⟩:=List.mem_map.1 hy
     have hz:z=a:=by simpa using hz
     rw [hz]; exact hna q hq
   · rcases List.mem_append.1 hc with h | h
     · exact .inl h
     · have h:Value.map (some c)=bkVal vx:=by simpa using h
       exact .inr h.symm
 · have hq:a=q.1:=(ubzn_ heq _ _).1 c2
   have hj:j<es.length:=(List.getElem?_eq_some_iff.1 c1).1
   have hinj:∀ (i:Nat) (x:k.T×List t.T),es[i]? = some x→i≠j→x.1≠a:=by
    intro i x hi hij e1
    have h1:(es.map (·.1))[i]? = some a:=by rw [List.getElem?_map,hi,← e1]; rfl
    have h2:(es.map (·.1))[j]? = some a:=by rw [List.getElem?_map,c1,hq]; rfl
    have hi':i<(es.map (·.1)).length:=(List.getElem?_eq_some_iff.1 h1).1
    exact hij ((List.getElem?_inj hi' p6).1 (h1.trans h2.symm))
   refine ⟨us.set j (bkVal vx),⟨bl,ents',clock',rfl,hh,?_,by rw [c3]; simp [p3],fun i x e' u h1 h2 h3=>?_,fun i1 i2 c h1 h2=>?_,?_,p7,p8,p9⟩,fun c hc=>?_⟩
   · rw [← Array.length_toList,c4,c3]; simp [p2]
   · rw [c3] at h1
     rw [← Array.getElem?_toList,c4] at h2
     by_cases hij:j=i
     · subst hij
       rw [List.getElem?_set_self hj] at h1
       rw [List.getElem?_set_self (by rw [Array.length_toList,p2]; exact hj)] at h2
       rw [List.getElem?_set_self (by rw [p3]; exact hj)] at h3
       cases h1; cases h2; cases h3
       exact ⟨hk.ext e,.inr ⟨hv▸hbn hx,by rw [hv]⟩⟩
     · rw [List.getElem?_set_ne hij] at h1 h2 h3
       rw [← hsz] at h2
       obtain ⟨d1,d2⟩:=hold i x e' u h1 h2 h3 (hinj i x h1 (fun h=>hij h.symm))
       exact ⟨d1,.inr d2⟩
   · have key:∀ i:Nat,(us.set j (bkVal vx))[i]? = some (Value.map (some c))→((i≠j∧us[i]? = some (Value.map (some c)))∨(i=j∧bkVal vx=.map (some c))):=by
      intro i h
      by_cases hij:j=i
      · subst hij
        rw [List.getElem?_set_self (by rw [p3]; exact hj)] at h
        exact .inr ⟨rfl,Option.some.inj h⟩
      · rw [List.getElem?_set_ne hij] at h; exact .inl ⟨fun h=>hij h.symm,h⟩
     rcases key i1 h1 with ⟨_,k1⟩ | ⟨k1,k1'⟩ <;> rcases key i2 h2 with ⟨_,k2⟩ | ⟨k2,k2'⟩
     · exact p5 i1 i2 c k1 k2
     · exact absurd (List.mem_of_getElem? k1) (hne c k2')
     · exact absurd (List.mem_of_getElem? k2) (hne c k1')
     · omega
   · rw [c3,List.map_set,hq]
     have:(es.map (·.1)).set j q.1=es.map (·.1):=by
      apply List.ext_getElem?
      intro n
      by_cases hn:j=n
      · subst hn
        rw [List.getElem?_set_self (by simpa using hj),List.getElem?_map,c1]; rfl
      · rw [List.getElem?_set_ne hn]
     rw [this]; exact p6
   · rcases List.mem_or_eq_of_mem_set hc with h | h
     · exact .inl h
     · exact .inr h.symm
theorem uce3_ {t:Ty} {id:Nat} (hl:Lay P t id) (hm:MemS P fr free σ w G) (hσ:∀ k o,σ' k=some o→σ k=some o) (hself1:free (self+1)) {m s sx:SV} {vm vk vx:Value} {r:OpRes} {u:Upd}
 (hr:ucg8_ σ' self t m s sx=some r) (hu:Gives r u) (hsm:SR P w G m vm) (hs:SR P w G s vk) (hsx:SR P w G sx vx) :
 ∃ w',(Instr.mapUpdate id vm vk vx).run P w=.ok () w'∧Res P fr free self σ w G u undef w':=by
 unfold ucg8_ at hr
 split at hr
 · rename_i k v
   split at hr
   · rename_i j g i h
     split at hr
     · rename_i el k' t' es tk gk id2 t2 xs h2 hkj hki
       cases hb:(Nat.beq g 0&&((k'.same k&&(Ty.slice t').same v)&&(Nat.beq h 0&&(Nat.beq h2 0&&(Nat.beq el id2 && !(Nat.beq i j)))))) with
       | false=>rw [hb] at hr; cases hr
       | true =>
         rw [hb] at hr
         simp only [cond_true] at hr
         simp only [Bool.and_eq_true,Bool.not_eq_true'] at hb
         obtain ⟨b1,⟨b2,b3⟩,b4,b5,b6,b7⟩:=hb
         have e1:=Nat.eq_of_beq_eq_true b1
         have e2:=Ty.same_eq b2
         have e3:=Ty.same_eq b3
         have e4:=Nat.eq_of_beq_eq_true b4
         have e5:=Nat.eq_of_beq_eq_true b5
         have e6:=Nat.eq_of_beq_eq_true b6
         subst e1 e2 e3 e4 e5 e6
         have hij:i≠j:=fun e=>by rw [e,Nat.beq_refl] at b7; cases b7
         split at hr
         · rename_i eq a ys heq ha hys
           obtain ⟨ety,ey⟩:=Ty.cast?_some hys
           injection ety with ety
           subst ety
           cases ey
           have hfin:tk=none∨tk=some a→∃ w',(Instr.mapUpdate id vm vk vx).run P w=.ok () w'∧Res P fr free self σ w G ⟨.undef,[(j,some (.mg el k' t2 (putKV eq a xs es) none (self+1))),(i,none)]⟩ undef w':=by
            intro htk
            have hkσ:=hσ _ _ hkj
            have hiσ:=hσ _ _ hki
            obtain ⟨cv,us,q1,q2,hmg⟩:=hm.objs _ _ hkσ
            obtain ⟨_,vx',x1,x2⟩:=hm.objs _ _ hiσ
            have hvx:=uchw_ hsx
            rw [x1] at hvx
            cases hvx
            obtain ⟨bl,ents,clock,he0,hh,hents⟩:=hmg.ents
            subst he0
            have hvm:=uchw_ hsm
            rw [q1] at hvm
            cases hvm
            have hmgb:=hmg
            obtain ⟨bl',ents0,clock0,h0,p1,p2,p3,p4,p5,p6,p7,p8,p9⟩:=hmgb
            cases h0
            rw [hh] at p1
            cases p1
            obtain ⟨ka,va,hun,hlk,hlv⟩:=hl.map
            have hav:VRel w G.im k' a vk:=as_ok ha hs
            obtain ⟨d,hd,hkey⟩:=uceq_ (P:=P) (w:=w) (I:=G.im) hlk heq
            have hck:=run_checkKey (P:=P) (w:=w) hd (hkey.key _ _ hav) false 9999
            have hset:=fun o'=>heap_set (o':=o') hh
            have hbi:∀ c,bkVal vx=.map (some c)→Bk G i (.sl el t2 xs 0 false) c:=by
             intro c hc
             obtain ⟨_,_,cap,cells,e1,_⟩:=x2.slice hc
             simp only [Bk,x1,e1]
            have hne:∀ c,bkVal vx=.map (some c)→Value.map (some c) ∉ us.toList:=fun c hc hin=>hij (hm.sep i j _ _ c hiσ hkσ (hbi c hc) (.inr ⟨us,q2,hin⟩))
            have fin:∀ (ents':Array MapEntry) (clock':Nat) (en:MapEntry),VRel w G.im k' a en.key→en.val=vx →
             ((putKV eq a xs es=es++[(a,xs)]∧(∀ q∈es,eq a q.1=false)∧ents'.toList=ents.toList++[en])∨(∃ j q,es[j]? = some q∧eq a q.1=true∧putKV eq a xs es=es.set j (a,xs)∧ents'.toList=ents.toList.set j en)) →
             Res P fr free self σ w G ⟨.undef,[(j,some (.mg el k' t2 (putKV eq a xs es) none (self+1))),(i,none)]⟩ undef { w with heap:=w.heap.setIfInBounds bl (.map ents' clock') }:=by
             intro ents' clock' en hen1 hen2 hp
             obtain ⟨s1,s2⟩:=hset (.map ents' clock')
             have m0:=hm.drop i
             have hd0:∀ y o,ub7_ σ [(i,none)] y=some o→y≠i∧σ y=some o:=by
              intro y o hy
              rw [ucv_] at hy
              by_cases e:y=i
              · rw [if_pos e] at hy; cases hy
              · rw [if_neg e] at hy; exact ⟨e,hy⟩
             have hle0:GLe w G { w with heap:=w.heap.setIfInBounds bl (.map ents' clock') } G:=GLe.of_heap (b:=bl) (fun b' hne=>s2 b' hne) p8 p7
             obtain ⟨us',hmg',hus'⟩:=hmg.put heq hh x2 htk hne hle0.ext (w':={ w with heap:=w.heap.setIfInBounds bl (.map ents' clock') }) (fun b' hne=>s2 b' hne) s1 hen1 hen2 hp
             obtain ⟨g1,m1⟩:=m0.ghost hself1 (.tuple us'.toArray)
             let G0:Gh:=G.addVal (self+1) 0 (.tuple us'.toArray)
             have m1:MemS P fr (fun j=>free j∧j≠self+1) (ub7_ σ [(i,none)]) w G0:=m1
             have g1:GLe w G w G0:=g1
             have hus0:G0.val (self+1) 0=some (.tuple us'.toArray):=by simp [G0,Gh.addVal]
             have hle:GLe w G0 { w with heap:=w.heap.setIfInBounds bl (.map ents' clock') } G0:=GLe.of_heap (b:=bl) (fun b' hne=>s2 b' hne) p8 p7
             have m2:=m1.change (w':={ w with heap:=w.heap.setIfInBounds bl (.map ents' clock') }) (G':=G0) (b:=bl) (k:=j) (o':=some (.mg el k' t2 (putKV eq a xs es) none (self+1))) (free':=ubcs_ free self) hle
              (fun y o hy hoy hby=>by
               obtain ⟨hyi,hoy⟩:=hd0 y o hoy
               exact hy (hm.sep y j o _ bl hoy hkσ (by rw [← upp_ (hm.objs y o hoy) g1]; exact hby) (.inl q1)))
              (fun b' _ hne=>s2 b' hne) (by simp) (by simpa using u15_ hh) p9 (fun _ _ h=>.inl h) (fun _ h=>.inl h) rfl rfl rfl
              (fun o ho=>by
               cases ho
               refine ⟨⟨_,us'.toArray,g1.val _ _ _ q1,hus0,(by simpa using hmg':MgOK fr { w with heap:=w.heap.setIfInBounds bl (.map ents' clock') } G.im el k' t2 (putKV eq a xs es) none us'.toArray.toList (.map (some bl)))⟩,fun c hc=>?_⟩
               rcases hc with hc | ⟨us2,h8,hc⟩
               · rw [g1.val _ _ _ q1] at hc; cases hc; exact .inl rfl
               · rw [hus0] at h8; cases h8
                 refine .inr fun y oy hy hoy hby=>?_
                 obtain ⟨hyi,hoy⟩:=hd0 y oy hoy
                 rw [upp_ (hm.objs y oy hoy) g1] at hby
                 rcases hus' c (by simpa using hc) with h | h
                 · exact hy (hm.sep y j oy _ c hoy hkσ hby (.inr ⟨us,q2,h⟩))
                 · exact hyi (hm.sep y i oy _ c hoy hiσ hby (hbi c h)))
              (fun y hy=>by
               have hf:=hm.fresh y hy.1
               have hy1:y≠self+1:=fun e=>by
                have:=hy.2
                rw [e,ub0e_] at this; cases this
               exact ⟨fun e=>(by rw [e,hkσ] at hf; cases hf.1),⟨hy.1,hy1⟩,hf.2.1,hf.2.2.1,fun g=>by simp only [G0,Gh.addVal,hy1,false_and,if_false]; exact hf.2.2.2 g⟩)
             refine ⟨G0,g1.trans hle,?_,_,rfl,trivial⟩
             have e3:ub7_ σ [(j,some (.mg el k' t2 (putKV eq a xs es) none (self+1))),(i,none)]=ub7_ (ub7_ σ [(i,none)]) [(j,some (.mg el k' t2 (putKV eq a xs es) none (self+1)))] :=
              ubk_ σ [(j,some (.mg el k' t2 (putKV eq a xs es) none (self+1)))] [(i,none)]
             show MemS P fr (ubcs_ free self) (ub7_ σ [(j,some (.mg el k' t2 (putKV eq a xs es) none (self+1))),(i,none)]) _ G0
             rw [e3]
             exact m2
            rcases ucgm_ (P:=P) (v:=.slice t2) hkey hav es ents.toList 0 hents with ⟨a1,a2,a3,a4⟩ | ⟨i',e,q,a1,a2,a3,a4,a5,a6,a7⟩
            · have hf:=run_findKey (P:=P) (w:=w) hd a1
              refine ⟨_,?_,fin (ents.push { key:=vk,val:=vx,born:=clock }) (clock+1) { key:=vk,val:=vx,born:=clock } hav rfl (.inl ⟨a3 xs,a4,Array.toList_push⟩)⟩
              simp [Instr.mapUpdate,run_underlying hun,run_getObj_map hh,hck,hf,run_setObj_map _ hh]
            · have hf:=run_findKey (P:=P) (w:=w) hd a1
              rw [Nat.zero_add] at hf
              have a2':ents[i']? = some e:=by rw [← Array.getElem?_toList]; exact a2
              refine ⟨_,?_,fin (ents.modify i' fun e=>{ e with key:=vk,val:=vx }) clock { e with key:=vk,val:=vx } hav rfl (.inr ⟨i',q,a3,a4,a7 xs,?_⟩)⟩
              · simp [Instr.mapUpdate,run_underlying hun,run_getObj_map hh,hck,hf,a2',Instr.keyThatStays,a6,run_setObj_map _ hh]
              · apply List.ext_getElem?
                intro n
                rw [Array.getElem?_toList,Array.getElem?_modify]
                by_cases hin:i'=n
                · subst hin
                  rw [if_pos rfl,a2',List.getElem?_set_self (by have:=(Array.getElem?_eq_some_iff.1 a2').1; simpa using this)]
                  rfl
                · rw [if_neg hin,List.getElem?_set_ne hin,Array.getElem?_toList]
           cases tk with
           | none =>
             cases hr
             rw [hu.pure_inv]
             exact hfin (.inl rfl)
           | some q =>
             cases hr
             obtain ⟨y,hy,rfl⟩:=hu.may_inv
             have hqa:eq q a=true:=by
              cases hqa:eq q a with
              | true=>rfl
              | false=>rw [hqa] at hy; cases hy
             exact hfin (.inr (by rw [(ubzn_ heq _ _).1 hqa]))
         · cases hr
     · cases hr
   · cases hr
 · cases hr
end
end Go.Ev
namespace Go.Ev
variable [Pins]
section
variable {P:Program} {fr:Fr} {free free':Nat→Prop} {self:Nat} {σ σ':Nat→Option Obj} {w w':World} {G G':Gh} {I:Im}
theorem ub8b_ {ps:Array (Nat×Operand)} {ρ:Operand→SV} {a:Act} (h:∀ p∈ps.toList,SR P w G (ρ p.2) (a.eval p.2)) :
 ∀ (j:Nat) (q:Nat×SV) (u:Nat×Value),(ps.toList.map fun p=>(p.1,ρ p.2))[j]? = some q→(ps.map fun p=>(p.1,a.eval p.2)).toList[j]? = some u→q.1=u.1∧SR P w G q.2 u.2:=by
 intro j q u h1 h2
 rw [List.getElem?_map] at h1
 rw [Array.toList_map,List.getElem?_map] at h2
 cases hp:ps.toList[j]? with
 | none=>rw [hp] at h1; cases h1
 | some p =>
   rw [hp] at h1 h2
   cases h1
   cases h2
   exact ⟨rfl,h p (List.mem_of_getElem? hp)⟩
theorem ucas_ {t:Ty} {id el ty:Nat} {wf:Bool} (hl:Lay P t id) (hel:∀ x,P.underlying id=some (.slice x)→el=x) (hm:MemS P fr free σ w G) (hσ:∀ k o,σ' k=some o→σ k=some o) (hself:free self)
 {s x:SV} {v vx:Value} {r:OpRes} {u:Upd} (hr:ubz0_ σ' wf self el t s x=some r) (hu:Gives r u) (hs:SR P w G s v) (hx:SR P w G x vx) :
 ∃ z w',(Builtin.append_ #[id,id] ty #[v,vx]).run P w=.ok z w'∧Res P fr free self σ w G u z w':=by
 have ho:∀ k o,σ' k=some o→ObjOK P fr w G k o:=fun k o h=>hm.objs k o (hσ k o h)
 unfold ubz0_ at hr
 split at hr
 · rename_i e
   split at hr
   · rename_i ys hys
     have hv:VRel w G.im (.slice e) ys vx:=ubs3_ ho hys hx
     split at hr
     · have hr:=Option.some.inj hr
       subst hr
       obtain ⟨zs,hz,rfl⟩:=hu.may_inv
       obtain ⟨c,h1,h2⟩:=hs
       have h2:c=[.slice none 0 0]:=h2
       have hv0:v=.slice none 0 0:=List.singleton_inj.1 ((show c=[v] from h1).symm.trans h2)
       subst hv0
       exact ubkg_ hl hel hm hself (ub3k_ hl hv) hz
     · rename_i k g
       split at hr
       · rename_i id' e' xs g' w' hk
         cases hg:(Nat.beq g 0&&(Nat.beq g' 0&&Nat.beq el id')) with
         | false=>rw [hg] at hr; cases hr
         | true =>
           rw [hg] at hr
           simp only [cond_true] at hr
           simp only [Bool.and_eq_true] at hg
           have e1:=Nat.eq_of_beq_eq_true hg.1
           have e2:=Nat.eq_of_beq_eq_true hg.2.1
           have e3:=Nat.eq_of_beq_eq_true hg.2.2
           subst e1 e2 e3
           split at hr
           · rename_i xs' hxs
             have hr:=Option.some.inj hr
             subst hr
             obtain ⟨zs,hz,rfl⟩:=hu.may_inv
             obtain ⟨et,ex⟩:=Ty.cast?_some hxs
             have et':e'=e:=by injection et
             subst et'
             cases ex
             exact ub9k_ hl hel hm hself (hσ _ _ hk) hs (ub3k_ hl hv) hz
           · cases hr
       · cases hr
     · cases hr
   · cases hr
 · cases hr
theorem ub8c_ {t t':Ty} {id id2 el ty:Nat} {wf:Bool} (hl:Lay P t id) (hl2:Lay P t' id2) (hel:∀ x,P.underlying id=some (.slice x)→el=x) (hm:MemS P fr free σ w G) (hσ:∀ k o,σ' k=some o→σ k=some o) (hself:free self)
 {s x:SV} {v vx:Value} {r:OpRes} {u:Upd} (hr:ub39_ σ' wf self el t t' s x=some r) (hu:Gives r u) (hs:SR P w G s v) (hx:SR P w G x vx) :
 ∃ z w',(Builtin.append_ #[id,id2] ty #[v,vx]).run P w=.ok z w'∧Res P fr free self σ w G u z w':=by
 unfold ub39_ at hr
 split at hr
 · rename_i ys
   have hv:=uceo_ hl2 hx
   unfold ubz0_ at hr
   simp only [SV.asV,SV.as] at hr
   split at hr
   · rename_i ys' hys
     obtain ⟨_,ex⟩:=Ty.cast?_some hys
     have ex:ue8_ ys=ys':=ex
     subst ex
     split at hr
     · have hr:=Option.some.inj hr
       subst hr
       obtain ⟨zs,hz,rfl⟩:=hu.may_inv
       obtain ⟨c,h1,h2⟩:=hs
       have h2:c=[.slice none 0 0]:=h2
       have hv0:v=.slice none 0 0:=List.singleton_inj.1 ((show c=[v] from h1).symm.trans h2)
       subst hv0
       exact ubkg_ hl hel hm hself hv hz
     · rename_i k g
       split at hr
       · rename_i id' e' xs g' w' hk
         cases hg:(Nat.beq g 0&&(Nat.beq g' 0&&Nat.beq el id')) with
         | false=>rw [hg] at hr; cases hr
         | true =>
           rw [hg] at hr
           simp only [cond_true] at hr
           simp only [Bool.and_eq_true] at hg
           have e1:=Nat.eq_of_beq_eq_true hg.1
           have e2:=Nat.eq_of_beq_eq_true hg.2.1
           have e3:=Nat.eq_of_beq_eq_true hg.2.2
           subst e1 e2 e3
           split at hr
           · rename_i xs' hxs
             have hr:=Option.some.inj hr
             subst hr
             obtain ⟨zs,hz,rfl⟩:=hu.may_inv
             obtain ⟨et,ex⟩:=Ty.cast?_some hxs
             have et':e'=.int .u8:=by injection et
             subst et'
             cases ex
             exact ub9k_ hl hel hm hself (hσ _ _ hk) hs hv hz
           · cases hr
       · cases hr
     · cases hr
   · cases hr
 · cases hr
theorem uckk_ {E:Env} (hE:EnvOK P fr.dr E) (hm:MemS P fr free σ w G) (hσ:∀ k o,σ' k=some o→σ k=some o) (hfree:∀ k,self≤k→k<self+8→free k) {o:Oper} {a:Act} {ρ ρt ρf:Operand→SV}
 (hρ:(∀ c x y,o.op≠.pick c x y)→∀ x∈o.op.operands,SR P w G (ρ x) (a.eval x))
 (hpick:∀ c x y,o.op=.pick c x y→SR P w G (ρ c) (a.eval c)∧(a.eval c=.bool true→SR P w G (ρt x) (a.eval x))∧(a.eval c=.bool false→SR P w G (ρf y) (a.eval y)))
 {r:OpRes} {u:Upd} (hr:opV E ρ ρt ρf σ' self o=some r) (hu:Gives r u):Done P fr.dr o a w (Res P fr free self σ w G u):=by
 have hself:free self:=hfree self (Nat.le_refl _) (by omega)
 have ho:∀ k o,σ' k=some o→ObjOK P fr w G k o:=fun k o h=>hm.objs k o (hσ k o h)
 unfold opV at hr
 cases hop:o.op with
 | move x =>
   rw [hop] at hr
   have hr:=Option.some.inj hr
   subst hr; rw [hu.v_inv]
   exact Done.calm hm ⟨rfl,_,by simp [execOp,hop],hρ (by simp [hop]) x (by simp [hop,Op.operands])⟩
 | assign x =>
   rw [hop] at hr
   have hr:=Option.some.inj hr
   subst hr; rw [hu.v_inv]
   exact Done.calm hm ⟨rfl,_,by simp [execOp,hop],hρ (by simp [hop]) x (by simp [hop,Op.operands])⟩
 | pick c x y =>
   rw [hop] at hr
   obtain ⟨h1,h2,h3⟩:=hpick c x y hop
   obtain ⟨e1,b,e2,e3⟩:=ucej_ (P:=P) (w:=w) (G:=G) hr hu h1 h2 h3
   exact Done.calm hm ⟨e1,_,by simp [execOp,hop,e2,asBool],e3⟩
 | alloc t =>
   rw [hop] at hr
   simp only at hr
   split at hr
   · rename_i ty hty
     have hr:=Option.some.inj hr
     subst hr; rw [hu.pure_inv]
     obtain ⟨z,w',h1,h2⟩:=uchj_ (hE.ty _ _ hty) hm hself
     exact Done.makes ⟨z,w',by simp [execOp,hop,h1],h2⟩
   · cases hr
 | box t x =>
   rw [hop] at hr
   simp only at hr
   split at hr
   · rename_i ty hty
     split at hr
     · rename_i y hy
       have hr:=Option.some.inj hr
       subst hr; rw [hu.pure_inv]
       obtain ⟨z,w',h1,h2⟩:=uckh_ (id:=t) (hE.ty _ _ hty) hm hself hy (hρ (by simp [hop]) x (by simp [hop,Op.operands]))
       exact Done.makes ⟨z,w',by simp [execOp,hop,h1],h2⟩
     · cases hr
   · cases hr
 | load t x =>
   rw [hop] at hr
   simp only at hr
   split at hr
   · rename_i ty hty
     have hex:∃ wf:Bool,(bif wf then (loadT σ' ty (ρ x)).map OpRes.v else loadO σ' ty (ρ x))=some r:=⟨_,hr⟩
     clear hr
     obtain ⟨wf,hr⟩:=hex
     cases wf with
     | true =>
       simp only [cond_true] at hr
       cases hl:loadT σ' ty (ρ x) with
       | none=>rw [hl] at hr; cases hr
       | some s =>
         rw [hl] at hr
         have hr:=Option.some.inj hr
         subst hr; rw [hu.v_inv]
         obtain ⟨z,h1,h2⟩:=ucb8_ (hE.ty _ _ hty) ho hl (hρ (by simp [hop]) x (by simp [hop,Op.operands]))
         exact Done.calm hm ⟨rfl,z,by simp [execOp,hop,h1],h2⟩
     | false =>
     simp only [cond_false] at hr
     have hx:=hρ (by simp [hop]) x (by simp [hop,Op.operands])
     unfold loadO at hr
     split at hr
     · rename_i e y he
       cases hs:e.same ty with
       | false=>rw [hs] at hr; cases hr
       | true =>
         rw [hs] at hr
         have hr:=Option.some.inj hr
         subst hr
         rw [he] at hx
         obtain ⟨z,hz,rfl⟩:=hu.may_inv
         have hz:y=some z:=hz
         subst hz
         obtain ⟨c,hc,ad,h2,h3,cc,h4,h5⟩:=hx
         have hv:a.eval x=.pointer (some ad):=List.singleton_inj.1 ((show c=[a.eval x] from hc).symm.trans h2)
         have hsame:=Ty.same_eq hs
         subst hsame
         obtain ⟨z',k1,k2⟩:=ucb6_ (P:=P) (w:=w) (G:=G) (hE.ty _ _ hty) (x:=z) (v:=.pointer (some ad)) ⟨_,rfl,ad,cc,rfl,h3,h4,h5⟩
         exact Done.calm hm ⟨rfl,z',by simp [execOp,hop,hv,k1],k2⟩
     · cases hl:loadAt σ' ty (ρ x) with
       | none=>rw [hl] at hr; cases hr
       | some s =>
         rw [hl] at hr
         have hr:=Option.some.inj hr
         subst hr; rw [hu.v_inv]
         obtain ⟨z,h1,h2⟩:=ub9h_ (hE.ty _ _ hty) ho hl hx
         exact Done.calm hm ⟨rfl,z,by simp [execOp,hop,h1],h2⟩
   · cases hr
 | store t x y =>
   rw [hop] at hr
   simp only at hr
   split at hr
   · rename_i ty hty
     cases hl:storeAt σ' ty (ρ y) (ρ x) with
     | none=>rw [hl] at hr; cases hr
     | some s =>
       rw [hl] at hr
       have hr:=Option.some.inj hr
       subst hr; rw [hu.pure_inv]
       obtain ⟨k,o'⟩:=s
       obtain ⟨w',h1,h2,h3⟩:=ucb9_ (self:=self) (hE.ty _ _ hty) hm hσ hl (hρ (by simp [hop]) x (by simp [hop,Op.operands])) (hρ (by simp [hop]) y (by simp [hop,Op.operands]))
       exact Done.writes ⟨w',by simp [execOp,hop,h1],G,h2,h3,⟨_,rfl,trivial⟩⟩
   · cases hr
 | extract x i =>
   rw [hop] at hr
   obtain ⟨h1,z,h2,h3⟩:=ub7y_ (P:=P) (w:=w) (G:=G) hr hu (hρ (by simp [hop]) x (by simp [hop,Op.operands]))
   exact Done.calm hm ⟨h1,z,by simp [execOp,hop,h2],h3⟩
 | unOp op t x =>
   rw [hop] at hr
   obtain ⟨h1,z,h2,h3⟩:=uciy_ (P:=P) (w:=w) (G:=G) hr hu (hρ (by simp [hop]) x (by simp [hop,Op.operands]))
   exact Done.calm hm ⟨h1,z,by simp [execOp,hop,h2],h3⟩
 | insert t m k v =>
   rw [hop] at hr
   simp only at hr
   split at hr
   · rename_i ty hty
     obtain ⟨w',h1,h2⟩:=uccc_ (self:=self) (hE.ty _ _ hty) hm hσ hr hu (hρ (by simp [hop]) m (by simp [hop,Op.operands])) (hρ (by simp [hop]) k (by simp [hop,Op.operands])) (hρ (by simp [hop]) v (by simp [hop,Op.operands]))
     exact Done.writes ⟨w',by simp [execOp,hop,h1],h2⟩
   · cases hr
 | mapUpdate t m k v =>
   rw [hop] at hr
   simp only at hr
   split at hr
   · rename_i ty hty
     cases hmg:isMg σ' (ρ m) with
     | true =>
       rw [hmg] at hr
       obtain ⟨w',h1,h2⟩:=uce3_ (self:=self) (hE.ty _ _ hty) hm hσ (hfree _ (by omega) (by omega)) hr hu (hρ (by simp [hop]) m (by simp [hop,Op.operands])) (hρ (by simp [hop]) k (by simp [hop,Op.operands])) (hρ (by simp [hop]) v (by simp [hop,Op.operands]))
       exact Done.writes ⟨w',by simp [execOp,hop,h1],h2⟩
     | false =>
     rw [hmg] at hr
     simp only [cond_false] at hr
     obtain ⟨w',h1,h2⟩:=uccc_ (self:=self) (hE.ty _ _ hty) hm hσ hr hu (hρ (by simp [hop]) m (by simp [hop,Op.operands])) (hρ (by simp [hop]) k (by simp [hop,Op.operands])) (hρ (by simp [hop]) v (by simp [hop,Op.operands]))
     exact Done.writes ⟨w',by simp [execOp,hop,h1],h2⟩
   · cases hr
 | lookup t m k ok =>
   rw [hop] at hr
   simp only at hr
   split at hr
   · rename_i ty hty
     have hex:∃ b:Bool,(b=true→ok=false)∧(bif b then ucea_ σ' self ty (ρ m) (ρ k) else ub38_ σ' ty ok (ρ m) (ρ k))=some r:=⟨_,fun h=>by
      simp only [Bool.and_eq_true,Bool.not_eq_true'] at h
      exact h.2,hr⟩
     clear hr
     obtain ⟨b,hb,hr⟩:=hex
     cases b with
     | true =>
       have hok:=hb rfl
       subst hok
       obtain ⟨z,h2,h3⟩:=uce2_ (self:=self) (hE.ty _ _ hty) hm hσ hself (hfree _ (by omega) (by omega)) hr hu (hρ (by simp [hop]) m (by simp [hop,Op.operands])) (hρ (by simp [hop]) k (by simp [hop,Op.operands]))
       exact Done.makes ⟨z,w,by simp [execOp,hop,h2],h3⟩
     | false =>
     simp only [cond_false] at hr
     obtain ⟨h1,z,h2,h3⟩:=ucal_ (hE.ty _ _ hty) ho hr hu (hρ (by simp [hop]) m (by simp [hop,Op.operands])) (hρ (by simp [hop]) k (by simp [hop,Op.operands]))
     exact Done.calm hm ⟨h1,z,by simp [execOp,hop,h2],h3⟩
   · cases hr
 | fieldAddr t x f =>
   rw [hop] at hr
   simp only at hr
   split at hr
   · rename_i p hty
     cases hf:Nat.blt f p.fields with
     | false=>rw [hf] at hr; cases hr
     | true =>
       rw [hf] at hr
       rw [Nat.blt_eq] at hf
       simp only [cond_true] at hr
       have hx:=hρ (by simp [hop]) x (by simp [hop,Op.operands])
       split at hr
       · rename_i e y he
         rw [he] at hx
         cases hd:(umc_ p f (.ref e e.dflt)).isSome with
         | false=>rw [hd] at hr; cases hr
         | true =>
           rw [hd] at hr
           have hr:=Option.some.inj hr
           subst hr
           obtain ⟨z,hz,rfl⟩:=hu.may_inv
           have hz:y=some z:=hz
           subst hz
           obtain ⟨s,hs⟩:=Option.isSome_iff_exists.1 ((ub2b_ (z':=z))▸hd:(umc_ p f (.ref e z)).isSome=true)
           obtain ⟨c,hc,ad,h2,h3,cc,h4,h5⟩:=hx
           have hv:a.eval x=.pointer (some ad):=List.singleton_inj.1 ((show c=[a.eval x] from hc).symm.trans h2)
           obtain ⟨z',q2,q3⟩:=ubs5_ (hE.ty _ _ hty) hf hs (w:=w) (G:=G) (v:=a.eval x) ⟨_,rfl,ad,cc,by rw [hv],h3,h4,h5⟩
           exact Done.calm hm ⟨rfl,z',by simp [execOp,hop,q2],by rw [hs]; exact q3⟩
       · cases hl:umc_ p f (ρ x) with
         | none=>rw [hl] at hr; cases hr
         | some s =>
           rw [hl] at hr
           have hr:=Option.some.inj hr
           subst hr; rw [hu.v_inv]
           obtain ⟨z,h2,h3⟩:=ubs5_ (hE.ty _ _ hty) hf hl hx
           exact Done.calm hm ⟨rfl,z,by simp [execOp,hop,h2],h3⟩
   · cases hr
 | field t x f =>
   rw [hop] at hr
   simp only at hr
   split at hr
   · rename_i p hty
     cases hf:Nat.blt f p.fields with
     | false=>rw [hf] at hr; cases hr
     | true =>
       rw [hf] at hr
       rw [Nat.blt_eq] at hf
       obtain ⟨h1,z,h2,h3⟩:=ucb3_ (hE.ty _ _ hty) hf hr hu (hρ (by simp [hop]) x (by simp [hop,Op.operands]))
       exact Done.calm hm ⟨h1,z,by simp [execOp,hop,h2],h3⟩
   · cases hr
 | indexAddr t x i =>
   rw [hop] at hr
   simp only at hr
   split at hr
   · rename_i ty kd n hty hi
     have hiv:=hρ (by simp [hop]) i (by simp [hop,Op.operands])
     rw [hi] at hiv
     obtain ⟨e,_⟩:=hiv.int
     obtain ⟨h1,z,h2,h3⟩:=ub4j_ (k:=kd) (hE.ty _ _ hty) ho hr hu (hρ (by simp [hop]) x (by simp [hop,Op.operands]))
     exact Done.calm hm ⟨h1,z,by simp [execOp,hop,e,h2],h3⟩
   · cases hr
 | index t x i =>
   rw [hop] at hr
   simp only at hr
   split at hr
   · rename_i ty kd n hty hi
     have hiv:=hρ (by simp [hop]) i (by simp [hop,Op.operands])
     rw [hi] at hiv
     obtain ⟨e,_⟩:=hiv.int
     obtain ⟨h1,z,h2,h3⟩:=ucb1_ (k:=kd) (hE.ty _ _ hty) hr hu (hρ (by simp [hop]) x (by simp [hop,Op.operands]))
     exact Done.calm hm ⟨h1,z,by simp [execOp,hop,e,h2],h3⟩
   · cases hr
 | slice t x lo hi mx =>
   rw [hop] at hr
   cases mx with
   | some _=>cases hr
   | none =>
     simp only at hr
     split at hr
     · rename_i ty hty
       have hopt:∀ b:Option Operand,(∀ y,b=some y→y∈o.op.operands)→OptSR P w G (b.map ρ) (b.map a.eval):=by
        intro b hb
        cases b with
        | none=>exact trivial
        | some y=>exact hρ (by simp [hop]) y (hb y rfl)
       obtain ⟨h1,z,h2,h3⟩:=ucai_ (hE.ty _ _ hty) ho hr hu (hρ (by simp [hop]) x (by simp [hop,Op.operands])) (hopt lo (fun y hy=>by simp [hop,Op.operands,hy])) (hopt hi (fun y hy=>by simp [hop,Op.operands,hy]))
       exact Done.calm hm ⟨h1,z,by simp [execOp,hop,h2],h3⟩
     · cases hr
 | makeInterface t x =>
   rw [hop] at hr
   simp only at hr
   split at hr
   · rename_i ta tu hta htu
     cases hi:ta.isIface with
     | true=>rw [hi] at hr; cases hr
     | false =>
       rw [hi] at hr
       simp only [cond_false] at hr
       split at hr
       · rename_i y hy
         cases hj:ub2a_ t ta y tu with
         | none=>rw [hj] at hr; cases hr
         | some z =>
           rw [hj] at hr
           have hr:=Option.some.inj hr
           subst hr; rw [hu.v_inv]
           have hv:=ubs3_ ho hy (hρ (by simp [hop]) x (by simp [hop,Op.operands]))
           obtain ⟨v,h2,h3⟩:=ub0b_ (P:=P) (w:=w) (G:=G) (hE.ty _ _ hta) hi hv hj
           exact Done.calm hm ⟨rfl,v,by simp [execOp,hop,h2],h3⟩
       · cases hr
   · cases hr
 | makeSlice t l c =>
   rw [hop] at hr
   simp only at hr
   split at hr
   · rename_i e x y hty hl hc
     have hr:=Option.some.inj hr
     subst hr
     obtain ⟨zs,hz,rfl⟩:=hu.may_inv
     have hlv:=hρ (by simp [hop]) l (by simp [hop,Op.operands])
     have hcv:=hρ (by simp [hop]) c (by simp [hop,Op.operands])
     rw [hl] at hlv
     rw [hc] at hcv
     obtain ⟨e1,_⟩:=hlv.int
     obtain ⟨e2,e3⟩:=hcv.int
     obtain ⟨z,w',h1,h2⟩:=ub72_ (wr:=(match o.dst with | some d=>E.wr d | none=>false)) (hE.ty _ _ hty) hm hself e3 hz (fun x hx=>hE.el _ _ hx)
     exact Done.makes ⟨z,w',by simp [execOp,hop,e1,e2,h1],h2⟩
   · cases hr
 | makeMap t h =>
   rw [hop] at hr
   simp only at hr
   split at hr
   · rename_i k v hty
     have hcond:∃ b,∃ wf:Bool,(bif b then (bif wf then ucgd_ (E.el t) self k v else some (OpRes.pure ⟨.obj self 0,[(self,some (.mp k v [] true))]⟩)) else none)=some r∧(b=true→∀ x,h.map a.eval=some x→∃ kd n,x=.int kd n):=by
      refine ⟨_,_,hr,fun hb x hx=>?_⟩
      cases h with
      | none=>cases hx
      | some y =>
        have hy:=hρ (by simp [hop]) y (by simp [hop,Op.operands])
        have hx:a.eval y=x:=Option.some.inj hx
        simp only at hb
        split at hb
        · rename_i kd n he
          rw [he] at hy
          exact ⟨kd,n,by rw [← hx]; exact hy.int.1⟩
        · cases hb
     obtain ⟨b,wf,h1,h2⟩:=hcond
     cases b with
     | false=>cases h1
     | true =>
       cases wf with
       | true =>
         simp only [cond_true] at h1
         cases v <;> first | (cases h1; done) | skip
         rename_i e hty
         have h1:=Option.some.inj h1
         subst h1; rw [hu.pure_inv]
         obtain ⟨z,w',h3,h4⟩:=ucar_ (el:=E.el t) (hE.ty _ _ hty) hm hself (hfree _ (by omega) (by omega)) (h2 rfl)
         exact Done.makes ⟨z,w',by simp [execOp,hop,h3],h4⟩
       | false =>
       have h1:=Option.some.inj h1
       subst h1; rw [hu.pure_inv]
       obtain ⟨z,w',h3,h4⟩:=ucca_ (hE.ty _ _ hty) hm hself (h2 rfl)
       exact Done.makes ⟨z,w',by simp [execOp,hop,h3],h4⟩
   · cases hr
 | build t ps =>
   rw [hop] at hr
   simp only at hr
   split at hr
   · rename_i ty hty
     have hex:∃ wf:Bool,(bif wf then ubzz_ σ' ty (ps.toList.map fun p=>(p.1,ρ p.2)) else ub9c_ σ' ty (ps.toList.map fun p=>(p.1,ρ p.2)))=some r:=⟨_,hr⟩
     clear hr
     obtain ⟨wf,hr⟩:=hex
     cases wf with
     | true =>
       obtain ⟨h1,z,h2,h3⟩:=ucen_ (hE.ty _ _ hty) hm hσ hr hu (vs:=ps.map fun p=>(p.1,a.eval p.2)) (by simp) (ub8b_ fun p hp=>hρ (by simp [hop]) p.2 (by simp [hop,Op.operands]; exact ⟨p.1,by simpa using hp⟩))
       exact Done.calm hm ⟨h1,z,by simp [execOp,hop,h2],h3⟩
     | false =>
       obtain ⟨h1,z,h2,h3⟩:=uchk_ (hE.ty _ _ hty) hm hσ hr hu (vs:=ps.map fun p=>(p.1,a.eval p.2)) (by simp) (ub8b_ fun p hp=>hρ (by simp [hop]) p.2 (by simp [hop,Op.operands]; exact ⟨p.1,by simpa using hp⟩))
       exact Done.calm hm ⟨h1,z,by simp [execOp,hop,h2],h3⟩
   · cases hr
 | buildSlice t len ps =>
   rw [hop] at hr
   simp only at hr
   split at hr
   · rename_i e hty
     split at hr
     · rename_i xs hx
       have hr:=Option.some.inj hr
       subst hr; rw [hu.pure_inv]
       cases hz:Nat.beq len 0 with
       | true =>
         rw [hz] at hx
         have e0:=Nat.eq_of_beq_eq_true hz
         subst e0
         simp only [cond_true] at hx
         split at hx
         · rename_i hps
           cases hx
           have eps:ps = #[]:=by simpa using hps
           subst eps
           obtain ⟨z,w',h2,h3⟩:=ub6g_ (wr:=(match o.dst with | some d=>E.wr d | none=>false)) (hE.ty _ _ hty) hm hself (fun x hx=>hE.el _ _ hx)
           exact Done.makes ⟨z,w',by simp [execOp,hop,h2],h3⟩
         · cases hx
       | false =>
       have hx:(bif Nat.blt 0 len&&Nat.ble (len*e.sz) 16777216 then ubj9_ σ' e (ps.toList.map fun p=>(p.1,ρ p.2)) (List.replicate len e.dflt) else none)=some xs:=by
        rw [hz] at hx
        have hpos:Nat.blt 0 len=true:=by
         rw [Nat.blt_eq]
         apply Nat.pos_of_ne_zero
         intro e0
         rw [e0] at hz; cases hz
        rw [hpos]
        exact hx
       obtain ⟨z,w',h2,h3⟩:=ub6f_ (wr:=(match o.dst with | some d=>E.wr d | none=>false)) (hE.ty _ _ hty) hm hσ hself hx (vs:=ps.map fun p=>(p.1,a.eval p.2)) (by simp) (fun x hx=>hE.el _ _ hx) (ub8b_ fun p hp=>hρ (by simp [hop]) p.2 (by simp [hop,Op.operands]; exact ⟨p.1,by simpa using hp⟩))
       exact Done.makes ⟨z,w',by simp [execOp,hop,h2],h3⟩
     · cases hr
   · cases hr
 | binOp op t x y z =>
   rw [hop] at hr
   simp only at hr
   split at hr
   · rename_i r0 hr0
     have hr:=Option.some.inj hr
     subst hr
     obtain ⟨e1,v,e2,e3⟩:=ucei_ (P:=P) (w:=w) (G:=G) hr0 hu (hρ (by simp [hop]) x (by simp [hop,Op.operands])) (hρ (by simp [hop]) y (by simp [hop,Op.operands])) (fun q hq=>hE.ty _ _ hq) x y
     exact Done.calm hm ⟨e1,v,by simp only [execOp,hop,Sem.run_bind] at e2 ⊢; rw [e2]; rfl,e3⟩
   split at hr
   · rename_i r0 hr0
     have hr:=Option.some.inj hr
     subst hr
     unfold ucgc_ at hr0
     split at hr0
     · rename_i ty hty
       cases hok:(E.eq t&&ucit_ ty) with
       | false=>rw [hok] at hr0; cases hr0
       | true =>
         rw [hok] at hr0
         simp only [cond_true] at hr0
         simp only [Bool.and_eq_true] at hok
         split at hr0
         · rename_i xu xv hxu hxv
           split at hr0
           · rename_i bb hbb
             have ha:∃ p,ty=.agg p:=by
              cases ty <;> first | exact ⟨_,rfl⟩ | cases hok.2
             have h1:=as_ok hxu (hρ (by simp [hop]) x (by simp [hop,Op.operands]))
             have h2:=as_ok hxv (hρ (by simp [hop]) y (by simp [hop,Op.operands]))
             obtain ⟨q1,q2⟩:=uchg_ (op:=op) (ox:=x) (oy:=y) (hE.ty _ _ hty) ha (hE.eq _ _ hok.1 hty) h1 h2 hbb
             cases op <;> simp only [nilR,Option.some.injEq] at hr0 <;> first | (cases hr0; done) | skip
             · subst hr0; rw [hu.v_inv]
               have e2:=q1 rfl
               exact Done.calm hm ⟨rfl,.bool bb,by simp only [execOp,hop,Sem.run_bind] at e2 ⊢; rw [e2]; rfl,SR.mk_bool _⟩
             · subst hr0; rw [hu.v_inv]
               have e2:=q2 rfl
               exact Done.calm hm ⟨rfl,.bool (!bb),by simp only [execOp,hop,Sem.run_bind] at e2 ⊢; rw [e2]; rfl,SR.mk_bool _⟩
           · cases hr0
         · cases hr0
     · cases hr0
   have hcond:∃ b,(bif b then opBin op (ρ x) (ρ y) else none)=some r∧(b=true→∀ c,ρ x=.val .bool c→P.underlying t=some .bool):=by
    refine ⟨_,hr,fun hb c hc=>?_⟩
    rw [hc] at hb
    simp only at hb
    split at hb
    · rename_i ht; exact (hE.ty _ _ ht).bool
    · cases hb
   obtain ⟨b,h1,h2⟩:=hcond
   cases b with
   | false=>cases h1
   | true =>
     obtain ⟨e1,v,e2,e3⟩:=uche_ (P:=P) (w:=w) (G:=G) h1 hu (hρ (by simp [hop]) x (by simp [hop,Op.operands])) (hρ (by simp [hop]) y (by simp [hop,Op.operands])) t x y (h2 rfl)
     exact Done.calm hm ⟨e1,v,by simp only [execOp,hop,Sem.run_bind] at e2 ⊢; rw [e2]; rfl,e3⟩
 | makeFunc fn first caps =>
   rw [hop] at hr
   cases fn with
   | func f =>
     simp only at hr
     split at hr
     · rename_i hfirst
       have hf0:first = #[]:=by simpa using hfirst
       subst hf0
       have hex:∃ wf:Bool,(bif wf then (match E.ty o.type with
        | some (.fnc d c)=>(hofOf false E.fs σ' d c (.fn f (SV.ofList (caps.toList.map ρ)))).map fun F=>OpRes.v (.val (.fnc d c) (some F:Option (d.T→Option c.T)))
        | _=>none) else some (.v (.fn f (SV.ofList (caps.toList.map ρ)))))=some r:=⟨_,hr⟩
       clear hr
       obtain ⟨wf,hr⟩:=hex
       have hcr:CR P w G (.fn f (SV.ofList (caps.toList.map ρ))) [.func (.func f) #[] (caps.map a.eval)]:=by
        refine ⟨caps.map a.eval,rfl,?_⟩
        refine uccd_ (by simp) fun j s v h1 h2=>?_
        rw [List.getElem?_map] at h1
        rw [Array.toList_map,List.getElem?_map] at h2
        cases hp:caps.toList[j]? with
        | none=>rw [hp] at h1; cases h1
        | some p =>
          rw [hp] at h1 h2
          cases h1
          cases h2
          have hmem:=List.mem_of_getElem? hp
          exact hρ (by simp [hop]) p (by simp [hop,Op.operands]; simpa using hmem)
       cases wf with
       | true =>
         simp only [cond_true] at hr
         split at hr
         · rename_i d c hty
           cases hh:hofOf false E.fs σ' d c (.fn f (SV.ofList (caps.toList.map ρ))) with
           | none=>rw [hh] at hr; cases hr
           | some F =>
             rw [hh] at hr
             have hr:=Option.some.inj hr
             subst hr; rw [hu.v_inv]
             obtain ⟨f',vs',e1,e2⟩:=ub77_ (D:=False) (fun k o h=>hm.objs k o (hσ k o h)) hE.fs (fun h=>h.elim) hh hcr
             injection e1 with e1 _
             refine Done.calm hm ⟨rfl,.func (.func f) #[] (caps.map a.eval),by simp [execOp,hop,Instr.makeFunc],_,rfl,?_⟩
             rw [e1]
             exact HofD.fnc (by rw [hE.pin]; exact e2)
         · cases hr
       | false =>
       have hr:=Option.some.inj hr
       subst hr; rw [hu.v_inv]
       refine Done.calm hm ⟨rfl,.func (.func f) #[] (caps.map a.eval),by simp [execOp,hop,Instr.makeFunc],_,rfl,caps.map a.eval,rfl,?_⟩
       refine uccd_ (by simp) fun j s v h1 h2=>?_
       rw [List.getElem?_map] at h1
       rw [Array.toList_map,List.getElem?_map] at h2
       cases hp:caps.toList[j]? with
       | none=>rw [hp] at h1; cases h1
       | some p =>
         rw [hp] at h1 h2
         cases h1
         cases h2
         have hmem:=List.mem_of_getElem? hp
         exact hρ (by simp [hop]) p (by simp [hop,Op.operands]; simpa using hmem)
     · cases hr
   | _=>cases hr
 | nilCheck x =>
   rw [hop] at hr
   have hx:=hρ (by simp [hop]) x (by simp [hop,Op.operands])
   have fin:∀ {s:SV} {ad:Addr},a.eval x=.pointer (some ad)→SR P w G s (.pointer (some ad))→u=⟨s,[]⟩→Done P fr.dr o a w (Res P fr free self σ w G u):=by
    intro s ad h1 h2 h3
    subst h3
    exact Done.calm hm ⟨rfl,_,by simp only [execOp,hop,h1]; rfl,h2⟩
   have finF:∀ {s:SV} {f:Nat} {vs:Array Value},a.eval x=.func (.func f) #[] vs→SR P w G s (.func (.func f) #[] vs)→u=⟨s,[]⟩→Done P fr.dr o a w (Res P fr free self σ w G u):=by
    intro s f vs h1 h2 h3
    subst h3
    exact Done.calm hm ⟨rfl,_,by simp only [execOp,hop,h1]; rfl,h2⟩
   simp only at hr
   split at hr
   · rename_i k p q he
     have hr:=Option.some.inj hr
     subst hr
     rw [he] at hx
     obtain ⟨b,t,oo,_,_,_,hv⟩:=ubke_ hx
     exact fin hv (hv▸hx) hu.v_inv
   · rename_i k p i q uu he
     have hr:=Option.some.inj hr
     subst hr
     rw [he] at hx
     obtain ⟨b,t,oo,n,e,o',_,_,_,_,_,_,hv⟩:=ub4g_ hx
     exact fin hv (hv▸hx) hu.v_inv
   · rename_i k g i q uu he
     have hr:=Option.some.inj hr
     subst hr
     rw [he] at hx
     obtain ⟨b,len,cap,e,o',_,_,_,_,_,hv⟩:=ub4h_ hx
     exact fin hv (hv▸hx) hu.v_inv
   · rename_i t y he
     have hr:=Option.some.inj hr
     subst hr
     rw [he] at hx
     obtain ⟨ad,c,hv,_⟩:=ubz6_ hx
     exact fin hv (hv▸hx) hu.v_inv
   · rename_i e y he
     have hr:=Option.some.inj hr
     subst hr
     rw [he] at hx
     obtain ⟨z,hz,rfl⟩:=hu.may_inv
     have hz:y=some z:=hz
     subst hz
     obtain ⟨c,hc,ad,h2,h3,cc,h4,h5⟩:=hx
     have hv:a.eval x=.pointer (some ad):=List.singleton_inj.1 ((show c=[a.eval x] from hc).symm.trans h2)
     exact fin (s:=.ref e z) hv ⟨_,rfl,ad,cc,rfl,h3,h4,h5⟩ rfl
   · rename_i f cc he
     have hr:=Option.some.inj hr
     subst hr
     rw [he] at hx
     obtain ⟨c,hc,vs,h1,h2⟩:=hx
     have hv:a.eval x=.func (.func f) #[] vs:=List.singleton_inj.1 ((show c=[a.eval x] from hc).symm.trans h1)
     exact finF (s:=.fn f cc) hv ⟨_,rfl,vs,rfl,h2⟩ hu.v_inv
   · rename_i nd d c F he
     have hr:=Option.some.inj hr
     subst hr
     rw [he] at hx
     obtain ⟨cc,hc,f,vs,h1,h2⟩:=hx
     have hv:a.eval x=.func (.func f) #[] vs:=List.singleton_inj.1 ((show cc=[a.eval x] from hc).symm.trans h1)
     exact finF (s:=.hof nd d c F) hv ⟨_,rfl,f,vs,rfl,h2⟩ hu.v_inv
   · rename_i d c y he
     have hr:=Option.some.inj hr
     subst hr
     rw [he] at hx
     obtain ⟨F,hF,rfl⟩:=hu.may_inv
     have hF:y=some F:=hF
     subst hF
     obtain ⟨cc,hc,h2⟩:=hx
     obtain ⟨f,vs,h3,h4⟩:=ucge_ h2
     have hv:a.eval x=.func (.func f) #[] vs:=List.singleton_inj.1 ((show cc=[a.eval x] from hc).symm.trans h3)
     exact finF (s:=.hof false d c F) hv ⟨_,rfl,f,vs,rfl,by rw [← hE.pin]; exact ⟨h4.1,fun w' I' he hm x l hx y hy=>(h4.2 w' I' he hm x l hx y hy).mono fun _ _ ⟨rv,I'',q1,q2,q3,_⟩=>⟨rv,I'',q1,q2,q3,fun h=>by cases h⟩⟩⟩ rfl
   · cases hr
 | convert st t x =>
   rw [hop] at hr
   simp only at hr
   have hx:=hρ (by simp [hop]) x (by simp [hop,Op.operands])
   split at hr
   · rename_i sy ty hst hty
     have hls:=hE.ty _ _ hst
     have hsrc:∃ d,P.underlying st=some d:=let ⟨d,hd,_⟩:=hls.isAgg; ⟨d,hd⟩
     have hlt:=hE.ty _ _ hty
     have hex:∃ wf:Bool,(bif wf then ubz2_ self (E.el t) ty (ρ x) else ub4b_ σ' sy ty (ρ x))=some r:=⟨_,hr⟩
     clear hr
     obtain ⟨wf,hr⟩:=hex
     cases wf with
     | true =>
       simp only [cond_true] at hr
       unfold ubz2_ at hr
       split at hr
       · rename_i s he
         have hr:=Option.some.inj hr
         subst hr; rw [hu.pure_inv]
         rw [he] at hx
         obtain ⟨z,w',h1,h2⟩:=ub74_ (wr:=true) hlt (fun x hx=>hE.el _ _ hx) hsrc hm hself hx
         exact Done.makes ⟨z,w',by simp [execOp,hop,h1],h2⟩
       · cases hr
     | false =>
     simp only [cond_false] at hr
     unfold ub4b_ at hr
     split at hr
     · split at hr
       · rename_i s he
         have hr:=Option.some.inj hr
         subst hr; rw [hu.v_inv]
         rw [he] at hx
         obtain ⟨z,w',h1,h2⟩:=ub6h_ hlt hsrc hm hx
         exact Done.makes ⟨z,w',by simp [execOp,hop,h1],h2⟩
       · cases hr
     · split at hr
       · rename_i s he
         rw [he] at hx
         obtain ⟨h1,z,h2,h3⟩:=ub9l_ (t:=.str) hlt hsrc (s:=.val .str s) rfl (show Gives (.v (.val .str s)) u from by have:=Option.some.inj hr; rw [this]; exact hu) hx
         exact Done.calm hm ⟨h1,z,by simp [execOp,hop,h2],h3⟩
       · cases hs:sy.same (.slice (.int .u8)) with
         | false=>rw [hs] at hr; cases hr
         | true =>
           rw [hs] at hr
           have es:=Ty.same_eq hs
           subst es
           simp only [cond_true] at hr
           split at hr
           · rename_i xs hxs
             have hr:=Option.some.inj hr
             subst hr
             obtain ⟨s,hs',rfl⟩:=hu.may_inv
             obtain ⟨z,h2,h3⟩:=ub4p_ (G:=G) hlt hls (ubs3_ ho hxs hx) hs'
             exact Done.calm hm ⟨rfl,z,by simp [execOp,hop,h2],h3⟩
           · cases hr
     · obtain ⟨h1,z,h2,h3⟩:=ub9l_ hlt hsrc hr hu hx
       exact Done.calm hm ⟨h1,z,by simp [execOp,hop,h2],h3⟩
   · cases hr
 | typeAssert x xt t ok =>
   rw [hop] at hr
   cases ok with
   | false=>cases hr
   | true =>
     simp only at hr
     have hx:=hρ (by simp [hop]) x (by simp [hop,Op.operands])
     split at hr
     · rename_i ty uu y hty he
       rw [he] at hx
       cases hi:ty.isIface with
       | true=>rw [hi] at hr; cases hr
       | false =>
         rw [hi] at hr
         simp only [cond_false] at hr
         split at hr
         · rename_i f hf
           have hr:=Option.some.inj hr
           subst hr; rw [hu.v_inv]
           obtain ⟨z,h2,h3⟩:=ub6r_ (P:=P) (w:=w) (G:=G) (xt:=xt) (hE.ty _ _ hty) hi hf hx
           exact Done.calm hm ⟨rfl,z,by simp [execOp,hop,h2],h3⟩
         · cases hr
     · cases hr
 | call c =>
   obtain ⟨cal,as,ts⟩:=c
   rw [hop] at hr
   cases cal with
   | invoke ro m =>
     simp only at hr
     have h1:=hρ (by simp [hop]) ro (by simp [hop,Op.operands,Call.operands])
     split at hr
     · rename_i c has hty
       exact ucaq_ hE.fs hE.drs hE.mt hm hop has h1 hr hu
     · cases hr
   | value fo =>
     have h1:=hρ (by simp [hop]) fo (by simp [hop,Op.operands,Call.operands])
     exact uccr_ hE.pin hE.fs hE.drs hE.drE hm hσ hfree hop h1 (by simp) (fun j s x hj hx=>by
      rw [List.getElem?_map,hx] at hj
      cases hj
      have hmem:=List.mem_of_getElem? hx
      exact hρ (by simp [hop]) x (by simp [hop,Op.operands,Call.operands]; right; simpa using hmem)) hr hu
   | builtin b =>
     have hargs:∀ x∈as.toList,SR P w G (ρ x) (a.eval x):=fun x hx=>hρ (by simp [hop]) x (by simp [hop,Op.operands,Call.operands]; simpa using hx)
     cases b <;> first | (cases hr; done) | skip
     case append =>
      rcases has:as.toList with _ | ⟨s,_ | ⟨x,_ | ⟨y,rr⟩⟩⟩ <;> simp only [has] at hr <;> first | (cases hr; done) | skip
      rcases hts:ts.toList with _ | ⟨t,_ | ⟨t',_ | ⟨t'',rr⟩⟩⟩ <;> simp only [hts] at hr <;> first | (cases hr; done) | skip
      cases htt:Nat.beq t t' with
      | false =>
        rw [htt] at hr
        simp only [cond_false] at hr
        split at hr
        · rename_i ty ty' hty hty'
          have eas:as = #[s,x]:=by apply Array.ext'; simpa using has
          have ets:ts = #[t,t']:=by apply Array.ext'; simpa using hts
          subst eas ets
          obtain ⟨z,w',h1,h2⟩:=ub8c_ (ty:=o.type) (wf:=(match o.dst with | some d=>E.wr d | none=>false)) (hE.ty _ _ hty) (hE.ty _ _ hty') (fun x hx=>hE.el _ _ hx) hm hσ hself hr hu (hargs s (by simp)) (hargs x (by simp))
          exact Done.makes ⟨z,w',by simp [execOp,hop,resolve,invoke,builtin,h1],h2⟩
        · cases hr
      | true =>
        rw [htt] at hr
        have:=Nat.eq_of_beq_eq_true htt
        subst this
        simp only [cond_true] at hr
        split at hr
        · rename_i ty hty
          have eas:as = #[s,x]:=by apply Array.ext'; simpa using has
          have ets:ts = #[t,t]:=by apply Array.ext'; simpa using hts
          subst eas ets
          obtain ⟨z,w',h1,h2⟩:=ucas_ (ty:=o.type) (wf:=(match o.dst with | some d=>E.wr d | none=>false)) (hE.ty _ _ hty) (fun x hx=>hE.el _ _ hx) hm hσ hself hr hu (hargs s (by simp)) (hargs x (by simp))
          exact Done.makes ⟨z,w',by simp [execOp,hop,resolve,invoke,builtin,h1],h2⟩
        · cases hr
     case len =>
      rcases has:as.toList with _ | ⟨x,_ | ⟨y,rr⟩⟩ <;> simp only [has] at hr <;> first | (cases hr; done) | skip
      rcases hts:ts.toList with _ | ⟨t,_ | ⟨t',rr⟩⟩ <;> simp only [hts] at hr <;> first | (cases hr; done) | skip
      split at hr
      · rename_i ty hty
        have eas:as = #[x]:=by apply Array.ext'; simpa using has
        have ets:ts = #[t]:=by apply Array.ext'; simpa using hts
        subst eas ets
        obtain ⟨h1,z,h2,h3⟩:=uchf_ (hE.ty _ _ hty) ho hr hu (hargs x (by simp)) #[t] rfl o.type
        exact Done.calm hm ⟨h1,z,by simp [execOp,hop,resolve,invoke,builtin,h2],h3⟩
      · cases hr
     case max =>
      rcases has:as.toList with _ | ⟨x,_ | ⟨y,_ | ⟨yy,rr⟩⟩⟩ <;> simp only [has] at hr <;> first | (cases hr; done) | skip
      · have eas:as = #[x,y]:=by apply Array.ext'; simpa using has
        subst eas
        split at hr
        · rename_i k m l n hx hy
          have h1:=hargs x (by simp)
          have h2:=hargs y (by simp)
          rw [hx] at h1
          rw [hy] at h2
          obtain ⟨e1,e2⟩:=h1.int
          obtain ⟨e3,e4⟩:=h2.int
          cases hk:u6o_ k l with
          | false=>rw [hk] at hr; cases hr
          | true =>
            rw [hk] at hr
            have:=u6m_ hk
            subst this
            have hr:=Option.some.inj hr
            subst hr; rw [hu.v_inv]
            obtain ⟨z,h5,h6⟩:=uci6_ (P:=P) (w:=w) (G:=G) ts o.type e2 e4
            exact Done.calm hm ⟨rfl,z,by simp [execOp,hop,resolve,invoke,builtin,e1,e3,h5],h6⟩
        · cases hr
     case min =>
      rcases has:as.toList with _ | ⟨x,_ | ⟨y,_ | ⟨yy,rr⟩⟩⟩ <;> simp only [has] at hr <;> first | (cases hr; done) | skip
      · have eas:as = #[x,y]:=by apply Array.ext'; simpa using has
        subst eas
        split at hr
        · rename_i k m l n hx hy
          have h1:=hargs x (by simp)
          have h2:=hargs y (by simp)
          rw [hx] at h1
          rw [hy] at h2
          obtain ⟨e1,e2⟩:=h1.int
          obtain ⟨e3,e4⟩:=h2.int
          cases hk:u6o_ k l with
          | false=>rw [hk] at hr; cases hr
          | true =>
            rw [hk] at hr
            have:=u6m_ hk
            subst this
            have hr:=Option.some.inj hr
            subst hr; rw [hu.v_inv]
            obtain ⟨z,h5,h6⟩:=uci5_ (P:=P) (w:=w) (G:=G) ts o.type e2 e4
            exact Done.calm hm ⟨rfl,z,by simp [execOp,hop,resolve,invoke,builtin,e1,e3,h5],h6⟩
        · cases hr
 | _=>cases hop▸hr
end
end Go.Ev
namespace Go.Ev
variable [Pins]
section
variable {P:Program} {fr:Fr} {free free':Nat→Prop} {self:Nat} {σ σ':Nat→Option Obj} {w w':World} {G G':Gh} {I:Im}
theorem MemS.swap (hm:MemS P fr free σ w G) {k:Nat} {o o':Obj} (hk:σ k=some o) (ho:ObjOK P fr w G k o') (hb:∀ b,Bk G k o' b→Bk G k o b) :
 MemS P fr free (ub7_ σ [(k,some o')]) w G:=by
 refine ⟨fun j p h=>?_,fun i j o1 o2 b' hi hj hbi hbj=>?_,hm.after,fun j hj=>?_⟩
 · rw [ucv_] at h
   by_cases e:j=k
   · rw [if_pos e] at h; cases h; subst e; exact ho
   · rw [if_neg e] at h; exact hm.objs j p h
 · rw [ucv_] at hi hj
   by_cases e1:i=k <;> by_cases e2:j=k
   · rw [e1,e2]
   · rw [if_pos e1] at hi; rw [if_neg e2] at hj
     cases hi; subst e1
     exact hm.sep i j o o2 b' hk hj (hb _ hbi) hbj
   · rw [if_neg e1] at hi; rw [if_pos e2] at hj
     cases hj; subst e2
     exact hm.sep i j o1 o b' hi hk hbi (hb _ hbj)
   · rw [if_neg e1] at hi; rw [if_neg e2] at hj
     exact hm.sep i j o1 o2 b' hi hj hbi hbj
 · have hf:=hm.fresh j hj
   refine ⟨?_,hf.2⟩
   rw [ucv_,if_neg (fun e=>?_)]
   · exact hf.1
   · subst e; rw [hf.1] at hk; cases hk
theorem ucjc_ (hm:MemS P fr free σ w G) {k:Nat} {o:Obj} (hk:σ k=some o):∃ G',GLe w G w G'∧MemS P fr free (ub7_ σ [(k,some (u8q_ o))]) w G':=by
 have hsame:∀ {o':Obj},σ k=some o'→∃ G',GLe w G w G'∧MemS P fr free (ub7_ σ [(k,some o')]) w G':=fun {o'} h =>
  ⟨G,GLe.refl _ _,hm.swap h (hm.objs k o' h) fun _ h=>h⟩
 have hfresh:∀ j,free j→j≠k∧free j∧G.ety j=none∧G.box j=none∧∀ g,G.val j g=none:=by
  intro j hj
  have hf:=hm.fresh j hj
  exact ⟨fun e=>(by subst e; rw [hf.1] at hk; cases hk),hj,hf.2⟩
 cases o with
 | box t c wr =>
   cases wr with
   | false=>exact hsame hk
   | true =>
     obtain ⟨b,cs,el,q1,q2,q3,q4,q5,q6,q7,q8⟩:=hm.objs k _ hk
     let G':Gh:={ G with im:=⟨fun b' off=>G.im.cell b' off∨(b'=b∧off<t.sz),G.im.obj⟩ }
     have hle:GLe w G w G':=⟨⟨fun _ _ h=>⟨.inl h,rfl⟩,fun _ h=>⟨h,rfl⟩⟩,fun _ _ _ h=>h,fun _ _ h=>h,fun _ _ h=>h⟩
     refine ⟨G',hle,hm.change (b:=b) hle (fun j o' hj ho' hb=>hj (hm.sep j k o' _ b ho' hk hb (by simp [Bk,q1]))) (fun _ _ _=>rfl) (Nat.le_refl _) (u15_ q2) q8.1
      (fun b' off h=>h.imp id fun h=>h.1) (fun _ h=>.inl h) rfl rfl rfl (fun o' ho'=>?_) hfresh⟩
     cases ho'
     exact ⟨⟨b,cs,el,q1,q2,q3,q4,q5.mono hle,⟨(fun h=>by cases h),fun _ off h=>.inr ⟨rfl,h⟩⟩,q7,q8⟩,by intro b' hb'; simp [Bk,u8q_,G',q1] at hb'; exact .inl hb'.symm⟩
 | sl el t xs g wr =>
   cases wr with
   | false=>exact hsame hk
   | true =>
     obtain ⟨h0,v,h1,h2⟩:=hm.objs k _ hk
     rcases h2 with ⟨rfl,rfl⟩ | ⟨b,cap,cs,rfl,q1,q2,q3,q4,q5,q6,q7,q8⟩
     · exact ⟨G,GLe.refl _ _,hm.swap hk ⟨h0,_,h1,.inl ⟨rfl,rfl⟩⟩ fun b hb=>by simp [u8q_,Bk,h1] at hb⟩
     · let G':Gh:={ G with im:=⟨fun b' off=>G.im.cell b' off∨(b'=b∧off<xs.length*t.sz),G.im.obj⟩ }
       have hle:GLe w G w G':=⟨⟨fun _ _ h=>⟨.inl h,rfl⟩,fun _ h=>⟨h,rfl⟩⟩,fun _ _ _ h=>h,fun _ _ h=>h,fun _ _ h=>h⟩
       refine ⟨G',hle,hm.change (b:=b) hle (fun j o' hj ho' hb=>hj (hm.sep j k o' _ b ho' hk hb (by simp [Bk,h1]))) (fun _ _ _=>rfl) (Nat.le_refl _) (q2.lt) q5
        (fun b' off h=>h.imp id fun h=>h.1) (fun _ h=>.inl h) rfl rfl rfl (fun o' ho'=>?_) hfresh⟩
       cases ho'
       refine ⟨⟨h0,_,h1,.inr ⟨b,cap,cs,rfl,q1,q2,q3,fun i x hx=>(q4 i x hx).ext hle.ext,q5,(fun h=>by cases h),fun _ off=>⟨fun h=>.inr ⟨rfl,h⟩,fun h=>?_⟩,q8⟩⟩,by intro b' hb'; simp [Bk,u8q_,G',h1] at hb'; exact .inl hb'.symm⟩
       rcases h with h | h
       · exact absurd h (q6 rfl off)
       · exact h.2
 | mp a c es wr =>
   cases wr with
   | false=>exact hsame hk
   | true =>
     obtain ⟨v,h1,b,ents,clock,rfl,q1,q2,q3,q4,q5,q6⟩:=hm.objs k _ hk
     let G':Gh:={ G with im:=⟨G.im.cell,fun b'=>G.im.obj b'∨b'=b⟩ }
     have hle:GLe w G w G':=⟨⟨fun _ _ h=>⟨h,rfl⟩,fun _ h=>⟨.inl h,rfl⟩⟩,fun _ _ _ h=>h,fun _ _ h=>h,fun _ _ h=>h⟩
     refine ⟨G',hle,hm.change (b:=b) hle (fun j o' hj ho' hb=>hj (hm.sep j k o' _ b ho' hk hb (by simp [Bk,h1]))) (fun _ _ _=>rfl) (Nat.le_refl _) (u15_ q1) q6
      (fun b' off h=>.inl h) (fun b' h=>h) rfl rfl rfl (fun o' ho'=>?_) hfresh⟩
     cases ho'
     exact ⟨⟨_,h1,b,ents,clock,rfl,q1,q2,fun i x e hx he=>⟨(q3 i x e hx he).1.ext hle.ext,(q3 i x e hx he).2.ext hle.ext⟩,⟨(fun h=>by cases h),fun _=>.inr rfl⟩,q5,q6⟩,by intro b' hb'; simp [Bk,u8q_,G',h1] at hb'; exact .inl hb'.symm⟩
 | mg el a t es tk gk=>exact hsame hk
theorem ub8d_ (o:Obj):u8q_ (u8q_ o)=u8q_ o:=by cases o <;> rfl
theorem uchx_:∀ {fz:List (Nat×Option Obj)} {G:Gh},MemS P fr free σ w G→(∀ p∈fz,∃ o,σ p.1=some o∧p.2=some (u8q_ o))→∃ G',GLe w G w G'∧MemS P fr free (ub7_ σ fz) w G':=by
 intro fz
 induction fz with
 | nil=>intro G hm _; exact ⟨G,GLe.refl _ _,hm⟩
 | cons p r ih =>
   intro G hm h
   obtain ⟨G1,h1,h2⟩:=ih hm fun q hq=>h q (List.mem_cons_of_mem _ hq)
   obtain ⟨k,x⟩:=p
   obtain ⟨o,ho,hx⟩:=h (k,x) List.mem_cons_self
   have hx:x=some (u8q_ o):=hx
   have ho:σ k=some o:=ho
   subst hx
   have hk:∃ o1,ub7_ σ r k=some o1∧u8q_ o1=u8q_ o:=by
    have:∀ (r:List (Nat×Option Obj)),(∀ p∈r,∃ o,σ p.1=some o∧p.2=some (u8q_ o))→∃ o1,ub7_ σ r k=some o1∧u8q_ o1=u8q_ o:=by
     intro r
     induction r with
     | nil=>intro _; exact ⟨o,ho,rfl⟩
     | cons q r ih2 =>
       intro hr
       obtain ⟨j,y⟩:=q
       obtain ⟨o',ho',hy⟩:=hr (j,y) List.mem_cons_self
       have hy:y=some (u8q_ o'):=hy
       have ho':σ j=some o':=ho'
       subst hy
       by_cases e:k=j
       · subst e
         rw [ho] at ho'
         cases ho'
         exact ⟨u8q_ o,by simp [ub7_,Nat.beq_refl],ub8d_ o⟩
       · obtain ⟨o1,a1,a2⟩:=ih2 fun q hq=>hr q (List.mem_cons_of_mem _ hq)
         refine ⟨o1,?_,a2⟩
         simp only [ub7_]
         rw [show Nat.beq k j=false by rw [← Bool.not_eq_true]; exact fun hh=>e (Nat.eq_of_beq_eq_true hh)]
         exact a1
    exact this r fun q hq=>h q (List.mem_cons_of_mem _ hq)
   obtain ⟨o1,a1,a2⟩:=hk
   obtain ⟨G2,h3,h4⟩:=ucjc_ h2 a1
   refine ⟨G2,h1.trans h3,?_⟩
   rw [a2] at h4
   have e:ub7_ σ ((k,some (u8q_ o))::r)=ub7_ (ub7_ σ r) [(k,some (u8q_ o))]:=ubk_ σ [(k,some (u8q_ o))] r
   rw [e]; exact h4
theorem ub4v_ {ks:List Nat}:∀ p∈ubzy_ σ ks,∃ o,σ p.1=some o∧p.2=some (u8q_ o):=by
 induction ks with
 | nil=>intro p hp; cases hp
 | cons k r ih =>
   intro p hp
   simp only [ubzy_] at hp
   split at hp
   · rename_i o ho
     rcases List.mem_cons.1 hp with rfl | hp
     · exact ⟨o,ho,rfl⟩
     · exact ih p hp
   · exact ih p hp
theorem ub9p_ (hm:MemS P fr free σ w G) (l:List Sh) (vs:List SV):∃ G',GLe w G w G'∧MemS P fr free (ucd9_ σ l vs) w G':=uchx_ hm ub4v_
theorem ucat_ {l:List (Nat×Option Obj)} (hσ:∀ k o,σ' k=some o→σ k=some o):∀ k o,ub7_ σ' l k=some o→ub7_ σ l k=some o:=by
 induction l with
 | nil=>exact hσ
 | cons p r ih =>
   intro k o h
   obtain ⟨j,x⟩:=p
   simp only [ub7_] at h ⊢
   cases hb:Nat.beq k j with
   | true=>rw [hb] at h; exact h
   | false=>rw [hb] at h; exact ih k o h
theorem uckl_ {E:Env} (hE:EnvOK P fr.dr E) (hm:MemS P fr free σ w G) (hσ:∀ k o,σ' k=some o→σ k=some o) (hfree:∀ k,self≤k→k<self+8→free k) {o:Oper} {a:Act} {ρ ρt ρf:Operand→SV}
 (hρ:(∀ c x y,o.op≠.pick c x y)→∀ x∈o.op.operands,SR P w G (ρ x) (a.eval x))
 (hpick:∀ c x y,o.op=.pick c x y→SR P w G (ρ c) (a.eval c)∧(a.eval c=.bool true→SR P w G (ρt x) (a.eval x))∧(a.eval c=.bool false→SR P w G (ρf y) (a.eval y)))
 {r:OpRes} {u:Upd} (hr:opF E ρ ρt ρf σ' self o=some r) (hu:Gives r u):Done P fr.dr o a w (Res P fr free self σ w G u):=by
 unfold opF at hr
 split at hr
 · rename_i r0 hr0
   cases hr
   obtain ⟨G1,g1,g2⟩:=uchx_ (fz:=ubzy_ σ' (ub9f_ E ρ σ' o)) hm fun p hp=>let ⟨ob,h1,h2⟩:=ub4v_ p hp; ⟨ob,hσ _ _ h1,h2⟩
   have hu0:∃ u0,Gives r0 u0∧u=⟨u0.sv,u0.wr++ubzy_ σ' (ub9f_ E ρ σ' o)⟩:=by
    cases r0 with
    | pure u0=>exact ⟨u0,.pure u0,hu.pure_inv⟩
    | may α m d f =>
      obtain ⟨x,hx,rfl⟩:=hu.may_inv
      exact ⟨f x,.may hx,rfl⟩
   obtain ⟨u0,hu0,rfl⟩:=hu0
   refine (uckk_ hE g2 (ucat_ hσ) hfree (fun h x hx=>(hρ h x hx).mono g1) (fun c x y h=>?_) hr0 hu0).mono fun v w' hres=>?_
   · obtain ⟨h1,h2,h3⟩:=hpick c x y h
     exact ⟨h1.mono g1,fun hh=>(h2 hh).mono g1,fun hh=>(h3 hh).mono g1⟩
   · obtain ⟨G',k1,k2,k3⟩:=hres
     exact ⟨G',g1.trans k1,by rw [ubk_]; exact k2,k3⟩
 · cases hr
end
end Go.Ev
