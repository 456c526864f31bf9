/-
  The evaluator's functions, second part: loops, branches, whole functions.
-/
import Derived.Test.YthdkjfbmhbimlaaGreatDoorE3
import Derived.Orders
import Derived.LoopN
import Derived.KernelRfl
set_option linter.unusedVariables false
set_option linter.unusedSimpArgs false
set_option linter.unusedSectionVars false
set_option maxRecDepth 100000
namespace Go.Ev
variable [Pins]
section
variable {P:Program} {fr:Fr} {free free':Nat→Prop} {self:Nat} {σ σ':Nat→Option Obj} {w w':World} {G G':Gh} {I:Im}
theorem ucmb_ {k:IntKind} {n:Int} (h:uchp_ k n=true):unl_ k n:=by
 simp only [uchp_,Bool.and_eq_true,decide_eq_true_eq] at h; exact h
theorem SR.undef (v:Value):SR P w G .undef v:=⟨[v],rfl,trivial⟩
theorem ucek_ (v:Value):SR P w G (uchq_ v) v:=by
 unfold uchq_
 split
 · exact SR.mk_bool _
 · rename_i k n
   cases h:uchp_ k n with
   | true=>exact SR.mk_int (ucmb_ h)
   | false=>exact SR.undef _
 · rename_i s
   cases h:Nat.ble s.data.toList.length 281474976710656 with
   | true=>exact SR.mk_str (Nat.le_of_ble_eq_true h)
   | false=>exact SR.undef _
 · exact ⟨_,rfl,rfl⟩
 · exact ⟨_,rfl,rfl⟩
 · exact ⟨_,rfl,rfl⟩
 · exact ⟨_,rfl,rfl⟩
 · exact ⟨_,rfl,rfl⟩
 · exact SR.undef _
theorem SR.not_grd {tk:List (Nat×Bool)} {g:Bool} {s:SV} {v:Value} (h:SR P w G (.grd tk g s) v):False:=by
 obtain ⟨_,_,h⟩:=h; exact h
theorem SR.strip {s:SV} {v:Value} {tk:List (Nat×Bool)} (h:SR P w G s v):SR P w G (s.strip tk) v:=by
 cases s <;> first | exact h | exact h.not_grd.elim
theorem SR.slotOK {s:SV} {v:Value} {a:Act} (h:SR P w G s v):SlotOK P w G a s v:=by
 cases s <;> first | exact h | exact h.not_grd.elim
theorem uco1_ {t:Nat×Bool}:∀ {tk:List (Nat×Bool)},ucku_ t tk=true→t∈tk:=by
 intro tk
 induction tk with
 | nil=>intro h; cases h
 | cons u r ih =>
   intro h
   simp only [ucku_,Bool.or_eq_true,Bool.and_eq_true] at h
   rcases h with ⟨h1,h2⟩ | h
   · have e1:=Nat.eq_of_beq_eq_true h1
     have e2:t.2=u.2:=by
      cases h3:t.2 <;> cases h4:u.2 <;> rw [h3,h4] at h2 <;> first | rfl | cases h2
     have:t=u:=Prod.ext e1 e2
     rw [this]; exact List.mem_cons_self
   · exact List.mem_cons_of_mem _ (ih h)
theorem SlotOK.strip {s:SV} {v:Value} {a:Act} {tk:List (Nat×Bool)} (h:SlotOK P w G a s v) (hk:holds a tk):SR P w G (s.strip tk) v:=by
 cases s with
 | grd tk' g s =>
   simp only [SV.strip]
   cases ha:tk'.all (ucku_ · tk) with
   | false=>exact SR.undef _
   | true =>
     rw [List.all_eq_true] at ha
     exact (h.1 fun t ht=>hk t (uco1_ (ha t ht))).2
 | _=>exact h
theorem SlotOK.mono {s:SV} {v:Value} {a a':Act} (h:SlotOK P w G a s v) (e:GLe w G w' G') (ht:∀ tk g s',s=.grd tk g s'→(holds a' tk↔holds a tk)):SlotOK P w' G' a' s v:=by
 cases s with
 | grd tk g s =>
   have ht:=ht tk g s rfl
   exact ⟨fun hh=>⟨(h.1 (ht.1 hh)).1,(h.1 (ht.1 hh)).2.mono e⟩,fun hh=>h.2 fun hk=>hh (ht.2 hk)⟩
 | _=>exact SR.mono h e
theorem ucel_ {a:Act} {sl:Nat→SV} {x:Operand} {tk:List (Nat×Bool)} (hs:∀ t,x=.tmp t→SlotOK P w G a (sl t) (a.tmps.getD t undef)) (hk:holds a tk) :
 SR P w G ((evalO sl x).strip tk) (a.eval x):=by
 cases x with
 | tmp t=>exact (hs t rfl).strip hk
 | const v=>exact (ucek_ v).strip
 | func f=>exact ⟨_,rfl,#[],rfl,rfl⟩
 | global g=>exact SR.undef _
def ulv_ (all:Array Oper) (o:Oper):List Nat:=match o.guard with
 | some (j,_)=>match all[j]? with
   | some p=>p.dst.toList
   | none=>[]
 | none=>[]
def ucbx_ (o:Oper):List Nat:=o.op.operands.toList.filterMap fun | .tmp t=>some t | _=>none
theorem ucgj_ {o:Oper} {t:Nat} (h:Operand.tmp t∈o.op.operands):t∈ucbx_ o:=by
 unfold ucbx_
 rw [List.mem_filterMap]
 exact ⟨.tmp t,by simpa using h,rfl⟩
theorem ubbg_ {a:Act} {t:Nat} {b:Bool} {tk:List (Nat×Bool)}:holds a ((t,b)::tk)↔a.tmps.getD t undef=.bool b∧holds a tk:=by
 constructor
 · intro h
   exact ⟨h _ List.mem_cons_self,fun p hp=>h p (List.mem_cons_of_mem _ hp)⟩
 · intro h p hp
   rcases List.mem_cons.1 hp with rfl | hp
   · exact h.1
   · exact h.2 p hp
theorem uboy_ (a:Act):holds a []:=fun _ h=>by cases h
theorem ucem_ (b:Bool):undef≠.bool b:=by intro h; cases h
theorem ucmc_ {all:Array Oper} {o p:Oper} {j t:Nat} {b:Bool} {a:Act} (hg:o.guard=some (j,b)) (hp:all[j]? = some p) (ht:p.dst=some t) :
 Region.wanted o (yielded all a.tmps)=true↔a.tmps.getD t undef=.bool b:=by
 unfold Region.wanted yielded
 simp only [hg,hp,Option.bind_some,ht]
 cases h:a.tmps[t]? with
 | none=>simp [h,undef]
 | some v =>
   have:a.tmps.getD t undef=v:=by simp [h]
   rw [this]
   cases v <;> simp
theorem ucr7_ {all:Array Oper} {o:Oper} {sl:Nat→SV} {a:Act} {tk:List (Nat×Bool)} {g:Bool} (h:ubov_ all sl o=some (tk,g))
 (hs:∀ t∈ulv_ all o,SlotOK P w G a (sl t) (a.tmps.getD t undef)) :
 (Region.wanted o (yielded all a.tmps)=true↔holds a tk)∧(holds a tk→g=true)∧(o.guard=none→tk=[]) ∧
  ∀ p∈tk,p.1∈ulv_ all o∨∃ t∈ulv_ all o,∃ tk' g' s',sl t=.grd tk' g' s'∧p∈tk':=by
 unfold ubov_ at h
 split at h
 · rename_i hg
   simp only [Option.some.injEq,Prod.mk.injEq] at h
   obtain ⟨rfl,rfl⟩:=h
   exact ⟨by simp [Region.wanted,hg,uboy_],fun _=>rfl,fun _=>rfl,fun p hp=>by cases hp⟩
 · rename_i j b hg
   split at h
   · rename_i p hp
     split at h
     · rename_i t ht
       have hsl:ulv_ all o=[t]:=by simp [ulv_,hg,hp,ht]
       have hst:=hs t (by rw [hsl]; simp)
       have hwi:=ucmc_ (a:=a) hg hp ht
       split at h
       · rename_i c hc
         simp only [Option.some.injEq,Prod.mk.injEq] at h
         obtain ⟨rfl,rfl⟩:=h
         rw [hc] at hst
         have hv:=SR.bool hst
         refine ⟨by rw [hwi,ubbg_]; simp [uboy_],fun hh=>?_,fun h=>(by rw [hg] at h; cases h),fun q hq=>.inl ?_⟩
         · have:=(ubbg_.1 hh).1
           rw [hv] at this
           cases this
           cases b <;> rfl
         · have:q=(t,b):=by simpa using hq
           rw [this,hsl]; simp
       · rename_i tk' g' c hc
         simp only [Option.some.injEq,Prod.mk.injEq] at h
         obtain ⟨rfl,rfl⟩:=h
         rw [hc] at hst
         have key:a.tmps.getD t undef=.bool b→holds a tk':=by
          intro h1
          apply Classical.byContradiction
          intro h2
          rw [hst.2 h2] at h1
          exact ucem_ _ h1
         refine ⟨?_,fun hh=>?_,fun h=>(by rw [hg] at h; cases h),fun q hq=>?_⟩
         · rw [hwi,ubbg_]
           exact ⟨fun h1=>⟨h1,key h1⟩,fun h1=>h1.1⟩
         · obtain ⟨h1,h2⟩:=ubbg_.1 hh
           obtain ⟨h3,h4⟩:=hst.1 h2
           have hv:=SR.bool h4
           rw [hv] at h1
           cases h1
           rw [h3]
           cases b <;> rfl
         · rcases List.mem_cons.1 hq with rfl | hq
           · exact .inl (by rw [hsl]; simp)
           · exact .inr ⟨t,by rw [hsl]; simp,tk',g',_,hc,hq⟩
       · cases h
     · cases h
   · cases h
structure SimF (P:Program) (N:Nat) (fr:Fr) (free D:Nat→Prop) (sl:Nat→SV) (σ:Nat→Option Obj) (a:Act) (w:World) (G:Gh):Prop where
 slots:∀ t,SlotOK P w G a (sl t) (a.tmps.getD t undef)
 defs:a.defers=[]
 size:a.tmps.size=N
 fix:∀ t v,fr.fx t=some v→a.tmps.getD t undef=v
 toks:∀ t tk g s,sl t=.grd tk g s→tk≠[]∧∀ p∈tk,D p.1
 mem:MemS P fr free σ w G
 drawn:fr.dr=true→fr.w0.drawn≤w.drawn
theorem ucby_ {a:Act} {N:Nat} (hN:a.tmps.size=N) {dst:Option Nat} (hd:∀ d,dst=some d→d<N) (v:Value) (t:Nat) :
 (a.put dst v).tmps.getD t undef=if dst=some t then v else a.tmps.getD t undef:=by
 cases dst with
 | none=>simp [Act.put]
 | some d =>
   have hd:=hd d rfl
   by_cases h:d=t
   · subst h
     simp [Act.put,hN,hd]
   · simp [Act.put,h,Array.getElem?_setIfInBounds_ne h]
theorem ucmd_ (a:Act) (dst:Option Nat) (v:Value):(a.put dst v).defers=a.defers:=by cases dst <;> rfl
theorem ucr8_ (a:Act) (dst:Option Nat) (v:Value):(a.put dst v).tmps.size=a.tmps.size:=by cases dst <;> simp [Act.put]
theorem ubbh_ (sl:Nat→SV) (dst:Option Nat) (s:SV) (t:Nat):ubva_ sl dst s t=if dst=some t then s else sl t:=by
 cases dst with
 | none=>simp [ubva_]
 | some d =>
   simp only [ubva_]
   by_cases h:t=d
   · subst h; simp [Nat.beq_refl]
   · have:Nat.beq t d=false:=by rw [← Bool.not_eq_true]; exact fun hh=>h (Nat.eq_of_beq_eq_true hh)
     rw [this]
     have h':¬ d=t:=fun e=>h e.symm
     simp [h']
theorem uco2_ {tk:List (Nat×Bool)} {u:Upd} (h:calm tk u=true) (ht:tk≠[]):u.wr=[]:=by
 cases tk with
 | nil=>exact absurd rfl ht
 | cons p r =>
   simp only [calm] at h
   split at h
   · assumption
   · cases h
theorem ucib_ {a:Act} {N:Nat} (hN:a.tmps.size=N) {dst:Option Nat} (hd:∀ d,dst=some d→d<N) {v:Value} {tk:List (Nat×Bool)} (h:∀ p∈tk,dst≠some p.1) :
 holds (a.put dst v) tk↔holds a tk:=by
 unfold holds
 constructor
 · intro hh p hp
   have:=hh p hp
   rw [ucby_ hN hd,if_neg (h p hp)] at this
   exact this
 · intro hh p hp
   rw [ucby_ hN hd,if_neg (h p hp)]
   exact hh p hp
theorem ucqq_ {E:Env} (hE:EnvOK P fr.dr E) {all:Array Oper} {i N:Nat} {o:Oper} (ho:all[i]? = some o) {D:Nat→Prop} {sl sl0:Nat→SV} {a:Act}
 (hs:SimF P N fr free D sl σ a w G) (hag:∀ t,t∈ucbx_ o∨t∈ulv_ all o→sl0 t=sl t)
 (hgd:∀ t∈ulv_ all o,D t) (hdst:∀ d,o.dst=some d→(d<N∧fr.fx d=none)∧¬ D d)
 {tk:List (Nat×Bool)} {g:Bool} (hg:ubov_ all sl0 o=some (tk,g))
 (hσ:∀ k ob,σ' k=some ob→σ k=some ob) (hfree:∀ k,self≤k→k<self+8→free k)
 {r:OpRes} (hr:opF E (fun x=>(evalO sl0 x).strip tk)
  (match o.op with | .pick c _ _=>fun x=>(evalO sl0 x).strip (ub1w_ c true tk) | _=>fun x=>(evalO sl0 x).strip tk)
  (match o.op with | .pick c _ _=>fun x=>(evalO sl0 x).strip (ub1w_ c false tk) | _=>fun x=>(evalO sl0 x).strip tk) σ' self o=some r)
 {u:Upd} (hu:g=true→Gives r u) (hu':tk=[]→Gives r u) (hcalm:calm tk u=true) {K:Act→World→Prop} {Q:Exit→Act→World→Prop}
 (hK:∀ a' w' G',GLe w G w' G'→SimF P N fr (upl_ free self) D (ubva_ sl o.dst (mkGrd tk g u.sv)) (u3_ σ u.wr) a' w' G'→K a' w') :
 wpOp P all Q i K a w:=by
 have hgs:∀ t∈ulv_ all o,SlotOK P w G a (sl0 t) (a.tmps.getD t undef):=fun t ht=>by rw [hag t (.inr ht)]; exact hs.slots t
 obtain ⟨g1,g2,g3,g4⟩:=ucr7_ hg hgs
 have htk:∀ p∈tk,D p.1:=by
  intro p hp
  rcases g4 p hp with h | ⟨t,ht,tk',g',s',h1,h2⟩
  · exact hgd _ h
  · rw [hag t (.inr ht)] at h1
    exact (hs.toks t tk' g' s' h1).2 p h2
 have hdN:∀ d,o.dst=some d→d<N:=fun d hd=>(hdst d hd).1.1
 have hnd:∀ {tk':List (Nat×Bool)},(∀ p∈tk',D p.1)→∀ p∈tk',o.dst≠some p.1:=fun h p hp e=>(hdst _ e).2 (h p hp)
 have fin:∀ (v:Value) (w':World) (G':Gh),GLe w G w' G'→MemS P fr (upl_ free self) (u3_ σ u.wr) w' G'→(fr.dr=true→w.drawn≤w'.drawn) →
  ((holds a tk→g=true∧SR P w' G' u.sv v)∧(¬ holds a tk→v=Go.undef))→K (a.put o.dst v) w':=by
  intro v w' G' hle hm hdr hv
  refine hK _ w' G' hle ⟨fun t=>?_,?_,?_,?_,?_,hm,fun h=>Nat.le_trans (hs.drawn h) (hdr h)⟩
  · rw [ubbh_,ucby_ hs.size hdN]
    by_cases h:o.dst=some t
    · rw [if_pos h,if_pos h]
      cases tk with
      | nil=>exact (hv.1 (uboy_ a)).2.slotOK
      | cons p r =>
        have:=ucib_ (v:=v) hs.size hdN (hnd htk)
        exact ⟨fun hh=>hv.1 (this.1 hh),fun hh=>hv.2 fun hk=>hh (this.2 hk)⟩
    · rw [if_neg h,if_neg h]
      refine (hs.slots t).mono hle fun tk' g' s' h'=>?_
      exact ucib_ hs.size hdN (hnd (hs.toks t tk' g' s' h').2)
  · rw [ucmd_]; exact hs.defs
  · rw [ucr8_]; exact hs.size
  · intro t v' h
    rw [ucby_ hs.size hdN,if_neg (fun e=>by have:=(hdst t e).1.2; rw [h] at this; cases this)]
    exact hs.fix t v' h
  · intro t tk' g' s' h
    rw [ubbh_] at h
    by_cases hd:o.dst=some t
    · rw [if_pos hd] at h
      cases htk':tk with
      | nil =>
        rw [htk'] at h hv
        have h:u.sv=.grd tk' g' s':=h
        have:=(hv.1 (uboy_ a)).2
        rw [h] at this
        exact this.not_grd.elim
      | cons q r =>
        rw [htk'] at h
        have h:SV.grd (q::r) g u.sv=.grd tk' g' s':=h
        injection h with h1 _ _
        exact ⟨by rw [← h1]; simp,fun p hp=>htk p (by rw [htk',h1]; exact hp)⟩
    · rw [if_neg hd] at h
      exact hs.toks t tk' g' s' h
 unfold wpOp
 simp only [ho]
 by_cases hw:Region.wanted o (yielded all a.tmps)=true
 · rw [if_pos hw]
   have hh:=g1.1 hw
   have hgt:=g2 hh
   left
   have hop:∀ {tk':List (Nat×Bool)},holds a tk'→∀ x∈o.op.operands,SR P w G ((evalO sl0 x).strip tk') (a.eval x):=by
    intro tk' hh' x hx
    refine ucel_ (fun t ht=>?_) hh'
    subst ht
    rw [hag t (.inl (ucgj_ hx))]
    exact hs.slots t
   have hdone:Done P fr.dr o a w (Res P fr free self σ w G u):=by
    refine ucva_ hE hs.mem hσ hfree (fun _ x hx=>hop hh x hx) ?_ hr (hu hgt)
    intro c x y hpk
    refine ⟨hop hh c (by simp [hpk,Op.operands]),fun hc=>?_,fun hc=>?_⟩
    · simp only [hpk]
      refine hop ?_ x (by simp [hpk,Op.operands])
      cases c with
      | tmp t=>exact ubbg_.2 ⟨hc,hh⟩
      | _=>exact hh
    · simp only [hpk]
      refine hop ?_ y (by simp [hpk,Op.operands])
      cases c with
      | tmp t=>exact ubbg_.2 ⟨hc,hh⟩
      | _=>exact hh
   refine hdone Q K fun v w' hres hdr=>?_
   obtain ⟨G',h1,h2,h3⟩:=hres
   exact fin v w' G' h1 h2 hdr ⟨fun _=>⟨hgt,h3⟩,fun hn=>absurd hh hn⟩
 · rw [if_neg hw]
   have hnh:¬ holds a tk:=fun h=>hw (g1.2 h)
   have hne:tk≠[]:=fun e=>by subst e; exact hnh (uboy_ a)
   have hwr:=uco2_ hcalm hne
   refine fin Go.undef w G (GLe.refl _ _) ?_ (fun _=>Nat.le_refl _) ⟨fun h=>absurd h hnh,fun _=>rfl⟩
   rw [hwr]
   exact hs.mem.shrink fun _ h=>h.1
theorem SimF.draws {N:Nat} {D:Nat→Prop} {sl:Nat→SV} {a:Act} (h:SimF P N fr free D sl σ a w G) (n:Nat) (hn:w.drawn≤n):SimF P N fr free D sl σ a { w with drawn:=n } G:=by
 have hle:GLe w G { w with drawn:=n } G:=⟨⟨fun _ _ h=>⟨h,rfl⟩,fun _ h=>⟨h,rfl⟩⟩,fun _ _ _ h=>h,fun _ _ h=>h,fun _ _ h=>h⟩
 refine ⟨fun t=>(h.slots t).mono hle fun _ _ _ _=>Iff.rfl,h.defs,h.size,h.fix,h.toks,⟨fun k o ho=>?_,h.mem.sep,?_,h.mem.fresh⟩,fun hd=>Nat.le_trans (h.drawn hd) hn⟩
 · exact (h.mem.objs k o ho).keep hle fun b _=>⟨rfl,fun _ h=>h,fun h=>h⟩
 · exact ⟨⟨fun b o hb=>h.mem.after.ext.cell b o hb,fun b hb=>h.mem.after.ext.obj b hb⟩,h.mem.after.heap,h.mem.after.size,h.mem.after.newC,h.mem.after.newO,h.mem.after.inC,h.mem.after.inO,
    h.mem.after.os,h.mem.after.tape,h.mem.after.output,h.mem.after.pins.ext hle.ext⟩
end
end Go.Ev
namespace Go.Ev
variable [Pins]
section
variable {P:Program} {fr:Fr} {free free':Nat→Prop} {self:Nat} {σ σ':Nat→Option Obj} {w w':World} {G G':Gh} {I:Im}
theorem uco3_ {Ω:Type} {tk:List (Nat×Bool)} {g:Bool} {r:OpRes} {K:Upd→Option Ω} {ω:Ω} (h:evRes tk g r K=some ω) :
 ∃ u,(g=true→Gives r u)∧(tk=[]→Gives r u)∧calm tk u=true∧K u=some ω:=by
 unfold evRes at h
 split at h
 · rename_i u
   cases hc:calm tk u with
   | false=>rw [hc] at h; cases h
   | true=>rw [hc] at h; exact ⟨u,fun _=>.pure u,fun _=>.pure u,hc,h⟩
 · rename_i α m d f
   obtain ⟨x,h1,h2⟩:=Option.bind_eq_some_iff.1 h
   cases hc:calm tk (f x) with
   | false=>rw [hc] at h2; cases h2
   | true =>
     rw [hc] at h2
     refine ⟨f x,fun hg=>.may ?_,fun ht=>.may ?_,hc,h2⟩
     · subst hg
       cases tk with
       | nil=>exact h1
       | cons p r=>exact h1
     · subst ht; exact h1
structure GuardsOK (all:Array Oper):Prop where
 uniq:uxr_ all=true→∀ (i j:Nat) (o p:Oper) (d:Nat),i<j→all[i]? = some o→all[j]? = some p→o.dst=some d→p.dst≠some d
 back:uxr_ all=true→∀ (i:Nat) (o:Oper) (j:Nat) (b:Bool),all[i]? = some o→o.guard=some (j,b)→j<i
theorem ucaa_ {all:Array Oper} {i:Nat} {o:Oper} {j:Nat} {b:Bool} (ho:all[i]? = some o) (hg:o.guard=some (j,b)):uxr_ all=true:=by
 unfold uxr_
 rw [List.any_eq_true]
 exact ⟨o,by simpa using Array.mem_of_getElem? ho,by simp [hg]⟩
def DS (all:Array Oper) (S:Nat→Bool):Nat→Prop:=fun t=>uxr_ all=true∧∃ j o,S j=true∧all[j]? = some o∧o.dst=some t
theorem DS.mono {all:Array Oper} {S S':Nat→Bool} {t:Nat} (h:DS all S t) (hs:∀ j,S j=true→S' j=true):DS all S' t :=
 ⟨h.1,let ⟨j,o,h1,h2,h3⟩:=h.2; ⟨j,o,hs j h1,h2,h3⟩⟩
theorem ubvn_ {all:Array Oper} {o:Oper} {t:Nat} (h:t∈ulv_ all o):∃ j b p,o.guard=some (j,b)∧all[j]? = some p∧p.dst=some t:=by
 unfold ulv_ at h
 split at h
 · rename_i j b hg
   split at h
   · rename_i p hp
     exact ⟨j,b,p,hg,hp,by simpa using h⟩
   · cases h
 · cases h
theorem SimF.weaken {N:Nat} {D D':Nat→Prop} {sl:Nat→SV} {a:Act} (h:SimF P N fr free D sl σ a w G) (hf:∀ k,free' k→free k) (hD:∀ t,D t→D' t):SimF P N fr free' D' sl σ a w G :=
 ⟨h.slots,h.defs,h.size,h.fix,fun t tk g s hh=>⟨(h.toks t tk g s hh).1,fun p hp=>hD _ ((h.toks t tk g s hh).2 p hp)⟩,h.mem.shrink hf,h.drawn⟩
theorem ucen_ {Ω:Type} {E:Env} {all:Array Oper} {draw:Bool} {n0 i:Nat} {o:Oper} {rest:List Oper} {st:St} {cl:List (List Nat×List Nat)} {K:St→List (List Nat×List Nat)→Option Ω} {ω:Ω}
 (h:evOps E all draw n0 (o::rest) i st cl K=some ω) :
 ∃ tk g r u,ubov_ all st.slots o=some (tk,g) ∧
  opF E (fun x=>(evalO st.slots x).strip tk)
   (match o.op with | .pick c _ _=>fun x=>(evalO st.slots x).strip (ub1w_ c true tk) | _=>fun x=>(evalO st.slots x).strip tk)
   (match o.op with | .pick c _ _=>fun x=>(evalO st.slots x).strip (ub1w_ c false tk) | _=>fun x=>(evalO st.slots x).strip tk)
   (seen all draw n0 i (foot (fun x=>(evalO st.slots x).strip tk) st.sto o.op) st.sto) (n0+8*i) o=some r ∧
  (g=true→Gives r u)∧(tk=[]→Gives r u)∧calm tk u=true ∧
  wrOK (seen all draw n0 i (foot (fun x=>(evalO st.slots x).strip tk) st.sto o.op) st.sto) (n0+8*i) u=true ∧
  evOps E all draw n0 rest (i+1) { slots:=ubva_ st.slots o.dst (mkGrd tk g u.sv),sto:=u3_ st.sto u.wr,n:=st.n }
   ((u.far (n0+8*i),foot (fun x=>(evalO st.slots x).strip tk) st.sto o.op)::cl) K=some ω:=by
 simp only [evOps] at h
 split at h
 · cases h
 · rename_i tk g hg
   split at h
   · cases h
   · rename_i r hr
     obtain ⟨u,h1,h2,h3,h4⟩:=uco3_ h
     cases hw:wrOK (seen all draw n0 i (foot (fun x=>(evalO st.slots x).strip tk) st.sto o.op) st.sto) (n0+8*i) u with
     | false=>rw [hw] at h4; cases h4
     | true =>
       rw [hw] at h4
       exact ⟨tk,g,r,u,hg,hr,h1,h2,h3,hw,h4⟩
theorem ucme_ {Ω:Type} {E:Env} (hE:EnvOK P fr.dr E) {N n0:Nat} {all:Array Oper} (hgo:GuardsOK all) (hdst:∀ (j:Nat) o d,all[j]? = some o→o.dst=some d→d<N∧fr.fx d=none)
 {K:St→List (List Nat×List Nat)→Option Ω} {ω:Ω} {Q:Exit→Act→World→Prop} :
 ∀ (ops:List Oper) (i:Nat) (st:St) (cl:List (List Nat×List Nat)) (a:Act) (w:World) (G:Gh),evOps E all false n0 ops i st cl K=some ω→all.toList.drop i=ops→i+ops.length=all.size →
  SimF P N fr (fun k=>n0+8*i≤k) (DS all (fun j=>decide (j<i))) st.slots st.sto a w G →
  (∀ st' cl' a' w' G',SimF P N fr (fun k=>n0+8*all.size≤k) (DS all (fun j=>decide (j<all.size))) st'.slots st'.sto a' w' G'→st'.n=st.n→K st' cl'=some ω→Q .normal a' w') →
  wpOps P all Q (List.range' i ops.length) a w:=by
 intro ops
 induction ops with
 | nil =>
   intro i st cl a w G h hdr hl hs hQ
   simp only [List.length_nil,Nat.add_zero] at hl
   subst hl
   exact hQ st cl a w G hs rfl h
 | cons o rest ih =>
   intro i st cl a w G h hdr hl hs hQ
   obtain ⟨tk,g,r,u,h1,h2,h3,h4,h5,h6,h7⟩:=ucen_ h
   have ho:all[i]? = some o:=by
    have:=congrArg List.head? hdr
    rw [List.head?_drop] at this
    simpa using this
   simp only [List.length_cons,List.range'_succ]
   rw [wpOps_cons]
   refine ucqq_ hE ho (self:=n0+8*i) hs (fun t _=>rfl) ?_ ?_ h1 ?_ (fun k hk _=>hk) h2 h3 h4 h5 ?_
   · intro t ht
     obtain ⟨j,b,p,hg,hp,hd⟩:=ubvn_ ht
     have hh:=ucaa_ ho hg
     exact ⟨hh,j,p,by simpa using hgo.back hh i o j b ho hg,hp,hd⟩
   · intro d hd
     refine ⟨hdst i o d ho hd,fun hD=>?_⟩
     obtain ⟨hh,j,p,hj,hp,hpd⟩:=hD
     exact hgo.uniq hh j i p o d (by simpa using hj) hp ho hpd hd
   · intro k ob hk
     exact hk
   · intro a' w' G' _ hs'
     refine ih (i+1) _ _ a' w' G' h7 ?_ (by simp only [List.length_cons] at hl; omega) ?_ (fun st' cl' a' w' G' hs' hn hK=>hQ st' cl' a' w' G' hs' hn hK)
     · have:=congrArg List.tail hdr
       simpa [List.tail_drop] using this
     · refine hs'.weaken (fun k hk=>⟨by omega,?_⟩) fun t ht=>ht.mono fun j hj=>by simp only [decide_eq_true_eq] at hj ⊢; omega
       simp only [ubj9_,Bool.and_eq_false_iff]
       right
       rw [← Bool.not_eq_true,Nat.blt_eq]; omega
structure Info where
 tk:List (Nat×Bool)
 g:Bool
 u:Upd
 c:List Nat×List Nat
def slF (all:Array Oper) (L:Nat→Info) (S:Nat→Bool) (sl0:Nat→SV):Nat→Nat→SV
 | 0=>sl0
 | i+1=>bif S i then ubva_ (slF all L S sl0 i) (all.getD i default).dst (mkGrd (L i).tk (L i).g (L i).u.sv) else slF all L S sl0 i
def stF (L:Nat→Info) (S:Nat→Bool) (σ0:Nat→Option Obj):Nat→Nat→Option Obj
 | 0=>σ0
 | i+1=>bif S i then u3_ (stF L S σ0 i) (L i).u.wr else stF L S σ0 i
def keysW (l:List (Nat×Option Obj)):List Nat:=l.map (·.1)
theorem ub5f_ {σ:Nat→Option Obj}:∀ {l:List (Nat×Option Obj)} {k:Nat},k ∉ keysW l→u3_ σ l k=σ k:=by
 intro l
 induction l with
 | nil=>intro k _; rfl
 | cons p r ih =>
   intro k h
   obtain ⟨j,o⟩:=p
   simp only [keysW,List.map_cons,List.mem_cons,not_or] at h
   simp only [u3_]
   rw [show Nat.beq k j=false by rw [← Bool.not_eq_true]; exact fun hh=>h.1 (Nat.eq_of_beq_eq_true hh)]
   exact ih h.2
theorem ucic_ {σ σ':Nat→Option Obj}:∀ {l:List (Nat×Option Obj)} {k:Nat},k∈keysW l→u3_ σ l k=u3_ σ' l k:=by
 intro l
 induction l with
 | nil=>intro k h; cases h
 | cons p r ih =>
   intro k h
   obtain ⟨j,o⟩:=p
   simp only [u3_]
   cases hb:Nat.beq k j with
   | true=>rfl
   | false =>
     simp only [cond_false]
     refine ih ?_
     simp only [keysW,List.map_cons,List.mem_cons] at h
     rcases h with rfl | h
     · rw [Nat.beq_refl] at hb; cases hb
     · exact h
theorem uco4_ {all:Array Oper} {L:Nat→Info} {S S':Nat→Bool} {sl0:Nat→SV} {t:Nat}:∀ {n:Nat},(∀ j,j<n→(all.getD j default).dst=some t→S j=S' j)→slF all L S sl0 n t=slF all L S' sl0 n t:=by
 intro n
 induction n with
 | zero=>intro _; rfl
 | succ n ih =>
   intro h
   have ih:=ih fun j hj=>h j (by omega)
   have key:∀ S,slF all L S sl0 (n+1) t=if S n=true∧(all.getD n default).dst=some t then mkGrd (L n).tk (L n).g (L n).u.sv else slF all L S sl0 n t:=by
    intro S
    simp only [slF]
    cases hS:S n with
    | false=>simp
    | true=>simp only [cond_true,ubbh_,true_and]
   rw [key,key,ih]
   by_cases hd:(all.getD n default).dst=some t
   · rw [h n (by omega) hd]
   · rw [if_neg (fun h=>hd h.2),if_neg (fun h=>hd h.2)]
theorem uco5_ {L:Nat→Info} {S S':Nat→Bool} {σ0:Nat→Option Obj} {k:Nat}:∀ {n:Nat},(∀ j,j<n→k∈keysW (L j).u.wr→S j=S' j)→stF L S σ0 n k=stF L S' σ0 n k:=by
 intro n
 induction n with
 | zero=>intro _; rfl
 | succ n ih =>
   intro h
   have ih:=ih fun j hj=>h j (by omega)
   simp only [stF]
   by_cases hk:k∈keysW (L n).u.wr
   · rw [h n (by omega) hk]
     cases S' n with
     | true=>exact ucic_ hk
     | false=>exact ih
   · have key:∀ S,(bif S n then u3_ (stF L S σ0 n) (L n).u.wr else stF L S σ0 n) k=stF L S σ0 n k:=by
      intro S
      cases S n with
      | true=>exact ub5f_ hk
      | false=>rfl
     rw [key,key,ih]
theorem ucmf_ {all:Array Oper} {L:Nat→Info} {S:Nat→Bool} {sl0:Nat→SV} {i:Nat}:∀ {n:Nat},i≤n→(∀ j,j<i→S j=true)→(∀ j,i≤j→j<n→S j=false)→slF all L S sl0 n=slF all L (fun _=>true) sl0 i:=by
 intro n
 induction n with
 | zero => intro h _ _; have : i = 0 := by omega
           subst this; rfl
 | succ n ih =>
   intro hi h1 h2
   by_cases h:i=n+1
   · subst h
     have:slF all L S sl0 n=slF all L (fun _=>true) sl0 n:=by
      funext t
      exact uco4_ fun j hj _=>by rw [h1 j (by omega)]
     simp only [slF,h1 n (by omega),this]
   · simp only [slF,h2 n (by omega) (by omega),cond_false]
     exact ih (by omega) h1 (fun j hj hn=>h2 j hj (by omega))
theorem ucmg_ {L:Nat→Info} {S:Nat→Bool} {σ0:Nat→Option Obj} {i:Nat}:∀ {n:Nat},i≤n→(∀ j,j<i→S j=true)→(∀ j,i≤j→j<n→S j=false)→stF L S σ0 n=stF L (fun _=>true) σ0 i:=by
 intro n
 induction n with
 | zero => intro h _ _; have : i = 0 := by omega
           subst this; rfl
 | succ n ih =>
   intro hi h1 h2
   by_cases h:i=n+1
   · subst h
     have:stF L S σ0 n=stF L (fun _=>true) σ0 n:=by
      funext t
      exact uco5_ fun j hj _=>by rw [h1 j (by omega)]
     simp only [stF,h1 n (by omega),this]
   · simp only [stF,h2 n (by omega) (by omega),cond_false]
     exact ih (by omega) h1 (fun j hj hn=>h2 j hj (by omega))
theorem ucr9_ {all:Array Oper} {L:Nat→Info} {S:Nat→Bool} {sl0:Nat→SV} {t i:Nat} (hi:S i=true) (hd:(all.getD i default).dst=some t) :
 ∀ {n:Nat},i<n→(∀ j,i<j→j<n→(all.getD j default).dst=some t→S j=false)→slF all L S sl0 n t=mkGrd (L i).tk (L i).g (L i).u.sv:=by
 intro n
 induction n with
 | zero=>intro h; omega
 | succ n ih =>
   intro hn h
   simp only [slF]
   by_cases e:i=n
   · subst e
     rw [hi]; simp only [cond_true,ubbh_,hd,if_true]
   · have ih:=ih (by omega) fun j h1 h2=>h j h1 (by omega)
     by_cases hd':(all.getD n default).dst=some t
     · rw [h n (by omega) (by omega) hd']; exact ih
     · cases S n with
       | true=>simp only [cond_true,ubbh_,hd',if_false]; exact ih
       | false=>exact ih
theorem ucsa_ {L:Nat→Info} {S:Nat→Bool} {σ0 σ:Nat→Option Obj} {k i:Nat} (hi:S i=true) (hd:k∈keysW (L i).u.wr) :
 ∀ {n:Nat},i<n→(∀ j,i<j→j<n→k∈keysW (L j).u.wr→S j=false)→stF L S σ0 n k=u3_ σ (L i).u.wr k:=by
 intro n
 induction n with
 | zero=>intro h; omega
 | succ n ih =>
   intro hn h
   simp only [stF]
   by_cases e:i=n
   · subst e
     rw [hi]; exact ucic_ hd
   · have ih:=ih (by omega) fun j h1 h2=>h j h1 (by omega)
     by_cases hd':k∈keysW (L n).u.wr
     · rw [h n (by omega) (by omega) hd']; exact ih
     · cases S n with
       | true=>exact (ub5f_ hd').trans ih
       | false=>exact ih
theorem ucid_ {all:Array Oper} {L L':Nat→Info} {S:Nat→Bool} {sl0:Nat→SV}:∀ {n:Nat},(∀ j,j<n→L j=L' j)→slF all L S sl0 n=slF all L' S sl0 n:=by
 intro n
 induction n with
 | zero=>intro _; rfl
 | succ n ih=>intro h; simp only [slF,ih fun j hj=>h j (by omega),h n (by omega)]
theorem ucie_ {L L':Nat→Info} {S:Nat→Bool} {σ0:Nat→Option Obj}:∀ {n:Nat},(∀ j,j<n→L j=L' j)→stF L S σ0 n=stF L' S σ0 n:=by
 intro n
 induction n with
 | zero=>intro _; rfl
 | succ n ih=>intro h; simp only [stF,ih fun j hj=>h j (by omega),h n (by omega)]
structure Fact (E:Env) (all:Array Oper) (n0:Nat) (L:Nat→Info) (sl0:Nat→SV) (σ0:Nat→Option Obj) (i:Nat) (o:Oper) (r:OpRes):Prop where
 op:all[i]? = some o
 grd:ubov_ all (slF all L (fun _=>true) sl0 i) o=some ((L i).tk,(L i).g)
 val:opF E (fun x=>(evalO (slF all L (fun _=>true) sl0 i) x).strip (L i).tk)
  (match o.op with | .pick c _ _=>fun x=>(evalO (slF all L (fun _=>true) sl0 i) x).strip (ub1w_ c true (L i).tk) | _=>fun x=>(evalO (slF all L (fun _=>true) sl0 i) x).strip (L i).tk)
  (match o.op with | .pick c _ _=>fun x=>(evalO (slF all L (fun _=>true) sl0 i) x).strip (ub1w_ c false (L i).tk) | _=>fun x=>(evalO (slF all L (fun _=>true) sl0 i) x).strip (L i).tk)
  (seen all true n0 i (L i).c.2 (stF L (fun _=>true) σ0 i)) (n0+8*i) o=some r
 gives:(L i).g=true→Gives r (L i).u
 gives':(L i).tk=[]→Gives r (L i).u
 calm:calm (L i).tk (L i).u=true
 wr:wrOK (seen all true n0 i (L i).c.2 (stF L (fun _=>true) σ0 i)) (n0+8*i) (L i).u=true
 cls:(L i).c.1=(L i).u.far (n0+8*i)
theorem Fact.congr {E:Env} {all:Array Oper} {n0:Nat} {L L':Nat→Info} {sl0:Nat→SV} {σ0:Nat→Option Obj} {i:Nat} {o:Oper} {r:OpRes}
 (h:Fact E all n0 L sl0 σ0 i o r) (hl:∀ j,j≤i→L j=L' j):Fact E all n0 L' sl0 σ0 i o r:=by
 have e1:=ucid_ (all:=all) (S:=fun _=>true) (sl0:=sl0) (n:=i) fun j hj=>hl j (by omega)
 have e2:=ucie_ (S:=fun _=>true) (σ0:=σ0) (n:=i) fun j hj=>hl j (by omega)
 have e3:=hl i (Nat.le_refl _)
 exact ⟨h.op,by rw [← e1,← e3]; exact h.grd,by rw [← e1,← e2,← e3]; exact h.val,by rw [← e3]; exact h.gives,by rw [← e3]; exact h.gives',by rw [← e3]; exact h.calm,
  by rw [← e2,← e3]; exact h.wr,by rw [← e3]; exact h.cls⟩
theorem ucjm_ {Ω:Type} {E:Env} {n0:Nat} {all:Array Oper} {K:St→List (List Nat×List Nat)→Option Ω} {ω:Ω} {sl0:Nat→SV} {σ0:Nat→Option Obj} :
 ∀ (ops:List Oper) (i:Nat) (st:St) (L:Nat→Info),evOps E all true n0 ops i st (((List.range i).map fun j=>(L j).c).reverse) K=some ω→all.toList.drop i=ops→i+ops.length=all.size →
  st.slots=slF all L (fun _=>true) sl0 i→st.sto=stF L (fun _=>true) σ0 i→(∀ j,j<i→∃ o r,Fact E all n0 L sl0 σ0 j o r) →
  ∃ L':Nat→Info,(∀ j,j<all.size→∃ o r,Fact E all n0 L' sl0 σ0 j o r) ∧
   K { slots:=slF all L' (fun _=>true) sl0 all.size,sto:=stF L' (fun _=>true) σ0 all.size,n:=st.n } (((List.range all.size).map fun j=>(L' j).c).reverse)=some ω:=by
 intro ops
 induction ops with
 | nil =>
   intro i st L h hdr hl h1 h2 h3
   simp only [List.length_nil,Nat.add_zero] at hl
   subst hl
   refine ⟨L,h3,?_⟩
   rw [← h1,← h2]; exact h
 | cons o rest ih =>
   intro i st L h hdr hl h1 h2 h3
   obtain ⟨tk,g,r,u,k1,k2,k3,k4,k5,k6,k7⟩:=ucen_ h
   have ho:all[i]? = some o:=by
    have:=congrArg List.head? hdr
    rw [List.head?_drop] at this
    simpa using this
   let c:List Nat×List Nat:=(u.far (n0+8*i),foot (fun x=>(evalO st.slots x).strip tk) st.sto o.op)
   let L':Nat→Info:=fun j=>if j=i then ⟨tk,g,u,c⟩ else L j
   have hL:∀ j,j<i→L j=L' j:=fun j hj=>by simp [L',Nat.ne_of_lt hj]
   have hLi:L' i=⟨tk,g,u,c⟩:=by simp [L']
   have e1:=ucid_ (all:=all) (S:=fun _=>true) (sl0:=sl0) (n:=i) hL
   have e2:=ucie_ (S:=fun _=>true) (σ0:=σ0) (n:=i) hL
   have s1:st.slots=slF all L' (fun _=>true) sl0 i:=h1.trans e1
   have s2:st.sto=stF L' (fun _=>true) σ0 i:=h2.trans e2
   have hget:all.getD i default=o:=by
    rw [Array.getD_eq_getD_getElem?,ho]; rfl
   have:=ih (i+1) { slots:=ubva_ st.slots o.dst (mkGrd tk g u.sv),sto:=u3_ st.sto u.wr,n:=st.n } L' ?_ ?_ ?_ ?_ ?_ ?_
   · exact this
   · have:((List.range (i+1)).map fun j=>(L' j).c).reverse=c::((List.range i).map fun j=>(L j).c).reverse:=by
      rw [List.range_succ,List.map_append,List.reverse_append]
      simp only [List.map_cons,List.map_nil,List.reverse_cons,List.reverse_nil,List.nil_append,List.singleton_append,hLi,List.cons.injEq,true_and]
      congr 1
      exact List.map_congr_left fun j hj=>by rw [hL j (List.mem_range.1 hj)]
     rw [this]; exact k7
   · have:=congrArg List.tail hdr
     simpa [List.tail_drop] using this
   · simp only [List.length_cons] at hl; omega
   · simp only [slF,hLi,cond_true,hget,← s1]
   · simp only [stF,hLi,cond_true,← s2]
   · intro j hj
     by_cases e:j=i
     · subst e
       refine ⟨o,r,ho,?_,?_,?_,?_,?_,?_,?_⟩
       · rw [hLi,← s1]; exact k1
       · rw [hLi,← s1,← s2]; exact k2
       · rw [hLi]; exact k3
       · rw [hLi]; exact k4
       · rw [hLi]; exact k5
       · rw [hLi,← s2]; exact k6
       · rw [hLi]
     · obtain ⟨o',r',hf⟩:=h3 j (by omega)
       exact ⟨o',r',hf.congr fun j' hj'=>hL j' (by omega)⟩
end
end Go.Ev
namespace Go.Ev
variable [Pins]
section
variable {all:Array Oper}
def ub5g_ (acc:Array Nat) (l:List Edge) (s:Nat):Nat:=l.foldl (fun s e=>if Region.binds .any e then s ||| 2 ^ e.on ||| acc.getD e.on 0 else s) s
theorem ucgk_ {acc:Array Nat} {i:Nat}:∀ {l:List Edge} {s:Nat},(ub5g_ acc l s).testBit i=true →
 s.testBit i=true∨∃ e∈l,Region.binds .any e=true∧(e.on=i∨(acc.getD e.on 0).testBit i=true):=by
 intro l
 induction l with
 | nil=>intro s h; exact .inl h
 | cons e r ih =>
   intro s h
   simp only [ub5g_,List.foldl_cons] at h
   rcases ih h with h | ⟨e',h1,h2⟩
   · by_cases hb:Region.binds .any e=true
     · rw [if_pos hb] at h
       simp only [Nat.testBit_or,Bool.or_eq_true,Nat.testBit_two_pow,decide_eq_true_eq] at h
       rcases h with (h | h) | h
       · exact .inl h
       · exact .inr ⟨e,List.mem_cons_self,hb,.inl h⟩
       · exact .inr ⟨e,List.mem_cons_self,hb,.inr h⟩
     · rw [if_neg hb] at h; exact .inl h
   · exact .inr ⟨e',List.mem_cons_of_mem _ h1,h2⟩
def befF (acc:Array Nat) (o:Oper):Array Nat:=acc.push (ub5g_ acc o.after.toList 0)
theorem before_eq (all:Array Oper):Region.before all=all.toList.foldl befF #[]:=by
 unfold Region.before
 rw [← Array.foldl_toList]
 congr 1
 funext acc o
 simp only [befF,ub5g_,Array.foldl_toList]
theorem uco6_:∀ (l:List Oper) (acc:Array Nat),(l.foldl befF acc).size=acc.size+l.length∧(∀ k,k<acc.size→(l.foldl befF acc).getD k 0=acc.getD k 0) ∧
 ∀ (j:Nat) (o:Oper),l[j]? = some o→∃ acc':Array Nat,(∀ k,k<acc.size+j→acc'.getD k 0=(l.foldl befF acc).getD k 0)∧(l.foldl befF acc).getD (acc.size+j) 0=ub5g_ acc' o.after.toList 0:=by
 intro l
 induction l with
 | nil=>intro acc; exact ⟨rfl,fun _ _=>rfl,fun j o h=>by cases h⟩
 | cons o l ih =>
   intro acc
   obtain ⟨h1,h2,h3⟩:=ih (befF acc o)
   have hsz:(befF acc o).size=acc.size+1:=by simp [befF]
   have hlow:∀ k,k<acc.size→(befF acc o).getD k 0=acc.getD k 0:=by
    intro k hk
    simp [befF,Array.getD_eq_getD_getElem?,Array.getElem?_push,Nat.ne_of_lt hk]
   simp only [List.foldl_cons]
   refine ⟨by rw [h1,hsz,List.length_cons]; omega,fun k hk=>by rw [h2 k (by omega),hlow k hk],fun j p hj=>?_⟩
   cases j with
   | zero =>
     have:o=p:=by simpa using hj
     subst this
     refine ⟨acc,fun k hk=>by rw [h2 k (by omega),hlow k (by omega)],?_⟩
     rw [h2 _ (by omega)]
     simp [befF,Array.getD_eq_getD_getElem?]
   | succ j =>
     obtain ⟨acc',k1,k2⟩:=h3 j p (by simpa using hj)
     refine ⟨acc',fun k hk=>k1 k (by omega),?_⟩
     rw [show acc.size+(j+1)=(befF acc o).size+j by omega]
     exact k2
def Back (all:Array Oper):Prop:=∀ (i:Nat) o,all[i]? = some o→∀ e∈o.after,Region.binds .any e=true→e.on<i
def bits (all:Array Oper) (i:Nat):Nat:=(Region.before all).getD i 0
theorem uco7_ (hb:Back all) {j i:Nat} {o:Oper} (ho:all[j]? = some o) (h:(bits all j).testBit i=true) :
 ∃ e∈o.after,Region.binds .any e=true∧(e.on=i∨(bits all e.on).testBit i=true):=by
 obtain ⟨_,_,h3⟩:=uco6_ all.toList #[]
 obtain ⟨acc',k1,k2⟩:=h3 j o (by simpa using ho)
 unfold bits at h
 rw [before_eq] at h
 simp only [List.size_toArray,List.length_nil,Nat.zero_add] at k1 k2
 rw [k2] at h
 rcases ucgk_ h with h | ⟨e,h1,h2,h4⟩
 · simp at h
 · have hmem:e∈o.after:=by simpa using h1
   refine ⟨e,hmem,h2,h4.imp id fun h=>?_⟩
   have hlt:=hb j o ho e hmem h2
   rw [k1 e.on hlt] at h
   unfold bits
   rw [before_eq]; exact h
def Down (all:Array Oper) (S:Nat→Bool):Prop:=∀ (j:Nat) o,S j=true→all[j]? = some o→∀ e∈o.after,Region.binds .any e=true→S e.on=true
theorem ucqr_ (hb:Back all) {S:Nat→Bool} (hd:Down all S):∀ (n j:Nat) (o:Oper),j<n→all[j]? = some o→(∀ e∈o.after,Region.binds .any e=true→S e.on=true) →
 ∀ i,(bits all j).testBit i=true→S i=true∧i<j:=by
 intro n
 induction n with
 | zero=>intro j o h; omega
 | succ n ih =>
   intro j o hj ho hall i h
   obtain ⟨e,he,hbd,h1⟩:=uco7_ hb ho h
   have hlt:=hb j o ho e he hbd
   have hS:=hall e he hbd
   rcases h1 with h1 | h1
   · subst h1; exact ⟨hS,hlt⟩
   · have hsz:j<all.size:=(Array.getElem?_eq_some_iff.1 ho).1
     have hp:all[e.on]? = some all[e.on]:=Array.getElem?_eq_getElem (by omega)
     obtain ⟨k1,k2⟩:=ih e.on _ (by omega) hp (fun e' he' hb'=>hd e.on _ hS hp e' he' hb') i h1
     exact ⟨k1,by omega⟩
structure OrdOK (all:Array Oper) (c:Nat→List Nat×List Nat):Prop where
 back:Back all
 slot:∀ (i j:Nat) (o p:Oper) (t:Nat),all[i]? = some o→all[j]? = some p→i≠j→o.dst=some t→t∈ucdo_ all p→(i<j∧(bits all j).testBit i=true)∨(j<i∧(bits all i).testBit j=true)
 mem:∀ (i j:Nat) (o p:Oper),all[i]? = some o→all[j]? = some p→i≠j→∀ k,k∈(c i).1→k∈(c j).2→(i<j∧(bits all j).testBit i=true)∨(j<i∧(bits all i).testBit j=true)
theorem uceo_ {i j:Nat} (hne:i≠j) (h:uchx_ (Region.before all) i j=true):(i<j∧(bits all j).testBit i=true)∨(j<i∧(bits all i).testBit j=true):=by
 unfold uchx_ at h
 cases hb:Nat.blt i j with
 | true =>
   rw [hb] at h
   exact .inl ⟨by rwa [Nat.blt_eq] at hb,h⟩
 | false =>
   rw [hb] at h
   refine .inr ⟨?_,h⟩
   rw [← Bool.not_eq_true,Nat.blt_eq] at hb
   omega
theorem uco8_:∀ {l m:List Nat},ucoa_ l m=true→∀ k,k∈l→k ∉ m:=by
 intro l
 induction l with
 | nil=>intro m _ k h; cases h
 | cons x l ih =>
   intro m h k hk
   simp only [ucoa_,Bool.and_eq_true,Bool.not_eq_true'] at h
   rcases List.mem_cons.1 hk with rfl | hk
   · intro hm; rw [ubsf_.2 hm] at h; cases h.1
   · exact ih h.2 k hk
theorem ucmh_ {cl:List (List Nat×List Nat)} {c:Nat→List Nat×List Nat} (hc:cl=(List.range all.size).map c) (h:ucdp_ all cl=true):OrdOK all c:=by
 unfold ucdp_ at h
 simp only [Bool.and_eq_true,List.all_eq_true,List.mem_range] at h
 obtain ⟨h1,h2⟩:=h
 have hget:∀ {i:Nat} {o:Oper},all[i]? = some o→i<all.size∧all.getD i default=o:=fun {i o} ho =>
  ⟨(Array.getElem?_eq_some_iff.1 ho).1,by rw [Array.getD_eq_getD_getElem?,ho]; rfl⟩
 have hcl:∀ i,i<all.size→cl.getD i ([],[])=c i:=by
  intro i hi
  rw [hc,List.getD_eq_getElem?_getD,List.getElem?_map,List.getElem?_range hi]
  rfl
 refine ⟨fun i o ho e he hb=>?_,fun i j o p t ho hp hne hd hn=>?_,fun i j o p ho hp hne k h3 h4=>?_⟩
 · obtain ⟨hi,hg⟩:=hget ho
   have:=h1 i hi
   rw [hg] at this
   have:=this e (by simpa using he)
   rw [hb] at this
   simpa [Nat.blt_eq] using this
 · obtain ⟨hi,hg⟩:=hget ho
   obtain ⟨hj,hg'⟩:=hget hp
   have:=h2 i hi j hj
   rw [hg,hg',hd] at this
   have hbeq:Nat.beq i j=false:=by rw [← Bool.not_eq_true]; exact fun hh=>hne (Nat.eq_of_beq_eq_true hh)
   rw [hbeq] at this
   simp only [Bool.false_or,Bool.and_eq_true,Bool.or_eq_true,Bool.not_eq_true'] at this
   rcases this.1 with h | h
   · exact absurd hn (by simpa using h)
   · exact uceo_ hne h
 · obtain ⟨hi,hg⟩:=hget ho
   obtain ⟨hj,hg'⟩:=hget hp
   have:=h2 i hi j hj
   have hbeq:Nat.beq i j=false:=by rw [← Bool.not_eq_true]; exact fun hh=>hne (Nat.eq_of_beq_eq_true hh)
   rw [hbeq,hcl i hi,hcl j hj] at this
   simp only [Bool.false_or,Bool.and_eq_true,Bool.or_eq_true,Bool.not_eq_true'] at this
   rcases this.2 with h | h
   · exact absurd h4 (uco8_ h k h3)
   · exact uceo_ hne h
end
section
variable {P:Program} {fr:Fr} {free free':Nat→Prop} {self:Nat} {σ σ':Nat→Option Obj} {w w':World} {G G':Gh} {I:Im}
theorem ubzg_ {all:Array Oper} {o:Oper} {t:Nat} (h:t∈ucbx_ o∨t∈ulv_ all o∨o.dst=some t):t∈ucdo_ all o:=by
 unfold ucdo_
 simp only [List.mem_append]
 rcases h with h | h | h
 · exact .inl (.inl h)
 · refine .inl (.inr ?_)
   unfold ulv_ at h
   exact h
 · exact .inr (by rw [h]; simp)
theorem ucqs_ {self:Nat} {u:Upd} {k:Nat} (hk:k∈keysW u.wr):(self≤k∧k<self+8)∨k∈u.far self:=by
 obtain ⟨p,hp,rfl⟩:=List.mem_map.1 hk
 cases h:ubj9_ self p.1 with
 | true=>exact .inl (by simpa only [ubj9_,Bool.and_eq_true,Nat.ble_eq,Nat.blt_eq] using h)
 | false=>exact .inr (List.mem_map.2 ⟨p,List.mem_filter.2 ⟨hp,by rw [h]; rfl⟩,rfl⟩)
theorem uct3_ {σ:Nat→Option Obj} {self:Nat} {u:Upd} (h:wrOK σ self u=true) {k:Nat} (hk:k∈keysW u.wr):(self≤k∧k<self+8)∨(σ k).isSome=true:=by
 unfold wrOK at h
 rw [List.all_eq_true] at h
 obtain ⟨p,hp,rfl⟩:=List.mem_map.1 hk
 have:=h p hp
 simp only [ubj9_,Bool.or_eq_true,Bool.and_eq_true,Nat.ble_eq,Nat.blt_eq] at this
 exact this
theorem ucbz_ {all:Array Oper} {n0 i:Nat} {F:List Nat} {σ:Nat→Option Obj} {k:Nat} (h:(seen all true n0 i F σ k).isSome=true) :
 k∈F∧seen all true n0 i F σ k=σ k∧(k<n0∨(bits all i).testBit ((k-n0) / 8)=true):=by
 unfold seen at h ⊢
 simp only [cond_true] at h ⊢
 cases hb:(hasN k F&&(Nat.blt k n0||((Region.before all).getD i 0).testBit ((k-n0) / 8))) with
 | false=>rw [hb] at h; cases h
 | true =>
   rw [Bool.and_eq_true,Bool.or_eq_true,Nat.blt_eq] at hb
   exact ⟨ubsf_.1 hb.1,rfl,hb.2⟩
def freeS (n0:Nat) (S:Nat→Bool) (n:Nat):Nat→Prop:=fun k=>n0≤k∧∀ j,j<n→S j=true→¬ (n0+8*j≤k∧k<n0+8*j+8)
theorem uct4_ {listed:Array Bool} {i j:Nat} (hi:i<listed.size):(listed.setIfInBounds i true).getD j false=(decide (j=i)||listed.getD j false):=by
 by_cases h:j=i
 · subst h; simp [hi]
 · rw [getD_set_ne false (fun e=>h e.symm)]; simp [h]
theorem ucvb_ {E:Env} (hE:EnvOK P fr.dr E) {N n0:Nat} {all:Array Oper} (hgo:GuardsOK all) (hdst:∀ (j:Nat) o d,all[j]? = some o→o.dst=some d→d<N∧fr.fx d=none)
 {L:Nat→Info} {sl0:Nat→SV} {σ0:Nat→Option Obj} (hF:∀ j,j<all.size→∃ o r,Fact E all n0 L sl0 σ0 j o r) (hO:OrdOK all fun i=>(L i).c) {Q:Exit→Act→World→Prop}
 (hQ:∀ a' w' G',SimF P N fr (fun k=>n0+8*all.size≤k) (DS all (fun _=>true)) (slF all L (fun _=>true) sl0 all.size) (stF L (fun _=>true) σ0 all.size) a' w' G'→Q .normal a' w') :
 ∀ (fuel:Nat) (listed:Array Bool) (a:Act) (w:World) (G:Gh),listed.size=all.size→((List.range all.size).filter fun j=>!listed.getD j false).length≤fuel →
  Down all (fun j=>listed.getD j false) →
  SimF P N fr (freeS n0 (fun j=>listed.getD j false) all.size) (DS all (fun j=>listed.getD j false)) (slF all L (fun j=>listed.getD j false) sl0 all.size) (stF L (fun j=>listed.getD j false) σ0 all.size) a w G →
  wpAny P .any all Q fuel listed a w:=by
 have hgetD:∀ {i:Nat} {o:Oper},all[i]? = some o→i<all.size∧all.getD i default=o:=fun {i o} ho =>
  ⟨(Array.getElem?_eq_some_iff.1 ho).1,by rw [Array.getD_eq_getD_getElem?,ho]; rfl⟩
 have hdone:∀ (listed:Array Bool),listed.size=all.size→Region.ready .any all listed=[]→∀ j,j<all.size→listed.getD j false=true:=by
  intro listed hsz hr
  have:∀ n j,j<n→j<all.size→listed.getD j false=true:=by
   intro n
   induction n with
   | zero=>intro j h; omega
   | succ n ih =>
     intro j hj hja
     apply Classical.byContradiction
     intro hn
     have hm:j∈Region.ready .any all listed:=by
      rw [mem_ready]
      refine ⟨?_,all[j],Array.getElem?_eq_getElem hja,fun e he hb=>?_⟩
      · have hj':j<listed.size:=by omega
        simp only [Array.getD_eq_getD_getElem?,Array.getElem?_eq_getElem hj',Option.getD_some,Bool.not_eq_true] at hn ⊢
        exact hn
      · have hlt:=hO.back j _ (Array.getElem?_eq_getElem hja) e he hb
        exact ih e.on (by omega) (by omega)
     rw [hr] at hm; cases hm
  intro j hj
  exact this (j+1) j (by omega) hj
 have hfin:∀ (listed:Array Bool) (a:Act) (w:World) (G:Gh),(∀ j,j<all.size→listed.getD j false=true) →
  SimF P N fr (freeS n0 (fun j=>listed.getD j false) all.size) (DS all (fun j=>listed.getD j false)) (slF all L (fun j=>listed.getD j false) sl0 all.size) (stF L (fun j=>listed.getD j false) σ0 all.size) a w G→Q .normal a w:=by
  intro listed a w G hall hs
  have e1:slF all L (fun j=>listed.getD j false) sl0 all.size=slF all L (fun _=>true) sl0 all.size:=by
   funext t; exact uco4_ fun j hj _=>hall j hj
  have e2:stF L (fun j=>listed.getD j false) σ0 all.size=stF L (fun _=>true) σ0 all.size:=by
   funext t; exact uco5_ fun j hj _=>hall j hj
  rw [e1,e2] at hs
  exact hQ a w G (hs.weaken (fun k hk=>⟨by omega,fun j hj _=>by omega⟩) fun t ht=>ht.mono fun _ _=>rfl)
 intro fuel
 induction fuel with
 | zero =>
   intro listed a w G hsz hfu hdn hs
   have hall:∀ j,j<all.size→listed.getD j false=true:=by
    intro j hj
    apply Classical.byContradiction
    intro hn
    have:j∈(List.range all.size).filter fun j=>!listed.getD j false:=List.mem_filter.2 ⟨List.mem_range.2 hj,by simpa using hn⟩
    rw [List.eq_nil_of_length_eq_zero (Nat.le_zero.1 hfu)] at this
    cases this
   refine ⟨?_,hfin listed a w G hall hs⟩
   rw [List.eq_nil_iff_forall_not_mem]
   intro j hj
   obtain ⟨h1,o,ho,_⟩:=mem_ready.1 hj
   have hj':j<all.size:=(hgetD ho).1
   have:=hall j hj'
   have hj2:j<listed.size:=by omega
   simp only [Array.getD_eq_getD_getElem?,Array.getElem?_eq_getElem hj2,Option.getD_some] at h1 this
   rw [this] at h1; cases h1
 | succ fuel ih =>
   intro listed a w G hsz hfu hdn hs
   refine ⟨fun hr=>hfin listed a w G (hdone listed hsz hr) hs,fun i hi=>?_⟩
   obtain ⟨hun,o,ho,hall⟩:=mem_ready.1 hi
   obtain ⟨hin,hget⟩:=hgetD ho
   have hun':listed.getD i false=false:=by
    have hj2:i<listed.size:=by omega
    simp only [Array.getD_eq_getD_getElem?,Array.getElem?_eq_getElem hj2,Option.getD_some] at hun ⊢
    exact hun
   obtain ⟨o',r,hf⟩:=hF i hin
   have eo:o'=o:=by
    have:=hf.op
    rw [ho] at this
    cases this; rfl
   subst eo
   have hpre:∀ j,(bits all i).testBit j=true→listed.getD j false=true∧j<i:=ucqr_ hO.back hdn (i+1) i o' (by omega) ho hall
   have hpost:∀ j,(bits all j).testBit i=true→j<all.size→listed.getD j false=false:=by
    intro j hb hj
    rw [← Bool.not_eq_true]
    intro hS
    have hp:all[j]? = some all[j]:=Array.getElem?_eq_getElem hj
    have:=(ucqr_ hO.back hdn (j+1) j _ (by omega) hp (fun e he hb=>hdn j _ hS hp e he hb) i hb).1
    rw [hun'] at this; cases this
   have hord:∀ j,j<all.size→((i<j∧(bits all j).testBit i=true)∨(j<i∧(bits all i).testBit j=true))→listed.getD j false=decide (j<i):=by
    intro j hj h
    rcases h with ⟨h1,h2⟩ | ⟨h1,h2⟩
    · rw [hpost j h2 hj]; symm; rw [decide_eq_false_iff_not]; omega
    · rw [(hpre j h2).1]; symm; rw [decide_eq_true_eq]; exact h1
   have hcls:∀ j oj,all[j]? = some oj→(L j).c.1=(L j).u.far (n0+8*j)∧wrOK (seen all true n0 j (L j).c.2 (stF L (fun _=>true) σ0 j)) (n0+8*j) (L j).u=true:=by
    intro j oj hj
    obtain ⟨o'',r'',hf''⟩:=hF j (hgetD hj).1
    exact ⟨hf''.cls,hf''.wr⟩
   have hslot:∀ t,t∈ucdo_ all o'→slF all L (fun _=>true) sl0 i t=slF all L (fun j=>listed.getD j false) sl0 all.size t:=by
    intro t ht
    rw [← ucmf_ (S:=fun j=>decide (j<i)) (n:=all.size) (by omega) (fun j hj=>by simpa using hj) (fun j hj _=>by simpa using hj)]
    refine uco4_ fun j hj hd=>?_
    by_cases e:j=i
    · subst e; rw [hun']; simp
    · have hp:all[j]? = some all[j]:=Array.getElem?_eq_getElem hj
      rw [(hgetD hp).2] at hd
      exact (hord j hj ((hO.slot j i _ o' t hp ho e hd ht).symm)).symm
   have hsto:∀ k,(seen all true n0 i (L i).c.2 (stF L (fun _=>true) σ0 i) k).isSome=true →
    seen all true n0 i (L i).c.2 (stF L (fun _=>true) σ0 i) k=stF L (fun j=>listed.getD j false) σ0 all.size k:=by
    intro k hk
    obtain ⟨h1,h2,h3⟩:=ucbz_ hk
    rw [h2]
    rw [← ucmg_ (S:=fun j=>decide (j<i)) (n:=all.size) (by omega) (fun j hj=>by simpa using hj) (fun j hj _=>by simpa using hj)]
    refine uco5_ fun j hj hd=>?_
    by_cases e:j=i
    · subst e; rw [hun']; simp
    · have hp:all[j]? = some all[j]:=Array.getElem?_eq_getElem hj
      obtain ⟨hc,hw⟩:=hcls j _ hp
      rcases ucqs_ (self:=n0+8*j) hd with ⟨k1,k2⟩ | hl
      · have hdiv:(k-n0) / 8=j:=by omega
        rcases h3 with h3 | h3
        · omega
        · rw [hdiv] at h3
          exact (hord j hj (.inr ⟨(hpre j h3).2,h3⟩)).symm
      · exact (hord j hj ((hO.mem j i _ o' hp ho e k (hc▸hl) h1).symm)).symm
   refine ucqq_ hE ho (self:=n0+8*i) (sl0:=slF all L (fun _=>true) sl0 i) hs ?_ ?_ ?_ hf.grd ?_ ?_ hf.val hf.gives hf.gives' hf.calm ?_
   · intro t ht
     exact hslot t (ubzg_ (ht.elim .inl fun h=>.inr (.inl h)))
   · intro t ht
     obtain ⟨j,b,p,hg,hp,hd⟩:=ubvn_ ht
     have hh:=ucaa_ ho hg
     refine ⟨hh,j,p,?_,hp,hd⟩
     have hji:=hgo.back hh i o' j b ho hg
     have:=hO.slot j i p o' t hp ho (by omega) hd (ubzg_ (.inr (.inl ht)))
     show listed.getD j false=true
     rw [hord j (by omega) this.symm]; simpa using hji
   · intro d hd
     refine ⟨hdst i o' d ho hd,fun hD=>?_⟩
     obtain ⟨hh,j,p,hj,hp,hpd⟩:=hD
     have hj:listed.getD j false=true:=hj
     have hne:j≠i:=fun e=>by subst e; rw [hun'] at hj; cases hj
     rcases Nat.lt_or_ge j i with h | h
     · exact hgo.uniq hh j i p o' d h hp ho hpd hd
     · exact hgo.uniq hh i j o' p d (by omega) ho hp hd hpd
   · intro k ob hk
     rw [← hsto k (by rw [hk]; rfl)]; exact hk
   · intro k h1 h2
     refine ⟨by omega,fun j hj hS h3=>?_⟩
     have hS:listed.getD j false=true:=hS
     have:j=i:=by omega
     subst this
     rw [hun'] at hS; cases hS
   · intro a' w' G' _ hs'
     have hset:∀ j,(listed.setIfInBounds i true).getD j false=(decide (j=i)||listed.getD j false):=fun j=>uct4_ (by omega)
     have hS':(fun j=>(listed.setIfInBounds i true).getD j false)=fun j=>(decide (j=i)||listed.getD j false):=funext hset
     refine ih (listed.setIfInBounds i true) a' w' G' (by simpa using hsz) ?_ ?_ ?_
     · have hlt:((List.range all.size).filter fun j=>!(listed.setIfInBounds i true).getD j false).length<((List.range all.size).filter fun j=>!listed.getD j false).length:=by
        have hsub:((List.range all.size).filter fun j=>!(listed.setIfInBounds i true).getD j false)=((List.range all.size).filter fun j=>!listed.getD j false).filter fun j=>!decide (j=i):=by
         rw [List.filter_filter]
         refine List.filter_congr fun j _=>?_
         rw [hset,Bool.not_or]
        rw [hsub]
        refine List.length_filter_lt_length_iff_exists.2 ⟨i,List.mem_filter.2 ⟨List.mem_range.2 hin,by rw [hun']; rfl⟩,by simp⟩
       omega
     · intro j p hj hp e he hb
       have hj:(listed.setIfInBounds i true).getD j false=true:=hj
       show (listed.setIfInBounds i true).getD e.on false=true
       rw [hset] at hj ⊢
       rw [Bool.or_eq_true,decide_eq_true_eq] at hj ⊢
       rcases hj with rfl | hj
       · rw [ho] at hp
         cases hp
         exact .inr (hall e he hb)
       · exact .inr (hdn j p hj hp e he hb)
     · rw [hS']
       have e1:ubva_ (slF all L (fun j=>listed.getD j false) sl0 all.size) o'.dst (mkGrd (L i).tk (L i).g (L i).u.sv)=slF all L (fun j=>(decide (j=i)||listed.getD j false)) sl0 all.size:=by
        funext t
        rw [ubbh_]
        by_cases hd:o'.dst=some t
        · rw [if_pos hd]
          refine (ucr9_ (S:=fun j=>(decide (j=i)||listed.getD j false)) (by simp) (by rw [hget]; exact hd) hin fun j h1 h2 h3=>?_).symm
          have hp:all[j]? = some all[j]:=Array.getElem?_eq_getElem h2
          rw [(hgetD hp).2] at h3
          have:=hO.slot i j o' _ t ho hp (by omega) hd (ubzg_ (.inr (.inr h3)))
          have:=hord j h2 this
          rw [this]
          simp; omega
        · rw [if_neg hd]
          refine uco4_ fun j hj h3=>?_
          have:j≠i:=fun e=>by subst e; rw [hget] at h3; exact hd h3
          simp [this]
       have e2:u3_ (stF L (fun j=>listed.getD j false) σ0 all.size) (L i).u.wr=stF L (fun j=>(decide (j=i)||listed.getD j false)) σ0 all.size:=by
        funext k
        by_cases hk:k∈keysW (L i).u.wr
        · refine (ucsa_ (S:=fun j=>(decide (j=i)||listed.getD j false)) (by simp) hk hin fun j h1 h2 h3=>?_).symm
          have hp:all[j]? = some all[j]:=Array.getElem?_eq_getElem h2
          have hne:¬ j=i:=by omega
          simp only [hne,decide_false,Bool.false_or]
          rw [← Bool.not_eq_true]
          intro hS
          have hno:¬ ((i<j∧(bits all j).testBit i=true)∨(j<i∧(bits all i).testBit j=true)):=by
           intro h
           have:=hord j h2 h
           rw [hS] at this
           simp at this; omega
          obtain ⟨hci,hwi⟩:=hcls i o' ho
          obtain ⟨hcj,hwj⟩:=hcls j _ hp
          rcases uct3_ hwj h3 with hkj | hkj
          · rcases uct3_ hwi hk with hki | hki
            · omega
            · obtain ⟨q1,q2,q3⟩:=ucbz_ hki
              have hdiv:(k-n0) / 8=j:=by omega
              rcases q3 with q3 | q3
              · omega
              · rw [hdiv] at q3
                have:=(hpre j q3).2
                omega
          · obtain ⟨q1,q2,q3⟩:=ucbz_ hkj
            rcases ucqs_ (self:=n0+8*i) hk with hki | hki
            · have hdiv:(k-n0) / 8=i:=by omega
              rcases q3 with q3 | q3
              · omega
              · rw [hdiv] at q3
                exact hno (.inl ⟨h1,q3⟩)
            · exact hno (hO.mem i j o' _ ho hp (by omega) k (hci▸hki) q1)
        · rw [ub5f_ hk]
          refine uco5_ fun j hj h3=>?_
          have:j≠i:=fun e=>by subst e; exact hk h3
          simp [this]
       rw [← e1,← e2]
       refine hs'.weaken (fun k hk=>⟨⟨hk.1,fun j hj hS h3=>hk.2 j hj (by simp only [Bool.or_eq_true]; exact .inr hS) h3⟩,?_⟩) fun t ht=>ht.mono fun j hj=>by simp only [Bool.or_eq_true]; exact .inr hj
       have:=hk.2 i hin (by simp)
       rw [← Bool.not_eq_true]
       simp only [ubj9_,Bool.and_eq_true,Nat.ble_eq,Nat.blt_eq]
       exact this
end
end Go.Ev
namespace Go.Ev
variable [Pins]
structure SimN (P:Program) (N:Nat) (fr:Fr) (st:St) (a:Act) (w:World) (G:Gh):Prop where
 slots:∀ t,SlotOK P w G a (st.slots t) (a.tmps.getD t undef)
 defs:a.defers=[]
 size:a.tmps.size=N
 fix:∀ t v,fr.fx t=some v→a.tmps.getD t undef=v
 nogrd:∀ t tk g s,st.slots t≠.grd tk g s
 mem:MemS P fr (fun k=>st.n≤k) st.sto w G
 drawn:fr.dr=true→fr.w0.drawn≤w.drawn
section
variable {dr:Bool}
variable {P:Program} {fr:Fr} {free free':Nat→Prop} {self:Nat} {σ σ':Nat→Option Obj} {w w':World} {G G':Gh} {I:Im}
theorem ucsb_:∀ {l:List Oper},(l.filterMap (·.dst)).Nodup→∀ (i j:Nat) (o p:Oper) (d:Nat),i<j→l[i]? = some o→l[j]? = some p→o.dst=some d→p.dst≠some d:=by
 intro l
 induction l with
 | nil=>intro _ i j o p d _ h; cases h
 | cons q l ih =>
   intro hn i j o p d hij hi hj ho hp
   cases j with
   | zero=>omega
   | succ j =>
     have hj:l[j]? = some p:=by simpa using hj
     cases i with
     | zero =>
       have:q=o:=by simpa using hi
       subst this
       rw [List.filterMap_cons_some ho] at hn
       exact (List.nodup_cons.1 hn).1 (List.mem_filterMap.2 ⟨p,List.mem_of_getElem? hj,hp⟩)
     | succ i =>
       have hn':(l.filterMap (·.dst)).Nodup:=by
        cases hq:q.dst with
        | none=>rw [List.filterMap_cons_none hq] at hn; exact hn
        | some e=>rw [List.filterMap_cons_some hq] at hn; exact (List.nodup_cons.1 hn).2
       exact ih hn' i j o p d (by omega) (by simpa using hi) hj ho hp
theorem ucjn_ {all:Array Oper} (h:uxr_ all=true→utm_ (dsts all)=true∧ubkb_ all=true):GuardsOK all:=by
 refine ⟨fun hh i j o p d hij hi hj ho=>?_,fun hh i o j b hi hg=>?_⟩
 · exact ucsb_ (ub97_ (h hh).1) i j o p d hij (by simpa using hi) (by simpa using hj) ho
 · have h2:=(h hh).2
   unfold ubkb_ at h2
   rw [List.all_eq_true] at h2
   have:=h2 i (List.mem_range.2 (Array.getElem?_eq_some_iff.1 hi).1)
   rw [Array.getD_eq_getD_getElem?,hi] at this
   simp only [Option.getD_some,hg,Nat.blt_eq] at this
   exact this
theorem uco9_ {Ω:Type} {E:Env} (hE:EnvOK P fr.dr E) (hmix:P.follows .mixedOrders=true) {N:Nat} {ops:Array Oper} {draw:Bool} {id:Nat} {st:St} {K:St→Option Ω} {ω:Ω} {Q:Exit→Act→World→Prop}
 (hdst:∀ (j:Nat) o d,ops[j]? = some o→o.dst=some d→d<N∧fr.fx d=none) {a:Act} (h:ucf0_ E ops draw st K=some ω) (hs:SimN P N fr st a w G)
 (hQ:∀ st' a' w' G',SimN P N fr st' a' w' G'→K st'=some ω→Q .normal a' w'):(Code.region id ops draw).wp P Q a w:=by
 unfold ucf0_ at h
 have hgo:GuardsOK ops:=by
  refine ucjn_ fun hh=>?_
  rw [hh] at h
  cases h1:utm_ (dsts ops) <;> cases h2:ubkb_ ops <;> rw [h1,h2] at h <;> first | exact ⟨rfl,rfl⟩ | cases h
 have h:evOps E ops draw st.n ops.toList 0 st [] (fun st' cl=>bif !draw||ucdp_ ops cl.reverse then
  K { slots:=bif uxr_ ops then ubka_ st'.slots else st'.slots,sto:=st'.sto,n:=st.n+8*ops.size } else none)=some ω:=by
  cases hc:(uxr_ ops && !(utm_ (dsts ops)&&ubkb_ ops)) with
  | true=>rw [hc] at h; cases h
  | false=>rw [hc] at h; exact h
 have fin:∀ (st':St) (S:Nat→Bool) (a':Act) (w':World) (G':Gh),SimF P N fr (fun k=>st.n+8*ops.size≤k) (DS ops S) st'.slots st'.sto a' w' G' →
  K { slots:=bif uxr_ ops then ubka_ st'.slots else st'.slots,sto:=st'.sto,n:=st.n+8*ops.size }=some ω→Q .normal a' w':=by
  intro st' S a' w' G' hs' hK
  refine hQ _ a' w' G' ⟨fun t=>?_,hs'.defs,hs'.size,hs'.fix,fun t tk g s=>?_,hs'.mem,hs'.drawn⟩ hK
  · have:=hs'.slots t
    cases hh:uxr_ ops with
    | false=>exact this
    | true =>
      simp only [cond_true,ubka_]
      split
      · exact (SR.undef _).slotOK
      · exact this
  · cases hh:uxr_ ops with
    | false =>
      intro h
      obtain ⟨h1,h2⟩:=hs'.toks t tk g s h
      cases tk with
      | nil=>exact h1 rfl
      | cons p r =>
        have:=(h2 p List.mem_cons_self).1
        rw [hh] at this; cases this
    | true =>
      simp only [cond_true,ubka_]
      split
      · intro h; cases h
      · rename_i hn
        intro h
        exact hn _ _ _ h
 cases draw with
 | false =>
   refine wp_region ?_
   have:=ucme_ hE hgo hdst (Q:=Q) ops.toList 0 st [] a w G h (by simp) (by simp) ⟨hs.slots,hs.defs,hs.size,hs.fix,fun t tk g s hh=>absurd hh (hs.nogrd t tk g s),hs.mem.shrink fun k hk=>by simpa using hk,hs.drawn⟩
    (fun st' cl' a' w' G' hs' _ hK=>fin st' _ a' w' G' hs' hK)
   rw [List.range_eq_range']
   simpa using this
 | true =>
   obtain ⟨L,hF,hK⟩:=ucjm_ (sl0:=st.slots) (σ0:=st.sto) ops.toList 0 st (fun _=>⟨[],true,⟨.undef,[]⟩,([],[])⟩) h (by simp) (by simp) rfl rfl (fun j hj=>by omega)
   refine wp_region_any hmix ?_
   cases ho:ucdp_ ops ((List.range ops.size).map fun j=>(L j).c) with
   | false=>simp only [List.reverse_reverse,ho,Bool.not_true,Bool.or_false,cond_false] at hK; cases hK
   | true =>
     simp only [List.reverse_reverse,ho,Bool.not_true,Bool.false_or,cond_true] at hK
     have hrep:∀ j,(Array.replicate ops.size false).getD j false=false:=by
      intro j
      simp only [Array.getD_eq_getD_getElem?,Array.getElem?_replicate]
      split <;> rfl
     have e1:slF ops L (fun j=>(Array.replicate ops.size false).getD j false) st.slots ops.size=st.slots:=by
      rw [ucmf_ (i:=0) (Nat.zero_le _) (fun j hj=>by omega) (fun j _ _=>hrep j)]; rfl
     have e2:stF L (fun j=>(Array.replicate ops.size false).getD j false) st.sto ops.size=st.sto:=by
      rw [ucmg_ (i:=0) (Nat.zero_le _) (fun j hj=>by omega) (fun j _ _=>hrep j)]; rfl
     refine ucvb_ (n0:=st.n) (sl0:=st.slots) (σ0:=st.sto) hE hgo hdst hF (ucmh_ rfl ho) (fun a' w' G' hs'=>fin ⟨slF ops L (fun _=>true) st.slots ops.size,stF L (fun _=>true) st.sto ops.size,0⟩ _ a' w' G' hs' hK) ops.size _ a _ G (by simp)
      (Nat.le_trans (List.length_filter_le _ _) (by simp)) (fun j o hj=>?_) ?_
     · have hj:(Array.replicate ops.size false).getD j false=true:=hj
       rw [hrep j] at hj; cases hj
     · rw [e1,e2]
       refine SimF.draws ⟨hs.slots,hs.defs,hs.size,hs.fix,fun t tk g s hh=>absurd hh (hs.nogrd t tk g s),hs.mem.shrink fun k hk=>hk.1,hs.drawn⟩ _ (Nat.le_succ _)
def exOf:Ex→Exit
 | .normal=>.normal
 | .exit i=>.exit i
 | .ret=>.ret
theorem ucif_ {Q:Exit→Act→World→Prop} {K:Act→World→Prop} {e:Ex} {a:Act} {w:World} (h:match e with | .normal=>K a w | e=>Q (exOf e) a w):Exit.then K Q (exOf e) a w:=by
 cases e <;> exact h
def OutS (P:Program) (w:World) (I:Im) (a:Act) (e:Exit) (hs:Nat) (bs:List Nat):(l:List (Ex×Kp))→OutT l→Prop
 | [],x=>Empty.elim x
 | [o],x=>e=exOf o.1∧∃ bs',ShL P w I o.2.sh x (o.2.tm.map fun t=>a.tmps.getD t undef) bs'∧bs'.Nodup∧∀ b∈bs',b∈bs∨hs≤b
 | o::p::r,x=>Sum.casesOn (motive:=fun _=>Prop) x (fun y=>e=exOf o.1∧∃ bs',ShL P w I o.2.sh y (o.2.tm.map fun t=>a.tmps.getD t undef) bs'∧bs'.Nodup∧∀ b∈bs',b∈bs∨hs≤b)
  (fun y=>OutS P w I a e hs bs (p::r) y)
def ucmi_ (P:Program) (dr:Bool) (N:Nat) (s:CSpec) (x:OutT s.outs) (a0:Act) (w:World) (I:Im) (bs:List Nat):Exit→Act→World→Prop:=fun e a' w' =>
 a'.defers=[]∧a'.tmps.size=N∧(∀ t,hasN t s.wrs=false→a'.tmps.getD t undef=a0.tmps.getD t undef)∧(dr=true→w.drawn≤w'.drawn)∧∃ I',After (·∈bs) w I w' I'∧OutS P w' I' a' e w.heap.size bs s.outs x
def alV (a:Act) (c:Nat):Value:=bif Nat.blt c 1048576 then a.tmps.getD c undef else .func (.func (c / 1048576-1)) #[] #[a.tmps.getD (c % 1048576) undef]
def AlEq (al:List (Nat×Nat)) (a:Act):Prop:=∀ t j,lookN al t=some j→a.tmps.getD t undef=alV a j
def CutOK (P:Program) (dr:Bool) (N:Nat) (s:CSpec) (c:Code):Prop :=
 ∀ (w:World) (I:Im) (a:Act) (v:TupR s.inn.sh) (bs:List Nat) (x:OutT s.outs),Mem w I→a.defers=[]→a.tmps.size=N→AlEq s.al a→ShL P w I s.inn.sh v (s.inn.tm.map fun t=>a.tmps.getD t undef) bs→bs.Nodup →
  s.F v=some x→c.wp P (ucmi_ P dr N s x a w I bs) a w
theorem ucep_ {a:Act}:∀ {tm:List Nat} {l:List SV},(∀ (j:Nat) (s:SV) (t:Nat),l[j]? = some s→tm[j]? = some t→SR P w G s (a.tmps.getD t undef))→∀ t,SR P w G (ub4w_ tm l t) (a.tmps.getD t undef):=by
 intro tm
 induction tm with
 | nil=>intro l _ t; simp only [ub4w_]; exact SR.undef _
 | cons d tm ih =>
   intro l hl t
   cases l with
   | nil=>simp only [ub4w_]; exact SR.undef _
   | cons s l =>
     simp only [ub4w_]
     cases hb:Nat.beq t d with
     | true =>
       have e:=Nat.eq_of_beq_eq_true hb
       subst e
       exact hl 0 s t rfl rfl
     | false=>exact ih (fun j s' t' h1 h2=>hl (j+1) s' t' (by simpa using h1) (by simpa using h2)) t
theorem ucgl_:∀ (l:List (Nat×Option Obj)) (i:Nat),(lookN l i).getD none=u3_ (fun _=>none) l i:=by
 intro l
 induction l with
 | nil=>intro i; rfl
 | cons p r ih =>
   intro i
   obtain ⟨j,o⟩:=p
   simp only [lookN,u3_]
   cases hb:Nat.beq i j with
   | true=>rfl
   | false=>exact ih i
theorem ucpa_:∀ {l:List Sh} {x:TupR l} {n:Nat},uckm_ (mkL l x n) n=n+cntL l:=by
 intro l
 induction l with
 | nil=>intro x n; rfl
 | cons a l ih =>
   intro x n
   cases l with
   | nil=>exact (ucgc_ a x n).trans (by simp [cntL])
   | cons b l =>
     have:uckm_ (mkL (a::b::l) x n) n=uckm_ (mkL (b::l) x.2 (mkC a x.1 n).nx) (mkC a x.1 n).nx:=rfl
     rw [this,ih,ucgc_]
     simp only [cntL]; omega
theorem ucmj_ {N:Nat} {k:Kp} {v:TupR k.sh} {a:Act} {bs:List Nat} (hd:a.defers=[]) (hN:a.tmps.size=N) (hfx:∀ t v,fr.fx t=some v→a.tmps.getD t undef=v) (haf:After fr.gv fr.w0 fr.i0 w I) (hdr:fr.dr=true→fr.w0.drawn≤w.drawn)
 (h:ShL P w I k.sh v (k.tm.map fun t=>a.tmps.getD t undef) bs) (hnd:bs.Nodup) (hbs:∀ b∈bs,fr.owned b):∃ G',SimN P N fr (mkSt k v) a w G':=by
 let G0:Gh:=⟨I,fun _ _=>none,fun _=>none,fun _=>none⟩
 have hm0:MemS P fr (fun _=>True) (fun _=>none) w G0:=⟨fun k o h=>(by cases h),fun j k o o' b h=>(by cases h),haf,fun k _=>⟨rfl,rfl,rfl,fun _=>rfl⟩⟩
 obtain ⟨G',h1,h2,h3,h4⟩:=ucrx_ (n:=0) (G:=G0) hm0 h hnd (fun b hb=>⟨hbs b hb,fun j o h=>(by cases h)⟩) (fun _ _ _=>trivial)
 have hsr:∀ t,SR P w G' ((mkSt k v).slots t) (a.tmps.getD t undef):=by
  refine ucep_ fun j s t hj ht=>?_
  rw [List.getElem?_map] at hj
  cases hm:(mkL k.sh v 0)[j]? with
  | none=>rw [hm] at hj; cases hj
  | some m =>
    rw [hm] at hj
    cases hj
    exact h4 j m _ hm (by rw [List.getElem?_map,ht]; rfl)
 refine ⟨G',fun t=>(hsr t).slotOK,hd,hN,hfx,fun t tk g s h=>?_,?_,hdr⟩
 · have:=hsr t
   rw [h] at this
   exact this.not_grd
 · have e:(mkSt k v).sto=u3_ (fun _=>none) ((mkL k.sh v 0).flatMap (·.obs)):=funext fun i=>ucgl_ _ i
   rw [e]
   refine h1.mem.shrink fun j hj=>⟨trivial,fun hh=>?_⟩
   have:(mkSt k v).n=0+cntL k.sh:=ucpa_
   omega
theorem ucqt_ {N:Nat} {st:St} {a:Act} (hs:SimN P N fr st a w G) (j:Nat):SR P w G (alSV st.slots j) (alV a j):=by
 have h:∀ j,SR P w G (st.slots j) (a.tmps.getD j undef):=by
  intro j
  have h1:SlotOK P w G a (st.slots j) (a.tmps.getD j undef):=hs.slots _
  have h2:∀ tk g s,st.slots j≠.grd tk g s:=hs.nogrd _
  generalize st.slots j=s at h1 h2
  cases s <;> first | exact h1 | exact absurd rfl (h2 _ _ _)
 unfold alSV alV
 cases hb:Nat.blt j 1048576 with
 | true=>exact h j
 | false=>exact ⟨_,rfl,#[_],rfl,_,[],rfl,h _,rfl⟩
theorem uct5_ {N:Nat} {st:St} {a a':Act} {al:List (Nat×Nat)} {wrs:List Nat} (hs:SimN P N fr st a' w G) (hal:AlEq al a) (hfr:∀ t,hasN t wrs=false→a'.tmps.getD t undef=a.tmps.getD t undef):SimN P N fr (alSt al wrs st) a' w G:=by
 unfold alSt
 split
 · exact hs
 · have key:∀ t,alPut al wrs st.slots t=st.slots t∨∃ c,alPut al wrs st.slots t=alSV st.slots c∧a'.tmps.getD t undef=alV a' c:=by
    intro t
    unfold alPut
    split
    · rename_i c hc
      cases hb:(hasN t wrs||hasN (ucq5_ c) wrs) with
      | true=>exact .inl rfl
      | false =>
        simp only [Bool.or_eq_false_iff] at hb
        refine .inr ⟨c,rfl,?_⟩
        rw [hfr t hb.1,hal t c hc]
        have h2:=hb.2
        unfold ucq5_ at h2
        unfold alV
        cases hj:Nat.blt c 1048576 with
        | true=>rw [hj] at h2; exact (hfr _ h2).symm
        | false=>rw [hj] at h2; simp only [cond_false] at h2 ⊢; rw [hfr _ h2]
    · exact .inl rfl
   refine ⟨fun t=>?_,hs.defs,hs.size,hs.fix,fun t tk g s=>?_,hs.mem,hs.drawn⟩
   · show SlotOK P w G a' (alPut al wrs st.slots t) _
     rcases key t with e | ⟨c,e,e2⟩
     · rw [e]; exact hs.slots t
     · rw [e,e2]; exact (ucqt_ hs c).slotOK
   · show alPut al wrs st.slots t≠_
     rcases key t with e | ⟨c,e,e2⟩
     · rw [e]; exact hs.nogrd t tk g s
     · rw [e]
       intro h
       have:=ucqt_ hs c
       rw [h] at this
       exact this.not_grd
theorem ucgm_ {N:Nat} {al:List (Nat×Nat)} {k:Kp} {v:TupR k.sh} {a:Act} (hs:SimN P N fr (mkSt k v) a w G) (hal:AlEq al a):SimN P N fr (mkStA al k v) a w G:=by
 refine ⟨fun t=>?_,hs.defs,hs.size,hs.fix,fun t tk g s=>?_,hs.mem,hs.drawn⟩
 · show SlotOK P w G a (addAl al (mkSt k v).slots t) _
   unfold addAl
   split
   · rename_i j hj
     rw [hal t j hj]
     unfold alSV alV
     cases hb:Nat.blt j 1048576 with
     | true=>exact hs.slots j
     | false =>
       have h1:SlotOK P w G a ((mkSt k v).slots (j % 1048576)) (a.tmps.getD (j % 1048576) undef):=hs.slots _
       have h2:∀ tk g s,(mkSt k v).slots (j % 1048576)≠.grd tk g s:=hs.nogrd _
       have h3:SR P w G ((mkSt k v).slots (j % 1048576)) (a.tmps.getD (j % 1048576) undef):=by
        generalize (mkSt k v).slots (j % 1048576)=s at h1 h2
        cases s <;> first | exact h1 | exact absurd rfl (h2 _ _ _)
       exact ⟨_,rfl,#[_],rfl,_,[],rfl,h3,rfl⟩
   · exact hs.slots t
 · show addAl al (mkSt k v).slots t≠_
   unfold addAl
   split
   · rename_i j hj
     unfold alSV
     cases hb:Nat.blt j 1048576 with
     | true=>exact hs.nogrd _ tk g s
     | false=>intro h; cases h
   · exact hs.nogrd _ tk g s
theorem ucqu_ {N:Nat} {st:St} {a:Act} (hs:SimN P N fr st a w G):∀ {al:List (Nat×Nat)},alOK al st.slots=true→AlEq al a:=by
 have hsr:∀ t k g,st.slots t=.obj k g→G.val k g=some (a.tmps.getD t undef):=by
  intro t k g h
  have:=hs.slots t
  rw [h] at this
  exact ubvd_ this
 intro al
 induction al with
 | nil=>intro _ t j h; cases h
 | cons p r ih =>
   intro h t j hj
   simp only [alOK,Bool.and_eq_true] at h
   obtain ⟨x,y⟩:=p
   simp only [lookN] at hj
   cases hb:Nat.beq t x with
   | false=>rw [hb] at hj; exact ih h.2 t j hj
   | true =>
     rw [hb] at hj
     have e1:=Nat.eq_of_beq_eq_true hb
     have e2:y=j:=Option.some.inj hj
     subst e1 e2
     have hh:=h.1
     unfold alOne at hh
     unfold alV
     cases hb:Nat.blt y 1048576 with
     | true =>
     rw [hb] at hh
     simp only [cond_true] at hh ⊢
     unfold sameH at hh
     split at hh
     · rename_i k g k' g' h1 h2
       simp only [Bool.and_eq_true] at hh
       have q1:=Nat.eq_of_beq_eq_true hh.1
       have q2:=Nat.eq_of_beq_eq_true hh.2
       subst q1 q2
       have v1:=hsr _ _ _ h1
       have v2:=hsr _ _ _ h2
       rw [v1] at v2
       exact Option.some.inj v2
     · cases hh
     | false =>
     rw [hb] at hh
     simp only [cond_false] at hh ⊢
     split at hh
     · rename_i f s hs1
       simp only [Bool.and_eq_true] at hh
       have q1:=Nat.eq_of_beq_eq_true hh.1
       have hs2:=hs.slots t
       rw [hs1] at hs2
       obtain ⟨c,hc,vs,e1,v,r,e2,hv,e3⟩:=(show SR P w G (.fn f (.scons s .snil)) _ from hs2)
       have e3:r=[]:=e3
       subst e3
       have e4:a.tmps.getD t undef=.func (.func f) #[] vs:=List.singleton_inj.1 ((show c=[_] from hc).symm.trans e1)
       have e5:vs = #[v]:=by apply Array.ext'; exact e2
       rw [e4,e5,q1]
       have hp:=hh.2
       unfold sameP at hp
       split at hp
       · rename_i k u k' u' h1
         have q2:=Nat.eq_of_beq_eq_true hp
         subst q2
         have hs3:=hs.slots (y % 1048576)
         rw [h1] at hs3
         obtain ⟨b,t1,o,b1,b2,b3,b4⟩:=ubgb_ (show SR P w G (.ptr k [] u') _ from hs3)
         obtain ⟨b',t2,o',c1,c2,c3,c4⟩:=ubgb_ (show SR P w G (.ptr k [] u) v from hv)
         rw [b1] at c1
         cases c1
         rw [b2] at c2
         cases c2
         rw [b4,c4]
       · cases hp
     · cases hh
theorem SimN.frz {N:Nat} {st:St} {a:Act} (hs:SimN P N fr st a w G) (k:Kp):∃ G',GLe w G w G'∧SimN P N fr (frzSt k st) a w G':=by
 obtain ⟨G',h1,h2⟩:=ucia_ hs.mem k.sh (k.tm.map st.slots)
 exact ⟨G',h1,fun t=>(hs.slots t).mono h1 fun _ _ _ _=>Iff.rfl,hs.defs,hs.size,hs.fix,hs.nogrd,h2,hs.drawn⟩
theorem ucsc_ {N:Nat} {fs:Nat→Option FSpec} (hE:∀ f sp,fs f=some sp→uf_ P f∧FunOK P f sp) {k:Kp} {st:St} {v:TupR k.sh} {a:Act} (hs:SimN P N fr st a w G) (h:ub77_ fs k (frzSt k st)=some v) :
 ∃ G',SimN P N fr (mkSt k v) a w G':=by
 obtain ⟨G0,_,hs⟩:=hs.frz k
 have hsr:∀ t,SR P w G0 (st.slots t) (a.tmps.getD t undef):=by
  intro t
  have h1:SlotOK P w G0 a (st.slots t) (a.tmps.getD t undef):=hs.slots t
  have h2:∀ tk g s,st.slots t≠.grd tk g s:=hs.nogrd t
  generalize st.slots t=s at h1 h2
  cases s <;> first | exact h1 | exact absurd rfl (h2 _ _ _)
 obtain ⟨bs,h1,h2,h3⟩:=ub4o_ hs.mem hE (vs:=k.tm.map fun t=>a.tmps.getD t undef) h (by simp) (fun j s v hj hv=>by
  rw [List.getElem?_map] at hj hv
  cases ht:k.tm[j]? with
  | none=>rw [ht] at hj; cases hj
  | some t =>
    rw [ht] at hj hv
    cases hj; cases hv
    exact hsr t)
 refine ucmj_ hs.defs hs.size hs.fix hs.mem.after hs.drawn h1 h2 fun b hb=>?_
 obtain ⟨k',_,o,ho,hbo⟩:=h3 b hb
 exact ubdx_ (hs.mem.objs k' o ho) hbo
theorem SimN.sr {N:Nat} {st:St} {a:Act} (hs:SimN P N fr st a w G) (x:Operand):SR P w G (evalO st.slots x) (a.eval x):=by
 have:=ucel_ (x:=x) (tk:=[]) (fun t _=>hs.slots t) (uboy_ a)
 have e:(evalO st.slots x).strip []=evalO st.slots x:=by
  have hn:∀ tk g s,evalO st.slots x≠.grd tk g s:=by
   intro tk g s h
   cases x with
   | tmp t=>exact hs.nogrd t tk g s h
   | const v =>
     have:=ucek_ (P:=P) (w:=w) (G:=G) v
     rw [show uchq_ v=_ from h] at this
     exact this.not_grd
   | func f=>cases h
   | global g=>cases h
  generalize evalO st.slots x=s at hn
  cases s <;> first | rfl | exact absurd rfl (hn _ _ _)
 rw [e] at this
 exact this
def ub5h_ (P:Program) (dr:Bool) (N:Nat) (ok:Nat→Bool) (E:Env):Code→Nat→Prop
 | .seq a b,n=>ub5h_ P dr N ok E a n∧ub5h_ P dr N ok E b (n+nodes a)
 | .cond c a b,n=>match E.cut n with
   | some s=>s.wrs.all ok=true∧CutOK P dr N s (.cond c a b)
   | none=>ub5h_ P dr N ok E a (n+1)∧ub5h_ P dr N ok E b (n+1+nodes a)
 | .block _ b,n=>ub5h_ P dr N ok E b n
 | .loop b,n=>match E.cut n with
   | some s=>s.wrs.all ok=true∧CutOK P dr N s (.loop b)
   | none=>True
 | _,_=>True
def ubbi_ (E:Env):Code→Nat→List (CSpec×Code)
 | .seq a b,n=>ubbi_ E a n++ubbi_ E b (n+nodes a)
 | .cond c a b,n=>match E.cut n with
   | some s=>[(s,.cond c a b)]
   | none=>ubbi_ E a (n+1)++ubbi_ E b (n+1+nodes a)
 | .block _ b,n=>ubbi_ E b n
 | .loop b,n=>match E.cut n with
   | some s=>[(s,.loop b)]
   | none=>[]
 | _,_=>[]
def AllCuts (P:Program) (dr:Bool) (N:Nat) (ok:Nat→Bool):List (CSpec×Code)→Prop
 | []=>True
 | p::r=>(p.1.wrs.all ok=true∧CutOK P dr N p.1 p.2)∧AllCuts P dr N ok r
theorem AllCuts.append {N:Nat} {ok:Nat→Bool}:∀ {l l':List (CSpec×Code)},AllCuts P dr N ok (l++l')→AllCuts P dr N ok l∧AllCuts P dr N ok l':=by
 intro l
 induction l with
 | nil=>intro l' h; exact ⟨trivial,h⟩
 | cons p r ih=>intro l' h; exact ⟨⟨h.1,(ih h.2).1⟩,(ih h.2).2⟩
theorem ucig_ {N:Nat} {ok:Nat→Bool} {E:Env}:∀ {c:Code} {n:Nat},AllCuts P dr N ok (ubbi_ E c n)→ub5h_ P dr N ok E c n:=by
 intro c
 induction c with
 | seq a b iha ihb=>intro n h; exact ⟨iha h.append.1,ihb h.append.2⟩
 | cond c a b iha ihb =>
   intro n h
   simp only [ub5h_]
   simp only [ubbi_] at h
   split at h
   · rename_i s hs
     exact h.1
   · rename_i hs
     exact ⟨iha h.append.1,ihb h.append.2⟩
 | block i b ih=>intro n h; exact ih (n:=n) h
 | loop b ih =>
   intro n h
   simp only [ub5h_]
   simp only [ubbi_] at h
   split at h
   · rename_i s hs
     exact h.1
   · rename_i hs
     trivial
 | _=>intro n h; trivial
def dstOK (ok:Nat→Bool):Code→Bool
 | .seq a b=>dstOK ok a&&dstOK ok b
 | .cond _ a b=>dstOK ok a&&dstOK ok b
 | .block _ b=>dstOK ok b
 | .loop b=>dstOK ok b
 | .region _ ops _=>ops.toList.all fun o=>match o.dst with
   | some d=>ok d
   | none=>true
 | _=>true
theorem ucqv_ {N:Nat} {st:St} {a a':Act} {wrs ks bs bs':List Nat} {I':Im} {k:Kp} {y:TupR k.sh} (hs:SimN P N fr st a w G) (hblk:BlksOf st.sto G ks bs)
 (hwr:∀ d,hasN d wrs=true→fr.fx d=none) (hd:a'.defers=[]) (hN:a'.tmps.size=N) (hfr:∀ t,hasN t wrs=false→a'.tmps.getD t undef=a.tmps.getD t undef)
 (haft:After (·∈bs) w G.im w' I') (hdr:fr.dr=true→w.drawn≤w'.drawn) (hsh:ShL P w' I' k.sh y (k.tm.map fun t=>a'.tmps.getD t undef) bs') (hnd:bs'.Nodup) (hown:∀ b∈bs',b∈bs∨w.heap.size≤b) :
 ∃ G',SimN P N fr (outSt st wrs ks k y) a' w' G':=by
 obtain ⟨g1,g2⟩:=hs.mem.called hblk haft
 obtain ⟨G',h1,h2,h3,h4⟩:=ucrx_ (n:=st.n) g2 hsh hnd (fun b hb=>by
  refine ⟨?_,fun j o ho hbj=>?_⟩
  · rcases hown b hb with h | h
    · obtain ⟨k',_,o,ho,hbo⟩:=hblk b h
      exact ubdx_ (hs.mem.objs k' o ho) hbo
    · exact .inl (Nat.le_trans hs.mem.after.size h)
  · have ho':j ∉ ks∧st.sto j=some o:=by
     rw [usg_] at ho
     by_cases hj:j∈ks
     · rw [if_pos hj] at ho; cases ho
     · rw [if_neg hj] at ho; exact ⟨hj,ho⟩
    have hbj0:Bk G j o b:=by rw [← ue8_ (hs.mem.objs j o ho'.2) g1]; exact hbj
    rcases hown b hb with h | h
    · obtain ⟨k',hk,o2,ho2,hbo⟩:=hblk b h
      have:=hs.mem.sep j k' o o2 b ho'.2 ho2 hbj0 hbo
      subst this
      exact ho'.1 hk
    · have:=ubvg_ (hs.mem.objs j o ho'.2) hbj0
      omega) (fun k' h1 _=>h1)
 have hsr:∀ t,SR P w' G' ((outSt st wrs ks k y).slots t) (a'.tmps.getD t undef):=by
  intro t
  simp only [outSt]
  cases ht:hasN t k.tm with
  | true =>
    refine ucep_ (fun j s t' hj ht'=>?_) t
    rw [List.getElem?_map] at hj
    cases hm:(mkL k.sh y st.n)[j]? with
    | none=>rw [hm] at hj; cases hj
    | some m =>
      rw [hm] at hj
      cases hj
      exact h4 j m _ hm (by rw [List.getElem?_map,ht']; rfl)
  | false =>
    simp only [cond_false]
    cases hw:hasN t wrs with
    | true=>exact SR.undef _
    | false =>
      simp only [cond_false]
      rw [hfr t hw]
      exact ((hs.sr (.tmp t)).mono g1).mono h1.le
 refine ⟨G',fun t=>(hsr t).slotOK,hd,hN,fun t v hv=>?_,fun t tk g s h=>?_,?_,fun h=>Nat.le_trans (hs.drawn h) (hdr h)⟩
 · cases hw:hasN t wrs with
   | true=>rw [hwr t hw] at hv; cases hv
   | false=>rw [hfr t hw]; exact hs.fix t v hv
 · have:=hsr t
   rw [h] at this
   exact this.not_grd
 · simp only [outSt]
   rw [uu_]
   refine h1.mem.shrink fun j hj=>⟨?_,fun hh=>?_⟩
   · show st.n≤j
     have:st.n+cntL k.sh≤j:=hj
     omega
   · have:st.n+cntL k.sh≤j:=hj
     omega
theorem ucmk_ {Ω:Type} {N:Nat} {K:Ex→St→Option Ω} {ω:Ω} {st:St} {a a':Act} {e:Exit} {wrs ks bs:List Nat} {I':Im} (hs:SimN P N fr st a w G) (hblk:BlksOf st.sto G ks bs)
 (hwr:∀ d,hasN d wrs=true→fr.fx d=none) (hd:a'.defers=[]) (hN:a'.tmps.size=N) (hfr:∀ t,hasN t wrs=false→a'.tmps.getD t undef=a.tmps.getD t undef) (haft:After (·∈bs) w G.im w' I') (hdr:fr.dr=true→w.drawn≤w'.drawn) :
 ∀ {l:List (Ex×Kp)} {x:OutT l},uckn_ st wrs ks l x K=some ω→OutS P w' I' a' e w.heap.size bs l x →
 ∃ e' st' G',e=exOf e'∧SimN P N fr st' a' w' G'∧K e' st'=some ω:=by
 intro l
 induction l with
 | nil=>intro x; exact Empty.elim x
 | cons o r ih =>
   intro x h hq
   cases r with
   | nil =>
     obtain ⟨h1,bs',h2,h3,h4⟩:=hq
     obtain ⟨G',h5⟩:=ucqv_ hs hblk hwr hd hN hfr haft hdr h2 h3 h4
     exact ⟨o.1,_,G',h1,h5,h⟩
   | cons p r =>
     cases x with
     | inl y =>
       obtain ⟨h1,bs',h2,h3,h4⟩:=hq
       obtain ⟨G',h5⟩:=ucqv_ hs hblk hwr hd hN hfr haft hdr h2 h3 h4
       exact ⟨o.1,_,G',h1,h5,h⟩
     | inr y=>exact ih (x:=y) h hq
theorem ucih_ {N:Nat} {fs:Nat→Option FSpec} (hE:∀ f sp,fs f=some sp→uf_ P f∧FunOK P f sp) {k:Kp} {st:St} {v:TupR k.sh} {a:Act} (hs:SimN P N fr st a w G) (h:ub77_ fs k st=some v) :
 ∃ bs,ShL P w G.im k.sh v (k.tm.map fun t=>a.tmps.getD t undef) bs∧bs.Nodup∧BlksOf st.sto G (keysL st.sto k.sh (k.tm.map st.slots)) bs :=
 ub4o_ hs.mem hE (vs:=k.tm.map fun t=>a.tmps.getD t undef) h (by simp) (fun j s v hj hv=>by
  rw [List.getElem?_map] at hj hv
  cases ht:k.tm[j]? with
  | none=>rw [ht] at hj; cases hj
  | some t =>
    rw [ht] at hj hv
    cases hj; cases hv
    exact hs.sr (.tmp t))
theorem ucml_ {Ω:Type} {E:Env} (hE:EnvOK P fr.dr E) {N:Nat} {s:CSpec} {c:Code} (hwr:∀ d,hasN d s.wrs=true→fr.fx d=none) (hc:CutOK P fr.dr N s c) {st:St} {K:Ex→St→Option Ω} {ω:Ω} {a:Act} {Q:Exit→Act→World→Prop}
 (h:evCut E s st K=some ω) (hs:SimN P N fr st a w G) (hQ:∀ e st' a' w' G',SimN P N fr st' a' w' G'→K e st'=some ω→Q (exOf e) a' w'):c.wp P Q a w:=by
 unfold evCut at h
 split at h
 · rename_i v hv0
   obtain ⟨hal,hv⟩:alOK s.al st.slots=true∧ub77_ E.fs s.inn (frzSt s.inn st)=some v:=by
    cases hb:alOK s.al st.slots with
    | false=>rw [hb] at hv0; cases hv0
    | true=>rw [hb] at hv0; exact ⟨rfl,hv0⟩
   have hal:=ucqu_ hs hal
   obtain ⟨x,h1,h2⟩:=Option.bind_eq_some_iff.1 h
   obtain ⟨G,_,hs⟩:=hs.frz s.inn
   obtain ⟨bs,p1,p2,p3⟩:=ucih_ hE.fs hs hv
   refine wp_mono (hc w G.im a v bs x hs.mem.after.mem hs.defs hs.size hal p1 p2 h1) fun e a' w' hq=>?_
   obtain ⟨q1,q2,q3,qd,I',q4,q5⟩:=hq
   obtain ⟨e',st',G',rfl,h3,h4⟩:=ucmk_ hs p3 hwr q1 q2 q3 q4 qd h2 q5
   exact hQ e' _ a' w' G' (uct5_ h3 hal q3) h4
 · cases h
theorem ucpb_ {Ω:Type} {E:Env} (hE:EnvOK P fr.dr E) (hmix:P.follows .mixedOrders=true) {N:Nat} {ok:Nat→Bool} (hok:∀ d,ok d=true→d<N∧fr.fx d=none) :
 ∀ (c:Code) (n:Nat) (st:St) (a:Act) (w:World) (G:Gh) (K:Ex→St→Option Ω) (ω:Ω) (Q:Exit→Act→World→Prop),
 dstOK ok c=true→ub5h_ P fr.dr N ok E c n→evC E c n st K=some ω→SimN P N fr st a w G→(∀ e st' a' w' G',SimN P N fr st' a' w' G'→K e st'=some ω→Q (exOf e) a' w')→c.wp P Q a w:=by
 have hall:∀ {l:List Nat},l.all ok=true→∀ d,hasN d l=true→fr.fx d=none:=by
  intro l h d hd
  rw [List.all_eq_true] at h
  exact (hok d (h d (ubsf_.1 hd))).2
 intro c
 induction c with
 | skip=>intro n st a w G K ω Q _ _ h hs hQ; exact wp_skip (hQ .normal st a w G hs h)
 | region id ops draw =>
   intro n st a w G K ω Q hd _ h hs hQ
   refine uco9_ hE hmix (fun j o d hj ho=>?_) h hs fun st' a' w' G' hs' hK=>hQ .normal st' a' w' G' hs' hK
   simp only [dstOK,List.all_eq_true] at hd
   have:=hd o (List.mem_of_getElem? (by simpa using hj))
   rw [ho] at this
   exact hok d this
 | seq x y ihx ihy =>
   intro n st a w G K ω Q hd hc h hs hQ
   simp only [dstOK,Bool.and_eq_true] at hd
   refine wp_seq (ihx n st a w G _ ω _ hd.1 hc.1 h hs fun e st' a' w' G' hs' hK=>ucif_ ?_)
   cases e with
   | normal=>exact ihy _ st' a' w' G' K ω Q hd.2 hc.2 hK hs' hQ
   | exit i=>exact hQ (.exit i) st' a' w' G' hs' hK
   | ret=>exact hQ .ret st' a' w' G' hs' hK
 | cond c x y ihx ihy =>
   intro n st a w G K ω Q hd hc h hs hQ
   simp only [dstOK,Bool.and_eq_true] at hd
   simp only [evC] at h
   simp only [ub5h_] at hc
   split at h
   · rename_i s hcut
     rw [hcut] at hc
     exact ucml_ hE (hall hc.1) hc.2 h hs hQ
   · rename_i hcut
     rw [hcut] at hc
     split at h
     · rename_i t ht
       have hv:=hs.sr c
       rw [ht] at hv
       have hv:=hv.bool
       cases t with
       | true=>exact wp_cond_true hv (ihx _ st a w G K ω Q hd.1 hc.1 h hs hQ)
       | false=>exact wp_cond_false hv (ihy _ st a w G K ω Q hd.2 hc.2 h hs hQ)
     · cases h
 | block id b ih =>
   intro n st a w G K ω Q hd hc h hs hQ
   refine wp_block (ih n st a w G _ ω _ hd hc h hs fun e st' a' w' G' hs' hK=>?_)
   cases e with
   | normal=>exact hQ .normal st' a' w' G' hs' hK
   | ret=>exact hQ .ret st' a' w' G' hs' hK
   | exit i =>
     simp only [exOf,Exit.inBlock]
     simp only at hK
     by_cases e:i=id
     · subst e
       rw [if_pos rfl]
       rw [Nat.beq_refl] at hK
       exact hQ .normal st' a' w' G' hs' hK
     · rw [if_neg e]
       rw [show Nat.beq i id=false by rw [← Bool.not_eq_true]; exact fun hh=>e (Nat.eq_of_beq_eq_true hh)] at hK
       exact hQ (.exit i) st' a' w' G' hs' hK
 | loop b ih =>
   intro n st a w G K ω Q hd hc h hs hQ
   simp only [evC] at h
   simp only [ub5h_] at hc
   split at h
   · rename_i s hcut
     rw [hcut] at hc
     exact ucml_ hE (hall hc.1) hc.2 h hs hQ
   · cases h
 | exit i=>intro n st a w G K ω Q _ _ h hs hQ; exact wp_exit (hQ (.exit i) st a w G hs h)
 | ret=>intro n st a w G K ω Q _ _ h hs hQ; exact wp_ret (hQ .ret st a w G hs h)
 | _=>intro n st a w G K ω Q _ _ h; cases h
theorem ucpc_ {E:Env} (hE:EnvOK P fr.dr E) {N:Nat} {e:Ex} {st:St} {a:Act} (hs:SimN P N fr st a w G) {bs:List Nat} (hgv:∀ b,fr.gv b→b∈bs):∀ {l:List (Ex×Kp)} {x:OutT l},outPut E.fs l e st=some x →
 ∃ I,After fr.gv fr.w0 fr.i0 w I∧OutS P w I a (exOf e) fr.w0.heap.size bs l x:=by
 have hsame:∀ {e e':Ex},outPut.sameEx e e'=true→e'=e:=by
  intro e e' h
  cases e <;> cases e' <;> first | rfl | cases h | skip
  have h:Nat.beq _ _=true:=h
  rw [Nat.eq_of_beq_eq_true h]
 have one:∀ {o:Ex×Kp} {y:TupR o.2.sh},outPut.sameEx o.1 e=true→ub77_ E.fs o.2 (frzSt o.2 st)=some y →
  ∃ I,After fr.gv fr.w0 fr.i0 w I∧exOf e=exOf o.1∧∃ bs',ShL P w I o.2.sh y (o.2.tm.map fun t=>a.tmps.getD t undef) bs'∧bs'.Nodup∧∀ b∈bs',b∈bs∨fr.w0.heap.size≤b:=by
  intro o y h1 h2
  obtain ⟨G0,_,hs⟩:=hs.frz o.2
  obtain ⟨bs',k1,k2,k3⟩:=ucih_ hE.fs hs h2
  refine ⟨G0.im,hs.mem.after,by rw [hsame h1],bs',k1,k2,fun b hb=>?_⟩
  obtain ⟨k,_,ob,ho,hbo⟩:=k3 b hb
  rcases ubdx_ (hs.mem.objs k ob ho) hbo with h | h
  · exact .inr h
  · exact .inl (hgv b h)
 intro l
 induction l with
 | nil=>intro x h; cases h
 | cons o r ih =>
   intro x h
   cases r with
   | nil =>
     simp only [outPut] at h
     cases hb:outPut.sameEx o.1 e with
     | false=>rw [hb] at h; cases h
     | true=>rw [hb] at h; exact one hb h
   | cons p r =>
     simp only [outPut] at h
     cases hb:outPut.sameEx o.1 e with
     | false =>
       rw [hb] at h
       simp only [cond_false] at h
       cases hr:outPut E.fs (p::r) e st with
       | none=>rw [hr] at h; cases h
       | some y =>
         rw [hr] at h
         cases h
         exact ih hr
     | true =>
       rw [hb] at h
       simp only [cond_true] at h
       cases hr:ub77_ E.fs o.2 (frzSt o.2 st) with
       | none=>rw [hr] at h; cases h
       | some y =>
         rw [hr] at h
         cases h
         exact one hb hr
def okCut (N:Nat) (wrs:List Nat) (d:Nat):Bool:=Nat.blt d N&&hasN d wrs
def cutFr (dr:Bool) (wrs bs:List Nat) (a:Act) (w:World) (I:Im):Fr:=⟨(·∈bs),w,I,fun t=>if hasN t wrs then none else some (a.tmps.getD t undef),dr⟩
theorem ucgn_ {N:Nat} {wrs bs:List Nat} {a:Act}:∀ d,okCut N wrs d=true→d<N∧(cutFr dr wrs bs a w I).fx d=none:=by
 intro d h
 simp only [okCut,Bool.and_eq_true,Nat.blt_eq] at h
 exact ⟨h.1,by simp [cutFr,h.2]⟩
theorem ucii_ {N:Nat} {inn:Kp} {v:TupR inn.sh} {wrs bs:List Nat} {a:Act} (hm:Mem w I) (hd:a.defers=[]) (hN:a.tmps.size=N) (hsh:ShL P w I inn.sh v (inn.tm.map fun t=>a.tmps.getD t undef) bs) (hnd:bs.Nodup) :
 ∃ G,SimN P N (cutFr dr wrs bs a w I) (mkSt inn v) a w G :=
 ucmj_ hd hN (fun t v h=>by
  have h:(if hasN t wrs=true then none else some (a.tmps.getD t undef))=some v:=h
  split at h
  · cases h
  · exact Option.some.inj h) (After.refl hm) (fun _=>Nat.le_refl _) hsh hnd fun b hb=>.inr hb
theorem ucij_ {E:Env} (hE:EnvOK P dr E) {N:Nat} {s:CSpec} {x:OutT s.outs} {bs:List Nat} {a0 a:Act} {w0:World} {e:Ex} {st:St} (hs:SimN P N (cutFr dr s.wrs bs a0 w0 I) st a w G) (h:outPut E.fs s.outs e st=some x) :
 ucmi_ P dr N s x a0 w0 I bs (exOf e) a w :=
 ⟨hs.defs,hs.size,fun t ht=>hs.fix t _ (by simp [cutFr,ht]),hs.drawn,ucpc_ hE hs (fun _ h=>h) h⟩
theorem ucsd_ {E:Env} (hE:EnvOK P dr E) (hmix:P.follows .mixedOrders=true) {N n:Nat} {c:Operand} {x y:Code} {s:CSpec}
 (hd:dstOK (okCut N s.wrs) (.cond c x y)=true) (hx:AllCuts P dr N (okCut N s.wrs) (ubbi_ E x (n+1))) (hy:AllCuts P dr N (okCut N s.wrs) (ubbi_ E y (n+1+nodes x)))
 (hF:∀ v r,s.F v=some r→ucob_ E c x y n s.al s.inn s.outs v=some r):CutOK P dr N s (.cond c x y):=by
 intro w I a v bs r hm hda hN hal hsh hnd h
 have h:=hF v r h
 obtain ⟨G,hs⟩:=ucii_ (wrs:=s.wrs) hm hda hN hsh hnd
 have hs:=ucgm_ hs hal
 simp only [dstOK,Bool.and_eq_true] at hd
 unfold ucob_ at h
 split at h
 · rename_i t ht
   have hv:=hs.sr c
   rw [ht] at hv
   have hv:=hv.bool
   cases t with
   | true=>exact wp_cond_true hv (ucpb_ hE hmix ucgn_ _ _ _ a w G _ r _ hd.1 (ucig_ hx) h hs fun e st' a' w' G' hs' hK=>ucij_ hE hs' hK)
   | false=>exact wp_cond_false hv (ucpb_ hE hmix ucgn_ _ _ _ a w G _ r _ hd.2 (ucig_ hy) h hs fun e st' a' w' G' hs' hK=>ucij_ hE hs' hK)
 · cases h
theorem ucse_ {E:Env} (hE:EnvOK P dr E) (hmix:P.follows .mixedOrders=true) {N n:Nat} {body:Code} {al:List (Nat×Nat)} {inn:Kp} {outs:List (Ex×Kp)} {wrs:List Nat} {F:Nat→TupR inn.sh→Option (OutT outs)}
 (hd:dstOK (okCut N wrs) body=true) (hc:AllCuts P dr N (okCut N wrs) (ubbi_ E body n)) (h0:∀ v,F 0 v=none) (hF:∀ k v r,F (k+1) v=some r→uckw_ E body n al inn outs (F k) v=some r) (m:Nat) :
 CutOK P dr N ⟨inn,outs,wrs,F m,al⟩ (.loop body):=by
 intro w0 I a0 v0 bs r hm hda hN hal hsh hnd h
 obtain ⟨G0,hs0⟩:=ucii_ (wrs:=wrs) hm hda hN hsh hnd
 have hs0:=ucgm_ hs0 hal
 refine wp_loop_rounds m ?_
 have key:∀ k v a w G,F k v=some r→SimN P N (cutFr dr wrs bs a0 w0 I) (mkStA al inn v) a w G→Code.rounds P body (ucmi_ P dr N ⟨inn,outs,wrs,F m,al⟩ r a0 w0 I bs) k a w:=by
  intro k
  induction k with
  | zero=>intro v a w G h; rw [h0] at h; cases h
  | succ k ih =>
    intro v a w G h hs
    rw [rounds_succ]
    refine ucpb_ hE hmix ucgn_ _ _ _ a w G _ r _ hd (ucig_ hc) (hF k v r h) hs fun e st' a' w' G' hs' hK=>ucif_ ?_
    cases e with
    | normal =>
      simp only at hK
      split at hK
      · rename_i v' hv0
        obtain ⟨hal',hv'⟩:alOK al st'.slots=true∧ub77_ E.fs inn (frzSt inn st')=some v':=by
         cases hb:alOK al st'.slots with
         | false=>rw [hb] at hv0; cases hv0
         | true=>rw [hb] at hv0; exact ⟨rfl,hv0⟩
        obtain ⟨G'',hs''⟩:=ucsc_ hE.fs hs' hv'
        exact ih v' a' w' G'' hK (ucgm_ hs'' (ucqu_ hs' hal'))
      · cases hK
    | exit i=>exact ucij_ (s:=⟨inn,outs,wrs,F m,al⟩) hE hs' hK
    | ret=>exact ucij_ (s:=⟨inn,outs,wrs,F m,al⟩) hE hs' hK
 exact key m v0 a0 w0 G0 h hs0
end
end Go.Ev
namespace Go.Ev
variable [Pins]
section
variable {P:Program} {fr:Fr} {free free':Nat→Prop} {self:Nat} {σ σ':Nat→Option Obj} {w w':World} {G G':Gh} {I:Im}
def boxIx:List Sh→Nat→List Nat
 | [],_=>[]
 | .box _::ps,i=>i::boxIx ps (i+1)
 | .io _ _::ps,i=>i::boxIx ps (i+1)
 | .bld _ false::ps,i=>i::boxIx ps (i+1)
 | _::ps,i=>boxIx ps (i+1)
theorem ShL.length:∀ {l:List Sh} {x:TupR l} {vs:List Value} {bs:List Nat},ShL P w I l x vs bs→vs.length=l.length:=by
 intro l
 induction l with
 | nil=>intro x vs bs h; rw [h.1]; rfl
 | cons a l ih =>
   intro x vs bs h
   cases l with
   | nil=>obtain ⟨v,rfl,_⟩:=h; rfl
   | cons b l =>
     obtain ⟨v,vs',b1,b2,rfl,_,_,h4⟩:=h
     simp [ih h4]
theorem SimN.slot {N:Nat} {st:St} {a:Act} (hs:SimN P N fr st a w G) (t:Nat):SR P w G (st.slots t) (a.tmps.getD t undef):=hs.sr (.tmp t)
theorem ucmm_ {id:Nat} {v z:Value} (h:(Instr.loadAt id v).run P w=.ok z w):(asAddr v >>= loadVar id).run P w=.ok z w:=by
 cases v with
 | pointer a =>
   cases a with
   | none=>simp [Instr.loadAt,Instr.sureAddr,stuck] at h
   | some a=>exact h
 | _=>simp [Instr.loadAt,Instr.sureAddr,stuck] at h
def uceq_ (tmps:Array Value):ResultVar→Sem Value
 | .tmp t=>pure (tmps.getD t undef)
 | .cell a t=>do loadVar t (← asAddr (tmps.getD a undef))
theorem uct6_ {E:Env} (hE:EnvOK P fr.dr E) {N:Nat} {st:St} {a:Act} (hs:SimN P N fr st a w G):∀ {l:List ResultVar} {ss:List SV},resL E.ty E.wr st l=some ss →
 ∃ vs:List Value,(l.mapM (uceq_ a.tmps)).run P w=.ok vs w ∧
  vs.length=l.length∧ss.length=l.length∧∀ (j:Nat) (s:SV) (v:Value),ss[j]? = some s→vs[j]? = some v→SR P w G s v:=by
 intro l
 induction l with
 | nil =>
   intro ss h
   cases h
   exact ⟨[],rfl,rfl,rfl,fun j s v h=>by simp at h⟩
 | cons r l ih =>
   intro ss h
   cases r with
   | tmp t =>
     simp only [resL] at h
     split at h
     · rename_i ss' hss
       cases h
       obtain ⟨vs,h1,h2,h3,h4⟩:=ih hss
       refine ⟨a.tmps.getD t undef::vs,?_,by simp [h2],by simp [h3],fun j s v hj hv=>?_⟩
       · rw [List.mapM_cons]
         simp only [uceq_,Sem.run_bind,Sem.run_pure,Result.andThen_ok,h1]
       · cases j with
         | zero=>cases hj; cases hv; exact hs.slot t
         | succ j=>exact h4 j s v (by simpa using hj) (by simpa using hv)
     · cases h
   | cell ad t =>
     simp only [resL] at h
     split at h
     · rename_i u hu
       split at h
       · rename_i s0 hl
         split at h
         · rename_i ss' hss
           cases h
           obtain ⟨vs,h1,h2,h3,h4⟩:=ih hss
           obtain ⟨z,k1,k2⟩:∃ z,(Instr.loadAt t (a.tmps.getD ad undef)).run P w=.ok z w∧SR P w G s0 z:=by
            cases hw:E.wr ad with
            | true=>rw [hw] at hl; exact ucld_ (hE.ty _ _ hu) hs.mem.objs hl (hs.slot ad)
            | false=>rw [hw] at hl; exact uchz_ (hE.ty _ _ hu) hs.mem.objs hl (hs.slot ad)
           have k1:=ucmm_ k1
           refine ⟨z::vs,?_,by simp [h2],by simp [h3],fun j s v hj hv=>?_⟩
           · rw [List.mapM_cons]
             have k1:(uceq_ a.tmps (.cell ad t)).run P w=.ok z w:=k1
             simp only [Sem.run_bind,Sem.run_pure,k1,Result.andThen_ok,h1]
           · cases j with
             | zero=>cases hj; cases hv; exact k2
             | succ j=>exact h4 j s v (by simpa using hj) (by simpa using hv)
         · cases h
       · cases h
     · cases h
theorem ucmn_ {E:Env} (hE:EnvOK P fr.dr E) {N:Nat} {st:St} {a:Act} (hs:SimN P N fr st a w G) {fn:Func} {ss:List SV} (h:resL E.ty E.wr st fn.results.toList=some ss) :
 ∃ (vs:List Value) (rv:Value),(results fn a.tmps).run P w=.ok rv w∧retIs vs rv∧vs.length=fn.results.toList.length∧ss.length=fn.results.toList.length ∧
  ∀ (j:Nat) (s:SV) (v:Value),ss[j]? = some s→vs[j]? = some v→SR P w G s v:=by
 obtain ⟨vs,h1,h2,h3,h4⟩:=uct6_ hE hs h
 have hrun:(results fn a.tmps).run P w=.ok (if h:vs.toArray.size=1 then vs.toArray[0] else .tuple vs.toArray) w:=by
  have h1':(fn.results.mapM (uceq_ a.tmps)).run P w=.ok vs.toArray w:=by
   rw [Array.mapM_eq_mapM_toList]
   simp only [Sem.run_map,h1,Result.andThen_ok]
  unfold results
  have e:(fn.results.mapM fun | .tmp t=>(pure (a.tmps.getD t undef):Sem Value) | .cell ad t=>do loadVar t (← asAddr (a.tmps.getD ad undef)))=fn.results.mapM (uceq_ a.tmps):=by
   congr 1
  simp only [Sem.run_bind]
  erw [e,h1']
  rfl
 refine ⟨vs,_,hrun,?_,h2,h3,h4⟩
 rcases vs with _ | ⟨v,_ | ⟨v',vs⟩⟩
 · rfl
 · rfl
 · simp [retIs]
theorem ucsf_ {slots:Nat→SV} {tmps:Array Value} (hs:∀ t,SR P w G (slots t) (tmps.getD t undef)):∀ {ps:List Sh} {i:Nat} {vals:List Value},vals.length=ps.length →
 (∀ j v,vals[j]? = some v→hasN (i+j) (boxIx ps i)=true→tmps.getD (i+j) undef=v) →
 (u1r_ ps ((List.range' i ps.length).map slots)).length=(ulu_ ps vals).length ∧
 ∀ (j:Nat) (s:SV) (v:Value),(u1r_ ps ((List.range' i ps.length).map slots))[j]? = some s→(ulu_ ps vals)[j]? = some v→SR P w G s v:=by
 intro ps
 have hlt:∀ (ps:List Sh) (i j:Nat),hasN j (boxIx ps i)=true→i≤j:=by
  intro ps
  induction ps with
  | nil=>intro i j h; cases h
  | cons p ps ih =>
    intro i j h
    have key:hasN j (boxIx ps (i+1))=true→i≤j:=fun h=>by have:=ih _ _ h; omega
    have here:hasN j (i::boxIx ps (i+1))=true→i≤j:=fun h=>by
     simp only [hasN,Bool.or_eq_true] at h
     rcases h with h | h
     · have:=Nat.eq_of_beq_eq_true h; omega
     · exact key h
    cases p with
    | box c=>exact here h
    | io el t=>exact here h
    | bld el c=>cases c with
      | true=>exact key h
      | false=>exact here h
    | _=>exact key h
 induction ps with
 | nil=>intro i vals hl h; exact ⟨rfl,fun j s v h=>by simp [u1r_] at h⟩
 | cons p ps ih =>
   intro i vals hl h
   cases vals with
   | nil=>cases hl
   | cons v0 vals =>
     have hl':vals.length=ps.length:=by simpa using hl
     simp only [List.length_cons,List.range'_succ,List.map_cons]
     cases hb:isBox p with
     | true =>
       have e1:u1r_ (p::ps) (slots i::(List.range' (i+1) ps.length).map slots)=slots i::u1r_ ps ((List.range' (i+1) ps.length).map slots):=by
        cases p <;> first | rfl | (cases hb; done) | (rename_i c0; cases c0 <;> first | rfl | (cases hb; done))
       have e2:ulu_ (p::ps) (v0::vals)=v0::ulu_ ps vals:=by
        cases p <;> first | rfl | (cases hb; done) | (rename_i c0; cases c0 <;> first | rfl | (cases hb; done))
       have e3:boxIx (p::ps) i=i::boxIx ps (i+1):=by
        cases p <;> first | rfl | (cases hb; done) | (rename_i c0; cases c0 <;> first | rfl | (cases hb; done))
       rw [e1,e2]
       rw [e3] at h
       obtain ⟨h1,h2⟩:=ih (i:=i+1) hl' (fun j v hj hh=>by
        have:=h (j+1) v (by simpa using hj) (by
         simp only [hasN,Bool.or_eq_true]
         right
         rw [show i+(j+1)=i+1+j by omega]; exact hh)
        rw [show i+1+j=i+(j+1) by omega]; exact this)
       refine ⟨by simp [h1],fun j s v hj hv=>?_⟩
       cases j with
       | zero =>
         cases hj; cases hv
         have:=h 0 v0 rfl (by simp [hasN,Nat.beq_refl])
         rw [← this]
         exact hs i
       | succ j=>exact h2 j s v (by simpa using hj) (by simpa using hv)
     | false =>
       have e1:u1r_ (p::ps) (slots i::(List.range' (i+1) ps.length).map slots)=u1r_ ps ((List.range' (i+1) ps.length).map slots):=by
        cases p <;> first | rfl | (cases hb; done) | (rename_i c0; cases c0 <;> first | rfl | (cases hb; done))
       have e2:ulu_ (p::ps) (v0::vals)=ulu_ ps vals:=by
        cases p <;> first | rfl | (cases hb; done) | (rename_i c0; cases c0 <;> first | rfl | (cases hb; done))
       have e3:boxIx (p::ps) i=boxIx ps (i+1):=by
        cases p <;> first | rfl | (cases hb; done) | (rename_i c0; cases c0 <;> first | rfl | (cases hb; done))
       rw [e1,e2]
       exact ih (i:=i+1) hl' (fun j v hj hh=>by
        have:=h (j+1) v (by simpa using hj) (by rw [e3,show i+(j+1)=i+1+j by omega]; exact hh)
        rw [show i+1+j=i+(j+1) by omega]; exact this)
theorem SimN.frzE {wr:Nat→Bool} {N:Nat} {st:St} {a:Act} (hs:SimN P N fr st a w G) (l:List ResultVar):∃ G',GLe w G w G'∧SimN P N fr (ucf1_ wr st l) a w G':=by
 obtain ⟨G',h1,h2⟩:=ucr6_ (fz:=ub4x_ st.sto (ucoc_ wr st l)) hs.mem ucbw_
 exact ⟨G',h1,fun t=>(hs.slots t).mono h1 fun _ _ _ _=>Iff.rfl,hs.defs,hs.size,hs.fix,hs.nogrd,h2,hs.drawn⟩
def okFun (N:Nat) (ps:List Sh) (d:Nat):Bool:=Nat.blt d N && !(hasN d (boxIx ps 0))
theorem ucvc_ {dr:Bool} {E:Env} (hE:EnvOK P dr E) (hmix:P.follows .mixedOrders=true) {f:FuncId} {fn:Func} {c:Code} {ps rs:List Sh} {F:TupR ps→Option (TupR (rs++ps.filter isBox))}
 (hf:P.funcs[f]? = some fn) (hb:fn.body=some c) (hd:dstOK (okFun fn.ntmps ps) c=true) (hn:Nat.ble ps.length fn.ntmps=true) (hl:Nat.beq fn.results.toList.length rs.length=true)
 (hc:AllCuts P dr fn.ntmps (okFun fn.ntmps ps) (ubbi_ E c 0)) (hF:∀ v r,F v=some r→evFun E fn ps rs v=some r):FunOK P f ⟨ps,rs,F,dr⟩:=by
 intro w I v args bs hm hsh hnd r hr
 have hr:=hF v r hr
 have hn:=Nat.le_of_ble_eq_true hn
 have hl:=Nat.eq_of_beq_eq_true hl
 have hlen:args.length=ps.length:=hsh.length
 let fr:Fr:=⟨(·∈bs),w,I,fun t=>if hasN t (boxIx ps 0) then some (args.getD t undef) else none,dr⟩
 let tm:Array Value:=args.toArray++Array.replicate (fn.ntmps-args.toArray.size) undef
 let a0:Act:=⟨tm,[]⟩
 have hlow:∀ t,t<args.length→tm.getD t undef=args.getD t undef:=by
  intro t ht
  simp [tm,Array.getD_eq_getD_getElem?,Array.getElem?_append_left,ht]
 have hbx:∀ (ps:List Sh) (i j:Nat),hasN j (boxIx ps i)=true→j<i+ps.length:=by
  intro ps
  induction ps with
  | nil=>intro i j h; cases h
  | cons p ps ih =>
    intro i j h
    have key:hasN j (boxIx ps (i+1))=true→j<i+(ps.length+1):=fun h=>by have:=ih _ _ h; omega
    have here:hasN j (i::boxIx ps (i+1))=true→j<i+(ps.length+1):=fun h=>by
     simp only [hasN,Bool.or_eq_true] at h
     rcases h with h | h
     · have:=Nat.eq_of_beq_eq_true h; omega
     · exact key h
    cases p with
    | box c=>exact here h
    | io el t=>exact here h
    | bld el c=>cases c with
      | true=>exact key h
      | false=>exact here h
    | _=>exact key h
 have hargs:(List.range ps.length).map (fun t=>tm.getD t undef)=args:=by
  apply List.ext_getElem?
  intro j
  rw [List.getElem?_map]
  by_cases h:j<ps.length
  · rw [List.getElem?_range h]
    simp only [Option.map_some]
    rw [hlow j (by omega),List.getD_eq_getElem?_getD,List.getElem?_eq_getElem (by omega)]
    rfl
  · rw [List.getElem?_eq_none (by simpa using h),List.getElem?_eq_none (by omega)]; rfl
 have hfxok:∀ d,okFun fn.ntmps ps d=true→d<fn.ntmps∧fr.fx d=none:=fun d hd=>by
  simp only [okFun,Bool.and_eq_true,Nat.blt_eq,Bool.not_eq_true'] at hd
  refine ⟨hd.1,?_⟩
  show (if hasN d (boxIx ps 0)=true then some (args.getD d undef) else none)=none
  rw [hd.2]; rfl
 obtain ⟨G0,hs0⟩:=ucmj_ (P:=P) (fr:=fr) (N:=fn.ntmps) (k:=⟨List.range ps.length,ps⟩) (v:=v) (a:=a0) (I:=I) rfl (by simp [a0,tm]; omega) (fun t v' h=>by
  have h:(if hasN t (boxIx ps 0)=true then some (args.getD t undef) else none)=some v':=h
  split at h
  · rename_i hh
    cases h
    exact hlow t (by have:=hbx _ _ _ hh; omega)
  · cases h) (After.refl hm) (fun _=>Nat.le_refl _) (by rw [hargs]; exact hsh) hnd (fun b hb=>.inr hb)
 refine calls_of_wp hf hb ?_
 unfold evFun at hr
 rw [hb] at hr
 have fin:∀ (st':St) (a':Act) (w':World) (G':Gh),SimN P fn.ntmps fr st' a' w' G' →
  (match resL E.ty E.wr (ucf1_ E.wr st' fn.results.toList) fn.results.toList with
   | some l=>ucdk_ E.fs (ucn7_ (ucf1_ E.wr st' fn.results.toList).sto (rs++ps.filter isBox) (l++u1r_ ps ((List.range ps.length).map (ucf1_ E.wr st' fn.results.toList).slots))) (rs++ps.filter isBox) (l++u1r_ ps ((List.range ps.length).map (ucf1_ E.wr st' fn.results.toList).slots))
   | none=>none)=some r →
  a'.defers=[]∧∃ v,(results fn a'.tmps).run P w'=.ok v w'∧∃ rv vs I' bs',Ending.returned v=.returned rv∧vs.length=rs.length∧retIs vs rv∧After (·∈bs) w I w' I' ∧
   ShL P w' I' (rs++ps.filter isBox) r (vs++ulu_ ps args) bs'∧bs'.Nodup∧(∀ b∈bs',b∈bs∨w.heap.size≤b)∧(fr.dr=true→w.drawn≤w'.drawn):=by
  intro st' a' w' G' hs' h
  refine ⟨hs'.defs,?_⟩
  obtain ⟨G1,_,hs'⟩:=hs'.frzE fn.results.toList
  generalize ucf1_ E.wr st' fn.results.toList=st' at h hs'
  split at h
  · rename_i ss hss
    obtain ⟨vs,rv,h1,h2,h3,h4,h5⟩:=ucmn_ hE hs' hss
    obtain ⟨b1,b2⟩:=ucsf_ (slots:=st'.slots) (tmps:=a'.tmps) hs'.slot (ps:=ps) (i:=0) (vals:=args) hlen (fun j v hj hh=>by
     rw [Nat.zero_add] at hh ⊢
     exact hs'.fix j v (by
      show (if hasN j (boxIx ps 0)=true then some (args.getD j undef) else none)=some v
      rw [if_pos hh,List.getD_eq_getElem?_getD,hj]; rfl))
    rw [← List.range_eq_range'] at b1 b2
    have hss2:ss.length=vs.length:=by rw [h4,h3]
    obtain ⟨G2,gle,hm2⟩:=ucia_ hs'.mem (rs++ps.filter isBox) (ss++u1r_ ps ((List.range ps.length).map st'.slots))
    obtain ⟨bs',k1,k2,k3⟩:=ub4o_ hm2 hE.fs (vs:=vs++ulu_ ps args) h (by rw [List.length_append,List.length_append,b1,hss2]) (fun j s v hj hv=>by
     by_cases hlt:j<ss.length
     · rw [List.getElem?_append_left hlt] at hj
       rw [List.getElem?_append_left (by omega)] at hv
       exact (h5 j s v hj hv).mono gle
     · have hge:ss.length≤j:=Nat.le_of_not_lt hlt
       rw [List.getElem?_append_right hge] at hj
       rw [List.getElem?_append_right (by omega),← hss2] at hv
       exact (b2 _ s v hj hv).mono gle)
    refine ⟨rv,h1,rv,vs,G2.im,bs',rfl,by rw [h3,hl],h2,hm2.after,k1,k2,fun b hb=>?_,hs'.drawn⟩
    obtain ⟨k,_,o,ho,hbo⟩:=k3 b hb
    rcases ubdx_ (hm2.objs k o ho) hbo with h | h
    · exact .inr h
    · exact .inl h
  · cases h
 refine ucpb_ hE hmix hfxok c 0 _ a0 w G0 _ r _ hd (ucig_ hc) hr hs0 fun e st' a' w' G' hs' hK=>?_
 cases e with
 | normal=>exact fin st' a' w' G' hs' hK
 | ret=>exact fin st' a' w' G' hs' hK
 | exit i=>cases hK
end
end Go.Ev
namespace Go.Ev
variable [Pins]
def loopN {α β:Type} (r:(α→Option β)→α→Option β):Nat→α→Option β
 | 0=>fun _=>none
 | k+1=>r (loopN r k)
def sub:Code→List Nat→Code
 | c,[]=>c
 | .seq a b,i::r=>bif Nat.beq i 0 then sub a r else sub b r
 | .cond _ a b,i::r=>bif Nat.beq i 0 then sub a r else sub b r
 | .block _ b,_::r=>sub b r
 | .loop b,_::r=>sub b r
 | _,_=>.skip
def umd_:Code→Operand
 | .cond c _ _=>c
 | _=>.tmp 0
def uj_ (f:Func):Code:=match f.body with
 | some c=>c
 | none=>.skip
def tysOK (P:Program) (l:List (Nat×Ty)):Bool:=l.all fun p=>(layB P p.2).1 p.1
def elsOK (P:Program) (l:List (Nat×Nat)):Bool:=l.all fun p=>match P.underlying p.1 with
 | some (.slice x)=>Nat.beq p.2 x
 | some (.map _ _)=>true
 | _=>false
def elOf (P:Program) (l:List (Nat×Nat)) (i:Nat):Nat:=match lookN l i with
 | some x=>x
 | none=>match P.underlying i with
   | some (.slice x)=>x
   | _=>0
def kysOK (P:Program) (l:List (Nat×Nat)):Bool:=l.all fun p=>match P.underlying p.1 with
 | some (.map x _)=>Nat.beq p.2 x
 | _=>false
def kyOf (P:Program) (l:List (Nat×Nat)) (i:Nat):Nat:=match lookN l i with
 | some x=>x
 | none=>match P.underlying i with
   | some (.map x _)=>x
   | _=>0
theorem ubvo_ {α:Type}:∀ {l:List (Nat×α)} {i:Nat} {x:α},lookN l i=some x→(i,x)∈l:=by
 intro l
 induction l with
 | nil=>intro i x h; cases h
 | cons p r ih =>
   intro i x h
   obtain ⟨j,y⟩:=p
   simp only [lookN] at h
   cases hb:Nat.beq i j with
   | true =>
     rw [hb] at h
     have:=Nat.eq_of_beq_eq_true hb
     subst this
     cases h
     exact List.mem_cons_self
   | false=>rw [hb] at h; exact List.mem_cons_of_mem _ (ih h)
section
variable {P:Program}
def FsOK (P:Program):List (Nat×FSpec)→Prop
 | []=>True
 | p::r=>(uf_ P p.1∧FunOK P p.1 p.2)∧FsOK P r
theorem FsOK.mem:∀ {l:List (Nat×FSpec)},FsOK P l→∀ f sp,(f,sp)∈l→uf_ P f∧FunOK P f sp:=by
 intro l
 induction l with
 | nil=>intro _ f sp h; cases h
 | cons p r ih =>
   intro h f sp hm
   rcases List.mem_cons.1 hm with rfl | hm
   · exact h.1
   · exact ih h.2 f sp hm
def lookM:List (String×Nat×Nat)→String→Nat→Option Nat
 | [],_,_=>none
 | x::r,m,id=>bif x.1 == m&&Nat.beq x.2.1 id then some x.2.2 else lookM r m id
def MsOK (P:Program):List (String×Nat×Nat)→Prop
 | []=>True
 | x::r=>(∀ (v:Value) (w:World),(method (P.types.size+Made.depth) x.2.1 v x.1).run P w=.ok (x.2.2,v) w)∧MsOK P r
theorem MsOK.look:∀ {l:List (String×Nat×Nat)},MsOK P l→∀ m id f,lookM l m id=some f→∀ (v:Value) (w:World),(method (P.types.size+Made.depth) id v m).run P w=.ok (f,v) w:=by
 intro l
 induction l with
 | nil=>intro _ m id f h; cases h
 | cons x r ih =>
   intro h m id f hf
   unfold lookM at hf
   cases hb:(x.1 == m&&Nat.beq x.2.1 id) with
   | false=>rw [hb] at hf; exact ih h.2 m id f hf
   | true =>
     rw [hb] at hf
     simp only [Bool.and_eq_true,beq_iff_eq] at hb
     have e2:=Nat.eq_of_beq_eq_true hb.2
     cases hf
     rw [← hb.1,← e2]
     exact h.1
def eqsOK (P:Program) (tys:List (Nat×Ty)) (eqs:List Nat):Bool:=eqs.all fun i=>match lookN tys i with
 | some t=>eqOK P t i
 | none=>true
theorem ucsg_ {dr:Bool} {tys:List (Nat×Ty)} {els:List (Nat×Nat)} {fs:List (Nat×FSpec)} {ms:List (String×Nat×Nat)} {eqs:List Nat} {kys:List (Nat×Nat)} {dp:Nat→Nat} {cut:Nat→Option CSpec} {wr:Nat→Bool} (hp:Pins.P=P) (h1:tysOK P tys=true) (h2:elsOK P els=true) (h3:FsOK P fs) (h4:MsOK P ms) (h5:eqsOK P tys eqs=true) (h7:kysOK P kys=true) (h6:(!dr||fs.all fun p=>p.2.dr)=true) :
 EnvOK P dr ⟨lookN tys,lookN fs,cut,wr,elOf P els,lookM ms,(fun t=>hasN t eqs),dr,dp,kyOf P kys⟩:=by
 refine ⟨hp,fun h=>h,fun hd f sp h=>?_,fun id t h=>?_,fun id x h=>?_,fun f sp h=>h3.mem f sp (ubvo_ h),h4.look,fun id t he ht=>?_,fun id x y h=>?_⟩
 · subst hd
   simp only [Bool.not_true,Bool.false_or] at h6
   exact List.all_eq_true.1 h6 _ (ubvo_ h)
 · unfold tysOK at h1
   rw [List.all_eq_true] at h1
   exact h1 _ (ubvo_ h)
 · unfold elsOK at h2
   rw [List.all_eq_true] at h2
   show elOf P els id=x
   unfold elOf
   cases hl:lookN els id with
   | none=>simp only [h]
   | some y =>
     have:=h2 _ (ubvo_ hl)
     simp only [h] at this
     exact Nat.eq_of_beq_eq_true this
 · unfold eqsOK at h5
   rw [List.all_eq_true] at h5
   have h6:=h5 id (ubsf_.1 he)
   have ht:lookN tys id=some t:=ht
   rw [ht] at h6
   exact h6
 · unfold kysOK at h7
   rw [List.all_eq_true] at h7
   show kyOf P kys id=x
   unfold kyOf
   cases hl:lookN kys id with
   | none=>simp only [h]
   | some y =>
     have:=h7 _ (ubvo_ hl)
     simp only [h] at this
     exact Nat.eq_of_beq_eq_true this
theorem fn_ok {dr:Bool} {E:Env} (hE:EnvOK P dr E) (hmix:P.follows .mixedOrders=true) {f:FuncId} {fn:Func} {c:Code} {ps rs:List Sh} {F:TupR ps→Option (TupR (rs++ps.filter isBox))} {l:List (CSpec×Code)}
 (hf:P.funcs[f]? = some fn) (hnm:(fn.name == "runtime.NumGoroutine")=false) (hb:fn.body=some c) (hd:dstOK (okFun fn.ntmps ps) c=true) (hn:Nat.ble ps.length fn.ntmps=true) (hl:Nat.beq fn.results.toList.length rs.length=true)
 (hcs:ubbi_ E c 0=l) (hc:AllCuts P dr fn.ntmps (okFun fn.ntmps ps) l) (hF:∀ v,evFun E fn ps rs v=F v):uf_ P f∧FunOK P f ⟨ps,rs,F,dr⟩:=by
 subst hcs
 exact ⟨⟨fn,c,hf,hnm,hb⟩,ucvc_ hE hmix hf hb hd hn hl hc fun v r h=>(hF v).trans h⟩
theorem uct7_ {dr:Bool} {E:Env} (hE:EnvOK P dr E) (hmix:P.follows .mixedOrders=true) {N n:Nat} {body:Code} {al:List (Nat×Nat)} {inn:Kp} {outs:List (Ex×Kp)} {wrs:List Nat} {r:(TupR inn.sh→Option (OutT outs))→TupR inn.sh→Option (OutT outs)} {l:List (CSpec×Code)}
 (hd:dstOK (okCut N wrs) body=true) (hcs:ubbi_ E body n=l) (hc:AllCuts P dr N (okCut N wrs) l) (hF:∀ next v,uckw_ E body n al inn outs next v=r next v) (m:Nat) :
 CutOK P dr N ⟨inn,outs,wrs,loopN r m,al⟩ (.loop body):=by
 subst hcs
 exact ucse_ hE hmix hd hc (fun _=>rfl) (fun k v x h=>(hF _ v).trans h) m
theorem ucpd_ {dr:Bool} {E:Env} (hE:EnvOK P dr E) (hmix:P.follows .mixedOrders=true) {N n:Nat} {c:Operand} {x y:Code} {al:List (Nat×Nat)} {inn:Kp} {outs:List (Ex×Kp)} {wrs:List Nat} {F:TupR inn.sh→Option (OutT outs)} {lx ly:List (CSpec×Code)}
 (hd:dstOK (okCut N wrs) (.cond c x y)=true) (hcx:ubbi_ E x (n+1)=lx) (hcy:ubbi_ E y (n+1+nodes x)=ly) (hx:AllCuts P dr N (okCut N wrs) lx) (hy:AllCuts P dr N (okCut N wrs) ly)
 (hF:∀ v,ucob_ E c x y n al inn outs v=F v):CutOK P dr N ⟨inn,outs,wrs,F,al⟩ (.cond c x y):=by
 subst hcx hcy
 exact ucsd_ (s:=⟨inn,outs,wrs,F,al⟩) hE hmix hd hx hy fun v r h=>(hF v).trans h
end
end Go.Ev
