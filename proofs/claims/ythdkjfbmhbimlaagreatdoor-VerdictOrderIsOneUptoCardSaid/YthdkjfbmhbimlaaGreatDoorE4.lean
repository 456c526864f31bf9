/-
  The evaluator's functions, second part: loops, branches, whole functions.
-/
import Derived.Test.YthdkjfbmhbimlaaGreatDoorE3
import Derived.Orders
import Derived.LoopN
import Derived.KernelRfl
import Derived.Maps.RangeRun
import Derived.ChangeMaps4
set_option linter.unusedVariables false
set_option linter.unusedSimpArgs false
set_option linter.unusedSectionVars false
set_option maxRecDepth 100000
namespace Go.Ev
variable [Pins]
section
variable {P:Program} {fr:Fr} {free free':Nat→Prop} {self:Nat} {σ σ':Nat→Option Obj} {w w':World} {G G':Gh} {I:Im}
theorem ub6f_ {k:IntKind} {n:Int} (h:ub18_ k n=true):und_ k n:=by
 simp only [ub18_,Bool.and_eq_true,decide_eq_true_eq] at h; exact h
theorem SR.undef (v:Value):SR P w G .undef v:=⟨[v],rfl,trivial⟩
theorem ubzd_ (v:Value):SR P w G (ub19_ v) v:=by
 unfold ub19_
 split
 · exact SR.mk_bool _
 · rename_i k n
   cases h:ub18_ k n with
   | true=>exact SR.mk_int (ub6f_ h)
   | false=>exact SR.undef _
 · rename_i s
   cases h:Nat.ble s.data.toList.length 281474976710656 with
   | true=>exact SR.mk_str (Nat.le_of_ble_eq_true h)
   | false=>exact SR.undef _
 · exact ⟨_,rfl,rfl⟩
 · exact ⟨_,rfl,rfl⟩
 · exact ⟨_,rfl,rfl⟩
 · exact ⟨_,rfl,rfl⟩
 · exact ⟨_,rfl,rfl⟩
 · exact SR.undef _
theorem SR.not_grd {tk:List (Nat×Bool)} {g:Bool} {s:SV} {v:Value} (h:SR P w G (.grd tk g s) v):False:=by
 obtain ⟨_,_,h⟩:=h; exact h
theorem SR.strip {s:SV} {v:Value} {tk:List (Nat×Bool)} (h:SR P w G s v):SR P w G (s.strip tk) v:=by
 cases s <;> first | exact h | exact h.not_grd.elim
theorem SR.slotOK {s:SV} {v:Value} {a:Act} (h:SR P w G s v):SlotOK P w G a s v:=by
 cases s <;> first | exact h | exact h.not_grd.elim
theorem ub8v_ {t:Nat×Bool}:∀ {tk:List (Nat×Bool)},ub4y_ t tk=true→t∈tk:=by
 intro tk
 induction tk with
 | nil=>intro h; cases h
 | cons u r ih =>
   intro h
   simp only [ub4y_,Bool.or_eq_true,Bool.and_eq_true] at h
   rcases h with ⟨h1,h2⟩ | h
   · have e1:=Nat.eq_of_beq_eq_true h1
     have e2:t.2=u.2:=by
      cases h3:t.2 <;> cases h4:u.2 <;> rw [h3,h4] at h2 <;> first | rfl | cases h2
     have:t=u:=Prod.ext e1 e2
     rw [this]; exact List.mem_cons_self
   · exact List.mem_cons_of_mem _ (ih h)
theorem SlotOK.strip {s:SV} {v:Value} {a:Act} {tk:List (Nat×Bool)} (h:SlotOK P w G a s v) (hk:holds a tk):SR P w G (s.strip tk) v:=by
 cases s with
 | grd tk' g s =>
   simp only [SV.strip]
   cases ha:tk'.all (ub4y_ · tk) with
   | false=>exact SR.undef _
   | true =>
     rw [List.all_eq_true] at ha
     exact (h.1 fun t ht=>hk t (ub8v_ (ha t ht))).2
 | _=>exact h
theorem SlotOK.mono {s:SV} {v:Value} {a a':Act} (h:SlotOK P w G a s v) (e:GLe w G w' G') (ht:∀ tk g s',s=.grd tk g s'→(holds a' tk↔holds a tk)):SlotOK P w' G' a' s v:=by
 cases s with
 | grd tk g s =>
   have ht:=ht tk g s rfl
   exact ⟨fun hh=>⟨(h.1 (ht.1 hh)).1,(h.1 (ht.1 hh)).2.mono e⟩,fun hh=>h.2 fun hk=>hh (ht.2 hk)⟩
 | _=>exact SR.mono h e
theorem ubze_ {a:Act} {sl:Nat→SV} {x:Operand} {tk:List (Nat×Bool)} (hs:∀ t,x=.tmp t→SlotOK P w G a (sl t) (a.tmps.getD t undef)) (hk:holds a tk) :
 SR P w G ((evalO sl x).strip tk) (a.eval x):=by
 cases x with
 | tmp t=>exact (hs t rfl).strip hk
 | const v=>exact (ubzd_ v).strip
 | func f=>exact ⟨_,rfl,#[],rfl,rfl⟩
 | global g=>exact SR.undef _
def ulr_ (all:Array Oper) (o:Oper):List Nat:=match o.guard with
 | some (j,_)=>match all[j]? with
   | some p=>p.dst.toList
   | none=>[]
 | none=>[]
def ubxa_ (o:Oper):List Nat:=o.op.operands.toList.filterMap fun | .tmp t=>some t | _=>none
theorem ub1a_ {o:Oper} {t:Nat} (h:Operand.tmp t∈o.op.operands):t∈ubxa_ o:=by
 unfold ubxa_
 rw [List.mem_filterMap]
 exact ⟨.tmp t,by simpa using h,rfl⟩
theorem u6l_ {a:Act} {t:Nat} {b:Bool} {tk:List (Nat×Bool)}:holds a ((t,b)::tk)↔a.tmps.getD t undef=.bool b∧holds a tk:=by
 constructor
 · intro h
   exact ⟨h _ List.mem_cons_self,fun p hp=>h p (List.mem_cons_of_mem _ hp)⟩
 · intro h p hp
   rcases List.mem_cons.1 hp with rfl | hp
   · exact h.1
   · exact h.2 p hp
theorem ubge_ (a:Act):holds a []:=fun _ h=>by cases h
theorem ubzf_ (b:Bool):undef≠.bool b:=by intro h; cases h
theorem ub6g_ {all:Array Oper} {o p:Oper} {j t:Nat} {b:Bool} {a:Act} (hg:o.guard=some (j,b)) (hp:all[j]? = some p) (ht:p.dst=some t) :
 Region.wanted o (yielded all a.tmps)=true↔a.tmps.getD t undef=.bool b:=by
 unfold Region.wanted yielded
 simp only [hg,hp,Option.bind_some,ht]
 cases h:a.tmps[t]? with
 | none=>simp [h,undef]
 | some v =>
   have:a.tmps.getD t undef=v:=by simp [h]
   rw [this]
   cases v <;> simp
theorem ucbq_ {all:Array Oper} {o:Oper} {sl:Nat→SV} {a:Act} {tk:List (Nat×Bool)} {g:Bool} (h:ubgb_ all sl o=some (tk,g))
 (hs:∀ t∈ulr_ all o,SlotOK P w G a (sl t) (a.tmps.getD t undef)) :
 (Region.wanted o (yielded all a.tmps)=true↔holds a tk)∧(holds a tk→g=true)∧(o.guard=none→tk=[]) ∧
  ∀ p∈tk,p.1∈ulr_ all o∨∃ t∈ulr_ all o,∃ tk' g' s',sl t=.grd tk' g' s'∧p∈tk':=by
 unfold ubgb_ at h
 split at h
 · rename_i hg
   simp only [Option.some.injEq,Prod.mk.injEq] at h
   obtain ⟨rfl,rfl⟩:=h
   exact ⟨by simp [Region.wanted,hg,ubge_],fun _=>rfl,fun _=>rfl,fun p hp=>by cases hp⟩
 · rename_i j b hg
   split at h
   · rename_i p hp
     split at h
     · rename_i t ht
       have hsl:ulr_ all o=[t]:=by simp [ulr_,hg,hp,ht]
       have hst:=hs t (by rw [hsl]; simp)
       have hwi:=ub6g_ (a:=a) hg hp ht
       split at h
       · rename_i c hc
         simp only [Option.some.injEq,Prod.mk.injEq] at h
         obtain ⟨rfl,rfl⟩:=h
         rw [hc] at hst
         have hv:=SR.bool hst
         refine ⟨by rw [hwi,u6l_]; simp [ubge_],fun hh=>?_,fun h=>(by rw [hg] at h; cases h),fun q hq=>.inl ?_⟩
         · have:=(u6l_.1 hh).1
           rw [hv] at this
           cases this
           cases b <;> rfl
         · have:q=(t,b):=by simpa using hq
           rw [this,hsl]; simp
       · rename_i tk' g' c hc
         simp only [Option.some.injEq,Prod.mk.injEq] at h
         obtain ⟨rfl,rfl⟩:=h
         rw [hc] at hst
         have key:a.tmps.getD t undef=.bool b→holds a tk':=by
          intro h1
          apply Classical.byContradiction
          intro h2
          rw [hst.2 h2] at h1
          exact ubzf_ _ h1
         refine ⟨?_,fun hh=>?_,fun h=>(by rw [hg] at h; cases h),fun q hq=>?_⟩
         · rw [hwi,u6l_]
           exact ⟨fun h1=>⟨h1,key h1⟩,fun h1=>h1.1⟩
         · obtain ⟨h1,h2⟩:=u6l_.1 hh
           obtain ⟨h3,h4⟩:=hst.1 h2
           have hv:=SR.bool h4
           rw [hv] at h1
           cases h1
           rw [h3]
           cases b <;> rfl
         · rcases List.mem_cons.1 hq with rfl | hq
           · exact .inl (by rw [hsl]; simp)
           · exact .inr ⟨t,by rw [hsl]; simp,tk',g',_,hc,hq⟩
       · cases h
     · cases h
   · cases h
structure SimF (P:Program) (N:Nat) (fr:Fr) (free D:Nat→Prop) (sl:Nat→SV) (σ:Nat→Option Obj) (a:Act) (w:World) (G:Gh):Prop where
 slots:∀ t,SlotOK P w G a (sl t) (a.tmps.getD t undef)
 defs:a.defers=[]
 size:a.tmps.size=N
 fix:∀ t v,fr.fx t=some v→a.tmps.getD t undef=v
 toks:∀ t tk g s,sl t=.grd tk g s→tk≠[]∧∀ p∈tk,D p.1
 mem:MemS P fr free σ w G
 drawn:fr.dr=true→fr.w0.drawn≤w.drawn
theorem u02_ {a:Act} {N:Nat} (hN:a.tmps.size=N) {dst:Option Nat} (hd:∀ d,dst=some d→d<N) (v:Value) (t:Nat) :
 (a.put dst v).tmps.getD t undef=if dst=some t then v else a.tmps.getD t undef:=by
 cases dst with
 | none=>simp [Act.put]
 | some d =>
   have hd:=hd d rfl
   by_cases h:d=t
   · subst h
     simp [Act.put,hN,hd]
   · simp [Act.put,h,Array.getElem?_setIfInBounds_ne h]
theorem u6m_ (a:Act) (dst:Option Nat) (v:Value):(a.put dst v).defers=a.defers:=by cases dst <;> rfl
theorem ubny_ (a:Act) (dst:Option Nat) (v:Value):(a.put dst v).tmps.size=a.tmps.size:=by cases dst <;> simp [Act.put]
theorem uqd_ (sl:Nat→SV) (dst:Option Nat) (s:SV) (t:Nat):u6i_ sl dst s t=if dst=some t then s else sl t:=by
 cases dst with
 | none=>simp [u6i_]
 | some d =>
   simp only [u6i_]
   by_cases h:t=d
   · subst h; simp [Nat.beq_refl]
   · have:Nat.beq t d=false:=by rw [← Bool.not_eq_true]; exact fun hh=>h (Nat.eq_of_beq_eq_true hh)
     rw [this]
     have h':¬ d=t:=fun e=>h e.symm
     simp [h']
theorem ub8w_ {tk:List (Nat×Bool)} {u:Upd} (h:calm tk u=true) (ht:tk≠[]):u.wr=[]:=by
 cases tk with
 | nil=>exact absurd rfl ht
 | cons p r =>
   simp only [calm] at h
   split at h
   · assumption
   · cases h
theorem ub2u_ {a:Act} {N:Nat} (hN:a.tmps.size=N) {dst:Option Nat} (hd:∀ d,dst=some d→d<N) {v:Value} {tk:List (Nat×Bool)} (h:∀ p∈tk,dst≠some p.1) :
 holds (a.put dst v) tk↔holds a tk:=by
 unfold holds
 constructor
 · intro hh p hp
   have:=hh p hp
   rw [u02_ hN hd,if_neg (h p hp)] at this
   exact this
 · intro hh p hp
   rw [u02_ hN hd,if_neg (h p hp)]
   exact hh p hp
theorem ucac_ {E:Env} (hE:EnvOK P fr.dr E) {all:Array Oper} {i N:Nat} {o:Oper} (ho:all[i]? = some o) {D:Nat→Prop} {sl sl0:Nat→SV} {a:Act}
 (hs:SimF P N fr free D sl σ a w G) (hag:∀ t,t∈ubxa_ o∨t∈ulr_ all o→sl0 t=sl t)
 (hgd:∀ t∈ulr_ all o,D t) (hdst:∀ d,o.dst=some d→(d<N∧fr.fx d=none)∧¬ D d)
 {tk:List (Nat×Bool)} {g:Bool} (hg:ubgb_ all sl0 o=some (tk,g))
 (hσ:∀ k ob,σ' k=some ob→σ k=some ob) (hfree:∀ k,self≤k→k<self+8→free k)
 {r:OpRes} (hr:opF E (fun x=>(evalO sl0 x).strip tk)
  (match o.op with | .pick c _ _=>fun x=>(evalO sl0 x).strip (ubpm_ c true tk) | _=>fun x=>(evalO sl0 x).strip tk)
  (match o.op with | .pick c _ _=>fun x=>(evalO sl0 x).strip (ubpm_ c false tk) | _=>fun x=>(evalO sl0 x).strip tk) σ' self o=some r)
 {u:Upd} (hu:g=true→Gives r u) (hu':tk=[]→Gives r u) (hcalm:calm tk u=true) {K:Act→World→Prop} {Q:Exit→Act→World→Prop}
 (hK:∀ a' w' G',GLe w G w' G'→SimF P N fr (uo7_ free self) D (u6i_ sl o.dst (mkGrd tk g u.sv)) (u3_ σ u.wr) a' w' G'→K a' w') :
 wpOp P all Q i K a w:=by
 have hgs:∀ t∈ulr_ all o,SlotOK P w G a (sl0 t) (a.tmps.getD t undef):=fun t ht=>by rw [hag t (.inr ht)]; exact hs.slots t
 obtain ⟨g1,g2,g3,g4⟩:=ucbq_ hg hgs
 have htk:∀ p∈tk,D p.1:=by
  intro p hp
  rcases g4 p hp with h | ⟨t,ht,tk',g',s',h1,h2⟩
  · exact hgd _ h
  · rw [hag t (.inr ht)] at h1
    exact (hs.toks t tk' g' s' h1).2 p h2
 have hdN:∀ d,o.dst=some d→d<N:=fun d hd=>(hdst d hd).1.1
 have hnd:∀ {tk':List (Nat×Bool)},(∀ p∈tk',D p.1)→∀ p∈tk',o.dst≠some p.1:=fun h p hp e=>(hdst _ e).2 (h p hp)
 have fin:∀ (v:Value) (w':World) (G':Gh),GLe w G w' G'→MemS P fr (uo7_ free self) (u3_ σ u.wr) w' G'→(fr.dr=true→w.drawn≤w'.drawn) →
  ((holds a tk→g=true∧SR P w' G' u.sv v)∧(¬ holds a tk→v=Go.undef))→K (a.put o.dst v) w':=by
  intro v w' G' hle hm hdr hv
  refine hK _ w' G' hle ⟨fun t=>?_,?_,?_,?_,?_,hm,fun h=>Nat.le_trans (hs.drawn h) (hdr h)⟩
  · rw [uqd_,u02_ hs.size hdN]
    by_cases h:o.dst=some t
    · rw [if_pos h,if_pos h]
      cases tk with
      | nil=>exact (hv.1 (ubge_ a)).2.slotOK
      | cons p r =>
        have:=ub2u_ (v:=v) hs.size hdN (hnd htk)
        exact ⟨fun hh=>hv.1 (this.1 hh),fun hh=>hv.2 fun hk=>hh (this.2 hk)⟩
    · rw [if_neg h,if_neg h]
      refine (hs.slots t).mono hle fun tk' g' s' h'=>?_
      exact ub2u_ hs.size hdN (hnd (hs.toks t tk' g' s' h').2)
  · rw [u6m_]; exact hs.defs
  · rw [ubny_]; exact hs.size
  · intro t v' h
    rw [u02_ hs.size hdN,if_neg (fun e=>by have:=(hdst t e).1.2; rw [h] at this; cases this)]
    exact hs.fix t v' h
  · intro t tk' g' s' h
    rw [uqd_] at h
    by_cases hd:o.dst=some t
    · rw [if_pos hd] at h
      cases htk':tk with
      | nil =>
        rw [htk'] at h hv
        have h:u.sv=.grd tk' g' s':=h
        have:=(hv.1 (ubge_ a)).2
        rw [h] at this
        exact this.not_grd.elim
      | cons q r =>
        rw [htk'] at h
        have h:SV.grd (q::r) g u.sv=.grd tk' g' s':=h
        injection h with h1 _ _
        exact ⟨by rw [← h1]; simp,fun p hp=>htk p (by rw [htk',h1]; exact hp)⟩
    · rw [if_neg hd] at h
      exact hs.toks t tk' g' s' h
 unfold wpOp
 simp only [ho]
 by_cases hw:Region.wanted o (yielded all a.tmps)=true
 · rw [if_pos hw]
   have hh:=g1.1 hw
   have hgt:=g2 hh
   left
   have hop:∀ {tk':List (Nat×Bool)},holds a tk'→∀ x∈o.op.operands,SR P w G ((evalO sl0 x).strip tk') (a.eval x):=by
    intro tk' hh' x hx
    refine ubze_ (fun t ht=>?_) hh'
    subst ht
    rw [hag t (.inl (ub1a_ hx))]
    exact hs.slots t
   have hdone:Done P fr.dr o a w (Res P fr free self σ w G u):=by
    refine uceq_ hE hs.mem hσ hfree (fun _ x hx=>hop hh x hx) ?_ hr (hu hgt)
    intro c x y hpk
    refine ⟨hop hh c (by simp [hpk,Op.operands]),fun hc=>?_,fun hc=>?_⟩
    · simp only [hpk]
      refine hop ?_ x (by simp [hpk,Op.operands])
      cases c with
      | tmp t=>exact u6l_.2 ⟨hc,hh⟩
      | _=>exact hh
    · simp only [hpk]
      refine hop ?_ y (by simp [hpk,Op.operands])
      cases c with
      | tmp t=>exact u6l_.2 ⟨hc,hh⟩
      | _=>exact hh
   refine hdone Q K fun v w' hres hdr=>?_
   obtain ⟨G',h1,h2,h3⟩:=hres
   exact fin v w' G' h1 h2 hdr ⟨fun _=>⟨hgt,h3⟩,fun hn=>absurd hh hn⟩
 · rw [if_neg hw]
   have hnh:¬ holds a tk:=fun h=>hw (g1.2 h)
   have hne:tk≠[]:=fun e=>by subst e; exact hnh (ubge_ a)
   have hwr:=ub8w_ hcalm hne
   refine fin Go.undef w G (GLe.refl _ _) ?_ (fun _=>Nat.le_refl _) ⟨fun h=>absurd h hnh,fun _=>rfl⟩
   rw [hwr]
   exact hs.mem.shrink fun _ h=>h.1
theorem SimF.draws {N:Nat} {D:Nat→Prop} {sl:Nat→SV} {a:Act} (h:SimF P N fr free D sl σ a w G) (n:Nat) (hn:w.drawn≤n):SimF P N fr free D sl σ a { w with drawn:=n } G:=by
 have hle:GLe w G { w with drawn:=n } G:=⟨⟨fun _ _ h=>⟨h,rfl⟩,fun _ h=>⟨h,rfl⟩⟩,fun _ _ _ h=>h,fun _ _ h=>h,fun _ _ h=>h⟩
 refine ⟨fun t=>(h.slots t).mono hle fun _ _ _ _=>Iff.rfl,h.defs,h.size,h.fix,h.toks,⟨fun k o ho=>?_,h.mem.sep,?_,h.mem.fresh⟩,fun hd=>Nat.le_trans (h.drawn hd) hn⟩
 · exact (h.mem.objs k o ho).keep hle fun b _=>⟨rfl,fun _ h=>h,fun h=>h⟩
 · exact ⟨⟨fun b o hb=>h.mem.after.ext.cell b o hb,fun b hb=>h.mem.after.ext.obj b hb⟩,h.mem.after.heap,h.mem.after.size,h.mem.after.newC,h.mem.after.newO,h.mem.after.inC,h.mem.after.inO,
    h.mem.after.os,h.mem.after.tape,h.mem.after.output,h.mem.after.pins.ext hle.ext⟩
end
end Go.Ev
namespace Go.Ev
variable [Pins]
section
variable {P:Program} {fr:Fr} {free free':Nat→Prop} {self:Nat} {σ σ':Nat→Option Obj} {w w':World} {G G':Gh} {I:Im}
theorem ub8x_ {Ω:Type} {tk:List (Nat×Bool)} {g:Bool} {r:OpRes} {K:Upd→Option Ω} {ω:Ω} (h:evRes tk g r K=some ω) :
 ∃ u,(g=true→Gives r u)∧(tk=[]→Gives r u)∧calm tk u=true∧K u=some ω:=by
 unfold evRes at h
 split at h
 · rename_i u
   cases hc:calm tk u with
   | false=>rw [hc] at h; cases h
   | true=>rw [hc] at h; exact ⟨u,fun _=>.pure u,fun _=>.pure u,hc,h⟩
 · rename_i α m d f
   obtain ⟨x,h1,h2⟩:=Option.bind_eq_some_iff.1 h
   cases hc:calm tk (f x) with
   | false=>rw [hc] at h2; cases h2
   | true =>
     rw [hc] at h2
     refine ⟨f x,fun hg=>.may ?_,fun ht=>.may ?_,hc,h2⟩
     · subst hg
       cases tk with
       | nil=>exact h1
       | cons p r=>exact h1
     · subst ht; exact h1
structure GuardsOK (all:Array Oper):Prop where
 uniq:uqx_ all=true→∀ (i j:Nat) (o p:Oper) (d:Nat),i<j→all[i]? = some o→all[j]? = some p→o.dst=some d→p.dst≠some d
 back:uqx_ all=true→∀ (i:Nat) (o:Oper) (j:Nat) (b:Bool),all[i]? = some o→o.guard=some (j,b)→j<i
theorem ubnz_ {all:Array Oper} {i:Nat} {o:Oper} {j:Nat} {b:Bool} (ho:all[i]? = some o) (hg:o.guard=some (j,b)):uqx_ all=true:=by
 unfold uqx_
 rw [List.any_eq_true]
 exact ⟨o,by simpa using Array.mem_of_getElem? ho,by simp [hg]⟩
def DS (all:Array Oper) (S:Nat→Bool):Nat→Prop:=fun t=>uqx_ all=true∧∃ j o,S j=true∧all[j]? = some o∧o.dst=some t
theorem DS.mono {all:Array Oper} {S S':Nat→Bool} {t:Nat} (h:DS all S t) (hs:∀ j,S j=true→S' j=true):DS all S' t :=
 ⟨h.1,let ⟨j,o,h1,h2,h3⟩:=h.2; ⟨j,o,hs j h1,h2,h3⟩⟩
theorem ubk3_ {all:Array Oper} {o:Oper} {t:Nat} (h:t∈ulr_ all o):∃ j b p,o.guard=some (j,b)∧all[j]? = some p∧p.dst=some t:=by
 unfold ulr_ at h
 split at h
 · rename_i j b hg
   split at h
   · rename_i p hp
     exact ⟨j,b,p,hg,hp,by simpa using h⟩
   · cases h
 · cases h
theorem SimF.weaken {N:Nat} {D D':Nat→Prop} {sl:Nat→SV} {a:Act} (h:SimF P N fr free D sl σ a w G) (hf:∀ k,free' k→free k) (hD:∀ t,D t→D' t):SimF P N fr free' D' sl σ a w G :=
 ⟨h.slots,h.defs,h.size,h.fix,fun t tk g s hh=>⟨(h.toks t tk g s hh).1,fun p hp=>hD _ ((h.toks t tk g s hh).2 p hp)⟩,h.mem.shrink hf,h.drawn⟩
theorem ubzg_ {Ω:Type} {E:Env} {all:Array Oper} {draw:Bool} {n0 i:Nat} {o:Oper} {rest:List Oper} {st:St} {cl:List (List Nat×List Nat)} {K:St→List (List Nat×List Nat)→Option Ω} {ω:Ω}
 (h:evOps E all draw n0 (o::rest) i st cl K=some ω) :
 ∃ tk g r u,ubgb_ all st.slots o=some (tk,g) ∧
  opF E (fun x=>(evalO st.slots x).strip tk)
   (match o.op with | .pick c _ _=>fun x=>(evalO st.slots x).strip (ubpm_ c true tk) | _=>fun x=>(evalO st.slots x).strip tk)
   (match o.op with | .pick c _ _=>fun x=>(evalO st.slots x).strip (ubpm_ c false tk) | _=>fun x=>(evalO st.slots x).strip tk)
   (seen all draw n0 i (foot (fun x=>(evalO st.slots x).strip tk) st.sto o.op) st.sto) (n0+8*i) o=some r ∧
  (g=true→Gives r u)∧(tk=[]→Gives r u)∧calm tk u=true ∧
  wrOK (seen all draw n0 i (foot (fun x=>(evalO st.slots x).strip tk) st.sto o.op) st.sto) (n0+8*i) u=true ∧
  evOps E all draw n0 rest (i+1) { slots:=u6i_ st.slots o.dst (mkGrd tk g u.sv),sto:=u3_ st.sto u.wr,n:=st.n }
   ((u.far (n0+8*i),foot (fun x=>(evalO st.slots x).strip tk) st.sto o.op)::cl) K=some ω:=by
 simp only [evOps] at h
 split at h
 · cases h
 · rename_i tk g hg
   split at h
   · cases h
   · rename_i r hr
     obtain ⟨u,h1,h2,h3,h4⟩:=ub8x_ h
     cases hw:wrOK (seen all draw n0 i (foot (fun x=>(evalO st.slots x).strip tk) st.sto o.op) st.sto) (n0+8*i) u with
     | false=>rw [hw] at h4; cases h4
     | true =>
       rw [hw] at h4
       exact ⟨tk,g,r,u,hg,hr,h1,h2,h3,hw,h4⟩
theorem ubzh_ {Ω:Type} {E:Env} (hE:EnvOK P fr.dr E) {N n0:Nat} {all:Array Oper} (hgo:GuardsOK all) (hdst:∀ (j:Nat) o d,all[j]? = some o→o.dst=some d→d<N∧fr.fx d=none)
 {K:St→List (List Nat×List Nat)→Option Ω} {ω:Ω} {Q:Exit→Act→World→Prop} :
 ∀ (ops:List Oper) (i:Nat) (st:St) (cl:List (List Nat×List Nat)) (a:Act) (w:World) (G:Gh),evOps E all false n0 ops i st cl K=some ω→all.toList.drop i=ops→i+ops.length=all.size →
  SimF P N fr (fun k=>n0+8*i≤k) (DS all (fun j=>decide (j<i))) st.slots st.sto a w G →
  (∀ st' cl' a' w' G',SimF P N fr (fun k=>n0+8*all.size≤k) (DS all (fun j=>decide (j<all.size))) st'.slots st'.sto a' w' G'→st'.n=st.n→K st' cl'=some ω→Q .normal a' w') →
  wpOps P all Q (List.range' i ops.length) a w:=by
 intro ops
 induction ops with
 | nil =>
   intro i st cl a w G h hdr hl hs hQ
   simp only [List.length_nil,Nat.add_zero] at hl
   subst hl
   exact hQ st cl a w G hs rfl h
 | cons o rest ih =>
   intro i st cl a w G h hdr hl hs hQ
   obtain ⟨tk,g,r,u,h1,h2,h3,h4,h5,h6,h7⟩:=ubzg_ h
   have ho:all[i]? = some o:=by
    have:=congrArg List.head? hdr
    rw [List.head?_drop] at this
    simpa using this
   simp only [List.length_cons,List.range'_succ]
   rw [wpOps_cons]
   refine ucac_ hE ho (self:=n0+8*i) hs (fun t _=>rfl) ?_ ?_ h1 ?_ (fun k hk _=>hk) h2 h3 h4 h5 ?_
   · intro t ht
     obtain ⟨j,b,p,hg,hp,hd⟩:=ubk3_ ht
     have hh:=ubnz_ ho hg
     exact ⟨hh,j,p,by simpa using hgo.back hh i o j b ho hg,hp,hd⟩
   · intro d hd
     refine ⟨hdst i o d ho hd,fun hD=>?_⟩
     obtain ⟨hh,j,p,hj,hp,hpd⟩:=hD
     exact hgo.uniq hh j i p o d (by simpa using hj) hp ho hpd hd
   · intro k ob hk
     exact hk
   · intro a' w' G' _ hs'
     refine ih (i+1) _ _ a' w' G' h7 ?_ (by simp only [List.length_cons] at hl; omega) ?_ (fun st' cl' a' w' G' hs' hn hK=>hQ st' cl' a' w' G' hs' hn hK)
     · have:=congrArg List.tail hdr
       simpa [List.tail_drop] using this
     · refine hs'.weaken (fun k hk=>⟨by omega,?_⟩) fun t ht=>ht.mono fun j hj=>by simp only [decide_eq_true_eq] at hj ⊢; omega
       simp only [ubc8_,Bool.and_eq_false_iff]
       right
       rw [← Bool.not_eq_true,Nat.blt_eq]; omega
structure Info where
 tk:List (Nat×Bool)
 g:Bool
 u:Upd
 c:List Nat×List Nat
def slF (all:Array Oper) (L:Nat→Info) (S:Nat→Bool) (sl0:Nat→SV):Nat→Nat→SV
 | 0=>sl0
 | i+1=>bif S i then u6i_ (slF all L S sl0 i) (all.getD i default).dst (mkGrd (L i).tk (L i).g (L i).u.sv) else slF all L S sl0 i
def stF (L:Nat→Info) (S:Nat→Bool) (σ0:Nat→Option Obj):Nat→Nat→Option Obj
 | 0=>σ0
 | i+1=>bif S i then u3_ (stF L S σ0 i) (L i).u.wr else stF L S σ0 i
def keysW (l:List (Nat×Option Obj)):List Nat:=l.map (·.1)
theorem ubsk_ {σ:Nat→Option Obj}:∀ {l:List (Nat×Option Obj)} {k:Nat},k ∉ keysW l→u3_ σ l k=σ k:=by
 intro l
 induction l with
 | nil=>intro k _; rfl
 | cons p r ih =>
   intro k h
   obtain ⟨j,o⟩:=p
   simp only [keysW,List.map_cons,List.mem_cons,not_or] at h
   simp only [u3_]
   rw [show Nat.beq k j=false by rw [← Bool.not_eq_true]; exact fun hh=>h.1 (Nat.eq_of_beq_eq_true hh)]
   exact ih h.2
theorem ub2v_ {σ σ':Nat→Option Obj}:∀ {l:List (Nat×Option Obj)} {k:Nat},k∈keysW l→u3_ σ l k=u3_ σ' l k:=by
 intro l
 induction l with
 | nil=>intro k h; cases h
 | cons p r ih =>
   intro k h
   obtain ⟨j,o⟩:=p
   simp only [u3_]
   cases hb:Nat.beq k j with
   | true=>rfl
   | false =>
     simp only [cond_false]
     refine ih ?_
     simp only [keysW,List.map_cons,List.mem_cons] at h
     rcases h with rfl | h
     · rw [Nat.beq_refl] at hb; cases hb
     · exact h
theorem ub8y_ {all:Array Oper} {L:Nat→Info} {S S':Nat→Bool} {sl0:Nat→SV} {t:Nat}:∀ {n:Nat},(∀ j,j<n→(all.getD j default).dst=some t→S j=S' j)→slF all L S sl0 n t=slF all L S' sl0 n t:=by
 intro n
 induction n with
 | zero=>intro _; rfl
 | succ n ih =>
   intro h
   have ih:=ih fun j hj=>h j (by omega)
   have key:∀ S,slF all L S sl0 (n+1) t=if S n=true∧(all.getD n default).dst=some t then mkGrd (L n).tk (L n).g (L n).u.sv else slF all L S sl0 n t:=by
    intro S
    simp only [slF]
    cases hS:S n with
    | false=>simp
    | true=>simp only [cond_true,uqd_,true_and]
   rw [key,key,ih]
   by_cases hd:(all.getD n default).dst=some t
   · rw [h n (by omega) hd]
   · rw [if_neg (fun h=>hd h.2),if_neg (fun h=>hd h.2)]
theorem ub8z_ {L:Nat→Info} {S S':Nat→Bool} {σ0:Nat→Option Obj} {k:Nat}:∀ {n:Nat},(∀ j,j<n→k∈keysW (L j).u.wr→S j=S' j)→stF L S σ0 n k=stF L S' σ0 n k:=by
 intro n
 induction n with
 | zero=>intro _; rfl
 | succ n ih =>
   intro h
   have ih:=ih fun j hj=>h j (by omega)
   simp only [stF]
   by_cases hk:k∈keysW (L n).u.wr
   · rw [h n (by omega) hk]
     cases S' n with
     | true=>exact ub2v_ hk
     | false=>exact ih
   · have key:∀ S,(bif S n then u3_ (stF L S σ0 n) (L n).u.wr else stF L S σ0 n) k=stF L S σ0 n k:=by
      intro S
      cases S n with
      | true=>exact ubsk_ hk
      | false=>rfl
     rw [key,key,ih]
theorem ub6h_ {all:Array Oper} {L:Nat→Info} {S:Nat→Bool} {sl0:Nat→SV} {i:Nat}:∀ {n:Nat},i≤n→(∀ j,j<i→S j=true)→(∀ j,i≤j→j<n→S j=false)→slF all L S sl0 n=slF all L (fun _=>true) sl0 i:=by
 intro n
 induction n with
 | zero => intro h _ _; have : i = 0 := by omega
           subst this; rfl
 | succ n ih =>
   intro hi h1 h2
   by_cases h:i=n+1
   · subst h
     have:slF all L S sl0 n=slF all L (fun _=>true) sl0 n:=by
      funext t
      exact ub8y_ fun j hj _=>by rw [h1 j (by omega)]
     simp only [slF,h1 n (by omega),this]
   · simp only [slF,h2 n (by omega) (by omega),cond_false]
     exact ih (by omega) h1 (fun j hj hn=>h2 j hj (by omega))
theorem ub6i_ {L:Nat→Info} {S:Nat→Bool} {σ0:Nat→Option Obj} {i:Nat}:∀ {n:Nat},i≤n→(∀ j,j<i→S j=true)→(∀ j,i≤j→j<n→S j=false)→stF L S σ0 n=stF L (fun _=>true) σ0 i:=by
 intro n
 induction n with
 | zero => intro h _ _; have : i = 0 := by omega
           subst this; rfl
 | succ n ih =>
   intro hi h1 h2
   by_cases h:i=n+1
   · subst h
     have:stF L S σ0 n=stF L (fun _=>true) σ0 n:=by
      funext t
      exact ub8z_ fun j hj _=>by rw [h1 j (by omega)]
     simp only [stF,h1 n (by omega),this]
   · simp only [stF,h2 n (by omega) (by omega),cond_false]
     exact ih (by omega) h1 (fun j hj hn=>h2 j hj (by omega))
theorem ucbr_ {all:Array Oper} {L:Nat→Info} {S:Nat→Bool} {sl0:Nat→SV} {t i:Nat} (hi:S i=true) (hd:(all.getD i default).dst=some t) :
 ∀ {n:Nat},i<n→(∀ j,i<j→j<n→(all.getD j default).dst=some t→S j=false)→slF all L S sl0 n t=mkGrd (L i).tk (L i).g (L i).u.sv:=by
 intro n
 induction n with
 | zero=>intro h; omega
 | succ n ih =>
   intro hn h
   simp only [slF]
   by_cases e:i=n
   · subst e
     rw [hi]; simp only [cond_true,uqd_,hd,if_true]
   · have ih:=ih (by omega) fun j h1 h2=>h j h1 (by omega)
     by_cases hd':(all.getD n default).dst=some t
     · rw [h n (by omega) (by omega) hd']; exact ih
     · cases S n with
       | true=>simp only [cond_true,uqd_,hd',if_false]; exact ih
       | false=>exact ih
theorem ucbs_ {L:Nat→Info} {S:Nat→Bool} {σ0 σ:Nat→Option Obj} {k i:Nat} (hi:S i=true) (hd:k∈keysW (L i).u.wr) :
 ∀ {n:Nat},i<n→(∀ j,i<j→j<n→k∈keysW (L j).u.wr→S j=false)→stF L S σ0 n k=u3_ σ (L i).u.wr k:=by
 intro n
 induction n with
 | zero=>intro h; omega
 | succ n ih =>
   intro hn h
   simp only [stF]
   by_cases e:i=n
   · subst e
     rw [hi]; exact ub2v_ hd
   · have ih:=ih (by omega) fun j h1 h2=>h j h1 (by omega)
     by_cases hd':k∈keysW (L n).u.wr
     · rw [h n (by omega) (by omega) hd']; exact ih
     · cases S n with
       | true=>exact (ubsk_ hd').trans ih
       | false=>exact ih
theorem ub2w_ {all:Array Oper} {L L':Nat→Info} {S:Nat→Bool} {sl0:Nat→SV}:∀ {n:Nat},(∀ j,j<n→L j=L' j)→slF all L S sl0 n=slF all L' S sl0 n:=by
 intro n
 induction n with
 | zero=>intro _; rfl
 | succ n ih=>intro h; simp only [slF,ih fun j hj=>h j (by omega),h n (by omega)]
theorem ub2x_ {L L':Nat→Info} {S:Nat→Bool} {σ0:Nat→Option Obj}:∀ {n:Nat},(∀ j,j<n→L j=L' j)→stF L S σ0 n=stF L' S σ0 n:=by
 intro n
 induction n with
 | zero=>intro _; rfl
 | succ n ih=>intro h; simp only [stF,ih fun j hj=>h j (by omega),h n (by omega)]
structure Fact (E:Env) (all:Array Oper) (n0:Nat) (L:Nat→Info) (sl0:Nat→SV) (σ0:Nat→Option Obj) (i:Nat) (o:Oper) (r:OpRes):Prop where
 op:all[i]? = some o
 grd:ubgb_ all (slF all L (fun _=>true) sl0 i) o=some ((L i).tk,(L i).g)
 val:opF E (fun x=>(evalO (slF all L (fun _=>true) sl0 i) x).strip (L i).tk)
  (match o.op with | .pick c _ _=>fun x=>(evalO (slF all L (fun _=>true) sl0 i) x).strip (ubpm_ c true (L i).tk) | _=>fun x=>(evalO (slF all L (fun _=>true) sl0 i) x).strip (L i).tk)
  (match o.op with | .pick c _ _=>fun x=>(evalO (slF all L (fun _=>true) sl0 i) x).strip (ubpm_ c false (L i).tk) | _=>fun x=>(evalO (slF all L (fun _=>true) sl0 i) x).strip (L i).tk)
  (seen all true n0 i (L i).c.2 (stF L (fun _=>true) σ0 i)) (n0+8*i) o=some r
 gives:(L i).g=true→Gives r (L i).u
 gives':(L i).tk=[]→Gives r (L i).u
 calm:calm (L i).tk (L i).u=true
 wr:wrOK (seen all true n0 i (L i).c.2 (stF L (fun _=>true) σ0 i)) (n0+8*i) (L i).u=true
 cls:(L i).c.1=(L i).u.far (n0+8*i)
theorem Fact.congr {E:Env} {all:Array Oper} {n0:Nat} {L L':Nat→Info} {sl0:Nat→SV} {σ0:Nat→Option Obj} {i:Nat} {o:Oper} {r:OpRes}
 (h:Fact E all n0 L sl0 σ0 i o r) (hl:∀ j,j≤i→L j=L' j):Fact E all n0 L' sl0 σ0 i o r:=by
 have e1:=ub2w_ (all:=all) (S:=fun _=>true) (sl0:=sl0) (n:=i) fun j hj=>hl j (by omega)
 have e2:=ub2x_ (S:=fun _=>true) (σ0:=σ0) (n:=i) fun j hj=>hl j (by omega)
 have e3:=hl i (Nat.le_refl _)
 exact ⟨h.op,by rw [← e1,← e3]; exact h.grd,by rw [← e1,← e2,← e3]; exact h.val,by rw [← e3]; exact h.gives,by rw [← e3]; exact h.gives',by rw [← e3]; exact h.calm,
  by rw [← e2,← e3]; exact h.wr,by rw [← e3]; exact h.cls⟩
theorem ub30_ {Ω:Type} {E:Env} {n0:Nat} {all:Array Oper} {K:St→List (List Nat×List Nat)→Option Ω} {ω:Ω} {sl0:Nat→SV} {σ0:Nat→Option Obj} :
 ∀ (ops:List Oper) (i:Nat) (st:St) (L:Nat→Info),evOps E all true n0 ops i st (((List.range i).map fun j=>(L j).c).reverse) K=some ω→all.toList.drop i=ops→i+ops.length=all.size →
  st.slots=slF all L (fun _=>true) sl0 i→st.sto=stF L (fun _=>true) σ0 i→(∀ j,j<i→∃ o r,Fact E all n0 L sl0 σ0 j o r) →
  ∃ L':Nat→Info,(∀ j,j<all.size→∃ o r,Fact E all n0 L' sl0 σ0 j o r) ∧
   K { slots:=slF all L' (fun _=>true) sl0 all.size,sto:=stF L' (fun _=>true) σ0 all.size,n:=st.n } (((List.range all.size).map fun j=>(L' j).c).reverse)=some ω:=by
 intro ops
 induction ops with
 | nil =>
   intro i st L h hdr hl h1 h2 h3
   simp only [List.length_nil,Nat.add_zero] at hl
   subst hl
   refine ⟨L,h3,?_⟩
   rw [← h1,← h2]; exact h
 | cons o rest ih =>
   intro i st L h hdr hl h1 h2 h3
   obtain ⟨tk,g,r,u,k1,k2,k3,k4,k5,k6,k7⟩:=ubzg_ h
   have ho:all[i]? = some o:=by
    have:=congrArg List.head? hdr
    rw [List.head?_drop] at this
    simpa using this
   let c:List Nat×List Nat:=(u.far (n0+8*i),foot (fun x=>(evalO st.slots x).strip tk) st.sto o.op)
   let L':Nat→Info:=fun j=>if j=i then ⟨tk,g,u,c⟩ else L j
   have hL:∀ j,j<i→L j=L' j:=fun j hj=>by simp [L',Nat.ne_of_lt hj]
   have hLi:L' i=⟨tk,g,u,c⟩:=by simp [L']
   have e1:=ub2w_ (all:=all) (S:=fun _=>true) (sl0:=sl0) (n:=i) hL
   have e2:=ub2x_ (S:=fun _=>true) (σ0:=σ0) (n:=i) hL
   have s1:st.slots=slF all L' (fun _=>true) sl0 i:=h1.trans e1
   have s2:st.sto=stF L' (fun _=>true) σ0 i:=h2.trans e2
   have hget:all.getD i default=o:=by
    rw [Array.getD_eq_getD_getElem?,ho]; rfl
   have:=ih (i+1) { slots:=u6i_ st.slots o.dst (mkGrd tk g u.sv),sto:=u3_ st.sto u.wr,n:=st.n } L' ?_ ?_ ?_ ?_ ?_ ?_
   · exact this
   · have:((List.range (i+1)).map fun j=>(L' j).c).reverse=c::((List.range i).map fun j=>(L j).c).reverse:=by
      rw [List.range_succ,List.map_append,List.reverse_append]
      simp only [List.map_cons,List.map_nil,List.reverse_cons,List.reverse_nil,List.nil_append,List.singleton_append,hLi,List.cons.injEq,true_and]
      congr 1
      exact List.map_congr_left fun j hj=>by rw [hL j (List.mem_range.1 hj)]
     rw [this]; exact k7
   · have:=congrArg List.tail hdr
     simpa [List.tail_drop] using this
   · simp only [List.length_cons] at hl; omega
   · simp only [slF,hLi,cond_true,hget,← s1]
   · simp only [stF,hLi,cond_true,← s2]
   · intro j hj
     by_cases e:j=i
     · subst e
       refine ⟨o,r,ho,?_,?_,?_,?_,?_,?_,?_⟩
       · rw [hLi,← s1]; exact k1
       · rw [hLi,← s1,← s2]; exact k2
       · rw [hLi]; exact k3
       · rw [hLi]; exact k4
       · rw [hLi]; exact k5
       · rw [hLi,← s2]; exact k6
       · rw [hLi]
     · obtain ⟨o',r',hf⟩:=h3 j (by omega)
       exact ⟨o',r',hf.congr fun j' hj'=>hL j' (by omega)⟩
end
end Go.Ev
namespace Go.Ev
variable [Pins]
section
variable {all:Array Oper}
def ubsl_ (acc:Array Nat) (l:List Edge) (s:Nat):Nat:=l.foldl (fun s e=>if Region.binds .any e then s ||| 2 ^ e.on ||| acc.getD e.on 0 else s) s
theorem ub1b_ {acc:Array Nat} {i:Nat}:∀ {l:List Edge} {s:Nat},(ubsl_ acc l s).testBit i=true →
 s.testBit i=true∨∃ e∈l,Region.binds .any e=true∧(e.on=i∨(acc.getD e.on 0).testBit i=true):=by
 intro l
 induction l with
 | nil=>intro s h; exact .inl h
 | cons e r ih =>
   intro s h
   simp only [ubsl_,List.foldl_cons] at h
   rcases ih h with h | ⟨e',h1,h2⟩
   · by_cases hb:Region.binds .any e=true
     · rw [if_pos hb] at h
       simp only [Nat.testBit_or,Bool.or_eq_true,Nat.testBit_two_pow,decide_eq_true_eq] at h
       rcases h with (h | h) | h
       · exact .inl h
       · exact .inr ⟨e,List.mem_cons_self,hb,.inl h⟩
       · exact .inr ⟨e,List.mem_cons_self,hb,.inr h⟩
     · rw [if_neg hb] at h; exact .inl h
   · exact .inr ⟨e',List.mem_cons_of_mem _ h1,h2⟩
def befF (acc:Array Nat) (o:Oper):Array Nat:=acc.push (ubsl_ acc o.after.toList 0)
theorem before_eq (all:Array Oper):Region.before all=all.toList.foldl befF #[]:=by
 unfold Region.before
 rw [← Array.foldl_toList]
 congr 1
 funext acc o
 simp only [befF,ubsl_,Array.foldl_toList]
theorem ub80_:∀ (l:List Oper) (acc:Array Nat),(l.foldl befF acc).size=acc.size+l.length∧(∀ k,k<acc.size→(l.foldl befF acc).getD k 0=acc.getD k 0) ∧
 ∀ (j:Nat) (o:Oper),l[j]? = some o→∃ acc':Array Nat,(∀ k,k<acc.size+j→acc'.getD k 0=(l.foldl befF acc).getD k 0)∧(l.foldl befF acc).getD (acc.size+j) 0=ubsl_ acc' o.after.toList 0:=by
 intro l
 induction l with
 | nil=>intro acc; exact ⟨rfl,fun _ _=>rfl,fun j o h=>by cases h⟩
 | cons o l ih =>
   intro acc
   obtain ⟨h1,h2,h3⟩:=ih (befF acc o)
   have hsz:(befF acc o).size=acc.size+1:=by simp [befF]
   have hlow:∀ k,k<acc.size→(befF acc o).getD k 0=acc.getD k 0:=by
    intro k hk
    simp [befF,Array.getD_eq_getD_getElem?,Array.getElem?_push,Nat.ne_of_lt hk]
   simp only [List.foldl_cons]
   refine ⟨by rw [h1,hsz,List.length_cons]; omega,fun k hk=>by rw [h2 k (by omega),hlow k hk],fun j p hj=>?_⟩
   cases j with
   | zero =>
     have:o=p:=by simpa using hj
     subst this
     refine ⟨acc,fun k hk=>by rw [h2 k (by omega),hlow k (by omega)],?_⟩
     rw [h2 _ (by omega)]
     simp [befF,Array.getD_eq_getD_getElem?]
   | succ j =>
     obtain ⟨acc',k1,k2⟩:=h3 j p (by simpa using hj)
     refine ⟨acc',fun k hk=>k1 k (by omega),?_⟩
     rw [show acc.size+(j+1)=(befF acc o).size+j by omega]
     exact k2
def Back (all:Array Oper):Prop:=∀ (i:Nat) o,all[i]? = some o→∀ e∈o.after,Region.binds .any e=true→e.on<i
def bits (all:Array Oper) (i:Nat):Nat:=(Region.before all).getD i 0
theorem ub81_ (hb:Back all) {j i:Nat} {o:Oper} (ho:all[j]? = some o) (h:(bits all j).testBit i=true) :
 ∃ e∈o.after,Region.binds .any e=true∧(e.on=i∨(bits all e.on).testBit i=true):=by
 obtain ⟨_,_,h3⟩:=ub80_ all.toList #[]
 obtain ⟨acc',k1,k2⟩:=h3 j o (by simpa using ho)
 unfold bits at h
 rw [before_eq] at h
 simp only [List.size_toArray,List.length_nil,Nat.zero_add] at k1 k2
 rw [k2] at h
 rcases ub1b_ h with h | ⟨e,h1,h2,h4⟩
 · simp at h
 · have hmem:e∈o.after:=by simpa using h1
   refine ⟨e,hmem,h2,h4.imp id fun h=>?_⟩
   have hlt:=hb j o ho e hmem h2
   rw [k1 e.on hlt] at h
   unfold bits
   rw [before_eq]; exact h
def Down (all:Array Oper) (S:Nat→Bool):Prop:=∀ (j:Nat) o,S j=true→all[j]? = some o→∀ e∈o.after,Region.binds .any e=true→S e.on=true
theorem ucad_ (hb:Back all) {S:Nat→Bool} (hd:Down all S):∀ (n j:Nat) (o:Oper),j<n→all[j]? = some o→(∀ e∈o.after,Region.binds .any e=true→S e.on=true) →
 ∀ i,(bits all j).testBit i=true→S i=true∧i<j:=by
 intro n
 induction n with
 | zero=>intro j o h; omega
 | succ n ih =>
   intro j o hj ho hall i h
   obtain ⟨e,he,hbd,h1⟩:=ub81_ hb ho h
   have hlt:=hb j o ho e he hbd
   have hS:=hall e he hbd
   rcases h1 with h1 | h1
   · subst h1; exact ⟨hS,hlt⟩
   · have hsz:j<all.size:=(Array.getElem?_eq_some_iff.1 ho).1
     have hp:all[e.on]? = some all[e.on]:=Array.getElem?_eq_getElem (by omega)
     obtain ⟨k1,k2⟩:=ih e.on _ (by omega) hp (fun e' he' hb'=>hd e.on _ hS hp e' he' hb') i h1
     exact ⟨k1,by omega⟩
structure OrdOK (all:Array Oper) (c:Nat→List Nat×List Nat):Prop where
 back:Back all
 slot:∀ (i j:Nat) (o p:Oper) (t:Nat),all[i]? = some o→all[j]? = some p→i≠j→o.dst=some t→t∈ubyh_ all p→(i<j∧(bits all j).testBit i=true)∨(j<i∧(bits all i).testBit j=true)
 mem:∀ (i j:Nat) (o p:Oper),all[i]? = some o→all[j]? = some p→i≠j→∀ k,k∈(c i).1→k∈(c j).2→(i<j∧(bits all j).testBit i=true)∨(j<i∧(bits all i).testBit j=true)
theorem ubzi_ {i j:Nat} (hne:i≠j) (h:ub2g_ (Region.before all) i j=true):(i<j∧(bits all j).testBit i=true)∨(j<i∧(bits all i).testBit j=true):=by
 unfold ub2g_ at h
 cases hb:Nat.blt i j with
 | true =>
   rw [hb] at h
   exact .inl ⟨by rwa [Nat.blt_eq] at hb,h⟩
 | false =>
   rw [hb] at h
   refine .inr ⟨?_,h⟩
   rw [← Bool.not_eq_true,Nat.blt_eq] at hb
   omega
theorem ub82_:∀ {l m:List Nat},ub74_ l m=true→∀ k,k∈l→k ∉ m:=by
 intro l
 induction l with
 | nil=>intro m _ k h; cases h
 | cons x l ih =>
   intro m h k hk
   simp only [ub74_,Bool.and_eq_true,Bool.not_eq_true'] at h
   rcases List.mem_cons.1 hk with rfl | hk
   · intro hm; rw [u5k_.2 hm] at h; cases h.1
   · exact ih h.2 k hk
theorem ub6j_ {cl:List (List Nat×List Nat)} {c:Nat→List Nat×List Nat} (hc:cl=(List.range all.size).map c) (h:ubyi_ all cl=true):OrdOK all c:=by
 unfold ubyi_ at h
 simp only [Bool.and_eq_true,List.all_eq_true,List.mem_range] at h
 obtain ⟨h1,h2⟩:=h
 have hget:∀ {i:Nat} {o:Oper},all[i]? = some o→i<all.size∧all.getD i default=o:=fun {i o} ho =>
  ⟨(Array.getElem?_eq_some_iff.1 ho).1,by rw [Array.getD_eq_getD_getElem?,ho]; rfl⟩
 have hcl:∀ i,i<all.size→cl.getD i ([],[])=c i:=by
  intro i hi
  rw [hc,List.getD_eq_getElem?_getD,List.getElem?_map,List.getElem?_range hi]
  rfl
 refine ⟨fun i o ho e he hb=>?_,fun i j o p t ho hp hne hd hn=>?_,fun i j o p ho hp hne k h3 h4=>?_⟩
 · obtain ⟨hi,hg⟩:=hget ho
   have:=h1 i hi
   rw [hg] at this
   have:=this e (by simpa using he)
   rw [hb] at this
   simpa [Nat.blt_eq] using this
 · obtain ⟨hi,hg⟩:=hget ho
   obtain ⟨hj,hg'⟩:=hget hp
   have:=h2 i hi j hj
   rw [hg,hg',hd] at this
   have hbeq:Nat.beq i j=false:=by rw [← Bool.not_eq_true]; exact fun hh=>hne (Nat.eq_of_beq_eq_true hh)
   rw [hbeq] at this
   simp only [Bool.false_or,Bool.and_eq_true,Bool.or_eq_true,Bool.not_eq_true'] at this
   rcases this.1 with h | h
   · exact absurd hn (by simpa using h)
   · exact ubzi_ hne h
 · obtain ⟨hi,hg⟩:=hget ho
   obtain ⟨hj,hg'⟩:=hget hp
   have:=h2 i hi j hj
   have hbeq:Nat.beq i j=false:=by rw [← Bool.not_eq_true]; exact fun hh=>hne (Nat.eq_of_beq_eq_true hh)
   rw [hbeq,hcl i hi,hcl j hj] at this
   simp only [Bool.false_or,Bool.and_eq_true,Bool.or_eq_true,Bool.not_eq_true'] at this
   rcases this.2 with h | h
   · exact absurd h4 (ub82_ h k h3)
   · exact ubzi_ hne h
end
section
variable {P:Program} {fr:Fr} {free free':Nat→Prop} {self:Nat} {σ σ':Nat→Option Obj} {w w':World} {G G':Gh} {I:Im}
theorem ubn0_ {all:Array Oper} {o:Oper} {t:Nat} (h:t∈ubxa_ o∨t∈ulr_ all o∨o.dst=some t):t∈ubyh_ all o:=by
 unfold ubyh_
 simp only [List.mem_append]
 rcases h with h | h | h
 · exact .inl (.inl h)
 · refine .inl (.inr ?_)
   unfold ulr_ at h
   exact h
 · exact .inr (by rw [h]; simp)
theorem ucae_ {self:Nat} {u:Upd} {k:Nat} (hk:k∈keysW u.wr):(self≤k∧k<self+8)∨k∈u.far self:=by
 obtain ⟨p,hp,rfl⟩:=List.mem_map.1 hk
 cases h:ubc8_ self p.1 with
 | true=>exact .inl (by simpa only [ubc8_,Bool.and_eq_true,Nat.ble_eq,Nat.blt_eq] using h)
 | false=>exact .inr (List.mem_map.2 ⟨p,List.mem_filter.2 ⟨hp,by rw [h]; rfl⟩,rfl⟩)
theorem ucdg_ {σ:Nat→Option Obj} {self:Nat} {u:Upd} (h:wrOK σ self u=true) {k:Nat} (hk:k∈keysW u.wr):(self≤k∧k<self+8)∨(σ k).isSome=true:=by
 unfold wrOK at h
 rw [List.all_eq_true] at h
 obtain ⟨p,hp,rfl⟩:=List.mem_map.1 hk
 have:=h p hp
 simp only [ubc8_,Bool.or_eq_true,Bool.and_eq_true,Nat.ble_eq,Nat.blt_eq] at this
 exact this
theorem ubxb_ {all:Array Oper} {n0 i:Nat} {F:List Nat} {σ:Nat→Option Obj} {k:Nat} (h:(seen all true n0 i F σ k).isSome=true) :
 k∈F∧seen all true n0 i F σ k=σ k∧(k<n0∨(bits all i).testBit ((k-n0) / 8)=true):=by
 unfold seen at h ⊢
 simp only [cond_true] at h ⊢
 cases hb:(hasN k F&&(Nat.blt k n0||((Region.before all).getD i 0).testBit ((k-n0) / 8))) with
 | false=>rw [hb] at h; cases h
 | true =>
   rw [Bool.and_eq_true,Bool.or_eq_true,Nat.blt_eq] at hb
   exact ⟨u5k_.1 hb.1,rfl,hb.2⟩
def freeS (n0:Nat) (S:Nat→Bool) (n:Nat):Nat→Prop:=fun k=>n0≤k∧∀ j,j<n→S j=true→¬ (n0+8*j≤k∧k<n0+8*j+8)
theorem ucdh_ {listed:Array Bool} {i j:Nat} (hi:i<listed.size):(listed.setIfInBounds i true).getD j false=(decide (j=i)||listed.getD j false):=by
 by_cases h:j=i
 · subst h; simp [hi]
 · rw [getD_set_ne false (fun e=>h e.symm)]; simp [h]
theorem ucer_ {E:Env} (hE:EnvOK P fr.dr E) {N n0:Nat} {all:Array Oper} (hgo:GuardsOK all) (hdst:∀ (j:Nat) o d,all[j]? = some o→o.dst=some d→d<N∧fr.fx d=none)
 {L:Nat→Info} {sl0:Nat→SV} {σ0:Nat→Option Obj} (hF:∀ j,j<all.size→∃ o r,Fact E all n0 L sl0 σ0 j o r) (hO:OrdOK all fun i=>(L i).c) {Q:Exit→Act→World→Prop}
 (hQ:∀ a' w' G',SimF P N fr (fun k=>n0+8*all.size≤k) (DS all (fun _=>true)) (slF all L (fun _=>true) sl0 all.size) (stF L (fun _=>true) σ0 all.size) a' w' G'→Q .normal a' w') :
 ∀ (fuel:Nat) (listed:Array Bool) (a:Act) (w:World) (G:Gh),listed.size=all.size→((List.range all.size).filter fun j=>!listed.getD j false).length≤fuel →
  Down all (fun j=>listed.getD j false) →
  SimF P N fr (freeS n0 (fun j=>listed.getD j false) all.size) (DS all (fun j=>listed.getD j false)) (slF all L (fun j=>listed.getD j false) sl0 all.size) (stF L (fun j=>listed.getD j false) σ0 all.size) a w G →
  wpAny P .any all Q fuel listed a w:=by
 have hgetD:∀ {i:Nat} {o:Oper},all[i]? = some o→i<all.size∧all.getD i default=o:=fun {i o} ho =>
  ⟨(Array.getElem?_eq_some_iff.1 ho).1,by rw [Array.getD_eq_getD_getElem?,ho]; rfl⟩
 have hdone:∀ (listed:Array Bool),listed.size=all.size→Region.ready .any all listed=[]→∀ j,j<all.size→listed.getD j false=true:=by
  intro listed hsz hr
  have:∀ n j,j<n→j<all.size→listed.getD j false=true:=by
   intro n
   induction n with
   | zero=>intro j h; omega
   | succ n ih =>
     intro j hj hja
     apply Classical.byContradiction
     intro hn
     have hm:j∈Region.ready .any all listed:=by
      rw [mem_ready]
      refine ⟨?_,all[j],Array.getElem?_eq_getElem hja,fun e he hb=>?_⟩
      · have hj':j<listed.size:=by omega
        simp only [Array.getD_eq_getD_getElem?,Array.getElem?_eq_getElem hj',Option.getD_some,Bool.not_eq_true] at hn ⊢
        exact hn
      · have hlt:=hO.back j _ (Array.getElem?_eq_getElem hja) e he hb
        exact ih e.on (by omega) (by omega)
     rw [hr] at hm; cases hm
  intro j hj
  exact this (j+1) j (by omega) hj
 have hfin:∀ (listed:Array Bool) (a:Act) (w:World) (G:Gh),(∀ j,j<all.size→listed.getD j false=true) →
  SimF P N fr (freeS n0 (fun j=>listed.getD j false) all.size) (DS all (fun j=>listed.getD j false)) (slF all L (fun j=>listed.getD j false) sl0 all.size) (stF L (fun j=>listed.getD j false) σ0 all.size) a w G→Q .normal a w:=by
  intro listed a w G hall hs
  have e1:slF all L (fun j=>listed.getD j false) sl0 all.size=slF all L (fun _=>true) sl0 all.size:=by
   funext t; exact ub8y_ fun j hj _=>hall j hj
  have e2:stF L (fun j=>listed.getD j false) σ0 all.size=stF L (fun _=>true) σ0 all.size:=by
   funext t; exact ub8z_ fun j hj _=>hall j hj
  rw [e1,e2] at hs
  exact hQ a w G (hs.weaken (fun k hk=>⟨by omega,fun j hj _=>by omega⟩) fun t ht=>ht.mono fun _ _=>rfl)
 intro fuel
 induction fuel with
 | zero =>
   intro listed a w G hsz hfu hdn hs
   have hall:∀ j,j<all.size→listed.getD j false=true:=by
    intro j hj
    apply Classical.byContradiction
    intro hn
    have:j∈(List.range all.size).filter fun j=>!listed.getD j false:=List.mem_filter.2 ⟨List.mem_range.2 hj,by simpa using hn⟩
    rw [List.eq_nil_of_length_eq_zero (Nat.le_zero.1 hfu)] at this
    cases this
   refine ⟨?_,hfin listed a w G hall hs⟩
   rw [List.eq_nil_iff_forall_not_mem]
   intro j hj
   obtain ⟨h1,o,ho,_⟩:=mem_ready.1 hj
   have hj':j<all.size:=(hgetD ho).1
   have:=hall j hj'
   have hj2:j<listed.size:=by omega
   simp only [Array.getD_eq_getD_getElem?,Array.getElem?_eq_getElem hj2,Option.getD_some] at h1 this
   rw [this] at h1; cases h1
 | succ fuel ih =>
   intro listed a w G hsz hfu hdn hs
   refine ⟨fun hr=>hfin listed a w G (hdone listed hsz hr) hs,fun i hi=>?_⟩
   obtain ⟨hun,o,ho,hall⟩:=mem_ready.1 hi
   obtain ⟨hin,hget⟩:=hgetD ho
   have hun':listed.getD i false=false:=by
    have hj2:i<listed.size:=by omega
    simp only [Array.getD_eq_getD_getElem?,Array.getElem?_eq_getElem hj2,Option.getD_some] at hun ⊢
    exact hun
   obtain ⟨o',r,hf⟩:=hF i hin
   have eo:o'=o:=by
    have:=hf.op
    rw [ho] at this
    cases this; rfl
   subst eo
   have hpre:∀ j,(bits all i).testBit j=true→listed.getD j false=true∧j<i:=ucad_ hO.back hdn (i+1) i o' (by omega) ho hall
   have hpost:∀ j,(bits all j).testBit i=true→j<all.size→listed.getD j false=false:=by
    intro j hb hj
    rw [← Bool.not_eq_true]
    intro hS
    have hp:all[j]? = some all[j]:=Array.getElem?_eq_getElem hj
    have:=(ucad_ hO.back hdn (j+1) j _ (by omega) hp (fun e he hb=>hdn j _ hS hp e he hb) i hb).1
    rw [hun'] at this; cases this
   have hord:∀ j,j<all.size→((i<j∧(bits all j).testBit i=true)∨(j<i∧(bits all i).testBit j=true))→listed.getD j false=decide (j<i):=by
    intro j hj h
    rcases h with ⟨h1,h2⟩ | ⟨h1,h2⟩
    · rw [hpost j h2 hj]; symm; rw [decide_eq_false_iff_not]; omega
    · rw [(hpre j h2).1]; symm; rw [decide_eq_true_eq]; exact h1
   have hcls:∀ j oj,all[j]? = some oj→(L j).c.1=(L j).u.far (n0+8*j)∧wrOK (seen all true n0 j (L j).c.2 (stF L (fun _=>true) σ0 j)) (n0+8*j) (L j).u=true:=by
    intro j oj hj
    obtain ⟨o'',r'',hf''⟩:=hF j (hgetD hj).1
    exact ⟨hf''.cls,hf''.wr⟩
   have hslot:∀ t,t∈ubyh_ all o'→slF all L (fun _=>true) sl0 i t=slF all L (fun j=>listed.getD j false) sl0 all.size t:=by
    intro t ht
    rw [← ub6h_ (S:=fun j=>decide (j<i)) (n:=all.size) (by omega) (fun j hj=>by simpa using hj) (fun j hj _=>by simpa using hj)]
    refine ub8y_ fun j hj hd=>?_
    by_cases e:j=i
    · subst e; rw [hun']; simp
    · have hp:all[j]? = some all[j]:=Array.getElem?_eq_getElem hj
      rw [(hgetD hp).2] at hd
      exact (hord j hj ((hO.slot j i _ o' t hp ho e hd ht).symm)).symm
   have hsto:∀ k,(seen all true n0 i (L i).c.2 (stF L (fun _=>true) σ0 i) k).isSome=true →
    seen all true n0 i (L i).c.2 (stF L (fun _=>true) σ0 i) k=stF L (fun j=>listed.getD j false) σ0 all.size k:=by
    intro k hk
    obtain ⟨h1,h2,h3⟩:=ubxb_ hk
    rw [h2]
    rw [← ub6i_ (S:=fun j=>decide (j<i)) (n:=all.size) (by omega) (fun j hj=>by simpa using hj) (fun j hj _=>by simpa using hj)]
    refine ub8z_ fun j hj hd=>?_
    by_cases e:j=i
    · subst e; rw [hun']; simp
    · have hp:all[j]? = some all[j]:=Array.getElem?_eq_getElem hj
      obtain ⟨hc,hw⟩:=hcls j _ hp
      rcases ucae_ (self:=n0+8*j) hd with ⟨k1,k2⟩ | hl
      · have hdiv:(k-n0) / 8=j:=by omega
        rcases h3 with h3 | h3
        · omega
        · rw [hdiv] at h3
          exact (hord j hj (.inr ⟨(hpre j h3).2,h3⟩)).symm
      · exact (hord j hj ((hO.mem j i _ o' hp ho e k (hc▸hl) h1).symm)).symm
   refine ucac_ hE ho (self:=n0+8*i) (sl0:=slF all L (fun _=>true) sl0 i) hs ?_ ?_ ?_ hf.grd ?_ ?_ hf.val hf.gives hf.gives' hf.calm ?_
   · intro t ht
     exact hslot t (ubn0_ (ht.elim .inl fun h=>.inr (.inl h)))
   · intro t ht
     obtain ⟨j,b,p,hg,hp,hd⟩:=ubk3_ ht
     have hh:=ubnz_ ho hg
     refine ⟨hh,j,p,?_,hp,hd⟩
     have hji:=hgo.back hh i o' j b ho hg
     have:=hO.slot j i p o' t hp ho (by omega) hd (ubn0_ (.inr (.inl ht)))
     show listed.getD j false=true
     rw [hord j (by omega) this.symm]; simpa using hji
   · intro d hd
     refine ⟨hdst i o' d ho hd,fun hD=>?_⟩
     obtain ⟨hh,j,p,hj,hp,hpd⟩:=hD
     have hj:listed.getD j false=true:=hj
     have hne:j≠i:=fun e=>by subst e; rw [hun'] at hj; cases hj
     rcases Nat.lt_or_ge j i with h | h
     · exact hgo.uniq hh j i p o' d h hp ho hpd hd
     · exact hgo.uniq hh i j o' p d (by omega) ho hp hd hpd
   · intro k ob hk
     rw [← hsto k (by rw [hk]; rfl)]; exact hk
   · intro k h1 h2
     refine ⟨by omega,fun j hj hS h3=>?_⟩
     have hS:listed.getD j false=true:=hS
     have:j=i:=by omega
     subst this
     rw [hun'] at hS; cases hS
   · intro a' w' G' _ hs'
     have hset:∀ j,(listed.setIfInBounds i true).getD j false=(decide (j=i)||listed.getD j false):=fun j=>ucdh_ (by omega)
     have hS':(fun j=>(listed.setIfInBounds i true).getD j false)=fun j=>(decide (j=i)||listed.getD j false):=funext hset
     refine ih (listed.setIfInBounds i true) a' w' G' (by simpa using hsz) ?_ ?_ ?_
     · have hlt:((List.range all.size).filter fun j=>!(listed.setIfInBounds i true).getD j false).length<((List.range all.size).filter fun j=>!listed.getD j false).length:=by
        have hsub:((List.range all.size).filter fun j=>!(listed.setIfInBounds i true).getD j false)=((List.range all.size).filter fun j=>!listed.getD j false).filter fun j=>!decide (j=i):=by
         rw [List.filter_filter]
         refine List.filter_congr fun j _=>?_
         rw [hset,Bool.not_or]
        rw [hsub]
        refine List.length_filter_lt_length_iff_exists.2 ⟨i,List.mem_filter.2 ⟨List.mem_range.2 hin,by rw [hun']; rfl⟩,by simp⟩
       omega
     · intro j p hj hp e he hb
       have hj:(listed.setIfInBounds i true).getD j false=true:=hj
       show (listed.setIfInBounds i true).getD e.on false=true
       rw [hset] at hj ⊢
       rw [Bool.or_eq_true,decide_eq_true_eq] at hj ⊢
       rcases hj with rfl | hj
       · rw [ho] at hp
         cases hp
         exact .inr (hall e he hb)
       · exact .inr (hdn j p hj hp e he hb)
     · rw [hS']
       have e1:u6i_ (slF all L (fun j=>listed.getD j false) sl0 all.size) o'.dst (mkGrd (L i).tk (L i).g (L i).u.sv)=slF all L (fun j=>(decide (j=i)||listed.getD j false)) sl0 all.size:=by
        funext t
        rw [uqd_]
        by_cases hd:o'.dst=some t
        · rw [if_pos hd]
          refine (ucbr_ (S:=fun j=>(decide (j=i)||listed.getD j false)) (by simp) (by rw [hget]; exact hd) hin fun j h1 h2 h3=>?_).symm
          have hp:all[j]? = some all[j]:=Array.getElem?_eq_getElem h2
          rw [(hgetD hp).2] at h3
          have:=hO.slot i j o' _ t ho hp (by omega) hd (ubn0_ (.inr (.inr h3)))
          have:=hord j h2 this
          rw [this]
          simp; omega
        · rw [if_neg hd]
          refine ub8y_ fun j hj h3=>?_
          have:j≠i:=fun e=>by subst e; rw [hget] at h3; exact hd h3
          simp [this]
       have e2:u3_ (stF L (fun j=>listed.getD j false) σ0 all.size) (L i).u.wr=stF L (fun j=>(decide (j=i)||listed.getD j false)) σ0 all.size:=by
        funext k
        by_cases hk:k∈keysW (L i).u.wr
        · refine (ucbs_ (S:=fun j=>(decide (j=i)||listed.getD j false)) (by simp) hk hin fun j h1 h2 h3=>?_).symm
          have hp:all[j]? = some all[j]:=Array.getElem?_eq_getElem h2
          have hne:¬ j=i:=by omega
          simp only [hne,decide_false,Bool.false_or]
          rw [← Bool.not_eq_true]
          intro hS
          have hno:¬ ((i<j∧(bits all j).testBit i=true)∨(j<i∧(bits all i).testBit j=true)):=by
           intro h
           have:=hord j h2 h
           rw [hS] at this
           simp at this; omega
          obtain ⟨hci,hwi⟩:=hcls i o' ho
          obtain ⟨hcj,hwj⟩:=hcls j _ hp
          rcases ucdg_ hwj h3 with hkj | hkj
          · rcases ucdg_ hwi hk with hki | hki
            · omega
            · obtain ⟨q1,q2,q3⟩:=ubxb_ hki
              have hdiv:(k-n0) / 8=j:=by omega
              rcases q3 with q3 | q3
              · omega
              · rw [hdiv] at q3
                have:=(hpre j q3).2
                omega
          · obtain ⟨q1,q2,q3⟩:=ubxb_ hkj
            rcases ucae_ (self:=n0+8*i) hk with hki | hki
            · have hdiv:(k-n0) / 8=i:=by omega
              rcases q3 with q3 | q3
              · omega
              · rw [hdiv] at q3
                exact hno (.inl ⟨h1,q3⟩)
            · exact hno (hO.mem i j o' _ ho hp (by omega) k (hci▸hki) q1)
        · rw [ubsk_ hk]
          refine ub8z_ fun j hj h3=>?_
          have:j≠i:=fun e=>by subst e; exact hk h3
          simp [this]
       rw [← e1,← e2]
       refine hs'.weaken (fun k hk=>⟨⟨hk.1,fun j hj hS h3=>hk.2 j hj (by simp only [Bool.or_eq_true]; exact .inr hS) h3⟩,?_⟩) fun t ht=>ht.mono fun j hj=>by simp only [Bool.or_eq_true]; exact .inr hj
       have:=hk.2 i hin (by simp)
       rw [← Bool.not_eq_true]
       simp only [ubc8_,Bool.and_eq_true,Nat.ble_eq,Nat.blt_eq]
       exact this
end
end Go.Ev
namespace Go.Ev
variable [Pins]
structure SimN (P:Program) (N:Nat) (fr:Fr) (st:St) (a:Act) (w:World) (G:Gh):Prop where
 slots:∀ t,SlotOK P w G a (st.slots t) (a.tmps.getD t undef)
 defs:a.defers=[]
 size:a.tmps.size=N
 fix:∀ t v,fr.fx t=some v→a.tmps.getD t undef=v
 nogrd:∀ t tk g s,st.slots t≠.grd tk g s
 mem:MemS P fr (fun k=>st.n≤k) st.sto w G
 drawn:fr.dr=true→fr.w0.drawn≤w.drawn
section
variable {dr:Bool}
variable {P:Program} {fr:Fr} {free free':Nat→Prop} {self:Nat} {σ σ':Nat→Option Obj} {w w':World} {G G':Gh} {I:Im}
theorem ucbt_:∀ {l:List Oper},(l.filterMap (·.dst)).Nodup→∀ (i j:Nat) (o p:Oper) (d:Nat),i<j→l[i]? = some o→l[j]? = some p→o.dst=some d→p.dst≠some d:=by
 intro l
 induction l with
 | nil=>intro _ i j o p d _ h; cases h
 | cons q l ih =>
   intro hn i j o p d hij hi hj ho hp
   cases j with
   | zero=>omega
   | succ j =>
     have hj:l[j]? = some p:=by simpa using hj
     cases i with
     | zero =>
       have:q=o:=by simpa using hi
       subst this
       rw [List.filterMap_cons_some ho] at hn
       exact (List.nodup_cons.1 hn).1 (List.mem_filterMap.2 ⟨p,List.mem_of_getElem? hj,hp⟩)
     | succ i =>
       have hn':(l.filterMap (·.dst)).Nodup:=by
        cases hq:q.dst with
        | none=>rw [List.filterMap_cons_none hq] at hn; exact hn
        | some e=>rw [List.filterMap_cons_some hq] at hn; exact (List.nodup_cons.1 hn).2
       exact ih hn' i j o p d (by omega) (by simpa using hi) hj ho hp
theorem ubvz_ {all:Array Oper} (h:uqx_ all=true→uso_ (dsts all)=true∧ubda_ all=true):GuardsOK all:=by
 refine ⟨fun hh i j o p d hij hi hj ho=>?_,fun hh i o j b hi hg=>?_⟩
 · exact ucbt_ (ubvw_ (h hh).1) i j o p d hij (by simpa using hi) (by simpa using hj) ho
 · have h2:=(h hh).2
   unfold ubda_ at h2
   rw [List.all_eq_true] at h2
   have:=h2 i (List.mem_range.2 (Array.getElem?_eq_some_iff.1 hi).1)
   rw [Array.getD_eq_getD_getElem?,hi] at this
   simp only [Option.getD_some,hg,Nat.blt_eq] at this
   exact this
theorem ub83_ {Ω:Type} {E:Env} (hE:EnvOK P fr.dr E) (hmix:P.follows .mixedOrders=true) {N:Nat} {ops:Array Oper} {draw:Bool} {id:Nat} {st:St} {K:St→Option Ω} {ω:Ω} {Q:Exit→Act→World→Prop}
 (hdst:∀ (j:Nat) o d,ops[j]? = some o→o.dst=some d→d<N∧fr.fx d=none) {a:Act} (h:ub0r_ E ops draw st K=some ω) (hs:SimN P N fr st a w G)
 (hQ:∀ st' a' w' G',SimN P N fr st' a' w' G'→K st'=some ω→Q .normal a' w'):(Code.region id ops draw).wp P Q a w:=by
 unfold ub0r_ at h
 have hgo:GuardsOK ops:=by
  refine ubvz_ fun hh=>?_
  rw [hh] at h
  cases h1:uso_ (dsts ops) <;> cases h2:ubda_ ops <;> rw [h1,h2] at h <;> first | exact ⟨rfl,rfl⟩ | cases h
 have h:evOps E ops draw st.n ops.toList 0 st [] (fun st' cl=>bif !draw||ubyi_ ops cl.reverse then
  K { slots:=bif uqx_ ops then ubc9_ st'.slots else st'.slots,sto:=st'.sto,n:=st.n+8*ops.size } else none)=some ω:=by
  cases hc:(uqx_ ops && !(uso_ (dsts ops)&&ubda_ ops)) with
  | true=>rw [hc] at h; cases h
  | false=>rw [hc] at h; exact h
 have fin:∀ (st':St) (S:Nat→Bool) (a':Act) (w':World) (G':Gh),SimF P N fr (fun k=>st.n+8*ops.size≤k) (DS ops S) st'.slots st'.sto a' w' G' →
  K { slots:=bif uqx_ ops then ubc9_ st'.slots else st'.slots,sto:=st'.sto,n:=st.n+8*ops.size }=some ω→Q .normal a' w':=by
  intro st' S a' w' G' hs' hK
  refine hQ _ a' w' G' ⟨fun t=>?_,hs'.defs,hs'.size,hs'.fix,fun t tk g s=>?_,hs'.mem,hs'.drawn⟩ hK
  · have:=hs'.slots t
    cases hh:uqx_ ops with
    | false=>exact this
    | true =>
      simp only [cond_true,ubc9_]
      split
      · exact (SR.undef _).slotOK
      · exact this
  · cases hh:uqx_ ops with
    | false =>
      intro h
      obtain ⟨h1,h2⟩:=hs'.toks t tk g s h
      cases tk with
      | nil=>exact h1 rfl
      | cons p r =>
        have:=(h2 p List.mem_cons_self).1
        rw [hh] at this; cases this
    | true =>
      simp only [cond_true,ubc9_]
      split
      · intro h; cases h
      · rename_i hn
        intro h
        exact hn _ _ _ h
 cases draw with
 | false =>
   refine wp_region ?_
   have:=ubzh_ hE hgo hdst (Q:=Q) ops.toList 0 st [] a w G h (by simp) (by simp) ⟨hs.slots,hs.defs,hs.size,hs.fix,fun t tk g s hh=>absurd hh (hs.nogrd t tk g s),hs.mem.shrink fun k hk=>by simpa using hk,hs.drawn⟩
    (fun st' cl' a' w' G' hs' _ hK=>fin st' _ a' w' G' hs' hK)
   rw [List.range_eq_range']
   simpa using this
 | true =>
   obtain ⟨L,hF,hK⟩:=ub30_ (sl0:=st.slots) (σ0:=st.sto) ops.toList 0 st (fun _=>⟨[],true,⟨.undef,[]⟩,([],[])⟩) h (by simp) (by simp) rfl rfl (fun j hj=>by omega)
   refine wp_region_any hmix ?_
   cases ho:ubyi_ ops ((List.range ops.size).map fun j=>(L j).c) with
   | false=>simp only [List.reverse_reverse,ho,Bool.not_true,Bool.or_false,cond_false] at hK; cases hK
   | true =>
     simp only [List.reverse_reverse,ho,Bool.not_true,Bool.false_or,cond_true] at hK
     have hrep:∀ j,(Array.replicate ops.size false).getD j false=false:=by
      intro j
      simp only [Array.getD_eq_getD_getElem?,Array.getElem?_replicate]
      split <;> rfl
     have e1:slF ops L (fun j=>(Array.replicate ops.size false).getD j false) st.slots ops.size=st.slots:=by
      rw [ub6h_ (i:=0) (Nat.zero_le _) (fun j hj=>by omega) (fun j _ _=>hrep j)]; rfl
     have e2:stF L (fun j=>(Array.replicate ops.size false).getD j false) st.sto ops.size=st.sto:=by
      rw [ub6i_ (i:=0) (Nat.zero_le _) (fun j hj=>by omega) (fun j _ _=>hrep j)]; rfl
     refine ucer_ (n0:=st.n) (sl0:=st.slots) (σ0:=st.sto) hE hgo hdst hF (ub6j_ rfl ho) (fun a' w' G' hs'=>fin ⟨slF ops L (fun _=>true) st.slots ops.size,stF L (fun _=>true) st.sto ops.size,0⟩ _ a' w' G' hs' hK) ops.size _ a _ G (by simp)
      (Nat.le_trans (List.length_filter_le _ _) (by simp)) (fun j o hj=>?_) ?_
     · have hj:(Array.replicate ops.size false).getD j false=true:=hj
       rw [hrep j] at hj; cases hj
     · rw [e1,e2]
       refine SimF.draws ⟨hs.slots,hs.defs,hs.size,hs.fix,fun t tk g s hh=>absurd hh (hs.nogrd t tk g s),hs.mem.shrink fun k hk=>hk.1,hs.drawn⟩ _ (Nat.le_succ _)
def exOf:Ex→Exit
 | .normal=>.normal
 | .exit i=>.exit i
 | .ret=>.ret
theorem ub2y_ {Q:Exit→Act→World→Prop} {K:Act→World→Prop} {e:Ex} {a:Act} {w:World} (h:match e with | .normal=>K a w | e=>Q (exOf e) a w):Exit.then K Q (exOf e) a w:=by
 cases e <;> exact h
def OutS (P:Program) (w:World) (I:Im) (a:Act) (e:Exit) (hs:Nat) (bs:List Nat):(l:List (Ex×Kp))→OutT l→Prop
 | [],x=>Empty.elim x
 | [o],x=>e=exOf o.1∧∃ bs',ShL P w I o.2.sh x (o.2.tm.map fun t=>a.tmps.getD t undef) bs'∧bs'.Nodup∧∀ b∈bs',b∈bs∨hs≤b
 | o::p::r,x=>Sum.casesOn (motive:=fun _=>Prop) x (fun y=>e=exOf o.1∧∃ bs',ShL P w I o.2.sh y (o.2.tm.map fun t=>a.tmps.getD t undef) bs'∧bs'.Nodup∧∀ b∈bs',b∈bs∨hs≤b)
  (fun y=>OutS P w I a e hs bs (p::r) y)
def ubad_ (P:Program) (dr:Bool) (N:Nat) (s:CSpec) (x:OutT s.outs) (a0:Act) (w:World) (I:Im) (bs:List Nat):Exit→Act→World→Prop:=fun e a' w' =>
 a'.defers=[]∧a'.tmps.size=N∧(∀ t,hasN t s.wrs=false→a'.tmps.getD t undef=a0.tmps.getD t undef)∧(dr=true→w.drawn≤w'.drawn)∧∃ I',After (·∈bs) w I w' I'∧OutS P w' I' a' e w.heap.size bs s.outs x
def alV (a:Act) (c:Nat):Value:=bif Nat.blt c 1048576 then a.tmps.getD c undef else .func (.func (c / 1048576-1)) #[] #[a.tmps.getD (c % 1048576) undef]
def AlEq (al:List (Nat×Nat)) (a:Act):Prop:=∀ t j,lookN al t=some j→a.tmps.getD t undef=alV a j
def CutOK (P:Program) (dr:Bool) (N:Nat) (s:CSpec) (c:Code):Prop :=
 ∀ (w:World) (I:Im) (a:Act) (v:TupR s.inn.sh) (bs:List Nat),Mem w I→a.defers=[]→a.tmps.size=N→AlEq s.al a→ShL P w I s.inn.sh v (s.inn.tm.map fun t=>a.tmps.getD t undef) bs→bs.Nodup →
  match s.nd with
  | none=>∀ x,s.F v=some x→c.wp P (ubad_ P dr N s x a w I bs) a w
  | some d=>(∀ o,d.S v o→∃ x,d.F v o=some x)→c.wp P (fun e a' w'=>∃ o x,d.S v o∧d.F v o=some x∧ubad_ P dr N s x a w I bs e a' w') a w
theorem ubzj_ {a:Act}:∀ {tm:List Nat} {l:List SV},(∀ (j:Nat) (s:SV) (t:Nat),l[j]? = some s→tm[j]? = some t→SR P w G s (a.tmps.getD t undef))→∀ t,SR P w G (ubr1_ tm l t) (a.tmps.getD t undef):=by
 intro tm
 induction tm with
 | nil=>intro l _ t; simp only [ubr1_]; exact SR.undef _
 | cons d tm ih =>
   intro l hl t
   cases l with
   | nil=>simp only [ubr1_]; exact SR.undef _
   | cons s l =>
     simp only [ubr1_]
     cases hb:Nat.beq t d with
     | true =>
       have e:=Nat.eq_of_beq_eq_true hb
       subst e
       exact hl 0 s t rfl rfl
     | false=>exact ih (fun j s' t' h1 h2=>hl (j+1) s' t' (by simpa using h1) (by simpa using h2)) t
theorem ub1c_:∀ (l:List (Nat×Option Obj)) (i:Nat),(lookN l i).getD none=u3_ (fun _=>none) l i:=by
 intro l
 induction l with
 | nil=>intro i; rfl
 | cons p r ih =>
   intro i
   obtain ⟨j,o⟩:=p
   simp only [lookN,u3_]
   cases hb:Nat.beq i j with
   | true=>rfl
   | false=>exact ih i
theorem ub84_:∀ {l:List Sh} {x:TupR l} {n:Nat},ub4r_ (mkL l x n) n=n+cntL l:=by
 intro l
 induction l with
 | nil=>intro x n; rfl
 | cons a l ih =>
   intro x n
   cases l with
   | nil=>exact (ub03_ a x n).trans (by simp [cntL])
   | cons b l =>
     have:ub4r_ (mkL (a::b::l) x n) n=ub4r_ (mkL (b::l) x.2 (mkC a x.1 n).nx) (mkC a x.1 n).nx:=rfl
     rw [this,ih,ub03_]
     simp only [cntL]; omega
theorem ub6k_ {N:Nat} {k:Kp} {v:TupR k.sh} {a:Act} {bs:List Nat} (hd:a.defers=[]) (hN:a.tmps.size=N) (hfx:∀ t v,fr.fx t=some v→a.tmps.getD t undef=v) (haf:After fr.gv fr.w0 fr.i0 w I) (hdr:fr.dr=true→fr.w0.drawn≤w.drawn)
 (h:ShL P w I k.sh v (k.tm.map fun t=>a.tmps.getD t undef) bs) (hnd:bs.Nodup) (hbs:∀ b∈bs,fr.owned b):∃ G',SimN P N fr (mkSt k v) a w G':=by
 let G0:Gh:=⟨I,fun _ _=>none,fun _=>none,fun _=>none⟩
 have hm0:MemS P fr (fun _=>True) (fun _=>none) w G0:=⟨fun k o h=>(by cases h),fun j k o o' b h=>(by cases h),haf,fun k _=>⟨rfl,rfl,rfl,fun _=>rfl⟩⟩
 obtain ⟨G',h1,h2,h3,h4⟩:=ucbg_ (n:=0) (G:=G0) hm0 h hnd (fun b hb=>⟨hbs b hb,fun j o h=>(by cases h)⟩) (fun _ _ _=>trivial)
 have hsr:∀ t,SR P w G' ((mkSt k v).slots t) (a.tmps.getD t undef):=by
  refine ubzj_ fun j s t hj ht=>?_
  rw [List.getElem?_map] at hj
  cases hm:(mkL k.sh v 0)[j]? with
  | none=>rw [hm] at hj; cases hj
  | some m =>
    rw [hm] at hj
    cases hj
    exact h4 j m _ hm (by rw [List.getElem?_map,ht]; rfl)
 refine ⟨G',fun t=>(hsr t).slotOK,hd,hN,hfx,fun t tk g s h=>?_,?_,hdr⟩
 · have:=hsr t
   rw [h] at this
   exact this.not_grd
 · have e:(mkSt k v).sto=u3_ (fun _=>none) ((mkL k.sh v 0).flatMap (·.obs)):=funext fun i=>ub1c_ _ i
   rw [e]
   refine h1.mem.shrink fun j hj=>⟨trivial,fun hh=>?_⟩
   have:(mkSt k v).n=0+cntL k.sh:=ub84_
   omega
theorem ucaf_ {N:Nat} {st:St} {a:Act} (hs:SimN P N fr st a w G) (j:Nat):SR P w G (alSV st.slots j) (alV a j):=by
 have h:∀ j,SR P w G (st.slots j) (a.tmps.getD j undef):=by
  intro j
  have h1:SlotOK P w G a (st.slots j) (a.tmps.getD j undef):=hs.slots _
  have h2:∀ tk g s,st.slots j≠.grd tk g s:=hs.nogrd _
  generalize st.slots j=s at h1 h2
  cases s <;> first | exact h1 | exact absurd rfl (h2 _ _ _)
 unfold alSV alV
 cases hb:Nat.blt j 1048576 with
 | true=>exact h j
 | false=>exact ⟨_,rfl,#[_],rfl,_,[],rfl,h _,rfl⟩
theorem ucdi_ {N:Nat} {st:St} {a a':Act} {al:List (Nat×Nat)} {wrs:List Nat} (hs:SimN P N fr st a' w G) (hal:AlEq al a) (hfr:∀ t,hasN t wrs=false→a'.tmps.getD t undef=a.tmps.getD t undef):SimN P N fr (alSt al wrs st) a' w G:=by
 unfold alSt
 split
 · exact hs
 · have key:∀ t,alPut al wrs st.slots t=st.slots t∨∃ c,alPut al wrs st.slots t=alSV st.slots c∧a'.tmps.getD t undef=alV a' c:=by
    intro t
    unfold alPut
    split
    · rename_i c hc
      cases hb:(hasN t wrs||hasN (ucao_ c) wrs) with
      | true=>exact .inl rfl
      | false =>
        simp only [Bool.or_eq_false_iff] at hb
        refine .inr ⟨c,rfl,?_⟩
        rw [hfr t hb.1,hal t c hc]
        have h2:=hb.2
        unfold ucao_ at h2
        unfold alV
        cases hj:Nat.blt c 1048576 with
        | true=>rw [hj] at h2; exact (hfr _ h2).symm
        | false=>rw [hj] at h2; simp only [cond_false] at h2 ⊢; rw [hfr _ h2]
    · exact .inl rfl
   refine ⟨fun t=>?_,hs.defs,hs.size,hs.fix,fun t tk g s=>?_,hs.mem,hs.drawn⟩
   · show SlotOK P w G a' (alPut al wrs st.slots t) _
     rcases key t with e | ⟨c,e,e2⟩
     · rw [e]; exact hs.slots t
     · rw [e,e2]; exact (ucaf_ hs c).slotOK
   · show alPut al wrs st.slots t≠_
     rcases key t with e | ⟨c,e,e2⟩
     · rw [e]; exact hs.nogrd t tk g s
     · rw [e]
       intro h
       have:=ucaf_ hs c
       rw [h] at this
       exact this.not_grd
theorem ub1d_ {N:Nat} {al:List (Nat×Nat)} {k:Kp} {v:TupR k.sh} {a:Act} (hs:SimN P N fr (mkSt k v) a w G) (hal:AlEq al a):SimN P N fr (mkStA al k v) a w G:=by
 refine ⟨fun t=>?_,hs.defs,hs.size,hs.fix,fun t tk g s=>?_,hs.mem,hs.drawn⟩
 · show SlotOK P w G a (addAl al (mkSt k v).slots t) _
   unfold addAl
   split
   · rename_i j hj
     rw [hal t j hj]
     unfold alSV alV
     cases hb:Nat.blt j 1048576 with
     | true=>exact hs.slots j
     | false =>
       have h1:SlotOK P w G a ((mkSt k v).slots (j % 1048576)) (a.tmps.getD (j % 1048576) undef):=hs.slots _
       have h2:∀ tk g s,(mkSt k v).slots (j % 1048576)≠.grd tk g s:=hs.nogrd _
       have h3:SR P w G ((mkSt k v).slots (j % 1048576)) (a.tmps.getD (j % 1048576) undef):=by
        generalize (mkSt k v).slots (j % 1048576)=s at h1 h2
        cases s <;> first | exact h1 | exact absurd rfl (h2 _ _ _)
       exact ⟨_,rfl,#[_],rfl,_,[],rfl,h3,rfl⟩
   · exact hs.slots t
 · show addAl al (mkSt k v).slots t≠_
   unfold addAl
   split
   · rename_i j hj
     unfold alSV
     cases hb:Nat.blt j 1048576 with
     | true=>exact hs.nogrd _ tk g s
     | false=>intro h; cases h
   · exact hs.nogrd _ tk g s
theorem ucag_ {N:Nat} {st:St} {a:Act} (hs:SimN P N fr st a w G):∀ {al:List (Nat×Nat)},alOK al st.slots=true→AlEq al a:=by
 have hsr:∀ t k g,st.slots t=.obj k g→G.val k g=some (a.tmps.getD t undef):=by
  intro t k g h
  have:=hs.slots t
  rw [h] at this
  exact ubkt_ this
 intro al
 induction al with
 | nil=>intro _ t j h; cases h
 | cons p r ih =>
   intro h t j hj
   simp only [alOK,Bool.and_eq_true] at h
   obtain ⟨x,y⟩:=p
   simp only [lookN] at hj
   cases hb:Nat.beq t x with
   | false=>rw [hb] at hj; exact ih h.2 t j hj
   | true =>
     rw [hb] at hj
     have e1:=Nat.eq_of_beq_eq_true hb
     have e2:y=j:=Option.some.inj hj
     subst e1 e2
     have hh:=h.1
     unfold alOne at hh
     unfold alV
     cases hb:Nat.blt y 1048576 with
     | true =>
     rw [hb] at hh
     simp only [cond_true] at hh ⊢
     unfold sameH at hh
     split at hh
     · rename_i k g k' g' h1 h2
       simp only [Bool.and_eq_true] at hh
       have q1:=Nat.eq_of_beq_eq_true hh.1
       have q2:=Nat.eq_of_beq_eq_true hh.2
       subst q1 q2
       have v1:=hsr _ _ _ h1
       have v2:=hsr _ _ _ h2
       rw [v1] at v2
       exact Option.some.inj v2
     · cases hh
     | false =>
     rw [hb] at hh
     simp only [cond_false] at hh ⊢
     split at hh
     · rename_i f s hs1
       simp only [Bool.and_eq_true] at hh
       have q1:=Nat.eq_of_beq_eq_true hh.1
       have hs2:=hs.slots t
       rw [hs1] at hs2
       obtain ⟨c,hc,vs,e1,v,r,e2,hv,e3⟩:=(show SR P w G (.fn f (.scons s .snil)) _ from hs2)
       have e3:r=[]:=e3
       subst e3
       have e4:a.tmps.getD t undef=.func (.func f) #[] vs:=List.singleton_inj.1 ((show c=[_] from hc).symm.trans e1)
       have e5:vs = #[v]:=by apply Array.ext'; exact e2
       rw [e4,e5,q1]
       have hp:=hh.2
       unfold sameP at hp
       split at hp
       · rename_i k u k' u' h1
         have q2:=Nat.eq_of_beq_eq_true hp
         subst q2
         have hs3:=hs.slots (y % 1048576)
         rw [h1] at hs3
         obtain ⟨b,t1,o,b1,b2,b3,b4⟩:=ubaa_ (show SR P w G (.ptr k [] u') _ from hs3)
         obtain ⟨b',t2,o',c1,c2,c3,c4⟩:=ubaa_ (show SR P w G (.ptr k [] u) v from hv)
         rw [b1] at c1
         cases c1
         rw [b2] at c2
         cases c2
         rw [b4,c4]
       · cases hp
     · cases hh
theorem SimN.frz {N:Nat} {st:St} {a:Act} (hs:SimN P N fr st a w G) (k:Kp):∃ G',GLe w G w G'∧SimN P N fr (frzSt k st) a w G':=by
 obtain ⟨G',h1,h2⟩:=ub2t_ hs.mem k.sh (k.tm.map st.slots)
 exact ⟨G',h1,fun t=>(hs.slots t).mono h1 fun _ _ _ _=>Iff.rfl,hs.defs,hs.size,hs.fix,hs.nogrd,h2,hs.drawn⟩
theorem ucbu_ {N:Nat} {fs:Nat→Option FSpec} (hE:∀ f sp,fs f=some sp→ugs_ P f∧FunOK P f sp) {k:Kp} {st:St} {v:TupR k.sh} {a:Act} (hs:SimN P N fr st a w G) (h:ubnr_ fs k (frzSt k st)=some v) :
 ∃ G',SimN P N fr (mkSt k v) a w G':=by
 obtain ⟨G0,_,hs⟩:=hs.frz k
 have hsr:∀ t,SR P w G0 (st.slots t) (a.tmps.getD t undef):=by
  intro t
  have h1:SlotOK P w G0 a (st.slots t) (a.tmps.getD t undef):=hs.slots t
  have h2:∀ tk g s,st.slots t≠.grd tk g s:=hs.nogrd t
  generalize st.slots t=s at h1 h2
  cases s <;> first | exact h1 | exact absurd rfl (h2 _ _ _)
 obtain ⟨bs,h1,h2,h3⟩:=ubrt_ hs.mem hE (vs:=k.tm.map fun t=>a.tmps.getD t undef) h (by simp) (fun j s v hj hv=>by
  rw [List.getElem?_map] at hj hv
  cases ht:k.tm[j]? with
  | none=>rw [ht] at hj; cases hj
  | some t =>
    rw [ht] at hj hv
    cases hj; cases hv
    exact hsr t)
 refine ub6k_ hs.defs hs.size hs.fix hs.mem.after hs.drawn h1 h2 fun b hb=>?_
 obtain ⟨k',_,o,ho,hbo⟩:=h3 b hb
 exact u8e_ (hs.mem.objs k' o ho) hbo
theorem SimN.sr {N:Nat} {st:St} {a:Act} (hs:SimN P N fr st a w G) (x:Operand):SR P w G (evalO st.slots x) (a.eval x):=by
 have:=ubze_ (x:=x) (tk:=[]) (fun t _=>hs.slots t) (ubge_ a)
 have e:(evalO st.slots x).strip []=evalO st.slots x:=by
  have hn:∀ tk g s,evalO st.slots x≠.grd tk g s:=by
   intro tk g s h
   cases x with
   | tmp t=>exact hs.nogrd t tk g s h
   | const v =>
     have:=ubzd_ (P:=P) (w:=w) (G:=G) v
     rw [show ub19_ v=_ from h] at this
     exact this.not_grd
   | func f=>cases h
   | global g=>cases h
  generalize evalO st.slots x=s at hn
  cases s <;> first | rfl | exact absurd rfl (hn _ _ _)
 rw [e] at this
 exact this
def ubn1_ (P:Program) (dr:Bool) (N:Nat) (ok:Nat→Bool) (E:Env):Code→Nat→Prop
 | .seq a b,n=>match ndOf E a with
   | some s=>s.wrs.all ok=true∧CutOK P dr N s (.seq a b)
   | none=>ubn1_ P dr N ok E a n∧ubn1_ P dr N ok E b (n+nodes a)
 | .cond c a b,n=>match E.cut n with
   | some s=>s.wrs.all ok=true∧CutOK P dr N s (.cond c a b)
   | none=>ubn1_ P dr N ok E a (n+1)∧ubn1_ P dr N ok E b (n+1+nodes a)
 | .block _ b,n=>ubn1_ P dr N ok E b n
 | .loop b,n=>match E.cut n with
   | some s=>s.wrs.all ok=true∧CutOK P dr N s (.loop b)
   | none=>True
 | _,_=>True
def u03_ (E:Env):Code→Nat→List (CSpec×Code)
 | .seq a b,n=>match ndOf E a with
   | some s=>[(s,.seq a b)]
   | none=>u03_ E a n++u03_ E b (n+nodes a)
 | .cond c a b,n=>match E.cut n with
   | some s=>[(s,.cond c a b)]
   | none=>u03_ E a (n+1)++u03_ E b (n+1+nodes a)
 | .block _ b,n=>u03_ E b n
 | .loop b,n=>match E.cut n with
   | some s=>[(s,.loop b)]
   | none=>[]
 | _,_=>[]
def AllCuts (P:Program) (dr:Bool) (N:Nat) (ok:Nat→Bool):List (CSpec×Code)→Prop
 | []=>True
 | p::r=>(p.1.wrs.all ok=true∧CutOK P dr N p.1 p.2)∧AllCuts P dr N ok r
theorem AllCuts.append {N:Nat} {ok:Nat→Bool}:∀ {l l':List (CSpec×Code)},AllCuts P dr N ok (l++l')→AllCuts P dr N ok l∧AllCuts P dr N ok l':=by
 intro l
 induction l with
 | nil=>intro l' h; exact ⟨trivial,h⟩
 | cons p r ih=>intro l' h; exact ⟨⟨h.1,(ih h.2).1⟩,(ih h.2).2⟩
theorem ubzk_ {N:Nat} {ok:Nat→Bool} {E:Env}:∀ {c:Code} {n:Nat},AllCuts P dr N ok (u03_ E c n)→ubn1_ P dr N ok E c n:=by
 intro c
 induction c with
 | seq a b iha ihb =>
   intro n h
   simp only [ubn1_]
   simp only [u03_] at h
   split
   · rename_i s hs
     rw [hs] at h
     exact h.1
   · rename_i hs
     rw [hs] at h
     exact ⟨iha h.append.1,ihb h.append.2⟩
 | cond c a b iha ihb =>
   intro n h
   simp only [ubn1_]
   simp only [u03_] at h
   split at h
   · rename_i s hs
     exact h.1
   · rename_i hs
     exact ⟨iha h.append.1,ihb h.append.2⟩
 | block i b ih=>intro n h; exact ih (n:=n) h
 | loop b ih =>
   intro n h
   simp only [ubn1_]
   simp only [u03_] at h
   split at h
   · rename_i s hs
     exact h.1
   · rename_i hs
     trivial
 | _=>intro n h; trivial
def dstOK (ok:Nat→Bool):Code→Bool
 | .seq a b=>dstOK ok a&&dstOK ok b
 | .cond _ a b=>dstOK ok a&&dstOK ok b
 | .block _ b=>dstOK ok b
 | .loop b=>dstOK ok b
 | .region _ ops _=>ops.toList.all fun o=>match o.dst with
   | some d=>ok d
   | none=>true
 | _=>true
theorem ucah_ {N:Nat} {st:St} {a a':Act} {wrs ks bs bs':List Nat} {I':Im} {k:Kp} {y:TupR k.sh} (hs:SimN P N fr st a w G) (hblk:BlksOf st.sto G ks bs)
 (hwr:∀ d,hasN d wrs=true→fr.fx d=none) (hd:a'.defers=[]) (hN:a'.tmps.size=N) (hfr:∀ t,hasN t wrs=false→a'.tmps.getD t undef=a.tmps.getD t undef)
 (haft:After (·∈bs) w G.im w' I') (hdr:fr.dr=true→w.drawn≤w'.drawn) (hsh:ShL P w' I' k.sh y (k.tm.map fun t=>a'.tmps.getD t undef) bs') (hnd:bs'.Nodup) (hown:∀ b∈bs',b∈bs∨w.heap.size≤b) :
 ∃ G',SimN P N fr (outSt st wrs ks k y) a' w' G':=by
 obtain ⟨g1,g2⟩:=hs.mem.called hblk haft
 obtain ⟨G',h1,h2,h3,h4⟩:=ucbg_ (n:=st.n) g2 hsh hnd (fun b hb=>by
  refine ⟨?_,fun j o ho hbj=>?_⟩
  · rcases hown b hb with h | h
    · obtain ⟨k',_,o,ho,hbo⟩:=hblk b h
      exact u8e_ (hs.mem.objs k' o ho) hbo
    · exact .inl (Nat.le_trans hs.mem.after.size h)
  · have ho':j ∉ ks∧st.sto j=some o:=by
     rw [urt_] at ho
     by_cases hj:j∈ks
     · rw [if_pos hj] at ho; cases ho
     · rw [if_neg hj] at ho; exact ⟨hj,ho⟩
    have hbj0:Bk G j o b:=by rw [← ufb_ (hs.mem.objs j o ho'.2) g1]; exact hbj
    rcases hown b hb with h | h
    · obtain ⟨k',hk,o2,ho2,hbo⟩:=hblk b h
      have:=hs.mem.sep j k' o o2 b ho'.2 ho2 hbj0 hbo
      subst this
      exact ho'.1 hk
    · have:=ubkw_ (hs.mem.objs j o ho'.2) hbj0
      omega) (fun k' h1 _=>h1)
 have hsr:∀ t,SR P w' G' ((outSt st wrs ks k y).slots t) (a'.tmps.getD t undef):=by
  intro t
  simp only [outSt]
  cases ht:hasN t k.tm with
  | true =>
    refine ubzj_ (fun j s t' hj ht'=>?_) t
    rw [List.getElem?_map] at hj
    cases hm:(mkL k.sh y st.n)[j]? with
    | none=>rw [hm] at hj; cases hj
    | some m =>
      rw [hm] at hj
      cases hj
      exact h4 j m _ hm (by rw [List.getElem?_map,ht']; rfl)
  | false =>
    simp only [cond_false]
    cases hw:hasN t wrs with
    | true=>exact SR.undef _
    | false =>
      simp only [cond_false]
      rw [hfr t hw]
      exact ((hs.sr (.tmp t)).mono g1).mono h1.le
 refine ⟨G',fun t=>(hsr t).slotOK,hd,hN,fun t v hv=>?_,fun t tk g s h=>?_,?_,fun h=>Nat.le_trans (hs.drawn h) (hdr h)⟩
 · cases hw:hasN t wrs with
   | true=>rw [hwr t hw] at hv; cases hv
   | false=>rw [hfr t hw]; exact hs.fix t v hv
 · have:=hsr t
   rw [h] at this
   exact this.not_grd
 · simp only [outSt]
   rw [uu_]
   refine h1.mem.shrink fun j hj=>⟨?_,fun hh=>?_⟩
   · show st.n≤j
     have:st.n+cntL k.sh≤j:=hj
     omega
   · have:st.n+cntL k.sh≤j:=hj
     omega
theorem ub6l_ {Ω:Type} {N:Nat} {K:Ex→St→Option Ω} {ω:Ω} {st:St} {a a':Act} {e:Exit} {wrs ks bs:List Nat} {I':Im} (hs:SimN P N fr st a w G) (hblk:BlksOf st.sto G ks bs)
 (hwr:∀ d,hasN d wrs=true→fr.fx d=none) (hd:a'.defers=[]) (hN:a'.tmps.size=N) (hfr:∀ t,hasN t wrs=false→a'.tmps.getD t undef=a.tmps.getD t undef) (haft:After (·∈bs) w G.im w' I') (hdr:fr.dr=true→w.drawn≤w'.drawn) :
 ∀ {l:List (Ex×Kp)} {x:OutT l},ubyd_ st wrs ks l x K=some ω→OutS P w' I' a' e w.heap.size bs l x →
 ∃ e' st' G',e=exOf e'∧SimN P N fr st' a' w' G'∧K e' st'=some ω:=by
 intro l
 induction l with
 | nil=>intro x; exact Empty.elim x
 | cons o r ih =>
   intro x h hq
   cases r with
   | nil =>
     obtain ⟨h1,bs',h2,h3,h4⟩:=hq
     obtain ⟨G',h5⟩:=ucah_ hs hblk hwr hd hN hfr haft hdr h2 h3 h4
     exact ⟨o.1,_,G',h1,h5,h⟩
   | cons p r =>
     cases x with
     | inl y =>
       obtain ⟨h1,bs',h2,h3,h4⟩:=hq
       obtain ⟨G',h5⟩:=ucah_ hs hblk hwr hd hN hfr haft hdr h2 h3 h4
       exact ⟨o.1,_,G',h1,h5,h⟩
     | inr y=>exact ih (x:=y) h hq
theorem ub2z_ {N:Nat} {fs:Nat→Option FSpec} (hE:∀ f sp,fs f=some sp→ugs_ P f∧FunOK P f sp) {k:Kp} {st:St} {v:TupR k.sh} {a:Act} (hs:SimN P N fr st a w G) (h:ubnr_ fs k st=some v) :
 ∃ bs,ShL P w G.im k.sh v (k.tm.map fun t=>a.tmps.getD t undef) bs∧bs.Nodup∧BlksOf st.sto G (keysL st.sto k.sh (k.tm.map st.slots)) bs :=
 ubrt_ hs.mem hE (vs:=k.tm.map fun t=>a.tmps.getD t undef) h (by simp) (fun j s v hj hv=>by
  rw [List.getElem?_map] at hj hv
  cases ht:k.tm[j]? with
  | none=>rw [ht] at hj; cases hj
  | some t =>
    rw [ht] at hj hv
    cases hj; cases hv
    exact hs.sr (.tmp t))
theorem ub1e_ {Ω:Type} {E:Env} (hE:EnvOK P fr.dr E) {N:Nat} {s:CSpec} {c:Code} (hwr:∀ d,hasN d s.wrs=true→fr.fx d=none) (hc:CutOK P fr.dr N s c) {st:St} {K:Ex→St→Option Ω} {ω:Ω} {a:Act} {Q:Exit→Act→World→Prop}
 (h:evCut E s st K=some ω) (hs:SimN P N fr st a w G) (hQ:∀ e st' a' w' G',SimN P N fr st' a' w' G'→K e st'=some ω→Q (exOf e) a' w'):c.wp P Q a w:=by
 unfold evCut at h
 split at h
 · rename_i v hv0
   obtain ⟨hal,hv⟩:alOK s.al st.slots=true∧ubnr_ E.fs s.inn (frzSt s.inn st)=some v:=by
    cases hb:alOK s.al st.slots with
    | false=>rw [hb] at hv0; cases hv0
    | true=>rw [hb] at hv0; exact ⟨rfl,hv0⟩
   have hal:=ucag_ hs hal
   obtain ⟨G,_,hs⟩:=hs.frz s.inn
   obtain ⟨bs,p1,p2,p3⟩:=ub2z_ hE.fs hs hv
   have hc:=hc w G.im a v bs hs.mem.after.mem hs.defs hs.size hal p1 p2
   have fin:∀ x,(ubyd_ (frzSt s.inn st) s.wrs (keysL (frzSt s.inn st).sto s.inn.sh (s.inn.tm.map st.slots)) s.outs x fun e st'=>K e (alSt s.al s.wrs st'))=some ω→∀ e a' w',ubad_ P fr.dr N s x a w G.im bs e a' w'→Q e a' w':=by
    intro x h2 e a' w' hq
    obtain ⟨q1,q2,q3,qd,I',q4,q5⟩:=hq
    obtain ⟨e',st',G',rfl,h3,h4⟩:=ub6l_ hs p3 hwr q1 q2 q3 q4 qd h2 q5
    exact hQ e' _ a' w' G' (ucdi_ h3 hal q3) h4
   cases hnd:s.nd with
   | none =>
     rw [hnd] at h hc
     obtain ⟨x,h1,h2⟩:=Option.bind_eq_some_iff.1 h
     exact wp_mono (hc x h1) fun e a' w' hq=>fin x h2 e a' w' hq
   | some d =>
     rw [hnd] at h hc
     have hall:=ub4n_ h
     refine wp_mono (hc fun o ho=>?_) fun e a' w' ⟨o,x,hS,hx,hq⟩=>?_
     · obtain ⟨x,hx,_⟩:=Option.bind_eq_some_iff.1 (hall o ho)
       exact ⟨x,hx⟩
     · obtain ⟨x',hx',h2⟩:=Option.bind_eq_some_iff.1 (hall o hS)
       rw [hx] at hx'
       cases hx'
       exact fin x h2 e a' w' hq
 · cases h
theorem ub6m_ {Ω:Type} {E:Env} (hE:EnvOK P fr.dr E) (hmix:P.follows .mixedOrders=true) {N:Nat} {ok:Nat→Bool} (hok:∀ d,ok d=true→d<N∧fr.fx d=none) :
 ∀ (c:Code) (n:Nat) (st:St) (a:Act) (w:World) (G:Gh) (K:Ex→St→Option Ω) (ω:Ω) (Q:Exit→Act→World→Prop),
 dstOK ok c=true→ubn1_ P fr.dr N ok E c n→evC E c n st K=some ω→SimN P N fr st a w G→(∀ e st' a' w' G',SimN P N fr st' a' w' G'→K e st'=some ω→Q (exOf e) a' w')→c.wp P Q a w:=by
 have hall:∀ {l:List Nat},l.all ok=true→∀ d,hasN d l=true→fr.fx d=none:=by
  intro l h d hd
  rw [List.all_eq_true] at h
  exact (hok d (h d (u5k_.1 hd))).2
 intro c
 induction c with
 | skip=>intro n st a w G K ω Q _ _ h hs hQ; exact wp_skip (hQ .normal st a w G hs h)
 | region id ops draw =>
   intro n st a w G K ω Q hd _ h hs hQ
   refine ub83_ hE hmix (fun j o d hj ho=>?_) h hs fun st' a' w' G' hs' hK=>hQ .normal st' a' w' G' hs' hK
   simp only [dstOK,List.all_eq_true] at hd
   have:=hd o (List.mem_of_getElem? (by simpa using hj))
   rw [ho] at this
   exact hok d this
 | seq x y ihx ihy =>
   intro n st a w G K ω Q hd hc h hs hQ
   simp only [dstOK,Bool.and_eq_true] at hd
   simp only [evC] at h
   simp only [ubn1_] at hc
   split at h
   · rename_i s hcut
     rw [hcut] at hc
     exact ub1e_ hE (hall hc.1) hc.2 h hs hQ
   · rename_i hcut
     rw [hcut] at hc
     refine wp_seq (ihx n st a w G _ ω _ hd.1 hc.1 h hs fun e st' a' w' G' hs' hK=>ub2y_ ?_)
     cases e with
     | normal=>exact ihy _ st' a' w' G' K ω Q hd.2 hc.2 hK hs' hQ
     | exit i=>exact hQ (.exit i) st' a' w' G' hs' hK
     | ret=>exact hQ .ret st' a' w' G' hs' hK
 | cond c x y ihx ihy =>
   intro n st a w G K ω Q hd hc h hs hQ
   simp only [dstOK,Bool.and_eq_true] at hd
   simp only [evC] at h
   simp only [ubn1_] at hc
   split at h
   · rename_i s hcut
     rw [hcut] at hc
     exact ub1e_ hE (hall hc.1) hc.2 h hs hQ
   · rename_i hcut
     rw [hcut] at hc
     split at h
     · rename_i t ht
       have hv:=hs.sr c
       rw [ht] at hv
       have hv:=hv.bool
       cases t with
       | true=>exact wp_cond_true hv (ihx _ st a w G K ω Q hd.1 hc.1 h hs hQ)
       | false=>exact wp_cond_false hv (ihy _ st a w G K ω Q hd.2 hc.2 h hs hQ)
     · cases h
 | block id b ih =>
   intro n st a w G K ω Q hd hc h hs hQ
   refine wp_block (ih n st a w G _ ω _ hd hc h hs fun e st' a' w' G' hs' hK=>?_)
   cases e with
   | normal=>exact hQ .normal st' a' w' G' hs' hK
   | ret=>exact hQ .ret st' a' w' G' hs' hK
   | exit i =>
     simp only [exOf,Exit.inBlock]
     simp only at hK
     by_cases e:i=id
     · subst e
       rw [if_pos rfl]
       rw [Nat.beq_refl] at hK
       exact hQ .normal st' a' w' G' hs' hK
     · rw [if_neg e]
       rw [show Nat.beq i id=false by rw [← Bool.not_eq_true]; exact fun hh=>e (Nat.eq_of_beq_eq_true hh)] at hK
       exact hQ (.exit i) st' a' w' G' hs' hK
 | loop b ih =>
   intro n st a w G K ω Q hd hc h hs hQ
   simp only [evC] at h
   simp only [ubn1_] at hc
   split at h
   · rename_i s hcut
     rw [hcut] at hc
     exact ub1e_ hE (hall hc.1) hc.2 h hs hQ
   · cases h
 | exit i=>intro n st a w G K ω Q _ _ h hs hQ; exact wp_exit (hQ (.exit i) st a w G hs h)
 | ret=>intro n st a w G K ω Q _ _ h hs hQ; exact wp_ret (hQ .ret st a w G hs h)
 | _=>intro n st a w G K ω Q _ _ h; cases h
theorem ub85_ {E:Env} (hE:EnvOK P fr.dr E) {N:Nat} {e:Ex} {st:St} {a:Act} (hs:SimN P N fr st a w G) {bs:List Nat} (hgv:∀ b,fr.gv b→b∈bs):∀ {l:List (Ex×Kp)} {x:OutT l},outPut E.fs l e st=some x →
 ∃ I,After fr.gv fr.w0 fr.i0 w I∧OutS P w I a (exOf e) fr.w0.heap.size bs l x:=by
 have hsame:∀ {e e':Ex},outPut.sameEx e e'=true→e'=e:=by
  intro e e' h
  cases e <;> cases e' <;> first | rfl | cases h | skip
  have h:Nat.beq _ _=true:=h
  rw [Nat.eq_of_beq_eq_true h]
 have one:∀ {o:Ex×Kp} {y:TupR o.2.sh},outPut.sameEx o.1 e=true→ubnr_ E.fs o.2 (frzSt o.2 st)=some y →
  ∃ I,After fr.gv fr.w0 fr.i0 w I∧exOf e=exOf o.1∧∃ bs',ShL P w I o.2.sh y (o.2.tm.map fun t=>a.tmps.getD t undef) bs'∧bs'.Nodup∧∀ b∈bs',b∈bs∨fr.w0.heap.size≤b:=by
  intro o y h1 h2
  obtain ⟨G0,_,hs⟩:=hs.frz o.2
  obtain ⟨bs',k1,k2,k3⟩:=ub2z_ hE.fs hs h2
  refine ⟨G0.im,hs.mem.after,by rw [hsame h1],bs',k1,k2,fun b hb=>?_⟩
  obtain ⟨k,_,ob,ho,hbo⟩:=k3 b hb
  rcases u8e_ (hs.mem.objs k ob ho) hbo with h | h
  · exact .inr h
  · exact .inl (hgv b h)
 intro l
 induction l with
 | nil=>intro x h; cases h
 | cons o r ih =>
   intro x h
   cases r with
   | nil =>
     simp only [outPut] at h
     cases hb:outPut.sameEx o.1 e with
     | false=>rw [hb] at h; cases h
     | true=>rw [hb] at h; exact one hb h
   | cons p r =>
     simp only [outPut] at h
     cases hb:outPut.sameEx o.1 e with
     | false =>
       rw [hb] at h
       simp only [cond_false] at h
       cases hr:outPut E.fs (p::r) e st with
       | none=>rw [hr] at h; cases h
       | some y =>
         rw [hr] at h
         cases h
         exact ih hr
     | true =>
       rw [hb] at h
       simp only [cond_true] at h
       cases hr:ubnr_ E.fs o.2 (frzSt o.2 st) with
       | none=>rw [hr] at h; cases h
       | some y =>
         rw [hr] at h
         cases h
         exact one hb hr
def okCut (N:Nat) (wrs:List Nat) (d:Nat):Bool:=Nat.blt d N&&hasN d wrs
def cutFr (dr:Bool) (wrs bs:List Nat) (a:Act) (w:World) (I:Im):Fr:=⟨(·∈bs),w,I,fun t=>if hasN t wrs then none else some (a.tmps.getD t undef),dr⟩
theorem ubsm_ {N:Nat} {wrs bs:List Nat} {a:Act}:∀ d,okCut N wrs d=true→d<N∧(cutFr dr wrs bs a w I).fx d=none:=by
 intro d h
 simp only [okCut,Bool.and_eq_true,Nat.blt_eq] at h
 exact ⟨h.1,by simp [cutFr,h.2]⟩
theorem ubxc_ {N:Nat} {inn:Kp} {v:TupR inn.sh} {wrs bs:List Nat} {a:Act} (hm:Mem w I) (hd:a.defers=[]) (hN:a.tmps.size=N) (hsh:ShL P w I inn.sh v (inn.tm.map fun t=>a.tmps.getD t undef) bs) (hnd:bs.Nodup) :
 ∃ G,SimN P N (cutFr dr wrs bs a w I) (mkSt inn v) a w G :=
 ub6k_ hd hN (fun t v h=>by
  have h:(if hasN t wrs=true then none else some (a.tmps.getD t undef))=some v:=h
  split at h
  · cases h
  · exact Option.some.inj h) (After.refl hm) (fun _=>Nat.le_refl _) hsh hnd fun b hb=>.inr hb
theorem ubzl_ {E:Env} (hE:EnvOK P dr E) {N:Nat} {s:CSpec} {x:OutT s.outs} {bs:List Nat} {a0 a:Act} {w0:World} {e:Ex} {st:St} (hs:SimN P N (cutFr dr s.wrs bs a0 w0 I) st a w G) (h:outPut E.fs s.outs e st=some x) :
 ubad_ P dr N s x a0 w0 I bs (exOf e) a w :=
 ⟨hs.defs,hs.size,fun t ht=>hs.fix t _ (by simp [cutFr,ht]),hs.drawn,ub85_ hE hs (fun _ h=>h) h⟩
theorem ucbv_ {E:Env} (hE:EnvOK P dr E) (hmix:P.follows .mixedOrders=true) {N n:Nat} {c:Operand} {x y:Code} {s:CSpec}
 (hd:dstOK (okCut N s.wrs) (.cond c x y)=true) (hx:AllCuts P dr N (okCut N s.wrs) (u03_ E x (n+1))) (hy:AllCuts P dr N (okCut N s.wrs) (u03_ E y (n+1+nodes x)))
 (hn:s.nd=none) (hF:∀ v r,s.F v=some r→ub75_ E c x y n s.al s.inn s.outs v=some r):CutOK P dr N s (.cond c x y):=by
 intro w I a v bs hm hda hN hal hsh hnd
 rw [hn]
 intro r h
 have h:=hF v r h
 obtain ⟨G,hs⟩:=ubxc_ (wrs:=s.wrs) hm hda hN hsh hnd
 have hs:=ub1d_ hs hal
 simp only [dstOK,Bool.and_eq_true] at hd
 unfold ub75_ at h
 split at h
 · rename_i t ht
   have hv:=hs.sr c
   rw [ht] at hv
   have hv:=hv.bool
   cases t with
   | true=>exact wp_cond_true hv (ub6m_ hE hmix ubsm_ _ _ _ a w G _ r _ hd.1 (ubzk_ hx) h hs fun e st' a' w' G' hs' hK=>ubzl_ hE hs' hK)
   | false=>exact wp_cond_false hv (ub6m_ hE hmix ubsm_ _ _ _ a w G _ r _ hd.2 (ubzk_ hy) h hs fun e st' a' w' G' hs' hK=>ubzl_ hE hs' hK)
 · cases h
theorem ucbw_ {E:Env} (hE:EnvOK P dr E) (hmix:P.follows .mixedOrders=true) {N n:Nat} {body:Code} {al:List (Nat×Nat)} {inn:Kp} {outs:List (Ex×Kp)} {wrs:List Nat} {F:Nat→TupR inn.sh→Option (OutT outs)}
 (hd:dstOK (okCut N wrs) body=true) (hc:AllCuts P dr N (okCut N wrs) (u03_ E body n)) (h0:∀ v,F 0 v=none) (hF:∀ k v r,F (k+1) v=some r→ub40_ E body n al inn outs (F k) v=some r) (m:Nat) :
 CutOK P dr N ⟨inn,outs,wrs,F m,al,none⟩ (.loop body):=by
 intro w0 I a0 v0 bs hm hda hN hal hsh hnd r h
 obtain ⟨G0,hs0⟩:=ubxc_ (wrs:=wrs) hm hda hN hsh hnd
 have hs0:=ub1d_ hs0 hal
 refine wp_loop_rounds m ?_
 have key:∀ k v a w G,F k v=some r→SimN P N (cutFr dr wrs bs a0 w0 I) (mkStA al inn v) a w G→Code.rounds P body (ubad_ P dr N ⟨inn,outs,wrs,F m,al,none⟩ r a0 w0 I bs) k a w:=by
  intro k
  induction k with
  | zero=>intro v a w G h; rw [h0] at h; cases h
  | succ k ih =>
    intro v a w G h hs
    rw [rounds_succ]
    refine ub6m_ hE hmix ubsm_ _ _ _ a w G _ r _ hd (ubzk_ hc) (hF k v r h) hs fun e st' a' w' G' hs' hK=>ub2y_ ?_
    cases e with
    | normal =>
      simp only at hK
      split at hK
      · rename_i v' hv0
        obtain ⟨hal',hv'⟩:alOK al st'.slots=true∧ubnr_ E.fs inn (frzSt inn st')=some v':=by
         cases hb:alOK al st'.slots with
         | false=>rw [hb] at hv0; cases hv0
         | true=>rw [hb] at hv0; exact ⟨rfl,hv0⟩
        obtain ⟨G'',hs''⟩:=ucbu_ hE.fs hs' hv'
        exact ih v' a' w' G'' hK (ub1d_ hs'' (ucag_ hs' hal'))
      · cases hK
    | exit i=>exact ubzl_ (s:=⟨inn,outs,wrs,F m,al,none⟩) hE hs' hK
    | ret=>exact ubzl_ (s:=⟨inn,outs,wrs,F m,al,none⟩) hE hs' hK
 exact key m v0 a0 w0 G0 h hs0
end
end Go.Ev
namespace Go.Ev
variable [Pins]
section
variable {P:Program} {fr:Fr} {free free':Nat→Prop} {self:Nat} {σ σ':Nat→Option Obj} {w w':World} {G G':Gh} {I:Im}
def boxIx:List Sh→Nat→List Nat
 | [],_=>[]
 | .box _::ps,i=>i::boxIx ps (i+1)
 | .io _ _::ps,i=>i::boxIx ps (i+1)
 | .bld _ false::ps,i=>i::boxIx ps (i+1)
 | _::ps,i=>boxIx ps (i+1)
theorem ShL.length:∀ {l:List Sh} {x:TupR l} {vs:List Value} {bs:List Nat},ShL P w I l x vs bs→vs.length=l.length:=by
 intro l
 induction l with
 | nil=>intro x vs bs h; rw [h.1]; rfl
 | cons a l ih =>
   intro x vs bs h
   cases l with
   | nil=>obtain ⟨v,rfl,_⟩:=h; rfl
   | cons b l =>
     obtain ⟨v,vs',b1,b2,rfl,_,_,h4⟩:=h
     simp [ih h4]
theorem SimN.slot {N:Nat} {st:St} {a:Act} (hs:SimN P N fr st a w G) (t:Nat):SR P w G (st.slots t) (a.tmps.getD t undef):=hs.sr (.tmp t)
theorem ub6n_ {id:Nat} {v z:Value} (h:(Instr.loadAt id v).run P w=.ok z w):(asAddr v >>= loadVar id).run P w=.ok z w:=by
 cases v with
 | pointer a =>
   cases a with
   | none=>simp [Instr.loadAt,Instr.sureAddr,stuck] at h
   | some a=>exact h
 | _=>simp [Instr.loadAt,Instr.sureAddr,stuck] at h
def ubzm_ (tmps:Array Value):ResultVar→Sem Value
 | .tmp t=>pure (tmps.getD t undef)
 | .cell a t=>do loadVar t (← asAddr (tmps.getD a undef))
theorem ucdj_ {E:Env} (hE:EnvOK P fr.dr E) {N:Nat} {st:St} {a:Act} (hs:SimN P N fr st a w G):∀ {l:List ResultVar} {ss:List SV},resL E.ty E.wr st l=some ss →
 ∃ vs:List Value,(l.mapM (ubzm_ a.tmps)).run P w=.ok vs w ∧
  vs.length=l.length∧ss.length=l.length∧∀ (j:Nat) (s:SV) (v:Value),ss[j]? = some s→vs[j]? = some v→SR P w G s v:=by
 intro l
 induction l with
 | nil =>
   intro ss h
   cases h
   exact ⟨[],rfl,rfl,rfl,fun j s v h=>by simp at h⟩
 | cons r l ih =>
   intro ss h
   cases r with
   | tmp t =>
     simp only [resL] at h
     split at h
     · rename_i ss' hss
       cases h
       obtain ⟨vs,h1,h2,h3,h4⟩:=ih hss
       refine ⟨a.tmps.getD t undef::vs,?_,by simp [h2],by simp [h3],fun j s v hj hv=>?_⟩
       · rw [List.mapM_cons]
         simp only [ubzm_,Sem.run_bind,Sem.run_pure,Result.andThen_ok,h1]
       · cases j with
         | zero=>cases hj; cases hv; exact hs.slot t
         | succ j=>exact h4 j s v (by simpa using hj) (by simpa using hv)
     · cases h
   | cell ad t =>
     simp only [resL] at h
     split at h
     · rename_i u hu
       split at h
       · rename_i s0 hl
         split at h
         · rename_i ss' hss
           cases h
           obtain ⟨vs,h1,h2,h3,h4⟩:=ih hss
           obtain ⟨z,k1,k2⟩:∃ z,(Instr.loadAt t (a.tmps.getD ad undef)).run P w=.ok z w∧SR P w G s0 z:=by
            cases hw:E.wr ad with
            | true=>rw [hw] at hl; exact ub5h_ (hE.ty _ _ hu) hs.mem.objs hl (hs.slot ad)
            | false=>rw [hw] at hl; exact ub2i_ (hE.ty _ _ hu) hs.mem.objs hl (hs.slot ad)
           have k1:=ub6n_ k1
           refine ⟨z::vs,?_,by simp [h2],by simp [h3],fun j s v hj hv=>?_⟩
           · rw [List.mapM_cons]
             have k1:(ubzm_ a.tmps (.cell ad t)).run P w=.ok z w:=k1
             simp only [Sem.run_bind,Sem.run_pure,k1,Result.andThen_ok,h1]
           · cases j with
             | zero=>cases hj; cases hv; exact k2
             | succ j=>exact h4 j s v (by simpa using hj) (by simpa using hv)
         · cases h
       · cases h
     · cases h
theorem ub6o_ {E:Env} (hE:EnvOK P fr.dr E) {N:Nat} {st:St} {a:Act} (hs:SimN P N fr st a w G) {fn:Func} {ss:List SV} (h:resL E.ty E.wr st fn.results.toList=some ss) :
 ∃ (vs:List Value) (rv:Value),(results fn a.tmps).run P w=.ok rv w∧retIs vs rv∧vs.length=fn.results.toList.length∧ss.length=fn.results.toList.length ∧
  ∀ (j:Nat) (s:SV) (v:Value),ss[j]? = some s→vs[j]? = some v→SR P w G s v:=by
 obtain ⟨vs,h1,h2,h3,h4⟩:=ucdj_ hE hs h
 have hrun:(results fn a.tmps).run P w=.ok (if h:vs.toArray.size=1 then vs.toArray[0] else .tuple vs.toArray) w:=by
  have h1':(fn.results.mapM (ubzm_ a.tmps)).run P w=.ok vs.toArray w:=by
   rw [Array.mapM_eq_mapM_toList]
   simp only [Sem.run_map,h1,Result.andThen_ok]
  unfold results
  have e:(fn.results.mapM fun | .tmp t=>(pure (a.tmps.getD t undef):Sem Value) | .cell ad t=>do loadVar t (← asAddr (a.tmps.getD ad undef)))=fn.results.mapM (ubzm_ a.tmps):=by
   congr 1
  simp only [Sem.run_bind]
  erw [e,h1']
  rfl
 refine ⟨vs,_,hrun,?_,h2,h3,h4⟩
 rcases vs with _ | ⟨v,_ | ⟨v',vs⟩⟩
 · rfl
 · rfl
 · simp [retIs]
theorem ucbx_ {slots:Nat→SV} {tmps:Array Value} (hs:∀ t,SR P w G (slots t) (tmps.getD t undef)):∀ {ps:List Sh} {i:Nat} {vals:List Value},vals.length=ps.length →
 (∀ j v,vals[j]? = some v→hasN (i+j) (boxIx ps i)=true→tmps.getD (i+j) undef=v) →
 (uzf_ ps ((List.range' i ps.length).map slots)).length=(ulq_ ps vals).length ∧
 ∀ (j:Nat) (s:SV) (v:Value),(uzf_ ps ((List.range' i ps.length).map slots))[j]? = some s→(ulq_ ps vals)[j]? = some v→SR P w G s v:=by
 intro ps
 have hlt:∀ (ps:List Sh) (i j:Nat),hasN j (boxIx ps i)=true→i≤j:=by
  intro ps
  induction ps with
  | nil=>intro i j h; cases h
  | cons p ps ih =>
    intro i j h
    have key:hasN j (boxIx ps (i+1))=true→i≤j:=fun h=>by have:=ih _ _ h; omega
    have here:hasN j (i::boxIx ps (i+1))=true→i≤j:=fun h=>by
     simp only [hasN,Bool.or_eq_true] at h
     rcases h with h | h
     · have:=Nat.eq_of_beq_eq_true h; omega
     · exact key h
    cases p with
    | box c=>exact here h
    | io el t=>exact here h
    | bld el c=>cases c with
      | true=>exact key h
      | false=>exact here h
    | _=>exact key h
 induction ps with
 | nil=>intro i vals hl h; exact ⟨rfl,fun j s v h=>by simp [uzf_] at h⟩
 | cons p ps ih =>
   intro i vals hl h
   cases vals with
   | nil=>cases hl
   | cons v0 vals =>
     have hl':vals.length=ps.length:=by simpa using hl
     simp only [List.length_cons,List.range'_succ,List.map_cons]
     cases hb:isBox p with
     | true =>
       have e1:uzf_ (p::ps) (slots i::(List.range' (i+1) ps.length).map slots)=slots i::uzf_ ps ((List.range' (i+1) ps.length).map slots):=by
        cases p <;> first | rfl | (cases hb; done) | (rename_i c0; cases c0 <;> first | rfl | (cases hb; done))
       have e2:ulq_ (p::ps) (v0::vals)=v0::ulq_ ps vals:=by
        cases p <;> first | rfl | (cases hb; done) | (rename_i c0; cases c0 <;> first | rfl | (cases hb; done))
       have e3:boxIx (p::ps) i=i::boxIx ps (i+1):=by
        cases p <;> first | rfl | (cases hb; done) | (rename_i c0; cases c0 <;> first | rfl | (cases hb; done))
       rw [e1,e2]
       rw [e3] at h
       obtain ⟨h1,h2⟩:=ih (i:=i+1) hl' (fun j v hj hh=>by
        have:=h (j+1) v (by simpa using hj) (by
         simp only [hasN,Bool.or_eq_true]
         right
         rw [show i+(j+1)=i+1+j by omega]; exact hh)
        rw [show i+1+j=i+(j+1) by omega]; exact this)
       refine ⟨by simp [h1],fun j s v hj hv=>?_⟩
       cases j with
       | zero =>
         cases hj; cases hv
         have:=h 0 v0 rfl (by simp [hasN,Nat.beq_refl])
         rw [← this]
         exact hs i
       | succ j=>exact h2 j s v (by simpa using hj) (by simpa using hv)
     | false =>
       have e1:uzf_ (p::ps) (slots i::(List.range' (i+1) ps.length).map slots)=uzf_ ps ((List.range' (i+1) ps.length).map slots):=by
        cases p <;> first | rfl | (cases hb; done) | (rename_i c0; cases c0 <;> first | rfl | (cases hb; done))
       have e2:ulq_ (p::ps) (v0::vals)=ulq_ ps vals:=by
        cases p <;> first | rfl | (cases hb; done) | (rename_i c0; cases c0 <;> first | rfl | (cases hb; done))
       have e3:boxIx (p::ps) i=boxIx ps (i+1):=by
        cases p <;> first | rfl | (cases hb; done) | (rename_i c0; cases c0 <;> first | rfl | (cases hb; done))
       rw [e1,e2]
       exact ih (i:=i+1) hl' (fun j v hj hh=>by
        have:=h (j+1) v (by simpa using hj) (by rw [e3,show i+(j+1)=i+1+j by omega]; exact hh)
        rw [show i+1+j=i+(j+1) by omega]; exact this)
theorem SimN.frzE {wr:Nat→Bool} {N:Nat} {st:St} {a:Act} (hs:SimN P N fr st a w G) (l:List ResultVar):∃ G',GLe w G w G'∧SimN P N fr (ub0s_ wr st l) a w G':=by
 obtain ⟨G',h1,h2⟩:=ucbp_ (fz:=ubr2_ st.sto (ub76_ wr st l)) hs.mem ubw9_
 exact ⟨G',h1,fun t=>(hs.slots t).mono h1 fun _ _ _ _=>Iff.rfl,hs.defs,hs.size,hs.fix,hs.nogrd,h2,hs.drawn⟩
def okFun (N:Nat) (ps:List Sh) (d:Nat):Bool:=Nat.blt d N && !(hasN d (boxIx ps 0))
theorem uces_ {dr:Bool} {E:Env} (hE:EnvOK P dr E) (hmix:P.follows .mixedOrders=true) {f:FuncId} {fn:Func} {c:Code} {ps rs:List Sh} {F:TupR ps→Option (TupR (rs++ps.filter isBox))}
 (hf:P.funcs[f]? = some fn) (hb:fn.body=some c) (hd:dstOK (okFun fn.ntmps ps) c=true) (hn:Nat.ble ps.length fn.ntmps=true) (hl:Nat.beq fn.results.toList.length rs.length=true)
 (hc:AllCuts P dr fn.ntmps (okFun fn.ntmps ps) (u03_ E c 0)) (hF:∀ v r,F v=some r→evFun E fn ps rs v=some r):FunOK P f ⟨ps,rs,F,dr⟩:=by
 intro w I v args bs hm hsh hnd r hr
 have hr:=hF v r hr
 have hn:=Nat.le_of_ble_eq_true hn
 have hl:=Nat.eq_of_beq_eq_true hl
 have hlen:args.length=ps.length:=hsh.length
 let fr:Fr:=⟨(·∈bs),w,I,fun t=>if hasN t (boxIx ps 0) then some (args.getD t undef) else none,dr⟩
 let tm:Array Value:=args.toArray++Array.replicate (fn.ntmps-args.toArray.size) undef
 let a0:Act:=⟨tm,[]⟩
 have hlow:∀ t,t<args.length→tm.getD t undef=args.getD t undef:=by
  intro t ht
  simp [tm,Array.getD_eq_getD_getElem?,Array.getElem?_append_left,ht]
 have hbx:∀ (ps:List Sh) (i j:Nat),hasN j (boxIx ps i)=true→j<i+ps.length:=by
  intro ps
  induction ps with
  | nil=>intro i j h; cases h
  | cons p ps ih =>
    intro i j h
    have key:hasN j (boxIx ps (i+1))=true→j<i+(ps.length+1):=fun h=>by have:=ih _ _ h; omega
    have here:hasN j (i::boxIx ps (i+1))=true→j<i+(ps.length+1):=fun h=>by
     simp only [hasN,Bool.or_eq_true] at h
     rcases h with h | h
     · have:=Nat.eq_of_beq_eq_true h; omega
     · exact key h
    cases p with
    | box c=>exact here h
    | io el t=>exact here h
    | bld el c=>cases c with
      | true=>exact key h
      | false=>exact here h
    | _=>exact key h
 have hargs:(List.range ps.length).map (fun t=>tm.getD t undef)=args:=by
  apply List.ext_getElem?
  intro j
  rw [List.getElem?_map]
  by_cases h:j<ps.length
  · rw [List.getElem?_range h]
    simp only [Option.map_some]
    rw [hlow j (by omega),List.getD_eq_getElem?_getD,List.getElem?_eq_getElem (by omega)]
    rfl
  · rw [List.getElem?_eq_none (by simpa using h),List.getElem?_eq_none (by omega)]; rfl
 have hfxok:∀ d,okFun fn.ntmps ps d=true→d<fn.ntmps∧fr.fx d=none:=fun d hd=>by
  simp only [okFun,Bool.and_eq_true,Nat.blt_eq,Bool.not_eq_true'] at hd
  refine ⟨hd.1,?_⟩
  show (if hasN d (boxIx ps 0)=true then some (args.getD d undef) else none)=none
  rw [hd.2]; rfl
 obtain ⟨G0,hs0⟩:=ub6k_ (P:=P) (fr:=fr) (N:=fn.ntmps) (k:=⟨List.range ps.length,ps⟩) (v:=v) (a:=a0) (I:=I) rfl (by simp [a0,tm]; omega) (fun t v' h=>by
  have h:(if hasN t (boxIx ps 0)=true then some (args.getD t undef) else none)=some v':=h
  split at h
  · rename_i hh
    cases h
    exact hlow t (by have:=hbx _ _ _ hh; omega)
  · cases h) (After.refl hm) (fun _=>Nat.le_refl _) (by rw [hargs]; exact hsh) hnd (fun b hb=>.inr hb)
 refine calls_of_wp hf hb ?_
 unfold evFun at hr
 rw [hb] at hr
 have fin:∀ (st':St) (a':Act) (w':World) (G':Gh),SimN P fn.ntmps fr st' a' w' G' →
  (match resL E.ty E.wr (ub0s_ E.wr st' fn.results.toList) fn.results.toList with
   | some l=>ubyc_ E.fs (ub71_ (ub0s_ E.wr st' fn.results.toList).sto (rs++ps.filter isBox) (l++uzf_ ps ((List.range ps.length).map (ub0s_ E.wr st' fn.results.toList).slots))) (rs++ps.filter isBox) (l++uzf_ ps ((List.range ps.length).map (ub0s_ E.wr st' fn.results.toList).slots))
   | none=>none)=some r →
  a'.defers=[]∧∃ v,(results fn a'.tmps).run P w'=.ok v w'∧∃ rv vs I' bs',Ending.returned v=.returned rv∧vs.length=rs.length∧retIs vs rv∧After (·∈bs) w I w' I' ∧
   ShL P w' I' (rs++ps.filter isBox) r (vs++ulq_ ps args) bs'∧bs'.Nodup∧(∀ b∈bs',b∈bs∨w.heap.size≤b)∧(fr.dr=true→w.drawn≤w'.drawn):=by
  intro st' a' w' G' hs' h
  refine ⟨hs'.defs,?_⟩
  obtain ⟨G1,_,hs'⟩:=hs'.frzE fn.results.toList
  generalize ub0s_ E.wr st' fn.results.toList=st' at h hs'
  split at h
  · rename_i ss hss
    obtain ⟨vs,rv,h1,h2,h3,h4,h5⟩:=ub6o_ hE hs' hss
    obtain ⟨b1,b2⟩:=ucbx_ (slots:=st'.slots) (tmps:=a'.tmps) hs'.slot (ps:=ps) (i:=0) (vals:=args) hlen (fun j v hj hh=>by
     rw [Nat.zero_add] at hh ⊢
     exact hs'.fix j v (by
      show (if hasN j (boxIx ps 0)=true then some (args.getD j undef) else none)=some v
      rw [if_pos hh,List.getD_eq_getElem?_getD,hj]; rfl))
    rw [← List.range_eq_range'] at b1 b2
    have hss2:ss.length=vs.length:=by rw [h4,h3]
    obtain ⟨G2,gle,hm2⟩:=ub2t_ hs'.mem (rs++ps.filter isBox) (ss++uzf_ ps ((List.range ps.length).map st'.slots))
    obtain ⟨bs',k1,k2,k3⟩:=ubrt_ hm2 hE.fs (vs:=vs++ulq_ ps args) h (by rw [List.length_append,List.length_append,b1,hss2]) (fun j s v hj hv=>by
     by_cases hlt:j<ss.length
     · rw [List.getElem?_append_left hlt] at hj
       rw [List.getElem?_append_left (by omega)] at hv
       exact (h5 j s v hj hv).mono gle
     · have hge:ss.length≤j:=Nat.le_of_not_lt hlt
       rw [List.getElem?_append_right hge] at hj
       rw [List.getElem?_append_right (by omega),← hss2] at hv
       exact (b2 _ s v hj hv).mono gle)
    refine ⟨rv,h1,rv,vs,G2.im,bs',rfl,by rw [h3,hl],h2,hm2.after,k1,k2,fun b hb=>?_,hs'.drawn⟩
    obtain ⟨k,_,o,ho,hbo⟩:=k3 b hb
    rcases u8e_ (hm2.objs k o ho) hbo with h | h
    · exact .inr h
    · exact .inl h
  · cases h
 refine ub6m_ hE hmix hfxok c 0 _ a0 w G0 _ r _ hd (ubzk_ hc) hr hs0 fun e st' a' w' G' hs' hK=>?_
 cases e with
 | normal=>exact fin st' a' w' G' hs' hK
 | ret=>exact fin st' a' w' G' hs' hK
 | exit i=>cases hK
end
end Go.Ev
namespace Go.Ev
variable [Pins]
def loopN {α β:Type} (r:(α→Option β)→α→Option β):Nat→α→Option β
 | 0=>fun _=>none
 | k+1=>r (loopN r k)
def sub:Code→List Nat→Code
 | c,[]=>c
 | .seq a b,i::r=>bif Nat.beq i 0 then sub a r else sub b r
 | .cond _ a b,i::r=>bif Nat.beq i 0 then sub a r else sub b r
 | .block _ b,_::r=>sub b r
 | .loop b,_::r=>sub b r
 | _,_=>.skip
def ul8_:Code→Operand
 | .cond c _ _=>c
 | _=>.tmp 0
def ui_ (f:Func):Code:=match f.body with
 | some c=>c
 | none=>.skip
def tysOK (P:Program) (l:List (Nat×Ty)):Bool:=l.all fun p=>(layB P p.2).1 p.1
def elsOK (P:Program) (l:List (Nat×Nat)):Bool:=l.all fun p=>match P.underlying p.1 with
 | some (.slice x)=>Nat.beq p.2 x
 | some (.map _ _)=>true
 | _=>false
def elOf (P:Program) (l:List (Nat×Nat)) (i:Nat):Nat:=match lookN l i with
 | some x=>x
 | none=>match P.underlying i with
   | some (.slice x)=>x
   | _=>0
def kysOK (P:Program) (l:List (Nat×Nat)):Bool:=l.all fun p=>match P.underlying p.1 with
 | some (.map x _)=>Nat.beq p.2 x
 | _=>false
def kyOf (P:Program) (l:List (Nat×Nat)) (i:Nat):Nat:=match lookN l i with
 | some x=>x
 | none=>match P.underlying i with
   | some (.map x _)=>x
   | _=>0
theorem ubk4_ {α:Type}:∀ {l:List (Nat×α)} {i:Nat} {x:α},lookN l i=some x→(i,x)∈l:=by
 intro l
 induction l with
 | nil=>intro i x h; cases h
 | cons p r ih =>
   intro i x h
   obtain ⟨j,y⟩:=p
   simp only [lookN] at h
   cases hb:Nat.beq i j with
   | true =>
     rw [hb] at h
     have:=Nat.eq_of_beq_eq_true hb
     subst this
     cases h
     exact List.mem_cons_self
   | false=>rw [hb] at h; exact List.mem_cons_of_mem _ (ih h)
section
variable {P:Program}
def FsOK (P:Program):List (Nat×FSpec)→Prop
 | []=>True
 | p::r=>(ugs_ P p.1∧FunOK P p.1 p.2)∧FsOK P r
theorem FsOK.mem:∀ {l:List (Nat×FSpec)},FsOK P l→∀ f sp,(f,sp)∈l→ugs_ P f∧FunOK P f sp:=by
 intro l
 induction l with
 | nil=>intro _ f sp h; cases h
 | cons p r ih =>
   intro h f sp hm
   rcases List.mem_cons.1 hm with rfl | hm
   · exact h.1
   · exact ih h.2 f sp hm
def lookM:List (String×Nat×Nat)→String→Nat→Option Nat
 | [],_,_=>none
 | x::r,m,id=>bif x.1 == m&&Nat.beq x.2.1 id then some x.2.2 else lookM r m id
def MsOK (P:Program):List (String×Nat×Nat)→Prop
 | []=>True
 | x::r=>(∀ (v:Value) (w:World),(method (P.types.size+Made.depth) x.2.1 v x.1).run P w=.ok (x.2.2,v) w)∧MsOK P r
theorem MsOK.look:∀ {l:List (String×Nat×Nat)},MsOK P l→∀ m id f,lookM l m id=some f→∀ (v:Value) (w:World),(method (P.types.size+Made.depth) id v m).run P w=.ok (f,v) w:=by
 intro l
 induction l with
 | nil=>intro _ m id f h; cases h
 | cons x r ih =>
   intro h m id f hf
   unfold lookM at hf
   cases hb:(x.1 == m&&Nat.beq x.2.1 id) with
   | false=>rw [hb] at hf; exact ih h.2 m id f hf
   | true =>
     rw [hb] at hf
     simp only [Bool.and_eq_true,beq_iff_eq] at hb
     have e2:=Nat.eq_of_beq_eq_true hb.2
     cases hf
     rw [← hb.1,← e2]
     exact h.1
def eqsOK (P:Program) (tys:List (Nat×Ty)) (eqs:List Nat):Bool:=eqs.all fun i=>match lookN tys i with
 | some t=>eqOK P t i
 | none=>true
theorem ucby_ {dr:Bool} {tys:List (Nat×Ty)} {els:List (Nat×Nat)} {fs:List (Nat×FSpec)} {ms:List (String×Nat×Nat)} {eqs:List Nat} {kys:List (Nat×Nat)} {dp:Nat→Nat} {cut:Nat→Option CSpec} {wr:Nat→Bool} (hp:Pins.P=P) (h1:tysOK P tys=true) (h2:elsOK P els=true) (h3:FsOK P fs) (h4:MsOK P ms) (h5:eqsOK P tys eqs=true) (h7:kysOK P kys=true) (h6:(!dr||fs.all fun p=>p.2.dr)=true) :
 EnvOK P dr ⟨lookN tys,lookN fs,cut,wr,elOf P els,lookM ms,(fun t=>hasN t eqs),dr,dp,kyOf P kys⟩:=by
 refine ⟨hp,fun h=>h,fun hd f sp h=>?_,fun id t h=>?_,fun id x h=>?_,fun f sp h=>h3.mem f sp (ubk4_ h),h4.look,fun id t he ht=>?_,fun id x y h=>?_⟩
 · subst hd
   simp only [Bool.not_true,Bool.false_or] at h6
   exact List.all_eq_true.1 h6 _ (ubk4_ h)
 · unfold tysOK at h1
   rw [List.all_eq_true] at h1
   exact h1 _ (ubk4_ h)
 · unfold elsOK at h2
   rw [List.all_eq_true] at h2
   show elOf P els id=x
   unfold elOf
   cases hl:lookN els id with
   | none=>simp only [h]
   | some y =>
     have:=h2 _ (ubk4_ hl)
     simp only [h] at this
     exact Nat.eq_of_beq_eq_true this
 · unfold eqsOK at h5
   rw [List.all_eq_true] at h5
   have h6:=h5 id (u5k_.1 he)
   have ht:lookN tys id=some t:=ht
   rw [ht] at h6
   exact h6
 · unfold kysOK at h7
   rw [List.all_eq_true] at h7
   show kyOf P kys id=x
   unfold kyOf
   cases hl:lookN kys id with
   | none=>simp only [h]
   | some y =>
     have:=h7 _ (ubk4_ hl)
     simp only [h] at this
     exact Nat.eq_of_beq_eq_true this
theorem fn_ok {dr:Bool} {E:Env} (hE:EnvOK P dr E) (hmix:P.follows .mixedOrders=true) {f:FuncId} {fn:Func} {c:Code} {ps rs:List Sh} {F:TupR ps→Option (TupR (rs++ps.filter isBox))} {l:List (CSpec×Code)}
 (hf:P.funcs[f]? = some fn) (hnm:(fn.name == "runtime.NumGoroutine")=false) (hb:fn.body=some c) (hd:dstOK (okFun fn.ntmps ps) c=true) (hn:Nat.ble ps.length fn.ntmps=true) (hl:Nat.beq fn.results.toList.length rs.length=true)
 (hcs:u03_ E c 0=l) (hc:AllCuts P dr fn.ntmps (okFun fn.ntmps ps) l) (hF:∀ v,evFun E fn ps rs v=F v):ugs_ P f∧FunOK P f ⟨ps,rs,F,dr⟩:=by
 subst hcs
 exact ⟨⟨fn,c,hf,hnm,hb⟩,uces_ hE hmix hf hb hd hn hl hc fun v r h=>(hF v).trans h⟩
theorem ucdk_ {dr:Bool} {E:Env} (hE:EnvOK P dr E) (hmix:P.follows .mixedOrders=true) {N n:Nat} {body:Code} {al:List (Nat×Nat)} {inn:Kp} {outs:List (Ex×Kp)} {wrs:List Nat} {r:(TupR inn.sh→Option (OutT outs))→TupR inn.sh→Option (OutT outs)} {l:List (CSpec×Code)}
 (hd:dstOK (okCut N wrs) body=true) (hcs:u03_ E body n=l) (hc:AllCuts P dr N (okCut N wrs) l) (hF:∀ next v,ub40_ E body n al inn outs next v=r next v) (m:Nat) :
 CutOK P dr N ⟨inn,outs,wrs,loopN r m,al,none⟩ (.loop body):=by
 subst hcs
 exact ucbw_ hE hmix hd hc (fun _=>rfl) (fun k v x h=>(hF _ v).trans h) m
theorem ub86_ {dr:Bool} {E:Env} (hE:EnvOK P dr E) (hmix:P.follows .mixedOrders=true) {N n:Nat} {c:Operand} {x y:Code} {al:List (Nat×Nat)} {inn:Kp} {outs:List (Ex×Kp)} {wrs:List Nat} {F:TupR inn.sh→Option (OutT outs)} {lx ly:List (CSpec×Code)}
 (hd:dstOK (okCut N wrs) (.cond c x y)=true) (hcx:u03_ E x (n+1)=lx) (hcy:u03_ E y (n+1+nodes x)=ly) (hx:AllCuts P dr N (okCut N wrs) lx) (hy:AllCuts P dr N (okCut N wrs) ly)
 (hF:∀ v,ub75_ E c x y n al inn outs v=F v):CutOK P dr N ⟨inn,outs,wrs,F,al,none⟩ (.cond c x y):=by
 subst hcx hcy
 exact ucbv_ (s:=⟨inn,outs,wrs,F,al,none⟩) hE hmix hd hx hy rfl fun v r h=>(hF v).trans h
theorem ub87_ {dr:Bool} {f:FuncId} {e:Ty} {rs:List Sh} {F1:TupR [Sh.nilS]→Option (TupR (rs++[Sh.nilS].filter isBox))} {F2:TupR [Sh.nns e]→Option (TupR (rs++[Sh.nns e].filter isBox))}
 {F:TupR [Sh.val (.slice e)]→Option (TupR (rs++[Sh.val (.slice e)].filter isBox))}
 (h1:ugs_ P f∧FunOK P f ⟨[.nilS],rs,F1,dr⟩) (h2:ugs_ P f∧FunOK P f ⟨[.nns e],rs,F2,dr⟩) (e1:F1 ()=F ([]:List e.T)) (e2:∀ x,F2 x=F x):ugs_ P f∧FunOK P f ⟨[.val (.slice e)],rs,F,dr⟩:=by
 refine ⟨h1.1,fun w I v args bs hm hsh hnd r hr=>?_⟩
 obtain ⟨v0,rfl,hv,rfl⟩:=hsh
 obtain ⟨c,hc,a,cap,hca,hlen,hnil,had⟩:=hv
 have hv0:v0=.slice a (show List e.T from v).length cap:=List.singleton_inj.1 ((show c=[v0] from hc).symm.trans hca)
 cases a with
 | none =>
   obtain ⟨hx,rfl⟩:=hnil rfl
   have hx:v=([]:List e.T):=hx
   subst hx
   exact h1.2 w I () [v0] [] hm ⟨v0,rfl,rfl,by rw [hv0]; rfl⟩ List.nodup_nil r (e1.trans hr)
 | some ad =>
   exact h2.2 w I v [v0] [] hm ⟨v0,rfl,rfl,⟨some ad,cap,by rw [hv0],hlen,hnil,had⟩,ad,_,cap,by rw [hv0]⟩ List.nodup_nil r ((e2 v).trans hr)
end
end Go.Ev
namespace Go.Ev
variable [Pins]
open Go.MapKept Go.ChangeMaps
section
variable {dr:Bool}
variable {P:Program} {fr:Fr} {w w':World} {G G':Gh} {I:Im} {Ω:Type}
theorem ubn2_ {all:Array Oper} {o:Oper} {i:Nat} {a:Act} {v:Value} {K:Act→World→Prop} {Q:Exit→Act→World→Prop} (ho:all[i]? = some o) (hg:o.guard=none)
 (hr:(execOp a.eval o).run P w=.ok (.value v) w') (hk:K (a.put o.dst v) w'):wpOp P all Q i K a w:=by
 unfold wpOp
 simp only [ho]
 rw [if_pos (by unfold Region.wanted; rw [hg])]
 left
 unfold Oper.wp
 rw [hr]
 exact hk
noncomputable def ucdl_ (E:Env) (ops:Array Oper) (C:Code) (n d5 d6:Nat) (k:Ty) (x:k.T) (st:St) (K:Ex→St→Option Ω):Option Ω :=
 bif uqx_ ops then none else
 evOps E ops false st.n (ops.toList.drop 2) 2 { slots:=u6i_ (u6i_ st.slots (some d5) .undef) (some d6) (.val k x),sto:=st.sto,n:=st.n } [] fun st' _ =>
  evC E C n { slots:=st'.slots,sto:=st'.sto,n:=st.n+8*ops.size } K
noncomputable def ubsn_ (E:Env) (y:Nat) (ops:Array Oper) (C:Code) (n d5 d6:Nat) (k:Ty) (inn:Kp) (x:k.T) (v:TupR inn.sh):Option (TupR inn.sh) :=
 ucdl_ E ops C n d5 d6 k x (mkSt inn v) fun e st=>match e with
  | .normal=>ubnr_ E.fs inn (frzSt inn st)
  | .exit i=>bif Nat.beq i y then ubnr_ E.fs inn (frzSt inn st) else none
  | .ret=>none
theorem ucdm_ {E:Env} (hE:EnvOK P dr E) (hmix:P.follows .mixedOrders=true) {N n y id d2 d5 d6:Nat} {ops:Array Oper} {C:Code} {wrs bs:List Nat} {inn:Kp} {k:Ty} {x:k.T} {o0 o1:Oper}
 (h0:ops[0]? = some o0) (h1:ops[1]? = some o1) (p0:o0.op=.entry (.tmp d2)∧o0.dst=some d5) (p1:o1.op=.extract (.tmp d5) 0∧o1.dst=some d6)
 (hd:dstOK (okCut N wrs) (.seq (.region id ops false) C)=true) (hc:AllCuts P dr N (okCut N wrs) (u03_ E C n)) {a:Act} {v v':TupR inn.sh} {key val:Value}
 (hm:Mem w I) (hda:a.defers=[]) (hN:a.tmps.size=N) (hsh:ShL P w I inn.sh v (inn.tm.map fun t=>a.tmps.getD t undef) bs) (hnd:bs.Nodup)
 (hrun:(Instr.entry (a.tmps.getD d2 undef)).run P w=.ok (.tuple #[key,val]) w) (hx:VRel w I k x key) (hF:ubsn_ E y ops C n d5 d6 k inn x v=some v') :
 (Code.block y (.seq (.region id ops false) C)).wp P (ubad_ P dr N ⟨inn,[(.normal,inn)],wrs,fun _=>none,[],none⟩ v' a w I bs) a w:=by
 obtain ⟨G,hs⟩:=ubxc_ (dr:=dr) (wrs:=wrs) hm hda hN hsh hnd
 unfold ubsn_ ucdl_ at hF
 cases hg:uqx_ ops with
 | true=>rw [hg] at hF; cases hF
 | false =>
 rw [hg] at hF
 simp only [cond_false] at hF
 simp only [dstOK,Bool.and_eq_true] at hd
 have hdst:∀ (j:Nat) o d,ops[j]? = some o→o.dst=some d→d<N∧(cutFr dr wrs bs a w I).fx d=none:=by
  intro j o d hj ho
  have hd1:=hd.1
  simp only [List.all_eq_true] at hd1
  have:=hd1 o (List.mem_of_getElem? (by simpa using hj))
  rw [ho] at this
  exact ubsm_ d this
 have hgo:GuardsOK ops:=ubvz_ fun hh=>by rw [hg] at hh; cases hh
 have hng:∀ (j:Nat) o,ops[j]? = some o→o.guard=none:=by
  intro j o hj
  cases hgd:o.guard with
  | none=>rfl
  | some p =>
    have:=ubnz_ hj (j:=p.1) (b:=p.2) (by rw [hgd])
    rw [hg] at this; cases this
 have h2:2≤ops.size:=by have:=(Array.getElem?_eq_some_iff.1 h1).1; omega
 have hd5:=hdst 0 o0 d5 h0 p0.2
 have hd6:=hdst 1 o1 d6 h1 p1.2
 refine wp_block (wp_seq (wp_region ?_))
 rw [List.range_eq_range',show ops.size=(ops.size-2)+1+1 by omega,List.range'_succ,List.range'_succ,wpOps_cons]
 refine ubn2_ h0 (hng 0 o0 h0) (v:=.tuple #[key,val]) (w':=w) ?_ ?_
 · simp only [execOp,p0.1]
   rw [show a.eval (.tmp d2)=a.tmps.getD d2 undef from rfl]
   simp only [Sem.run_bind,hrun,Result.andThen_ok]
   rfl
 rw [wpOps_cons,p0.2]
 have hN1:(a.put (some d5) (.tuple #[key,val])).tmps.size=N:=by rw [ubny_]; exact hN
 have g5:∀ t,(a.put (some d5) (.tuple #[key,val])).tmps.getD t undef=if d5=t then .tuple #[key,val] else a.tmps.getD t undef:=fun t=>by
  rw [u02_ hN (fun d h=>by cases h; exact hd5.1)]
  simp
 refine ubn2_ h1 (hng 1 o1 h1) (v:=key) (w':=w) ?_ ?_
 · simp only [execOp,p1.1]
   rw [show (a.put (some d5) (.tuple #[key,val])).eval (.tmp d5)=(a.put (some d5) (.tuple #[key,val])).tmps.getD d5 undef from rfl,g5,if_pos rfl]
   simp [Instr.extract]
 rw [p1.2]
 have g6:∀ t,((a.put (some d5) (.tuple #[key,val])).put (some d6) key).tmps.getD t undef=if d6=t then key else if d5=t then .tuple #[key,val] else a.tmps.getD t undef:=fun t=>by
  rw [u02_ hN1 (fun d h=>by cases h; exact hd6.1),g5]
  simp
 have hlen:(ops.toList.drop 2).length=ops.size-2:=by simp
 have hsr:∀ t,SR P w G ((mkSt inn v).slots t) (a.tmps.getD t undef):=by
  intro t
  have h1:SlotOK P w G a ((mkSt inn v).slots t) (a.tmps.getD t undef):=hs.slots t
  have h2:∀ tk g s,(mkSt inn v).slots t≠.grd tk g s:=hs.nogrd t
  generalize (mkSt inn v).slots t=s at h1 h2
  cases s <;> first | exact h1 | exact absurd rfl (h2 _ _ _)
 have hsim:SimF P N (cutFr dr wrs bs a w I) (fun k=>(mkSt inn v).n+8*2≤k) (DS ops (fun j=>decide (j<2))) (u6i_ (u6i_ (mkSt inn v).slots (some d5) .undef) (some d6) (.val k x)) (mkSt inn v).sto
  ((a.put (some d5) (.tuple #[key,val])).put (some d6) key) w G:=by
  refine ⟨fun t=>?_,by rw [u6m_,u6m_]; exact hda,by rw [ubny_]; exact hN1,fun t u h=>?_,fun t tk g s h=>?_,hs.mem.shrink fun k hk=>by omega,hs.drawn⟩
  · rw [uqd_,uqd_,g6]
    by_cases e6:d6=t
    · rw [if_pos (by rw [e6]),if_pos e6]
      obtain ⟨c,q1,q2⟩:=hx.ext hs.mem.after.ext
      exact SR.slotOK ⟨c,q1,q2⟩
    · rw [if_neg (fun h=>e6 (Option.some.inj h)),if_neg e6]
      by_cases e5:d5=t
      · rw [if_pos (by rw [e5]),if_pos e5]
        exact (SR.undef _).slotOK
      · rw [if_neg (fun h=>e5 (Option.some.inj h)),if_neg e5]
        exact (hsr t).slotOK
  · rw [g6,if_neg (fun e=>by rw [← e,hd6.2] at h; cases h),if_neg (fun e=>by rw [← e,hd5.2] at h; cases h)]
    exact hs.fix t u h
  · rw [uqd_,uqd_] at h
    split at h
    · cases h
    · split at h
      · cases h
      · exact absurd h (hs.nogrd t tk g s)
 have:=ubzh_ hE hgo hdst (Q:=Exit.then (C.wp P (Exit.inBlock y (ubad_ P dr N ⟨inn,[(.normal,inn)],wrs,fun _=>none,[],none⟩ v' a w I bs))) (Exit.inBlock y (ubad_ P dr N ⟨inn,[(.normal,inn)],wrs,fun _=>none,[],none⟩ v' a w I bs)))
  (ops.toList.drop 2) 2 _ [] _ w G hF rfl (by rw [hlen]; omega) hsim (fun st' cl' a' w' G' hs' hn hK=>?_)
 · rw [hlen] at this
   exact this
 · refine ub6m_ hE hmix ubsm_ C n _ a' w' G' _ v' _ hd.2 (ubzk_ hc) hK ⟨hs'.slots,hs'.defs,hs'.size,hs'.fix,fun t tk g s h=>?_,hs'.mem,hs'.drawn⟩ fun e st2 a2 w2 G2 hs2 hK2=>?_
   · obtain ⟨q1,q2⟩:=hs'.toks t tk g s h
     cases tk with
     | nil=>exact q1 rfl
     | cons p r =>
       have:=(q2 p List.mem_cons_self).1
       rw [hg] at this; cases this
   · have fin:ubnr_ E.fs inn (frzSt inn st2)=some v'→ubad_ P dr N ⟨inn,[(.normal,inn)],wrs,fun _=>none,[],none⟩ v' a w I bs .normal a2 w2:=fun h =>
      ubzl_ (s:=⟨inn,[(.normal,inn)],wrs,fun _=>none,[],none⟩) (e:=.normal) (x:=v') hE hs2 h
     cases e with
     | normal=>exact fin hK2
     | ret=>cases hK2
     | exit i =>
       simp only at hK2
       cases hb:Nat.beq i y with
       | false=>rw [hb] at hK2; cases hK2
       | true =>
         rw [hb] at hK2
         have:=Nat.eq_of_beq_eq_true hb
         subst this
         simp only [exOf,Exit.inBlock,if_true]
         exact fin hK2
def foldO {α β:Type} (f:α→β→Option β):List α→β→Option β
 | [],u=>some u
 | a::r,u=>(f a u).bind (foldO f r)
theorem ubso_ {α β:Type} {f:α→β→Option β}:∀ {l r:List α} {u:β},foldO f (l++r) u=(foldO f l u).bind (foldO f r):=by
 intro l
 induction l with
 | nil=>intro r u; rfl
 | cons a l ih =>
   intro r u
   simp only [List.cons_append,foldO]
   cases f a u with
   | none=>rfl
   | some v=>exact ih
def ubpo_:Sh→Bool
 | .val _=>true
 | .own _ _ _=>true
 | _=>false
theorem ShC.aside {s:Sh} (hs:ubpo_ s=true) {x:s.T} {cs:List Value} {bs:List Nat} (h:ShC P w I s x cs bs) (he:Ext w I w' I) (hb:∀ b∈bs,w'.heap[b]? = w.heap[b]?):ShC P w' I s x cs bs:=by
 cases s <;> first | (cases hs; done) | skip
 · exact ⟨h.1.ext he,h.2⟩
 · rcases h with h | ⟨b,cap,cells,h1,h2,h3,h4,h5,h6,h7,h8,h9⟩
   · exact .inl h
   · exact .inr ⟨b,cap,cells,h1,h2,h3,h4.keep (hb b (by rw [h2]; simp)),h5,fun i x hx=>(h6 i x hx).ext he,h7,h8,h9⟩
theorem ShV.aside {s:Sh} (hs:ubpo_ s=true) {x:s.T} {v:Value} {bs:List Nat} (h:ShV P w I s x v bs) (he:Ext w I w' I) (hb:∀ b∈bs,w'.heap[b]? = w.heap[b]?):ShV P w' I s x v bs:=by
 cases s <;> first | (cases hs; done) | skip
 · exact ⟨h.1.ext he,h.2⟩
 · exact ShC.aside (P:=P) (s:=.own _ _ _) rfl h he hb
theorem ShL.aside:∀ {l:List Sh},l.all ubpo_=true→∀ {x:TupR l} {vs:List Value} {bs:List Nat},ShL P w I l x vs bs→Ext w I w' I→(∀ b∈bs,w'.heap[b]? = w.heap[b]?)→ShL P w' I l x vs bs:=by
 intro l
 induction l with
 | nil=>intro _ x vs bs h _ _; exact h
 | cons a l ih =>
   intro hl x vs bs h he hb
   simp only [List.all_cons,Bool.and_eq_true] at hl
   cases l with
   | nil =>
     obtain ⟨v,h1,h2⟩:=h
     exact ⟨v,h1,ShV.aside hl.1 h2 he hb⟩
   | cons b r =>
     obtain ⟨v,vs',b1,b2,h1,h2,h3,h4⟩:=h
     refine ⟨v,vs',b1,b2,h1,h2,ShV.aside hl.1 h3 he fun c hc=>hb c (by rw [h2]; exact List.mem_append_left _ hc),ih hl.2 h4 he fun c hc=>hb c (by rw [h2]; exact List.mem_append_right _ hc)⟩
theorem ShC.lt {s:Sh} (hs:ubpo_ s=true) {x:s.T} {cs:List Value} {bs:List Nat} (h:ShC P w I s x cs bs):∀ b∈bs,b<w.heap.size:=by
 cases s <;> first | (cases hs; done) | skip
 · intro b hb; rw [h.2] at hb; cases hb
 · rcases h with h | ⟨b,cap,cells,h1,h2,h3,⟨fz,h4,_⟩,_⟩
   · intro b hb; rw [h.2.2] at hb; cases hb
   · intro c hc
     rw [h2] at hc
     have:c=b:=by simpa using hc
     rw [this]
     exact (Array.getElem?_eq_some_iff.1 h4).1
theorem ShV.lt {s:Sh} (hs:ubpo_ s=true) {x:s.T} {v:Value} {bs:List Nat} (h:ShV P w I s x v bs):∀ b∈bs,b<w.heap.size:=by
 cases s <;> first | (cases hs; done) | skip
 · intro b hb; rw [h.2] at hb; cases hb
 · exact ShC.lt (P:=P) (s:=.own _ _ _) rfl h
theorem ShL.lt:∀ {l:List Sh},l.all ubpo_=true→∀ {x:TupR l} {vs:List Value} {bs:List Nat},ShL P w I l x vs bs→∀ b∈bs,b<w.heap.size:=by
 intro l
 induction l with
 | nil=>intro _ x vs bs h b hb; rw [h.2] at hb; cases hb
 | cons a l ih =>
   intro hl x vs bs h
   simp only [List.all_cons,Bool.and_eq_true] at hl
   cases l with
   | nil =>
     obtain ⟨v,h1,h2⟩:=h
     exact ShV.lt hl.1 h2
   | cons b r =>
     obtain ⟨v,vs',b1,b2,h1,h2,h3,h4⟩:=h
     intro c hc
     rw [h2] at hc
     rcases List.mem_append.1 hc with hc | hc
     · exact ShV.lt hl.1 h3 c hc
     · exact ih hl.2 h4 c hc
def leftL {α:Type} (es:List α) (ents:List MapEntry) (seen:Array Nat):List α:=((es.zip ents).filter fun p=>!seen.contains p.2.born).map (·.1)
theorem ub88_ {α:Type} {es:List α} {ents:List MapEntry} (h:es.length=ents.length):leftL es ents #[]=es:=by
 unfold leftL
 rw [List.filter_eq_self.2 (fun p _=>by simp),List.map_fst_zip (by omega)]
theorem ub6p_ {α:Type} {es:List α} {ents:Array MapEntry} {seen:Array Nat} (h:(leftOf ents seen).size=0):leftL es ents.toList seen=[]:=by
 unfold leftL
 rw [List.filter_eq_nil_iff.2,List.map_nil]
 rintro ⟨x,e⟩ hp hc
 have he:e∈ents.toList:=(List.of_mem_zip hp).2
 have:e∈(leftOf ents seen):=by
  unfold leftOf
  rw [Array.mem_filter]
  exact ⟨Array.mem_toList_iff.1 he,hc⟩
 have h2:leftOf ents seen = #[]:=Array.eq_empty_of_size_eq_zero h
 rw [h2] at this
 simp at this
theorem ub6q_ {α:Type} {f:α×MapEntry→Bool}:∀ {Z:List (α×MapEntry)},(Z.map (·.2.born)).Nodup→∀ {p:α×MapEntry},p∈Z→f p=true→(Z.filter f).Perm (p::Z.filter fun q=>f q && !(q.2.born == p.2.born)):=by
 intro Z
 induction Z with
 | nil=>intro _ p hp; cases hp
 | cons q Z ih =>
   intro hn p hp hf
   obtain ⟨n1,n2⟩:=List.nodup_cons.1 hn
   rcases List.mem_cons.1 hp with rfl | hp
   · rw [List.filter_cons_of_pos hf,List.filter_cons_of_neg (by simp)]
     refine List.Perm.cons _ (List.Perm.of_eq ?_)
     apply List.filter_congr
     intro r hr
     have:r.2.born≠p.2.born:=fun e=>n1 (List.mem_map.2 ⟨r,hr,e⟩)
     simp [this]
   · have hq:q.2.born≠p.2.born:=fun e=>n1 (List.mem_map.2 ⟨p,hp,e.symm⟩)
     cases hfq:f q with
     | true =>
       rw [List.filter_cons_of_pos hfq,List.filter_cons_of_pos (by simp [hfq,hq])]
       exact ((ih n2 hp hf).cons q).trans (.swap p q _)
     | false =>
       rw [List.filter_cons_of_neg (by simp [hfq]),List.filter_cons_of_neg (by simp [hfq])]
       exact ih n2 hp hf
theorem ubzn_ {α:Type} {es:List α} {ents:Array MapEntry} {seen:Array Nat} (hl:es.length=ents.size) (hn:(ents.toList.map (·.born)).Nodup) {e:MapEntry} (he:e∈(leftOf ents seen).toList) :
 ∃ (i:Nat) (x:α),es[i]? = some x∧ents[i]? = some e∧e∈ents.toList∧(leftL es ents.toList seen).Perm (x::leftL es ents.toList (seen.push e.born)):=by
 have he:=Array.mem_toList_iff.1 he
 unfold leftOf at he
 rw [Array.mem_filter] at he
 obtain ⟨h1,h2⟩:=he
 have h1':=Array.mem_toList_iff.2 h1
 obtain ⟨i,hi⟩:=List.getElem?_of_mem h1'
 have hlt:i<ents.toList.length:=(List.getElem?_eq_some_iff.1 hi).1
 have hlt2:i<es.length:=by simpa [hl] using hlt
 refine ⟨i,es[i],List.getElem?_eq_getElem hlt2,by rw [← Array.getElem?_toList]; exact hi,h1',?_⟩
 have hz:(es[i],e)∈es.zip ents.toList:=by
  apply List.mem_of_getElem? (i:=i)
  rw [List.getElem?_zip_eq_some]
  exact ⟨List.getElem?_eq_getElem hlt2,hi⟩
 have hmz:((es.zip ents.toList).map (·.2.born)).Nodup:=by
  rw [show ((es.zip ents.toList).map (·.2.born))=((es.zip ents.toList).map (·.2)).map (·.born) by rw [List.map_map]; rfl,List.map_snd_zip (by simp [hl])]
  exact hn
 unfold leftL
 have:=(ub6q_ (f:=fun p:α×MapEntry=>!seen.contains p.2.born) hmz hz h2).map (·.1)
 refine this.trans (List.Perm.of_eq ?_)
 simp only [List.map_cons,Array.contains_push]
 congr 2
 apply List.filter_congr
 intro q _
 cases seen.contains q.2.born <;> simp
structure LoopI (P:Program) (dr:Bool) (N:Nat) (inn:Kp) (wrs:List Nat) (a0:Act) (w0:World) (I0:Im) (bs:List Nat) (d2 r:Nat) (a:Act) (w:World) (I:Im) (u:TupR inn.sh) (bs':List Nat):Prop where
 mem:Mem w I
 aft:After (·∈bs) w0 I0 w I
 defs:a.defers=[]
 size:a.tmps.size=N
 fix:∀ t,hasN t wrs=false→a.tmps.getD t undef=a0.tmps.getD t undef
 drawn:dr=true→w0.drawn≤w.drawn
 sh:ShL P w I inn.sh u (inn.tm.map fun t=>a.tmps.getD t undef) bs'
 nod:bs'.Nodup
 bsub:∀ c∈bs',c∈bs∨w0.heap.size≤c
 ptr:a.tmps.getD d2 undef=.pointer (some ⟨r,0,none⟩)
 rge:w0.heap.size≤r
 rlt:r<w.heap.size
 rbs:r ∉ bs'
 rC:∀ o,¬ I.cell r o
 rO:¬ I.obj r
section
variable {N d2 r:Nat} {inn:Kp} {wrs bs bs':List Nat} {a0 a:Act} {w0:World} {I0:Im} {u:TupR inn.sh}
theorem LoopI.put (h:LoopI P dr N inn wrs a0 w0 I0 bs d2 r a w I u bs') {d:Nat} (hd:d<N) (hw:hasN d wrs=true) (hi:hasN d inn.tm=false) (h2:d≠d2) (v:Value) :
 LoopI P dr N inn wrs a0 w0 I0 bs d2 r (a.put (some d) v) w I u bs':=by
 have g:∀ t,(a.put (some d) v).tmps.getD t undef=if d=t then v else a.tmps.getD t undef:=fun t=>by
  rw [u02_ h.size (fun _ e=>by cases e; exact hd)]
  simp
 refine ⟨h.mem,h.aft,by rw [u6m_]; exact h.defs,by rw [ubny_]; exact h.size,fun t ht=>?_,h.drawn,?_,h.nod,h.bsub,?_,h.rge,h.rlt,h.rbs,h.rC,h.rO⟩
 · rw [g,if_neg (fun e=>by rw [e,ht] at hw; cases hw)]
   exact h.fix t ht
 · have e:(inn.tm.map fun t=>(a.put (some d) v).tmps.getD t undef)=inn.tm.map fun t=>a.tmps.getD t undef:=by
    apply List.map_congr_left
    intro t ht
    rw [g,if_neg (fun e=>by rw [← e] at ht; rw [u5k_.2 ht] at hi; cases hi)]
   rw [e]
   exact h.sh
 · rw [g,if_neg h2]
   exact h.ptr
theorem LoopI.iter (h:LoopI P dr N inn wrs a0 w0 I0 bs d2 r a w I u bs') (hp:inn.sh.all ubpo_=true) {w1:World} (hw1:w1=w∨w1=w.drew) (o:Go.Obj) :
 LoopI P dr N inn wrs a0 w0 I0 bs d2 r a (setBlock w1 r o) I u bs':=by
 have hh:∀ j,j≠r→(setBlock w1 r o).heap[j]? = w.heap[j]?:=by
  intro j hj
  have e:(setBlock w1 r o).heap=w.heap.setIfInBounds r o:=by rcases hw1 with rfl | rfl <;> rfl
  rw [e,Array.getElem?_setIfInBounds,if_neg (fun e=>hj e.symm)]
 have hsz:(setBlock w1 r o).heap.size=w.heap.size:=by
  have e:(setBlock w1 r o).heap=w.heap.setIfInBounds r o:=by rcases hw1 with rfl | rfl <;> rfl
  rw [e,Array.size_setIfInBounds]
 have hos:(setBlock w1 r o).os=w.os∧(setBlock w1 r o).tape=w.tape∧(setBlock w1 r o).output=w.output∧w.drawn≤(setBlock w1 r o).drawn:=by
  rcases hw1 with rfl | rfl
  · exact ⟨rfl,rfl,rfl,Nat.le_refl _⟩
  · exact ⟨rfl,rfl,rfl,Nat.le_succ _⟩
 have he:Ext w I (setBlock w1 r o) I:=Ext.of_heap hh h.rC h.rO
 have hm:Mem (setBlock w1 r o) I:=⟨fun b o h'=>by rw [hsz]; exact h.mem.1 b o h',fun b h'=>by rw [hsz]; exact h.mem.2.1 b h',h.mem.2.2.ext he⟩
 have ha:After (·∈[r]) w I (setBlock w1 r o) I:=⟨he,fun b _ hb=>hh b (by simpa using hb),by rw [hsz]; exact Nat.le_refl _,fun _ _ h=>.inl h,fun _ h=>.inl h,hm.1,hm.2.1,hos.1,hos.2.1,hos.2.2.1,hm.2.2⟩
 refine ⟨hm, h.aft.trans ha (fun b hb => .inr (by have : b = r := by simpa using hb
                                                  rw [this]; exact h.rge)),h.defs,h.size,h.fix,fun hd=>Nat.le_trans (h.drawn hd) hos.2.2.2,h.sh.aside hp he (fun b hb=>hh b (fun e=>h.rbs (e▸hb))),h.nod,h.bsub,h.ptr,h.rge,by rw [hsz]; exact h.rlt,h.rbs,h.rC,h.rO⟩
theorem LoopI.body (h:LoopI P dr N inn wrs a0 w0 I0 bs d2 r a w I u bs') {wrsB:List Nat} (hB:∀ t,hasN t wrs=false→hasN t wrsB=false) (h2:hasN d2 wrsB=false) {u':TupR inn.sh} {e:Exit} {a':Act}
 (hq:ubad_ P dr N ⟨inn,[(.normal,inn)],wrsB,fun _=>none,[],none⟩ u' a w I bs' e a' w') :
 e=.normal∧w'.heap[r]? = w.heap[r]?∧∃ I' bs'',Ext w I w' I'∧LoopI P dr N inn wrs a0 w0 I0 bs d2 r a' w' I' u' bs'':=by
 obtain ⟨q1,q2,q3,qd,I',q4,q5⟩:=hq
 obtain ⟨he,bs'',s1,s2,s3⟩:=q5
 refine ⟨he,q4.heap r h.rlt h.rbs,I',bs'',q4.ext,⟨q4.mem,h.aft.trans q4 h.bsub,q1,q2,fun t ht=>(q3 t (hB t ht)).trans (h.fix t ht),fun hd=>Nat.le_trans (h.drawn hd) (qd hd),s1,s2,fun c hc=>?_,?_,h.rge,Nat.lt_of_lt_of_le h.rlt q4.size,fun hr=>?_,fun o hr=>?_,fun hr=>?_⟩⟩
 · rcases s3 c hc with h' | h'
   · exact h.bsub c h'
   · exact .inr (Nat.le_trans h.aft.size h')
 · exact (q3 d2 h2).trans h.ptr
 · rcases s3 r hr with h' | h'
   · exact h.rbs h'
   · exact Nat.lt_irrefl _ (Nat.lt_of_lt_of_le h.rlt h')
 · rcases q4.newC r o hr with h' | h' | h'
   · exact h.rC o h'
   · exact Nat.lt_irrefl _ (Nat.lt_of_lt_of_le h.rlt h')
   · exact h.rbs h'
 · rcases q4.newO r hr with h' | h' | h'
   · exact h.rO h'
   · exact Nat.lt_irrefl _ (Nat.lt_of_lt_of_le h.rlt h')
   · exact h.rbs h'
end
structure RangeAt (N:Nat) (inn:Kp) (wrs wrsB:List Nat) (s d1 d2 d3 d4 d5 d6 rty:Nat) (mv rg nx ex o0 o1:Oper) (ops:Array Oper):Prop where
 mv:mv.op=.move (.tmp s)∧mv.dst=some d1∧mv.guard=none
 rg:rg.op=.range rty (.tmp d1)∧rg.dst=some d2∧rg.guard=none
 nx:nx.op=.next (.tmp d2) false∧nx.dst=some d3∧nx.guard=none
 ex:ex.op=.extract (.tmp d3) 0∧ex.dst=some d4∧ex.guard=none
 h0:ops[0]? = some o0
 h1:ops[1]? = some o1
 p0:o0.op=.entry (.tmp d2)∧o0.dst=some d5
 p1:o1.op=.extract (.tmp d5) 0∧o1.dst=some d6
 lt:d1<N∧d2<N∧d3<N∧d4<N
 wr:hasN d1 wrs=true∧hasN d2 wrs=true∧hasN d3 wrs=true∧hasN d4 wrs=true
 out:hasN d1 inn.tm=false∧hasN d2 inn.tm=false∧hasN d3 inn.tm=false∧hasN d4 inn.tm=false
 ne:d3≠d2∧d4≠d2
 sub:wrsB.all (fun t=>hasN t wrs)=true
 it:hasN d2 wrsB=false
theorem ub20_ {E:Env} (hE:EnvOK P dr E) (hmix:P.follows .mixedOrders=true) {N n id1 id2 id3 x y s q d1 d2 d3 d4 d5 d6 rty:Nat} {ops:Array Oper} {C:Code} {wrs wrsB tm:List Nat} {k v:Ty} {b:Sh} {sh:List Sh} {mv rg nx ex o0 o1:Oper}
 (A:RangeAt N ⟨s::q::tm,.val (.map k v)::b::sh⟩ wrs wrsB s d1 d2 d3 d4 d5 d6 rty mv rg nx ex o0 o1 ops) (hl:Lay P (.map k v) rty)
 (hdB:dstOK (okCut N wrsB) (.seq (.region id3 ops false) C)=true) (hcB:AllCuts P dr N (okCut N wrsB) (u03_ E C n)) (hp:(Sh.val (.map k v)::b::sh).all ubpo_=true)
 {f:k.T→TupR (.val (.map k v)::b::sh)→Option (TupR (.val (.map k v)::b::sh))} (hF:∀ kx u,ubsn_ E y ops C n d5 d6 k ⟨s::q::tm,.val (.map k v)::b::sh⟩ kx u=f kx u) :
 CutOK P dr N ⟨⟨s::q::tm,.val (.map k v)::b::sh⟩,[(.normal,⟨s::q::tm,.val (.map k v)::b::sh⟩)],wrs,fun _=>none,[],some ⟨k,v,fun u o=>o.Perm (show List (k.T×v.T) from u.1),fun u o=>foldO (fun kx u=>f kx.1 u) o u⟩⟩
  (.seq (.region id1 #[mv,rg] false) (.block x (.loop (.seq (.region id2 #[nx,ex] false) (.seq (.cond (.tmp d4) .skip (.exit x)) (.block y (.seq (.region id3 ops false) C))))))):=by
 intro w0 I a0 u0 bs hm hda hN hal hsh hnd
 show (∀ o:List (k.T×v.T),o.Perm (show List (k.T×v.T) from u0.1)→∃ z,foldO (fun kx u=>f kx.1 u) o u0=some z)→_
 intro hall
 have hsh':=hsh
 obtain ⟨vm,vs,b1,b2,hvs,hbs,⟨hvm,hb1⟩,hrest⟩:=hsh
 have hs0:a0.tmps.getD s undef=vm:=(List.cons.inj hvs).1
 obtain ⟨c,hc,r',rfl,hnone,hsome⟩:=hvm
 have hvm0:vm=.map r':=by
  have:[Value.map r']=[vm]:=hc
  exact (List.singleton_inj.1 this).symm
 rw [hvm0] at hs0
 obtain ⟨ka,kb,hun,_,_⟩:=hl.map
 have hB:∀ t,hasN t wrs=false→hasN t wrsB=false:=by
  intro t ht
  cases hh:hasN t wrsB with
  | false=>rfl
  | true =>
    have:=List.all_eq_true.1 A.sub t (u5k_.1 hh)
    rw [ht] at this; cases this
 obtain ⟨it,hrange⟩:∃ it,(Instr.range rty (.map r')).run P w0=.ok (.pointer (some ⟨w0.heap.size,0,none⟩)) (w0.alloc it) ∧
  ((r'=none∧it=.mapIter none 0 #[] 0)∨∃ mb ents clock,r'=some mb∧it=.mapIter (some mb) clock #[] clock∧w0.heap[mb]? = some (.map ents clock)):=by
  cases r' with
  | none=>exact ⟨_,run_range_nilMap w0 rty ka kb hun,.inl ⟨rfl,rfl⟩⟩
  | some mb =>
    obtain ⟨_,ents,clock,h1,_⟩:=hsome mb rfl
    exact ⟨_,run_range_map w0 rty ka kb mb ents clock hun h1,.inr ⟨mb,ents,clock,rfl,rfl,h1⟩⟩
 obtain ⟨hrange,hit⟩:=hrange
 have g1:∀ t,(a0.put (some d1) (.map r')).tmps.getD t undef=if d1=t then .map r' else a0.tmps.getD t undef:=fun t=>by
  rw [u02_ hN (fun _ e=>by cases e; exact A.lt.1)]
  simp
 have hN1:(a0.put (some d1) (.map r')).tmps.size=N:=by rw [ubny_]; exact hN
 have g2:∀ t,((a0.put (some d1) (.map r')).put (some d2) (.pointer (some ⟨w0.heap.size,0,none⟩))).tmps.getD t undef=if d2=t then .pointer (some ⟨w0.heap.size,0,none⟩) else if d1=t then .map r' else a0.tmps.getD t undef:=fun t=>by
  rw [u02_ hN1 (fun _ e=>by cases e; exact A.lt.2.1),g1]
  simp
 have hold:∀ j,j<w0.heap.size→(w0.alloc it).heap[j]? = w0.heap[j]?:=(MapKept.heap_alloc w0 it).2
 have hnew:(w0.alloc it).heap[w0.heap.size]? = some it:=(MapKept.heap_alloc w0 it).1
 have hsz:(w0.alloc it).heap.size=w0.heap.size+1:=by simp
 have he0:Ext w0 I (w0.alloc it) I:=⟨fun b o h=>⟨h,by simp only [World.cell?,hold b (hm.1 b o h)]⟩,fun b h=>⟨h,hold b (hm.2.1 b h)⟩⟩
 have hm1:Mem (w0.alloc it) I:=⟨fun b o h=>by rw [hsz]; exact Nat.lt_succ_of_lt (hm.1 b o h),fun b h=>by rw [hsz]; exact Nat.lt_succ_of_lt (hm.2.1 b h),hm.2.2.ext he0⟩
 have hL0:LoopI P dr N ⟨s::q::tm,.val (.map k v)::b::sh⟩ wrs a0 w0 I bs d2 w0.heap.size ((a0.put (some d1) (.map r')).put (some d2) (.pointer (some ⟨w0.heap.size,0,none⟩))) (w0.alloc it) I u0 bs:=by
  refine ⟨hm1,⟨he0,fun j hj _=>hold j hj,by rw [hsz]; omega,fun _ _ h=>.inl h,fun _ h=>.inl h,hm1.1,hm1.2.1,rfl,rfl,rfl,hm1.2.2⟩,by rw [u6m_,u6m_]; exact hda,by rw [ubny_]; exact hN1,fun t ht=>?_,fun _=>Nat.le_refl _,?_,hnd,fun c hc=>.inl hc,by rw [g2,if_pos rfl],Nat.le_refl _,by rw [hsz]; omega,
   fun h=>Nat.lt_irrefl _ (hsh'.lt hp _ h),fun o h=>Nat.lt_irrefl _ (hm.1 _ o h),fun h=>Nat.lt_irrefl _ (hm.2.1 _ h)⟩
  · rw [g2,if_neg (fun e=>by have:=A.wr.2.1; rw [e,ht] at this; cases this),if_neg (fun e=>by have:=A.wr.1; rw [e,ht] at this; cases this)]
  · have e:((s::q::tm).map fun t=>((a0.put (some d1) (.map r')).put (some d2) (.pointer (some ⟨w0.heap.size,0,none⟩))).tmps.getD t undef)=(s::q::tm).map fun t=>a0.tmps.getD t undef:=by
     apply List.map_congr_left
     intro t ht
     have ht:hasN t (s::q::tm)=true:=u5k_.2 ht
     rw [g2,if_neg (fun e=>by have:=A.out.2.1; rw [e] at this; rw [this] at ht; cases ht),if_neg (fun e=>by have:=A.out.1; rw [e] at this; rw [this] at ht; cases ht)]
    show ShL P (w0.alloc it) I _ u0 ((s::q::tm).map _) bs
    rw [e]
    exact hsh'.aside hp he0 fun c hc=>hold c (hsh'.lt hp c hc)
 refine wp_seq (wp_region ?_)
 rw [show List.range (#[mv,rg]:Array Oper).size=[0,1] from rfl,wpOps_cons]
 refine ubn2_ (o:=mv) rfl A.mv.2.2 (v:=.map r') (w':=w0) ?_ ?_
 · simp only [execOp,A.mv.1]
   rw [show a0.eval (.tmp s)=.map r' from hs0]
   rfl
 rw [wpOps_cons,A.mv.2.1]
 refine ubn2_ (o:=rg) rfl A.rg.2.2 (v:=.pointer (some ⟨w0.heap.size,0,none⟩)) (w':=w0.alloc it) ?_ ?_
 · simp only [execOp,A.rg.1]
   rw [show (a0.put (some d1) (.map r')).eval (.tmp d1)=.map r' from (g1 d1).trans (if_pos rfl)]
   simp only [Sem.run_bind,hrange,Result.andThen_ok]
   rfl
 rw [A.rg.2.1]
 refine wp_block ?_
 generalize hr:w0.heap.size=r at *
 have test:∀ {a:Act} {w:World} {I':Im} {u:TupR (.val (.map k v)::b::sh)} {bs':List Nat} {l:List Value} {t:Bool} {w1:World} {o:Go.Obj} {Q:Exit→Act→World→Prop},
  LoopI P dr N ⟨s::q::tm,.val (.map k v)::b::sh⟩ wrs a0 w0 I bs d2 r a w I' u bs'→(Instr.next (.pointer (some ⟨r,0,none⟩)) false nx.type).run P w=.ok (.tuple (.bool t::l).toArray) (if t then setBlock w1 r o else w)→(t=true→w1=w∨w1=w.drew) →
  (∀ a',LoopI P dr N ⟨s::q::tm,.val (.map k v)::b::sh⟩ wrs a0 w0 I bs d2 r a' (if t then setBlock w1 r o else w) I' u bs'→a'.eval (.tmp d4)=.bool t→Q .normal a' (if t then setBlock w1 r o else w)) →
  (Code.region id2 #[nx,ex] false).wp P Q a w:=by
  intro a w I' u bs' l t w1 o Q hL hrun hw1 hQ
  refine wp_region ?_
  rw [show List.range (#[nx,ex]:Array Oper).size=[0,1] from rfl,wpOps_cons]
  refine ubn2_ (o:=nx) rfl A.nx.2.2 (v:=.tuple (.bool t::l).toArray) (w':=if t then setBlock w1 r o else w) ?_ ?_
  · simp only [execOp,A.nx.1]
    rw [show a.eval (.tmp d2)=.pointer (some ⟨r,0,none⟩) from hL.ptr]
    simp only [Sem.run_bind,hrun,Result.andThen_ok]
    rfl
  rw [wpOps_cons,A.nx.2.1]
  have h1:LoopI P dr N ⟨s::q::tm,.val (.map k v)::b::sh⟩ wrs a0 w0 I bs d2 r a (if t then setBlock w1 r o else w) I' u bs':=by
   cases t with
   | false=>exact hL
   | true=>exact hL.iter hp (hw1 rfl) o
  have h2:=h1.put A.lt.2.2.1 A.wr.2.2.1 A.out.2.2.1 A.ne.1 (.tuple (.bool t::l).toArray)
  have e3:(a.put (some d3) (.tuple (.bool t::l).toArray)).tmps.getD d3 undef=.tuple (.bool t::l).toArray:=by
   rw [u02_ hL.size (fun _ e=>by cases e; exact A.lt.2.2.1),if_pos rfl]
  refine ubn2_ (o:=ex) rfl A.ex.2.2 (v:=.bool t) (w':=if t then setBlock w1 r o else w) ?_ ?_
  · simp only [execOp,A.ex.1]
    rw [show (a.put (some d3) (.tuple (.bool t::l).toArray)).eval (.tmp d3)=.tuple (.bool t::l).toArray from e3]
    simp [Instr.extract]
  rw [A.ex.2.1]
  refine hQ _ (h2.put A.lt.2.2.2 A.wr.2.2.2 A.out.2.2.2 A.ne.2 (.bool t)) ?_
  show ((a.put (some d3) (.tuple (.bool t::l).toArray)).put (some d4) (.bool t)).tmps.getD d4 undef=.bool t
  rw [u02_ h2.size (fun _ e=>by cases e; exact A.lt.2.2.2),if_pos rfl]
 have done:∀ {a:Act} {w:World} {I':Im} {u:TupR (.val (.map k v)::b::sh)} {bs':List Nat} {dn:List (k.T×v.T)} {R:Act→World→Prop},
  LoopI P dr N ⟨s::q::tm,.val (.map k v)::b::sh⟩ wrs a0 w0 I bs d2 r a w I' u bs'→foldO (fun kx u=>f kx.1 u) dn u0=some u→dn.Perm (show List (k.T×v.T) from u0.1) →
  (Instr.next (.pointer (some ⟨r,0,none⟩)) false nx.type).run P w=.ok (.tuple #[.bool false]) w →
  (Code.seq (.region id2 #[nx,ex] false) (.seq (.cond (.tmp d4) .skip (.exit x)) (.block y (.seq (.region id3 ops false) C)))).wp P
   (Exit.then R (Exit.inBlock x fun e a' w'=>∃ o z,o.Perm (show List (k.T×v.T) from u0.1)∧foldO (fun kx u=>f kx.1 u) o u0=some z ∧
    ubad_ P dr N ⟨⟨s::q::tm,.val (.map k v)::b::sh⟩,[(.normal,⟨s::q::tm,.val (.map k v)::b::sh⟩)],wrs,fun _=>none,[],some ⟨k,v,fun u o=>o.Perm (show List (k.T×v.T) from u.1),fun u o=>foldO (fun kx u=>f kx.1 u) o u⟩⟩ z a0 w0 I bs e a' w')) a w:=by
  intro a w I' u bs' dn R hL hfd hperm hrun
  refine wp_seq (test (l:=[]) (t:=false) (w1:=w) (o:=default) hL hrun (fun h=>by cases h) fun a' hL' hv=>?_)
  refine wp_seq (wp_cond_false hv (wp_exit ?_))
  simp only [Exit.then,Exit.inBlock,if_true]
  exact ⟨dn,u,hperm,hfd,hL'.defs,hL'.size,hL'.fix,hL'.drawn,I',hL'.aft,rfl,bs',hL'.sh,hL'.nod,hL'.bsub⟩
 rcases hit with ⟨rfl,rfl⟩ | ⟨mb,ents,clock,rfl,rfl,hmb⟩
 ·
  have hes:(show List (k.T×v.T) from u0.1)=[]:=hnone rfl
  refine wp_loop_rounds 1 ?_
  rw [rounds_succ]
  refine done (dn:=[]) hL0 rfl (by rw [hes]) ?_
  have:=run_next_nilMap (P:=P) w0 nx.type 0 0 #[]
  rw [hr] at this
  exact this
 · obtain ⟨hIb,ents',clock',hh',⟨hsize,hst⟩,hent⟩:=hsome mb rfl
   rw [hmb] at hh'
   cases hh'
   generalize hes:(show List (k.T×v.T) from u0.1)=es at *
   have hsize:ents.size=es.length:=hsize
   have key:∀ (m:Nat) {a:Act} {w:World} {I':Im} {u:TupR (.val (.map k v)::b::sh)} {bs':List Nat} {dn:List (k.T×v.T)} {seen:Array Nat} {c0:Nat},
    LoopI P dr N ⟨s::q::tm,.val (.map k v)::b::sh⟩ wrs a0 w0 I bs d2 r a w I' u bs'→foldO (fun kx u=>f kx.1 u) dn u0=some u→(dn++leftL es ents.toList seen).Perm es→(leftL es ents.toList seen).length=m →
    w.heap[r]? = some (.mapIter (some mb) clock seen c0)→clock≤c0→w.heap[mb]? = some (.map ents clock) →
    Code.rounds P (.seq (.region id2 #[nx,ex] false) (.seq (.cond (.tmp d4) .skip (.exit x)) (.block y (.seq (.region id3 ops false) C))))
     (Exit.inBlock x fun e a' w'=>∃ o z,o.Perm es∧foldO (fun kx u=>f kx.1 u) o u0=some z ∧
      ubad_ P dr N ⟨⟨s::q::tm,.val (.map k v)::b::sh⟩,[(.normal,⟨s::q::tm,.val (.map k v)::b::sh⟩)],wrs,fun _=>none,[],some ⟨k,v,fun u o=>o.Perm (show List (k.T×v.T) from u.1),fun u o=>foldO (fun kx u=>f kx.1 u) o u⟩⟩ z a0 w0 I bs e a' w') (m+1) a w:=by
    intro m
    induction m with
    | zero =>
      intro a w I' u bs' dn seen c0 hL hfd hperm hlen hit hc0 hmbw
      have hnil:=List.eq_nil_of_length_eq_zero hlen
      rw [hnil,List.append_nil] at hperm
      rw [rounds_succ]
      refine done hL hfd hperm ?_
      rcases run_next_at (P:=P) w nx.type r mb clock c0 seen ents clock hit hmbw hst.1 hc0 with ⟨_,h⟩ | ⟨e,he,_⟩
      · exact h
      · obtain ⟨i,z,_,_,_,hp'⟩:=ubzn_ hsize.symm hst.2.1 he
        have:=hp'.length_eq
        rw [hnil] at this
        simp at this
    | succ m ih =>
      intro a w I' u bs' dn seen c0 hL hfd hperm hlen hit hc0 hmbw
      rw [rounds_succ]
      rcases run_next_at (P:=P) w nx.type r mb clock c0 seen ents clock hit hmbw hst.1 hc0 with ⟨h0,_⟩ | ⟨e,he,w1,hw1,hrun⟩
      · rw [ub6p_ h0] at hlen
        cases hlen
      · obtain ⟨i,z,hz,hei,hein,hp'⟩:=ubzn_ hsize.symm hst.2.1 he
        have hlen':(leftL es ents.toList (seen.push e.born)).length=m:=by
         have:=hp'.length_eq
         rw [hlen] at this
         simpa using this.symm
        have hperm':((dn++[z])++leftL es ents.toList (seen.push e.born)).Perm es:=by
         refine List.Perm.trans ?_ hperm
         rw [List.append_assoc]
         exact List.Perm.append_left dn hp'.symm
        obtain ⟨u',hu'⟩:∃ u',f z.1 u=some u':=by
         obtain ⟨zz,hzz⟩:=hall _ hperm'
         rw [List.append_assoc,ubso_,hfd] at hzz
         simp only [Option.bind_some,List.singleton_append,foldO] at hzz
         obtain ⟨u',h1,_⟩:=Option.bind_eq_some_iff.1 hzz
         exact ⟨u',h1⟩
        have hfd':foldO (fun kx u=>f kx.1 u) (dn++[z]) u0=some u':=by
         rw [ubso_,hfd]
         simp only [Option.bind_some,foldO]
         rw [hu']
         rfl
        refine wp_seq (test (l:=[e.key,e.val]) (t:=true) (w1:=w1) (o:=.mapIter (some mb) clock (seen.push e.born) clock) hL hrun (fun _=>hw1) fun a' hL' hv=>?_)
        simp only [if_true] at hL' ⊢
        have hne:mb≠r:=fun e=>by rw [e,hit] at hmbw; cases hmbw
        have hheap:(setBlock w1 r (.mapIter (some mb) clock (seen.push e.born) clock)).heap=w.heap.setIfInBounds r (.mapIter (some mb) clock (seen.push e.born) clock):=by rcases hw1 with rfl | rfl <;> rfl
        generalize hw2:setBlock w1 r (.mapIter (some mb) clock (seen.push e.born) clock)=w2 at *
        have hit2:w2.heap[r]? = some (.mapIter (some mb) clock (seen.push e.born) clock):=by
         rw [hheap,Array.getElem?_setIfInBounds,if_pos rfl,if_pos hL.rlt]
        have hmb2:w2.heap[mb]? = some (.map ents clock):=by
         rw [hheap,Array.getElem?_setIfInBounds,if_neg (fun e=>hne e.symm)]
         exact hmbw
        refine wp_seq (wp_cond_true hv (wp_skip ?_))
        have hkey:VRel w2 I' k z.1 e.key:=by
         obtain ⟨⟨cc,h1,h2⟩,_⟩:=hent i z e hz hei
         exact VRel.ext ⟨cc,h1,h2⟩ hL'.aft.ext
        have hentry:=run_entry_at (P:=P) w2 r mb clock seen ents clock e hit2 hmb2 hein hst.2.1
        refine wp_mono (ucdm_ hE hmix (n:=n) (y:=y) (k:=k) (x:=z.1) (inn:=⟨s::q::tm,.val (.map k v)::b::sh⟩) A.h0 A.h1 A.p0 A.p1 hdB hcB hL'.mem hL'.defs hL'.size hL'.sh hL'.nod (by rw [hL'.ptr]; exact hentry) hkey ((hF z.1 u).trans hu')) fun e' a2 w3 hq=>?_
        obtain ⟨rfl,h1,I2,bs2,h2,h3⟩:=hL'.body hB A.it hq
        have hIb':I'.obj mb:=(hL'.aft.ext.obj mb hIb).1
        exact ih h3 hfd' hperm' hlen' (h1.trans hit2) (Nat.le_refl _) (((h2.obj mb hIb').2).trans hmb2)
   refine wp_loop_rounds (es.length+1) ?_
   have hle:(leftL es ents.toList #[])=es:=ub88_ (by simp [hsize])
   have hall:=key es.length (dn:=[]) (seen:=#[]) hL0 rfl (by rw [hle,List.nil_append]) (by rw [hle]) hnew (Nat.le_refl _) ((hold mb (by have:=(Array.getElem?_eq_some_iff.1 hmb).1; omega)).trans hmb)
   subst hes
   exact hall
theorem CutOK.of_eq {N:Nat} {s:CSpec} {c c':Code} (h:CutOK P dr N s c) (e:c=c'):CutOK P dr N s c':=e▸h
def ubk5_:Code→Array Oper
 | .region _ o _=>o
 | _=>#[]
end
end Go.Ev
