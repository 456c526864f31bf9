/-
  The evaluator's functions, second part: loops, branches, whole functions, closures that call themselves.
-/
import Derived.Test.YtlljgbmoloklgaaGreatDoorE3
import Derived.Orders
import Derived.LoopN
import Derived.KernelRfl
import Derived.Maps.RangeRun
import Derived.ChangeMaps4
set_option linter.unusedVariables false
set_option linter.unusedSimpArgs false
set_option linter.unusedSectionVars false
set_option maxRecDepth 100000
namespace Go.Ev
variable [Pins]
section
variable{P:Program}{fr:Fr}{free free':Nat->Prop}{self:Nat}{σ σ':SSo}{w w':World}{G G':Gh}{I:Im}
theorem AAZ{k:IntKind}{n:Int}(h:WF k n=true):G6 k n:=by
 simp only[WF,A4,AX]at h;exact h
theorem SR.undef(v:Value):SR P w G .undef v:=⟨[v],rfl,trivial⟩
theorem vY(v:Value):SR P w G (WG v) v:=by
 unfold WG;split
 .exact SR.mk_bool _
 .rename_i k n;cases h:WF k n with
  |true=>exact SR.mk_int (AAZ h)
  |false=>exact SR.undef _
 .rename_i s;cases h:Nat.ble s.data.toList.length 281474976710656 with
  |true=>exact SR.mk_str (BX h)
  |false=>exact SR.undef _
 .exact⟨_,rfl,rfl⟩
 .exact⟨_,rfl,rfl⟩
 .exact⟨_,rfl,rfl⟩
 .exact⟨_,rfl,rfl⟩
 .exact⟨_,rfl,rfl⟩
 .exact SR.undef _
theorem SR.not_grd{tk:List (Nat×Bool)}{g:Bool}{s:SV}{v:Value}(h:SR P w G (.grd tk g s) v):False:=by
 obtain⟨_,_,h⟩:=h;exact h
theorem SR.strip{s:SV}{v:Value}{tk:List (Nat×Bool)}(h:SR P w G s v):SR P w G (s.strip tk) v:=by
 cases s<;>first|exact h|exact h.not_grd.elim
theorem SR.slotOK{s:SV}{v:Value}{a:Act}(h:SR P w G s v):SlotOK P w G a s v:=by
 cases s<;>first|exact h|exact h.not_grd.elim
theorem AA_{t:Nat×Bool}:∀{tk:List (Nat×Bool)},TC t tk=true->t∈tk:=by
 intro tk;induction tk with
 |nil=>intro h;cases h
 |cons u r ih=>
  intro h;simp only[TC,BH,A4]at h;rcases h with⟨h1,h2⟩|h
  .have e1:=A2 h1
   have e2:t.2=u.2:=by
    cases h3:t.2<;>cases h4:u.2<;>rw[h3,h4]at h2<;>first|rfl|cases h2
   have:t=u:=Prod.ext e1 e2;rw[this];exact AI
  .exact AD _ (ih h)
theorem SlotOK.strip{s:SV}{v:Value}{a:Act}{tk:List (Nat×Bool)}(h:SlotOK P w G a s v)(hk:holds a tk):SR P w G (s.strip tk) v:=by
 cases s with
 |grd tk' g s=>
  simp only[SV.strip];cases ha:tk'.all (TC · tk)with
  |false=>exact SR.undef _
  |true=>
   rw[BG]at ha;exact(h.1 λt ht=>hk t (AA_ (ha t ht))).2
 |_=>exact h
theorem SlotOK.mono{s:SV}{v:Value}{a a':Act}(h:SlotOK P w G a s v)(e:GLe w G w' G')(ht:∀tk g s',s=.grd tk g s'->(holds a' tk<->holds a tk)):SlotOK P w' G' a' s v:=by
 cases s with
 |grd tk g s=>
  have ht:=ht tk g s rfl;exact⟨λhh=>⟨(h.1 (ht.1 hh)).1,(h.1 (ht.1 hh)).2.mono e⟩,λhh=>h.2 λhk=>hh (ht.2 hk)⟩
 |_=>exact SR.mono h e
theorem vZ{a:Act}{sl:Nat->SV}{x:Operand}{tk:List (Nat×Bool)}(hs:∀t,x=.tmp t->SlotOK P w G a (sl t) (a.tmps.getD t undef))(hk:holds a tk):
 SR P w G ((GF sl x).strip tk) (a.eval x):=by
 cases x with
 |tmp t=>exact(hs t rfl).strip hk
 |const v=>exact(vY v).strip
 |func f=>exact⟨_,rfl,#[],rfl,rfl⟩
 |global g=>exact SR.undef _
def IX(all:Array Oper)(o:Oper):List Nat:=match o.guard with
 |some (j,_)=>match all[j]? with
  |some p=>p.dst.toList
  |none=>[]
 |none=>[]
def YI(o:Oper):List Nat:=o.op.operands.toList.filterMap λ| .tmp t=>some t|_=>none
theorem AAa{o:Oper}{t:Nat}(h:Operand.tmp t∈o.op.operands):t∈YI o:=by
 unfold YI;rw[List.mem_filterMap];exact⟨.tmp t,by simpa using h,rfl⟩
theorem OF{a:Act}{t:Nat}{b:Bool}{tk:List (Nat×Bool)}:holds a ((t,b)::tk)<->a.tmps.getD t undef=.bool b/\holds a tk:=by
 constructor
 .intro h;exact⟨h _ AI,λp hp=>h p (AD _ hp)⟩
 .intro h p hp;rcases A_.1 hp with rfl|hp
  .exact h.1
  .exact h.2 p hp
theorem OG(a:Act):holds a []:=λ_ h=>oe
theorem AAb(b:Bool):undef≠.bool b:=ou
theorem AAc{all:Array Oper}{o p:Oper}{j t:Nat}{b:Bool}{a:Act}(hg:o.guard=some (j,b))(hp:all[j]?=some p)(ht:p.dst=some t):
 Region.wanted o (yielded all a.tmps)=true<->a.tmps.getD t undef=.bool b:=by
 unfold Region.wanted yielded;simp only[hg,hp,A1,ht];cases h:a.tmps[t]? with
 |none=>simp[h,undef]
 |some v=>
  have:a.tmps.getD t undef=v:=by simp[h]
  rw[this];cases v<;>simp
theorem AAd{all:Array Oper}{o:Oper}{sl:Nat->SV}{a:Act}{tk:List (Nat×Bool)}{g:Bool}(h:NH all sl o=some (tk,g))
 (hs:∀t∈IX all o,SlotOK P w G a (sl t) (a.tmps.getD t undef)):
 (Region.wanted o (yielded all a.tmps)=true<->holds a tk)/\(holds a tk->g=true)/\(o.guard=none->tk=[])/\
  ∀p∈tk,p.1∈IX all o\/∃t∈IX all o,∃tk' g' s',sl t=.grd tk' g' s'/\p∈tk':=by
 unfold NH at h;split at h
 .rename_i hg;simp only[AM,D9]at h;obtain⟨rfl,rfl⟩:=h;exact⟨by simp[Region.wanted,hg,OG],λ_=>rfl,λ_=>rfl,λp hp=>by cases hp⟩
 .rename_i j b hg;split at h
  .rename_i p hp;split at h
   .rename_i t ht;have hsl:IX all o=[t]:=by simp[IX,hg,hp,ht]
    have hst:=hs t (by rw[hsl];simp);have hwi:=AAc (a:=a) hg hp ht;split at h
    .rename_i c hc;simp only[AM,D9]at h;obtain⟨rfl,rfl⟩:=h;rw[hc]at hst;have hv:=SR.bool hst;refine⟨by rw[hwi,OF];simp[OG],λhh=>?_,λh=>(by rw[hg]at h;cases h),λq hq=>.inl ?_⟩
     .have:=(OF.1 hh).1;rw[hv]at this;cases this;cases b<;>rfl
     .have:q=(t,b):=by simpa using hq
      rw[this,hsl];simp
    .rename_i tk' g' c hc;simp only[AM,D9]at h;obtain⟨rfl,rfl⟩:=h;rw[hc]at hst
     have key:a.tmps.getD t undef=.bool b->holds a tk':=by
      intro h1;apply BY;intro h2;rw[hst.2 h2]at h1;exact AAb _ h1
     refine⟨?_,λhh=>?_,λh=>(by rw[hg]at h;cases h),λq hq=>?_⟩
     .rw[hwi,OF];exact⟨λh1=>⟨h1,key h1⟩,λh1=>h1.1⟩
     .obtain⟨h1,h2⟩:=OF.1 hh;obtain⟨h3,h4⟩:=hst.1 h2;have hv:=SR.bool h4;rw[hv]at h1;cases h1;rw[h3];cases b<;>rfl
     .rcases A_.1 hq with rfl|hq
      .exact .inl (by rw[hsl];simp)
      .exact .inr ⟨t,by rw[hsl];simp,tk',g',_,hc,hq⟩
    .cases h
   .cases h
  .cases h
structure SimF(P:Program)(N:Nat)(fr:Fr)(free D:Nat->Prop)(sl:Nat->SV)(σ:SSo)(a:Act)(w:World)(G:Gh):Prop where
 slots:∀t,SlotOK P w G a (sl t) (a.tmps.getD t undef)
 defs:a.defers=[]
 size:a.tmps.size=N
 fix:∀t v,fr.fx t=some v->a.tmps.getD t undef=v
 toks:∀t tk g s,sl t=.grd tk g s->tk≠[]/\∀p∈tk,D p.1
 mem:MemS P fr free σ w G
 drawn:fr.dr=true->fr.w0.drawn<=w.drawn
theorem M2{a:Act}{N:Nat}(hN:a.tmps.size=N){dst:Option Nat}(hd:∀d,dst=some d->d<N)(v:Value)(t:Nat):
 (a.put dst v).tmps.getD t undef=if dst=some t then v else a.tmps.getD t undef:=by
 cases dst with
 |none=>simp[Act.put]
 |some d=>
  have hd:=hd d rfl;by_cases h:d=t
  .subst h;simp[Act.put,hN,hd]
  .simp[Act.put,h,Array.getElem?_setIfInBounds_ne h]
theorem T_(a:Act)(dst:Option Nat)(v:Value):(a.put dst v).defers=a.defers:=by cases dst<;>rfl
theorem U0(a:Act)(dst:Option Nat)(v:Value):(a.put dst v).tmps.size=a.tmps.size:=by cases dst<;>simp[Act.put]
theorem M3(sl:Nat->SV)(dst:Option Nat)(s:SV)(t:Nat):K4 sl dst s t=if dst=some t then s else sl t:=by
 cases dst with
 |none=>simp[K4]
 |some d=>
  simp only[K4];by_cases h:t=d
  .subst h;simp[CH]
  .have:Nat.beq t d=false:=by rw[<-BO];exact λhh=>h (A2 hh)
   rw[this];have h':¬d=t:=λe=>h e.symm;simp[h']
theorem AAe{all:Array Oper}{o:Oper}{sl:Nat->SV}{a:Act}{p:Nat×Bool}{g:Bool}(h:NH all sl o=some ([p],g))
 (hs:∀t∈IX all o,SlotOK P w G a (sl t) (a.tmps.getD t undef))(hne:∀t∈IX all o,∀tk g s,sl t=.grd tk g s->tk≠[])(hg:g=true):holds a [p]:=by
 unfold NH at h;split at h
 .cases h
 .rename_i j b hgd;split at h
  .rename_i q hp;split at h
   .rename_i t ht;have hsl:IX all o=[t]:=by simp[IX,hgd,hp,ht]
    have hst:=hs t (by rw[hsl];simp);split at h
    .rename_i c hc;simp only[AM,D9]at h;obtain⟨h1,h2⟩:=h;rw[hc]at hst;have hv:=SR.bool hst;have h1:p=(t,b):=(A5.1 h1).symm;subst h1;refine OF.2 ⟨?_,OG a⟩;rw[hv];rw[hg]at h2;cases b<;>cases hcc:c<;>rw[hcc]at h2<;>first|rfl|cases h2
    .rename_i tk' g' c hc;simp only[AM,D9]at h;have:=hne t (by rw[hsl];simp) _ _ _ hc;cases tk' with
     |nil=>exact absurd rfl this
     |cons _ _=>cases h.1
    .cases h
   .cases h
  .cases h
theorem AAf{tk:List (Nat×Bool)}{u:Upd}(h:calm tk u=true)(ht:tk≠[]):u.wr=[]:=by
 cases tk with
 |nil=>exact absurd rfl ht
 |cons p r=>
  simp only[calm]at h;split at h
  .assumption
  .cases h
theorem v_{a:Act}{N:Nat}(hN:a.tmps.size=N){dst:Option Nat}(hd:∀d,dst=some d->d<N){v:Value}{tk:List (Nat×Bool)}(h:∀p∈tk,dst≠some p.1):
 holds (a.put dst v) tk<->holds a tk:=by
 unfold holds;constructor
 .intro hh p hp;have:=hh p hp;rw[M2 hN hd,if_neg (h p hp)]at this;exact this
 .intro hh p hp;rw[M2 hN hd,if_neg (h p hp)];exact hh p hp
theorem w4{E:Env}(hE:EnvOK P fr.dr E){all:Array Oper}{i N:Nat}{o:Oper}(ho:all[i]?=some o){D:Nat->Prop}{sl sl0:Nat->SV}{a:Act}
 (hs:SimF P N fr free D sl σ a w G)(hag:∀t,t∈YI o\/t∈IX all o->sl0 t=sl t)
 (hgd:∀t∈IX all o,D t)(hdst:∀d,o.dst=some d->(d<N/\fr.fx d=none)/\¬D d)
 {tk:List (Nat×Bool)}{g:Bool}(hg:NH all sl0 o=some (tk,g))
 (hσ:∀k ob,σ' k=some ob->σ k=some ob)(hfree:∀k,self<=k->k<self+8->free k)
 {r:OpRes} (hr:QK E (λx=>(GF sl0 x).strip tk)
  (match o.op with| .pick c _ _=>λx=>(GF sl0 x).strip (NI c true tk)|_=>λx=>(GF sl0 x).strip tk)
  (match o.op with| .pick c _ _=>λx=>(GF sl0 x).strip (NI c false tk)|_=>λx=>(GF sl0 x).strip tk) σ' self o=some r)
 {u:Upd}(hu:g=true->Gives r u)(hu':tk=[]->Gives r u)(hcalm:calm tk u=true\/((∃p,tk=[p])/\(g=false->u.wr=[]))){K:Act->World->Prop}{Q:Exit->Act->World->Prop}
 (hK:∀a' w' G',GLe w G w' G'->SimF P N fr (HO free self) D (K4 sl o.dst (NJ tk g u.sv)) (EK σ u.wr) a' w' G'->K a' w'):
 wpOp P all Q i K a w:=by
 have hgs:∀t∈IX all o,SlotOK P w G a (sl0 t) (a.tmps.getD t undef):=λt ht=>by rw[hag t (.inr ht)];exact hs.slots t
 obtain⟨g1,g2,g3,g4⟩:=AAd hg hgs
 have htk:∀p∈tk,D p.1:=by
  intro p hp;rcases g4 p hp with h|⟨t,ht,tk',g',s',h1,h2⟩
  .exact hgd _ h
  .rw[hag t (.inr ht)]at h1;exact(hs.toks t tk' g' s' h1).2 p h2
 have hdN:∀d,o.dst=some d->d<N:=λd hd=>(hdst d hd).1.1;have hnd:∀{tk':List (Nat×Bool)},(∀p∈tk',D p.1)->∀p∈tk',o.dst≠some p.1:=λh p hp e=>(hdst _ e).2 (h p hp)
 have fin:∀(v:Value) (w':World) (G':Gh),GLe w G w' G'->MemS P fr (HO free self) (EK σ u.wr) w' G'->(fr.dr=true->w.drawn<=w'.drawn)->
  ((holds a tk->g=true/\SR P w' G' u.sv v)/\(¬holds a tk->v=Go.undef))->K (a.put o.dst v) w':=by
  intro v w' G' hle hm hdr hv;refine hK _ w' G' hle ⟨λt=>?_,?_,?_,?_,?_,hm,λh=>AU (hs.drawn h) (hdr h)⟩
  .rw[M3,M2 hs.size hdN];by_cases h:o.dst=some t
   .rw[if_pos h,if_pos h];cases tk with
    |nil=>exact(hv.1 (OG a)).2.slotOK
    |cons p r=>
     have:=v_ (v:=v) hs.size hdN (hnd htk);exact⟨λhh=>hv.1 (this.1 hh),λhh=>hv.2 λhk=>hh (this.2 hk)⟩
   .rw[if_neg h,if_neg h];refine(hs.slots t).mono hle λtk' g' s' h'=>?_;exact v_ hs.size hdN (hnd (hs.toks t tk' g' s' h').2)
  .rw[T_];exact hs.defs
  .rw[U0];exact hs.size
  .intro t v' h;rw[M2 hs.size hdN,if_neg (λe=>by have:=(hdst t e).1.2;rw[h]at this;cases this)];exact hs.fix t v' h
  .intro t tk' g' s' h;rw[M3]at h;by_cases hd:o.dst=some t
   .rw[if_pos hd]at h;cases htk':tk with
    |nil=>
     rw[htk']at h hv;have h:u.sv=.grd tk' g' s':=h;have:=(hv.1 (OG a)).2;rw[h]at this;exact this.not_grd.elim
    |cons q r=>
     rw[htk']at h;have h:SV.grd (q::r) g u.sv=.grd tk' g' s':=h;injection h with h1 _ _;exact⟨by rw[<-h1];simp,λp hp=>htk p (by rw[htk',h1];exact hp)⟩
   .rw[if_neg hd]at h;exact hs.toks t tk' g' s' h
 unfold wpOp;simp only[ho];by_cases hw:Region.wanted o (yielded all a.tmps)=true
 .rw[if_pos hw];have hh:=g1.1 hw;have hgt:=g2 hh;left
  have hop:∀{tk':List (Nat×Bool)},holds a tk'->∀x∈o.op.operands,SR P w G ((GF sl0 x).strip tk') (a.eval x):=by
   intro tk' hh' x hx;refine vZ (λt ht=>?_) hh';subst ht;rw[hag t (.inl (AAa hx))];exact hs.slots t
  have hdone:Done P fr.dr o a w (Res P fr free self σ w G u):=by
   refine AAY hE hs.mem hσ hfree (λ_ x hx=>hop hh x hx) ?_ hr (hu hgt);intro c x y hpk;refine⟨hop hh c (by simp[hpk,Op.operands]),λhc=>?_,λhc=>?_⟩
   .simp only[hpk];refine hop ?_ x (by simp[hpk,Op.operands]);cases c with
    |tmp t=>exact OF.2 ⟨hc,hh⟩
    |_=>exact hh
   .simp only[hpk];refine hop ?_ y (by simp[hpk,Op.operands]);cases c with
    |tmp t=>exact OF.2 ⟨hc,hh⟩
    |_=>exact hh
  refine hdone Q K λv w' hres hdr=>?_;obtain⟨G',h1,h2,h3⟩:=hres;exact fin v w' G' h1 h2 hdr ⟨λ_=>⟨hgt,h3⟩,λhn=>absurd hh hn⟩
 .rw[if_neg hw];have hnh:¬holds a tk:=λh=>hw (g1.2 h);have hne:tk≠[]:=λe=>by subst e;exact hnh (OG a)
  have hwr:u.wr=[]:=by
   rcases hcalm with hcalm|⟨⟨p,hp⟩,hcalm⟩
   .exact AAf hcalm hne
   .refine hcalm ?_;cases hgb:g with
    |false=>rfl
    |true=>
     subst hp;exact absurd (AAe hg hgs (λt ht tk' g' s' h=>(hs.toks t tk' g' s' ((hag t (.inr ht))▸h)).1) hgb) hnh
  refine fin Go.undef w G (GLe.refl _ _) ?_ (λ_=>AB _) ⟨λh=>absurd h hnh,λ_=>rfl⟩;rw[hwr];exact hs.mem.shrink λ_ h=>h.1
theorem SimF.draws{N:Nat}{D:Nat->Prop}{sl:Nat->SV}{a:Act}(h:SimF P N fr free D sl σ a w G)(n:Nat)(hn:w.drawn<=n):SimF P N fr free D sl σ a {w with drawn:=n} G:=by
 have hle:GLe w G {w with drawn:=n} G:=⟨⟨λ_ _ h=>⟨h,rfl⟩,λ_ h=>⟨h,rfl⟩⟩,λ_ _ _ h=>h,λ_ _ h=>h,λ_ _ h=>h⟩;refine⟨λt=>(h.slots t).mono hle λ_ _ _ _=>Iff.rfl,h.defs,h.size,h.fix,h.toks,⟨λk o ho=>?_,h.mem.sep,?_,h.mem.fresh⟩,λhd=>AU (h.drawn hd) hn⟩
 .exact(h.mem.objs k o ho).keep hle λb _=>⟨rfl,λ_ h=>h,λh=>h⟩
 .exact ⟨⟨λb o hb=>h.mem.after.ext.cell b o hb,λb hb=>h.mem.after.ext.obj b hb⟩,h.mem.after.heap,h.mem.after.size,h.mem.after.newC,h.mem.after.newO,h.mem.after.inC,h.mem.after.inO,
   h.mem.after.os,h.mem.after.tape,h.mem.after.output,h.mem.after.pins.ext hle.ext⟩
def Calm(draw:Bool)(tk:List (Nat×Bool))(g:Bool)(u:Upd):Prop:=calm tk u=true\/(draw=false/\(∃p,tk=[p])/\(g=false->u.wr=[]))
theorem Calm.draw{tk:List (Nat×Bool)}{g:Bool}{u:Upd}(h:Calm true tk g u):calm tk u=true:=h.elim id λh=>by cases h.1
theorem w5{tk:List (Nat×Bool)}(h:QN tk=true):∃p,tk=[p]:=by
 unfold QN at h;split at h
 .exact⟨_,rfl⟩
 .cases h
theorem AAg{Ω:Type}{draw:Bool}{tk:List (Nat×Bool)}{g:Bool}{r:OpRes}{K:Upd->Option Ω}{ω:Ω}(h:gT draw tk g r K=some ω):
 ∃u,(g=true->Gives r u)/\(tk=[]->Gives r u)/\Calm draw tk g u/\K u=some ω:=by
 unfold gT at h;split at h
 .rename_i u;cases hc:calm tk u with
  |false=>
   rw[hc]at h;simp only[AC]at h;cases hd:(!draw&&QN tk)with
   |false=>rw[hd]at h;cases h
   |true=>
    rw[hd]at h;simp only[A4,BI]at hd;obtain⟨hd,ho⟩:=hd;have hone:=w5 ho;simp only[AA]at h;cases g with
    |true=>exact⟨u,λ_=>.pure u,λ_=>.pure u,.inr ⟨hd,hone,λh=>oe⟩,h⟩
    |false=>exact⟨⟨u.sv,[]⟩,λh=>(oe),λh=>(by obtain⟨p,hp⟩:=hone;rw[h]at hp;cases hp),.inr ⟨hd,hone,λ_=>rfl⟩,h⟩
  |true=>rw[hc]at h;exact⟨u,λ_=>.pure u,λ_=>.pure u,.inl hc,h⟩
 .rename_i α m d f;obtain⟨x,h1,h2⟩:=BT.1 h;cases hc:calm tk (f x)with
  |false=>
   rw[hc]at h2;simp only[AC]at h2;cases hd:(!draw&&QN tk)with
   |false=>rw[hd]at h2;cases h2
   |true=>
    rw[hd]at h2;simp only[A4,BI]at hd;obtain⟨hd,ho⟩:=hd;have hone:=w5 ho;simp only[AA]at h2;cases g with
    |true=>
     refine⟨f x,λ_=>.may ?_,λht=>(by obtain⟨p,hp⟩:=hone;rw[ht]at hp;cases hp),.inr ⟨hd,hone,λh=>oe⟩,h2⟩;obtain⟨p,rfl⟩:=hone;exact h1
    |false=>exact⟨⟨(f x).sv,[]⟩,λh=>(oe),λh=>(by obtain⟨p,hp⟩:=hone;rw[h]at hp;cases hp),.inr ⟨hd,hone,λ_=>rfl⟩,h2⟩
  |true=>
   rw[hc]at h2;refine⟨f x,λhg=>.may ?_,λht=>.may ?_,.inl hc,h2⟩
   .subst hg;cases tk with
    |nil=>exact h1
    |cons p r=>exact h1
   .subst ht;exact h1
structure GuardsOK(all:Array Oper):Prop where
 uniq:J9 all=true->∀(i j:Nat) (o p:Oper) (d:Nat),i<j->all[i]?=some o->all[j]?=some p->o.dst=some d->p.dst≠some d
 back:J9 all=true->∀(i:Nat) (o:Oper) (j:Nat) (b:Bool),all[i]?=some o->o.guard=some (j,b)->j<i
theorem i_{all:Array Oper}{i:Nat}{o:Oper}{j:Nat}{b:Bool}(ho:all[i]?=some o)(hg:o.guard=some (j,b)):J9 all=true:=by
 unfold J9;rw[List.any_eq_true];exact⟨o,by simpa using Array.mem_of_getElem? ho,by simp[hg]⟩
def DS(all:Array Oper)(S:Nat->Bool):Nat->Prop:=λt=>J9 all=true/\∃j o,S j=true/\all[j]?=some o/\o.dst=some t
theorem DS.mono{all:Array Oper}{S S':Nat->Bool}{t:Nat}(h:DS all S t)(hs:∀j,S j=true->S' j=true):DS all S' t:=
 ⟨h.1,let ⟨j,o,h1,h2,h3⟩:=h.2;⟨j,o,hs j h1,h2,h3⟩⟩
theorem w6{all:Array Oper}{o:Oper}{t:Nat}(h:t∈IX all o):∃j b p,o.guard=some (j,b)/\all[j]?=some p/\p.dst=some t:=by
 unfold IX at h;split at h
 .rename_i j b hg;split at h
  .rename_i p hp;exact⟨j,b,p,hg,hp,by simpa using h⟩
  .cases h
 .cases h
theorem SimF.weaken{N:Nat}{D D':Nat->Prop}{sl:Nat->SV}{a:Act}(h:SimF P N fr free D sl σ a w G)(hf:∀k,free' k->free k)(hD:∀t,D t->D' t):SimF P N fr free' D' sl σ a w G:=
 ⟨h.slots,h.defs,h.size,h.fix,λt tk g s hh=>⟨(h.toks t tk g s hh).1,λp hp=>hD _ ((h.toks t tk g s hh).2 p hp)⟩,h.mem.shrink hf,h.drawn⟩
theorem w7{Ω:Type}{E:Env}{all:Array Oper}{draw:Bool}{n0 i:Nat}{o:Oper}{rest:List Oper}{st:St}{cl:List (List Nat×List Nat)}{K:St->List (List Nat×List Nat)->Option Ω}{ω:Ω}
 (h:MK E all draw n0 (o::rest) i st cl K=some ω):
 ∃tk g r u,NH all st.slots o=some (tk,g)/\
  QK E (λx=>(GF st.slots x).strip tk)
   (match o.op with| .pick c _ _=>λx=>(GF st.slots x).strip (NI c true tk)|_=>λx=>(GF st.slots x).strip tk)
   (match o.op with| .pick c _ _=>λx=>(GF st.slots x).strip (NI c false tk)|_=>λx=>(GF st.slots x).strip tk)
   (seen all draw n0 i (QL (λx=>(GF st.slots x).strip tk) st.sto o.op) st.sto) (n0+8*i) o=some r/\
  (g=true->Gives r u)/\(tk=[]->Gives r u)/\Calm draw tk g u/\
  O8 (seen all draw n0 i (QL (λx=>(GF st.slots x).strip tk) st.sto o.op) st.sto) (n0+8*i) u=true/\
  MK E all draw n0 rest (i+1) {slots:=K4 st.slots o.dst (NJ tk g u.sv),sto:=EK st.sto u.wr,n:=st.n}
   ((u.far (n0+8*i),QL (λx=>(GF st.slots x).strip tk) st.sto o.op)::cl) K=some ω:=by
 simp only[MK]at h;split at h
 .cases h
 .rename_i tk g hg;split at h
  .cases h
  .rename_i r hr;obtain⟨u,h1,h2,h3,h4⟩:=AAg h;cases hw:O8 (seen all draw n0 i (QL (λx=>(GF st.slots x).strip tk) st.sto o.op) st.sto) (n0+8*i) u with
   |false=>rw[hw]at h4;cases h4
   |true=>
    rw[hw]at h4;exact⟨tk,g,r,u,hg,hr,h1,h2,h3,hw,h4⟩
theorem w8{Ω:Type}{E:Env}(hE:EnvOK P fr.dr E){N n0:Nat}{all:Array Oper}(hgo:GuardsOK all)(hdst:∀(j:Nat) o d,all[j]?=some o->o.dst=some d->d<N/\fr.fx d=none)
 {K:St->List (List Nat×List Nat)->Option Ω}{ω:Ω}{Q:Exit->Act->World->Prop}:
 ∀(ops:List Oper) (i:Nat) (st:St) (cl:List (List Nat×List Nat)) (a:Act) (w:World) (G:Gh),MK E all false n0 ops i st cl K=some ω->all.toList.drop i=ops->i+ops.length=all.size->
  SimF P N fr (λk=>n0+8*i<=k) (DS all (λj=>decide (j<i))) st.slots st.sto a w G->
  (∀st' cl' a' w' G',SimF P N fr (λk=>n0+8*all.size<=k) (DS all (λj=>decide (j<all.size))) st'.slots st'.sto a' w' G'->st'.n=st.n->K st' cl'=some ω->Q .normal a' w')->
  wpOps P all Q (List.range' i ops.length) a w:=by
 intro ops;induction ops with
 |nil=>
  intro i st cl a w G h hdr hl hs hQ;simp only[AW,CI]at hl;subst hl;exact hQ st cl a w G hs rfl h
 |cons o rest ih=>
  intro i st cl a w G h hdr hl hs hQ;obtain⟨tk,g,r,u,h1,h2,h3,h4,h5,h6,h7⟩:=w7 h
  have ho:all[i]?=some o:=by
   have:=congrArg List.head? hdr;rw[List.head?_drop]at this;simpa using this
  simp only[AF,List.range'_succ];rw[wpOps_cons];refine w4 hE ho (self:=n0+8*i) hs (λt _=>rfl) ?_ ?_ h1 ?_ (λk hk _=>hk) h2 h3 h4 (h5.imp id λh=>h.2) ?_
  .intro t ht;obtain⟨j,b,p,hg,hp,hd⟩:=w6 ht;have hh:=i_ ho hg;exact⟨hh,j,p,by simpa using hgo.back hh i o j b ho hg,hp,hd⟩
  .intro d hd;refine⟨hdst i o d ho hd,λhD=>?_⟩;obtain⟨hh,j,p,hj,hp,hpd⟩:=hD;exact hgo.uniq hh j i p o d om hp ho hpd hd
  .intro k ob hk;exact hk
  .intro a' w' G' _ hs';refine ih (i+1) _ _ a' w' G' h7 ?_ (by simp only[AF]at hl;omega) ?_ (λst' cl' a' w' G' hs' hn hK=>hQ st' cl' a' w' G' hs' hn hK)
   .have:=congrArg List.tail hdr;simpa[List.tail_drop]using this
   .refine hs'.weaken (λk hk=>⟨o5,?_⟩) λt ht=>ht.mono λj hj=>by simp only[AX]at hj ⊢;omega
    simp only[IH,DH];right;rw[<-BO,BW];omega
structure Info where
 tk:List (Nat×Bool)
 g:Bool
 u:Upd
 c:List Nat×List Nat
def FX(all:Array Oper)(L:Nat->Info)(S:Nat->Bool)(sl0:Nat->SV):Nat->Nat->SV
 |0=>sl0
 |i+1=>bif S i then K4 (FX all L S sl0 i) (all.getD i default).dst (NJ (L i).tk (L i).g (L i).u.sv)else FX all L S sl0 i
def FZ(L:Nat->Info)(S:Nat->Bool)(σ0:SSo):Nat->SSo
 |0=>σ0
 |i+1=>bif S i then EK (FZ L S σ0 i) (L i).u.wr else FZ L S σ0 i
def KU(l:List (Nat×Option Obj)):List Nat:=l.map (·.1)
theorem j0{σ:SSo}:∀{l:List (Nat×Option Obj)} {k:Nat},k ∉ KU l->EK σ l k=σ k:=by
 intro l;induction l with
 |nil=>intro k _;rfl
 |cons p r ih=>
  intro k h;obtain⟨j,o⟩:=p;simp only[KU,D2,A_,not_or]at h;simp only[EK];rw[show Nat.beq k j=false by rw[<-BO];exact λhh=>h.1 (A2 hh)];exact ih h.2
theorem w9{σ σ':SSo}:∀{l:List (Nat×Option Obj)} {k:Nat},k∈KU l->EK σ l k=EK σ' l k:=by
 intro l;induction l with
 |nil=>intro k h;cases h
 |cons p r ih=>
  intro k h;obtain⟨j,o⟩:=p;simp only[EK];cases hb:Nat.beq k j with
  |true=>rfl
  |false=>
   simp only[AC];refine ih ?_;simp only[KU,D2,A_]at h;rcases h with rfl|h
   .rw[CH]at hb;cases hb
   .exact h
theorem YJ{all:Array Oper}{L:Nat→Info}{S S':Nat→Bool}{sl0:Nat→SV}{t:Nat}:∀{n:Nat},(∀j,j<n→(all.getD j default).dst=some t→S j=S' j)→FX all L S sl0 n t=FX all L S' sl0 n t:=by
 intro n;induction n with
 |zero=>intro _;rfl
 |succ n ih=>
  intro h;have ih:=ih λj hj=>h j o5
  have key:∀S,FX all L S sl0 (n+1) t=if S n=true/\(all.getD n default).dst=some t then NJ (L n).tk (L n).g (L n).u.sv else FX all L S sl0 n t:=by
   intro S;simp only[FX];cases hS:S n with
   |false=>simp
   |true=>simp only[AA,M3,true_and]
  rw[key,key,ih];by_cases hd:(all.getD n default).dst=some t
  .rw[h n o5 hd]
  .rw[if_neg (λh=>hd h.2),if_neg (λh=>hd h.2)]
theorem YK{L:Nat->Info}{S S':Nat->Bool}{σ0:SSo}{k:Nat}:∀{n:Nat},(∀j,j<n->k∈KU (L j).u.wr->S j=S' j)->FZ L S σ0 n k=FZ L S' σ0 n k:=by
 intro n;induction n with
 |zero=>intro _;rfl
 |succ n ih=>
  intro h;have ih:=ih λj hj=>h j o5;simp only[FZ];by_cases hk:k∈KU (L n).u.wr
  .rw[h n o5 hk];cases S' n with
   |true=>exact w9 hk
   |false=>exact ih
  .have key:∀S,(bif S n then EK (FZ L S σ0 n) (L n).u.wr else FZ L S σ0 n) k=FZ L S σ0 n k:=by
    intro S;cases S n with
    |true=>exact j0 hk
    |false=>rfl
   rw[key,key,ih]
theorem wA{all:Array Oper}{L:Nat->Info}{S:Nat->Bool}{sl0:Nat->SV}{i:Nat}:∀{n:Nat},i<=n->(∀j,j<i->S j=true)->(∀j,i<=j->j<n->S j=false)->FX all L S sl0 n=FX all L (λ_=>true) sl0 i:=by
 intro n;induction n with
 | zero => intro h _ _; have : i = 0 := by omega
           subst this;rfl
 |succ n ih=>
  intro hi h1 h2;by_cases h:i=n+1
  .subst h
   have:FX all L S sl0 n=FX all L (λ_=>true) sl0 n:=by
    funext t;exact YJ λj hj _=>by rw[h1 j o5]
   simp only[FX,h1 n o5,this]
  .simp only[FX,h2 n o5 o5,AC];exact ih o5 h1 (λj hj hn=>h2 j hj o5)
theorem wB{L:Nat->Info}{S:Nat->Bool}{σ0:SSo}{i:Nat}:∀{n:Nat},i<=n->(∀j,j<i->S j=true)->(∀j,i<=j->j<n->S j=false)->FZ L S σ0 n=FZ L (λ_=>true) σ0 i:=by
 intro n;induction n with
 | zero => intro h _ _; have : i = 0 := by omega
           subst this;rfl
 |succ n ih=>
  intro hi h1 h2;by_cases h:i=n+1
  .subst h
   have:FZ L S σ0 n=FZ L (λ_=>true) σ0 n:=by
    funext t;exact YK λj hj _=>by rw[h1 j o5]
   simp only[FZ,h1 n o5,this]
  .simp only[FZ,h2 n o5 o5,AC];exact ih o5 h1 (λj hj hn=>h2 j hj o5)
theorem AAh{all:Array Oper}{L:Nat->Info}{S:Nat->Bool}{sl0:Nat->SV}{t i:Nat}(hi:S i=true)(hd:(all.getD i default).dst=some t):
 ∀{n:Nat},i<n->(∀j,i<j->j<n->(all.getD j default).dst=some t->S j=false)->FX all L S sl0 n t=NJ (L i).tk (L i).g (L i).u.sv:=by
 intro n;induction n with
 |zero=>intro h;omega
 |succ n ih=>
  intro hn h;simp only[FX];by_cases e:i=n
  .subst e;rw[hi];simp only[AA,M3,hd,if_true]
  .have ih:=ih o5 λj h1 h2=>h j h1 o5;by_cases hd':(all.getD n default).dst=some t
   .rw[h n o5 o5 hd'];exact ih
   .cases S n with
    |true=>simp only[AA,M3,hd',CK];exact ih
    |false=>exact ih
theorem AAi{L:Nat->Info}{S:Nat->Bool}{σ0 σ:SSo}{k i:Nat}(hi:S i=true)(hd:k∈KU (L i).u.wr):
 ∀{n:Nat},i<n->(∀j,i<j->j<n->k∈KU (L j).u.wr->S j=false)->FZ L S σ0 n k=EK σ (L i).u.wr k:=by
 intro n;induction n with
 |zero=>intro h;omega
 |succ n ih=>
  intro hn h;simp only[FZ];by_cases e:i=n
  .subst e;rw[hi];exact w9 hd
  .have ih:=ih o5 λj h1 h2=>h j h1 o5;by_cases hd':k∈KU (L n).u.wr
   .rw[h n o5 o5 hd'];exact ih
   .cases S n with
    |true=>exact(j0 hd').trans ih
    |false=>exact ih
theorem wC{all:Array Oper}{L L':Nat->Info}{S:Nat->Bool}{sl0:Nat->SV}:∀{n:Nat},(∀j,j<n->L j=L' j)->FX all L S sl0 n=FX all L' S sl0 n:=by
 intro n;induction n with
 |zero=>intro _;rfl
 |succ n ih=>intro h;simp only[FX,ih λj hj=>h j o5,h n o5]
theorem wD{L L':Nat->Info}{S:Nat->Bool}{σ0:SSo}:∀{n:Nat},(∀j,j<n->L j=L' j)->FZ L S σ0 n=FZ L' S σ0 n:=by
 intro n;induction n with
 |zero=>intro _;rfl
 |succ n ih=>intro h;simp only[FZ,ih λj hj=>h j o5,h n o5]
structure Fact(E:Env)(all:Array Oper)(n0:Nat)(L:Nat->Info)(sl0:Nat->SV)(σ0:SSo)(i:Nat)(o:Oper)(r:OpRes):Prop where
 op:all[i]?=some o
 grd:NH all (FX all L (λ_=>true) sl0 i) o=some ((L i).tk,(L i).g)
 val:QK E (λx=>(GF (FX all L (λ_=>true) sl0 i) x).strip (L i).tk)
  (match o.op with| .pick c _ _=>λx=>(GF (FX all L (λ_=>true) sl0 i) x).strip (NI c true (L i).tk)|_=>λx=>(GF (FX all L (λ_=>true) sl0 i) x).strip (L i).tk)
  (match o.op with| .pick c _ _=>λx=>(GF (FX all L (λ_=>true) sl0 i) x).strip (NI c false (L i).tk)|_=>λx=>(GF (FX all L (λ_=>true) sl0 i) x).strip (L i).tk)
  (seen all true n0 i (L i).c.2 (FZ L (λ_=>true) σ0 i)) (n0+8*i) o=some r
 gives:(L i).g=true->Gives r (L i).u
 gives':(L i).tk=[]->Gives r (L i).u
 calm:calm (L i).tk (L i).u=true
 wr:O8 (seen all true n0 i (L i).c.2 (FZ L (λ_=>true) σ0 i)) (n0+8*i) (L i).u=true
 cls:(L i).c.1=(L i).u.far (n0+8*i)
theorem Fact.congr{E:Env}{all:Array Oper}{n0:Nat}{L L':Nat->Info}{sl0:Nat->SV}{σ0:SSo}{i:Nat}{o:Oper}{r:OpRes}
 (h:Fact E all n0 L sl0 σ0 i o r)(hl:∀j,j<=i->L j=L' j):Fact E all n0 L' sl0 σ0 i o r:=by
 have e1:=wC (all:=all) (S:=λ_=>true) (sl0:=sl0) (n:=i) λj hj=>hl j o5;have e2:=wD (S:=λ_=>true) (σ0:=σ0) (n:=i) λj hj=>hl j o5;have e3:=hl i (AB _)
 exact ⟨h.op,by rw [<- e1,<- e3]; exact h.grd,by rw [<- e1,<- e2,<- e3]; exact h.val,by rw [<- e3]; exact h.gives,by rw [<- e3]; exact h.gives',by rw [<- e3]; exact h.calm,
  by rw[<-e2,<-e3];exact h.wr,by rw[<-e3];exact h.cls⟩
theorem AAj{Ω:Type}{E:Env}{n0:Nat}{all:Array Oper}{K:St->List (List Nat×List Nat)->Option Ω}{ω:Ω}{sl0:Nat->SV}{σ0:SSo}:
 ∀(ops:List Oper) (i:Nat) (st:St) (L:Nat->Info),MK E all true n0 ops i st (((List.range i).map λj=>(L j).c).reverse) K=some ω->all.toList.drop i=ops->i+ops.length=all.size->
  st.slots=FX all L (λ_=>true) sl0 i->st.sto=FZ L (λ_=>true) σ0 i->(∀j,j<i->∃o r,Fact E all n0 L sl0 σ0 j o r)->
  ∃L':Nat->Info,(∀j,j<all.size->∃o r,Fact E all n0 L' sl0 σ0 j o r)/\
   K {slots:=FX all L' (λ_=>true) sl0 all.size,sto:=FZ L' (λ_=>true) σ0 all.size,n:=st.n} (((List.range all.size).map λj=>(L' j).c).reverse)=some ω:=by
 intro ops;induction ops with
 |nil=>
  intro i st L h hdr hl h1 h2 h3;simp only[AW,CI]at hl;subst hl;refine⟨L,h3,?_⟩;rw[<-h1,<-h2];exact h
 |cons o rest ih=>
  intro i st L h hdr hl h1 h2 h3;obtain⟨tk,g,r,u,k1,k2,k3,k4,k5',k6,k7⟩:=w7 h;have k5:=k5'.draw
  have ho:all[i]?=some o:=by
   have:=congrArg List.head? hdr;rw[List.head?_drop]at this;simpa using this
  let c:List Nat×List Nat:=(u.far (n0+8*i),QL (λx=>(GF st.slots x).strip tk) st.sto o.op)
  let L':Nat->Info:=λj=>if j=i then⟨tk,g,u,c⟩else L j
  have hL:∀j,j<i->L j=L' j:=λj hj=>by simp[L',Nat.ne_of_lt hj]
  have hLi:L' i=⟨tk,g,u,c⟩:=by simp[L']
  have e1:=wC (all:=all) (S:=λ_=>true) (sl0:=sl0) (n:=i) hL;have e2:=wD (S:=λ_=>true) (σ0:=σ0) (n:=i) hL;have s1:st.slots=FX all L' (λ_=>true) sl0 i:=h1.trans e1;have s2:st.sto=FZ L' (λ_=>true) σ0 i:=h2.trans e2
  have hget:all.getD i default=o:=by
   rw[BL,ho];rfl
  have:=ih (i+1) {slots:=K4 st.slots o.dst (NJ tk g u.sv),sto:=EK st.sto u.wr,n:=st.n} L' ?_ ?_ ?_ ?_ ?_ ?_
  .exact this
  .have:((List.range (i+1)).map λj=>(L' j).c).reverse=c::((List.range i).map λj=>(L j).c).reverse:=by
    rw[List.range_succ,D8,List.reverse_append];simp only[D2,List.map_nil,List.reverse_cons,List.reverse_nil,List.nil_append,List.singleton_append,hLi,List.cons.injEq,true_and]
    congr 1
    exact List.map_congr_left λj hj=>by rw[hL j (D5.1 hj)]
   rw[this];exact k7
  .have:=congrArg List.tail hdr;simpa[List.tail_drop]using this
  .simp only[AF]at hl;omega
  .simp only[FX,hLi,AA,hget,<-s1]
  .simp only[FZ,hLi,AA,<-s2]
  .intro j hj;by_cases e:j=i
   .subst e;refine⟨o,r,ho,?_,?_,?_,?_,?_,?_,?_⟩
    .rw[hLi,<-s1];exact k1
    .rw[hLi,<-s1,<-s2];exact k2
    .rw[hLi];exact k3
    .rw[hLi];exact k4
    .rw[hLi];exact k5
    .rw[hLi,<-s2];exact k6
    .rw[hLi]
   .obtain⟨o',r',hf⟩:=h3 j o5;exact⟨o',r',hf.congr λj' hj'=>hL j' o5⟩
end
section
variable{all:Array Oper}
def U1(acc:Array Nat)(l:List Edge)(s:Nat):Nat:=l.foldl (λs e=>if Region.binds .any e then s|||2 ^ e.on|||acc.getD e.on 0 else s) s
theorem AAk{acc:Array Nat}{i:Nat}:∀{l:List Edge} {s:Nat},(U1 acc l s).testBit i=true->
 s.testBit i=true\/∃e∈l,Region.binds .any e=true/\(e.on=i\/(acc.getD e.on 0).testBit i=true):=by
 intro l;induction l with
 |nil=>intro s h;exact .inl h
 |cons e r ih=>
  intro s h;simp only[U1,List.foldl_cons]at h;rcases ih h with h|⟨e',h1,h2⟩
  .by_cases hb:Region.binds .any e=true
   .rw[if_pos hb]at h;simp only[Nat.testBit_or,BH,Nat.testBit_two_pow,AX]at h;rcases h with(h|h)|h
    .exact .inl h
    .exact .inr ⟨e,AI,hb,.inl h⟩
    .exact .inr ⟨e,AI,hb,.inr h⟩
   .rw[if_neg hb]at h;exact .inl h
  .exact .inr ⟨e',AD _ h1,h2⟩
def K8(acc:Array Nat)(o:Oper):Array Nat:=acc.push (U1 acc o.after.toList 0)
theorem wE(all:Array Oper):Region.before all=all.toList.foldl K8 #[]:=by
 unfold Region.before;rw[<-Array.foldl_toList]
 congr 1
 funext acc o;simp only[K8,U1,Array.foldl_toList]
theorem AAl:∀(l:List Oper) (acc:Array Nat),(l.foldl K8 acc).size=acc.size+l.length/\(∀k,k<acc.size->(l.foldl K8 acc).getD k 0=acc.getD k 0)/\
 ∀(j:Nat) (o:Oper),l[j]?=some o->∃acc':Array Nat,(∀k,k<acc.size+j->acc'.getD k 0=(l.foldl K8 acc).getD k 0)/\(l.foldl K8 acc).getD (acc.size+j) 0=U1 acc' o.after.toList 0:=by
 intro l;induction l with
 |nil=>intro acc;exact⟨rfl,λ_ _=>rfl,λj o h=>oe⟩
 |cons o l ih=>
  intro acc;obtain⟨h1,h2,h3⟩:=ih (K8 acc o);have hsz:(K8 acc o).size=acc.size+1:=by simp[K8]
  have hlow:∀k,k<acc.size->(K8 acc o).getD k 0=acc.getD k 0:=by
   intro k hk;simp[K8,BL,Array.getElem?_push,Nat.ne_of_lt hk]
  simp only[List.foldl_cons];refine⟨by rw[h1,hsz,AF];omega,λk hk=>by rw[h2 k o5,hlow k hk],λj p hj=>?_⟩;cases j with
  |zero=>
   have:o=p:=om
   subst this;refine⟨acc,λk hk=>by rw[h2 k o5,hlow k o5],?_⟩;rw[h2 _ o5];simp[K8,BL]
  |succ j=>
   obtain⟨acc',k1,k2⟩:=h3 j p om;refine⟨acc',λk hk=>k1 k o5,?_⟩;rw[show acc.size+(j+1)=(K8 acc o).size+j by omega];exact k2
def j5(all:Array Oper):Prop:=∀(i:Nat) o,all[i]?=some o->∀e∈o.after,Region.binds .any e=true->e.on<i
def bits(all:Array Oper)(i:Nat):Nat:=(Region.before all).getD i 0
theorem AAm(hb:j5 all){j i:Nat}{o:Oper}(ho:all[j]?=some o)(h:(bits all j).testBit i=true):
 ∃e∈o.after,Region.binds .any e=true/\(e.on=i\/(bits all e.on).testBit i=true):=by
 obtain⟨_,_,h3⟩:=AAl all.toList #[];obtain⟨acc',k1,k2⟩:=h3 j o (by simpa using ho);unfold bits at h;rw[wE]at h;simp only[BJ,AW,B8]at k1 k2;rw[k2]at h;rcases AAk h with h|⟨e,h1,h2,h4⟩
 .simp at h
 .have hmem:e∈o.after:=ot
  refine⟨e,hmem,h2,h4.imp id λh=>?_⟩;have hlt:=hb j o ho e hmem h2;rw[k1 e.on hlt]at h;unfold bits;rw[wE];exact h
def wG(all:Array Oper)(S:Nat->Bool):Prop:=∀(j:Nat) o,S j=true->all[j]?=some o->∀e∈o.after,Region.binds .any e=true->S e.on=true
theorem wH(hb:j5 all){S:Nat->Bool}(hd:wG all S):∀(n j:Nat) (o:Oper),j<n->all[j]?=some o->(∀e∈o.after,Region.binds .any e=true->S e.on=true)->
 ∀i,(bits all j).testBit i=true->S i=true/\i<j:=by
 intro n;induction n with
 |zero=>intro j o h;omega
 |succ n ih=>
  intro j o hj ho hall i h;obtain⟨e,he,hbd,h1⟩:=AAm hb ho h;have hlt:=hb j o ho e he hbd;have hS:=hall e he hbd;rcases h1 with h1|h1
  .subst h1;exact⟨hS,hlt⟩
  .have hsz:j<all.size:=(BC.1 ho).1;have hp:all[e.on]?=some all[e.on]:=AY o5;obtain⟨k1,k2⟩:=ih e.on _ o5 hp (λe' he' hb'=>hd e.on _ hS hp e' he' hb') i h1;exact⟨k1,o5⟩
structure OrdOK(all:Array Oper)(c:Nat->List Nat×List Nat):Prop where
 back:j5 all
 slot:∀(i j:Nat) (o p:Oper) (t:Nat),all[i]?=some o->all[j]?=some p->i≠j->o.dst=some t->t∈TD all p->(i<j/\(bits all j).testBit i=true)\/(j<i/\(bits all i).testBit j=true)
 mem:∀(i j:Nat) (o p:Oper),all[i]?=some o->all[j]?=some p->i≠j->∀k,k∈(c i).1->k∈(c j).2->(i<j/\(bits all j).testBit i=true)\/(j<i/\(bits all i).testBit j=true)
theorem wI{i j:Nat}(hne:i≠j)(h:XE (Region.before all) i j=true):(i<j/\(bits all j).testBit i=true)\/(j<i/\(bits all i).testBit j=true):=by
 unfold XE at h;cases hb:Nat.blt i j with
 |true=>
  rw[hb]at h;exact .inl ⟨by rwa[BW]at hb,h⟩
 |false=>
  rw[hb]at h;refine .inr ⟨?_,h⟩;rw[<-BO,BW]at hb;omega
theorem AAn:∀{l m:List Nat},XF l m=true->∀k,k∈l->k ∉ m:=by
 intro l;induction l with
 |nil=>intro m _ k h;cases h
 |cons x l ih=>
  intro m h k hk;simp only[XF,A4,BI]at h;rcases A_.1 hk with rfl|hk
  .intro hm;rw[KT.2 hm]at h;cases h.1
  .exact ih h.2 k hk
theorem AAo{cl:List (List Nat×List Nat)}{c:Nat->List Nat×List Nat}(hc:cl=(List.range all.size).map c)(h:TE all cl=true):OrdOK all c:=by
 unfold TE at h;simp only[A4,BG,D5]at h;obtain⟨h1,h2⟩:=h
 have hget:∀{i:Nat} {o:Oper},all[i]?=some o->i<all.size/\all.getD i default=o:=λ{i o} ho=>
  ⟨(BC.1 ho).1,by rw[BL,ho];rfl⟩
 have hcl:∀i,i<all.size->cl.getD i ([],[])=c i:=by
  intro i hi;rw[hc,AG,AV,CG hi];rfl
 refine⟨λi o ho e he hb=>?_,λi j o p t ho hp hne hd hn=>?_,λi j o p ho hp hne k h3 h4=>?_⟩
 .obtain⟨hi,hg⟩:=hget ho;have:=h1 i hi;rw[hg]at this;have:=this e (by simpa using he);rw[hb]at this;simpa[BW]using this
 .obtain⟨hi,hg⟩:=hget ho;obtain⟨hj,hg'⟩:=hget hp;have:=h2 i hi j hj;rw[hg,hg',hd]at this;have hbeq:Nat.beq i j=false:=by rw[<-BO];exact λhh=>hne (A2 hh)
  rw[hbeq]at this;simp only[CC,A4,BH,BI]at this;rcases this.1 with h|h
  .exact absurd hn (by simpa using h)
  .exact wI hne h
 .obtain⟨hi,hg⟩:=hget ho;obtain⟨hj,hg'⟩:=hget hp;have:=h2 i hi j hj;have hbeq:Nat.beq i j=false:=by rw[<-BO];exact λhh=>hne (A2 hh)
  rw[hbeq,hcl i hi,hcl j hj]at this;simp only[CC,A4,BH,BI]at this;rcases this.2 with h|h
  .exact absurd h4 (AAn h k h3)
  .exact wI hne h
end
section
variable{P:Program}{fr:Fr}{free free':Nat->Prop}{self:Nat}{σ σ':SSo}{w w':World}{G G':Gh}{I:Im}
theorem j6{all:Array Oper}{o:Oper}{t:Nat}(h:t∈YI o\/t∈IX all o\/o.dst=some t):t∈TD all o:=by
 unfold TD;simp only[AL];rcases h with h|h|h
 .exact .inl (.inl h)
 .refine .inl (.inr ?_);unfold IX at h;exact h
 .exact .inr (by rw[h];simp)
theorem wJ{self:Nat}{u:Upd}{k:Nat}(hk:k∈KU u.wr):(self<=k/\k<self+8)\/k∈u.far self:=by
 obtain⟨p,hp,rfl⟩:=C2.1 hk;cases h:IH self p.1 with
 |true=>exact .inl (by simpa only[IH,A4,Nat.ble_eq,BW]using h)
 |false=>exact .inr (C2.2 ⟨p,CX.2 ⟨hp,by rw[h];rfl⟩,rfl⟩)
theorem wK{σ:SSo}{self:Nat}{u:Upd}(h:O8 σ self u=true){k:Nat}(hk:k∈KU u.wr):(self<=k/\k<self+8)\/(σ k).isSome=true:=by
 unfold O8 at h;rw[BG]at h;obtain⟨p,hp,rfl⟩:=C2.1 hk;have:=h p hp;simp only[IH,BH,A4,Nat.ble_eq,BW]at this;exact this
theorem j7{all:Array Oper}{n0 i:Nat}{F:List Nat}{σ:SSo}{k:Nat}(h:(seen all true n0 i F σ k).isSome=true):
 k∈F/\seen all true n0 i F σ k=σ k/\(k<n0\/(bits all i).testBit ((k-n0) / 8)=true):=by
 unfold seen at h ⊢;simp only[AA]at h ⊢;cases hb:(EV k F&&(Nat.blt k n0||((Region.before all).getD i 0).testBit ((k-n0) / 8)))with
 |false=>rw[hb]at h;cases h
 |true=>
  rw[A4,BH,BW]at hb;exact⟨KT.1 hb.1,rfl,hb.2⟩
def wL(n0:Nat)(S:Nat->Bool)(n:Nat):Nat->Prop:=λk=>n0<=k/\∀j,j<n->S j=true->¬(n0+8*j<=k/\k<n0+8*j+8)
theorem AAp{listed:Array Bool}{i j:Nat}(hi:i<listed.size):(listed.setIfInBounds i true).getD j false=(decide (j=i)||listed.getD j false):=by
 by_cases h:j=i
 .subst h;simp[hi]
 .rw[getD_set_ne false (λe=>h e.symm)];simp[h]
theorem AAq{E:Env}(hE:EnvOK P fr.dr E){N n0:Nat}{all:Array Oper}(hgo:GuardsOK all)(hdst:∀(j:Nat) o d,all[j]?=some o->o.dst=some d->d<N/\fr.fx d=none)
 {L:Nat->Info}{sl0:Nat->SV}{σ0:SSo}(hF:∀j,j<all.size->∃o r,Fact E all n0 L sl0 σ0 j o r)(hO:OrdOK all λi=>(L i).c){Q:Exit->Act->World->Prop}
 (hQ:∀a' w' G',SimF P N fr (λk=>n0+8*all.size<=k) (DS all (λ_=>true)) (FX all L (λ_=>true) sl0 all.size) (FZ L (λ_=>true) σ0 all.size) a' w' G'->Q .normal a' w'):
 ∀(fuel:Nat) (listed:Array Bool) (a:Act) (w:World) (G:Gh),listed.size=all.size->((List.range all.size).filter λj=>!listed.getD j false).length<=fuel->
  wG all (λj=>listed.getD j false)->
  SimF P N fr (wL n0 (λj=>listed.getD j false) all.size) (DS all (λj=>listed.getD j false)) (FX all L (λj=>listed.getD j false) sl0 all.size) (FZ L (λj=>listed.getD j false) σ0 all.size) a w G->
  wpAny P .any all Q fuel listed a w:=by
 have hgetD:∀{i:Nat} {o:Oper},all[i]?=some o->i<all.size/\all.getD i default=o:=λ{i o} ho=>
  ⟨(BC.1 ho).1,by rw[BL,ho];rfl⟩
 have hdone:∀(listed:Array Bool),listed.size=all.size->Region.ready .any all listed=[]->∀j,j<all.size->listed.getD j false=true:=by
  intro listed hsz hr
  have:∀n j,j<n->j<all.size->listed.getD j false=true:=by
   intro n;induction n with
   |zero=>intro j h;omega
   |succ n ih=>
    intro j hj hja;apply BY;intro hn
    have hm:j∈Region.ready .any all listed:=by
     rw[mem_ready];refine⟨?_,all[j],AY hja,λe he hb=>?_⟩
     .have hj':j<listed.size:=o5
      simp only[BL,AY hj',DC,BO]at hn ⊢;exact hn
     .have hlt:=hO.back j _ (AY hja) e he hb;exact ih e.on o5 o5
    rw[hr]at hm;cases hm
  intro j hj;exact this (j+1) j o5 hj
 have hfin:∀(listed:Array Bool) (a:Act) (w:World) (G:Gh),(∀j,j<all.size->listed.getD j false=true)->
  SimF P N fr (wL n0 (λj=>listed.getD j false) all.size) (DS all (λj=>listed.getD j false)) (FX all L (λj=>listed.getD j false) sl0 all.size) (FZ L (λj=>listed.getD j false) σ0 all.size) a w G->Q .normal a w:=by
  intro listed a w G hall hs
  have e1:FX all L (λj=>listed.getD j false) sl0 all.size=FX all L (λ_=>true) sl0 all.size:=by
   funext t;exact YJ λj hj _=>hall j hj
  have e2:FZ L (λj=>listed.getD j false) σ0 all.size=FZ L (λ_=>true) σ0 all.size:=by
   funext t;exact YK λj hj _=>hall j hj
  rw[e1,e2]at hs;exact hQ a w G (hs.weaken (λk hk=>⟨o5,λj hj _=>o5⟩) λt ht=>ht.mono λ_ _=>rfl)
 intro fuel;induction fuel with
 |zero=>
  intro listed a w G hsz hfu hdn hs
  have hall:∀j,j<all.size->listed.getD j false=true:=by
   intro j hj;apply BY;intro hn;have:j∈(List.range all.size).filter λj=>!listed.getD j false:=CX.2 ⟨D5.2 hj,by simpa using hn⟩;rw[AJ (Nat.le_zero.1 hfu)]at this;cases this
  refine⟨?_,hfin listed a w G hall hs⟩;rw[List.eq_nil_iff_forall_not_mem];intro j hj;obtain⟨h1,o,ho,_⟩:=mem_ready.1 hj;have hj':j<all.size:=(hgetD ho).1;have:=hall j hj';have hj2:j<listed.size:=o5
  simp only[BL,AY hj2,DC]at h1 this;rw[this]at h1;cases h1
 |succ fuel ih=>
  intro listed a w G hsz hfu hdn hs;refine⟨λhr=>hfin listed a w G (hdone listed hsz hr) hs,λi hi=>?_⟩;obtain⟨hun,o,ho,hall⟩:=mem_ready.1 hi;obtain⟨hin,hget⟩:=hgetD ho
  have hun':listed.getD i false=false:=by
   have hj2:i<listed.size:=o5
   simp only[BL,AY hj2,DC]at hun ⊢;exact hun
  obtain⟨o',r,hf⟩:=hF i hin
  have eo:o'=o:=by
   have:=hf.op;rw[ho]at this;cases this;rfl
  subst eo;have hpre:∀j,(bits all i).testBit j=true->listed.getD j false=true/\j<i:=wH hO.back hdn (i+1) i o' o5 ho hall
  have hpost:∀j,(bits all j).testBit i=true->j<all.size->listed.getD j false=false:=by
   intro j hb hj;rw[<-BO];intro hS;have hp:all[j]?=some all[j]:=AY hj;have:=(wH hO.back hdn (j+1) j _ o5 hp (λe he hb=>hdn j _ hS hp e he hb) i hb).1;rw[hun']at this;cases this
  have hord:∀j,j<all.size->((i<j/\(bits all j).testBit i=true)\/(j<i/\(bits all i).testBit j=true))->listed.getD j false=decide (j<i):=by
   intro j hj h;rcases h with⟨h1,h2⟩|⟨h1,h2⟩
   .rw[hpost j h2 hj];symm;rw[D4];omega
   .rw[(hpre j h2).1];symm;rw[AX];exact h1
  have hcls:∀j oj,all[j]?=some oj->(L j).c.1=(L j).u.far (n0+8*j)/\O8 (seen all true n0 j (L j).c.2 (FZ L (λ_=>true) σ0 j)) (n0+8*j) (L j).u=true:=by
   intro j oj hj;obtain⟨o'',r'',hf''⟩:=hF j (hgetD hj).1;exact⟨hf''.cls,hf''.wr⟩
  have hslot:∀t,t∈TD all o'->FX all L (λ_=>true) sl0 i t=FX all L (λj=>listed.getD j false) sl0 all.size t:=by
   intro t ht;rw[<-wA (S:=λj=>decide (j<i)) (n:=all.size) o5 (λj hj=>om) (λj hj _=>om)];refine YJ λj hj hd=>?_;by_cases e:j=i
   .subst e;rw[hun'];simp
   .have hp:all[j]?=some all[j]:=AY hj;rw[(hgetD hp).2]at hd;exact(hord j hj ((hO.slot j i _ o' t hp ho e hd ht).symm)).symm
  have hsto:∀k,(seen all true n0 i (L i).c.2 (FZ L (λ_=>true) σ0 i) k).isSome=true->
   seen all true n0 i (L i).c.2 (FZ L (λ_=>true) σ0 i) k=FZ L (λj=>listed.getD j false) σ0 all.size k:=by
   intro k hk;obtain⟨h1,h2,h3⟩:=j7 hk;rw[h2];rw[<-wB (S:=λj=>decide (j<i)) (n:=all.size) o5 (λj hj=>om) (λj hj _=>om)];refine YK λj hj hd=>?_;by_cases e:j=i
   .subst e;rw[hun'];simp
   .have hp:all[j]?=some all[j]:=AY hj;obtain⟨hc,hw⟩:=hcls j _ hp;rcases wJ (self:=n0+8*j) hd with⟨k1,k2⟩|hl
    .have hdiv:(k-n0) / 8=j:=o5
     rcases h3 with h3|h3
     .omega
     .rw[hdiv]at h3;exact(hord j hj (.inr ⟨(hpre j h3).2,h3⟩)).symm
    .exact(hord j hj ((hO.mem j i _ o' hp ho e k (hc▸hl) h1).symm)).symm
  refine w4 hE ho (self:=n0+8*i) (sl0:=FX all L (λ_=>true) sl0 i) hs ?_ ?_ ?_ hf.grd ?_ ?_ hf.val hf.gives hf.gives' (.inl hf.calm) ?_
  .intro t ht;exact hslot t (j6 (ht.elim .inl λh=>.inr (.inl h)))
  .intro t ht;obtain⟨j,b,p,hg,hp,hd⟩:=w6 ht;have hh:=i_ ho hg;refine⟨hh,j,p,?_,hp,hd⟩;have hji:=hgo.back hh i o' j b ho hg;have:=hO.slot j i p o' t hp ho o5 hd (j6 (.inr (.inl ht)));show listed.getD j false=true;rw[hord j o5 this.symm];simpa using hji
  .intro d hd;refine⟨hdst i o' d ho hd,λhD=>?_⟩;obtain⟨hh,j,p,hj,hp,hpd⟩:=hD;have hj:listed.getD j false=true:=hj;have hne:j≠i:=λe=>by subst e;rw[hun']at hj;cases hj
   rcases CL j i with h|h
   .exact hgo.uniq hh j i p o' d h hp ho hpd hd
   .exact hgo.uniq hh i j o' p d o5 ho hp hd hpd
  .intro k ob hk;rw[<-hsto k (by rw[hk];rfl)];exact hk
  .intro k h1 h2;refine⟨o5,λj hj hS h3=>?_⟩;have hS:listed.getD j false=true:=hS;have:j=i:=o5
   subst this;rw[hun']at hS;cases hS
  .intro a' w' G' _ hs';have hset:∀j,(listed.setIfInBounds i true).getD j false=(decide (j=i)||listed.getD j false):=λj=>AAp o5;have hS':(λj=>(listed.setIfInBounds i true).getD j false)=λj=>(decide (j=i)||listed.getD j false):=funext hset;refine ih (listed.setIfInBounds i true) a' w' G' (by simpa using hsz) ?_ ?_ ?_
   .have hlt:((List.range all.size).filter λj=>!(listed.setIfInBounds i true).getD j false).length<((List.range all.size).filter λj=>!listed.getD j false).length:=by
     have hsub:((List.range all.size).filter λj=>!(listed.setIfInBounds i true).getD j false)=((List.range all.size).filter λj=>!listed.getD j false).filter λj=>!decide (j=i):=by
      rw[List.filter_filter];refine List.filter_congr λj _=>?_;rw[hset,Bool.not_or]
     rw[hsub];refine List.length_filter_lt_length_iff_exists.2 ⟨i,CX.2 ⟨D5.2 hin,by rw[hun'];rfl⟩,oc⟩
    omega
   .intro j p hj hp e he hb;have hj:(listed.setIfInBounds i true).getD j false=true:=hj;show(listed.setIfInBounds i true).getD e.on false=true;rw[hset]at hj ⊢;rw[BH,AX]at hj ⊢;rcases hj with rfl|hj
    .rw[ho]at hp;cases hp;exact .inr (hall e he hb)
    .exact .inr (hdn j p hj hp e he hb)
   .rw[hS']
    have e1:K4 (FX all L (λj=>listed.getD j false) sl0 all.size) o'.dst (NJ (L i).tk (L i).g (L i).u.sv)=FX all L (λj=>(decide (j=i)||listed.getD j false)) sl0 all.size:=by
     funext t;rw[M3];by_cases hd:o'.dst=some t
     .rw[if_pos hd];refine(AAh (S:=λj=>(decide (j=i)||listed.getD j false)) oc (by rw[hget];exact hd) hin λj h1 h2 h3=>?_).symm;have hp:all[j]?=some all[j]:=AY h2;rw[(hgetD hp).2]at h3;have:=hO.slot i j o' _ t ho hp o5 hd (j6 (.inr (.inr h3)));have:=hord j h2 this;rw[this];simp;omega
     .rw[if_neg hd];refine YJ λj hj h3=>?_;have:j≠i:=λe=>by subst e;rw[hget]at h3;exact hd h3
      simp[this]
    have e2:EK (FZ L (λj=>listed.getD j false) σ0 all.size) (L i).u.wr=FZ L (λj=>(decide (j=i)||listed.getD j false)) σ0 all.size:=by
     funext k;by_cases hk:k∈KU (L i).u.wr
     .refine(AAi (S:=λj=>(decide (j=i)||listed.getD j false)) oc hk hin λj h1 h2 h3=>?_).symm;have hp:all[j]?=some all[j]:=AY h2;have hne:¬j=i:=o5
      simp only[hne,decide_false,CC];rw[<-BO];intro hS
      have hno:¬((i<j/\(bits all j).testBit i=true)\/(j<i/\(bits all i).testBit j=true)):=by
       intro h;have:=hord j h2 h;rw[hS]at this;simp at this;omega
      obtain⟨hci,hwi⟩:=hcls i o' ho;obtain⟨hcj,hwj⟩:=hcls j _ hp;rcases wK hwj h3 with hkj|hkj
      .rcases wK hwi hk with hki|hki
       .omega
       .obtain⟨q1,q2,q3⟩:=j7 hki;have hdiv:(k-n0) / 8=j:=o5
        rcases q3 with q3|q3
        .omega
        .rw[hdiv]at q3;have:=(hpre j q3).2;omega
      .obtain⟨q1,q2,q3⟩:=j7 hkj;rcases wJ (self:=n0+8*i) hk with hki|hki
       .have hdiv:(k-n0) / 8=i:=o5
        rcases q3 with q3|q3
        .omega
        .rw[hdiv]at q3;exact hno (.inl ⟨h1,q3⟩)
       .exact hno (hO.mem i j o' _ ho hp o5 k (hci▸hki) q1)
     .rw[j0 hk];refine YK λj hj h3=>?_;have:j≠i:=λe=>by subst e;exact hk h3
      simp[this]
    rw[<-e1,<-e2];refine hs'.weaken (λk hk=>⟨⟨hk.1,λj hj hS h3=>hk.2 j hj (by simp only[BH];exact .inr hS) h3⟩,?_⟩) λt ht=>ht.mono λj hj=>by simp only[BH];exact .inr hj
    have:=hk.2 i hin oc;rw[<-BO];simp only[IH,A4,Nat.ble_eq,BW];exact this
end
structure SimN(P:Program)(N:Nat)(fr:Fr)(st:St)(a:Act)(w:World)(G:Gh):Prop where
 slots:∀t,SlotOK P w G a (st.slots t) (a.tmps.getD t undef)
 defs:a.defers=[]
 size:a.tmps.size=N
 fix:∀t v,fr.fx t=some v->a.tmps.getD t undef=v
 nogrd:∀t tk g s,st.slots t≠.grd tk g s
 mem:MemS P fr (λk=>st.n<=k) st.sto w G
 drawn:fr.dr=true->fr.w0.drawn<=w.drawn
section
variable{dr:Bool}
variable{P:Program}{fr:Fr}{free free':Nat->Prop}{self:Nat}{σ σ':SSo}{w w':World}{G G':Gh}{I:Im}
theorem AAr:∀{l:List Oper},(l.filterMap (·.dst)).Nodup->∀(i j:Nat) (o p:Oper) (d:Nat),i<j->l[i]?=some o->l[j]?=some p->o.dst=some d->p.dst≠some d:=by
 intro l;induction l with
 |nil=>intro _ i j o p d _ h;cases h
 |cons q l ih=>
  intro hn i j o p d hij hi hj ho hp;cases j with
  |zero=>omega
  |succ j=>
   have hj:l[j]?=some p:=om
   cases i with
   |zero=>
    have:q=o:=by simpa using hi
    subst this;rw[List.filterMap_cons_some ho]at hn;exact(B7.1 hn).1 (List.mem_filterMap.2 ⟨p,B5 hj,hp⟩)
   |succ i=>
    have hn':(l.filterMap (·.dst)).Nodup:=by
     cases hq:q.dst with
     |none=>rw[List.filterMap_cons_none hq]at hn;exact hn
     |some e=>rw[List.filterMap_cons_some hq]at hn;exact(B7.1 hn).2
    exact ih hn' i j o p d o5 (by simpa using hi) hj ho hp
theorem wM{all:Array Oper}(h:J9 all=true->J5 (XG all)=true/\TG all=true):GuardsOK all:=by
 refine⟨λhh i j o p d hij hi hj ho=>?_,λhh i o j b hi hg=>?_⟩
 .exact AAr (vC (h hh).1) i j o p d hij (by simpa using hi) om ho
 .have h2:=(h hh).2;unfold TG at h2;rw[BG]at h2;have:=h2 i (D5.2 (BC.1 hi).1);rw[BL,hi]at this;simp only[DC,hg,BW]at this;exact this
theorem AAs{Ω:Type}{E:Env}(hE:EnvOK P fr.dr E)(hmix:P.follows .mixedOrders=true){N:Nat}{ops:Array Oper}{draw:Bool}{id:Nat}{st:St}{K:St->Option Ω}{ω:Ω}{Q:Exit->Act->World->Prop}
 (hdst:∀(j:Nat) o d,ops[j]?=some o->o.dst=some d->d<N/\fr.fx d=none){a:Act}(h:gU E ops draw st K=some ω)(hs:SimN P N fr st a w G)
 (hQ:∀st' a' w' G',SimN P N fr st' a' w' G'->K st'=some ω->Q .normal a' w'):(Code.region id ops draw).wp P Q a w:=by
 unfold gU at h
 have hgo:GuardsOK ops:=by
  refine wM λhh=>?_;rw[hh]at h;cases h1:J5 (XG ops)<;>cases h2:TG ops<;>rw[h1,h2]at h<;>first|exact⟨rfl,rfl⟩|cases h
 have h:MK E ops draw st.n ops.toList 0 st [] (λst' cl=>bif !draw||TE ops cl.reverse then
  K {slots:=bif J9 ops then TF st'.slots else st'.slots,sto:=st'.sto,n:=st.n+8*ops.size}else none)=some ω:=by
  cases hc:(J9 ops && !(J5 (XG ops)&&TG ops))with
  |true=>rw[hc]at h;cases h
  |false=>rw[hc]at h;exact h
 have fin:∀(st':St) (S:Nat->Bool) (a':Act) (w':World) (G':Gh),SimF P N fr (λk=>st.n+8*ops.size<=k) (DS ops S) st'.slots st'.sto a' w' G'->
  K {slots:=bif J9 ops then TF st'.slots else st'.slots,sto:=st'.sto,n:=st.n+8*ops.size}=some ω->Q .normal a' w':=by
  intro st' S a' w' G' hs' hK;refine hQ _ a' w' G' ⟨λt=>?_,hs'.defs,hs'.size,hs'.fix,λt tk g s=>?_,hs'.mem,hs'.drawn⟩ hK
  .have:=hs'.slots t;cases hh:J9 ops with
   |false=>exact this
   |true=>
    simp only[AA,TF];split
    .exact(SR.undef _).slotOK
    .exact this
  .cases hh:J9 ops with
   |false=>
    intro h;obtain⟨h1,h2⟩:=hs'.toks t tk g s h;cases tk with
    |nil=>exact h1 rfl
    |cons p r=>
     have:=(h2 p AI).1;rw[hh]at this;cases this
   |true=>
    simp only[AA,TF];split
    .intro h;cases h
    .rename_i hn;intro h;exact hn _ _ _ h
 cases draw with
 |false=>
  refine wp_region ?_
  have:=w8 hE hgo hdst (Q:=Q) ops.toList 0 st [] a w G h oc oc ⟨hs.slots,hs.defs,hs.size,hs.fix,λt tk g s hh=>absurd hh (hs.nogrd t tk g s),hs.mem.shrink λk hk=>by simpa using hk,hs.drawn⟩
   (λst' cl' a' w' G' hs' _ hK=>fin st' _ a' w' G' hs' hK)
  rw[List.range_eq_range'];simpa using this
 |true=>
  obtain⟨L,hF,hK⟩:=AAj (sl0:=st.slots) (σ0:=st.sto) ops.toList 0 st (λ_=>⟨[],true,⟨.undef,[]⟩,([],[])⟩) h oc oc rfl rfl (λj hj=>o5);refine wp_region_any hmix ?_;cases ho:TE ops ((List.range ops.size).map λj=>(L j).c)with
  |false=>simp only[List.reverse_reverse,ho,C0,Bool.or_false,AC]at hK;cases hK
  |true=>
   simp only[List.reverse_reverse,ho,C0,CC,AA]at hK
   have hrep:∀j,(Array.replicate ops.size false).getD j false=false:=by
    intro j;simp only[BL,Array.getElem?_replicate];split<;>rfl
   have e1:FX ops L (λj=>(Array.replicate ops.size false).getD j false) st.slots ops.size=st.slots:=by
    rw[wA (i:=0) (BQ _) (λj hj=>o5) (λj _ _=>hrep j)];rfl
   have e2:FZ L (λj=>(Array.replicate ops.size false).getD j false) st.sto ops.size=st.sto:=by
    rw[wB (i:=0) (BQ _) (λj hj=>o5) (λj _ _=>hrep j)];rfl
   refine AAq (n0:=st.n) (sl0:=st.slots) (σ0:=st.sto) hE hgo hdst hF (AAo rfl ho) (λa' w' G' hs'=>fin ⟨FX ops L (λ_=>true) st.slots ops.size,FZ L (λ_=>true) st.sto ops.size,0⟩ _ a' w' G' hs' hK) ops.size _ a _ G oc
    (AU (BK _ _) oc) (λj o hj=>?_) ?_
   .have hj:(Array.replicate ops.size false).getD j false=true:=hj;rw[hrep j]at hj;cases hj
   .rw[e1,e2];refine SimF.draws ⟨hs.slots,hs.defs,hs.size,hs.fix,λt tk g s hh=>absurd hh (hs.nogrd t tk g s),hs.mem.shrink λk hk=>hk.1,hs.drawn⟩ _ (Nat.le_succ _)
theorem AAt{E:Env}{N:Nat}{a:Act}:∀{l:List Oper} {st:St} {G:Gh},SimN P N fr st a w G->∃G',SimN P N fr (QO E l st) a w G':=by
 intro l;induction l with
 |nil=>intro st G hs;exact⟨G,hs⟩
 |cons o l ih=>
  intro st G hs;simp only[QO];split
  .split
   .rename_i u hu
    obtain⟨u',hu'⟩:∃p c,X1 st.sto st.n p c=some u:=by
     have hb:∀{c:Bool} {m:Option (List (Nat×Option Obj))},(bif c then m else none)=some u->m=some u:=λ{c m} h=>by
      cases c with
      |true=>exact h
      |false=>cases h
     exact⟨_,_,hb hu⟩
    obtain⟨c,hu'⟩:=hu';obtain⟨G1,h1,h2⟩:=AAR hs.mem (AB _) hu'
    exact ih (st:=⟨st.slots,EK st.sto u,st.n+1⟩) ⟨λt=>(hs.slots t).mono h1 λ_ _ _ _=>Iff.rfl,hs.defs,hs.size,hs.fix,hs.nogrd,h2.shrink λj hj=>by
     have hj:st.n+1<=j:=hj;exact⟨o5,o5⟩,hs.drawn⟩
   .exact ih hs
  .exact ih hs
theorem AAu{Ω:Type}{E:Env}(hE:EnvOK P fr.dr E)(hmix:P.follows .mixedOrders=true){N:Nat}{ops:Array Oper}{draw:Bool}{id:Nat}{st:St}{K:St->Option Ω}{ω:Ω}{Q:Exit->Act->World->Prop}
 (hdst:∀(j:Nat) o d,ops[j]?=some o->o.dst=some d->d<N/\fr.fx d=none){a:Act}(h:tI E ops draw st K=some ω)(hs:SimN P N fr st a w G)
 (hQ:∀st' a' w' G',SimN P N fr st' a' w' G'->K st'=some ω->Q .normal a' w'):(Code.region id ops draw).wp P Q a w:=
 AAs hE hmix hdst h hs λst' a' w' G' hs' hK=>by
  obtain⟨G'',h⟩:=AAt (E:=E) (l:=ops.toList.reverse) hs';exact hQ _ a' w' G'' h hK
def HT:Ex->Exit
 | .normal=>.normal
 | .exit i=>.exit i
 | .ret=>.ret
theorem j8{Q:Exit->Act->World->Prop}{K:Act->World->Prop}{e:Ex}{a:Act}{w:World}(h:match e with| .normal=>K a w|e=>Q (HT e) a w):Exit.then K Q (HT e) a w:=by
 cases e<;>exact h
def YL(P:Program)(w:World)(I:Im)(a:Act)(e:Exit)(hs:Nat)(bs:List Nat):(l:List (Ex×Kp))->GN l->Prop
 |[],x=>Empty.elim x
 |[o],x=>e=HT o.1/\∃bs',ShL P w I o.2.sh x (o.2.tm.map λt=>a.tmps.getD t undef) bs'/\bs'.Nodup/\∀b∈bs',b∈bs\/hs<=b
 |o::p::r,x=>Sum.casesOn (motive:=λ_=>Prop) x (λy=>e=HT o.1/\∃bs',ShL P w I o.2.sh y (o.2.tm.map λt=>a.tmps.getD t undef) bs'/\bs'.Nodup/\∀b∈bs',b∈bs\/hs<=b)
  (λy=>YL P w I a e hs bs (p::r) y)
def KV(P:Program)(dr:Bool)(N:Nat)(s:CSpec)(x:GN s.outs)(a0:Act)(w:World)(I:Im)(bs:List Nat):Exit->Act->World->Prop:=λe a' w'=>
 a'.defers=[]/\a'.tmps.size=N/\(∀t,EV t s.wrs=false->a'.tmps.getD t undef=a0.tmps.getD t undef)/\(dr=true->w.drawn<=w'.drawn)/\∃I',After (·∈bs) w I w' I'/\YL P w' I' a' e w.heap.size bs s.outs x
def OH(a:Act)(c:Nat):Value:=bif Nat.blt c 1048576 then a.tmps.getD c undef else .func (.func (c / 1048576-1)) #[] #[a.tmps.getD (c % 1048576) undef]
def YM(al:List (Nat×Nat))(a:Act):Prop:=∀t j,FG al t=some j->a.tmps.getD t undef=OH a j
def YN(P:Program)(w:World)(I:Im)(a:Act)(e:Exit)(hs:Nat)(bs:List Nat)(pv:List Value):(l:List (Ex×Kp))->GN l->Prop
 |[],x=>Empty.elim x
 |[o],x=>e=HT o.1/\∃bs',ShL P w I o.2.sh x ((o.2.tm.map λt=>a.tmps.getD t undef)++pv) bs'/\bs'.Nodup/\∀b∈bs',b∈bs\/hs<=b
 |o::p::r,x=>Sum.casesOn (motive:=λ_=>Prop) x (λy=>e=HT o.1/\∃bs',ShL P w I o.2.sh y ((o.2.tm.map λt=>a.tmps.getD t undef)++pv) bs'/\bs'.Nodup/\∀b∈bs',b∈bs\/hs<=b)
  (λy=>YN P w I a e hs bs pv (p::r) y)
def j9(P:Program)(dr:Bool)(N:Nat)(s:CSpec)(pv:List Value)(x:GN s.outs)(a0:Act)(w:World)(I:Im)(bs:List Nat):Exit->Act->World->Prop:=λe a' w'=>
 a'.defers=[]/\a'.tmps.size=N/\(∀t,EV t s.wrs=false->a'.tmps.getD t undef=a0.tmps.getD t undef)/\(dr=true->w.drawn<=w'.drawn)/\∃I',After (·∈bs) w I w' I'/\YN P w' I' a' e w.heap.size bs pv s.outs x
def CutOK(P:Program)(dr:Bool)(N:Nat)(s:CSpec)(c:Code):Prop:=match s.kx with
 |none=>∀(w:World) (I:Im) (a:Act) (v:TupR s.inn.sh) (bs:List Nat),GM w I->a.defers=[]->a.tmps.size=N->YM s.al a->ShL P w I s.inn.sh v (s.inn.tm.map λt=>a.tmps.getD t undef) bs->bs.Nodup->
   match s.nd with
   |none=>∀x,s.F v=some x->c.wp P (KV P dr N s x a w I bs) a w
   |some d=>(∀o,d.S v o->∃x,d.F v o=some x)->c.wp P (λe a' w'=>∃o x,d.S v o/\d.F v o=some x/\KV P dr N s x a w I bs e a' w') a w
 |some k=>∀(w:World) (I:Im) (a:Act) (v:TupR s.inn.sh) (bs:List Nat) (pv:List Value),GM w I->a.defers=[]->a.tmps.size=N->KxOK w I (λt=>a.tmps.getD t undef) pv k->
   ShL P w I s.inn.sh v ((s.inn.tm.map λt=>a.tmps.getD t undef)++pv) bs->bs.Nodup->∀x,s.F v=some x->c.wp P (j9 P dr N s pv x a w I bs) a w
theorem wO{a:Act}:∀{tm:List Nat} {l:List SV},(∀(j:Nat) (s:SV) (t:Nat),l[j]?=some s->tm[j]?=some t->SR P w G s (a.tmps.getD t undef))->∀t,SR P w G (JK tm l t) (a.tmps.getD t undef):=by
 intro tm;induction tm with
 |nil=>intro l _ t;simp only[JK];exact SR.undef _
 |cons d tm ih=>
  intro l hl t;cases l with
  |nil=>simp only[JK];exact SR.undef _
  |cons s l=>
   simp only[JK];cases hb:Nat.beq t d with
   |true=>
    have e:=A2 hb;subst e;exact hl 0 s t rfl rfl
   |false=>exact ih (λj s' t' h1 h2=>hl (j+1) s' t' ot oq) t
theorem wP:∀(l:List (Nat×Option Obj)) (i:Nat),(FG l i).getD none=EK (λ_=>none) l i:=by
 intro l;induction l with
 |nil=>intro i;rfl
 |cons p r ih=>
  intro i;obtain⟨j,o⟩:=p;simp only[FG,EK];cases hb:Nat.beq i j with
  |true=>rfl
  |false=>exact ih i
theorem wQ:∀{l:List Sh} {x:TupR l} {n:Nat},KO (F5 l x n) n=n+FM l:=by
 intro l;induction l with
 |nil=>intro x n;rfl
 |cons a l ih=>
  intro x n;cases l with
  |nil=>exact(OE a x n).trans (by simp[FM])
  |cons b l=>
   have:KO (F5 (a::b::l) x n) n=KO (F5 (b::l) x.2 (F7 a x.1 n).nx) (F7 a x.1 n).nx:=rfl;rw[this,ih,OE];simp only[FM];omega
theorem jA{N:Nat}{k:Kp}{v:TupR k.sh}{a:Act}{bs:List Nat}(hd:a.defers=[])(hN:a.tmps.size=N)(hfx:∀t v,fr.fx t=some v->a.tmps.getD t undef=v)(haf:After fr.gv fr.w0 fr.i0 w I)(hdr:fr.dr=true->fr.w0.drawn<=w.drawn)
 (h:ShL P w I k.sh v (k.tm.map λt=>a.tmps.getD t undef) bs)(hnd:bs.Nodup)(hbs:∀b∈bs,fr.owned b):∃G',SimN P N fr (H9 k v) a w G':=by
 let G0:Gh:=⟨I,λ_ _=>none,λ_=>none,λ_=>none⟩
 have hm0:MemS P fr (λ_=>True) (λ_=>none) w G0:=⟨λk o h=>(oe),λj k o o' b h=>(oe),haf,λk _=>⟨rfl,rfl,rfl,λ_=>rfl⟩⟩;obtain⟨G',h1,h2,h3,h4⟩:=TV (n:=0) (G:=G0) hm0 h hnd (λb hb=>⟨hbs b hb,λj o h=>(oe)⟩) (λ_ _ _=>trivial)
 have hsr:∀t,SR P w G' ((H9 k v).slots t) (a.tmps.getD t undef):=by
  refine wO λj s t hj ht=>?_;rw[AV]at hj;cases hm:(F5 k.sh v 0)[j]? with
  |none=>rw[hm]at hj;cases hj
  |some m=>
   rw[hm]at hj;cases hj;exact h4 j m _ hm (by rw[AV,ht];rfl)
 refine⟨G',λt=>(hsr t).slotOK,hd,hN,hfx,λt tk g s h=>?_,?_,hdr⟩
 .have:=hsr t;rw[h]at this;exact this.not_grd
 .have e:(H9 k v).sto=EK (λ_=>none) ((F5 k.sh v 0).flatMap (·.obs)):=funext λi=>wP _ i;rw[e];refine h1.mem.shrink λj hj=>⟨trivial,λhh=>?_⟩;have:(H9 k v).n=0+FM k.sh:=wQ;omega
theorem wR{N:Nat}{st:St}{a:Act}(hs:SimN P N fr st a w G)(j:Nat):SR P w G (O5 st.slots j) (OH a j):=by
 have h:∀j,SR P w G (st.slots j) (a.tmps.getD j undef):=by
  intro j;have h1:SlotOK P w G a (st.slots j) (a.tmps.getD j undef):=hs.slots _;have h2:∀tk g s,st.slots j≠.grd tk g s:=hs.nogrd _;generalize st.slots j=s at h1 h2;cases s<;>first|exact h1|exact absurd rfl (h2 _ _ _)
 unfold O5 OH;cases hb:Nat.blt j 1048576 with
 |true=>exact h j
 |false=>exact⟨_,rfl,#[_],rfl,_,[],rfl,h _,rfl⟩
theorem AAv{N:Nat}{st:St}{a a':Act}{al:List (Nat×Nat)}{wrs:List Nat}(hs:SimN P N fr st a' w G)(hal:YM al a)(hfr:∀t,EV t wrs=false->a'.tmps.getD t undef=a.tmps.getD t undef):SimN P N fr (SO al wrs st) a' w G:=by
 unfold SO;split
 .exact hs
 .have key:∀t,PY al wrs st.slots t=st.slots t\/∃c,PY al wrs st.slots t=O5 st.slots c/\a'.tmps.getD t undef=OH a' c:=by
   intro t;unfold PY;split
   .rename_i c hc;cases hb:(EV t wrs||EV (fL c) wrs)with
    |true=>exact .inl rfl
    |false=>
     simp only[BS]at hb;refine .inr ⟨c,rfl,?_⟩;rw[hfr t hb.1,hal t c hc];have h2:=hb.2;unfold fL at h2;unfold OH;cases hj:Nat.blt c 1048576 with
     |true=>rw[hj]at h2;exact(hfr _ h2).symm
     |false=>rw[hj]at h2;simp only[AC]at h2 ⊢;rw[hfr _ h2]
   .exact .inl rfl
  refine⟨λt=>?_,hs.defs,hs.size,hs.fix,λt tk g s=>?_,hs.mem,hs.drawn⟩
  .show SlotOK P w G a' (PY al wrs st.slots t) _;rcases key t with e|⟨c,e,e2⟩
   .rw[e];exact hs.slots t
   .rw[e,e2];exact(wR hs c).slotOK
  .show PY al wrs st.slots t≠_;rcases key t with e|⟨c,e,e2⟩
   .rw[e];exact hs.nogrd t tk g s
   .rw[e];intro h;have:=wR hs c;rw[h]at this;exact this.not_grd
theorem jB{N:Nat}{al:List (Nat×Nat)}{k:Kp}{v:TupR k.sh}{a:Act}(hs:SimN P N fr (H9 k v) a w G)(hal:YM al a):SimN P N fr (PW al k v) a w G:=by
 refine⟨λt=>?_,hs.defs,hs.size,hs.fix,λt tk g s=>?_,hs.mem,hs.drawn⟩
 .show SlotOK P w G a (SL al (H9 k v).slots t) _;unfold SL;split
  .rename_i j hj;rw[hal t j hj];unfold O5 OH;cases hb:Nat.blt j 1048576 with
   |true=>exact hs.slots j
   |false=>
    have h1:SlotOK P w G a ((H9 k v).slots (j % 1048576)) (a.tmps.getD (j % 1048576) undef):=hs.slots _;have h2:∀tk g s,(H9 k v).slots (j % 1048576)≠.grd tk g s:=hs.nogrd _
    have h3:SR P w G ((H9 k v).slots (j % 1048576)) (a.tmps.getD (j % 1048576) undef):=by
     generalize (H9 k v).slots (j % 1048576)=s at h1 h2;cases s<;>first|exact h1|exact absurd rfl (h2 _ _ _)
    exact⟨_,rfl,#[_],rfl,_,[],rfl,h3,rfl⟩
  .exact hs.slots t
 .show SL al (H9 k v).slots t≠_;unfold SL;split
  .rename_i j hj;unfold O5;cases hb:Nat.blt j 1048576 with
   |true=>exact hs.nogrd _ tk g s
   |false=>intro h;cases h
  .exact hs.nogrd _ tk g s
theorem wS{N:Nat}{st:St}{a:Act}(hs:SimN P N fr st a w G):∀{al:List (Nat×Nat)},MJ al st.slots=true->YM al a:=by
 have hsr:∀t k g,st.slots t=.obj k g->G.val k g=some (a.tmps.getD t undef):=by
  intro t k g h;have:=hs.slots t;rw[h]at this;exact ML this
 intro al;induction al with
 |nil=>intro _ t j h;cases h
 |cons p r ih=>
  intro h t j hj;simp only[MJ,A4]at h;obtain⟨x,y⟩:=p;simp only[FG]at hj;cases hb:Nat.beq t x with
  |false=>rw[hb]at hj;exact ih h.2 t j hj
  |true=>
   rw[hb]at hj;have e1:=A2 hb;have e2:y=j:=A3 hj;subst e1 e2;have hh:=h.1;unfold sS at hh;unfold OH;cases hb:Nat.blt y 1048576 with
   |true=>
   rw[hb]at hh;simp only[AA]at hh ⊢;unfold sR at hh;split at hh
   .rename_i k g k' g' h1 h2;simp only[A4]at hh;have q1:=A2 hh.1;have q2:=A2 hh.2;subst q1 q2;have v1:=hsr _ _ _ h1;have v2:=hsr _ _ _ h2;rw[v1]at v2;exact A3 v2
   .cases hh
   |false=>
   rw[hb]at hh;simp only[AC]at hh ⊢;split at hh
   .rename_i f s hs1;simp only[A4]at hh;have q1:=A2 hh.1;have hs2:=hs.slots t;rw[hs1]at hs2;obtain⟨c,hc,vs,e1,v,r,e2,hv,e3⟩:=(show SR P w G (.fn f (.scons s .snil)) _ from hs2);have e3:r=[]:=e3;subst e3;have e4:a.tmps.getD t undef=.func (.func f) #[] vs:=A5.1 ((show c=[_]from hc).symm.trans e1);have e5:vs= #[v]:=by apply C4;exact e2
    rw[e4,e5,q1];have hp:=hh.2;unfold NE at hp;split at hp
    .rename_i k u k' u' h1;have q2:=A2 hp;subst q2;have hs3:=hs.slots (y % 1048576);rw[h1]at hs3;obtain⟨b,t1,o,b1,b2,b3,b4⟩:=IA (show SR P w G (.ptr k [] u') _ from hs3);obtain⟨b',t2,o',c1,c2,c3,c4⟩:=IA (show SR P w G (.ptr k [] u) v from hv);rw[b1]at c1;cases c1;rw[b2]at c2;cases c2;rw[b4,c4]
    .cases hp
   .cases hh
theorem SimN.frz{N:Nat}{st:St}{a:Act}(hs:SimN P N fr st a w G)(k:Kp):∃G',GLe w G w G'/\SimN P N fr (IR k st) a w G':=by
 obtain⟨G',h1,h2⟩:=TZ hs.mem k.sh (k.tm.map st.slots);exact⟨G',h1,λt=>(hs.slots t).mono h1 λ_ _ _ _=>Iff.rfl,hs.defs,hs.size,hs.fix,hs.nogrd,h2,hs.drawn⟩
theorem AAw{N:Nat}{fs:Nat->Option FSpec}(hE:∀f sp,fs f=some sp->F6 P f/\FunOK P f sp){k:Kp}{st:St}{v:TupR k.sh}{a:Act}(hs:SimN P N fr st a w G)(h:LX fs k (IR k st)=some v):
 ∃G',SimN P N fr (H9 k v) a w G':=by
 obtain⟨G0,_,hs⟩:=hs.frz k
 have hsr:∀t,SR P w G0 (st.slots t) (a.tmps.getD t undef):=by
  intro t;have h1:SlotOK P w G0 a (st.slots t) (a.tmps.getD t undef):=hs.slots t;have h2:∀tk g s,st.slots t≠.grd tk g s:=hs.nogrd t;generalize st.slots t=s at h1 h2;cases s<;>first|exact h1|exact absurd rfl (h2 _ _ _)
 obtain ⟨bs,h1,h2,h3⟩:=NN hs.mem hE (vs:=k.tm.map λt=>a.tmps.getD t undef) h oc (λj s v hj hv=>by
  rw[AV]at hj hv;cases ht:k.tm[j]? with
  |none=>rw[ht]at hj;cases hj
  |some t=>
   rw[ht]at hj hv;cases hj;cases hv;exact hsr t)
 refine jA hs.defs hs.size hs.fix hs.mem.after hs.drawn h1 h2 λb hb=>?_;obtain⟨k',_,o,ho,hbo⟩:=h3 b hb;exact M1 (hs.mem.objs k' o ho) hbo
theorem SimN.sr{N:Nat}{st:St}{a:Act}(hs:SimN P N fr st a w G)(x:Operand):SR P w G (GF st.slots x) (a.eval x):=by
 have:=vZ (x:=x) (tk:=[]) (λt _=>hs.slots t) (OG a)
 have e:(GF st.slots x).strip []=GF st.slots x:=by
  have hn:∀tk g s,GF st.slots x≠.grd tk g s:=by
   intro tk g s h;cases x with
   |tmp t=>exact hs.nogrd t tk g s h
   |const v=>
    have:=vY (P:=P) (w:=w) (G:=G) v;rw[show WG v=_ from h]at this;exact this.not_grd
   |func f=>cases h
   |global g=>cases h
  generalize GF st.slots x=s at hn;cases s<;>first|rfl|exact absurd rfl (hn _ _ _)
 rw[e]at this;exact this
def K9(P:Program)(dr:Bool)(N:Nat)(ok:Nat->Bool)(E:Env):Code->Nat->Prop
 | .seq a b,n=>match gV E a with
  |some s=>s.wrs.all ok=true/\CutOK P dr N s (.seq a b)
  |none=>K9 P dr N ok E a n/\K9 P dr N ok E b (n+IS a)
 | .cond c a b,n=>match E.cut n with
  |some s=>s.wrs.all ok=true/\CutOK P dr N s (.cond c a b)
  |none=>K9 P dr N ok E a (n+1)/\K9 P dr N ok E b (n+1+IS a)
 | .block _ b,n=>K9 P dr N ok E b n
 | .loop b,n=>match E.cut n with
  |some s=>s.wrs.all ok=true/\CutOK P dr N s (.loop b)
  |none=>True
 |_,_=>True
def HB(E:Env):Code->Nat->List (CSpec×Code)
 | .seq a b,n=>match gV E a with
  |some s=>[(s,.seq a b)]
  |none=>HB E a n++HB E b (n+IS a)
 | .cond c a b,n=>match E.cut n with
  |some s=>[(s,.cond c a b)]
  |none=>HB E a (n+1)++HB E b (n+1+IS a)
 | .block _ b,n=>HB E b n
 | .loop b,n=>match E.cut n with
  |some s=>[(s,.loop b)]
  |none=>[]
 |_,_=>[]
def AllCuts(P:Program)(dr:Bool)(N:Nat)(ok:Nat->Bool):List (CSpec×Code)->Prop
 |[]=>True
 |p::r=>(p.1.wrs.all ok=true/\CutOK P dr N p.1 p.2)/\AllCuts P dr N ok r
theorem AllCuts.append{N:Nat}{ok:Nat->Bool}:∀{l l':List (CSpec×Code)},AllCuts P dr N ok (l++l')->AllCuts P dr N ok l/\AllCuts P dr N ok l':=by
 intro l;induction l with
 |nil=>intro l' h;exact⟨trivial,h⟩
 |cons p r ih=>intro l' h;exact⟨⟨h.1,(ih h.2).1⟩,(ih h.2).2⟩
theorem OI{N:Nat}{ok:Nat->Bool}{E:Env}:∀{c:Code} {n:Nat},AllCuts P dr N ok (HB E c n)->K9 P dr N ok E c n:=by
 intro c;induction c with
 |seq a b iha ihb=>
  intro n h;simp only[K9];simp only[HB]at h;split
  .rename_i s hs;rw[hs]at h;exact h.1
  .rename_i hs;rw[hs]at h;exact⟨iha h.append.1,ihb h.append.2⟩
 |cond c a b iha ihb=>
  intro n h;simp only[K9];simp only[HB]at h;split at h
  .rename_i s hs;exact h.1
  .rename_i hs;exact⟨iha h.append.1,ihb h.append.2⟩
 |block i b ih=>intro n h;exact ih (n:=n) h
 |loop b ih=>
  intro n h;simp only[K9];simp only[HB]at h;split at h
  .rename_i s hs;exact h.1
  .rename_i hs;trivial
 |_=>intro n h;trivial
def HC(ok:Nat->Bool):Code->Bool
 | .seq a b=>HC ok a&&HC ok b
 | .cond _ a b=>HC ok a&&HC ok b
 | .block _ b=>HC ok b
 | .loop b=>HC ok b
 | .region _ ops _=>ops.toList.all λo=>match o.dst with
  |some d=>ok d
  |none=>true
 |_=>true
theorem wT{N:Nat}{st:St}{a a':Act}{wrs ks bs bs':List Nat}{I':Im}{k:Kp}{y:TupR k.sh}(hs:SimN P N fr st a w G)(hblk:BlksOf st.sto G ks bs)
 (hwr:∀d,EV d wrs=true->fr.fx d=none)(hd:a'.defers=[])(hN:a'.tmps.size=N)(hfr:∀t,EV t wrs=false->a'.tmps.getD t undef=a.tmps.getD t undef)
 (haft:After (·∈bs) w G.im w' I')(hdr:fr.dr=true->w.drawn<=w'.drawn)(hsh:ShL P w' I' k.sh y (k.tm.map λt=>a'.tmps.getD t undef) bs')(hnd:bs'.Nodup)(hown:∀b∈bs',b∈bs\/w.heap.size<=b):
 ∃G',SimN P N fr (PX st wrs ks k y) a' w' G':=by
 obtain⟨g1,g2⟩:=hs.mem.called hblk haft
 obtain ⟨G',h1,h2,h3,h4⟩:=TV (n:=st.n) g2 hsh hnd (λb hb=>by
  refine⟨?_,λj o ho hbj=>?_⟩
  .rcases hown b hb with h|h
   .obtain⟨k',_,o,ho,hbo⟩:=hblk b h;exact M1 (hs.mem.objs k' o ho) hbo
   .exact .inl (AU hs.mem.after.size h)
  .have ho':j ∉ ks/\st.sto j=some o:=by
    rw[JB]at ho;by_cases hj:j∈ks
    .rw[if_pos hj]at ho;cases ho
    .rw[if_neg hj]at ho;exact⟨hj,ho⟩
   have hbj0:Bk G j o b:=by rw[<-GH (hs.mem.objs j o ho'.2) g1];exact hbj
   rcases hown b hb with h|h
   .obtain⟨k',hk,o2,ho2,hbo⟩:=hblk b h;have:=hs.mem.sep j k' o o2 b ho'.2 ho2 hbj0 hbo;subst this;exact ho'.1 hk
   .have:=HP (hs.mem.objs j o ho'.2) hbj0;omega) (λk' h1 _=>h1)
 have hsr:∀t,SR P w' G' ((PX st wrs ks k y).slots t) (a'.tmps.getD t undef):=by
  intro t;simp only[PX];cases ht:EV t k.tm with
  |true=>
   refine wO (λj s t' hj ht'=>?_) t;rw[AV]at hj;cases hm:(F5 k.sh y st.n)[j]? with
   |none=>rw[hm]at hj;cases hj
   |some m=>
    rw[hm]at hj;cases hj;exact h4 j m _ hm (by rw[AV,ht'];rfl)
  |false=>
   simp only[AC];cases hw:EV t wrs with
   |true=>exact SR.undef _
   |false=>
    simp only[AC];rw[hfr t hw];exact((hs.sr (.tmp t)).mono g1).mono h1.le
 refine⟨G',λt=>(hsr t).slotOK,hd,hN,λt v hv=>?_,λt tk g s h=>?_,?_,λh=>AU (hs.drawn h) (hdr h)⟩
 .cases hw:EV t wrs with
  |true=>rw[hwr t hw]at hv;cases hv
  |false=>rw[hfr t hw];exact hs.fix t v hv
 .have:=hsr t;rw[h]at this;exact this.not_grd
 .simp only[PX];rw[FW];refine h1.mem.shrink λj hj=>⟨?_,λhh=>?_⟩
  .show st.n<=j;have:st.n+FM k.sh<=j:=hj;omega
  .have:st.n+FM k.sh<=j:=hj;omega
theorem AAx{Ω:Type}{N:Nat}{K:Ex->St->Option Ω}{ω:Ω}{st:St}{a a':Act}{e:Exit}{wrs ks bs:List Nat}{I':Im}(hs:SimN P N fr st a w G)(hblk:BlksOf st.sto G ks bs)
 (hwr:∀d,EV d wrs=true->fr.fx d=none)(hd:a'.defers=[])(hN:a'.tmps.size=N)(hfr:∀t,EV t wrs=false->a'.tmps.getD t undef=a.tmps.getD t undef)(haft:After (·∈bs) w G.im w' I')(hdr:fr.dr=true->w.drawn<=w'.drawn):
 ∀{l:List (Ex×Kp)} {x:GN l},SP st wrs ks l x K=some ω->YL P w' I' a' e w.heap.size bs l x->
 ∃e' st' G',e=HT e'/\SimN P N fr st' a' w' G'/\K e' st'=some ω:=by
 intro l;induction l with
 |nil=>intro x;exact Empty.elim x
 |cons o r ih=>
  intro x h hq;cases r with
  |nil=>
   obtain⟨h1,bs',h2,h3,h4⟩:=hq;obtain⟨G',h5⟩:=wT hs hblk hwr hd hN hfr haft hdr h2 h3 h4;exact⟨o.1,_,G',h1,h5,h⟩
  |cons p r=>
   cases x with
   |inl y=>
    obtain⟨h1,bs',h2,h3,h4⟩:=hq;obtain⟨G',h5⟩:=wT hs hblk hwr hd hN hfr haft hdr h2 h3 h4;exact⟨o.1,_,G',h1,h5,h⟩
   |inr y=>exact ih (x:=y) h hq
theorem wU{N:Nat}{fs:Nat->Option FSpec}(hE:∀f sp,fs f=some sp->F6 P f/\FunOK P f sp){k:Kp}{st:St}{v:TupR k.sh}{a:Act}(hs:SimN P N fr st a w G)(h:LX fs k st=some v):
 ∃bs,ShL P w G.im k.sh v (k.tm.map λt=>a.tmps.getD t undef) bs/\bs.Nodup/\BlksOf st.sto G (G5 st.sto k.sh (k.tm.map st.slots)) bs:=
 NN hs.mem hE (vs:=k.tm.map λt=>a.tmps.getD t undef) h oc (λj s v hj hv=>by
  rw[AV]at hj hv;cases ht:k.tm[j]? with
  |none=>rw[ht]at hj;cases hj
  |some t=>
   rw[ht]at hj hv;cases hj;cases hv;exact hs.sr (.tmp t))
variable{P:Program}{fr:Fr}{free free':Nat->Prop}{self:Nat}{σ σ':SSo}{w w':World}{G G':Gh}{I:Im}
theorem AAy{pv:List Value}{tv:Nat->Value}:∀{caps:List Nat} {l:List SV} {acc acc':List (Nat×SV)} {vs:List Value},SQ caps l acc=some acc'->vs=caps.map (IB tv pv)->
 (∀(j:Nat) (s:SV) (v:Value),l[j]?=some s->vs[j]?=some v->SR P w G s v)->(∀j s,FG acc j=some s->SR P w G s (pv.getD j undef))->∀j s,FG acc' j=some s->SR P w G s (pv.getD j undef):=by
 intro caps;induction caps with
 |nil=>
  intro l acc acc' vs h _ _ ha;cases l with
  |nil=>cases h;exact ha
  |cons _ _=>cases h
 |cons c caps ih=>
  intro l acc acc' vs h hv hl ha;subst hv;cases l with
  |nil=>cases h
  |cons s l=>
   have hl':∀(j:Nat) (s':SV) (v:Value),l[j]?=some s'->(caps.map (IB tv pv))[j]?=some v->SR P w G s' v:=λj s' v h1 h2=>hl (j+1) s' v ot oq;simp only[SQ]at h;cases hb:Nat.blt c 1000000 with
   |true=>rw[hb]at h;exact ih h rfl hl' ha
   |false=>
    rw[hb]at h;have hc:¬c<1000000:=λh1=>by rw[show Nat.blt c 1000000=true by simpa using h1]at hb;cases hb
    refine ih h rfl hl' λj s' hj=>?_;rw[QX]at hj;by_cases e:j=c-1000000
    .rw[if_pos e]at hj;cases hj;have h0:=hl 0 s _ rfl rfl;unfold IB at h0;rw[if_neg hc,<-e]at h0;exact h0
    .rw[if_neg e]at hj;exact ha j s' hj
theorem AAz(ho:∀k o,σ k=some o->ObjOK P fr w G k o){sl:Nat->SV}{tv:Nat->Value}(hsl:∀t,SR P w G (sl t) (tv t)){pv:List Value}:∀{kn:List Kn} {acc acc':List (Nat×SV)},WS σ sl kn acc=some acc'->
 (∀q∈kn,JA w G.im tv pv q)->(∀j s,FG acc j=some s->SR P w G s (pv.getD j undef))->∀j s,FG acc' j=some s->SR P w G s (pv.getD j undef):=by
 intro kn;induction kn with
 |nil=>intro acc acc' h _ ha;cases h;exact ha
 |cons q kn ih=>
  intro acc acc' h hk ha;simp only[WS]at h;split at h
  .rename_i f c hkn;cases hb:K0 c with
   |false=>rw[hb]at h;cases h
   |true=>
    rw[hb]at h;simp only[AA]at h;split at h
    .rename_i acc1 hp;obtain⟨vs,k1,k2⟩:=vS ho hkn (hsl q.p);have hq:=hk q AI
     have hvs:vs.toList=q.caps.map (IB tv pv):=by
      unfold JA at hq;unfold iQ at k2
      have inj:Value.func (.func f) #[] vs=LJ tv pv q->vs.toList=q.caps.map (IB tv pv):=by
       intro e;unfold LJ at e;injection e with _ _ e;rw[e]
      cases hbx:q.bx with
      |true=>
       rw[hbx]at hq k2;obtain⟨b,e1,e2,e3⟩:=hq;obtain⟨b',d1,d2,d3⟩:=k2;rw[e1]at d1;injection d1 with d1;injection d1 with d1;injection d1 with d1 _ _;subst d1;rw[e3]at d3;exact inj (A3 d3).symm
      |false=>
       rw[hbx]at hq k2;have hq:tv q.p=LJ tv pv q:=hq;have k2:tv q.p=_:=k2;exact inj (k2.symm.trans hq)
     have hcl:=YA k1 hb;exact ih h (λq' hq'=>hk q' (AD _ hq')) (AAy hp hvs (Y0 k1 o5) ha)
    .cases h
  .cases h
theorem AB0(ho:∀k o,σ k=some o->ObjOK P fr w G k o){sl:Nat->SV}{tv:Nat->Value}(hsl:∀t,SR P w G (sl t) (tv t)){pv:List Value}{x:KX}(hx:KxOK w G.im tv pv x){ps:List SV}(h:fM σ sl x=some ps):
 ps.length=pv.length/\∀(j:Nat) (s:SV) (v:Value),ps[j]?=some s->pv[j]?=some v->SR P w G s v:=by
 unfold fM at h;split at h
 .rename_i acc hacc;obtain⟨p1,p2⟩:=vT h;rw[DF]at p1;have key:=AAz ho hsl hacc hx.2 (λj s h=>oe);refine⟨by rw[p1,hx.1],λj s v hj hv=>?_⟩;have hlt:j<ps.length:=(A8.1 hj).1;have:=key j s (p2 j j s (by rw[CG o5]) hj);rw[AG,hv]at this;exact this
 .cases h
theorem wV(ho:∀k o,σ k=some o->ObjOK P fr w G k o){k:Kp}{st:St}(hst:st.sto=σ){tv:Nat->Value}(hsl:∀t,SR P w G (st.slots t) (tv t)){pv:List Value}{x:KX}(hx:KxOK w G.im tv pv x){vs:List SV}(h:SX k x st=some vs):
 vs.length=(k.tm.map tv++pv).length/\∀(j:Nat) (s:SV) (v:Value),vs[j]?=some s->(k.tm.map tv++pv)[j]?=some v->SR P w G s v:=by
 unfold SX at h;split at h
 .rename_i ps hps;cases h;subst hst;obtain⟨e1,e2⟩:=AB0 ho hsl hx hps;refine⟨by simp[e1],YE oc (λj s v hj hv=>?_) e2⟩;rw[AV]at hj hv;cases ht:k.tm[j]? with
  |none=>rw[ht]at hj;cases hj
  |some t=>
   rw[ht]at hj hv;cases hj;cases hv;exact hsl t
 .cases h
theorem AB1(ho:∀k o,σ k=some o->ObjOK P fr w G k o){k:Kp}{st:St}(hst:st.sto=σ){tv:Nat->Value}(hsl:∀t,SR P w G (st.slots t) (tv t)){x:KX}{vs:List SV}(h:WU k x st=some vs):
 ∃pv,KxOK w G.im tv pv x/\vs.length=(k.tm.map tv++pv).length/\∀(j:Nat) (s:SV) (v:Value),vs[j]?=some s->(k.tm.map tv++pv)[j]?=some v->SR P w G s v:=by
 unfold WU at h;split at h
 .rename_i ps hps;cases h;subst hst;obtain⟨pv,e1,e0,e2⟩:=vU ho hsl hps;refine⟨pv,e0,by simp[e1],YE oc (λj s v hj hv=>?_) e2⟩;rw[AV]at hj hv;cases ht:k.tm[j]? with
  |none=>rw[ht]at hj;cases hj
  |some t=>
   rw[ht]at hj hv;cases hj;cases hv;exact hsl t
 .cases h
theorem jC{tv:Nat->Value}:∀{tm:List Nat} {l:List SV},(∀(j:Nat) (s:SV) (t:Nat),l[j]?=some s->tm[j]?=some t->SR P w G s (tv t))->∀t,SR P w G (JK tm l t) (tv t):=by
 intro tm;induction tm with
 |nil=>intro l _ t;simp only[JK];exact SR.undef _
 |cons d tm ih=>
  intro l hl t;cases l with
  |nil=>simp only[JK];exact SR.undef _
  |cons s l=>
   simp only[JK];cases hb:Nat.beq t d with
   |true=>
    have e:=A2 hb;subst e;exact hl 0 s t rfl rfl
   |false=>exact ih (λj s' t' h1 h2=>hl (j+1) s' t' ot oq) t
theorem AB2:∀{l:List SV} {vs:List Value},l.length=vs.length->(∀(j:Nat) (s:SV) (v:Value),l[j]?=some s->vs[j]?=some v->SR P w G s v)->CR P w G (SV.ofList l) vs:=by
 intro l;induction l with
 |nil=>intro vs h _;exact AJ h.symm
 |cons s l ih=>
  intro vs h hs;cases vs with
  |nil=>cases h
  |cons v vs=>exact⟨v,vs,rfl,hs 0 s v rfl rfl,ih (by simpa using h) λj s' v' h1 h2=>hs (j+1) s' v' ot oq⟩
def KeysOK(tv:Nat->Value)(G:Gh):List Kn->Nat->Prop
 |[],_=>True
 |q::r,n=>match q.bx with
  |true=>(∃b,tv q.p=.pointer (some ⟨b,0,none⟩)/\G.box n=some (b,.bool))/\KeysOK tv G r (n+1)
  |false=>KeysOK tv G r n
theorem KeysOK.mono{tv:Nat->Value}(h:∀k b,G.box k=some b->G'.box k=some b):∀{kn:List Kn} {n:Nat},KeysOK tv G kn n->KeysOK tv G' kn n:=by
 intro kn;induction kn with
 |nil=>intro n _;trivial
 |cons q kn ih=>
  intro n hk;unfold KeysOK at hk ⊢;cases hb:q.bx with
  |true=>rw[hb]at hk;exact⟨let ⟨b,h1,h2⟩:=hk.1;⟨b,h1,h _ _ h2⟩,ih hk.2⟩
  |false=>rw[hb]at hk;exact ih hk
theorem KeysOK.look{tv:Nat->Value}:∀{kn:List Kn} {n p k:Nat},KeysOK tv G kn n->FG (GO kn n) p=some k->∃b,tv p=.pointer (some ⟨b,0,none⟩)/\G.box k=some (b,.bool):=by
 intro kn;induction kn with
 |nil=>intro n p k _ h;cases h
 |cons q kn ih=>
  intro n p k hk h;unfold KeysOK at hk;unfold GO at h;cases hb:q.bx with
  |true=>
   rw[hb]at hk h;simp only[AA]at h;rw[QX]at h;by_cases e:p=q.p
   .rw[if_pos e]at h;cases h;rw[e];exact hk.1
   .rw[if_neg e]at h;exact ih hk.2 h
  |false=>
   rw[hb]at hk h;exact ih hk h
theorem MemS.ghostB(hm:MemS P fr free σ w G){k:Nat}(hk:free k)(b:Nat)(t:Ty):
 GLe w G w (G.addBox k b t)/\MemS P fr (λj=>free j/\j≠k) σ w (G.addBox k b t):=by
 have hf:=hm.fresh k hk
 have hle:GLe w G w (G.addBox k b t):=by
  refine⟨Ext.refl _ _,λj g u h=>h,λj t h=>h,λj b' h=>?_⟩;have:j≠k:=λe=>by rw[e,hf.2.2.1]at h;cases h
  simp only[Gh.addBox,if_neg this];exact h
 refine⟨hle,λj o h=>(hm.objs j o h).keep hle λb _=>⟨rfl,λ_ h=>h,λh=>h⟩,λi j o1 o2 b' hi hj hbi hbj=>?_,hm.after,λj hj=>?_⟩
 .rw[GH (hm.objs i o1 hi) hle]at hbi;rw[GH (hm.objs j o2 hj) hle]at hbj;exact hm.sep i j o1 o2 b' hi hj hbi hbj
 .have hfj:=hm.fresh j hj.1;exact⟨hfj.1,hfj.2.1,by simp only[Gh.addBox,if_neg hj.2];exact hfj.2.2.1,hfj.2.2.2⟩
theorem AB3{tv:Nat->Value}{pv:List Value}:∀{kn:List Kn} {n:Nat} {G:Gh} {free:Nat->Prop},MemS P fr free σ w G->(∀q∈kn,JA w G.im tv pv q)->(∀k,n<=k->k<n+(GO kn n).length->free k)->
 ∃G',GLe w G w G'/\G'.im=G.im/\MemS P fr (λj=>free j/\¬(n<=j/\j<n+(GO kn n).length)) σ w G'/\KeysOK tv G' kn n:=by
 intro kn;induction kn with
 |nil=>intro n G free hm _ _;exact⟨G,GLe.refl _ _,rfl,hm.shrink λj h=>h.1,trivial⟩
 |cons q kn ih=>
  intro n G free hm hk hfree;have hq:=hk q AI;have hk':∀q'∈kn,JA w G.im tv pv q':=λq' h=>hk q' (AD _ h);unfold JA at hq;cases hb:q.bx with
  |true=>
   rw[hb]at hq;obtain⟨b,e1,_⟩:=hq;have hlen:(GO (q::kn) n).length=(GO kn (n+1)).length+1:=by simp[GO,hb]
   rw[hlen]at hfree ⊢;obtain⟨h1,h2⟩:=hm.ghostB (hfree n (AB _) o5) b .bool;obtain⟨G',g1,g2,g3,g4⟩:=ih (n:=n+1) h2 hk' (λk h1 h2=>⟨hfree k o5 o5,o5⟩);refine⟨G',h1.trans g1,g2,g3.shrink λj hj=>⟨⟨hj.1,λe=>hj.2 ⟨o5,o5⟩⟩,λe=>hj.2 ⟨o5,o5⟩⟩,?_⟩;unfold KeysOK;rw[hb];exact⟨⟨b,e1,g1.box _ _ (by simp[Gh.addBox])⟩,g4⟩
  |false=>
   have hlen:(GO (q::kn) n).length=(GO kn n).length:=by simp[GO,hb]
   rw[hlen]at hfree ⊢;obtain⟨G',g1,g2,g3,g4⟩:=ih (n:=n) hm hk' hfree;refine⟨G',g1,g2,g3,?_⟩;unfold KeysOK;rw[hb];exact g4
theorem wW{tv:Nat->Value}{pv:List Value}{tm:List Nat}{svs:List SV}{kn:List Kn}{n:Nat}(hlen:svs.length=(tm.map tv++pv).length)(hs:∀(j:Nat) (s:SV) (v:Value),svs[j]?=some s->(tm.map tv++pv)[j]?=some v->SR P w G s v)
 (hk:KeysOK tv G kn n)(c:Nat):SR P w G (SW tm svs (GO kn n) c) (IB tv pv c):=by
 unfold SW IB;by_cases hc:c<1000000
 .rw[if_pos hc,show Nat.blt c 1000000=true by simpa using hc];simp only[AA];split
  .rename_i k hlk;obtain⟨b,e1,e2⟩:=hk.look hlk;rw[e1];exact⟨_,rfl,b,.bool,0,e2,rfl,⟨.bool,rfl,rfl⟩,rfl⟩
  .exact jC (λj s t hj ht=>hs j s _ hj (by
    have hlt:j<tm.length:=(A8.1 ht).1;rw[AQ (by simpa using hlt),AV,ht];rfl)) c
 .rw[if_neg hc,show Nat.blt c 1000000=false by rw[<-BO];simpa using hc];simp only[AC];rcases CL (tm.length+(c-1000000)) svs.length with hlt|hge
  .refine hs (tm.length+(c-1000000)) _ _ ?_ ?_
   .rw[AG,AR,A0 hlt];rfl
   .rw[AZ oc,AG];simp only[B2,Nat.add_sub_cancel_left];rw[hlen,A6,B2]at hlt;rw[A0 o5];rfl
  .rw[AG,AR,B9 hge];exact SR.undef _
theorem AB4{tv:Nat->Value}{pv:List Value}{tm:List Nat}{svs:List SV}{kn:List Kn}{n:Nat}(hlen:svs.length=(tm.map tv++pv).length)(hs:∀(j:Nat) (s:SV) (v:Value),svs[j]?=some s->(tm.map tv++pv)[j]?=some v->SR P w G s v)
 (hk:KeysOK tv G kn n)(q:Kn):CR P w G (P_ tm svs (GO kn n) q) (q.caps.map (IB tv pv)):=
 AB2 oc λj s v hj hv=>by
  rw[AV]at hj hv;cases hc:q.caps[j]? with
  |none=>rw[hc]at hj;cases hj
  |some c=>
   rw[hc]at hj hv;cases hj;cases hv;exact wW hlen hs hk c
theorem AB5{tv:Nat->Value}{pv:List Value}{tm:List Nat}{svs:List SV}{ky:List (Nat×Nat)}(hcaps:∀q,CR P w G (P_ tm svs ky q) (q.caps.map (IB tv pv))):
 ∀{kn:List Kn} {n:Nat},MemS P fr free σ w G->(∀q∈kn,JA w G.im tv pv q)->KeysOK tv G kn n->(∀k,n<=k->k<n+(GO kn n).length->¬free k)->MemS P fr free (EK σ (K2 tm svs ky kn n)) w G:=by
 intro kn;induction kn with
 |nil=>intro n hm _ _ _;exact hm
 |cons q kn ih=>
  intro n hm hk hkeys hfree;have hq:=hk q AI;have hk':∀q'∈kn,JA w G.im tv pv q':=λq' h=>hk q' (AD _ h);unfold JA at hq;unfold KeysOK at hkeys;cases hb:q.bx with
  |true=>
   rw[hb]at hq hkeys;obtain⟨b,e1,e2,e3⟩:=hq;obtain⟨⟨b',d1,d2⟩,hkeys⟩:=hkeys;rw[e1]at d1;injection d1 with d1;injection d1 with d1;injection d1 with d1 _ _;subst d1;have hlen:(GO (q::kn) n).length=(GO kn (n+1)).length+1:=by simp[GO,hb]
   rw[hlen]at hfree;have hobs:K2 tm svs ky (q::kn) n=[(n,some (.kn q.f (P_ tm svs ky q)))]++K2 tm svs ky kn (n+1):=by simp[K2,hb]
   rw[hobs,FW];exact(ih hm hk' hkeys (λk h1 h2=>hfree k o5 o5)).backO ⟨b,_,d2,e2,e3,by simpa using hcaps q⟩ (hfree n (AB _) o5) λb hb=>hb.elim
  |false=>
   rw[hb]at hkeys;have hlen:(GO (q::kn) n).length=(GO kn n).length:=by simp[GO,hb]
   rw[hlen]at hfree;have hobs:K2 tm svs ky (q::kn) n=K2 tm svs ky kn n:=by simp[K2,hb]
   rw[hobs];exact ih hm hk' hkeys hfree
theorem AB6{tv:Nat->Value}{pv:List Value}{tm:List Nat}{svs:List SV}{ky:List (Nat×Nat)}(hcaps:∀q,CR P w G (P_ tm svs ky q) (q.caps.map (IB tv pv)))(hbase:∀c,SR P w G (SW tm svs ky c) (IB tv pv c)):
 ∀{kn:List Kn} {t:Nat} {s:SV},(∀q∈kn,JA w G.im tv pv q/\q.p<1000000)->Q0 tm svs ky kn t=some s->SR P w G s (tv t):=by
 intro kn;induction kn with
 |nil=>intro t s _ h;cases h
 |cons q kn ih=>
  intro t s hk h;simp only[Q0]at h;cases hb:Nat.beq t q.p with
  |false=>rw[hb]at h;exact ih (λq' h=>hk q' (AD _ h)) h
  |true=>
   rw[hb]at h;have e:=A2 hb;simp only[AA,AM]at h;subst h;obtain⟨hq,hp⟩:=hk q AI;cases hbx:q.bx with
   |true=>
    simp only[AA];have:=hbase q.p;unfold IB at this;rw[if_pos hp]at this;rw[e];exact this
   |false=>
    simp only[AC];unfold JA at hq;rw[hbx]at hq;have hq:tv q.p=LJ tv pv q:=hq;rw[e,hq];exact⟨_,rfl,_,rfl,by simpa using hcaps q⟩
theorem wX{x:KX}(h:LC x=true):∀q∈x.kn,q.p<1000000:=λq hq=>by
 unfold LC at h;rw[BG]at h;simpa using h q hq
theorem wY(hm:MemS P fr free σ w G){tv:Nat->Value}{pv:List Value}{x:KX}(hx:KxOK w G.im tv pv x)(hlow:LC x=true){tm:List Nat}{svs:List SV}(hlen:svs.length=(tm.map tv++pv).length)
 (hs:∀(j:Nat) (s:SV) (v:Value),svs[j]?=some s->(tm.map tv++pv)[j]?=some v->SR P w G s v){n:Nat}(hfree:∀k,n<=k->k<n+(GO x.kn n).length->free k):
 ∃G',GLe w G w G'/\G'.im=G.im/\MemS P fr (λj=>free j/\¬(n<=j/\j<n+(GO x.kn n).length)) (EK σ (K2 tm svs (GO x.kn n) x.kn n)) w G'/\
  ∀t s,Q0 tm svs (GO x.kn n) x.kn t=some s→SR P w G' s (tv t):=by
 obtain⟨G',g1,g2,g3,g4⟩:=AB3 hm hx.2 hfree;have hs':∀(j:Nat) (s:SV) (v:Value),svs[j]?=some s->(tm.map tv++pv)[j]?=some v->SR P w G' s v:=λj s v h1 h2=>(hs j s v h1 h2).mono g1;have hx':∀q∈x.kn,JA w G'.im tv pv q:=λq hq=>by rw[g2];exact hx.2 q hq
 have hc:=AB4 hlen hs' g4;exact⟨G',g1,g2,AB5 hc g3 hx' g4 (λk h1 h2 h=>h.2 ⟨h1,h2⟩),λt s h=>AB6 hc (wW hlen hs' g4) (λq hq=>⟨hx' q hq,wX hlow q hq⟩) h⟩
theorem jD{N:Nat}{k:Kp}{x:KX}{v:TupR k.sh}{a:Act}{bs:List Nat}{pv:List Value}(hd:a.defers=[])(hN:a.tmps.size=N)(hfx:∀t v,fr.fx t=some v->a.tmps.getD t undef=v)(haf:After fr.gv fr.w0 fr.i0 w I)(hdr:fr.dr=true->fr.w0.drawn<=w.drawn)
 (hx:KxOK w I (λt=>a.tmps.getD t undef) pv x)(hlow:LC x=true)(h:ShL P w I k.sh v ((k.tm.map λt=>a.tmps.getD t undef)++pv) bs)(hnd:bs.Nodup)(hbs:∀b∈bs,fr.owned b):∃G',SimN P N fr (QA k x v) a w G':=by
 let G0:Gh:=⟨I,λ_ _=>none,λ_=>none,λ_=>none⟩
 have hm0:MemS P fr (λ_=>True) (λ_=>none) w G0:=⟨λk o h=>(oe),λj k o o' b h=>(oe),haf,λk _=>⟨rfl,rfl,rfl,λ_=>rfl⟩⟩;obtain⟨G1,h1,h2,h3,h4⟩:=TV (n:=0) (G:=G0) hm0 h hnd (λb hb=>⟨hbs b hb,λj o h=>(oe)⟩) (λ_ _ _=>trivial);have hlen:((F5 k.sh v 0).map (·.sv)).length=((k.tm.map λt=>a.tmps.getD t undef)++pv).length:=by rw[B2,h3,h2]
 have hsv:∀(j:Nat) (s:SV) (v':Value),((F5 k.sh v 0).map (·.sv))[j]?=some s->((k.tm.map λt=>a.tmps.getD t undef)++pv)[j]?=some v'->SR P w G1 s v':=by
  intro j s v' hj hv;rw[AV]at hj;cases hm:(F5 k.sh v 0)[j]? with
  |none=>rw[hm]at hj;cases hj
  |some m=>rw[hm]at hj;cases hj;exact h4 j m v' hm hv
 have en:KO (F5 k.sh v 0) 0=0+FM k.sh:=wQ;obtain⟨G2,g1,g2,g3,g4⟩:=wY (n:=KO (F5 k.sh v 0) 0) h1.mem (by rw[h1.im];exact hx) hlow hlen hsv (λj h1 h2=>⟨trivial,o5⟩)
 have hsr:∀t,SR P w G2 ((QA k x v).slots t) (a.tmps.getD t undef):=by
  intro t;show SR P w G2 (fO _ _ _ _ t) _;unfold fO;split
  .rename_i s hs;exact g4 t s hs
  .exact jC (tv:=λt=>a.tmps.getD t undef) (λj s t hj ht=>(hsv j s _ hj (by
    have hlt:j<k.tm.length:=(A8.1 ht).1;rw[AQ (by simpa using hlt),AV,ht];rfl)).mono g1) t
 refine⟨G2,λt=>(hsr t).slotOK,hd,hN,hfx,λt tk g s h=>?_,?_,hdr⟩
 .have:=hsr t;rw[h]at this;exact this.not_grd
 .have e:(QA k x v).sto=EK (λ_=>none) (K2 k.tm ((F5 k.sh v 0).map (·.sv)) (GO x.kn (KO (F5 k.sh v 0) 0)) x.kn (KO (F5 k.sh v 0) 0)++(F5 k.sh v 0).flatMap (·.obs)):=funext λi=>wP _ i;rw[e,FW];refine g3.shrink λj hj=>?_;have hj:KO (F5 k.sh v 0) 0+(GO x.kn (KO (F5 k.sh v 0) 0)).length<=j:=hj;exact⟨⟨trivial,o5⟩,o5⟩
theorem wZ{wrs:List Nat}:∀{kn:List Kn},LB wrs kn=true->∀q∈kn,EV q.p wrs=false/\∀c∈q.caps,c<1000000->EV c wrs=false:=by
 intro kn;induction kn with
 |nil=>intro _ q hq;cases hq
 |cons q kn ih=>
  intro h q' hq';simp only[LB,A4,BI]at h;rcases A_.1 hq' with rfl|hq'
  .refine⟨h.1.1,λc hc hlt=>?_⟩;have:=BG.1 h.1.2 c hc;simp only[BH,BI]at this;rcases this with h1|h1
   .have:=BX h1;omega
   .exact h1
  .exact ih h.2 q' hq'
theorem w_{N:Nat}{st:St}{a a':Act}{wrs ks bs bs':List Nat}{I':Im}{k:Kp}{x:KX}{pv:List Value}{y:TupR k.sh}(hs:SimN P N fr st a w G)(hblk:BlksOf st.sto G ks bs)
 (hwr:∀d,EV d wrs=true->fr.fx d=none)(hd:a'.defers=[])(hN:a'.tmps.size=N)(hfr:∀t,EV t wrs=false->a'.tmps.getD t undef=a.tmps.getD t undef)
 (hx:KxOK w G.im (λt=>a.tmps.getD t undef) pv x)(hlow:LC x=true)(hxf:LB wrs x.kn=true)
 (haft:After (·∈bs) w G.im w' I')(hdr:fr.dr=true->w.drawn<=w'.drawn)(hsh:ShL P w' I' k.sh y ((k.tm.map λt=>a'.tmps.getD t undef)++pv) bs')(hnd:bs'.Nodup)(hown:∀b∈bs',b∈bs\/w.heap.size<=b):
 ∃G',SimN P N fr (QB st wrs ks x k y) a' w' G':=by
 obtain⟨g1,g2⟩:=hs.mem.called hblk haft
 obtain ⟨G1,h1,h2,h3,h4⟩:=TV (n:=st.n) g2 hsh hnd (λb hb=>by
  refine⟨?_,λj o ho hbj=>?_⟩
  .rcases hown b hb with h|h
   .obtain⟨k',_,o,ho,hbo⟩:=hblk b h;exact M1 (hs.mem.objs k' o ho) hbo
   .exact .inl (AU hs.mem.after.size h)
  .have ho':j ∉ ks/\st.sto j=some o:=by
    rw[JB]at ho;by_cases hj:j∈ks
    .rw[if_pos hj]at ho;cases ho
    .rw[if_neg hj]at ho;exact⟨hj,ho⟩
   have hbj0:Bk G j o b:=by rw[<-GH (hs.mem.objs j o ho'.2) g1];exact hbj
   rcases hown b hb with h|h
   .obtain⟨k',hk,o2,ho2,hbo⟩:=hblk b h;have:=hs.mem.sep j k' o o2 b ho'.2 ho2 hbj0 hbo;subst this;exact ho'.1 hk
   .have:=HP (hs.mem.objs j o ho'.2) hbj0;omega) (λk' h1 _=>h1)
 have hlen:((F5 k.sh y st.n).map (·.sv)).length=((k.tm.map λt=>a'.tmps.getD t undef)++pv).length:=by rw[B2,h3,h2]
 have hsv:∀(j:Nat) (s:SV) (v':Value),((F5 k.sh y st.n).map (·.sv))[j]?=some s->((k.tm.map λt=>a'.tmps.getD t undef)++pv)[j]?=some v'->SR P w' G1 s v':=by
  intro j s v' hj hv;rw[AV]at hj;cases hm:(F5 k.sh y st.n)[j]? with
  |none=>rw[hm]at hj;cases hj
  |some m=>rw[hm]at hj;cases hj;exact h4 j m v' hm hv
 have hx1:KxOK w' G1.im (λt=>a'.tmps.getD t undef) pv x:=by
  rw[h1.im];refine hx.ext haft.ext λq hq=>?_;obtain⟨q1,q2⟩:=wZ hxf q hq;exact⟨hfr _ q1,λc hc hlt=>hfr _ (q2 c hc hlt)⟩
 obtain⟨G2,d1,d2,d3,d4⟩:=wY (n:=st.n+FM k.sh) h1.mem hx1 hlow hlen hsv (λj h1 h2=>⟨by show st.n<=j;omega,o5⟩)
 have hsr:∀t,SR P w' G2 ((QB st wrs ks x k y).slots t) (a'.tmps.getD t undef):=by
  intro t;simp only[QB];split
  .rename_i s hs;exact d4 t s hs
  .cases ht:EV t k.tm with
   |true=>
    exact jC (tv:=λt=>a'.tmps.getD t undef) (λj s t hj ht=>(hsv j s _ hj (by
     have hlt:j<k.tm.length:=(A8.1 ht).1;rw[AQ (by simpa using hlt),AV,ht];rfl)).mono d1) t
   |false=>
    simp only[AC];cases hw:EV t wrs with
    |true=>exact SR.undef _
    |false=>
     simp only[AC];rw[hfr t hw];exact(((hs.sr (.tmp t)).mono g1).mono h1.le).mono d1
 refine⟨G2,λt=>(hsr t).slotOK,hd,hN,λt v hv=>?_,λt tk g s h=>?_,?_,λh=>AU (hs.drawn h) (hdr h)⟩
 .cases hw:EV t wrs with
  |true=>rw[hwr t hw]at hv;cases hv
  |false=>rw[hfr t hw];exact hs.fix t v hv
 .have:=hsr t;rw[h]at this;exact this.not_grd
 .simp only[QB];rw[FW,FW];refine d3.shrink λj hj=>?_;have hj:st.n+FM k.sh+(GO x.kn (st.n+FM k.sh)).length<=j:=hj;exact⟨⟨by show st.n<=j;omega,o5⟩,o5⟩
theorem AB7{Ω:Type}{N:Nat}{K:Ex->St->Option Ω}{ω:Ω}{st:St}{a a':Act}{e:Exit}{wrs ks bs:List Nat}{I':Im}{x:KX}{pv:List Value}(hs:SimN P N fr st a w G)(hblk:BlksOf st.sto G ks bs)
 (hwr:∀d,EV d wrs=true->fr.fx d=none)(hd:a'.defers=[])(hN:a'.tmps.size=N)(hfr:∀t,EV t wrs=false->a'.tmps.getD t undef=a.tmps.getD t undef)
 (hx:KxOK w G.im (λt=>a.tmps.getD t undef) pv x)(hlow:LC x=true)(hxf:LB wrs x.kn=true)(haft:After (·∈bs) w G.im w' I')(hdr:fr.dr=true->w.drawn<=w'.drawn):
 ∀{l:List (Ex×Kp)} {y:GN l},fP st wrs ks x l y K=some ω->YN P w' I' a' e w.heap.size bs pv l y->
 ∃e' st' G',e=HT e'/\SimN P N fr st' a' w' G'/\K e' st'=some ω:=by
 intro l;induction l with
 |nil=>intro y;exact Empty.elim y
 |cons o r ih=>
  intro y h hq;cases r with
  |nil=>
   obtain⟨h1,bs',h2,h3,h4⟩:=hq;obtain⟨G',h5⟩:=w_ hs hblk hwr hd hN hfr hx hlow hxf haft hdr h2 h3 h4;exact⟨o.1,_,G',h1,h5,h⟩
  |cons p r=>
   cases y with
   |inl y=>
    obtain⟨h1,bs',h2,h3,h4⟩:=hq;obtain⟨G',h5⟩:=w_ hs hblk hwr hd hN hfr hx hlow hxf haft hdr h2 h3 h4;exact⟨o.1,_,G',h1,h5,h⟩
   |inr y=>exact ih (y:=y) h hq
variable{P:Program}{fr:Fr}{free free':Nat->Prop}{self:Nat}{σ σ':SSo}{w w':World}{G G':Gh}{I:Im}
theorem jE{Ω:Type}{E:Env}(hE:EnvOK P fr.dr E){N:Nat}{s:CSpec}{c:Code}(hwr:∀d,EV d s.wrs=true->fr.fx d=none)(hc:CutOK P fr.dr N s c){st:St}{K:Ex->St->Option Ω}{ω:Ω}{a:Act}{Q:Exit->Act->World->Prop}
 (h:TH E s st K=some ω)(hs:SimN P N fr st a w G)(hQ:∀e st' a' w' G',SimN P N fr st' a' w' G'->K e st'=some ω->Q (HT e) a' w'):c.wp P Q a w:=by
 unfold TH at h;unfold CutOK at hc;cases hkx:s.kx with
 |some x=>
 rw[hkx]at h hc;simp only at h hc;unfold tJ at h;split at h
 .rename_i vs hvs0
  obtain⟨hxf,hlow,hvs⟩:LB s.wrs x.kn=true/\LC x=true/\WU s.inn x st=some vs:=by
   cases hb:(LB s.wrs x.kn&&LC x)with
   |false=>rw[hb]at hvs0;cases hvs0
   |true=>
    rw[hb]at hvs0;simp only[A4]at hb;exact⟨hb.1,hb.2,hvs0⟩
  split at h
  .rename_i v hv;obtain⟨y,h1,h2⟩:=BT.1 h;obtain⟨pv,e0,e1,e2⟩:=AB1 (λk o h=>hs.mem.objs k o h) rfl (λt=>hs.sr (.tmp t)) hvs;obtain⟨G1,gle,hm1⟩:=TZ hs.mem s.inn.sh vs;have hs1:SimN P N fr (fQ s.inn vs st) a w G1:=⟨λt=>(hs.slots t).mono gle λ_ _ _ _=>Iff.rfl,hs.defs,hs.size,hs.fix,hs.nogrd,hm1,hs.drawn⟩;have hx1:KxOK w G1.im (λt=>a.tmps.getD t undef) pv x:=e0.ext gle.ext λq _=>⟨rfl,λ_ _ _=>rfl⟩;obtain⟨bs,p1,p2,p3⟩:=NN hm1 hE.fs (vs:=(s.inn.tm.map λt=>a.tmps.getD t undef)++pv) hv e1 (λj s v h1 h2=>(e2 j s v h1 h2).mono gle);refine wp_mono (hc w G1.im a v bs pv hm1.after.mem hs.defs hs.size hx1 p1 p2 y h1) λe a' w' hq=>?_;obtain⟨q1,q2,q3,qd,I',q4,q5⟩:=hq;obtain⟨e',st',G',rfl,h3,h4⟩:=AB7 hs1 p3 hwr q1 q2 q3 hx1 hlow hxf q4 qd h2 q5;exact hQ e' _ a' w' G' h3 h4
  .cases h
 .cases h
 |none=>
 rw[hkx]at h hc;simp only at h hc;split at h
 .rename_i v hv0
  obtain⟨hal,hv⟩:MJ s.al st.slots=true/\LX E.fs s.inn (IR s.inn st)=some v:=by
   cases hb:MJ s.al st.slots with
   |false=>rw[hb]at hv0;cases hv0
   |true=>rw[hb]at hv0;exact⟨rfl,hv0⟩
  have hal:=wS hs hal;obtain⟨G,_,hs⟩:=hs.frz s.inn;obtain⟨bs,p1,p2,p3⟩:=wU hE.fs hs hv;have hc:=hc w G.im a v bs hs.mem.after.mem hs.defs hs.size hal p1 p2
  have fin:∀x,(SP (IR s.inn st) s.wrs (G5 (IR s.inn st).sto s.inn.sh (s.inn.tm.map st.slots)) s.outs x λe st'=>K e (SO s.al s.wrs st'))=some ω->∀e a' w',KV P fr.dr N s x a w G.im bs e a' w'->Q e a' w':=by
   intro x h2 e a' w' hq;obtain⟨q1,q2,q3,qd,I',q4,q5⟩:=hq;obtain⟨e',st',G',rfl,h3,h4⟩:=AAx hs p3 hwr q1 q2 q3 q4 qd h2 q5;exact hQ e' _ a' w' G' (AAv h3 hal q3) h4
  cases hnd:s.nd with
  |none=>
   rw[hnd]at h hc;obtain⟨x,h1,h2⟩:=BT.1 h;exact wp_mono (hc x h1) λe a' w' hq=>fin x h2 e a' w' hq
  |some d=>
   rw[hnd]at h hc;have hall:=A7w h;refine wp_mono (hc λo ho=>?_) λe a' w' ⟨o,x,hS,hx,hq⟩=>?_
   .obtain⟨x,hx,_⟩:=BT.1 (hall o ho);exact⟨x,hx⟩
   .obtain⟨x',hx',h2⟩:=BT.1 (hall o hS);rw[hx]at hx';cases hx';exact fin x h2 e a' w' hq
 .cases h
theorem OJ{Ω:Type}{E:Env}(hE:EnvOK P fr.dr E)(hmix:P.follows .mixedOrders=true){N:Nat}{ok:Nat->Bool}(hok:∀d,ok d=true->d<N/\fr.fx d=none):
 ∀(c:Code) (n:Nat) (st:St) (a:Act) (w:World) (G:Gh) (K:Ex->St->Option Ω) (ω:Ω) (Q:Exit->Act->World->Prop),
 HC ok c=true->K9 P fr.dr N ok E c n->IT E c n st K=some ω->SimN P N fr st a w G->(∀e st' a' w' G',SimN P N fr st' a' w' G'->K e st'=some ω->Q (HT e) a' w')->c.wp P Q a w:=by
 have hall:∀{l:List Nat},l.all ok=true->∀d,EV d l=true->fr.fx d=none:=by
  intro l h d hd;rw[BG]at h;exact(hok d (h d (KT.1 hd))).2
 intro c;induction c with
 |skip=>intro n st a w G K ω Q _ _ h hs hQ;exact wp_skip (hQ .normal st a w G hs h)
 |region id ops draw=>
  intro n st a w G K ω Q hd _ h hs hQ;refine AAu hE hmix (λj o d hj ho=>?_) h hs λst' a' w' G' hs' hK=>hQ .normal st' a' w' G' hs' hK;simp only[HC,BG]at hd;have:=hd o (B5 om);rw[ho]at this;exact hok d this
 |seq x y ihx ihy=>
  intro n st a w G K ω Q hd hc h hs hQ;simp only[HC,A4]at hd;simp only[IT]at h;simp only[K9]at hc;split at h
  .rename_i s hcut;rw[hcut]at hc;exact jE hE (hall hc.1) hc.2 h hs hQ
  .rename_i hcut;rw[hcut]at hc;refine wp_seq (ihx n st a w G _ ω _ hd.1 hc.1 h hs λe st' a' w' G' hs' hK=>j8 ?_);cases e with
   |normal=>exact ihy _ st' a' w' G' K ω Q hd.2 hc.2 hK hs' hQ
   |exit i=>exact hQ (.exit i) st' a' w' G' hs' hK
   |ret=>exact hQ .ret st' a' w' G' hs' hK
 |cond c x y ihx ihy=>
  intro n st a w G K ω Q hd hc h hs hQ;simp only[HC,A4]at hd;simp only[IT]at h;simp only[K9]at hc;split at h
  .rename_i s hcut;rw[hcut]at hc;exact jE hE (hall hc.1) hc.2 h hs hQ
  .rename_i hcut;rw[hcut]at hc;split at h
   .rename_i t ht;have hv:=hs.sr c;rw[ht]at hv;have hv:=hv.bool;cases t with
    |true=>exact wp_cond_true hv (ihx _ st a w G K ω Q hd.1 hc.1 h hs hQ)
    |false=>exact wp_cond_false hv (ihy _ st a w G K ω Q hd.2 hc.2 h hs hQ)
   .cases h
 |block id b ih=>
  intro n st a w G K ω Q hd hc h hs hQ;refine wp_block (ih n st a w G _ ω _ hd hc h hs λe st' a' w' G' hs' hK=>?_);cases e with
  |normal=>exact hQ .normal st' a' w' G' hs' hK
  |ret=>exact hQ .ret st' a' w' G' hs' hK
  |exit i=>
   simp only[HT,Exit.inBlock];simp only at hK;by_cases e:i=id
   .subst e;rw[if_pos rfl];rw[CH]at hK;exact hQ .normal st' a' w' G' hs' hK
   .rw[if_neg e];rw[show Nat.beq i id=false by rw[<-BO];exact λhh=>e (A2 hh)]at hK;exact hQ (.exit i) st' a' w' G' hs' hK
 |loop b ih=>
  intro n st a w G K ω Q hd hc h hs hQ;simp only[IT]at h;simp only[K9]at hc;split at h
  .rename_i s hcut;rw[hcut]at hc;exact jE hE (hall hc.1) hc.2 h hs hQ
  .cases h
 |exit i=>intro n st a w G K ω Q _ _ h hs hQ;exact wp_exit (hQ (.exit i) st a w G hs h)
 |ret=>intro n st a w G K ω Q _ _ h hs hQ;exact wp_ret (hQ .ret st a w G hs h)
 |_=>intro n st a w G K ω Q _ _ h;cases h
theorem AB8{E:Env}(hE:EnvOK P fr.dr E){N:Nat}{e:Ex}{st:St}{a:Act}(hs:SimN P N fr st a w G){bs:List Nat}(hgv:∀b,fr.gv b->b∈bs):∀{l:List (Ex×Kp)} {x:GN l},outPut E.fs l e st=some x->
 ∃I,After fr.gv fr.w0 fr.i0 w I/\YL P w I a (HT e) fr.w0.heap.size bs l x:=by
 have hsame:∀{e e':Ex},outPut.sameEx e e'=true->e'=e:=by
  intro e e' h;cases e<;>cases e'<;>first|rfl|cases h|skip
  have h:Nat.beq _ _=true:=h;rw[A2 h]
 have one:∀{o:Ex×Kp} {y:TupR o.2.sh},outPut.sameEx o.1 e=true->LX E.fs o.2 (IR o.2 st)=some y->
  ∃I,After fr.gv fr.w0 fr.i0 w I/\HT e=HT o.1/\∃bs',ShL P w I o.2.sh y (o.2.tm.map λt=>a.tmps.getD t undef) bs'/\bs'.Nodup/\∀b∈bs',b∈bs\/fr.w0.heap.size<=b:=by
  intro o y h1 h2;obtain⟨G0,_,hs⟩:=hs.frz o.2;obtain⟨bs',k1,k2,k3⟩:=wU hE.fs hs h2;refine⟨G0.im,hs.mem.after,by rw[hsame h1],bs',k1,k2,λb hb=>?_⟩;obtain⟨k,_,ob,ho,hbo⟩:=k3 b hb;rcases M1 (hs.mem.objs k ob ho) hbo with h|h
  .exact .inr h
  .exact .inl (hgv b h)
 intro l;induction l with
 |nil=>intro x h;cases h
 |cons o r ih=>
  intro x h;cases r with
  |nil=>
   simp only[outPut]at h;cases hb:outPut.sameEx o.1 e with
   |false=>rw[hb]at h;cases h
   |true=>rw[hb]at h;exact one hb h
  |cons p r=>
   simp only[outPut]at h;cases hb:outPut.sameEx o.1 e with
   |false=>
    rw[hb]at h;simp only[AC]at h;cases hr:outPut E.fs (p::r) e st with
    |none=>rw[hr]at h;cases h
    |some y=>
     rw[hr]at h;cases h;exact ih hr
   |true=>
    rw[hb]at h;simp only[AA]at h;cases hr:LX E.fs o.2 (IR o.2 st)with
    |none=>rw[hr]at h;cases h
    |some y=>
     rw[hr]at h;cases h;exact one hb hr
def HK(N:Nat)(wrs:List Nat)(d:Nat):Bool:=Nat.blt d N&&EV d wrs
def JC(dr:Bool)(wrs bs:List Nat)(a:Act)(w:World)(I:Im):Fr:=⟨(·∈bs),w,I,λt=>if EV t wrs then none else some (a.tmps.getD t undef),dr⟩
theorem QY{N:Nat}{wrs bs:List Nat}{a:Act}:∀d,HK N wrs d=true->d<N/\(JC dr wrs bs a w I).fx d=none:=by
 intro d h;simp only[HK,A4,BW]at h;exact⟨h.1,by simp[JC,h.2]⟩
theorem jF{N:Nat}{inn:Kp}{v:TupR inn.sh}{wrs bs:List Nat}{a:Act}(hm:GM w I)(hd:a.defers=[])(hN:a.tmps.size=N)(hsh:ShL P w I inn.sh v (inn.tm.map λt=>a.tmps.getD t undef) bs)(hnd:bs.Nodup):
 ∃G,SimN P N (JC dr wrs bs a w I) (H9 inn v) a w G:=
 jA hd hN (λt v h=>by
  have h:(if EV t wrs=true then none else some (a.tmps.getD t undef))=some v:=h;split at h
  .cases h
  .exact A3 h) (After.refl hm) (λ_=>AB _) hsh hnd λb hb=>.inr hb
theorem U2{E:Env}(hE:EnvOK P dr E){N:Nat}{s:CSpec}{x:GN s.outs}{bs:List Nat}{a0 a:Act}{w0:World}{e:Ex}{st:St}(hs:SimN P N (JC dr s.wrs bs a0 w0 I) st a w G)(h:outPut E.fs s.outs e st=some x):
 KV P dr N s x a0 w0 I bs (HT e) a w:=
 ⟨hs.defs,hs.size,λt ht=>hs.fix t _ (by simp[JC,ht]),hs.drawn,AB8 hE hs (λ_ h=>h) h⟩
theorem AB9{E:Env}(hE:EnvOK P dr E)(hmix:P.follows .mixedOrders=true){N n:Nat}{c:Operand}{x y:Code}{s:CSpec}
 (hd:HC (HK N s.wrs) (.cond c x y)=true)(hx:AllCuts P dr N (HK N s.wrs) (HB E x (n+1)))(hy:AllCuts P dr N (HK N s.wrs) (HB E y (n+1+IS x)))
 (hn:s.nd=none)(hkx:s.kx=none)(hF:∀v r,s.F v=some r->XH E c x y n s.al s.inn s.outs v=some r):CutOK P dr N s (.cond c x y):=by
 unfold CutOK;rw[hkx];intro w I a v bs hm hda hN hal hsh hnd;rw[hn];intro r h;have h:=hF v r h;obtain⟨G,hs⟩:=jF (wrs:=s.wrs) hm hda hN hsh hnd;have hs:=jB hs hal;simp only[HC,A4]at hd;unfold XH at h;split at h
 .rename_i t ht;have hv:=hs.sr c;rw[ht]at hv;have hv:=hv.bool;cases t with
  |true=>exact wp_cond_true hv (OJ hE hmix QY _ _ _ a w G _ r _ hd.1 (OI hx) h hs λe st' a' w' G' hs' hK=>U2 hE hs' hK)
  |false=>exact wp_cond_false hv (OJ hE hmix QY _ _ _ a w G _ r _ hd.2 (OI hy) h hs λe st' a' w' G' hs' hK=>U2 hE hs' hK)
 .cases h
theorem ABA{E:Env}(hE:EnvOK P dr E)(hmix:P.follows .mixedOrders=true){N n:Nat}{body:Code}{al:List (Nat×Nat)}{inn:Kp}{outs:List (Ex×Kp)}{wrs:List Nat}{F:Nat->TupR inn.sh->Option (GN outs)}
 (hd:HC (HK N wrs) body=true)(hc:AllCuts P dr N (HK N wrs) (HB E body n))(h0:∀v,F 0 v=none)(hF:∀k v r,F (k+1) v=some r->gW E body n al inn outs (F k) v=some r)(m:Nat):
 CutOK P dr N ⟨inn,outs,wrs,F m,al,none,none⟩ (.loop body):=by
 intro w0 I a0 v0 bs hm hda hN hal hsh hnd r h;obtain⟨G0,hs0⟩:=jF (wrs:=wrs) hm hda hN hsh hnd;have hs0:=jB hs0 hal;refine wp_loop_rounds m ?_
 have key:∀k v a w G,F k v=some r->SimN P N (JC dr wrs bs a0 w0 I) (PW al inn v) a w G->Code.rounds P body (KV P dr N ⟨inn,outs,wrs,F m,al,none,none⟩ r a0 w0 I bs) k a w:=by
  intro k;induction k with
  |zero=>intro v a w G h;rw[h0]at h;cases h
  |succ k ih=>
   intro v a w G h hs;rw[rounds_succ];refine OJ hE hmix QY _ _ _ a w G _ r _ hd (OI hc) (hF k v r h) hs λe st' a' w' G' hs' hK=>j8 ?_;cases e with
   |normal=>
    simp only at hK;split at hK
    .rename_i v' hv0
     obtain⟨hal',hv'⟩:MJ al st'.slots=true/\LX E.fs inn (IR inn st')=some v':=by
      cases hb:MJ al st'.slots with
      |false=>rw[hb]at hv0;cases hv0
      |true=>rw[hb]at hv0;exact⟨rfl,hv0⟩
     obtain⟨G'',hs''⟩:=AAw hE.fs hs' hv';exact ih v' a' w' G'' hK (jB hs'' (wS hs' hal'))
    .cases hK
   |exit i=>exact U2 (s:=⟨inn,outs,wrs,F m,al,none,none⟩) hE hs' hK
   |ret=>exact U2 (s:=⟨inn,outs,wrs,F m,al,none,none⟩) hE hs' hK
 exact key m v0 a0 w0 G0 h hs0
end
section
variable{P:Program}{fr:Fr}{free free':Nat->Prop}{self:Nat}{σ σ':SSo}{w w':World}{G G':Gh}{I:Im}
def GP:List Sh->Nat->List Nat
 |[],_=>[]
 | .box _::ps,i=>i::GP ps (i+1)
 | .io _ _::ps,i=>i::GP ps (i+1)
 | .bld _ false::ps,i=>i::GP ps (i+1)
 |_::ps,i=>GP ps (i+1)
theorem ShL.length:∀{l:List Sh} {x:TupR l} {vs:List Value} {bs:List Nat},ShL P w I l x vs bs->vs.length=l.length:=by
 intro l;induction l with
 |nil=>intro x vs bs h;rw[h.1];rfl
 |cons a l ih=>
  intro x vs bs h;cases l with
  |nil=>obtain⟨v,rfl,_⟩:=h;rfl
  |cons b l=>
   obtain⟨v,vs',b1,b2,rfl,_,_,h4⟩:=h;simp[ih h4]
theorem SimN.slot{N:Nat}{st:St}{a:Act}(hs:SimN P N fr st a w G)(t:Nat):SR P w G (st.slots t) (a.tmps.getD t undef):=hs.sr (.tmp t)
theorem ABB{id:Nat}{v z:Value}(h:(Instr.loadAt id v).run P w=.ok z w):(asAddr v >>=loadVar id).run P w=.ok z w:=by
 cases v with
 |pointer a=>
  cases a with
  |none=>simp[Instr.loadAt,Instr.sureAddr,stuck]at h
  |some a=>exact h
 |_=>simp[Instr.loadAt,Instr.sureAddr,stuck]at h
def U3(tmps:Array Value):ResultVar->Sem Value
 | .tmp t=>pure (tmps.getD t undef)
 | .cell a t=>do loadVar t (<-asAddr (tmps.getD a undef))
theorem ABC{E:Env}(hE:EnvOK P fr.dr E){N:Nat}{st:St}{a:Act}(hs:SimN P N fr st a w G):∀{l:List ResultVar} {ss:List SV},L_ E.ty E.wr st l=some ss->
 ∃vs:List Value,(l.mapM (U3 a.tmps)).run P w=.ok vs w/\
  vs.length=l.length/\ss.length=l.length/\∀(j:Nat) (s:SV) (v:Value),ss[j]?=some s->vs[j]?=some v->SR P w G s v:=by
 intro l;induction l with
 |nil=>
  intro ss h;cases h;exact⟨[],rfl,rfl,rfl,λj s v h=>by simp at h⟩
 |cons r l ih=>
  intro ss h;cases r with
  |tmp t=>
   simp only[L_]at h;split at h
   .rename_i ss' hss;cases h;obtain⟨vs,h1,h2,h3,h4⟩:=ih hss;refine⟨a.tmps.getD t undef::vs,?_,by simp[h2],by simp[h3],λj s v hj hv=>?_⟩
    .rw[List.mapM_cons];simp only[U3,Sem.run_bind,Sem.run_pure,Result.andThen_ok,h1]
    .cases j with
     |zero=>cases hj;cases hv;exact hs.slot t
     |succ j=>exact h4 j s v om oz
   .cases h
  |cell ad t=>
   simp only[L_]at h;split at h
   .rename_i u hu;split at h
    .rename_i s0 hl;split at h
     .rename_i ss' hss;cases h;obtain⟨vs,h1,h2,h3,h4⟩:=ih hss
      obtain⟨z,k1,k2⟩:∃z,(Instr.loadAt t (a.tmps.getD ad undef)).run P w=.ok z w/\SR P w G s0 z:=by
       cases hw:E.wr ad with
       |true=>rw[hw]at hl;exact uA (hE.ty _ _ hu) hs.mem.objs hl (hs.slot ad)
       |false=>rw[hw]at hl;exact t_ (hE.ty _ _ hu) hs.mem.objs hl (hs.slot ad)
      have k1:=ABB k1;refine⟨z::vs,?_,by simp[h2],by simp[h3],λj s v hj hv=>?_⟩
      .rw[List.mapM_cons];have k1:(U3 a.tmps (.cell ad t)).run P w=.ok z w:=k1;simp only[Sem.run_bind,Sem.run_pure,k1,Result.andThen_ok,h1]
      .cases j with
       |zero=>cases hj;cases hv;exact k2
       |succ j=>exact h4 j s v om oz
     .cases h
    .cases h
   .cases h
theorem x3{E:Env}(hE:EnvOK P fr.dr E){N:Nat}{st:St}{a:Act}(hs:SimN P N fr st a w G){fn:Func}{ss:List SV}(h:L_ E.ty E.wr st fn.results.toList=some ss):
 ∃(vs:List Value) (rv:Value),(results fn a.tmps).run P w=.ok rv w/\IV vs rv/\vs.length=fn.results.toList.length/\ss.length=fn.results.toList.length/\
  ∀(j:Nat) (s:SV) (v:Value),ss[j]?=some s->vs[j]?=some v->SR P w G s v:=by
 obtain⟨vs,h1,h2,h3,h4⟩:=ABC hE hs h
 have hrun:(results fn a.tmps).run P w=.ok (if h:vs.toArray.size=1 then vs.toArray[0]else .tuple vs.toArray) w:=by
  have h1':(fn.results.mapM (U3 a.tmps)).run P w=.ok vs.toArray w:=by
   rw[Array.mapM_eq_mapM_toList];simp only[Sem.run_map,h1,Result.andThen_ok]
  unfold results
  have e:(fn.results.mapM λ| .tmp t=>(pure (a.tmps.getD t undef):Sem Value)| .cell ad t=>do loadVar t (<-asAddr (a.tmps.getD ad undef)))=fn.results.mapM (U3 a.tmps):=by
   congr 1
  simp only[Sem.run_bind]
  erw[e,h1']
  rfl
 refine⟨vs,_,hrun,?_,h2,h3,h4⟩;rcases vs with _|⟨v,_|⟨v',vs⟩⟩
 .rfl
 .rfl
 .simp[IV]
theorem ABD{slots:Nat->SV}{tmps:Array Value}(hs:∀t,SR P w G (slots t) (tmps.getD t undef)):∀{ps:List Sh} {i:Nat} {vals:List Value},vals.length=ps.length->
 (∀j v,vals[j]?=some v->EV (i+j) (GP ps i)=true->tmps.getD (i+j) undef=v)->
 (GW ps ((List.range' i ps.length).map slots)).length=(FT ps vals).length/\
 ∀(j:Nat) (s:SV) (v:Value),(GW ps ((List.range' i ps.length).map slots))[j]?=some s->(FT ps vals)[j]?=some v->SR P w G s v:=by
 intro ps
 have hlt:∀(ps:List Sh) (i j:Nat),EV j (GP ps i)=true->i<=j:=by
  intro ps;induction ps with
  |nil=>intro i j h;cases h
  |cons p ps ih=>
   intro i j h;have key:EV j (GP ps (i+1))=true->i<=j:=λh=>by have:=ih _ _ h;omega
   have here:EV j (i::GP ps (i+1))=true->i<=j:=λh=>by
    simp only[EV,BH]at h;rcases h with h|h
    .have:=A2 h;omega
    .exact key h
   cases p with
   |box c=>exact here h
   |io el t=>exact here h
   |bld el c=>cases c with
    |true=>exact key h
    |false=>exact here h
   |_=>exact key h
 induction ps with
 |nil=>intro i vals hl h;exact⟨rfl,λj s v h=>by simp[GW]at h⟩
 |cons p ps ih=>
  intro i vals hl h;cases vals with
  |nil=>cases hl
  |cons v0 vals=>
   have hl':vals.length=ps.length:=by simpa using hl
   simp only[AF,List.range'_succ,D2];cases hb:EU p with
   |true=>
    have e1:GW (p::ps) (slots i::(List.range' (i+1) ps.length).map slots)=slots i::GW ps ((List.range' (i+1) ps.length).map slots):=by
     cases p<;>first|rfl|(cases hb;done)|(rename_i c0;cases c0<;>first|rfl|(cases hb;done))
    have e2:FT (p::ps) (v0::vals)=v0::FT ps vals:=by
     cases p<;>first|rfl|(cases hb;done)|(rename_i c0;cases c0<;>first|rfl|(cases hb;done))
    have e3:GP (p::ps) i=i::GP ps (i+1):=by
     cases p<;>first|rfl|(cases hb;done)|(rename_i c0;cases c0<;>first|rfl|(cases hb;done))
    rw[e1,e2];rw[e3]at h
    obtain ⟨h1,h2⟩:=ih (i:=i+1) hl' (λj v hj hh=>by
     have:=h (j+1) v om (by
      simp only[EV,BH];right;rw[show i+(j+1)=i+1+j by omega];exact hh)
     rw[show i+1+j=i+(j+1) by omega];exact this)
    refine⟨by simp[h1],λj s v hj hv=>?_⟩;cases j with
    |zero=>
     cases hj;cases hv;have:=h 0 v0 rfl (by simp[EV,CH]);rw[<-this];exact hs i
    |succ j=>exact h2 j s v om oz
   |false=>
    have e1:GW (p::ps) (slots i::(List.range' (i+1) ps.length).map slots)=GW ps ((List.range' (i+1) ps.length).map slots):=by
     cases p<;>first|rfl|(cases hb;done)|(rename_i c0;cases c0<;>first|rfl|(cases hb;done))
    have e2:FT (p::ps) (v0::vals)=FT ps vals:=by
     cases p<;>first|rfl|(cases hb;done)|(rename_i c0;cases c0<;>first|rfl|(cases hb;done))
    have e3:GP (p::ps) i=GP ps (i+1):=by
     cases p<;>first|rfl|(cases hb;done)|(rename_i c0;cases c0<;>first|rfl|(cases hb;done))
    rw[e1,e2]
    exact ih (i:=i+1) hl' (λj v hj hh=>by
     have:=h (j+1) v om (by rw[e3,show i+(j+1)=i+1+j by omega];exact hh);rw[show i+1+j=i+(j+1) by omega];exact this)
theorem SimN.frzE{wr:Nat->Bool}{N:Nat}{st:St}{a:Act}(hs:SimN P N fr st a w G)(l:List ResultVar):∃G',GLe w G w G'/\SimN P N fr (KQ wr st l) a w G':=by
 obtain⟨G',h1,h2⟩:=iY (fz:=LA st.sto (XI wr st l)) hs.mem iZ;exact⟨G',h1,λt=>(hs.slots t).mono h1 λ_ _ _ _=>Iff.rfl,hs.defs,hs.size,hs.fix,hs.nogrd,h2,hs.drawn⟩
def NO(N:Nat)(ps:List Sh)(d:Nat):Bool:=Nat.blt d N && !(EV d (GP ps 0))
theorem ABE{dr:Bool}{E:Env}(hE:EnvOK P dr E)(hmix:P.follows .mixedOrders=true){f:FuncId}{fn:Func}{c:Code}{ps rs:List Sh}{F:TupR ps->Option (TupR (rs++ps.filter EU))}
 (hf:P.funcs[f]?=some fn)(hb:fn.body=some c)(hd:HC (NO fn.ntmps ps) c=true)(hn:Nat.ble ps.length fn.ntmps=true)(hl:Nat.beq fn.results.toList.length rs.length=true)
 (hc:AllCuts P dr fn.ntmps (NO fn.ntmps ps) (HB E c 0))(hF:∀v r,F v=some r->XJ E fn ps rs v=some r):FunOK P f ⟨ps,rs,F,dr⟩:=by
 intro w I v args bs hm hsh hnd r hr;have hr:=hF v r hr;have hn:=BX hn;have hl:=A2 hl;have hlen:args.length=ps.length:=hsh.length;let fr:Fr:=⟨(·∈bs),w,I,λt=>if EV t (GP ps 0)then some (args.getD t undef)else none,dr⟩
 let tm:Array Value:=args.toArray++Array.replicate (fn.ntmps-args.toArray.size) undef
 let a0:Act:=⟨tm,[]⟩
 have hlow:∀t,t<args.length->tm.getD t undef=args.getD t undef:=by
  intro t ht;simp[tm,BL,Array.getElem?_append_left,ht]
 have hbx:∀(ps:List Sh) (i j:Nat),EV j (GP ps i)=true->j<i+ps.length:=by
  intro ps;induction ps with
  |nil=>intro i j h;cases h
  |cons p ps ih=>
   intro i j h;have key:EV j (GP ps (i+1))=true->j<i+(ps.length+1):=λh=>by have:=ih _ _ h;omega
   have here:EV j (i::GP ps (i+1))=true->j<i+(ps.length+1):=λh=>by
    simp only[EV,BH]at h;rcases h with h|h
    .have:=A2 h;omega
    .exact key h
   cases p with
   |box c=>exact here h
   |io el t=>exact here h
   |bld el c=>cases c with
    |true=>exact key h
    |false=>exact here h
   |_=>exact key h
 have hargs:(List.range ps.length).map (λt=>tm.getD t undef)=args:=by
  apply BV;intro j;rw[AV];by_cases h:j<ps.length
  .rw[CG h];simp only[BD];rw[hlow j o5,AG,A0 o5];rfl
  .rw[B9 (by simpa using h),B9 o5];rfl
 have hfxok:∀d,NO fn.ntmps ps d=true->d<fn.ntmps/\fr.fx d=none:=λd hd=>by
  simp only[NO,A4,BW,BI]at hd;refine⟨hd.1,?_⟩;show(if EV d (GP ps 0)=true then some (args.getD d undef)else none)=none;rw[hd.2];rfl
 obtain ⟨G0,hs0⟩:=jA (P:=P) (fr:=fr) (N:=fn.ntmps) (k:=⟨List.range ps.length,ps⟩) (v:=v) (a:=a0) (I:=I) rfl (by simp [a0,tm]; omega) (λt v' h=>by
  have h:(if EV t (GP ps 0)=true then some (args.getD t undef)else none)=some v':=h;split at h
  .rename_i hh;cases h;exact hlow t (by have:=hbx _ _ _ hh;omega)
  .cases h) (After.refl hm) (λ_=>AB _) (by rw[hargs];exact hsh) hnd (λb hb=>.inr hb)
 refine calls_of_wp hf hb ?_;unfold XJ at hr;rw[hb]at hr
 have fin:∀(st':St) (a':Act) (w':World) (G':Gh),SimN P fn.ntmps fr st' a' w' G'->
  (match L_ E.ty E.wr (KQ E.wr st' fn.results.toList) fn.results.toList with
   |some l=>J6 E.fs (LY (KQ E.wr st' fn.results.toList).sto (rs++ps.filter EU) (l++GW ps ((List.range ps.length).map (KQ E.wr st' fn.results.toList).slots))) (rs++ps.filter EU) (l++GW ps ((List.range ps.length).map (KQ E.wr st' fn.results.toList).slots))
   |none=>none)=some r->
  a'.defers=[]/\∃v,(results fn a'.tmps).run P w'=.ok v w'/\∃rv vs I' bs',Ending.returned v=.returned rv/\vs.length=rs.length/\IV vs rv/\After (·∈bs) w I w' I'/\
   ShL P w' I' (rs++ps.filter EU) r (vs++FT ps args) bs'/\bs'.Nodup/\(∀b∈bs',b∈bs\/w.heap.size<=b)/\(fr.dr=true->w.drawn<=w'.drawn):=by
  intro st' a' w' G' hs' h;refine⟨hs'.defs,?_⟩;obtain⟨G1,_,hs'⟩:=hs'.frzE fn.results.toList;generalize KQ E.wr st' fn.results.toList=st' at h hs';split at h
  .rename_i ss hss;obtain⟨vs,rv,h1,h2,h3,h4,h5⟩:=x3 hE hs' hss
   obtain ⟨b1,b2⟩:=ABD (slots:=st'.slots) (tmps:=a'.tmps) hs'.slot (ps:=ps) (i:=0) (vals:=args) hlen (λj v hj hh=>by
    rw[B8]at hh ⊢
    exact hs'.fix j v (by
     show(if EV j (GP ps 0)=true then some (args.getD j undef)else none)=some v;rw[if_pos hh,AG,hj];rfl))
   rw[<-List.range_eq_range']at b1 b2;have hss2:ss.length=vs.length:=by rw[h4,h3]
   obtain⟨G2,gle,hm2⟩:=TZ hs'.mem (rs++ps.filter EU) (ss++GW ps ((List.range ps.length).map st'.slots))
   obtain ⟨bs',k1,k2,k3⟩:=NN hm2 hE.fs (vs:=vs++FT ps args) h (by rw [A6,A6,b1,hss2]) (λj s v hj hv=>by
    by_cases hlt:j<ss.length
    .rw[AQ hlt]at hj;rw[AQ o5]at hv;exact(h5 j s v hj hv).mono gle
    .have hge:ss.length<=j:=DJ hlt;rw[AZ hge]at hj;rw[AZ o5,<-hss2]at hv;exact(b2 _ s v hj hv).mono gle)
   refine⟨rv,h1,rv,vs,G2.im,bs',rfl,by rw[h3,hl],h2,hm2.after,k1,k2,λb hb=>?_,hs'.drawn⟩;obtain⟨k,_,o,ho,hbo⟩:=k3 b hb;rcases M1 (hm2.objs k o ho) hbo with h|h
   .exact .inr h
   .exact .inl h
  .cases h
 refine OJ hE hmix hfxok c 0 _ a0 w G0 _ r _ hd (OI hc) hr hs0 λe st' a' w' G' hs' hK=>?_;cases e with
 |normal=>exact fin st' a' w' G' hs' hK
 |ret=>exact fin st' a' w' G' hs' hK
 |exit i=>cases hK
end
def EE{α β:Type}(r:(α→Option β)→α→Option β):Nat→α→Option β
 |0=>λ_=>none
 |k+1=>r (EE r k)
def sub:Code->List Nat->Code
 |c,[]=>c
 | .seq a b,i::r=>bif Nat.beq i 0 then sub a r else sub b r
 | .cond _ a b,i::r=>bif Nat.beq i 0 then sub a r else sub b r
 | .block _ b,_::r=>sub b r
 | .loop b,_::r=>sub b r
 |_,_=>.skip
def jG:Code->Operand
 | .cond c _ _=>c
 |_=>.tmp 0
def ET(f:Func):Code:=match f.body with
 |some c=>c
 |none=>.skip
def jH(P:Program)(l:List (Nat×Ty)):Bool:=l.all λp=>(layB P p.2).1 p.1
def jI(P:Program)(l:List (Nat×Nat)):Bool:=l.all λp=>match P.underlying p.1 with
 |some (.slice x)=>Nat.beq p.2 x
 |some (.map _ _)=>true
 |_=>false
def YO(P:Program)(l:List (Nat×Nat))(i:Nat):Nat:=match FG l i with
 |some x=>x
 |none=>match P.underlying i with
  |some (.slice x)=>x
  |_=>0
def jJ(P:Program)(l:List (Nat×Nat)):Bool:=l.all λp=>match P.underlying p.1 with
 |some (.map x _)=>Nat.beq p.2 x
 |_=>false
def YP(P:Program)(l:List (Nat×Nat))(i:Nat):Nat:=match FG l i with
 |some x=>x
 |none=>match P.underlying i with
  |some (.map x _)=>x
  |_=>0
theorem OK{α:Type}:∀{l:List (Nat×α)} {i:Nat} {x:α},FG l i=some x->(i,x)∈l:=by
 intro l;induction l with
 |nil=>intro i x h;cases h
 |cons p r ih=>
  intro i x h;obtain⟨j,y⟩:=p;simp only[FG]at h;cases hb:Nat.beq i j with
  |true=>
   rw[hb]at h;have:=A2 hb;subst this;cases h;exact AI
  |false=>rw[hb]at h;exact AD _ (ih h)
section
variable{P:Program}
def FsOK(P:Program):List (Nat×FSpec)->Prop
 |[]=>True
 |p::r=>(F6 P p.1/\FunOK P p.1 p.2)/\FsOK P r
def KsOK(P:Program):List (Nat×KSpec)->Prop
 |[]=>True
 |p::r=>(F6 P p.1/\HS P p.1 p.2)/\KsOK P r
theorem KsOK.mem:∀{l:List (Nat×KSpec)},KsOK P l->∀f s,(f,s)∈l->F6 P f/\HS P f s:=by
 intro l;induction l with
 |nil=>intro _ f s h;cases h
 |cons p r ih=>
  intro h f s hm;rcases A_.1 hm with rfl|hm
  .exact h.1
  .exact ih h.2 f s hm
theorem FsOK.mem:∀{l:List (Nat×FSpec)},FsOK P l->∀f sp,(f,sp)∈l->F6 P f/\FunOK P f sp:=by
 intro l;induction l with
 |nil=>intro _ f sp h;cases h
 |cons p r ih=>
  intro h f sp hm;rcases A_.1 hm with rfl|hm
  .exact h.1
  .exact ih h.2 f sp hm
def U4:List (String×Nat×Nat)->String->Nat->Option Nat
 |[],_,_=>none
 |x::r,m,id=>bif x.1==m&&Nat.beq x.2.1 id then some x.2.2 else U4 r m id
def MsOK(P:Program):List (String×Nat×Nat)->Prop
 |[]=>True
 |x::r=>(∀(v:Value) (w:World),(method (P.types.size+Made.depth) x.2.1 v x.1).run P w=.ok (x.2.2,v) w)/\MsOK P r
theorem MsOK.look:∀{l:List (String×Nat×Nat)},MsOK P l->∀m id f,U4 l m id=some f->∀(v:Value) (w:World),(method (P.types.size+Made.depth) id v m).run P w=.ok (f,v) w:=by
 intro l;induction l with
 |nil=>intro _ m id f h;cases h
 |cons x r ih=>
  intro h m id f hf;unfold U4 at hf;cases hb:(x.1==m&&Nat.beq x.2.1 id)with
  |false=>rw[hb]at hf;exact ih h.2 m id f hf
  |true=>
   rw[hb]at hf;simp only[A4,DT]at hb;have e2:=A2 hb.2;cases hf;rw[<-hb.1,<-e2];exact h.1
def jK(P:Program)(tys:List (Nat×Ty))(eqs:List Nat):Bool:=eqs.all λi=>match FG tys i with
 |some t=>LI P t i
 |none=>true
theorem x4{dr:Bool}{tys:List (Nat×Ty)}{els:List (Nat×Nat)}{fs:List (Nat×FSpec)}{ms:List (String×Nat×Nat)}{eqs:List Nat}{kys:List (Nat×Nat)}{kss:List (Nat×KSpec)}{dp:Nat->Nat}{cut:Nat->Option CSpec}{wr:Nat->Bool}(hp:Pins.P=P)(h1:jH P tys=true)(h2:jI P els=true)(h3:FsOK P fs)(h4:MsOK P ms)(h5:jK P tys eqs=true)(h7:jJ P kys=true)(h6:(!dr||(fs.all λp=>p.2.dr)&&(kss.all λp=>p.2.sp.dr))=true)(h8:KsOK P kss):
 EnvOK P dr ⟨FG tys,FG fs,cut,wr,YO P els,U4 ms,(λt=>EV t eqs),dr,dp,YP P kys,FG kss⟩:=by
 refine⟨hp,λh=>h,λhd f sp h=>?_,λid t h=>?_,λid x h=>?_,λf sp h=>h3.mem f sp (OK h),h4.look,λid t he ht=>?_,λid x y h=>?_,λf s h=>⟨h8.mem f s (OK h),λhd=>?_⟩⟩
 .subst hd;simp only[C0,CC,A4]at h6;exact BG.1 h6.1 _ (OK h)
 .unfold jH at h1;rw[BG]at h1;exact h1 _ (OK h)
 .unfold jI at h2;rw[BG]at h2;show YO P els id=x;unfold YO;cases hl:FG els id with
  |none=>simp only[h]
  |some y=>
   have:=h2 _ (OK hl);simp only[h]at this;exact A2 this
 .unfold jK at h5;rw[BG]at h5;have h6:=h5 id (KT.1 he);have ht:FG tys id=some t:=ht;rw[ht]at h6;exact h6
 .unfold jJ at h7;rw[BG]at h7;show YP P kys id=x;unfold YP;cases hl:FG kys id with
  |none=>simp only[h]
  |some y=>
   have:=h7 _ (OK hl);simp only[h]at this;exact A2 this
 .subst hd;simp only[C0,CC,A4]at h6;exact BG.1 h6.2 _ (OK h)
theorem ABF{dr:Bool}{E:Env}(hE:EnvOK P dr E)(hmix:P.follows .mixedOrders=true){f:FuncId}{fn:Func}{c:Code}{ps rs:List Sh}{F:TupR ps->Option (TupR (rs++ps.filter EU))}{l:List (CSpec×Code)}
 (hf:P.funcs[f]?=some fn)(hnm:(fn.name== "runtime.NumGoroutine")=false)(hb:fn.body=some c)(hd:HC (NO fn.ntmps ps) c=true)(hn:Nat.ble ps.length fn.ntmps=true)(hl:Nat.beq fn.results.toList.length rs.length=true)
 (hcs:HB E c 0=l)(hc:AllCuts P dr fn.ntmps (NO fn.ntmps ps) l)(hF:∀v,XJ E fn ps rs v=F v):F6 P f/\FunOK P f ⟨ps,rs,F,dr⟩:=by
 subst hcs;exact⟨⟨fn,c,hf,hnm,hb⟩,ABE hE hmix hf hb hd hn hl hc λv r h=>(hF v).trans h⟩
theorem ABG{dr:Bool}{E:Env}(hE:EnvOK P dr E)(hmix:P.follows .mixedOrders=true){N n:Nat}{body:Code}{al:List (Nat×Nat)}{inn:Kp}{outs:List (Ex×Kp)}{wrs:List Nat}{r:(TupR inn.sh->Option (GN outs))->TupR inn.sh->Option (GN outs)}{l:List (CSpec×Code)}
 (hd:HC (HK N wrs) body=true)(hcs:HB E body n=l)(hc:AllCuts P dr N (HK N wrs) l)(hF:∀next v,gW E body n al inn outs next v=r next v)(m:Nat):
 CutOK P dr N ⟨inn,outs,wrs,EE r m,al,none,none⟩ (.loop body):=by
 subst hcs;exact ABA hE hmix hd hc (λ_=>rfl) (λk v x h=>(hF _ v).trans h) m
theorem ABH{dr:Bool}{E:Env}(hE:EnvOK P dr E)(hmix:P.follows .mixedOrders=true){N n:Nat}{c:Operand}{x y:Code}{al:List (Nat×Nat)}{inn:Kp}{outs:List (Ex×Kp)}{wrs:List Nat}{F:TupR inn.sh->Option (GN outs)}{lx ly:List (CSpec×Code)}
 (hd:HC (HK N wrs) (.cond c x y)=true)(hcx:HB E x (n+1)=lx)(hcy:HB E y (n+1+IS x)=ly)(hx:AllCuts P dr N (HK N wrs) lx)(hy:AllCuts P dr N (HK N wrs) ly)
 (hF:∀v,XH E c x y n al inn outs v=F v):CutOK P dr N ⟨inn,outs,wrs,F,al,none,none⟩ (.cond c x y):=by
 subst hcx hcy;exact AB9 (s:=⟨inn,outs,wrs,F,al,none,none⟩) hE hmix hd hx hy rfl rfl λv r h=>(hF v).trans h
theorem x5{dr:Bool}{f:FuncId}{e:Ty}{rs:List Sh}{F1:TupR [Sh.nilS]->Option (TupR (rs++[Sh.nilS].filter EU))}{F2:TupR [Sh.nns e]->Option (TupR (rs++[Sh.nns e].filter EU))}
 {F:TupR [Sh.val (.slice e)]->Option (TupR (rs++[Sh.val (.slice e)].filter EU))}
 (h1:F6 P f/\FunOK P f ⟨[.nilS],rs,F1,dr⟩)(h2:F6 P f/\FunOK P f ⟨[.nns e],rs,F2,dr⟩)(e1:F1 ()=F ([]:List e.T))(e2:∀x,F2 x=F x):F6 P f/\FunOK P f ⟨[.val (.slice e)],rs,F,dr⟩:=by
 refine⟨h1.1,λw I v args bs hm hsh hnd r hr=>?_⟩;obtain⟨v0,rfl,hv,rfl⟩:=hsh;obtain⟨c,hc,a,cap,hca,hlen,hnil,had⟩:=hv;have hv0:v0=.slice a (show List e.T from v).length cap:=A5.1 ((show c=[v0]from hc).symm.trans hca);cases a with
 |none=>
  obtain⟨hx,rfl⟩:=hnil rfl;have hx:v=([]:List e.T):=hx;subst hx;exact h1.2 w I () [v0] [] hm ⟨v0,rfl,rfl,by rw[hv0];rfl⟩ B6 r (e1.trans hr)
 |some ad=>
  exact h2.2 w I v [v0] [] hm ⟨v0,rfl,rfl,⟨some ad,cap,by rw[hv0],hlen,hnil,had⟩,ad,_,cap,by rw[hv0]⟩ B6 r ((e2 v).trans hr)
end
open Go.MapKept Go.ChangeMaps
section
variable{dr:Bool}
variable{P:Program}{fr:Fr}{w w':World}{G G':Gh}{I:Im}{Ω:Type}
theorem YQ{all:Array Oper}{o:Oper}{i:Nat}{a:Act}{v:Value}{K:Act->World->Prop}{Q:Exit->Act->World->Prop}(ho:all[i]?=some o)(hg:o.guard=none)
 (hr:(execOp a.eval o).run P w=.ok (.value v) w')(hk:K (a.put o.dst v) w'):wpOp P all Q i K a w:=by
 unfold wpOp;simp only[ho];rw[if_pos (by unfold Region.wanted;rw[hg])];left;unfold Oper.wp;rw[hr];exact hk
noncomputable def x6(E:Env)(ops:Array Oper)(C:Code)(n d5 d6:Nat)(k:Ty)(x:k.T)(st:St)(K:Ex->St->Option Ω):Option Ω:=
 bif J9 ops then none else
 MK E ops false st.n (ops.toList.drop 2) 2 {slots:=K4 (K4 st.slots (some d5) .undef) (some d6) (.val k x),sto:=st.sto,n:=st.n} [] λst' _=>
  IT E C n {slots:=st'.slots,sto:=st'.sto,n:=st.n+8*ops.size} K
def OL:Sh->Bool
 | .val _=>true
 | .own _ _ _=>true
 |_=>false
theorem ShC.aside{s:Sh}(hs:OL s=true){x:s.T}{cs:List Value}{bs:List Nat}(h:ShC P w I s x cs bs)(he:Ext w I w' I)(hb:∀b∈bs,w'.heap[b]?=w.heap[b]?):ShC P w' I s x cs bs:=by
 cases s<;>first|(cases hs;done)|skip
 .exact⟨h.1.ext he,h.2⟩
 .rcases h with h|⟨b,cap,cells,h1,h2,h3,h4,h5,h6,h7,h8,h9⟩
  .exact .inl h
  .exact .inr ⟨b,cap,cells,h1,h2,h3,h4.keep (hb b (by rw[h2];simp)),h5,λi x hx=>(h6 i x hx).ext he,h7,h8,h9⟩
theorem ShV.aside{s:Sh}(hs:OL s=true){x:s.T}{v:Value}{bs:List Nat}(h:ShV P w I s x v bs)(he:Ext w I w' I)(hb:∀b∈bs,w'.heap[b]?=w.heap[b]?):ShV P w' I s x v bs:=by
 cases s<;>first|(cases hs;done)|skip
 .exact⟨h.1.ext he,h.2⟩
 .exact ShC.aside (P:=P) (s:=.own _ _ _) rfl h he hb
theorem ShL.aside:∀{l:List Sh},l.all OL=true->∀{x:TupR l} {vs:List Value} {bs:List Nat},ShL P w I l x vs bs->Ext w I w' I->(∀b∈bs,w'.heap[b]?=w.heap[b]?)->ShL P w' I l x vs bs:=by
 intro l;induction l with
 |nil=>intro _ x vs bs h _ _;exact h
 |cons a l ih=>
  intro hl x vs bs h he hb;simp only[List.all_cons,A4]at hl;cases l with
  |nil=>
   obtain⟨v,h1,h2⟩:=h;exact⟨v,h1,ShV.aside hl.1 h2 he hb⟩
  |cons b r=>
   obtain⟨v,vs',b1,b2,h1,h2,h3,h4⟩:=h;refine⟨v,vs',b1,b2,h1,h2,ShV.aside hl.1 h3 he λc hc=>hb c (by rw[h2];exact AS _ hc),ih hl.2 h4 he λc hc=>hb c (by rw[h2];exact AT _ hc)⟩
theorem ShC.lt{s:Sh}(hs:OL s=true){x:s.T}{cs:List Value}{bs:List Nat}(h:ShC P w I s x cs bs):∀b∈bs,b<w.heap.size:=by
 cases s<;>first|(cases hs;done)|skip
 .intro b hb;rw[h.2]at hb;cases hb
 .rcases h with h|⟨b,cap,cells,h1,h2,h3,⟨fz,h4,_⟩,_⟩
  .intro b hb;rw[h.2.2]at hb;cases hb
  .intro c hc;rw[h2]at hc;have:c=b:=by simpa using hc
   rw[this];exact(BC.1 h4).1
theorem ShV.lt{s:Sh}(hs:OL s=true){x:s.T}{v:Value}{bs:List Nat}(h:ShV P w I s x v bs):∀b∈bs,b<w.heap.size:=by
 cases s<;>first|(cases hs;done)|skip
 .intro b hb;rw[h.2]at hb;cases hb
 .exact ShC.lt (P:=P) (s:=.own _ _ _) rfl h
theorem ShL.lt:∀{l:List Sh},l.all OL=true->∀{x:TupR l} {vs:List Value} {bs:List Nat},ShL P w I l x vs bs->∀b∈bs,b<w.heap.size:=by
 intro l;induction l with
 |nil=>intro _ x vs bs h b hb;rw[h.2]at hb;cases hb
 |cons a l ih=>
  intro hl x vs bs h;simp only[List.all_cons,A4]at hl;cases l with
  |nil=>
   obtain⟨v,h1,h2⟩:=h;exact ShV.lt hl.1 h2
  |cons b r=>
   obtain⟨v,vs',b1,b2,h1,h2,h3,h4⟩:=h;intro c hc;rw[h2]at hc;rcases AL.1 hc with hc|hc
   .exact ShV.lt hl.1 h3 c hc
   .exact ih hl.2 h4 c hc
def KW{α:Type}(es:List α)(ents:List MapEntry)(seen:Array Nat):List α:=((es.zip ents).filter λp=>!seen.contains p.2.born).map (·.1)
theorem ABI{α:Type}{es:List α}{ents:List MapEntry}(h:es.length=ents.length):KW es ents #[]=es:=by
 unfold KW;rw[List.filter_eq_self.2 (λp _=>oc),List.map_fst_zip o5]
theorem ABJ{α:Type}{es:List α}{ents:Array MapEntry}{seen:Array Nat}(h:(leftOf ents seen).size=0):KW es ents.toList seen=[]:=by
 unfold KW;rw[List.filter_eq_nil_iff.2,List.map_nil];rintro⟨x,e⟩ hp hc;have he:e∈ents.toList:=(List.of_mem_zip hp).2
 have:e∈(leftOf ents seen):=by
  unfold leftOf;rw[Array.mem_filter];exact⟨Array.mem_toList_iff.1 he,hc⟩
 have h2:leftOf ents seen= #[]:=Array.eq_empty_of_size_eq_zero h;rw[h2]at this;simp at this
theorem ABK{α:Type}{f:α×MapEntry->Bool}:∀{Z:List (α×MapEntry)},(Z.map (·.2.born)).Nodup->∀{p:α×MapEntry},p∈Z->f p=true->(Z.filter f).Perm (p::Z.filter λq=>f q && !(q.2.born==p.2.born)):=by
 intro Z;induction Z with
 |nil=>intro _ p hp;cases hp
 |cons q Z ih=>
  intro hn p hp hf;obtain⟨n1,n2⟩:=B7.1 hn;rcases A_.1 hp with rfl|hp
  .rw[List.filter_cons_of_pos hf,List.filter_cons_of_neg oc];refine List.Perm.cons _ (List.Perm.of_eq ?_);apply List.filter_congr;intro r hr;have:r.2.born≠p.2.born:=λe=>n1 (C2.2 ⟨r,hr,e⟩);simp[this]
  .have hq:q.2.born≠p.2.born:=λe=>n1 (C2.2 ⟨p,hp,e.symm⟩);cases hfq:f q with
   |true=>
    rw[List.filter_cons_of_pos hfq,List.filter_cons_of_pos (by simp[hfq,hq])];exact((ih n2 hp hf).cons q).trans (.swap p q _)
   |false=>
    rw[List.filter_cons_of_neg (by simp[hfq]),List.filter_cons_of_neg (by simp[hfq])];exact ih n2 hp hf
theorem x7{α:Type}{es:List α}{ents:Array MapEntry}{seen:Array Nat}(hl:es.length=ents.size)(hn:(ents.toList.map (·.born)).Nodup){e:MapEntry}(he:e∈(leftOf ents seen).toList):
 ∃(i:Nat) (x:α),es[i]?=some x/\ents[i]?=some e/\e∈ents.toList/\(KW es ents.toList seen).Perm (x::KW es ents.toList (seen.push e.born)):=by
 have he:=Array.mem_toList_iff.1 he;unfold leftOf at he;rw[Array.mem_filter]at he;obtain⟨h1,h2⟩:=he;have h1':=Array.mem_toList_iff.2 h1;obtain⟨i,hi⟩:=C9 h1';have hlt:i<ents.toList.length:=(A8.1 hi).1;have hlt2:i<es.length:=by simpa[hl]using hlt
 refine⟨i,es[i],A0 hlt2,by rw[<-BE];exact hi,h1',?_⟩
 have hz:(es[i],e)∈es.zip ents.toList:=by
  apply B5 (i:=i);rw[List.getElem?_zip_eq_some];exact⟨A0 hlt2,hi⟩
 have hmz:((es.zip ents.toList).map (·.2.born)).Nodup:=by
  rw[show((es.zip ents.toList).map (·.2.born))=((es.zip ents.toList).map (·.2)).map (·.born) by rw[List.map_map];rfl,List.map_snd_zip (by simp[hl])];exact hn
 unfold KW;have:=(ABK (f:=λp:α×MapEntry=>!seen.contains p.2.born) hmz hz h2).map (·.1);refine this.trans (List.Perm.of_eq ?_);simp only[D2,Array.contains_push]
 congr 2
 apply List.filter_congr;intro q _;cases seen.contains q.2.born<;>simp
structure LoopI(P:Program)(dr:Bool)(N:Nat)(inn:Kp)(wrs:List Nat)(a0:Act)(w0:World)(I0:Im)(bs:List Nat)(d2 r:Nat)(a:Act)(w:World)(I:Im)(u:TupR inn.sh)(bs':List Nat):Prop where
 mem:GM w I
 aft:After (·∈bs) w0 I0 w I
 defs:a.defers=[]
 size:a.tmps.size=N
 fix:∀t,EV t wrs=false->a.tmps.getD t undef=a0.tmps.getD t undef
 drawn:dr=true->w0.drawn<=w.drawn
 sh:ShL P w I inn.sh u (inn.tm.map λt=>a.tmps.getD t undef) bs'
 nod:bs'.Nodup
 bsub:∀c∈bs',c∈bs\/w0.heap.size<=c
 ptr:a.tmps.getD d2 undef=.pointer (some ⟨r,0,none⟩)
 rge:w0.heap.size<=r
 rlt:r<w.heap.size
 rbs:r ∉ bs'
 rC:∀o,¬I.cell r o
 rO:¬I.obj r
section
variable{N d2 r:Nat}{inn:Kp}{wrs bs bs':List Nat}{a0 a:Act}{w0:World}{I0:Im}{u:TupR inn.sh}
theorem LoopI.put(h:LoopI P dr N inn wrs a0 w0 I0 bs d2 r a w I u bs'){d:Nat}(hd:d<N)(hw:EV d wrs=true)(hi:EV d inn.tm=false)(h2:d≠d2)(v:Value):
 LoopI P dr N inn wrs a0 w0 I0 bs d2 r (a.put (some d) v) w I u bs':=by
 have g:∀t,(a.put (some d) v).tmps.getD t undef=if d=t then v else a.tmps.getD t undef:=λt=>by
  rw[M2 h.size (λ_ e=>by cases e;exact hd)];simp
 refine⟨h.mem,h.aft,by rw[T_];exact h.defs,by rw[U0];exact h.size,λt ht=>?_,h.drawn,?_,h.nod,h.bsub,?_,h.rge,h.rlt,h.rbs,h.rC,h.rO⟩
 .rw[g,if_neg (λe=>by rw[e,ht]at hw;cases hw)];exact h.fix t ht
 .have e:(inn.tm.map λt=>(a.put (some d) v).tmps.getD t undef)=inn.tm.map λt=>a.tmps.getD t undef:=by
   apply List.map_congr_left;intro t ht;rw[g,if_neg (λe=>by rw[<-e]at ht;rw[KT.2 ht]at hi;cases hi)]
  rw[e];exact h.sh
 .rw[g,if_neg h2];exact h.ptr
theorem LoopI.iter(h:LoopI P dr N inn wrs a0 w0 I0 bs d2 r a w I u bs')(hp:inn.sh.all OL=true){w1:World}(hw1:w1=w\/w1=w.drew)(o:Go.Obj):
 LoopI P dr N inn wrs a0 w0 I0 bs d2 r a (setBlock w1 r o) I u bs':=by
 have hh:∀j,j≠r->(setBlock w1 r o).heap[j]?=w.heap[j]?:=by
  intro j hj;have e:(setBlock w1 r o).heap=w.heap.setIfInBounds r o:=by rcases hw1 with rfl|rfl<;>rfl
  rw[e,Array.getElem?_setIfInBounds,if_neg (λe=>hj e.symm)]
 have hsz:(setBlock w1 r o).heap.size=w.heap.size:=by
  have e:(setBlock w1 r o).heap=w.heap.setIfInBounds r o:=by rcases hw1 with rfl|rfl<;>rfl
  rw[e,Array.size_setIfInBounds]
 have hos:(setBlock w1 r o).os=w.os/\(setBlock w1 r o).tape=w.tape/\(setBlock w1 r o).output=w.output/\w.drawn<=(setBlock w1 r o).drawn:=by
  rcases hw1 with rfl|rfl
  .exact⟨rfl,rfl,rfl,AB _⟩
  .exact⟨rfl,rfl,rfl,Nat.le_succ _⟩
 have he:Ext w I (setBlock w1 r o) I:=Ext.of_heap hh h.rC h.rO;have hm:GM (setBlock w1 r o) I:=⟨λb o h'=>by rw[hsz];exact h.mem.1 b o h',λb h'=>by rw[hsz];exact h.mem.2.1 b h',h.mem.2.2.ext he⟩;have ha:After (·∈[r]) w I (setBlock w1 r o) I:=⟨he,λb _ hb=>hh b (by simpa using hb),by rw[hsz];exact AB _,λ_ _ h=>.inl h,λ_ h=>.inl h,hm.1,hm.2.1,hos.1,hos.2.1,hos.2.2.1,hm.2.2⟩
 refine ⟨hm, h.aft.trans ha (fun b hb => .inr (by have : b = r := by simpa using hb
                                                  rw[this];exact h.rge)),h.defs,h.size,h.fix,λhd=>AU (h.drawn hd) hos.2.2.2,h.sh.aside hp he (λb hb=>hh b (λe=>h.rbs (e▸hb))),h.nod,h.bsub,h.ptr,h.rge,by rw[hsz];exact h.rlt,h.rbs,h.rC,h.rO⟩
theorem LoopI.body(h:LoopI P dr N inn wrs a0 w0 I0 bs d2 r a w I u bs'){wrsB:List Nat}(hB:∀t,EV t wrs=false->EV t wrsB=false)(h2:EV d2 wrsB=false){u':TupR inn.sh}{e:Exit}{a':Act}
 (hq:KV P dr N ⟨inn,[(.normal,inn)],wrsB,λ_=>none,[],none,none⟩ u' a w I bs' e a' w'):
 e=.normal/\w'.heap[r]?=w.heap[r]? /\∃I' bs'',Ext w I w' I'/\LoopI P dr N inn wrs a0 w0 I0 bs d2 r a' w' I' u' bs'':=by
 obtain⟨q1,q2,q3,qd,I',q4,q5⟩:=hq;obtain⟨he,bs'',s1,s2,s3⟩:=q5;refine⟨he,q4.heap r h.rlt h.rbs,I',bs'',q4.ext,⟨q4.mem,h.aft.trans q4 h.bsub,q1,q2,λt ht=>(q3 t (hB t ht)).trans (h.fix t ht),λhd=>AU (h.drawn hd) (qd hd),s1,s2,λc hc=>?_,?_,h.rge,B0 h.rlt q4.size,λhr=>?_,λo hr=>?_,λhr=>?_⟩⟩
 .rcases s3 c hc with h'|h'
  .exact h.bsub c h'
  .exact .inr (AU h.aft.size h')
 .exact(q3 d2 h2).trans h.ptr
 .rcases s3 r hr with h'|h'
  .exact h.rbs h'
  .exact AH _ (B0 h.rlt h')
 .rcases q4.newC r o hr with h'|h'|h'
  .exact h.rC o h'
  .exact AH _ (B0 h.rlt h')
  .exact h.rbs h'
 .rcases q4.newO r hr with h'|h'|h'
  .exact h.rO h'
  .exact AH _ (B0 h.rlt h')
  .exact h.rbs h'
end
structure RangeAt(N:Nat)(inn:Kp)(wrs wrsB:List Nat)(s d1 d2 d3 d4 d5 d6 rty:Nat)(mv rg nx ex o0 o1:Oper)(ops:Array Oper):Prop where
 mv:mv.op=.move (.tmp s)/\mv.dst=some d1/\mv.guard=none
 rg:rg.op=.range rty (.tmp d1)/\rg.dst=some d2/\rg.guard=none
 nx:nx.op=.next (.tmp d2) false/\nx.dst=some d3/\nx.guard=none
 ex:ex.op=.extract (.tmp d3) 0/\ex.dst=some d4/\ex.guard=none
 h0:ops[0]?=some o0
 h1:ops[1]?=some o1
 p0:o0.op=.entry (.tmp d2)/\o0.dst=some d5
 p1:o1.op=.extract (.tmp d5) 0/\o1.dst=some d6
 lt:d1<N/\d2<N/\d3<N/\d4<N
 wr:EV d1 wrs=true/\EV d2 wrs=true/\EV d3 wrs=true/\EV d4 wrs=true
 out:EV d1 inn.tm=false/\EV d2 inn.tm=false/\EV d3 inn.tm=false/\EV d4 inn.tm=false
 ne:d3≠d2/\d4≠d2
 sub:wrsB.all (λt=>EV t wrs)=true
 it:EV d2 wrsB=false
theorem CutOK.of_eq{N:Nat}{s:CSpec}{c c':Code}(h:CutOK P dr N s c)(e:c=c'):CutOK P dr N s c':=e▸h
def M4:Code->Array Oper
 | .region _ o _=>o
 |_=>#[]
end
open Go.MapKept Go.ChangeMaps
section
variable{dr:Bool}
variable{P:Program}{fr:Fr}{w w':World}{G G':Gh}{I:Im}{Ω:Type}
noncomputable def jL(E:Env)(y:Nat)(ops:Array Oper)(C:Code)(n d5 d6:Nat)(k:Ty)(inn rk:Kp)(x:k.T)(v:TupR inn.sh):Option (Sum (TupR inn.sh) (TupR rk.sh)):=
 x6 E ops C n d5 d6 k x (H9 inn v) λe st=>outPut E.fs [(.normal,inn),(.ret,rk)] (match e with| .exit i=>bif Nat.beq i y then .normal else .exit i|e=>e) st
theorem ABL{E:Env}(hE:EnvOK P dr E)(hmix:P.follows .mixedOrders=true){N n y id d2 d5 d6:Nat}{ops:Array Oper}{C:Code}{wrs bs:List Nat}{inn rk:Kp}{k:Ty}{x:k.T}{o0 o1:Oper}
 (h0:ops[0]?=some o0)(h1:ops[1]?=some o1)(p0:o0.op=.entry (.tmp d2)/\o0.dst=some d5)(p1:o1.op=.extract (.tmp d5) 0/\o1.dst=some d6)
 (hd:HC (HK N wrs) (.seq (.region id ops false) C)=true)(hc:AllCuts P dr N (HK N wrs) (HB E C n)){a:Act}{v:TupR inn.sh}{v':Sum (TupR inn.sh) (TupR rk.sh)}{key val:Value}
 (hm:GM w I)(hda:a.defers=[])(hN:a.tmps.size=N)(hsh:ShL P w I inn.sh v (inn.tm.map λt=>a.tmps.getD t undef) bs)(hnd:bs.Nodup)
 (hrun:(Instr.entry (a.tmps.getD d2 undef)).run P w=.ok (.tuple #[key,val]) w)(hx:VRel w I k x key)(hF:jL E y ops C n d5 d6 k inn rk x v=some v'):
 (Code.block y (.seq (.region id ops false) C)).wp P (KV P dr N ⟨inn,[(.normal,inn),(.ret,rk)],wrs,λ_=>none,[],none,none⟩ v' a w I bs) a w:=by
 obtain⟨G,hs⟩:=jF (dr:=dr) (wrs:=wrs) hm hda hN hsh hnd;unfold jL x6 at hF;cases hg:J9 ops with
 |true=>rw[hg]at hF;cases hF
 |false=>
 rw[hg]at hF;simp only[AC]at hF;simp only[HC,A4]at hd
 have hdst:∀(j:Nat) o d,ops[j]?=some o->o.dst=some d->d<N/\(JC dr wrs bs a w I).fx d=none:=by
  intro j o d hj ho;have hd1:=hd.1;simp only[BG]at hd1;have:=hd1 o (B5 om);rw[ho]at this;exact QY d this
 have hgo:GuardsOK ops:=wM λhh=>by rw[hg]at hh;cases hh
 have hng:∀(j:Nat) o,ops[j]?=some o->o.guard=none:=by
  intro j o hj;cases hgd:o.guard with
  |none=>rfl
  |some p=>
   have:=i_ hj (j:=p.1) (b:=p.2) (by rw[hgd]);rw[hg]at this;cases this
 have h2:2<=ops.size:=by have:=(BC.1 h1).1;omega
 have hd5:=hdst 0 o0 d5 h0 p0.2;have hd6:=hdst 1 o1 d6 h1 p1.2;refine wp_block (wp_seq (wp_region ?_));rw[List.range_eq_range',show ops.size=(ops.size-2)+1+1 by omega,List.range'_succ,List.range'_succ,wpOps_cons];refine YQ h0 (hng 0 o0 h0) (v:=.tuple #[key,val]) (w':=w) ?_ ?_
 .simp only[execOp,p0.1];rw[show a.eval (.tmp d2)=a.tmps.getD d2 undef from rfl];simp only[Sem.run_bind,hrun,Result.andThen_ok];rfl
 rw[wpOps_cons,p0.2];have hN1:(a.put (some d5) (.tuple #[key,val])).tmps.size=N:=by rw[U0];exact hN
 have g5:∀t,(a.put (some d5) (.tuple #[key,val])).tmps.getD t undef=if d5=t then .tuple #[key,val]else a.tmps.getD t undef:=λt=>by
  rw[M2 hN (λd h=>by cases h;exact hd5.1)];simp
 refine YQ h1 (hng 1 o1 h1) (v:=key) (w':=w) ?_ ?_
 .simp only[execOp,p1.1];rw[show(a.put (some d5) (.tuple #[key,val])).eval (.tmp d5)=(a.put (some d5) (.tuple #[key,val])).tmps.getD d5 undef from rfl,g5,if_pos rfl];simp[Instr.extract]
 rw[p1.2]
 have g6:∀t,((a.put (some d5) (.tuple #[key,val])).put (some d6) key).tmps.getD t undef=if d6=t then key else if d5=t then .tuple #[key,val]else a.tmps.getD t undef:=λt=>by
  rw[M2 hN1 (λd h=>by cases h;exact hd6.1),g5];simp
 have hlen:(ops.toList.drop 2).length=ops.size-2:=oc
 have hsr:∀t,SR P w G ((H9 inn v).slots t) (a.tmps.getD t undef):=by
  intro t;have h1:SlotOK P w G a ((H9 inn v).slots t) (a.tmps.getD t undef):=hs.slots t;have h2:∀tk g s,(H9 inn v).slots t≠.grd tk g s:=hs.nogrd t;generalize (H9 inn v).slots t=s at h1 h2;cases s<;>first|exact h1|exact absurd rfl (h2 _ _ _)
 have hsim:SimF P N (JC dr wrs bs a w I) (λk=>(H9 inn v).n+8*2<=k) (DS ops (λj=>decide (j<2))) (K4 (K4 (H9 inn v).slots (some d5) .undef) (some d6) (.val k x)) (H9 inn v).sto
  ((a.put (some d5) (.tuple #[key,val])).put (some d6) key) w G:=by
  refine⟨λt=>?_,by rw[T_,T_];exact hda,by rw[U0];exact hN1,λt u h=>?_,λt tk g s h=>?_,hs.mem.shrink λk hk=>o5,hs.drawn⟩
  .rw[M3,M3,g6];by_cases e6:d6=t
   .rw[if_pos (by rw[e6]),if_pos e6];obtain⟨c,q1,q2⟩:=hx.ext hs.mem.after.ext;exact SR.slotOK ⟨c,q1,q2⟩
   .rw[if_neg (λh=>e6 (A3 h)),if_neg e6];by_cases e5:d5=t
    .rw[if_pos (by rw[e5]),if_pos e5];exact(SR.undef _).slotOK
    .rw[if_neg (λh=>e5 (A3 h)),if_neg e5];exact(hsr t).slotOK
  .rw[g6,if_neg (λe=>by rw[<-e,hd6.2]at h;cases h),if_neg (λe=>by rw[<-e,hd5.2]at h;cases h)];exact hs.fix t u h
  .rw[M3,M3]at h;split at h
   .cases h
   .split at h
    .cases h
    .exact absurd h (hs.nogrd t tk g s)
 have:=w8 hE hgo hdst (Q:=Exit.then (C.wp P (Exit.inBlock y (KV P dr N ⟨inn,[(.normal,inn),(.ret,rk)],wrs,λ_=>none,[],none,none⟩ v' a w I bs))) (Exit.inBlock y (KV P dr N ⟨inn,[(.normal,inn),(.ret,rk)],wrs,λ_=>none,[],none,none⟩ v' a w I bs)))
  (ops.toList.drop 2) 2 _ [] _ w G hF rfl (by rw[hlen];omega) hsim (λst' cl' a' w' G' hs' hn hK=>?_)
 .rw[hlen]at this;exact this
 .refine OJ hE hmix QY C n _ a' w' G' _ v' _ hd.2 (OI hc) hK ⟨hs'.slots,hs'.defs,hs'.size,hs'.fix,λt tk g s h=>?_,hs'.mem,hs'.drawn⟩ λe st2 a2 w2 G2 hs2 hK2=>?_
  .obtain⟨q1,q2⟩:=hs'.toks t tk g s h;cases tk with
   |nil=>exact q1 rfl
   |cons p r=>
    have:=(q2 p AI).1;rw[hg]at this;cases this
  .have fin:∀{e:Ex},outPut E.fs [(.normal,inn),(.ret,rk)] e st2=some v'->KV P dr N ⟨inn,[(.normal,inn),(.ret,rk)],wrs,λ_=>none,[],none,none⟩ v' a w I bs (HT e) a2 w2:=λh=>
    U2 (s:=⟨inn,[(.normal,inn),(.ret,rk)],wrs,λ_=>none,[],none,none⟩) (x:=v') hE hs2 h
   cases e with
   |normal=>exact fin (e:=.normal) hK2
   |ret=>exact fin (e:=.ret) hK2
   |exit i=>
    simp only at hK2;cases hb:Nat.beq i y with
    |false=>rw[hb]at hK2;cases hK2
    |true=>
     rw[hb]at hK2;have:=A2 hb;subst this;simp only[HT,Exit.inBlock,if_true];exact fin (e:=.normal) hK2
def GU{α β γ:Type}(f:α->β->Option (Sum β γ)):List α->β->Option (Sum β γ)
 |[],u=>some (.inl u)
 |a::r,u=>(f a u).bind λz=>match z with
  | .inl v=>GU f r v
  | .inr c=>some (.inr c)
theorem jM{α β γ:Type}{f:α->β->Option (Sum β γ)}:∀{l r:List α} {u v:β},GU f l u=some (.inl v)->GU f (l++r) u=GU f r v:=by
 intro l;induction l with
 |nil=>intro r u v h;cases h;rfl
 |cons a l ih=>
  intro r u v h;simp only[List.cons_append,GU]at h ⊢;cases hf:f a u with
  |none=>rw[hf]at h;cases h
  |some z=>
   rw[hf]at h;cases z with
   |inl y=>exact ih h
   |inr c=>cases h
theorem ABM{α β γ:Type}{f:α->β->Option (Sum β γ)}{l r:List α}{z:α}{u v v':β}(h:GU f l u=some (.inl v))(hz:f z v=some (.inl v')):GU f (l++z::r) u=GU f r v':=by
 rw[jM h];simp only[GU,hz];rfl
theorem ABN{α β γ:Type}{f:α->β->Option (Sum β γ)}{l r:List α}{z:α}{u v:β}{c:γ}(h:GU f l u=some (.inl v))(hz:f z v=some (.inr c)):GU f (l++z::r) u=some (.inr c):=by
 rw[jM h];simp only[GU,hz];rfl
def x8:Sh->Bool
 | .val _=>true
 | .own _ _ _=>true
 | .omap _ _=>true
 |_=>false
def YR:Sh->Bool
 | .val _=>true
 | .own _ _ _=>true
 | .omap _ _=>true
 | .kz _=>true
 | .fz _=>true
 | .box c=>x8 c
 |_=>false
theorem ShC.aside2{s:Sh}(hs:x8 s=true){x:s.T}{cs:List Value}{bs:List Nat}(h:ShC P w I s x cs bs)(he:Ext w I w' I)(hb:∀b∈bs,w'.heap[b]?=w.heap[b]?):ShC P w' I s x cs bs:=by
 cases s<;>first|(cases hs;done)|skip
 .exact ShC.aside (P:=P) (s:=.val _) rfl h he hb
 .exact ShC.aside (P:=P) (s:=.own _ _ _) rfl h he hb
 .obtain⟨b,ents,clock,h1,h2,h3,h4,h5,h6⟩:=h;exact⟨b,ents,clock,h1,h2,(hb b (by rw[h2];simp)).trans h3,h4,λi x e hx hi=>⟨(h5 i x e hx hi).1.ext he,(h5 i x e hx hi).2.ext he⟩,h6⟩
theorem ShV.aside2{s:Sh}(hs:YR s=true){x:s.T}{v:Value}{bs:List Nat}(h:ShV P w I s x v bs)(he:Ext w I w' I)(hb:∀b∈bs,w'.heap[b]?=w.heap[b]?):ShV P w' I s x v bs:=by
 cases s<;>first|(cases hs;done)|skip
 .exact⟨h.1.ext he,h.2⟩
 .exact ShC.aside (P:=P) (s:=.own _ _ _) rfl h he hb
 .exact ShC.aside2 (P:=P) (s:=.omap _ _) rfl h he hb
 .obtain⟨b,cells,el,bs',h1,h2,h3,h4,h5,h6⟩:=h;exact⟨b,cells,el,bs',h1,h2,(hb b (by rw[h2];simp)).trans h3,h4,h5.aside2 hs he (λc hc=>hb c (by rw[h2];exact AD _ hc)),h6⟩
 .exact⟨h.1.ext he,h.2⟩
 .obtain⟨h1,b,c,h2,h3,h4⟩:=h;exact⟨h1,b,c,h2,h3.ext he,Rel.ext he h4⟩
theorem ShL.aside2:∀{l:List Sh},l.all YR=true->∀{x:TupR l} {vs:List Value} {bs:List Nat},ShL P w I l x vs bs->Ext w I w' I->(∀b∈bs,w'.heap[b]?=w.heap[b]?)->ShL P w' I l x vs bs:=by
 intro l;induction l with
 |nil=>intro _ x vs bs h _ _;exact h
 |cons a l ih=>
  intro hl x vs bs h he hb;simp only[List.all_cons,A4]at hl;cases l with
  |nil=>
   obtain⟨v,h1,h2⟩:=h;exact⟨v,h1,ShV.aside2 hl.1 h2 he hb⟩
  |cons b r=>
   obtain⟨v,vs',b1,b2,h1,h2,h3,h4⟩:=h;refine⟨v,vs',b1,b2,h1,h2,ShV.aside2 hl.1 h3 he λc hc=>hb c (by rw[h2];exact AS _ hc),ih hl.2 h4 he λc hc=>hb c (by rw[h2];exact AT _ hc)⟩
structure LoopJ(P:Program)(dr:Bool)(N:Nat)(inn:Kp)(wrs:List Nat)(a0:Act)(w0:World)(I0:Im)(bs:List Nat)(d2 r:Nat)(a:Act)(w:World)(I:Im)(u:TupR inn.sh)(bs':List Nat):Prop where
 mem:GM w I
 aft:After (·∈bs) w0 I0 w I
 defs:a.defers=[]
 size:a.tmps.size=N
 fix:∀t,EV t wrs=false->a.tmps.getD t undef=a0.tmps.getD t undef
 drawn:dr=true->w0.drawn<=w.drawn
 sh:ShL P w I inn.sh u (inn.tm.map λt=>a.tmps.getD t undef) bs'
 nod:bs'.Nodup
 bsub:∀c∈bs',c∈bs\/w0.heap.size<=c
 ptr:a.tmps.getD d2 undef=.pointer (some ⟨r,0,none⟩)
 rin:r∈bs
 rlt:r<w.heap.size
 rbs:r ∉ bs'
 rC:∀o,¬I.cell r o
 rO:¬I.obj r
section
variable{N d2 r:Nat}{inn:Kp}{wrs bs bs':List Nat}{a0 a:Act}{w0:World}{I0:Im}{u:TupR inn.sh}
theorem LoopJ.put(h:LoopJ P dr N inn wrs a0 w0 I0 bs d2 r a w I u bs'){d:Nat}(hd:d<N)(hw:EV d wrs=true)(hi:EV d inn.tm=false)(h2:d≠d2)(v:Value):
 LoopJ P dr N inn wrs a0 w0 I0 bs d2 r (a.put (some d) v) w I u bs':=by
 have g:∀t,(a.put (some d) v).tmps.getD t undef=if d=t then v else a.tmps.getD t undef:=λt=>by
  rw[M2 h.size (λ_ e=>by cases e;exact hd)];simp
 refine⟨h.mem,h.aft,by rw[T_];exact h.defs,by rw[U0];exact h.size,λt ht=>?_,h.drawn,?_,h.nod,h.bsub,?_,h.rin,h.rlt,h.rbs,h.rC,h.rO⟩
 .rw[g,if_neg (λe=>by rw[e,ht]at hw;cases hw)];exact h.fix t ht
 .have e:(inn.tm.map λt=>(a.put (some d) v).tmps.getD t undef)=inn.tm.map λt=>a.tmps.getD t undef:=by
   apply List.map_congr_left;intro t ht;rw[g,if_neg (λe=>by rw[<-e]at ht;rw[KT.2 ht]at hi;cases hi)]
  rw[e];exact h.sh
 .rw[g,if_neg h2];exact h.ptr
theorem LoopJ.iter(h:LoopJ P dr N inn wrs a0 w0 I0 bs d2 r a w I u bs')(hp:inn.sh.all YR=true){w1:World}(hw1:w1=w\/w1=w.drew)(o:Go.Obj):
 LoopJ P dr N inn wrs a0 w0 I0 bs d2 r a (setBlock w1 r o) I u bs':=by
 have hh:∀j,j≠r->(setBlock w1 r o).heap[j]?=w.heap[j]?:=by
  intro j hj;have e:(setBlock w1 r o).heap=w.heap.setIfInBounds r o:=by rcases hw1 with rfl|rfl<;>rfl
  rw[e,Array.getElem?_setIfInBounds,if_neg (λe=>hj e.symm)]
 have hsz:(setBlock w1 r o).heap.size=w.heap.size:=by
  have e:(setBlock w1 r o).heap=w.heap.setIfInBounds r o:=by rcases hw1 with rfl|rfl<;>rfl
  rw[e,Array.size_setIfInBounds]
 have hos:(setBlock w1 r o).os=w.os/\(setBlock w1 r o).tape=w.tape/\(setBlock w1 r o).output=w.output/\w.drawn<=(setBlock w1 r o).drawn:=by
  rcases hw1 with rfl|rfl
  .exact⟨rfl,rfl,rfl,AB _⟩
  .exact⟨rfl,rfl,rfl,Nat.le_succ _⟩
 have he:Ext w I (setBlock w1 r o) I:=Ext.of_heap hh h.rC h.rO;have hm:GM (setBlock w1 r o) I:=⟨λb o h'=>by rw[hsz];exact h.mem.1 b o h',λb h'=>by rw[hsz];exact h.mem.2.1 b h',h.mem.2.2.ext he⟩;have ha:After (·∈[r]) w I (setBlock w1 r o) I:=⟨he,λb _ hb=>hh b (by simpa using hb),by rw[hsz];exact AB _,λ_ _ h=>.inl h,λ_ h=>.inl h,hm.1,hm.2.1,hos.1,hos.2.1,hos.2.2.1,hm.2.2⟩
 refine ⟨hm, h.aft.trans ha (fun b hb => .inl (by have : b = r := by simpa using hb
                                                  rw[this];exact h.rin)),h.defs,h.size,h.fix,λhd=>AU (h.drawn hd) hos.2.2.2,h.sh.aside2 hp he (λb hb=>hh b (λe=>h.rbs (e▸hb))),h.nod,h.bsub,h.ptr,h.rin,by rw[hsz];exact h.rlt,h.rbs,h.rC,h.rO⟩
theorem LoopJ.body{rk:Kp}(h:LoopJ P dr N inn wrs a0 w0 I0 bs d2 r a w I u bs'){wrsB:List Nat}(hB:∀t,EV t wrs=false->EV t wrsB=false)(h2:EV d2 wrsB=false){z:Sum (TupR inn.sh) (TupR rk.sh)}{e:Exit}{a':Act}
 (hq:KV P dr N ⟨inn,[(.normal,inn),(.ret,rk)],wrsB,λ_=>none,[],none,none⟩ z a w I bs' e a' w'):
 match z with
 | .inl u'=>e=.normal/\w'.heap[r]?=w.heap[r]? /\∃I' bs'',Ext w I w' I'/\LoopJ P dr N inn wrs a0 w0 I0 bs d2 r a' w' I' u' bs''
 | .inr c=>e=.ret/\a'.defers=[]/\a'.tmps.size=N/\(∀t,EV t wrs=false->a'.tmps.getD t undef=a0.tmps.getD t undef)/\(dr=true->w0.drawn<=w'.drawn)/\
  ∃I',After (·∈bs) w0 I0 w' I'/\∃bs'',ShL P w' I' rk.sh c (rk.tm.map λt=>a'.tmps.getD t undef) bs''/\bs''.Nodup/\∀b∈bs'',b∈bs\/w0.heap.size<=b:=by
 obtain⟨q1,q2,q3,qd,I',q4,q5⟩:=hq
 have hsub:∀{bs'':List Nat},(∀b∈bs'',b∈bs'\/w.heap.size<=b)->∀c∈bs'',c∈bs\/w0.heap.size<=c:=by
  intro bs'' s3 c hc;rcases s3 c hc with h'|h'
  .exact h.bsub c h'
  .exact .inr (AU h.aft.size h')
 cases z with
 |inl u'=>
  obtain⟨he,bs'',s1,s2,s3⟩:=q5;refine⟨he,q4.heap r h.rlt h.rbs,I',bs'',q4.ext,⟨q4.mem,h.aft.trans q4 h.bsub,q1,q2,λt ht=>(q3 t (hB t ht)).trans (h.fix t ht),λhd=>AU (h.drawn hd) (qd hd),s1,s2,hsub s3,?_,h.rin,B0 h.rlt q4.size,λhr=>?_,λo hr=>?_,λhr=>?_⟩⟩
  .exact(q3 d2 h2).trans h.ptr
  .rcases s3 r hr with h'|h'
   .exact h.rbs h'
   .exact AH _ (B0 h.rlt h')
  .rcases q4.newC r o hr with h'|h'|h'
   .exact h.rC o h'
   .exact AH _ (B0 h.rlt h')
   .exact h.rbs h'
  .rcases q4.newO r hr with h'|h'|h'
   .exact h.rO h'
   .exact AH _ (B0 h.rlt h')
   .exact h.rbs h'
 |inr c=>
  obtain⟨he,bs'',s1,s2,s3⟩:=q5;exact⟨he,q1,q2,λt ht=>(q3 t (hB t ht)).trans (h.fix t ht),λhd=>AU (h.drawn hd) (qd hd),I',h.aft.trans q4 h.bsub,bs'',s1,s2,hsub s3⟩
end
structure RangeAt2(N:Nat)(inn:Kp)(wrs wrsB:List Nat)(s d3 d4 d5 d6:Nat)(nx ex o0 o1:Oper)(ops:Array Oper):Prop where
 nx:nx.op=.next (.tmp s) false/\nx.dst=some d3/\nx.guard=none
 ex:ex.op=.extract (.tmp d3) 0/\ex.dst=some d4/\ex.guard=none
 h0:ops[0]?=some o0
 h1:ops[1]?=some o1
 p0:o0.op=.entry (.tmp s)/\o0.dst=some d5
 p1:o1.op=.extract (.tmp d5) 0/\o1.dst=some d6
 lt:d3<N/\d4<N
 wr:EV d3 wrs=true/\EV d4 wrs=true
 out:EV d3 inn.tm=false/\EV d4 inn.tm=false
 ne:d3≠s/\d4≠s
 sub:wrsB.all (λt=>EV t wrs)=true
 it:EV s wrsB=false
theorem x9{E:Env}(hE:EnvOK P dr E)(hmix:P.follows .mixedOrders=true){N n id2 id3 x y s q d3 d4 d5 d6:Nat}{ops:Array Oper}{C:Code}{wrs wrsB tm:List Nat}{k v:Ty}{b:Sh}{sh:List Sh}{rk:Kp}{nx ex o0 o1:Oper}
 (A:RangeAt2 N ⟨q::tm,b::sh⟩ wrs wrsB s d3 d4 d5 d6 nx ex o0 o1 ops)
 (hdB:HC (HK N wrsB) (.seq (.region id3 ops false) C)=true)(hcB:AllCuts P dr N (HK N wrsB) (HB E C n))(hp:(b::sh).all YR=true)
 {f:k.T->TupR (b::sh)->Option (Sum (TupR (b::sh)) (TupR rk.sh))}(hF:∀kx u,jL E y ops C n d5 d6 k ⟨q::tm,b::sh⟩ rk kx u=f kx u):
 CutOK P dr N ⟨⟨s::q::tm,.it k v::b::sh⟩,[(.exit x,⟨q::tm,b::sh⟩),(.ret,rk)],wrs,λ_=>none,[],some ⟨k,v,λu o=>o.Perm (show List (k.T×v.T)from u.1),λu o=>GU (λkx u=>f kx.1 u) o u.2⟩,none⟩
  (.loop (.seq (.region id2 #[nx,ex] false) (.seq (.cond (.tmp d4) .skip (.exit x)) (.block y (.seq (.region id3 ops false) C))))):=by
 intro w0 I a0 u0 bs hm hda hN hal hsh hnd;show(∀o:List (k.T×v.T),o.Perm (show List (k.T×v.T)from u0.1)->∃z,GU (λkx u=>f kx.1 u) o u0.2=some z)->_;intro hall;obtain⟨vm,vs,b1,bs0,hvs,rfl,⟨r,it,rfl,rfl,hit,hat,hrO,hrC⟩,hrest⟩:=hsh;have hs0:a0.tmps.getD s undef=.pointer (some ⟨r,0,none⟩):=(List.cons.inj hvs).1;have hvs':(q::tm).map (λt=>a0.tmps.getD t undef)=vs:=(List.cons.inj hvs).2
 have hB:∀t,EV t wrs=false->EV t wrsB=false:=by
  intro t ht;cases hh:EV t wrsB with
  |false=>rfl
  |true=>
   have:=BG.1 A.sub t (KT.1 hh);rw[ht]at this;cases this
 have hnd':r ∉ bs0/\bs0.Nodup:=B7.1 hnd
 have hL0:LoopJ P dr N ⟨q::tm,b::sh⟩ wrs a0 w0 I ([r]++bs0) s r a0 w0 I u0.2 bs0:=
  ⟨hm,After.refl hm,hda,hN,λ_ _=>rfl,λ_=>AB _,by show ShL P w0 I (b::sh) u0.2 ((q::tm).map _) bs0;rw[hvs'];exact hrest,hnd'.2,λc hc=>.inl (AT _ hc),hs0,oc,NL hit,hnd'.1,hrC,hrO⟩
 generalize hbs:[r]++bs0=bs at *
 have test:∀{a:Act} {w:World} {I':Im} {u:TupR (b::sh)} {bs':List Nat} {l:List Value} {t:Bool} {w1:World} {o:Go.Obj} {Q:Exit->Act->World->Prop},
  LoopJ P dr N ⟨q::tm,b::sh⟩ wrs a0 w0 I bs s r a w I' u bs'->(Instr.next (.pointer (some ⟨r,0,none⟩)) false nx.type).run P w=.ok (.tuple (.bool t::l).toArray) (if t then setBlock w1 r o else w)->(t=true->w1=w\/w1=w.drew)->
  (∀a',LoopJ P dr N ⟨q::tm,b::sh⟩ wrs a0 w0 I bs s r a' (if t then setBlock w1 r o else w) I' u bs'->a'.eval (.tmp d4)=.bool t->Q .normal a' (if t then setBlock w1 r o else w))->
  (Code.region id2 #[nx,ex] false).wp P Q a w:=by
  intro a w I' u bs' l t w1 o Q hL hrun hw1 hQ;refine wp_region ?_;rw[show List.range (#[nx,ex]:Array Oper).size=[0,1]from rfl,wpOps_cons];refine YQ (o:=nx) rfl A.nx.2.2 (v:=.tuple (.bool t::l).toArray) (w':=if t then setBlock w1 r o else w) ?_ ?_
  .simp only[execOp,A.nx.1];rw[show a.eval (.tmp s)=.pointer (some ⟨r,0,none⟩)from hL.ptr];simp only[Sem.run_bind,hrun,Result.andThen_ok];rfl
  rw[wpOps_cons,A.nx.2.1]
  have h1:LoopJ P dr N ⟨q::tm,b::sh⟩ wrs a0 w0 I bs s r a (if t then setBlock w1 r o else w) I' u bs':=by
   cases t with
   |false=>exact hL
   |true=>exact hL.iter hp (hw1 rfl) o
  have h2:=h1.put A.lt.1 A.wr.1 A.out.1 A.ne.1 (.tuple (.bool t::l).toArray)
  have e3:(a.put (some d3) (.tuple (.bool t::l).toArray)).tmps.getD d3 undef=.tuple (.bool t::l).toArray:=by
   rw[M2 hL.size (λ_ e=>by cases e;exact A.lt.1),if_pos rfl]
  refine YQ (o:=ex) rfl A.ex.2.2 (v:=.bool t) (w':=if t then setBlock w1 r o else w) ?_ ?_
  .simp only[execOp,A.ex.1];rw[show(a.put (some d3) (.tuple (.bool t::l).toArray)).eval (.tmp d3)=.tuple (.bool t::l).toArray from e3];simp[Instr.extract]
  rw[A.ex.2.1];refine hQ _ (h2.put A.lt.2 A.wr.2 A.out.2 A.ne.2 (.bool t)) ?_;show((a.put (some d3) (.tuple (.bool t::l).toArray)).put (some d4) (.bool t)).tmps.getD d4 undef=.bool t;rw[M2 h2.size (λ_ e=>by cases e;exact A.lt.2),if_pos rfl]
 let Post:Exit->Act->World->Prop:=λe a' w'=>∃o z,o.Perm (show List (k.T×v.T)from u0.1)/\GU (λkx u=>f kx.1 u) o u0.2=some z/\
  KV P dr N ⟨⟨s::q::tm,.it k v::b::sh⟩,[(.exit x,⟨q::tm,b::sh⟩),(.ret,rk)],wrs,λ_=>none,[],some ⟨k,v,λu o=>o.Perm (show List (k.T×v.T)from u.1),λu o=>GU (λkx u=>f kx.1 u) o u.2⟩,none⟩ z a0 w0 I bs e a' w'
 show(Code.loop _).wp P Post a0 w0
 have done:∀{a:Act} {w:World} {I':Im} {u:TupR (b::sh)} {bs':List Nat} {dn:List (k.T×v.T)} {R:Act->World->Prop},
  LoopJ P dr N ⟨q::tm,b::sh⟩ wrs a0 w0 I bs s r a w I' u bs'->GU (λkx u=>f kx.1 u) dn u0.2=some (.inl u)->dn.Perm (show List (k.T×v.T)from u0.1)->
  (Instr.next (.pointer (some ⟨r,0,none⟩)) false nx.type).run P w=.ok (.tuple #[.bool false]) w->
  (Code.seq (.region id2 #[nx,ex] false) (.seq (.cond (.tmp d4) .skip (.exit x)) (.block y (.seq (.region id3 ops false) C)))).wp P (Exit.then R Post) a w:=by
  intro a w I' u bs' dn R hL hfd hperm hrun;refine wp_seq (test (l:=[]) (t:=false) (w1:=w) (o:=default) hL hrun (λh=>oe) λa' hL' hv=>?_);refine wp_seq (wp_cond_false hv (wp_exit ?_));exact⟨dn,.inl u,hperm,hfd,hL'.defs,hL'.size,hL'.fix,hL'.drawn,I',hL'.aft,rfl,bs',hL'.sh,hL'.nod,hL'.bsub⟩
 obtain⟨m,hvm,⟨rfl,rfl⟩|⟨mb,ents,clock,rfl,rfl,hmb⟩⟩:=hat
 ·
  obtain⟨c,hc,r',rfl,hnone,hsome⟩:=hvm;have e1:[Value.map r']=[Value.map none]:=hc;have e2:=A5.1 e1;cases e2;have hes:(show List (k.T×v.T)from u0.1)=[]:=hnone rfl;refine wp_loop_rounds 1 ?_;rw[rounds_succ];refine done (dn:=[]) hL0 rfl (by rw[hes]) ?_;simp only[Instr.next,getObj,Sem.run_bind,Sem.run,hit,Result.andThen];rfl
 .obtain⟨c,hc,r',rfl,hnone,hsome⟩:=hvm;have e1:[Value.map r']=[Value.map (some mb)]:=hc;have e2:=A5.1 e1;cases e2;obtain⟨hIb,ents',clock',hh',⟨hsize,hst⟩,hent⟩:=hsome mb rfl;rw[hmb]at hh';cases hh';have hsize:ents.size=(show List (k.T×v.T)from u0.1).length:=hsize
  have key:∀(m:Nat) {a:Act} {w:World} {I':Im} {u:TupR (b::sh)} {bs':List Nat} {dn:List (k.T×v.T)} {seen:Array Nat} {c0:Nat},
   LoopJ P dr N ⟨q::tm,b::sh⟩ wrs a0 w0 I bs s r a w I' u bs'->Ext w0 I w I'->GU (λkx u=>f kx.1 u) dn u0.2=some (.inl u)->(dn++KW (show List (k.T×v.T)from u0.1) ents.toList seen).Perm (show List (k.T×v.T)from u0.1)->(KW (show List (k.T×v.T)from u0.1) ents.toList seen).length=m->
   w.heap[r]?=some (.mapIter (some mb) clock seen c0)->clock<=c0->w.heap[mb]?=some (.map ents clock)->
   Code.rounds P (.seq (.region id2 #[nx,ex] false) (.seq (.cond (.tmp d4) .skip (.exit x)) (.block y (.seq (.region id3 ops false) C)))) Post (m+1) a w:=by
   intro m;induction m with
   |zero=>
    intro a w I' u bs' dn seen c0 hL hx0 hfd hperm hlen hit hc0 hmbw;have hnil:=AJ hlen;rw[hnil,C3]at hperm;rw[rounds_succ];refine done hL hfd hperm ?_;rcases run_next_at (P:=P) w nx.type r mb clock c0 seen ents clock hit hmbw hst.1 hc0 with⟨_,h⟩|⟨e,he,_⟩
    .exact h
    .obtain⟨i,z,_,_,_,hp'⟩:=x7 hsize.symm hst.2.1 he;have:=hp'.length_eq;rw[hnil]at this;simp at this
   |succ m ih=>
    intro a w I' u bs' dn seen c0 hL hx0 hfd hperm hlen hit hc0 hmbw;rw[rounds_succ];rcases run_next_at (P:=P) w nx.type r mb clock c0 seen ents clock hit hmbw hst.1 hc0 with⟨h0,_⟩|⟨e,he,w1,hw1,hrun⟩
    .rw[ABJ h0]at hlen;cases hlen
    .obtain⟨i,z,hz,hei,hein,hp'⟩:=x7 hsize.symm hst.2.1 he
     have hlen':(KW (show List (k.T×v.T)from u0.1) ents.toList (seen.push e.born)).length=m:=by
      have:=hp'.length_eq;rw[hlen]at this;simpa using this.symm
     have hperm':((dn++[z])++KW (show List (k.T×v.T)from u0.1) ents.toList (seen.push e.born)).Perm (show List (k.T×v.T)from u0.1):=by
      refine List.Perm.trans ?_ hperm;rw[B_];exact List.Perm.append_left dn hp'.symm
     obtain⟨u',hu'⟩:∃u',f z.1 u=some u':=by
      obtain⟨zz,hzz⟩:=hall _ hperm';rw[B_,jM hfd]at hzz;simp only[List.singleton_append,GU]at hzz;obtain⟨u',h1,_⟩:=BT.1 hzz;exact⟨u',h1⟩
     refine wp_seq (test (l:=[e.key,e.val]) (t:=true) (w1:=w1) (o:=.mapIter (some mb) clock (seen.push e.born) clock) hL hrun (λ_=>hw1) λa' hL' hv=>?_);simp only[if_true]at hL' ⊢;have hne:mb≠r:=λe=>by rw[e,hit]at hmbw;cases hmbw
     have hheap:(setBlock w1 r (.mapIter (some mb) clock (seen.push e.born) clock)).heap=w.heap.setIfInBounds r (.mapIter (some mb) clock (seen.push e.born) clock):=by rcases hw1 with rfl|rfl<;>rfl
     generalize hw2:setBlock w1 r (.mapIter (some mb) clock (seen.push e.born) clock)=w2 at *
     have hit2:w2.heap[r]?=some (.mapIter (some mb) clock (seen.push e.born) clock):=by
      rw[hheap,Array.getElem?_setIfInBounds,if_pos rfl,if_pos hL.rlt]
     have hmb2:w2.heap[mb]?=some (.map ents clock):=by
      rw[hheap,Array.getElem?_setIfInBounds,if_neg (λe=>hne e.symm)];exact hmbw
     refine wp_seq (wp_cond_true hv (wp_skip ?_))
     have hkey:VRel w2 I' k z.1 e.key:=by
      obtain⟨⟨cc,h1,h2⟩,_⟩:=hent i z e hz hei;exact VRel.ext ⟨cc,h1,h2⟩ hL'.aft.ext
     have hentry:=run_entry_at (P:=P) w2 r mb clock seen ents clock e hit2 hmb2 hein hst.2.1;refine wp_mono (ABL hE hmix (n:=n) (y:=y) (k:=k) (x:=z.1) (inn:=⟨q::tm,b::sh⟩) (rk:=rk) A.h0 A.h1 A.p0 A.p1 hdB hcB hL'.mem hL'.defs hL'.size hL'.sh hL'.nod (by rw[hL'.ptr];exact hentry) hkey ((hF z.1 u).trans hu')) λe' a2 w3 hq=>?_;have hbd:=hL'.body hB A.it hq;cases u' with
     |inl u'=>
      obtain⟨rfl,h1,I2,bs2,h2,h3⟩:=hbd;have hIb':I'.obj mb:=(hL'.aft.ext.obj mb hIb).1;exact ih h3 h3.aft.ext (ABM hfd hu') hperm' hlen' (h1.trans hit2) (AB _) (((h2.obj mb hIb').2).trans hmb2)
     |inr c=>
      obtain⟨rfl,h1,h2,h3,h4,I2,h5,bs2,h6,h7,h8⟩:=hbd;exact⟨_,.inr c,hperm',by rw[B_];exact ABN hfd hu',h1,h2,h3,h4,I2,h5,rfl,bs2,h6,h7,h8⟩
  refine wp_loop_rounds ((show List (k.T×v.T)from u0.1).length+1) ?_;have hle:(KW (show List (k.T×v.T)from u0.1) ents.toList #[])=(show List (k.T×v.T)from u0.1):=ABI (by simp[hsize]);exact key (show List (k.T×v.T)from u0.1).length (dn:=[]) (seen:=#[]) hL0 (Ext.refl _ _) rfl (by rw[hle,List.nil_append]) (by rw[hle]) hit (AB _) hmb
end
section
variable{dr:Bool}
variable{P:Program}{fr:Fr}{free free':Nat->Prop}{self:Nat}{σ σ':SSo}{w w':World}{G G':Gh}{I:Im}
theorem SimN.frzX{N:Nat}{st:St}{a:Act}(hs:SimN P N fr st a w G)(k:Kp)(vs:List SV):∃G',GLe w G w G'/\SimN P N fr (fQ k vs st) a w G':=by
 obtain⟨G',h1,h2⟩:=TZ hs.mem k.sh vs;exact⟨G',h1,λt=>(hs.slots t).mono h1 λ_ _ _ _=>Iff.rfl,hs.defs,hs.size,hs.fix,hs.nogrd,h2,hs.drawn⟩
theorem xA{N:Nat}{fs:Nat->Option FSpec}(hE:∀f sp,fs f=some sp->F6 P f/\FunOK P f sp){k:Kp}{x:KX}{st:St}{v:TupR k.sh}{a:Act}{pv:List Value}(hs:SimN P N fr st a w G)
 (hx:KxOK w G.im (λt=>a.tmps.getD t undef) pv x)(h:O6 fs k x st=some v):
 ∃(G1:Gh) (bs:List Nat),GLe w G w G1/\After fr.gv fr.w0 fr.i0 w G1.im/\ShL P w G1.im k.sh v ((k.tm.map λt=>a.tmps.getD t undef)++pv) bs/\bs.Nodup/\∀b∈bs,fr.owned b:=by
 unfold O6 at h;split at h
 .rename_i vs hvs;obtain⟨e1,e2⟩:=wV (λk o h=>hs.mem.objs k o h) rfl (λt=>hs.sr (.tmp t)) hx hvs;obtain⟨G1,gle,hs1⟩:=hs.frzX k vs;obtain⟨bs,p1,p2,p3⟩:=NN hs1.mem hE (vs:=(k.tm.map λt=>a.tmps.getD t undef)++pv) h e1 (λj s v h1 h2=>(e2 j s v h1 h2).mono gle);refine⟨G1,bs,gle,hs1.mem.after,p1,p2,λb hb=>?_⟩;obtain⟨k',_,o,ho,hbo⟩:=p3 b hb;exact M1 (hs1.mem.objs k' o ho) hbo
 .cases h
theorem jN{wrs bs:List Nat}{a0 a:Act}{w0:World}{N:Nat}{st:St}{x:KX}{pv:List Value}(hx:KxOK w0 I (λt=>a0.tmps.getD t undef) pv x)(hxf:LB wrs x.kn=true)(hs:SimN P N (JC dr wrs bs a0 w0 I) st a w G):
 KxOK w G.im (λt=>a.tmps.getD t undef) pv x:=by
 refine hx.ext hs.mem.after.ext λq hq=>?_;obtain⟨q1,q2⟩:=wZ hxf q hq;exact⟨hs.fix _ _ (by simp[JC,q1]),λc hc hlt=>hs.fix _ _ (by simp[JC,q2 c hc hlt])⟩
theorem ABO{E:Env}(hE:EnvOK P fr.dr E){N:Nat}{e:Ex}{st:St}{a:Act}{x:KX}{pv:List Value}(hs:SimN P N fr st a w G)(hx:KxOK w G.im (λt=>a.tmps.getD t undef) pv x){bs:List Nat}(hgv:∀b,fr.gv b->b∈bs):
 ∀{l:List (Ex×Kp)} {y:GN l},O9 E.fs x l e st=some y->∃I,After fr.gv fr.w0 fr.i0 w I/\YN P w I a (HT e) fr.w0.heap.size bs pv l y:=by
 have hsame:∀{e e':Ex},outPut.sameEx e e'=true->e'=e:=by
  intro e e' h;cases e<;>cases e'<;>first|rfl|cases h|skip
  have h:Nat.beq _ _=true:=h;rw[A2 h]
 have one:∀{o:Ex×Kp} {y:TupR o.2.sh},outPut.sameEx o.1 e=true->O6 E.fs o.2 x st=some y->
  ∃I,After fr.gv fr.w0 fr.i0 w I/\HT e=HT o.1/\∃bs',ShL P w I o.2.sh y ((o.2.tm.map λt=>a.tmps.getD t undef)++pv) bs'/\bs'.Nodup/\∀b∈bs',b∈bs\/fr.w0.heap.size<=b:=by
  intro o y h1 h2;obtain⟨G1,bs',_,k0,k1,k2,k3⟩:=xA hE.fs hs hx h2;exact⟨G1.im,k0,by rw[hsame h1],bs',k1,k2,λb hb=>(k3 b hb).elim .inr λh=>.inl (hgv b h)⟩
 intro l;induction l with
 |nil=>intro y h;cases h
 |cons o r ih=>
  intro y h;cases r with
  |nil=>
   simp only[O9]at h;cases hb:outPut.sameEx o.1 e with
   |false=>rw[hb]at h;cases h
   |true=>rw[hb]at h;exact one hb h
  |cons p r=>
   simp only[O9]at h;cases hb:outPut.sameEx o.1 e with
   |false=>
    rw[hb]at h;simp only[AC]at h;cases hr:O9 E.fs x (p::r) e st with
    |none=>rw[hr]at h;cases h
    |some z=>
     rw[hr]at h;cases h;exact ih hr
   |true=>
    rw[hb]at h;simp only[AA]at h;cases hr:O6 E.fs o.2 x st with
    |none=>rw[hr]at h;cases h
    |some z=>
     rw[hr]at h;cases h;exact one hb hr
theorem xB{E:Env}(hE:EnvOK P dr E){N:Nat}{s:CSpec}{y:GN s.outs}{x:KX}{pv:List Value}{bs:List Nat}{a0 a:Act}{w0:World}{e:Ex}{st:St}(hx:KxOK w0 I (λt=>a0.tmps.getD t undef) pv x)(hxf:LB s.wrs x.kn=true)
 (hs:SimN P N (JC dr s.wrs bs a0 w0 I) st a w G)(h:O9 E.fs x s.outs e st=some y):j9 P dr N s pv y a0 w0 I bs (HT e) a w:=
 ⟨hs.defs,hs.size,λt ht=>hs.fix t _ (by simp[JC,ht]),hs.drawn,ABO hE hs (jN hx hxf hs) (λ_ h=>h) h⟩
theorem xC{E:Env}(hE:EnvOK P dr E)(hmix:P.follows .mixedOrders=true){N n:Nat}{body:Code}{x:KX}{inn:Kp}{outs:List (Ex×Kp)}{wrs:List Nat}{r:(TupR inn.sh->Option (GN outs))->TupR inn.sh->Option (GN outs)}{l:List (CSpec×Code)}
 (hlow:LC x=true)(hxf:LB wrs x.kn=true)(hd:HC (HK N wrs) body=true)(hcs:HB E body n=l)(hc:AllCuts P dr N (HK N wrs) l)(hF:∀next v,A82 E body n x inn outs next v=r next v)(m:Nat):
 CutOK P dr N ⟨inn,outs,wrs,EE r m,[],none,some x⟩ (.loop body):=by
 subst hcs;intro w0 I a0 v0 bs pv hm hda hN hx hsh hnd y h
 obtain ⟨G0,hs0⟩:=jD (fr:=JC dr wrs bs a0 w0 I) hda hN (λt v h=>by
  have h:(if EV t wrs=true then none else some (a0.tmps.getD t undef))=some v:=h;split at h
  .cases h
  .exact A3 h) (After.refl hm) (λ_=>AB _) hx hlow hsh hnd (λb hb=>.inr hb)
 refine wp_loop_rounds m ?_
 have key:∀k v a w G,EE r k v=some y->SimN P N (JC dr wrs bs a0 w0 I) (QA inn x v) a w G->Code.rounds P body (j9 P dr N ⟨inn,outs,wrs,EE r m,[],none,some x⟩ pv y a0 w0 I bs) k a w:=by
  intro k;induction k with
  |zero=>intro v a w G h;cases h
  |succ k ih=>
   intro v a w G h hs;rw[rounds_succ];refine OJ hE hmix QY _ _ _ a w G _ y _ hd (OI hc) ((hF _ v).trans h) hs λe st' a' w' G' hs' hK=>j8 ?_;cases e with
   |normal=>
    simp only at hK;split at hK
    .rename_i v' hv';obtain⟨G1,bs',_,k0,k1,k2,k3⟩:=xA hE.fs hs' (jN hx hxf hs') hv';obtain⟨G'',hs''⟩:=jD hs'.defs hs'.size hs'.fix k0 hs'.drawn ((jN hx hxf hs').ext (by assumption:GLe w' G' w' G1).ext λq _=>⟨rfl,λ_ _ _=>rfl⟩) hlow k1 k2 k3;exact ih v' a' w' G'' hK hs''
    .cases hK
   |exit i=>exact xB (s:=⟨inn,outs,wrs,EE r m,[],none,some x⟩) hE hx hxf hs' hK
   |ret=>exact xB (s:=⟨inn,outs,wrs,EE r m,[],none,some x⟩) hE hx hxf hs' hK
 exact key m v0 a0 w0 G0 h hs0
def OM:List Kn->List Nat
 |[]=>[]
 |q::r=>q.p::(q.caps++OM r)
def YS(N n:Nat)(ps:List Sh)(x:KX)(d:Nat):Bool:=Nat.blt d N && !(Nat.blt d n&&(EV d (GP ps 0)||EV d (OM x.kn)))
theorem ABP:∀{kn:List Kn} {q:Kn},q∈kn->q.p∈OM kn/\∀c∈q.caps,c∈OM kn:=by
 intro kn;induction kn with
 |nil=>intro q h;cases h
 |cons q' kn ih=>
  intro q h;rcases A_.1 h with rfl|h
  .exact⟨AI,λc hc=>AD _ (AS _ hc)⟩
  .obtain⟨h1,h2⟩:=ih h;exact⟨AD _ (AT _ h1),λc hc=>AD _ (AT _ (h2 c hc))⟩
theorem ABQ:∀{ps:List Sh} {vs:List SV} {vals:List Value},vs.length=ps.length->vals.length=ps.length->(∀(j:Nat) (s:SV) (v:Value),vs[j]?=some s->vals[j]?=some v->SR P w G s v)->
 (GW ps vs).length=(FT ps vals).length/\∀(j:Nat) (s:SV) (v:Value),(GW ps vs)[j]?=some s->(FT ps vals)[j]?=some v->SR P w G s v:=by
 intro ps;induction ps with
 |nil=>intro vs vals h1 h2 _;exact⟨by cases vs<;>cases vals<;>rfl,λj s v h=>by cases vs<;>simp[GW]at h⟩
 |cons p ps ih=>
  intro vs vals h1 h2 hs;cases vs with
  |nil=>cases h1
  |cons s0 vs=>
   cases vals with
   |nil=>cases h2
   |cons v0 vals=>
    obtain⟨i1,i2⟩:=ih ot oq (λj s v h3 h4=>hs (j+1) s v (by simpa using h3) (by simpa using h4));cases hb:EU p with
    |true=>
     have e1:GW (p::ps) (s0::vs)=s0::GW ps vs:=by
      cases p<;>first|rfl|(cases hb;done)|(rename_i c0;cases c0<;>first|rfl|(cases hb;done))
     have e2:FT (p::ps) (v0::vals)=v0::FT ps vals:=by
      cases p<;>first|rfl|(cases hb;done)|(rename_i c0;cases c0<;>first|rfl|(cases hb;done))
     rw[e1,e2];refine⟨by simp[i1],λj s v hj hv=>?_⟩;cases j with
     |zero=>cases hj;cases hv;exact hs 0 _ _ rfl rfl
     |succ j=>exact i2 j s v om oz
    |false=>
     have e1:GW (p::ps) (s0::vs)=GW ps vs:=by
      cases p<;>first|rfl|(cases hb;done)|(rename_i c0;cases c0<;>first|rfl|(cases hb;done))
     have e2:FT (p::ps) (v0::vals)=FT ps vals:=by
      cases p<;>first|rfl|(cases hb;done)|(rename_i c0;cases c0<;>first|rfl|(cases hb;done))
     rw[e1,e2];exact⟨i1,i2⟩
theorem jO{E:Env}(hE:EnvOK P dr E)(hmix:P.follows .mixedOrders=true){f:FuncId}{fn:Func}{c:Code}{ps rs:List Sh}{n:Nat}{x:KX}{F:TupR ps->Option (TupR (rs++ps.filter EU))}{l:List (CSpec×Code)}
 (hf:P.funcs[f]?=some fn)(hnm:(fn.name== "runtime.NumGoroutine")=false)(hb:fn.body=some c)(hlow:LC x=true)(hsum:Nat.beq ps.length (n+x.m)=true)(hd:HC (YS fn.ntmps n ps x) c=true)(hn:Nat.ble n fn.ntmps=true)(hl:Nat.beq fn.results.toList.length rs.length=true)
 (hlt:(OM x.kn).all (λc=>Nat.blt c n||Nat.ble 1000000 c)=true)(hcs:HB E c 0=l)(hc:AllCuts P dr fn.ntmps (YS fn.ntmps n ps x) l)(hF:∀v,tK E fn ps rs n x v=F v):F6 P f/\HS P f ⟨⟨ps,rs,F,dr⟩,n,x⟩:=by
 subst hcs;refine⟨⟨fn,c,hf,hnm,hb⟩,?_⟩;intro w I v args pv bs hal hm hx hsh hnd r hr;have hr:=(hF v).trans hr;have hn:=BX hn;have hl:=A2 hl;have hsum:=A2 hsum;have hal:args.length=n:=hal;have hpl:pv.length=x.m:=hx.1;have hext:(args++pv).length=ps.length:=by rw[A6,hal,hpl,hsum]
 let isF:Nat->Bool:=λt=>Nat.blt t n&&(EV t (GP ps 0)||EV t (OM x.kn))
 let fr:Fr:=⟨(·∈bs),w,I,λt=>if isF t then some (args.getD t undef)else none,dr⟩
 let tm:Array Value:=args.toArray++Array.replicate (fn.ntmps-args.toArray.size) undef
 let a0:Act:=⟨tm,[]⟩
 have hlow':∀t,t<args.length->tm.getD t undef=args.getD t undef:=by
  intro t ht;simp[tm,BL,Array.getElem?_append_left,ht]
 have htm:∀t,tm.getD t undef=args.getD t undef:=by
  intro t;rcases CL t args.length with h|h
  .exact hlow' t h
  .rw[AG,B9 h];simp only[tm,BL];rw[Array.getElem?_append_right (by simpa using h),Array.getElem?_replicate];split<;>rfl
 have hargs:((List.range n).map λt=>tm.getD t undef)=args:=by
  apply BV;intro j;rw[AV];by_cases h:j<n
  .rw[CG h];simp only[BD];rw[hlow' j o5,AG,A0 o5];rfl
  .rw[B9 (by simpa using h),B9 o5];rfl
 have hfxok:∀d,YS fn.ntmps n ps x d=true->d<fn.ntmps/\fr.fx d=none:=λd hd=>by
  simp only[YS,A4,BW,BI]at hd;refine⟨hd.1,?_⟩;show(if isF d=true then some (args.getD d undef)else none)=none;simp only[isF,hd.2,CT,CK]
 have hx0:KxOK w I (λt=>a0.tmps.getD t undef) pv x:=hx.ext (Ext.refl _ _) λq _=>⟨htm _,λc _ _=>htm c⟩
 obtain ⟨G0,hs0⟩:=jD (P:=P) (fr:=fr) (N:=fn.ntmps) (k:=⟨List.range n,ps⟩) (x:=x) (v:=v) (a:=a0) (I:=I) rfl (by simp [a0,tm]; omega) (λt v' h=>by
  have h:(if isF t=true then some (args.getD t undef)else none)=some v':=h;split at h
  .cases h;exact htm t
  .cases h) (After.refl hm) (λ_=>AB _) hx0 hlow (by rw[hargs];exact hsh) hnd (λb hb=>.inr hb)
 have hkeep:∀{st':St} {a':Act} {w':World} {G':Gh},SimN P fn.ntmps fr st' a' w' G'->KxOK w' G'.im (λt=>a'.tmps.getD t undef) pv x:=by
  intro st' a' w' G' hs';refine hx.ext hs'.mem.after.ext λq hq=>?_;obtain⟨k1,k2⟩:=ABP hq;rw[BG]at hlt
  have fixd:∀c,c∈OM x.kn->c<1000000->a'.tmps.getD c undef=args.getD c undef:=by
   intro c hc hcl;refine hs'.fix c _ ?_;have h1:=hlt c hc;simp only[BH,BW]at h1
   have h2:c<n:=by
    rcases h1 with h1|h1
    .exact h1
    .have:=BX h1;omega
   show(if isF c=true then some (args.getD c undef)else none)=_;rw[if_pos (by simp[isF,h2,KT.2 hc])]
  exact⟨fixd _ k1 (wX hlow q hq),λc hc hcl=>fixd c (k2 c hc) hcl⟩
 have hbx:∀(ps:List Sh) (i j:Nat),EV j (GP ps i)=true->j<i+ps.length:=by
  intro ps;induction ps with
  |nil=>intro i j h;cases h
  |cons p ps ih=>
   intro i j h;have key:EV j (GP ps (i+1))=true->j<i+(ps.length+1):=λh=>by have:=ih _ _ h;omega
   have here:EV j (i::GP ps (i+1))=true->j<i+(ps.length+1):=λh=>by
    simp only[EV,BH]at h;rcases h with h|h
    .have:=A2 h;omega
    .exact key h
   cases p with
   |box c=>exact here h
   |io el t=>exact here h
   |bld el c=>cases c with
    |true=>exact key h
    |false=>exact here h
   |_=>exact key h
 rw[show(args.toArray:Array Value)=args.toArray from rfl];refine calls_of_wp hf hb ?_;unfold tK at hr;rw[hb]at hr
 have fin:∀(st':St) (a':Act) (w':World) (G':Gh),SimN P fn.ntmps fr st' a' w' G'->
  (match L_ E.ty E.wr (KQ E.wr st' fn.results.toList) fn.results.toList with
   |some l=>match SX ⟨List.range n,ps⟩ x (KQ E.wr st' fn.results.toList)with
    |some vs=>J6 E.fs (LY (KQ E.wr st' fn.results.toList).sto (rs++ps.filter EU) (l++GW ps vs)) (rs++ps.filter EU) (l++GW ps vs)
    |none=>none
   |none=>none)=some r->
  a'.defers=[]/\∃v,(results fn a'.tmps).run P w'=.ok v w'/\∃rv vs I' bs',Ending.returned v=.returned rv/\vs.length=rs.length/\IV vs rv/\After (·∈bs) w I w' I'/\
   ShL P w' I' (rs++ps.filter EU) r (vs++FT ps (args++pv)) bs'/\bs'.Nodup/\(∀b∈bs',b∈bs\/w.heap.size<=b)/\(fr.dr=true->w.drawn<=w'.drawn):=by
  intro st' a' w' G' hs' h;refine⟨hs'.defs,?_⟩;obtain⟨G1,_,hs'⟩:=hs'.frzE fn.results.toList;generalize KQ E.wr st' fn.results.toList=st' at h hs';split at h
  .rename_i ss hss;split at h
   .rename_i vx hvx;obtain⟨vs,rv,h1,h2,h3,h4,h5⟩:=x3 hE hs' hss;have hss2:ss.length=vs.length:=by rw[h4,h3]
    obtain⟨e1,e2⟩:=wV (λk o h=>hs'.mem.objs k o h) rfl (λt=>hs'.sr (.tmp t)) (hkeep hs') hvx
    have hbv:FT ps (((List.range n).map λt=>a'.tmps.getD t undef)++pv)=FT ps (args++pv):=by
     have gen:∀(ps':List Sh) (i:Nat) (l1 l2:List Value),l1.length=l2.length->(∀j v1 v2,EV (i+j) (GP ps' i)=true->l1[j]?=some v1->l2[j]?=some v2->v1=v2)->FT ps' l1=FT ps' l2:=by
      intro ps';induction ps' with
      |nil=>intro i l1 l2 _ _;cases l1<;>cases l2<;>rfl
      |cons p ps' ih=>
       intro i l1 l2 hll h;cases l1 with
       |nil=>
        cases l2 with
        |nil=>rfl
        |cons _ _=>cases hll
       |cons v1 l1=>
        cases l2 with
        |nil=>cases hll
        |cons v2 l2=>
         have hll':l1.length=l2.length:=by simpa using hll
         cases hbp:EU p with
         |true=>
          have q1:∀v l,FT (p::ps') (v::l)=v::FT ps' l:=by
           intro v l;cases p<;>first|rfl|(cases hbp;done)|(rename_i c0;cases c0<;>first|rfl|(cases hbp;done))
          have q2:GP (p::ps') i=i::GP ps' (i+1):=by
           cases p<;>first|rfl|(cases hbp;done)|(rename_i c0;cases c0<;>first|rfl|(cases hbp;done))
          rw[q1,q1];rw[q2]at h;have e0:v1=v2:=h 0 v1 v2 (by simp[EV,CH]) rfl rfl
          rw [e0,ih (i+1) l1 l2 hll' λj u1 u2 hh hj1 hj2=>h (j+1) u1 u2 (by
           simp only[EV,BH];right;rw[show i+(j+1)=i+1+j by omega];exact hh) (by simpa using hj1) (by simpa using hj2)]
         |false=>
          have q1:∀v l,FT (p::ps') (v::l)=FT ps' l:=by
           intro v l;cases p<;>first|rfl|(cases hbp;done)|(rename_i c0;cases c0<;>first|rfl|(cases hbp;done))
          have q2:GP (p::ps') i=GP ps' (i+1):=by
           cases p<;>first|rfl|(cases hbp;done)|(rename_i c0;cases c0<;>first|rfl|(cases hbp;done))
          rw[q1,q1];rw[q2]at h;exact ih (i+1) l1 l2 hll' λj u1 u2 hh hj1 hj2=>h (j+1) u1 u2 (by rw[show i+(j+1)=i+1+j by omega];exact hh) (by simpa using hj1) (by simpa using hj2)
     refine gen ps 0 _ _ (by simp[hal]) λj v1 v2 hh hj1 hj2=>?_;rw[B8]at hh;rcases CL j n with hjn|hjn
     .rw[AQ (by simpa using hjn),AV,CG hjn]at hj1;rw[AQ o5]at hj2
      have hfix:=hs'.fix j (args.getD j undef) (by
       show(if isF j=true then some (args.getD j undef)else none)=_;rw[if_pos (by simp[isF,hjn,hh])])
      simp only[BD,AM]at hj1;rw[<-hj1,hfix,AG,hj2];rfl
     .rw[AZ (by simpa using hjn)]at hj1;rw[AZ o5]at hj2;simp only[B2,DF]at hj1;rw[hal]at hj2;rw[hj1]at hj2;exact A3 hj2
    obtain⟨b1,b2⟩:=ABQ (ps:=ps) (vs:=vx) (vals:=((List.range n).map λt=>a'.tmps.getD t undef)++pv) (by rw[e1];simp[hpl,hsum]) (by simp[hpl,hsum]) e2;rw[hbv]at b1 b2;obtain⟨G2,gle,hm2⟩:=TZ hs'.mem (rs++ps.filter EU) (ss++GW ps vx)
    obtain⟨bs',k1,k2,k3⟩:=NN hm2 hE.fs (vs:=vs++FT ps (args++pv)) h (by rw[A6,A6,b1,hss2])
     (λj s v hj hv=>(YE hss2 h5 b2 j s v hj hv).mono gle)
    refine⟨rv,h1,rv,vs,G2.im,bs',rfl,by rw[h3,hl],h2,hm2.after,k1,k2,λb hb=>?_,hs'.drawn⟩;obtain⟨k,_,o,ho,hbo⟩:=k3 b hb;rcases M1 (hm2.objs k o ho) hbo with h|h
    .exact .inr h
    .exact .inl h
   .cases h
  .cases h
 refine OJ (fr:=fr) hE hmix hfxok c 0 _ a0 w G0 _ r _ hd (OI hc) hr hs0 λe st' a' w' G' hs' hK=>?_;cases e with
 |normal=>exact fin st' a' w' G' hs' hK
 |ret=>exact fin st' a' w' G' hs' hK
 |exit i=>cases hK
end
end Go.Ev
