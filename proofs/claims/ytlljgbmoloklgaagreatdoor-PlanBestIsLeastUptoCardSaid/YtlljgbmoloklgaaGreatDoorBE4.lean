/-
  The evaluator's functions, second part: loops, branches, whole functions, closures that call themselves.
-/
import Derived.Test.YtlljgbmoloklgaaGreatDoorBE3
import Derived.Orders
import Derived.LoopN
import Derived.KernelRfl
set_option linter.unusedVariables false
set_option linter.unusedSimpArgs false
set_option linter.unusedSectionVars false
set_option maxRecDepth 100000
namespace Go.Ev
variable [Pins]
section
variable{P:Program}{fr:Fr}{free free':Nat->Prop}{self:Nat}{σ σ':SSo}{w w':World}{G G':Gh}{I:Im}
theorem AAn{k:IntKind}{n:Int}(h:XP k n=true):GI k n:=by
 simp only[XP,A5,AV]at h;exact h
theorem SR.undef(v:Value):SR P w G .undef v:=⟨[v],rfl,trivial⟩
theorem yA(v:Value):SR P w G (XQ v) v:=by
 unfold XQ;split
 ·exact SR.mk_bool _
 ·rename_i k n;cases h:XP k n with
  |true=>exact SR.mk_int (AAn h)
  |false=>exact SR.undef _
 ·rename_i s;cases h:Nat.ble s.data.toList.length 281474976710656 with
  |true=>exact SR.mk_str (C0 h)
  |false=>exact SR.undef _
 ·exact⟨_,rfl,rfl⟩
 ·exact⟨_,rfl,rfl⟩
 ·exact⟨_,rfl,rfl⟩
 ·exact⟨_,rfl,rfl⟩
 ·exact⟨_,rfl,rfl⟩
 ·exact SR.undef _
theorem SR.not_grd{tk:List (Nat×Bool)}{g:Bool}{s:SV}{v:Value}(h:SR P w G (.grd tk g s) v):False:=by
 obtain⟨_,_,h⟩:=h;exact h
theorem SR.strip{s:SV}{v:Value}{tk:List (Nat×Bool)}(h:SR P w G s v):SR P w G (s.strip tk) v:=by
 cases s<;>first|exact h|exact h.not_grd.elim
theorem SR.slotOK{s:SV}{v:Value}{a:Act}(h:SR P w G s v):SlotOK P w G a s v:=by
 cases s<;>first|exact h|exact h.not_grd.elim
theorem AAo{t:Nat×Bool}:∀{tk:List (Nat×Bool)},U5 t tk=true->t∈tk:=by
 intro tk;induction tk with
 |nil=>intro h;cases h
 |cons u r ih=>
  intro h;simp only[U5,BG,A5]at h;rcases h with⟨h1,h2⟩|h
  ·have e1:=A3 h1
   have e2:t.2=u.2:=by
    cases h3:t.2<;>cases h4:u.2<;>rw[h3,h4]at h2<;>first|rfl|cases h2
   have:t=u:=Prod.ext e1 e2;rw[this];exact AN
  ·exact AI _ (ih h)
theorem SlotOK.strip{s:SV}{v:Value}{a:Act}{tk:List (Nat×Bool)}(h:SlotOK P w G a s v)(hk:holds a tk):SR P w G (s.strip tk) v:=by
 cases s with
 |grd tk' g s=>
  simp only[SV.strip];cases ha:tk'.all (U5 · tk)with
  |false=>exact SR.undef _
  |true=>
   rw[BR]at ha;exact(h.1 fun t ht=>hk t (AAo (ha t ht))).2
 |_=>exact h
theorem SlotOK.mono{s:SV}{v:Value}{a a':Act}(h:SlotOK P w G a s v)(e:GLe w G w' G')(ht:∀tk g s',s=.grd tk g s'->(holds a' tk<->holds a tk)):SlotOK P w' G' a' s v:=by
 cases s with
 |grd tk g s=>
  have ht:=ht tk g s rfl;exact⟨fun hh=>⟨(h.1 (ht.1 hh)).1,(h.1 (ht.1 hh)).2.mono e⟩,fun hh=>h.2 fun hk=>hh (ht.2 hk)⟩
 |_=>exact SR.mono h e
theorem yB{a:Act}{sl:Nat->SV}{x:Operand}{tk:List (Nat×Bool)}(hs:∀t,x=.tmp t->SlotOK P w G a (sl t) (a.tmps.getD t undef))(hk:holds a tk):
 SR P w G ((GL sl x).strip tk) (a.eval x):=by
 cases x with
 |tmp t=>exact(hs t rfl).strip hk
 |const v=>exact(yA v).strip
 |func f=>exact⟨_,rfl,#[],rfl,rfl⟩
 |global g=>exact SR.undef _
def JC(all:Array Oper)(o:Oper):List Nat:=match o.guard with
 |some (j,_)=>match all[j]? with
  |some p=>p.dst.toList
  |none=>[]
 |none=>[]
def ZG(o:Oper):List Nat:=o.op.operands.toList.filterMap fun| .tmp t=>some t|_=>none
theorem AAp{o:Oper}{t:Nat}(h:Operand.tmp t∈o.op.operands):t∈ZG o:=by
 unfold ZG;rw[List.mem_filterMap];exact⟨.tmp t,by simpa using h,rfl⟩
theorem P0{a:Act}{t:Nat}{b:Bool}{tk:List (Nat×Bool)}:holds a ((t,b)::tk)<->a.tmps.getD t undef=.bool b/\holds a tk:=by
 constructor
 ·intro h;exact⟨h _ AN,fun p hp=>h p (AI _ hp)⟩
 ·intro h p hp;rcases B6.1 hp with rfl|hp
  ·exact h.1
  ·exact h.2 p hp
theorem P1(a:Act):holds a []:=fun _ h=>by cases h
theorem AAq(b:Bool):undef≠.bool b:=by intro h;cases h
theorem AAr{all:Array Oper}{o p:Oper}{j t:Nat}{b:Bool}{a:Act}(hg:o.guard=some (j,b))(hp:all[j]?=some p)(ht:p.dst=some t):
 Region.wanted o (yielded all a.tmps)=true<->a.tmps.getD t undef=.bool b:=by
 unfold Region.wanted yielded;simp only[hg,hp,A0,ht];cases h:a.tmps[t]? with
 |none=>simp[h,undef]
 |some v=>
  have:a.tmps.getD t undef=v:=by simp[h]
  rw[this];cases v<;>simp
theorem AAs{all:Array Oper}{o:Oper}{sl:Nat->SV}{a:Act}{tk:List (Nat×Bool)}{g:Bool}(h:O0 all sl o=some (tk,g))
 (hs:∀t∈JC all o,SlotOK P w G a (sl t) (a.tmps.getD t undef)):
 (Region.wanted o (yielded all a.tmps)=true<->holds a tk)/\(holds a tk->g=true)/\(o.guard=none->tk=[])/\
  ∀p∈tk,p.1∈JC all o\/∃t∈JC all o,∃tk' g' s',sl t=.grd tk' g' s'/\p∈tk':=by
 unfold O0 at h;split at h
 ·rename_i hg;simp only[AO,D9]at h;obtain⟨rfl,rfl⟩:=h;exact⟨by simp[Region.wanted,hg,P1],fun _=>rfl,fun _=>rfl,fun p hp=>by cases hp⟩
 ·rename_i j b hg;split at h
  ·rename_i p hp;split at h
   ·rename_i t ht;have hsl:JC all o=[t]:=by simp[JC,hg,hp,ht]
    have hst:=hs t (by rw[hsl];simp);have hwi:=AAr (a:=a) hg hp ht;split at h
    ·rename_i c hc;simp only[AO,D9]at h;obtain⟨rfl,rfl⟩:=h;rw[hc]at hst;have hv:=SR.bool hst;refine⟨by rw[hwi,P0];simp[P1],fun hh=>?_,fun h=>(by rw[hg]at h;cases h),fun q hq=>.inl ?_⟩
     ·have:=(P0.1 hh).1;rw[hv]at this;cases this;cases b<;>rfl
     ·have:q=(t,b):=by simpa using hq
      rw[this,hsl];simp
    ·rename_i tk' g' c hc;simp only[AO,D9]at h;obtain⟨rfl,rfl⟩:=h;rw[hc]at hst
     have key:a.tmps.getD t undef=.bool b->holds a tk':=by
      intro h1;apply C2;intro h2;rw[hst.2 h2]at h1;exact AAq _ h1
     refine⟨?_,fun hh=>?_,fun h=>(by rw[hg]at h;cases h),fun q hq=>?_⟩
     ·rw[hwi,P0];exact⟨fun h1=>⟨h1,key h1⟩,fun h1=>h1.1⟩
     ·obtain⟨h1,h2⟩:=P0.1 hh;obtain⟨h3,h4⟩:=hst.1 h2;have hv:=SR.bool h4;rw[hv]at h1;cases h1;rw[h3];cases b<;>rfl
     ·rcases B6.1 hq with rfl|hq
      ·exact .inl (by rw[hsl];simp)
      ·exact .inr ⟨t,by rw[hsl];simp,tk',g',_,hc,hq⟩
    ·cases h
   ·cases h
  ·cases h
structure SimF(P:Program)(N:Nat)(fr:Fr)(free D:Nat->Prop)(sl:Nat->SV)(σ:SSo)(a:Act)(w:World)(G:Gh):Prop where
 slots:∀t,SlotOK P w G a (sl t) (a.tmps.getD t undef)
 defs:a.defers=[]
 size:a.tmps.size=N
 fix:∀t v,fr.fx t=some v->a.tmps.getD t undef=v
 toks:∀t tk g s,sl t=.grd tk g s->tk≠[]/\∀p∈tk,D p.1
 mem:MemS P fr free σ w G
 drawn:fr.dr=true->fr.w0.drawn<=w.drawn
theorem ZH{a:Act}{N:Nat}(hN:a.tmps.size=N){dst:Option Nat}(hd:∀d,dst=some d->d<N)(v:Value)(t:Nat):
 (a.put dst v).tmps.getD t undef=if dst=some t then v else a.tmps.getD t undef:=by
 cases dst with
 |none=>simp[Act.put]
 |some d=>
  have hd:=hd d rfl;by_cases h:d=t
  ·subst h;simp[Act.put,hN,hd]
  ·simp[Act.put,h,Array.getElem?_setIfInBounds_ne h]
theorem AAt(a:Act)(dst:Option Nat)(v:Value):(a.put dst v).defers=a.defers:=by cases dst<;>rfl
theorem AAu(a:Act)(dst:Option Nat)(v:Value):(a.put dst v).tmps.size=a.tmps.size:=by cases dst<;>simp[Act.put]
theorem RU(sl:Nat->SV)(dst:Option Nat)(s:SV)(t:Nat):N3 sl dst s t=if dst=some t then s else sl t:=by
 cases dst with
 |none=>simp[N3]
 |some d=>
  simp only[N3];by_cases h:t=d
  ·subst h;simp[CI]
  ·have:Nat.beq t d=false:=by rw[<-BM];exact fun hh=>h (A3 hh)
   rw[this];have h':¬d=t:=fun e=>h e.symm;simp[h']
theorem AAv{all:Array Oper}{o:Oper}{sl:Nat->SV}{a:Act}{p:Nat×Bool}{g:Bool}(h:O0 all sl o=some ([p],g))
 (hs:∀t∈JC all o,SlotOK P w G a (sl t) (a.tmps.getD t undef))(hne:∀t∈JC all o,∀tk g s,sl t=.grd tk g s->tk≠[])(hg:g=true):holds a [p]:=by
 unfold O0 at h;split at h
 ·cases h
 ·rename_i j b hgd;split at h
  ·rename_i q hp;split at h
   ·rename_i t ht;have hsl:JC all o=[t]:=by simp[JC,hgd,hp,ht]
    have hst:=hs t (by rw[hsl];simp);split at h
    ·rename_i c hc;simp only[AO,D9]at h;obtain⟨h1,h2⟩:=h;rw[hc]at hst;have hv:=SR.bool hst;have h1:p=(t,b):=(A8.1 h1).symm;subst h1;refine P0.2 ⟨?_,P1 a⟩;rw[hv];rw[hg]at h2;cases b<;>cases hcc:c<;>rw[hcc]at h2<;>first|rfl|cases h2
    ·rename_i tk' g' c hc;simp only[AO,D9]at h;have:=hne t (by rw[hsl];simp) _ _ _ hc;cases tk' with
     |nil=>exact absurd rfl this
     |cons _ _=>cases h.1
    ·cases h
   ·cases h
  ·cases h
theorem AAw{tk:List (Nat×Bool)}{u:Upd}(h:calm tk u=true)(ht:tk≠[]):u.wr=[]:=by
 cases tk with
 |nil=>exact absurd rfl ht
 |cons p r=>
  simp only[calm]at h;split at h
  ·assumption
  ·cases h
theorem yC{a:Act}{N:Nat}(hN:a.tmps.size=N){dst:Option Nat}(hd:∀d,dst=some d->d<N){v:Value}{tk:List (Nat×Bool)}(h:∀p∈tk,dst≠some p.1):
 holds (a.put dst v) tk<->holds a tk:=by
 unfold holds;constructor
 ·intro hh p hp;have:=hh p hp;rw[ZH hN hd,if_neg (h p hp)]at this;exact this
 ·intro hh p hp;rw[ZH hN hd,if_neg (h p hp)];exact hh p hp
theorem yD{E:Env}(hE:EnvOK P fr.dr E){all:Array Oper}{i N:Nat}{o:Oper}(ho:all[i]?=some o){D:Nat->Prop}{sl sl0:Nat->SV}{a:Act}
 (hs:SimF P N fr free D sl σ a w G)(hag:∀t,t∈ZG o\/t∈JC all o->sl0 t=sl t)
 (hgd:∀t∈JC all o,D t)(hdst:∀d,o.dst=some d->(d<N/\fr.fx d=none)/\¬D d)
 {tk:List (Nat×Bool)}{g:Bool}(hg:O0 all sl0 o=some (tk,g))
 (hσ:∀k ob,σ' k=some ob->σ k=some ob)(hfree:∀k,self<=k->k<self+8->free k)
 {r:OpRes} (hr:RG E (fun x=>(GL sl0 x).strip tk)
  (match o.op with| .pick c _ _=>fun x=>(GL sl0 x).strip (O1 c true tk)|_=>fun x=>(GL sl0 x).strip tk)
  (match o.op with| .pick c _ _=>fun x=>(GL sl0 x).strip (O1 c false tk)|_=>fun x=>(GL sl0 x).strip tk) σ' self o=some r)
 {u:Upd}(hu:g=true->Gives r u)(hu':tk=[]->Gives r u)(hcalm:calm tk u=true\/((∃p,tk=[p])/\(g=false->u.wr=[]))){K:Act->World->Prop}{Q:Exit->Act->World->Prop}
 (hK:∀a' w' G',GLe w G w' G'->SimF P N fr (HV free self) D (N3 sl o.dst (O2 tk g u.sv)) (ER σ u.wr) a' w' G'->K a' w'):
 wpOp P all Q i K a w:=by
 have hgs:∀t∈JC all o,SlotOK P w G a (sl0 t) (a.tmps.getD t undef):=fun t ht=>by rw[hag t (.inr ht)];exact hs.slots t
 obtain⟨g1,g2,g3,g4⟩:=AAs hg hgs
 have htk:∀p∈tk,D p.1:=by
  intro p hp;rcases g4 p hp with h|⟨t,ht,tk',g',s',h1,h2⟩
  ·exact hgd _ h
  ·rw[hag t (.inr ht)]at h1;exact(hs.toks t tk' g' s' h1).2 p h2
 have hdN:∀d,o.dst=some d->d<N:=fun d hd=>(hdst d hd).1.1;have hnd:∀{tk':List (Nat×Bool)},(∀p∈tk',D p.1)->∀p∈tk',o.dst≠some p.1:=fun h p hp e=>(hdst _ e).2 (h p hp)
 have fin:∀(v:Value) (w':World) (G':Gh),GLe w G w' G'->MemS P fr (HV free self) (ER σ u.wr) w' G'->(fr.dr=true->w.drawn<=w'.drawn)->
  ((holds a tk->g=true/\SR P w' G' u.sv v)/\(¬holds a tk->v=Go.undef))->K (a.put o.dst v) w':=by
  intro v w' G' hle hm hdr hv;refine hK _ w' G' hle ⟨fun t=>?_,?_,?_,?_,?_,hm,fun h=>AZ (hs.drawn h) (hdr h)⟩
  ·rw[RU,ZH hs.size hdN];by_cases h:o.dst=some t
   ·rw[if_pos h,if_pos h];cases tk with
    |nil=>exact(hv.1 (P1 a)).2.slotOK
    |cons p r=>
     have:=yC (v:=v) hs.size hdN (hnd htk);exact⟨fun hh=>hv.1 (this.1 hh),fun hh=>hv.2 fun hk=>hh (this.2 hk)⟩
   ·rw[if_neg h,if_neg h];refine(hs.slots t).mono hle fun tk' g' s' h'=>?_;exact yC hs.size hdN (hnd (hs.toks t tk' g' s' h').2)
  ·rw[AAt];exact hs.defs
  ·rw[AAu];exact hs.size
  ·intro t v' h;rw[ZH hs.size hdN,if_neg (fun e=>by have:=(hdst t e).1.2;rw[h]at this;cases this)];exact hs.fix t v' h
  ·intro t tk' g' s' h;rw[RU]at h;by_cases hd:o.dst=some t
   ·rw[if_pos hd]at h;cases htk':tk with
    |nil=>
     rw[htk']at h hv;have h:u.sv=.grd tk' g' s':=h;have:=(hv.1 (P1 a)).2;rw[h]at this;exact this.not_grd.elim
    |cons q r=>
     rw[htk']at h;have h:SV.grd (q::r) g u.sv=.grd tk' g' s':=h;injection h with h1 _ _;exact⟨by rw[<-h1];simp,fun p hp=>htk p (by rw[htk',h1];exact hp)⟩
   ·rw[if_neg hd]at h;exact hs.toks t tk' g' s' h
 unfold wpOp;simp only[ho];by_cases hw:Region.wanted o (yielded all a.tmps)=true
 ·rw[if_pos hw];have hh:=g1.1 hw;have hgt:=g2 hh;left
  have hop:∀{tk':List (Nat×Bool)},holds a tk'->∀x∈o.op.operands,SR P w G ((GL sl0 x).strip tk') (a.eval x):=by
   intro tk' hh' x hx;refine yB (fun t ht=>?_) hh';subst ht;rw[hag t (.inl (AAp hx))];exact hs.slots t
  have hdone:Done P fr.dr o a w (Res P fr free self σ w G u):=by
   refine AAm hE hs.mem hσ hfree (fun _ x hx=>hop hh x hx) ?_ hr (hu hgt);intro c x y hpk;refine⟨hop hh c (by simp[hpk,Op.operands]),fun hc=>?_,fun hc=>?_⟩
   ·simp only[hpk];refine hop ?_ x (by simp[hpk,Op.operands]);cases c with
    |tmp t=>exact P0.2 ⟨hc,hh⟩
    |_=>exact hh
   ·simp only[hpk];refine hop ?_ y (by simp[hpk,Op.operands]);cases c with
    |tmp t=>exact P0.2 ⟨hc,hh⟩
    |_=>exact hh
  refine hdone Q K fun v w' hres hdr=>?_;obtain⟨G',h1,h2,h3⟩:=hres;exact fin v w' G' h1 h2 hdr ⟨fun _=>⟨hgt,h3⟩,fun hn=>absurd hh hn⟩
 ·rw[if_neg hw];have hnh:¬holds a tk:=fun h=>hw (g1.2 h);have hne:tk≠[]:=fun e=>by subst e;exact hnh (P1 a)
  have hwr:u.wr=[]:=by
   rcases hcalm with hcalm|⟨⟨p,hp⟩,hcalm⟩
   ·exact AAw hcalm hne
   ·refine hcalm ?_;cases hgb:g with
    |false=>rfl
    |true=>
     subst hp;exact absurd (AAv hg hgs (fun t ht tk' g' s' h=>(hs.toks t tk' g' s' ((hag t (.inr ht))▸h)).1) hgb) hnh
  refine fin Go.undef w G (GLe.refl _ _) ?_ (fun _=>AM _) ⟨fun h=>absurd h hnh,fun _=>rfl⟩;rw[hwr];exact hs.mem.shrink fun _ h=>h.1
theorem SimF.draws{N:Nat}{D:Nat->Prop}{sl:Nat->SV}{a:Act}(h:SimF P N fr free D sl σ a w G)(n:Nat)(hn:w.drawn<=n):SimF P N fr free D sl σ a {w with drawn:=n} G:=by
 have hle:GLe w G {w with drawn:=n} G:=⟨⟨fun _ _ h=>⟨h,rfl⟩,fun _ h=>⟨h,rfl⟩⟩,fun _ _ _ h=>h,fun _ _ h=>h,fun _ _ h=>h⟩;refine⟨fun t=>(h.slots t).mono hle fun _ _ _ _=>Iff.rfl,h.defs,h.size,h.fix,h.toks,⟨fun k o ho=>?_,h.mem.sep,?_,h.mem.fresh⟩,fun hd=>AZ (h.drawn hd) hn⟩
 ·exact(h.mem.objs k o ho).keep hle fun b _=>⟨rfl,fun _ h=>h,fun h=>h⟩
 ·exact ⟨⟨fun b o hb=>h.mem.after.ext.cell b o hb,fun b hb=>h.mem.after.ext.obj b hb⟩,h.mem.after.heap,h.mem.after.size,h.mem.after.newC,h.mem.after.newO,h.mem.after.inC,h.mem.after.inO,
   h.mem.after.os,h.mem.after.tape,h.mem.after.output,h.mem.after.pins.ext hle.ext⟩
def Calm(draw:Bool)(tk:List (Nat×Bool))(g:Bool)(u:Upd):Prop:=calm tk u=true\/(draw=false/\(∃p,tk=[p])/\(g=false->u.wr=[]))
theorem Calm.draw{tk:List (Nat×Bool)}{g:Bool}{u:Upd}(h:Calm true tk g u):calm tk u=true:=h.elim id fun h=>by cases h.1
theorem yE{tk:List (Nat×Bool)}(h:RI tk=true):∃p,tk=[p]:=by
 unfold RI at h;split at h
 ·exact⟨_,rfl⟩
 ·cases h
theorem AAx{Ω:Type}{draw:Bool}{tk:List (Nat×Bool)}{g:Bool}{r:OpRes}{K:Upd->Option Ω}{ω:Ω}(h:jF draw tk g r K=some ω):
 ∃u,(g=true->Gives r u)/\(tk=[]->Gives r u)/\Calm draw tk g u/\K u=some ω:=by
 unfold jF at h;split at h
 ·rename_i u;cases hc:calm tk u with
  |false=>
   rw[hc]at h;simp only[AC]at h;cases hd:(!draw&&RI tk)with
   |false=>rw[hd]at h;cases h
   |true=>
    rw[hd]at h;simp only[A5,BQ]at hd;obtain⟨hd,ho⟩:=hd;have hone:=yE ho;simp only[AA]at h;cases g with
    |true=>exact⟨u,fun _=>.pure u,fun _=>.pure u,.inr ⟨hd,hone,fun h=>by cases h⟩,h⟩
    |false=>exact⟨⟨u.sv,[]⟩,fun h=>(by cases h),fun h=>(by obtain⟨p,hp⟩:=hone;rw[h]at hp;cases hp),.inr ⟨hd,hone,fun _=>rfl⟩,h⟩
  |true=>rw[hc]at h;exact⟨u,fun _=>.pure u,fun _=>.pure u,.inl hc,h⟩
 ·rename_i α m d f;obtain⟨x,h1,h2⟩:=BX.1 h;cases hc:calm tk (f x)with
  |false=>
   rw[hc]at h2;simp only[AC]at h2;cases hd:(!draw&&RI tk)with
   |false=>rw[hd]at h2;cases h2
   |true=>
    rw[hd]at h2;simp only[A5,BQ]at hd;obtain⟨hd,ho⟩:=hd;have hone:=yE ho;simp only[AA]at h2;cases g with
    |true=>
     refine⟨f x,fun _=>.may ?_,fun ht=>(by obtain⟨p,hp⟩:=hone;rw[ht]at hp;cases hp),.inr ⟨hd,hone,fun h=>by cases h⟩,h2⟩;obtain⟨p,rfl⟩:=hone;exact h1
    |false=>exact⟨⟨(f x).sv,[]⟩,fun h=>(by cases h),fun h=>(by obtain⟨p,hp⟩:=hone;rw[h]at hp;cases hp),.inr ⟨hd,hone,fun _=>rfl⟩,h2⟩
  |true=>
   rw[hc]at h2;refine⟨f x,fun hg=>.may ?_,fun ht=>.may ?_,.inl hc,h2⟩
   ·subst hg;cases tk with
    |nil=>exact h1
    |cons p r=>exact h1
   ·subst ht;exact h1
structure GuardsOK(all:Array Oper):Prop where
 uniq:KE all=true->∀(i j:Nat) (o p:Oper) (d:Nat),i<j->all[i]?=some o->all[j]?=some p->o.dst=some d->p.dst≠some d
 back:KE all=true->∀(i:Nat) (o:Oper) (j:Nat) (b:Bool),all[i]?=some o->o.guard=some (j,b)->j<i
theorem yF{all:Array Oper}{i:Nat}{o:Oper}{j:Nat}{b:Bool}(ho:all[i]?=some o)(hg:o.guard=some (j,b)):KE all=true:=by
 unfold KE;rw[List.any_eq_true];exact⟨o,by simpa using Array.mem_of_getElem? ho,by simp[hg]⟩
def DS(all:Array Oper)(S:Nat->Bool):Nat->Prop:=fun t=>KE all=true/\∃j o,S j=true/\all[j]?=some o/\o.dst=some t
theorem DS.mono{all:Array Oper}{S S':Nat->Bool}{t:Nat}(h:DS all S t)(hs:∀j,S j=true->S' j=true):DS all S' t:=
 ⟨h.1,let ⟨j,o,h1,h2,h3⟩:=h.2;⟨j,o,hs j h1,h2,h3⟩⟩
theorem yG{all:Array Oper}{o:Oper}{t:Nat}(h:t∈JC all o):∃j b p,o.guard=some (j,b)/\all[j]?=some p/\p.dst=some t:=by
 unfold JC at h;split at h
 ·rename_i j b hg;split at h
  ·rename_i p hp;exact⟨j,b,p,hg,hp,by simpa using h⟩
  ·cases h
 ·cases h
theorem SimF.weaken{N:Nat}{D D':Nat->Prop}{sl:Nat->SV}{a:Act}(h:SimF P N fr free D sl σ a w G)(hf:∀k,free' k->free k)(hD:∀t,D t->D' t):SimF P N fr free' D' sl σ a w G:=
 ⟨h.slots,h.defs,h.size,h.fix,fun t tk g s hh=>⟨(h.toks t tk g s hh).1,fun p hp=>hD _ ((h.toks t tk g s hh).2 p hp)⟩,h.mem.shrink hf,h.drawn⟩
theorem yH{Ω:Type}{E:Env}{all:Array Oper}{draw:Bool}{n0 i:Nat}{o:Oper}{rest:List Oper}{st:St}{cl:List (List Nat×List Nat)}{K:St->List (List Nat×List Nat)->Option Ω}{ω:Ω}
 (h:O3 E all draw n0 (o::rest) i st cl K=some ω):
 ∃tk g r u,O0 all st.slots o=some (tk,g)/\
  RG E (fun x=>(GL st.slots x).strip tk)
   (match o.op with| .pick c _ _=>fun x=>(GL st.slots x).strip (O1 c true tk)|_=>fun x=>(GL st.slots x).strip tk)
   (match o.op with| .pick c _ _=>fun x=>(GL st.slots x).strip (O1 c false tk)|_=>fun x=>(GL st.slots x).strip tk)
   (KY all draw n0 i (RH (fun x=>(GL st.slots x).strip tk) st.sto o.op) st.sto) (n0+8*i) o=some r/\
  (g=true->Gives r u)/\(tk=[]->Gives r u)/\Calm draw tk g u/\
  OT (KY all draw n0 i (RH (fun x=>(GL st.slots x).strip tk) st.sto o.op) st.sto) (n0+8*i) u=true/\
  O3 E all draw n0 rest (i+1) {slots:=N3 st.slots o.dst (O2 tk g u.sv),sto:=ER st.sto u.wr,n:=st.n}
   ((u.far (n0+8*i),RH (fun x=>(GL st.slots x).strip tk) st.sto o.op)::cl) K=some ω:=by
 simp only[O3]at h;split at h
 ·cases h
 ·rename_i tk g hg;split at h
  ·cases h
  ·rename_i r hr;obtain⟨u,h1,h2,h3,h4⟩:=AAx h;cases hw:OT (KY all draw n0 i (RH (fun x=>(GL st.slots x).strip tk) st.sto o.op) st.sto) (n0+8*i) u with
   |false=>rw[hw]at h4;cases h4
   |true=>
    rw[hw]at h4;exact⟨tk,g,r,u,hg,hr,h1,h2,h3,hw,h4⟩
theorem AAy{Ω:Type}{E:Env}(hE:EnvOK P fr.dr E){N n0:Nat}{all:Array Oper}(hgo:GuardsOK all)(hdst:∀(j:Nat) o d,all[j]?=some o->o.dst=some d->d<N/\fr.fx d=none)
 {K:St->List (List Nat×List Nat)->Option Ω}{ω:Ω}{Q:Exit->Act->World->Prop}:
 ∀(ops:List Oper) (i:Nat) (st:St) (cl:List (List Nat×List Nat)) (a:Act) (w:World) (G:Gh),O3 E all false n0 ops i st cl K=some ω->all.toList.drop i=ops->i+ops.length=all.size->
  SimF P N fr (fun k=>n0+8*i<=k) (DS all (fun j=>decide (j<i))) st.slots st.sto a w G->
  (∀st' cl' a' w' G',SimF P N fr (fun k=>n0+8*all.size<=k) (DS all (fun j=>decide (j<all.size))) st'.slots st'.sto a' w' G'->st'.n=st.n->K st' cl'=some ω->Q .normal a' w')->
  wpOps P all Q (List.range' i ops.length) a w:=by
 intro ops;induction ops with
 |nil=>
  intro i st cl a w G h hdr hl hs hQ;simp only[AJ,D3]at hl;subst hl;exact hQ st cl a w G hs rfl h
 |cons o rest ih=>
  intro i st cl a w G h hdr hl hs hQ;obtain⟨tk,g,r,u,h1,h2,h3,h4,h5,h6,h7⟩:=yH h
  have ho:all[i]?=some o:=by
   have:=congrArg List.head? hdr;rw[List.head?_drop]at this;simpa using this
  simp only[AD,List.range'_succ];rw[wpOps_cons];refine yD hE ho (self:=n0+8*i) hs (fun t _=>rfl) ?_ ?_ h1 ?_ (fun k hk _=>hk) h2 h3 h4 (h5.imp id fun h=>h.2) ?_
  ·intro t ht;obtain⟨j,b,p,hg,hp,hd⟩:=yG ht;have hh:=yF ho hg;exact⟨hh,j,p,by simpa using hgo.back hh i o j b ho hg,hp,hd⟩
  ·intro d hd;refine⟨hdst i o d ho hd,fun hD=>?_⟩;obtain⟨hh,j,p,hj,hp,hpd⟩:=hD;exact hgo.uniq hh j i p o d (by simpa using hj) hp ho hpd hd
  ·intro k ob hk;exact hk
  ·intro a' w' G' _ hs';refine ih (i+1) _ _ a' w' G' h7 ?_ (by simp only[AD]at hl;omega) ?_ (fun st' cl' a' w' G' hs' hn hK=>hQ st' cl' a' w' G' hs' hn hK)
   ·have:=congrArg List.tail hdr;simpa[List.tail_drop]using this
   ·refine hs'.weaken (fun k hk=>⟨by omega,?_⟩) fun t ht=>ht.mono fun j hj=>by simp only[AV]at hj ⊢;omega
    simp only[IY,DP];right;rw[<-BM,BS];omega
structure Info where
 tk:List (Nat×Bool)
 g:Bool
 u:Upd
 c:List Nat×List Nat
def GE(all:Array Oper)(L:Nat->Info)(S:Nat->Bool)(sl0:Nat->SV):Nat->Nat->SV
 |0=>sl0
 |i+1=>bif S i then N3 (GE all L S sl0 i) (all.getD i default).dst (O2 (L i).tk (L i).g (L i).u.sv)else GE all L S sl0 i
def GG(L:Nat->Info)(S:Nat->Bool)(σ0:SSo):Nat->SSo
 |0=>σ0
 |i+1=>bif S i then ER (GG L S σ0 i) (L i).u.wr else GG L S σ0 i
def L2(l:List (Nat×Option Obj)):List Nat:=l.map (·.1)
theorem kO{σ:SSo}:∀{l:List (Nat×Option Obj)} {k:Nat},k ∉ L2 l->ER σ l k=σ k:=by
 intro l;induction l with
 |nil=>intro k _;rfl
 |cons p r ih=>
  intro k h;obtain⟨j,o⟩:=p;simp only[L2,CZ,B6,not_or]at h;simp only[ER];rw[show Nat.beq k j=false by rw[<-BM];exact fun hh=>h.1 (A3 hh)];exact ih h.2
theorem yI{σ σ':SSo}:∀{l:List (Nat×Option Obj)} {k:Nat},k∈L2 l->ER σ l k=ER σ' l k:=by
 intro l;induction l with
 |nil=>intro k h;cases h
 |cons p r ih=>
  intro k h;obtain⟨j,o⟩:=p;simp only[ER];cases hb:Nat.beq k j with
  |true=>rfl
  |false=>
   simp only[AC];refine ih ?_;simp only[L2,CZ,B6]at h;rcases h with rfl|h
   ·rw[CI]at hb;cases hb
   ·exact h
theorem ZI{all:Array Oper}{L:Nat→Info}{S S':Nat→Bool}{sl0:Nat→SV}{t:Nat}:∀{n:Nat},(∀j,j<n→(all.getD j default).dst=some t→S j=S' j)→GE all L S sl0 n t=GE all L S' sl0 n t:=by
 intro n;induction n with
 |zero=>intro _;rfl
 |succ n ih=>
  intro h;have ih:=ih fun j hj=>h j (by omega)
  have key:∀S,GE all L S sl0 (n+1) t=if S n=true/\(all.getD n default).dst=some t then O2 (L n).tk (L n).g (L n).u.sv else GE all L S sl0 n t:=by
   intro S;simp only[GE];cases hS:S n with
   |false=>simp
   |true=>simp only[AA,RU,true_and]
  rw[key,key,ih];by_cases hd:(all.getD n default).dst=some t
  ·rw[h n (by omega) hd]
  ·rw[if_neg (fun h=>hd h.2),if_neg (fun h=>hd h.2)]
theorem ZJ{L:Nat->Info}{S S':Nat->Bool}{σ0:SSo}{k:Nat}:∀{n:Nat},(∀j,j<n->k∈L2 (L j).u.wr->S j=S' j)->GG L S σ0 n k=GG L S' σ0 n k:=by
 intro n;induction n with
 |zero=>intro _;rfl
 |succ n ih=>
  intro h;have ih:=ih fun j hj=>h j (by omega);simp only[GG];by_cases hk:k∈L2 (L n).u.wr
  ·rw[h n (by omega) hk];cases S' n with
   |true=>exact yI hk
   |false=>exact ih
  ·have key:∀S,(bif S n then ER (GG L S σ0 n) (L n).u.wr else GG L S σ0 n) k=GG L S σ0 n k:=by
    intro S;cases S n with
    |true=>exact kO hk
    |false=>rfl
   rw[key,key,ih]
theorem yJ{all:Array Oper}{L:Nat->Info}{S:Nat->Bool}{sl0:Nat->SV}{i:Nat}:∀{n:Nat},i<=n->(∀j,j<i->S j=true)->(∀j,i<=j->j<n->S j=false)->GE all L S sl0 n=GE all L (fun _=>true) sl0 i:=by
 intro n;induction n with
 | zero => intro h _ _; have : i = 0 := by omega
           subst this;rfl
 |succ n ih=>
  intro hi h1 h2;by_cases h:i=n+1
  ·subst h
   have:GE all L S sl0 n=GE all L (fun _=>true) sl0 n:=by
    funext t;exact ZI fun j hj _=>by rw[h1 j (by omega)]
   simp only[GE,h1 n (by omega),this]
  ·simp only[GE,h2 n (by omega) (by omega),AC];exact ih (by omega) h1 (fun j hj hn=>h2 j hj (by omega))
theorem yK{L:Nat->Info}{S:Nat->Bool}{σ0:SSo}{i:Nat}:∀{n:Nat},i<=n->(∀j,j<i->S j=true)->(∀j,i<=j->j<n->S j=false)->GG L S σ0 n=GG L (fun _=>true) σ0 i:=by
 intro n;induction n with
 | zero => intro h _ _; have : i = 0 := by omega
           subst this;rfl
 |succ n ih=>
  intro hi h1 h2;by_cases h:i=n+1
  ·subst h
   have:GG L S σ0 n=GG L (fun _=>true) σ0 n:=by
    funext t;exact ZJ fun j hj _=>by rw[h1 j (by omega)]
   simp only[GG,h1 n (by omega),this]
  ·simp only[GG,h2 n (by omega) (by omega),AC];exact ih (by omega) h1 (fun j hj hn=>h2 j hj (by omega))
theorem AAz{all:Array Oper}{L:Nat->Info}{S:Nat->Bool}{sl0:Nat->SV}{t i:Nat}(hi:S i=true)(hd:(all.getD i default).dst=some t):
 ∀{n:Nat},i<n->(∀j,i<j->j<n->(all.getD j default).dst=some t->S j=false)->GE all L S sl0 n t=O2 (L i).tk (L i).g (L i).u.sv:=by
 intro n;induction n with
 |zero=>intro h;omega
 |succ n ih=>
  intro hn h;simp only[GE];by_cases e:i=n
  ·subst e;rw[hi];simp only[AA,RU,hd,if_true]
  ·have ih:=ih (by omega) fun j h1 h2=>h j h1 (by omega);by_cases hd':(all.getD n default).dst=some t
   ·rw[h n (by omega) (by omega) hd'];exact ih
   ·cases S n with
    |true=>simp only[AA,RU,hd',CK];exact ih
    |false=>exact ih
theorem AB0{L:Nat->Info}{S:Nat->Bool}{σ0 σ:SSo}{k i:Nat}(hi:S i=true)(hd:k∈L2 (L i).u.wr):
 ∀{n:Nat},i<n->(∀j,i<j->j<n->k∈L2 (L j).u.wr->S j=false)->GG L S σ0 n k=ER σ (L i).u.wr k:=by
 intro n;induction n with
 |zero=>intro h;omega
 |succ n ih=>
  intro hn h;simp only[GG];by_cases e:i=n
  ·subst e;rw[hi];exact yI hd
  ·have ih:=ih (by omega) fun j h1 h2=>h j h1 (by omega);by_cases hd':k∈L2 (L n).u.wr
   ·rw[h n (by omega) (by omega) hd'];exact ih
   ·cases S n with
    |true=>exact(kO hd').trans ih
    |false=>exact ih
theorem yL{all:Array Oper}{L L':Nat->Info}{S:Nat->Bool}{sl0:Nat->SV}:∀{n:Nat},(∀j,j<n->L j=L' j)->GE all L S sl0 n=GE all L' S sl0 n:=by
 intro n;induction n with
 |zero=>intro _;rfl
 |succ n ih=>intro h;simp only[GE,ih fun j hj=>h j (by omega),h n (by omega)]
theorem yM{L L':Nat->Info}{S:Nat->Bool}{σ0:SSo}:∀{n:Nat},(∀j,j<n->L j=L' j)->GG L S σ0 n=GG L' S σ0 n:=by
 intro n;induction n with
 |zero=>intro _;rfl
 |succ n ih=>intro h;simp only[GG,ih fun j hj=>h j (by omega),h n (by omega)]
structure Fact(E:Env)(all:Array Oper)(n0:Nat)(L:Nat->Info)(sl0:Nat->SV)(σ0:SSo)(i:Nat)(o:Oper)(r:OpRes):Prop where
 op:all[i]?=some o
 grd:O0 all (GE all L (fun _=>true) sl0 i) o=some ((L i).tk,(L i).g)
 val:RG E (fun x=>(GL (GE all L (fun _=>true) sl0 i) x).strip (L i).tk)
  (match o.op with| .pick c _ _=>fun x=>(GL (GE all L (fun _=>true) sl0 i) x).strip (O1 c true (L i).tk)|_=>fun x=>(GL (GE all L (fun _=>true) sl0 i) x).strip (L i).tk)
  (match o.op with| .pick c _ _=>fun x=>(GL (GE all L (fun _=>true) sl0 i) x).strip (O1 c false (L i).tk)|_=>fun x=>(GL (GE all L (fun _=>true) sl0 i) x).strip (L i).tk)
  (KY all true n0 i (L i).c.2 (GG L (fun _=>true) σ0 i)) (n0+8*i) o=some r
 gives:(L i).g=true->Gives r (L i).u
 gives':(L i).tk=[]->Gives r (L i).u
 calm:calm (L i).tk (L i).u=true
 wr:OT (KY all true n0 i (L i).c.2 (GG L (fun _=>true) σ0 i)) (n0+8*i) (L i).u=true
 cls:(L i).c.1=(L i).u.far (n0+8*i)
theorem Fact.congr{E:Env}{all:Array Oper}{n0:Nat}{L L':Nat->Info}{sl0:Nat->SV}{σ0:SSo}{i:Nat}{o:Oper}{r:OpRes}
 (h:Fact E all n0 L sl0 σ0 i o r)(hl:∀j,j<=i->L j=L' j):Fact E all n0 L' sl0 σ0 i o r:=by
 have e1:=yL (all:=all) (S:=fun _=>true) (sl0:=sl0) (n:=i) fun j hj=>hl j (by omega);have e2:=yM (S:=fun _=>true) (σ0:=σ0) (n:=i) fun j hj=>hl j (by omega);have e3:=hl i (AM _)
 exact ⟨h.op,by rw [<- e1,<- e3]; exact h.grd,by rw [<- e1,<- e2,<- e3]; exact h.val,by rw [<- e3]; exact h.gives,by rw [<- e3]; exact h.gives',by rw [<- e3]; exact h.calm,
  by rw[<-e2,<-e3];exact h.wr,by rw[<-e3];exact h.cls⟩
theorem AB1{Ω:Type}{E:Env}{n0:Nat}{all:Array Oper}{K:St->List (List Nat×List Nat)->Option Ω}{ω:Ω}{sl0:Nat->SV}{σ0:SSo}:
 ∀(ops:List Oper) (i:Nat) (st:St) (L:Nat->Info),O3 E all true n0 ops i st (((List.range i).map fun j=>(L j).c).reverse) K=some ω->all.toList.drop i=ops->i+ops.length=all.size->
  st.slots=GE all L (fun _=>true) sl0 i->st.sto=GG L (fun _=>true) σ0 i->(∀j,j<i->∃o r,Fact E all n0 L sl0 σ0 j o r)->
  ∃L':Nat->Info,(∀j,j<all.size->∃o r,Fact E all n0 L' sl0 σ0 j o r)/\
   K {slots:=GE all L' (fun _=>true) sl0 all.size,sto:=GG L' (fun _=>true) σ0 all.size,n:=st.n} (((List.range all.size).map fun j=>(L' j).c).reverse)=some ω:=by
 intro ops;induction ops with
 |nil=>
  intro i st L h hdr hl h1 h2 h3;simp only[AJ,D3]at hl;subst hl;refine⟨L,h3,?_⟩;rw[<-h1,<-h2];exact h
 |cons o rest ih=>
  intro i st L h hdr hl h1 h2 h3;obtain⟨tk,g,r,u,k1,k2,k3,k4,k5',k6,k7⟩:=yH h;have k5:=k5'.draw
  have ho:all[i]?=some o:=by
   have:=congrArg List.head? hdr;rw[List.head?_drop]at this;simpa using this
  let c:List Nat×List Nat:=(u.far (n0+8*i),RH (fun x=>(GL st.slots x).strip tk) st.sto o.op)
  let L':Nat->Info:=fun j=>if j=i then⟨tk,g,u,c⟩else L j
  have hL:∀j,j<i->L j=L' j:=fun j hj=>by simp[L',Nat.ne_of_lt hj]
  have hLi:L' i=⟨tk,g,u,c⟩:=by simp[L']
  have e1:=yL (all:=all) (S:=fun _=>true) (sl0:=sl0) (n:=i) hL;have e2:=yM (S:=fun _=>true) (σ0:=σ0) (n:=i) hL;have s1:st.slots=GE all L' (fun _=>true) sl0 i:=h1.trans e1;have s2:st.sto=GG L' (fun _=>true) σ0 i:=h2.trans e2
  have hget:all.getD i default=o:=by
   rw[BJ,ho];rfl
  have:=ih (i+1) {slots:=N3 st.slots o.dst (O2 tk g u.sv),sto:=ER st.sto u.wr,n:=st.n} L' ?_ ?_ ?_ ?_ ?_ ?_
  ·exact this
  ·have:((List.range (i+1)).map fun j=>(L' j).c).reverse=c::((List.range i).map fun j=>(L j).c).reverse:=by
    rw[List.range_succ,C4,List.reverse_append];simp only[CZ,List.map_nil,List.reverse_cons,List.reverse_nil,DL,List.singleton_append,hLi,List.cons.injEq,true_and]
    congr 1
    exact List.map_congr_left fun j hj=>by rw[hL j (CP.1 hj)]
   rw[this];exact k7
  ·have:=congrArg List.tail hdr;simpa[List.tail_drop]using this
  ·simp only[AD]at hl;omega
  ·simp only[GE,hLi,AA,hget,<-s1]
  ·simp only[GG,hLi,AA,<-s2]
  ·intro j hj;by_cases e:j=i
   ·subst e;refine⟨o,r,ho,?_,?_,?_,?_,?_,?_,?_⟩
    ·rw[hLi,<-s1];exact k1
    ·rw[hLi,<-s1,<-s2];exact k2
    ·rw[hLi];exact k3
    ·rw[hLi];exact k4
    ·rw[hLi];exact k5
    ·rw[hLi,<-s2];exact k6
    ·rw[hLi]
   ·obtain⟨o',r',hf⟩:=h3 j (by omega);exact⟨o',r',hf.congr fun j' hj'=>hL j' (by omega)⟩
end
section
variable{all:Array Oper}
def UU(acc:Array Nat)(l:List Edge)(s:Nat):Nat:=l.foldl (fun s e=>if Region.binds .any e then s|||2 ^ e.on|||acc.getD e.on 0 else s) s
theorem AB2{acc:Array Nat}{i:Nat}:∀{l:List Edge} {s:Nat},(UU acc l s).testBit i=true->
 s.testBit i=true\/∃e∈l,Region.binds .any e=true/\(e.on=i\/(acc.getD e.on 0).testBit i=true):=by
 intro l;induction l with
 |nil=>intro s h;exact .inl h
 |cons e r ih=>
  intro s h;simp only[UU,List.foldl_cons]at h;rcases ih h with h|⟨e',h1,h2⟩
  ·by_cases hb:Region.binds .any e=true
   ·rw[if_pos hb]at h;simp only[Nat.testBit_or,BG,Nat.testBit_two_pow,AV]at h;rcases h with(h|h)|h
    ·exact .inl h
    ·exact .inr ⟨e,AN,hb,.inl h⟩
    ·exact .inr ⟨e,AN,hb,.inr h⟩
   ·rw[if_neg hb]at h;exact .inl h
  ·exact .inr ⟨e',AI _ h1,h2⟩
def KI(acc:Array Nat)(o:Oper):Array Nat:=acc.push (UU acc o.after.toList 0)
theorem yN(all:Array Oper):Region.before all=all.toList.foldl KI #[]:=by
 unfold Region.before;rw[<-Array.foldl_toList]
 congr 1
 funext acc o;simp only[KI,UU,Array.foldl_toList]
theorem AB3:∀(l:List Oper) (acc:Array Nat),(l.foldl KI acc).size=acc.size+l.length/\(∀k,k<acc.size->(l.foldl KI acc).getD k 0=acc.getD k 0)/\
 ∀(j:Nat) (o:Oper),l[j]?=some o->∃acc':Array Nat,(∀k,k<acc.size+j->acc'.getD k 0=(l.foldl KI acc).getD k 0)/\(l.foldl KI acc).getD (acc.size+j) 0=UU acc' o.after.toList 0:=by
 intro l;induction l with
 |nil=>intro acc;exact⟨rfl,fun _ _=>rfl,fun j o h=>by cases h⟩
 |cons o l ih=>
  intro acc;obtain⟨h1,h2,h3⟩:=ih (KI acc o);have hsz:(KI acc o).size=acc.size+1:=by simp[KI]
  have hlow:∀k,k<acc.size->(KI acc o).getD k 0=acc.getD k 0:=by
   intro k hk;simp[KI,BJ,Array.getElem?_push,Nat.ne_of_lt hk]
  simp only[List.foldl_cons];refine⟨by rw[h1,hsz,AD];omega,fun k hk=>by rw[h2 k (by omega),hlow k hk],fun j p hj=>?_⟩;cases j with
  |zero=>
   have:o=p:=by simpa using hj
   subst this;refine⟨acc,fun k hk=>by rw[h2 k (by omega),hlow k (by omega)],?_⟩;rw[h2 _ (by omega)];simp[KI,BJ]
  |succ j=>
   obtain⟨acc',k1,k2⟩:=h3 j p (by simpa using hj);refine⟨acc',fun k hk=>k1 k (by omega),?_⟩;rw[show acc.size+(j+1)=(KI acc o).size+j by omega];exact k2
def kP(all:Array Oper):Prop:=∀(i:Nat) o,all[i]?=some o->∀e∈o.after,Region.binds .any e=true->e.on<i
def bits(all:Array Oper)(i:Nat):Nat:=(Region.before all).getD i 0
theorem AB4(hb:kP all){j i:Nat}{o:Oper}(ho:all[j]?=some o)(h:(bits all j).testBit i=true):
 ∃e∈o.after,Region.binds .any e=true/\(e.on=i\/(bits all e.on).testBit i=true):=by
 obtain⟨_,_,h3⟩:=AB3 all.toList #[];obtain⟨acc',k1,k2⟩:=h3 j o (by simpa using ho);unfold bits at h;rw[yN]at h;simp only[BH,AJ,BT]at k1 k2;rw[k2]at h;rcases AB2 h with h|⟨e,h1,h2,h4⟩
 ·simp at h
 ·have hmem:e∈o.after:=by simpa using h1
  refine⟨e,hmem,h2,h4.imp id fun h=>?_⟩;have hlt:=hb j o ho e hmem h2;rw[k1 e.on hlt]at h;unfold bits;rw[yN];exact h
def yO(all:Array Oper)(S:Nat->Bool):Prop:=∀(j:Nat) o,S j=true->all[j]?=some o->∀e∈o.after,Region.binds .any e=true->S e.on=true
theorem yP(hb:kP all){S:Nat->Bool}(hd:yO all S):∀(n j:Nat) (o:Oper),j<n->all[j]?=some o->(∀e∈o.after,Region.binds .any e=true->S e.on=true)->
 ∀i,(bits all j).testBit i=true->S i=true/\i<j:=by
 intro n;induction n with
 |zero=>intro j o h;omega
 |succ n ih=>
  intro j o hj ho hall i h;obtain⟨e,he,hbd,h1⟩:=AB4 hb ho h;have hlt:=hb j o ho e he hbd;have hS:=hall e he hbd;rcases h1 with h1|h1
  ·subst h1;exact⟨hS,hlt⟩
  ·have hsz:j<all.size:=(BV.1 ho).1;have hp:all[e.on]?=some all[e.on]:=B3 (by omega);obtain⟨k1,k2⟩:=ih e.on _ (by omega) hp (fun e' he' hb'=>hd e.on _ hS hp e' he' hb') i h1;exact⟨k1,by omega⟩
structure OrdOK(all:Array Oper)(c:Nat->List Nat×List Nat):Prop where
 back:kP all
 slot:∀(i j:Nat) (o p:Oper) (t:Nat),all[i]?=some o->all[j]?=some p->i≠j->o.dst=some t->t∈U6 all p->(i<j/\(bits all j).testBit i=true)\/(j<i/\(bits all i).testBit j=true)
 mem:∀(i j:Nat) (o p:Oper),all[i]?=some o->all[j]?=some p->i≠j->∀k,k∈(c i).1->k∈(c j).2->(i<j/\(bits all j).testBit i=true)\/(j<i/\(bits all i).testBit j=true)
theorem yQ{i j:Nat}(hne:i≠j)(h:YM (Region.before all) i j=true):(i<j/\(bits all j).testBit i=true)\/(j<i/\(bits all i).testBit j=true):=by
 unfold YM at h;cases hb:Nat.blt i j with
 |true=>
  rw[hb]at h;exact .inl ⟨by rwa[BS]at hb,h⟩
 |false=>
  rw[hb]at h;refine .inr ⟨?_,h⟩;rw[<-BM,BS]at hb;omega
theorem AB5:∀{l m:List Nat},YN l m=true->∀k,k∈l->k ∉ m:=by
 intro l;induction l with
 |nil=>intro m _ k h;cases h
 |cons x l ih=>
  intro m h k hk;simp only[YN,A5,BQ]at h;rcases B6.1 hk with rfl|hk
  ·intro hm;rw[O5.2 hm]at h;cases h.1
  ·exact ih h.2 k hk
theorem AB6{cl:List (List Nat×List Nat)}{c:Nat->List Nat×List Nat}(hc:cl=(List.range all.size).map c)(h:U7 all cl=true):OrdOK all c:=by
 unfold U7 at h;simp only[A5,BR,CP]at h;obtain⟨h1,h2⟩:=h
 have hget:∀{i:Nat} {o:Oper},all[i]?=some o->i<all.size/\all.getD i default=o:=fun {i o} ho=>
  ⟨(BV.1 ho).1,by rw[BJ,ho];rfl⟩
 have hcl:∀i,i<all.size->cl.getD i ([],[])=c i:=by
  intro i hi;rw[hc,A2,AK,C1 hi];rfl
 refine⟨fun i o ho e he hb=>?_,fun i j o p t ho hp hne hd hn=>?_,fun i j o p ho hp hne k h3 h4=>?_⟩
 ·obtain⟨hi,hg⟩:=hget ho;have:=h1 i hi;rw[hg]at this;have:=this e (by simpa using he);rw[hb]at this;simpa[BS]using this
 ·obtain⟨hi,hg⟩:=hget ho;obtain⟨hj,hg'⟩:=hget hp;have:=h2 i hi j hj;rw[hg,hg',hd]at this;have hbeq:Nat.beq i j=false:=by rw[<-BM];exact fun hh=>hne (A3 hh)
  rw[hbeq]at this;simp only[C6,A5,BG,BQ]at this;rcases this.1 with h|h
  ·exact absurd hn (by simpa using h)
  ·exact yQ hne h
 ·obtain⟨hi,hg⟩:=hget ho;obtain⟨hj,hg'⟩:=hget hp;have:=h2 i hi j hj;have hbeq:Nat.beq i j=false:=by rw[<-BM];exact fun hh=>hne (A3 hh)
  rw[hbeq,hcl i hi,hcl j hj]at this;simp only[C6,A5,BG,BQ]at this;rcases this.2 with h|h
  ·exact absurd h4 (AB5 h k h3)
  ·exact yQ hne h
end
section
variable{P:Program}{fr:Fr}{free free':Nat->Prop}{self:Nat}{σ σ':SSo}{w w':World}{G G':Gh}{I:Im}
theorem kQ{all:Array Oper}{o:Oper}{t:Nat}(h:t∈ZG o\/t∈JC all o\/o.dst=some t):t∈U6 all o:=by
 unfold U6;simp only[AR];rcases h with h|h|h
 ·exact .inl (.inl h)
 ·refine .inl (.inr ?_);unfold JC at h;exact h
 ·exact .inr (by rw[h];simp)
theorem yR{self:Nat}{u:Upd}{k:Nat}(hk:k∈L2 u.wr):(self<=k/\k<self+8)\/k∈u.far self:=by
 obtain⟨p,hp,rfl⟩:=B_.1 hk;cases h:IY self p.1 with
 |true=>exact .inl (by simpa only[IY,A5,Nat.ble_eq,BS]using h)
 |false=>exact .inr (B_.2 ⟨p,CJ.2 ⟨hp,by rw[h];rfl⟩,rfl⟩)
theorem yS{σ:SSo}{self:Nat}{u:Upd}(h:OT σ self u=true){k:Nat}(hk:k∈L2 u.wr):(self<=k/\k<self+8)\/(σ k).isSome=true:=by
 unfold OT at h;rw[BR]at h;obtain⟨p,hp,rfl⟩:=B_.1 hk;have:=h p hp;simp only[IY,BG,A5,Nat.ble_eq,BS]at this;exact this
theorem kR{all:Array Oper}{n0 i:Nat}{F:List Nat}{σ:SSo}{k:Nat}(h:(KY all true n0 i F σ k).isSome=true):
 k∈F/\KY all true n0 i F σ k=σ k/\(k<n0\/(bits all i).testBit ((k-n0) / 8)=true):=by
 unfold KY at h ⊢;simp only[AA]at h ⊢;cases hb:(FD k F&&(Nat.blt k n0||((Region.before all).getD i 0).testBit ((k-n0) / 8)))with
 |false=>rw[hb]at h;cases h
 |true=>
  rw[A5,BG,BS]at hb;exact⟨O5.1 hb.1,rfl,hb.2⟩
def yT(n0:Nat)(S:Nat->Bool)(n:Nat):Nat->Prop:=fun k=>n0<=k/\∀j,j<n->S j=true->¬(n0+8*j<=k/\k<n0+8*j+8)
theorem AB7{listed:Array Bool}{i j:Nat}(hi:i<listed.size):(listed.setIfInBounds i true).getD j false=(decide (j=i)||listed.getD j false):=by
 by_cases h:j=i
 ·subst h;simp[hi]
 ·rw[getD_set_ne false (fun e=>h e.symm)];simp[h]
theorem AB8{E:Env}(hE:EnvOK P fr.dr E){N n0:Nat}{all:Array Oper}(hgo:GuardsOK all)(hdst:∀(j:Nat) o d,all[j]?=some o->o.dst=some d->d<N/\fr.fx d=none)
 {L:Nat->Info}{sl0:Nat->SV}{σ0:SSo}(hF:∀j,j<all.size->∃o r,Fact E all n0 L sl0 σ0 j o r)(hO:OrdOK all fun i=>(L i).c){Q:Exit->Act->World->Prop}
 (hQ:∀a' w' G',SimF P N fr (fun k=>n0+8*all.size<=k) (DS all (fun _=>true)) (GE all L (fun _=>true) sl0 all.size) (GG L (fun _=>true) σ0 all.size) a' w' G'->Q .normal a' w'):
 ∀(fuel:Nat) (listed:Array Bool) (a:Act) (w:World) (G:Gh),listed.size=all.size->((List.range all.size).filter fun j=>!listed.getD j false).length<=fuel->
  yO all (fun j=>listed.getD j false)->
  SimF P N fr (yT n0 (fun j=>listed.getD j false) all.size) (DS all (fun j=>listed.getD j false)) (GE all L (fun j=>listed.getD j false) sl0 all.size) (GG L (fun j=>listed.getD j false) σ0 all.size) a w G->
  wpAny P .any all Q fuel listed a w:=by
 have hgetD:∀{i:Nat} {o:Oper},all[i]?=some o->i<all.size/\all.getD i default=o:=fun {i o} ho=>
  ⟨(BV.1 ho).1,by rw[BJ,ho];rfl⟩
 have hdone:∀(listed:Array Bool),listed.size=all.size->Region.ready .any all listed=[]->∀j,j<all.size->listed.getD j false=true:=by
  intro listed hsz hr
  have:∀n j,j<n->j<all.size->listed.getD j false=true:=by
   intro n;induction n with
   |zero=>intro j h;omega
   |succ n ih=>
    intro j hj hja;apply C2;intro hn
    have hm:j∈Region.ready .any all listed:=by
     rw[mem_ready];refine⟨?_,all[j],B3 hja,fun e he hb=>?_⟩
     ·have hj':j<listed.size:=by omega
      simp only[BJ,B3 hj',DD,BM]at hn ⊢;exact hn
     ·have hlt:=hO.back j _ (B3 hja) e he hb;exact ih e.on (by omega) (by omega)
    rw[hr]at hm;cases hm
  intro j hj;exact this (j+1) j (by omega) hj
 have hfin:∀(listed:Array Bool) (a:Act) (w:World) (G:Gh),(∀j,j<all.size->listed.getD j false=true)->
  SimF P N fr (yT n0 (fun j=>listed.getD j false) all.size) (DS all (fun j=>listed.getD j false)) (GE all L (fun j=>listed.getD j false) sl0 all.size) (GG L (fun j=>listed.getD j false) σ0 all.size) a w G->Q .normal a w:=by
  intro listed a w G hall hs
  have e1:GE all L (fun j=>listed.getD j false) sl0 all.size=GE all L (fun _=>true) sl0 all.size:=by
   funext t;exact ZI fun j hj _=>hall j hj
  have e2:GG L (fun j=>listed.getD j false) σ0 all.size=GG L (fun _=>true) σ0 all.size:=by
   funext t;exact ZJ fun j hj _=>hall j hj
  rw[e1,e2]at hs;exact hQ a w G (hs.weaken (fun k hk=>⟨by omega,fun j hj _=>by omega⟩) fun t ht=>ht.mono fun _ _=>rfl)
 intro fuel;induction fuel with
 |zero=>
  intro listed a w G hsz hfu hdn hs
  have hall:∀j,j<all.size->listed.getD j false=true:=by
   intro j hj;apply C2;intro hn;have:j∈(List.range all.size).filter fun j=>!listed.getD j false:=CJ.2 ⟨CP.2 hj,by simpa using hn⟩;rw[AT (Nat.le_zero.1 hfu)]at this;cases this
  refine⟨?_,hfin listed a w G hall hs⟩;rw[DM];intro j hj;obtain⟨h1,o,ho,_⟩:=mem_ready.1 hj;have hj':j<all.size:=(hgetD ho).1;have:=hall j hj';have hj2:j<listed.size:=by omega
  simp only[BJ,B3 hj2,DD]at h1 this;rw[this]at h1;cases h1
 |succ fuel ih=>
  intro listed a w G hsz hfu hdn hs;refine⟨fun hr=>hfin listed a w G (hdone listed hsz hr) hs,fun i hi=>?_⟩;obtain⟨hun,o,ho,hall⟩:=mem_ready.1 hi;obtain⟨hin,hget⟩:=hgetD ho
  have hun':listed.getD i false=false:=by
   have hj2:i<listed.size:=by omega
   simp only[BJ,B3 hj2,DD]at hun ⊢;exact hun
  obtain⟨o',r,hf⟩:=hF i hin
  have eo:o'=o:=by
   have:=hf.op;rw[ho]at this;cases this;rfl
  subst eo;have hpre:∀j,(bits all i).testBit j=true->listed.getD j false=true/\j<i:=yP hO.back hdn (i+1) i o' (by omega) ho hall
  have hpost:∀j,(bits all j).testBit i=true->j<all.size->listed.getD j false=false:=by
   intro j hb hj;rw[<-BM];intro hS;have hp:all[j]?=some all[j]:=B3 hj;have:=(yP hO.back hdn (j+1) j _ (by omega) hp (fun e he hb=>hdn j _ hS hp e he hb) i hb).1;rw[hun']at this;cases this
  have hord:∀j,j<all.size->((i<j/\(bits all j).testBit i=true)\/(j<i/\(bits all i).testBit j=true))->listed.getD j false=decide (j<i):=by
   intro j hj h;rcases h with⟨h1,h2⟩|⟨h1,h2⟩
   ·rw[hpost j h2 hj];symm;rw[DK];omega
   ·rw[(hpre j h2).1];symm;rw[AV];exact h1
  have hcls:∀j oj,all[j]?=some oj->(L j).c.1=(L j).u.far (n0+8*j)/\OT (KY all true n0 j (L j).c.2 (GG L (fun _=>true) σ0 j)) (n0+8*j) (L j).u=true:=by
   intro j oj hj;obtain⟨o'',r'',hf''⟩:=hF j (hgetD hj).1;exact⟨hf''.cls,hf''.wr⟩
  have hslot:∀t,t∈U6 all o'->GE all L (fun _=>true) sl0 i t=GE all L (fun j=>listed.getD j false) sl0 all.size t:=by
   intro t ht;rw[<-yJ (S:=fun j=>decide (j<i)) (n:=all.size) (by omega) (fun j hj=>by simpa using hj) (fun j hj _=>by simpa using hj)];refine ZI fun j hj hd=>?_;by_cases e:j=i
   ·subst e;rw[hun'];simp
   ·have hp:all[j]?=some all[j]:=B3 hj;rw[(hgetD hp).2]at hd;exact(hord j hj ((hO.slot j i _ o' t hp ho e hd ht).symm)).symm
  have hsto:∀k,(KY all true n0 i (L i).c.2 (GG L (fun _=>true) σ0 i) k).isSome=true->
   KY all true n0 i (L i).c.2 (GG L (fun _=>true) σ0 i) k=GG L (fun j=>listed.getD j false) σ0 all.size k:=by
   intro k hk;obtain⟨h1,h2,h3⟩:=kR hk;rw[h2];rw[<-yK (S:=fun j=>decide (j<i)) (n:=all.size) (by omega) (fun j hj=>by simpa using hj) (fun j hj _=>by simpa using hj)];refine ZJ fun j hj hd=>?_;by_cases e:j=i
   ·subst e;rw[hun'];simp
   ·have hp:all[j]?=some all[j]:=B3 hj;obtain⟨hc,hw⟩:=hcls j _ hp;rcases yR (self:=n0+8*j) hd with⟨k1,k2⟩|hl
    ·have hdiv:(k-n0) / 8=j:=by omega
     rcases h3 with h3|h3
     ·omega
     ·rw[hdiv]at h3;exact(hord j hj (.inr ⟨(hpre j h3).2,h3⟩)).symm
    ·exact(hord j hj ((hO.mem j i _ o' hp ho e k (hc▸hl) h1).symm)).symm
  refine yD hE ho (self:=n0+8*i) (sl0:=GE all L (fun _=>true) sl0 i) hs ?_ ?_ ?_ hf.grd ?_ ?_ hf.val hf.gives hf.gives' (.inl hf.calm) ?_
  ·intro t ht;exact hslot t (kQ (ht.elim .inl fun h=>.inr (.inl h)))
  ·intro t ht;obtain⟨j,b,p,hg,hp,hd⟩:=yG ht;have hh:=yF ho hg;refine⟨hh,j,p,?_,hp,hd⟩;have hji:=hgo.back hh i o' j b ho hg;have:=hO.slot j i p o' t hp ho (by omega) hd (kQ (.inr (.inl ht)));show listed.getD j false=true;rw[hord j (by omega) this.symm];simpa using hji
  ·intro d hd;refine⟨hdst i o' d ho hd,fun hD=>?_⟩;obtain⟨hh,j,p,hj,hp,hpd⟩:=hD;have hj:listed.getD j false=true:=hj;have hne:j≠i:=fun e=>by subst e;rw[hun']at hj;cases hj
   rcases CG j i with h|h
   ·exact hgo.uniq hh j i p o' d h hp ho hpd hd
   ·exact hgo.uniq hh i j o' p d (by omega) ho hp hd hpd
  ·intro k ob hk;rw[<-hsto k (by rw[hk];rfl)];exact hk
  ·intro k h1 h2;refine⟨by omega,fun j hj hS h3=>?_⟩;have hS:listed.getD j false=true:=hS;have:j=i:=by omega
   subst this;rw[hun']at hS;cases hS
  ·intro a' w' G' _ hs';have hset:∀j,(listed.setIfInBounds i true).getD j false=(decide (j=i)||listed.getD j false):=fun j=>AB7 (by omega);have hS':(fun j=>(listed.setIfInBounds i true).getD j false)=fun j=>(decide (j=i)||listed.getD j false):=funext hset;refine ih (listed.setIfInBounds i true) a' w' G' (by simpa using hsz) ?_ ?_ ?_
   ·have hlt:((List.range all.size).filter fun j=>!(listed.setIfInBounds i true).getD j false).length<((List.range all.size).filter fun j=>!listed.getD j false).length:=by
     have hsub:((List.range all.size).filter fun j=>!(listed.setIfInBounds i true).getD j false)=((List.range all.size).filter fun j=>!listed.getD j false).filter fun j=>!decide (j=i):=by
      rw[List.filter_filter];refine List.filter_congr fun j _=>?_;rw[hset,Bool.not_or]
     rw[hsub];refine List.length_filter_lt_length_iff_exists.2 ⟨i,CJ.2 ⟨CP.2 hin,by rw[hun'];rfl⟩,by simp⟩
    omega
   ·intro j p hj hp e he hb;have hj:(listed.setIfInBounds i true).getD j false=true:=hj;show(listed.setIfInBounds i true).getD e.on false=true;rw[hset]at hj ⊢;rw[BG,AV]at hj ⊢;rcases hj with rfl|hj
    ·rw[ho]at hp;cases hp;exact .inr (hall e he hb)
    ·exact .inr (hdn j p hj hp e he hb)
   ·rw[hS']
    have e1:N3 (GE all L (fun j=>listed.getD j false) sl0 all.size) o'.dst (O2 (L i).tk (L i).g (L i).u.sv)=GE all L (fun j=>(decide (j=i)||listed.getD j false)) sl0 all.size:=by
     funext t;rw[RU];by_cases hd:o'.dst=some t
     ·rw[if_pos hd];refine(AAz (S:=fun j=>(decide (j=i)||listed.getD j false)) (by simp) (by rw[hget];exact hd) hin fun j h1 h2 h3=>?_).symm;have hp:all[j]?=some all[j]:=B3 h2;rw[(hgetD hp).2]at h3;have:=hO.slot i j o' _ t ho hp (by omega) hd (kQ (.inr (.inr h3)));have:=hord j h2 this;rw[this];simp;omega
     ·rw[if_neg hd];refine ZI fun j hj h3=>?_;have:j≠i:=fun e=>by subst e;rw[hget]at h3;exact hd h3
      simp[this]
    have e2:ER (GG L (fun j=>listed.getD j false) σ0 all.size) (L i).u.wr=GG L (fun j=>(decide (j=i)||listed.getD j false)) σ0 all.size:=by
     funext k;by_cases hk:k∈L2 (L i).u.wr
     ·refine(AB0 (S:=fun j=>(decide (j=i)||listed.getD j false)) (by simp) hk hin fun j h1 h2 h3=>?_).symm;have hp:all[j]?=some all[j]:=B3 h2;have hne:¬j=i:=by omega
      simp only[hne,decide_false,C6];rw[<-BM];intro hS
      have hno:¬((i<j/\(bits all j).testBit i=true)\/(j<i/\(bits all i).testBit j=true)):=by
       intro h;have:=hord j h2 h;rw[hS]at this;simp at this;omega
      obtain⟨hci,hwi⟩:=hcls i o' ho;obtain⟨hcj,hwj⟩:=hcls j _ hp;rcases yS hwj h3 with hkj|hkj
      ·rcases yS hwi hk with hki|hki
       ·omega
       ·obtain⟨q1,q2,q3⟩:=kR hki;have hdiv:(k-n0) / 8=j:=by omega
        rcases q3 with q3|q3
        ·omega
        ·rw[hdiv]at q3;have:=(hpre j q3).2;omega
      ·obtain⟨q1,q2,q3⟩:=kR hkj;rcases yR (self:=n0+8*i) hk with hki|hki
       ·have hdiv:(k-n0) / 8=i:=by omega
        rcases q3 with q3|q3
        ·omega
        ·rw[hdiv]at q3;exact hno (.inl ⟨h1,q3⟩)
       ·exact hno (hO.mem i j o' _ ho hp (by omega) k (hci▸hki) q1)
     ·rw[kO hk];refine ZJ fun j hj h3=>?_;have:j≠i:=fun e=>by subst e;exact hk h3
      simp[this]
    rw[<-e1,<-e2];refine hs'.weaken (fun k hk=>⟨⟨hk.1,fun j hj hS h3=>hk.2 j hj (by simp only[BG];exact .inr hS) h3⟩,?_⟩) fun t ht=>ht.mono fun j hj=>by simp only[BG];exact .inr hj
    have:=hk.2 i hin (by simp);rw[<-BM];simp only[IY,A5,Nat.ble_eq,BS];exact this
end
structure SimN(P:Program)(N:Nat)(fr:Fr)(st:St)(a:Act)(w:World)(G:Gh):Prop where
 slots:∀t,SlotOK P w G a (st.slots t) (a.tmps.getD t undef)
 defs:a.defers=[]
 size:a.tmps.size=N
 fix:∀t v,fr.fx t=some v->a.tmps.getD t undef=v
 nogrd:∀t tk g s,st.slots t≠.grd tk g s
 mem:MemS P fr (fun k=>st.n<=k) st.sto w G
 drawn:fr.dr=true->fr.w0.drawn<=w.drawn
section
variable{dr:Bool}
variable{P:Program}{fr:Fr}{free free':Nat->Prop}{self:Nat}{σ σ':SSo}{w w':World}{G G':Gh}{I:Im}
theorem AB9:∀{l:List Oper},(l.filterMap (·.dst)).Nodup->∀(i j:Nat) (o p:Oper) (d:Nat),i<j->l[i]?=some o->l[j]?=some p->o.dst=some d->p.dst≠some d:=by
 intro l;induction l with
 |nil=>intro _ i j o p d _ h;cases h
 |cons q l ih=>
  intro hn i j o p d hij hi hj ho hp;cases j with
  |zero=>omega
  |succ j=>
   have hj:l[j]?=some p:=by simpa using hj
   cases i with
   |zero=>
    have:q=o:=by simpa using hi
    subst this;rw[DI ho]at hn;exact(B9.1 hn).1 (List.mem_filterMap.2 ⟨p,AP hj,hp⟩)
   |succ i=>
    have hn':(l.filterMap (·.dst)).Nodup:=by
     cases hq:q.dst with
     |none=>rw[DX hq]at hn;exact hn
     |some e=>rw[DI hq]at hn;exact(B9.1 hn).2
    exact ih hn' i j o p d (by omega) (by simpa using hi) hj ho hp
theorem ABA{all:Array Oper}(h:KE all=true->LK (YO all)=true/\U9 all=true):GuardsOK all:=by
 refine⟨fun hh i j o p d hij hi hj ho=>?_,fun hh i o j b hi hg=>?_⟩
 ·exact AB9 (xJ (h hh).1) i j o p d hij (by simpa using hi) (by simpa using hj) ho
 ·have h2:=(h hh).2;unfold U9 at h2;rw[BR]at h2;have:=h2 i (CP.2 (BV.1 hi).1);rw[BJ,hi]at this;simp only[DD,hg,BS]at this;exact this
theorem ABB{Ω:Type}{E:Env}(hE:EnvOK P fr.dr E)(hmix:P.follows .mixedOrders=true){N:Nat}{ops:Array Oper}{draw:Bool}{id:Nat}{st:St}{K:St->Option Ω}{ω:Ω}{Q:Exit->Act->World->Prop}
 (hdst:∀(j:Nat) o d,ops[j]?=some o->o.dst=some d->d<N/\fr.fx d=none){a:Act}(h:jG E ops draw st K=some ω)(hs:SimN P N fr st a w G)
 (hQ:∀st' a' w' G',SimN P N fr st' a' w' G'->K st'=some ω->Q .normal a' w'):(Code.region id ops draw).wp P Q a w:=by
 unfold jG at h
 have hgo:GuardsOK ops:=by
  refine ABA fun hh=>?_;rw[hh]at h;cases h1:LK (YO ops)<;>cases h2:U9 ops<;>rw[h1,h2]at h<;>first|exact⟨rfl,rfl⟩|cases h
 have h:O3 E ops draw st.n ops.toList 0 st [] (fun st' cl=>bif !draw||U7 ops cl.reverse then
  K {slots:=bif KE ops then U8 st'.slots else st'.slots,sto:=st'.sto,n:=st.n+8*ops.size}else none)=some ω:=by
  cases hc:(KE ops && !(LK (YO ops)&&U9 ops))with
  |true=>rw[hc]at h;cases h
  |false=>rw[hc]at h;exact h
 have fin:∀(st':St) (S:Nat->Bool) (a':Act) (w':World) (G':Gh),SimF P N fr (fun k=>st.n+8*ops.size<=k) (DS ops S) st'.slots st'.sto a' w' G'->
  K {slots:=bif KE ops then U8 st'.slots else st'.slots,sto:=st'.sto,n:=st.n+8*ops.size}=some ω->Q .normal a' w':=by
  intro st' S a' w' G' hs' hK;refine hQ _ a' w' G' ⟨fun t=>?_,hs'.defs,hs'.size,hs'.fix,fun t tk g s=>?_,hs'.mem,hs'.drawn⟩ hK
  ·have:=hs'.slots t;cases hh:KE ops with
   |false=>exact this
   |true=>
    simp only[AA,U8];split
    ·exact(SR.undef _).slotOK
    ·exact this
  ·cases hh:KE ops with
   |false=>
    intro h;obtain⟨h1,h2⟩:=hs'.toks t tk g s h;cases tk with
    |nil=>exact h1 rfl
    |cons p r=>
     have:=(h2 p AN).1;rw[hh]at this;cases this
   |true=>
    simp only[AA,U8];split
    ·intro h;cases h
    ·rename_i hn;intro h;exact hn _ _ _ h
 cases draw with
 |false=>
  refine wp_region ?_
  have:=AAy hE hgo hdst (Q:=Q) ops.toList 0 st [] a w G h (by simp) (by simp) ⟨hs.slots,hs.defs,hs.size,hs.fix,fun t tk g s hh=>absurd hh (hs.nogrd t tk g s),hs.mem.shrink fun k hk=>by simpa using hk,hs.drawn⟩
   (fun st' cl' a' w' G' hs' _ hK=>fin st' _ a' w' G' hs' hK)
  rw[List.range_eq_range'];simpa using this
 |true=>
  obtain⟨L,hF,hK⟩:=AB1 (sl0:=st.slots) (σ0:=st.sto) ops.toList 0 st (fun _=>⟨[],true,⟨.undef,[]⟩,([],[])⟩) h (by simp) (by simp) rfl rfl (fun j hj=>by omega);refine wp_region_any hmix ?_;cases ho:U7 ops ((List.range ops.size).map fun j=>(L j).c)with
  |false=>simp only[List.reverse_reverse,ho,BP,Bool.or_false,AC]at hK;cases hK
  |true=>
   simp only[List.reverse_reverse,ho,BP,C6,AA]at hK
   have hrep:∀j,(Array.replicate ops.size false).getD j false=false:=by
    intro j;simp only[BJ,Array.getElem?_replicate];split<;>rfl
   have e1:GE ops L (fun j=>(Array.replicate ops.size false).getD j false) st.slots ops.size=st.slots:=by
    rw[yJ (i:=0) (BI _) (fun j hj=>by omega) (fun j _ _=>hrep j)];rfl
   have e2:GG L (fun j=>(Array.replicate ops.size false).getD j false) st.sto ops.size=st.sto:=by
    rw[yK (i:=0) (BI _) (fun j hj=>by omega) (fun j _ _=>hrep j)];rfl
   refine AB8 (n0:=st.n) (sl0:=st.slots) (σ0:=st.sto) hE hgo hdst hF (AB6 rfl ho) (fun a' w' G' hs'=>fin ⟨GE ops L (fun _=>true) st.slots ops.size,GG L (fun _=>true) st.sto ops.size,0⟩ _ a' w' G' hs' hK) ops.size _ a _ G (by simp)
    (AZ (BN _ _) (by simp)) (fun j o hj=>?_) ?_
   ·have hj:(Array.replicate ops.size false).getD j false=true:=hj;rw[hrep j]at hj;cases hj
   ·rw[e1,e2];refine SimF.draws ⟨hs.slots,hs.defs,hs.size,hs.fix,fun t tk g s hh=>absurd hh (hs.nogrd t tk g s),hs.mem.shrink fun k hk=>hk.1,hs.drawn⟩ _ (Nat.le_succ _)
theorem ABC{E:Env}{N:Nat}{a:Act}:∀{l:List Oper} {st:St} {G:Gh},SimN P N fr st a w G->∃G',SimN P N fr (RJ E l st) a w G':=by
 intro l;induction l with
 |nil=>intro st G hs;exact⟨G,hs⟩
 |cons o l ih=>
  intro st G hs;simp only[RJ];split
  ·split
   ·rename_i u hu
    obtain⟨u',hu'⟩:∃p c,YF st.sto st.n p c=some u:=by
     have hb:∀{c:Bool} {m:Option (List (Nat×Option Obj))},(bif c then m else none)=some u->m=some u:=fun {c m} h=>by
      cases c with
      |true=>exact h
      |false=>cases h
     exact⟨_,_,hb hu⟩
    obtain⟨c,hu'⟩:=hu';obtain⟨G1,h1,h2⟩:=AAe hs.mem (AM _) hu'
    exact ih (st:=⟨st.slots,ER st.sto u,st.n+1⟩) ⟨fun t=>(hs.slots t).mono h1 fun _ _ _ _=>Iff.rfl,hs.defs,hs.size,hs.fix,hs.nogrd,h2.shrink fun j hj=>by
     have hj:st.n+1<=j:=hj;exact⟨by omega,by omega⟩,hs.drawn⟩
   ·exact ih hs
  ·exact ih hs
theorem ABD{Ω:Type}{E:Env}(hE:EnvOK P fr.dr E)(hmix:P.follows .mixedOrders=true){N:Nat}{ops:Array Oper}{draw:Bool}{id:Nat}{st:St}{K:St->Option Ω}{ω:Ω}{Q:Exit->Act->World->Prop}
 (hdst:∀(j:Nat) o d,ops[j]?=some o->o.dst=some d->d<N/\fr.fx d=none){a:Act}(h:vY E ops draw st K=some ω)(hs:SimN P N fr st a w G)
 (hQ:∀st' a' w' G',SimN P N fr st' a' w' G'->K st'=some ω->Q .normal a' w'):(Code.region id ops draw).wp P Q a w:=
 ABB hE hmix hdst h hs fun st' a' w' G' hs' hK=>by
  obtain⟨G'',h⟩:=ABC (E:=E) (l:=ops.toList.reverse) hs';exact hQ _ a' w' G'' h hK
def IB:Ex->Exit
 | .normal=>.normal
 | .exit i=>.exit i
 | .ret=>.ret
theorem kS{Q:Exit->Act->World->Prop}{K:Act->World->Prop}{e:Ex}{a:Act}{w:World}(h:match e with| .normal=>K a w|e=>Q (IB e) a w):Exit.then K Q (IB e) a w:=by
 cases e<;>exact h
def ZK(P:Program)(w:World)(I:Im)(a:Act)(e:Exit)(hs:Nat)(bs:List Nat):(l:List (Ex×Kp))->GT l->Prop
 |[],x=>Empty.elim x
 |[o],x=>e=IB o.1/\∃bs',ShL P w I o.2.sh x (o.2.tm.map fun t=>a.tmps.getD t undef) bs'/\bs'.Nodup/\∀b∈bs',b∈bs\/hs<=b
 |o::p::r,x=>Sum.casesOn (motive:=fun _=>Prop) x (fun y=>e=IB o.1/\∃bs',ShL P w I o.2.sh y (o.2.tm.map fun t=>a.tmps.getD t undef) bs'/\bs'.Nodup/\∀b∈bs',b∈bs\/hs<=b)
  (fun y=>ZK P w I a e hs bs (p::r) y)
def UV(P:Program)(dr:Bool)(N:Nat)(s:CSpec)(x:GT s.outs)(a0:Act)(w:World)(I:Im)(bs:List Nat):Exit->Act->World->Prop:=fun e a' w'=>
 a'.defers=[]/\a'.tmps.size=N/\(∀t,FD t s.wrs=false->a'.tmps.getD t undef=a0.tmps.getD t undef)/\(dr=true->w.drawn<=w'.drawn)/\∃I',After (·∈bs) w I w' I'/\ZK P w' I' a' e w.heap.size bs s.outs x
def P2(a:Act)(c:Nat):Value:=bif Nat.blt c 1048576 then a.tmps.getD c undef else .func (.func (c / 1048576-1)) #[] #[a.tmps.getD (c % 1048576) undef]
def ZL(al:List (Nat×Nat))(a:Act):Prop:=∀t j,FU al t=some j->a.tmps.getD t undef=P2 a j
def ZM(P:Program)(w:World)(I:Im)(a:Act)(e:Exit)(hs:Nat)(bs:List Nat)(pv:List Value):(l:List (Ex×Kp))->GT l->Prop
 |[],x=>Empty.elim x
 |[o],x=>e=IB o.1/\∃bs',ShL P w I o.2.sh x ((o.2.tm.map fun t=>a.tmps.getD t undef)++pv) bs'/\bs'.Nodup/\∀b∈bs',b∈bs\/hs<=b
 |o::p::r,x=>Sum.casesOn (motive:=fun _=>Prop) x (fun y=>e=IB o.1/\∃bs',ShL P w I o.2.sh y ((o.2.tm.map fun t=>a.tmps.getD t undef)++pv) bs'/\bs'.Nodup/\∀b∈bs',b∈bs\/hs<=b)
  (fun y=>ZM P w I a e hs bs pv (p::r) y)
def kT(P:Program)(dr:Bool)(N:Nat)(s:CSpec)(pv:List Value)(x:GT s.outs)(a0:Act)(w:World)(I:Im)(bs:List Nat):Exit->Act->World->Prop:=fun e a' w'=>
 a'.defers=[]/\a'.tmps.size=N/\(∀t,FD t s.wrs=false->a'.tmps.getD t undef=a0.tmps.getD t undef)/\(dr=true->w.drawn<=w'.drawn)/\∃I',After (·∈bs) w I w' I'/\ZM P w' I' a' e w.heap.size bs pv s.outs x
def EN(P:Program)(dr:Bool)(N:Nat)(s:CSpec)(c:Code):Prop:=match s.kx with
 |none=>∀(w:World) (I:Im) (a:Act) (v:TupR s.inn.sh) (bs:List Nat),HU w I->a.defers=[]->a.tmps.size=N->ZL s.al a->ShL P w I s.inn.sh v (s.inn.tm.map fun t=>a.tmps.getD t undef) bs->bs.Nodup->
   match s.nd with
   |none=>∀x,s.F v=some x->c.wp P (UV P dr N s x a w I bs) a w
   |some d=>(∀o,d.S v o->∃x,d.F v o=some x)->c.wp P (fun e a' w'=>∃o x,d.S v o/\d.F v o=some x/\UV P dr N s x a w I bs e a' w') a w
 |some k=>∀(w:World) (I:Im) (a:Act) (v:TupR s.inn.sh) (bs:List Nat) (pv:List Value),HU w I->a.defers=[]->a.tmps.size=N->KxOK w I (fun t=>a.tmps.getD t undef) pv k->
   ShL P w I s.inn.sh v ((s.inn.tm.map fun t=>a.tmps.getD t undef)++pv) bs->bs.Nodup->∀x,s.F v=some x->c.wp P (kT P dr N s pv x a w I bs) a w
theorem yU{a:Act}:∀{tm:List Nat} {l:List SV},(∀(j:Nat) (s:SV) (t:Nat),l[j]?=some s->tm[j]?=some t->SR P w G s (a.tmps.getD t undef))->∀t,SR P w G (JX tm l t) (a.tmps.getD t undef):=by
 intro tm;induction tm with
 |nil=>intro l _ t;simp only[JX];exact SR.undef _
 |cons d tm ih=>
  intro l hl t;cases l with
  |nil=>simp only[JX];exact SR.undef _
  |cons s l=>
   simp only[JX];cases hb:Nat.beq t d with
   |true=>
    have e:=A3 hb;subst e;exact hl 0 s t rfl rfl
   |false=>exact ih (fun j s' t' h1 h2=>hl (j+1) s' t' (by simpa using h1) (by simpa using h2)) t
theorem yV:∀(l:List (Nat×Option Obj)) (i:Nat),(FU l i).getD none=ER (fun _=>none) l i:=by
 intro l;induction l with
 |nil=>intro i;rfl
 |cons p r ih=>
  intro i;obtain⟨j,o⟩:=p;simp only[FU,ER];cases hb:Nat.beq i j with
  |true=>rfl
  |false=>exact ih i
theorem yW:∀{l:List Sh} {x:TupR l} {n:Nat},KV (FC l x n) n=n+G8 l:=by
 intro l;induction l with
 |nil=>intro x n;rfl
 |cons a l ih=>
  intro x n;cases l with
  |nil=>exact(O_ a x n).trans (by simp[G8])
  |cons b l=>
   have:KV (FC (a::b::l) x n) n=KV (FC (b::l) x.2 (FG a x.1 n).nx) (FG a x.1 n).nx:=rfl;rw[this,ih,O_];simp only[G8];omega
theorem kU{N:Nat}{k:Kp}{v:TupR k.sh}{a:Act}{bs:List Nat}(hd:a.defers=[])(hN:a.tmps.size=N)(hfx:∀t v,fr.fx t=some v->a.tmps.getD t undef=v)(haf:After fr.gv fr.w0 fr.i0 w I)(hdr:fr.dr=true->fr.w0.drawn<=w.drawn)
 (h:ShL P w I k.sh v (k.tm.map fun t=>a.tmps.getD t undef) bs)(hnd:bs.Nodup)(hbs:∀b∈bs,fr.owned b):∃G',SimN P N fr (IX k v) a w G':=by
 let G0:Gh:=⟨I,fun _ _=>none,fun _=>none,fun _=>none⟩
 have hm0:MemS P fr (fun _=>True) (fun _=>none) w G0:=⟨fun k o h=>(by cases h),fun j k o o' b h=>(by cases h),haf,fun k _=>⟨rfl,rfl,rfl,fun _=>rfl⟩⟩;obtain⟨G',h1,h2,h3,h4⟩:=UP (n:=0) (G:=G0) hm0 h hnd (fun b hb=>⟨hbs b hb,fun j o h=>(by cases h)⟩) (fun _ _ _=>trivial)
 have hsr:∀t,SR P w G' ((IX k v).slots t) (a.tmps.getD t undef):=by
  refine yU fun j s t hj ht=>?_;rw[AK]at hj;cases hm:(FC k.sh v 0)[j]? with
  |none=>rw[hm]at hj;cases hj
  |some m=>
   rw[hm]at hj;cases hj;exact h4 j m _ hm (by rw[AK,ht];rfl)
 refine⟨G',fun t=>(hsr t).slotOK,hd,hN,hfx,fun t tk g s h=>?_,?_,hdr⟩
 ·have:=hsr t;rw[h]at this;exact this.not_grd
 ·have e:(IX k v).sto=ER (fun _=>none) ((FC k.sh v 0).flatMap (·.obs)):=funext fun i=>yV _ i;rw[e];refine h1.mem.shrink fun j hj=>⟨trivial,fun hh=>?_⟩;have:(IX k v).n=0+G8 k.sh:=yW;omega
theorem yX{N:Nat}{st:St}{a:Act}(hs:SimN P N fr st a w G)(j:Nat):SR P w G (OQ st.slots j) (P2 a j):=by
 have h:∀j,SR P w G (st.slots j) (a.tmps.getD j undef):=by
  intro j;have h1:SlotOK P w G a (st.slots j) (a.tmps.getD j undef):=hs.slots _;have h2:∀tk g s,st.slots j≠.grd tk g s:=hs.nogrd _;generalize st.slots j=s at h1 h2;cases s<;>first|exact h1|exact absurd rfl (h2 _ _ _)
 unfold OQ P2;cases hb:Nat.blt j 1048576 with
 |true=>exact h j
 |false=>exact⟨_,rfl,#[_],rfl,_,[],rfl,h _,rfl⟩
theorem ABE{N:Nat}{st:St}{a a':Act}{al:List (Nat×Nat)}{wrs:List Nat}(hs:SimN P N fr st a' w G)(hal:ZL al a)(hfr:∀t,FD t wrs=false->a'.tmps.getD t undef=a.tmps.getD t undef):SimN P N fr (TJ al wrs st) a' w G:=by
 unfold TJ;split
 ·exact hs
 ·have key:∀t,QU al wrs st.slots t=st.slots t\/∃c,QU al wrs st.slots t=OQ st.slots c/\a'.tmps.getD t undef=P2 a' c:=by
   intro t;unfold QU;split
   ·rename_i c hc;cases hb:(FD t wrs||FD (hY c) wrs)with
    |true=>exact .inl rfl
    |false=>
     simp only[BO]at hb;refine .inr ⟨c,rfl,?_⟩;rw[hfr t hb.1,hal t c hc];have h2:=hb.2;unfold hY at h2;unfold P2;cases hj:Nat.blt c 1048576 with
     |true=>rw[hj]at h2;exact(hfr _ h2).symm
     |false=>rw[hj]at h2;simp only[AC]at h2 ⊢;rw[hfr _ h2]
   ·exact .inl rfl
  refine⟨fun t=>?_,hs.defs,hs.size,hs.fix,fun t tk g s=>?_,hs.mem,hs.drawn⟩
  ·show SlotOK P w G a' (QU al wrs st.slots t) _;rcases key t with e|⟨c,e,e2⟩
   ·rw[e];exact hs.slots t
   ·rw[e,e2];exact(yX hs c).slotOK
  ·show QU al wrs st.slots t≠_;rcases key t with e|⟨c,e,e2⟩
   ·rw[e];exact hs.nogrd t tk g s
   ·rw[e];intro h;have:=yX hs c;rw[h]at this;exact this.not_grd
theorem kV{N:Nat}{al:List (Nat×Nat)}{k:Kp}{v:TupR k.sh}{a:Act}(hs:SimN P N fr (IX k v) a w G)(hal:ZL al a):SimN P N fr (QS al k v) a w G:=by
 refine⟨fun t=>?_,hs.defs,hs.size,hs.fix,fun t tk g s=>?_,hs.mem,hs.drawn⟩
 ·show SlotOK P w G a (TG al (IX k v).slots t) _;unfold TG;split
  ·rename_i j hj;rw[hal t j hj];unfold OQ P2;cases hb:Nat.blt j 1048576 with
   |true=>exact hs.slots j
   |false=>
    have h1:SlotOK P w G a ((IX k v).slots (j % 1048576)) (a.tmps.getD (j % 1048576) undef):=hs.slots _;have h2:∀tk g s,(IX k v).slots (j % 1048576)≠.grd tk g s:=hs.nogrd _
    have h3:SR P w G ((IX k v).slots (j % 1048576)) (a.tmps.getD (j % 1048576) undef):=by
     generalize (IX k v).slots (j % 1048576)=s at h1 h2;cases s<;>first|exact h1|exact absurd rfl (h2 _ _ _)
    exact⟨_,rfl,#[_],rfl,_,[],rfl,h3,rfl⟩
  ·exact hs.slots t
 ·show TG al (IX k v).slots t≠_;unfold TG;split
  ·rename_i j hj;unfold OQ;cases hb:Nat.blt j 1048576 with
   |true=>exact hs.nogrd _ tk g s
   |false=>intro h;cases h
  ·exact hs.nogrd _ tk g s
theorem yY{N:Nat}{st:St}{a:Act}(hs:SimN P N fr st a w G):∀{al:List (Nat×Nat)},N0 al st.slots=true->ZL al a:=by
 have hsr:∀t k g,st.slots t=.obj k g->G.val k g=some (a.tmps.getD t undef):=by
  intro t k g h;have:=hs.slots t;rw[h]at this;exact N4 this
 intro al;induction al with
 |nil=>intro _ t j h;cases h
 |cons p r ih=>
  intro h t j hj;simp only[N0,A5]at h;obtain⟨x,y⟩:=p;simp only[FU]at hj;cases hb:Nat.beq t x with
  |false=>rw[hb]at hj;exact ih h.2 t j hj
  |true=>
   rw[hb]at hj;have e1:=A3 hb;have e2:y=j:=A4 hj;subst e1 e2;have hh:=h.1;unfold vM at hh;unfold P2;cases hb:Nat.blt y 1048576 with
   |true=>
   rw[hb]at hh;simp only[AA]at hh ⊢;unfold vL at hh;split at hh
   ·rename_i k g k' g' h1 h2;simp only[A5]at hh;have q1:=A3 hh.1;have q2:=A3 hh.2;subst q1 q2;have v1:=hsr _ _ _ h1;have v2:=hsr _ _ _ h2;rw[v1]at v2;exact A4 v2
   ·cases hh
   |false=>
   rw[hb]at hh;simp only[AC]at hh ⊢;split at hh
   ·rename_i f s hs1;simp only[A5]at hh;have q1:=A3 hh.1;have hs2:=hs.slots t;rw[hs1]at hs2;obtain⟨c,hc,vs,e1,v,r,e2,hv,e3⟩:=(show SR P w G (.fn f (.scons s .snil)) _ from hs2);have e3:r=[]:=e3;subst e3;have e4:a.tmps.getD t undef=.func (.func f) #[] vs:=A8.1 ((show c=[_]from hc).symm.trans e1);have e5:vs= #[v]:=by apply C8;exact e2
    rw[e4,e5,q1];have hp:=hh.2;unfold NY at hp;split at hp
    ·rename_i k u k' u' h1;have q2:=A3 hp;subst q2;have hs3:=hs.slots (y % 1048576);rw[h1]at hs3;obtain⟨b,t1,o,b1,b2,b3,b4⟩:=IJ (show SR P w G (.ptr k [] u') _ from hs3);obtain⟨b',t2,o',c1,c2,c3,c4⟩:=IJ (show SR P w G (.ptr k [] u) v from hv);rw[b1]at c1;cases c1;rw[b2]at c2;cases c2;rw[b4,c4]
    ·cases hp
   ·cases hh
theorem SimN.frz{N:Nat}{st:St}{a:Act}(hs:SimN P N fr st a w G)(k:Kp):∃G',GLe w G w G'/\SimN P N fr (J8 k st) a w G':=by
 obtain⟨G',h1,h2⟩:=UT hs.mem k.sh (k.tm.map st.slots);exact⟨G',h1,fun t=>(hs.slots t).mono h1 fun _ _ _ _=>Iff.rfl,hs.defs,hs.size,hs.fix,hs.nogrd,h2,hs.drawn⟩
theorem ABF{N:Nat}{fs:Nat->Option FSpec}(hE:∀f sp,fs f=some sp->FF P f/\FunOK P f sp){k:Kp}{st:St}{v:TupR k.sh}{a:Act}(hs:SimN P N fr st a w G)(h:MB fs k (J8 k st)=some v):
 ∃G',SimN P N fr (IX k v) a w G':=by
 obtain⟨G0,_,hs⟩:=hs.frz k
 have hsr:∀t,SR P w G0 (st.slots t) (a.tmps.getD t undef):=by
  intro t;have h1:SlotOK P w G0 a (st.slots t) (a.tmps.getD t undef):=hs.slots t;have h2:∀tk g s,st.slots t≠.grd tk g s:=hs.nogrd t;generalize st.slots t=s at h1 h2;cases s<;>first|exact h1|exact absurd rfl (h2 _ _ _)
 obtain ⟨bs,h1,h2,h3⟩:=O6 hs.mem hE (vs:=k.tm.map fun t=>a.tmps.getD t undef) h (by simp) (fun j s v hj hv=>by
  rw[AK]at hj hv;cases ht:k.tm[j]? with
  |none=>rw[ht]at hj;cases hj
  |some t=>
   rw[ht]at hj hv;cases hj;cases hv;exact hsr t)
 refine kU hs.defs hs.size hs.fix hs.mem.after hs.drawn h1 h2 fun b hb=>?_;obtain⟨k',_,o,ho,hbo⟩:=h3 b hb;exact MG (hs.mem.objs k' o ho) hbo
theorem SimN.sr{N:Nat}{st:St}{a:Act}(hs:SimN P N fr st a w G)(x:Operand):SR P w G (GL st.slots x) (a.eval x):=by
 have:=yB (x:=x) (tk:=[]) (fun t _=>hs.slots t) (P1 a)
 have e:(GL st.slots x).strip []=GL st.slots x:=by
  have hn:∀tk g s,GL st.slots x≠.grd tk g s:=by
   intro tk g s h;cases x with
   |tmp t=>exact hs.nogrd t tk g s h
   |const v=>
    have:=yA (P:=P) (w:=w) (G:=G) v;rw[show XQ v=_ from h]at this;exact this.not_grd
   |func f=>cases h
   |global g=>cases h
  generalize GL st.slots x=s at hn;cases s<;>first|rfl|exact absurd rfl (hn _ _ _)
 rw[e]at this;exact this
def KJ(P:Program)(dr:Bool)(N:Nat)(ok:Nat->Bool)(E:Env):Code->Nat->Prop
 | .seq a b,n=>match jH E a with
  |some s=>s.wrs.all ok=true/\EN P dr N s (.seq a b)
  |none=>KJ P dr N ok E a n/\KJ P dr N ok E b (n+J9 a)
 | .cond c a b,n=>match E.cut n with
  |some s=>s.wrs.all ok=true/\EN P dr N s (.cond c a b)
  |none=>KJ P dr N ok E a (n+1)/\KJ P dr N ok E b (n+1+J9 a)
 | .block _ b,n=>KJ P dr N ok E b n
 | .loop b,n=>match E.cut n with
  |some s=>s.wrs.all ok=true/\EN P dr N s (.loop b)
  |none=>True
 |_,_=>True
def HN(E:Env):Code->Nat->List (CSpec×Code)
 | .seq a b,n=>match jH E a with
  |some s=>[(s,.seq a b)]
  |none=>HN E a n++HN E b (n+J9 a)
 | .cond c a b,n=>match E.cut n with
  |some s=>[(s,.cond c a b)]
  |none=>HN E a (n+1)++HN E b (n+1+J9 a)
 | .block _ b,n=>HN E b n
 | .loop b,n=>match E.cut n with
  |some s=>[(s,.loop b)]
  |none=>[]
 |_,_=>[]
def AllCuts(P:Program)(dr:Bool)(N:Nat)(ok:Nat->Bool):List (CSpec×Code)->Prop
 |[]=>True
 |p::r=>(p.1.wrs.all ok=true/\EN P dr N p.1 p.2)/\AllCuts P dr N ok r
theorem AllCuts.append{N:Nat}{ok:Nat->Bool}:∀{l l':List (CSpec×Code)},AllCuts P dr N ok (l++l')->AllCuts P dr N ok l/\AllCuts P dr N ok l':=by
 intro l;induction l with
 |nil=>intro l' h;exact⟨trivial,h⟩
 |cons p r ih=>intro l' h;exact⟨⟨h.1,(ih h.2).1⟩,(ih h.2).2⟩
theorem RV{N:Nat}{ok:Nat->Bool}{E:Env}:∀{c:Code} {n:Nat},AllCuts P dr N ok (HN E c n)->KJ P dr N ok E c n:=by
 intro c;induction c with
 |seq a b iha ihb=>
  intro n h;simp only[KJ];simp only[HN]at h;split
  ·rename_i s hs;rw[hs]at h;exact h.1
  ·rename_i hs;rw[hs]at h;exact⟨iha h.append.1,ihb h.append.2⟩
 |cond c a b iha ihb=>
  intro n h;simp only[KJ];simp only[HN]at h;split at h
  ·rename_i s hs;exact h.1
  ·rename_i hs;exact⟨iha h.append.1,ihb h.append.2⟩
 |block i b ih=>intro n h;exact ih (n:=n) h
 |loop b ih=>
  intro n h;simp only[KJ];simp only[HN]at h;split at h
  ·rename_i s hs;exact h.1
  ·rename_i hs;trivial
 |_=>intro n h;trivial
def HY(ok:Nat->Bool):Code->Bool
 | .seq a b=>HY ok a&&HY ok b
 | .cond _ a b=>HY ok a&&HY ok b
 | .block _ b=>HY ok b
 | .loop b=>HY ok b
 | .region _ ops _=>ops.toList.all fun o=>match o.dst with
  |some d=>ok d
  |none=>true
 |_=>true
theorem yZ{N:Nat}{st:St}{a a':Act}{wrs ks bs bs':List Nat}{I':Im}{k:Kp}{y:TupR k.sh}(hs:SimN P N fr st a w G)(hblk:BlksOf st.sto G ks bs)
 (hwr:∀d,FD d wrs=true->fr.fx d=none)(hd:a'.defers=[])(hN:a'.tmps.size=N)(hfr:∀t,FD t wrs=false->a'.tmps.getD t undef=a.tmps.getD t undef)
 (haft:After (·∈bs) w G.im w' I')(hdr:fr.dr=true->w.drawn<=w'.drawn)(hsh:ShL P w' I' k.sh y (k.tm.map fun t=>a'.tmps.getD t undef) bs')(hnd:bs'.Nodup)(hown:∀b∈bs',b∈bs\/w.heap.size<=b):
 ∃G',SimN P N fr (QT st wrs ks k y) a' w' G':=by
 obtain⟨g1,g2⟩:=hs.mem.called hblk haft
 obtain ⟨G',h1,h2,h3,h4⟩:=UP (n:=st.n) g2 hsh hnd (fun b hb=>by
  refine⟨?_,fun j o ho hbj=>?_⟩
  ·rcases hown b hb with h|h
   ·obtain⟨k',_,o,ho,hbo⟩:=hblk b h;exact MG (hs.mem.objs k' o ho) hbo
   ·exact .inl (AZ hs.mem.after.size h)
  ·have ho':j ∉ ks/\st.sto j=some o:=by
    rw[KH]at ho;by_cases hj:j∈ks
    ·rw[if_pos hj]at ho;cases ho
    ·rw[if_neg hj]at ho;exact⟨hj,ho⟩
   have hbj0:Bk G j o b:=by rw[<-GN (hs.mem.objs j o ho'.2) g1];exact hbj
   rcases hown b hb with h|h
   ·obtain⟨k',hk,o2,ho2,hbo⟩:=hblk b h;have:=hs.mem.sep j k' o o2 b ho'.2 ho2 hbj0 hbo;subst this;exact ho'.1 hk
   ·have:=HW (hs.mem.objs j o ho'.2) hbj0;omega) (fun k' h1 _=>h1)
 have hsr:∀t,SR P w' G' ((QT st wrs ks k y).slots t) (a'.tmps.getD t undef):=by
  intro t;simp only[QT];cases ht:FD t k.tm with
  |true=>
   refine yU (fun j s t' hj ht'=>?_) t;rw[AK]at hj;cases hm:(FC k.sh y st.n)[j]? with
   |none=>rw[hm]at hj;cases hj
   |some m=>
    rw[hm]at hj;cases hj;exact h4 j m _ hm (by rw[AK,ht'];rfl)
  |false=>
   simp only[AC];cases hw:FD t wrs with
   |true=>exact SR.undef _
   |false=>
    simp only[AC];rw[hfr t hw];exact((hs.sr (.tmp t)).mono g1).mono h1.le
 refine⟨G',fun t=>(hsr t).slotOK,hd,hN,fun t v hv=>?_,fun t tk g s h=>?_,?_,fun h=>AZ (hs.drawn h) (hdr h)⟩
 ·cases hw:FD t wrs with
  |true=>rw[hwr t hw]at hv;cases hv
  |false=>rw[hfr t hw];exact hs.fix t v hv
 ·have:=hsr t;rw[h]at this;exact this.not_grd
 ·simp only[QT];rw[GD];refine h1.mem.shrink fun j hj=>⟨?_,fun hh=>?_⟩
  ·show st.n<=j;have:st.n+G8 k.sh<=j:=hj;omega
  ·have:st.n+G8 k.sh<=j:=hj;omega
theorem ABG{Ω:Type}{N:Nat}{K:Ex->St->Option Ω}{ω:Ω}{st:St}{a a':Act}{e:Exit}{wrs ks bs:List Nat}{I':Im}(hs:SimN P N fr st a w G)(hblk:BlksOf st.sto G ks bs)
 (hwr:∀d,FD d wrs=true->fr.fx d=none)(hd:a'.defers=[])(hN:a'.tmps.size=N)(hfr:∀t,FD t wrs=false->a'.tmps.getD t undef=a.tmps.getD t undef)(haft:After (·∈bs) w G.im w' I')(hdr:fr.dr=true->w.drawn<=w'.drawn):
 ∀{l:List (Ex×Kp)} {x:GT l},TK st wrs ks l x K=some ω->ZK P w' I' a' e w.heap.size bs l x->
 ∃e' st' G',e=IB e'/\SimN P N fr st' a' w' G'/\K e' st'=some ω:=by
 intro l;induction l with
 |nil=>intro x;exact Empty.elim x
 |cons o r ih=>
  intro x h hq;cases r with
  |nil=>
   obtain⟨h1,bs',h2,h3,h4⟩:=hq;obtain⟨G',h5⟩:=yZ hs hblk hwr hd hN hfr haft hdr h2 h3 h4;exact⟨o.1,_,G',h1,h5,h⟩
  |cons p r=>
   cases x with
   |inl y=>
    obtain⟨h1,bs',h2,h3,h4⟩:=hq;obtain⟨G',h5⟩:=yZ hs hblk hwr hd hN hfr haft hdr h2 h3 h4;exact⟨o.1,_,G',h1,h5,h⟩
   |inr y=>exact ih (x:=y) h hq
theorem y_{N:Nat}{fs:Nat->Option FSpec}(hE:∀f sp,fs f=some sp->FF P f/\FunOK P f sp){k:Kp}{st:St}{v:TupR k.sh}{a:Act}(hs:SimN P N fr st a w G)(h:MB fs k st=some v):
 ∃bs,ShL P w G.im k.sh v (k.tm.map fun t=>a.tmps.getD t undef) bs/\bs.Nodup/\BlksOf st.sto G (HR st.sto k.sh (k.tm.map st.slots)) bs:=
 O6 hs.mem hE (vs:=k.tm.map fun t=>a.tmps.getD t undef) h (by simp) (fun j s v hj hv=>by
  rw[AK]at hj hv;cases ht:k.tm[j]? with
  |none=>rw[ht]at hj;cases hj
  |some t=>
   rw[ht]at hj hv;cases hj;cases hv;exact hs.sr (.tmp t))
variable{P:Program}{fr:Fr}{free free':Nat->Prop}{self:Nat}{σ σ':SSo}{w w':World}{G G':Gh}{I:Im}
theorem ABH{pv:List Value}{tv:Nat->Value}:∀{caps:List Nat} {l:List SV} {acc acc':List (Nat×SV)} {vs:List Value},TL caps l acc=some acc'->vs=caps.map (IK tv pv)->
 (∀(j:Nat) (s:SV) (v:Value),l[j]?=some s->vs[j]?=some v->SR P w G s v)->(∀j s,FU acc j=some s->SR P w G s (pv.getD j undef))->∀j s,FU acc' j=some s->SR P w G s (pv.getD j undef):=by
 intro caps;induction caps with
 |nil=>
  intro l acc acc' vs h _ _ ha;cases l with
  |nil=>cases h;exact ha
  |cons _ _=>cases h
 |cons c caps ih=>
  intro l acc acc' vs h hv hl ha;subst hv;cases l with
  |nil=>cases h
  |cons s l=>
   have hl':∀(j:Nat) (s':SV) (v:Value),l[j]?=some s'->(caps.map (IK tv pv))[j]?=some v->SR P w G s' v:=fun j s' v h1 h2=>hl (j+1) s' v (by simpa using h1) (by simpa using h2);simp only[TL]at h;cases hb:Nat.blt c 1000000 with
   |true=>rw[hb]at h;exact ih h rfl hl' ha
   |false=>
    rw[hb]at h;have hc:¬c<1000000:=fun h1=>by rw[show Nat.blt c 1000000=true by simpa using h1]at hb;cases hb
    refine ih h rfl hl' fun j s' hj=>?_;rw[RT]at hj;by_cases e:j=c-1000000
    ·rw[if_pos e]at hj;cases hj;have h0:=hl 0 s _ rfl rfl;unfold IK at h0;rw[if_neg hc,<-e]at h0;exact h0
    ·rw[if_neg e]at hj;exact ha j s' hj
theorem ABI(ho:∀k o,σ k=some o->ObjOK P fr w G k o){sl:Nat->SV}{tv:Nat->Value}(hsl:∀t,SR P w G (sl t) (tv t)){pv:List Value}:∀{kn:List Kn} {acc acc':List (Nat×SV)},Y7 σ sl kn acc=some acc'->
 (∀q∈kn,JQ w G.im tv pv q)->(∀j s,FU acc j=some s->SR P w G s (pv.getD j undef))->∀j s,FU acc' j=some s->SR P w G s (pv.getD j undef):=by
 intro kn;induction kn with
 |nil=>intro acc acc' h _ ha;cases h;exact ha
 |cons q kn ih=>
  intro acc acc' h hk ha;simp only[Y7]at h;split at h
  ·rename_i f c hkn;cases hb:LJ c with
   |false=>rw[hb]at h;cases h
   |true=>
    rw[hb]at h;simp only[AA]at h;split at h
    ·rename_i acc1 hp;obtain⟨vs,k1,k2⟩:=xW ho hkn (hsl q.p);have hq:=hk q AN
     have hvs:vs.toList=q.caps.map (IK tv pv):=by
      unfold JQ at hq;unfold kC at k2
      have inj:Value.func (.func f) #[] vs=LT tv pv q->vs.toList=q.caps.map (IK tv pv):=by
       intro e;unfold LT at e;injection e with _ _ e;rw[e]
      cases hbx:q.bx with
      |true=>
       rw[hbx]at hq k2;obtain⟨b,e1,e2,e3⟩:=hq;obtain⟨b',d1,d2,d3⟩:=k2;rw[e1]at d1;injection d1 with d1;injection d1 with d1;injection d1 with d1 _ _;subst d1;rw[e3]at d3;exact inj (A4 d3).symm
      |false=>
       rw[hbx]at hq k2;have hq:tv q.p=LT tv pv q:=hq;have k2:tv q.p=_:=k2;exact inj (k2.symm.trans hq)
     have hcl:=kA k1 hb;exact ih h (fun q' hq'=>hk q' (AI _ hq')) (ABH hp hvs (k9 k1 (by omega)) ha)
    ·cases h
  ·cases h
theorem ABJ(ho:∀k o,σ k=some o->ObjOK P fr w G k o){sl:Nat->SV}{tv:Nat->Value}(hsl:∀t,SR P w G (sl t) (tv t)){pv:List Value}{x:KX}(hx:KxOK w G.im tv pv x){ps:List SV}(h:hZ σ sl x=some ps):
 ps.length=pv.length/\∀(j:Nat) (s:SV) (v:Value),ps[j]?=some s->pv[j]?=some v->SR P w G s v:=by
 unfold hZ at h;split at h
 ·rename_i acc hacc;obtain⟨p1,p2⟩:=xX h;rw[CW]at p1;have key:=ABI ho hsl hacc hx.2 (fun j s h=>by cases h);refine⟨by rw[p1,hx.1],fun j s v hj hv=>?_⟩;have hlt:j<ps.length:=(AE.1 hj).1;have:=key j s (p2 j j s (by rw[C1 (by omega)]) hj);rw[A2,hv]at this;exact this
 ·cases h
theorem z7(ho:∀k o,σ k=some o->ObjOK P fr w G k o){k:Kp}{st:St}(hst:st.sto=σ){tv:Nat->Value}(hsl:∀t,SR P w G (st.slots t) (tv t)){pv:List Value}{x:KX}(hx:KxOK w G.im tv pv x){vs:List SV}(h:TQ k x st=some vs):
 vs.length=(k.tm.map tv++pv).length/\∀(j:Nat) (s:SV) (v:Value),vs[j]?=some s->(k.tm.map tv++pv)[j]?=some v->SR P w G s v:=by
 unfold TQ at h;split at h
 ·rename_i ps hps;cases h;subst hst;obtain⟨e1,e2⟩:=ABJ ho hsl hx hps;refine⟨by simp[e1],ZC (by simp) (fun j s v hj hv=>?_) e2⟩;rw[AK]at hj hv;cases ht:k.tm[j]? with
  |none=>rw[ht]at hj;cases hj
  |some t=>
   rw[ht]at hj hv;cases hj;cases hv;exact hsl t
 ·cases h
theorem ABK(ho:∀k o,σ k=some o->ObjOK P fr w G k o){k:Kp}{st:St}(hst:st.sto=σ){tv:Nat->Value}(hsl:∀t,SR P w G (st.slots t) (tv t)){x:KX}{vs:List SV}(h:Y8 k x st=some vs):
 ∃pv,KxOK w G.im tv pv x/\vs.length=(k.tm.map tv++pv).length/\∀(j:Nat) (s:SV) (v:Value),vs[j]?=some s->(k.tm.map tv++pv)[j]?=some v->SR P w G s v:=by
 unfold Y8 at h;split at h
 ·rename_i ps hps;cases h;subst hst;obtain⟨pv,e1,e0,e2⟩:=xY ho hsl hps;refine⟨pv,e0,by simp[e1],ZC (by simp) (fun j s v hj hv=>?_) e2⟩;rw[AK]at hj hv;cases ht:k.tm[j]? with
  |none=>rw[ht]at hj;cases hj
  |some t=>
   rw[ht]at hj hv;cases hj;cases hv;exact hsl t
 ·cases h
theorem kW{tv:Nat->Value}:∀{tm:List Nat} {l:List SV},(∀(j:Nat) (s:SV) (t:Nat),l[j]?=some s->tm[j]?=some t->SR P w G s (tv t))->∀t,SR P w G (JX tm l t) (tv t):=by
 intro tm;induction tm with
 |nil=>intro l _ t;simp only[JX];exact SR.undef _
 |cons d tm ih=>
  intro l hl t;cases l with
  |nil=>simp only[JX];exact SR.undef _
  |cons s l=>
   simp only[JX];cases hb:Nat.beq t d with
   |true=>
    have e:=A3 hb;subst e;exact hl 0 s t rfl rfl
   |false=>exact ih (fun j s' t' h1 h2=>hl (j+1) s' t' (by simpa using h1) (by simpa using h2)) t
theorem ABL:∀{l:List SV} {vs:List Value},l.length=vs.length->(∀(j:Nat) (s:SV) (v:Value),l[j]?=some s->vs[j]?=some v->SR P w G s v)->CR P w G (SV.ofList l) vs:=by
 intro l;induction l with
 |nil=>intro vs h _;exact AT h.symm
 |cons s l ih=>
  intro vs h hs;cases vs with
  |nil=>cases h
  |cons v vs=>exact⟨v,vs,rfl,hs 0 s v rfl rfl,ih (by simpa using h) fun j s' v' h1 h2=>hs (j+1) s' v' (by simpa using h1) (by simpa using h2)⟩
def KeysOK(tv:Nat->Value)(G:Gh):List Kn->Nat->Prop
 |[],_=>True
 |q::r,n=>match q.bx with
  |true=>(∃b,tv q.p=.pointer (some ⟨b,0,none⟩)/\G.box n=some (b,.bool))/\KeysOK tv G r (n+1)
  |false=>KeysOK tv G r n
theorem KeysOK.mono{tv:Nat->Value}(h:∀k b,G.box k=some b->G'.box k=some b):∀{kn:List Kn} {n:Nat},KeysOK tv G kn n->KeysOK tv G' kn n:=by
 intro kn;induction kn with
 |nil=>intro n _;trivial
 |cons q kn ih=>
  intro n hk;unfold KeysOK at hk ⊢;cases hb:q.bx with
  |true=>rw[hb]at hk;exact⟨let ⟨b,h1,h2⟩:=hk.1;⟨b,h1,h _ _ h2⟩,ih hk.2⟩
  |false=>rw[hb]at hk;exact ih hk
theorem KeysOK.look{tv:Nat->Value}:∀{kn:List Kn} {n p k:Nat},KeysOK tv G kn n->FU (GW kn n) p=some k->∃b,tv p=.pointer (some ⟨b,0,none⟩)/\G.box k=some (b,.bool):=by
 intro kn;induction kn with
 |nil=>intro n p k _ h;cases h
 |cons q kn ih=>
  intro n p k hk h;unfold KeysOK at hk;unfold GW at h;cases hb:q.bx with
  |true=>
   rw[hb]at hk h;simp only[AA]at h;rw[RT]at h;by_cases e:p=q.p
   ·rw[if_pos e]at h;cases h;rw[e];exact hk.1
   ·rw[if_neg e]at h;exact ih hk.2 h
  |false=>
   rw[hb]at hk h;exact ih hk h
theorem MemS.ghostB(hm:MemS P fr free σ w G){k:Nat}(hk:free k)(b:Nat)(t:Ty):
 GLe w G w (G.addBox k b t)/\MemS P fr (fun j=>free j/\j≠k) σ w (G.addBox k b t):=by
 have hf:=hm.fresh k hk
 have hle:GLe w G w (G.addBox k b t):=by
  refine⟨Ext.refl _ _,fun j g u h=>h,fun j t h=>h,fun j b' h=>?_⟩;have:j≠k:=fun e=>by rw[e,hf.2.2.1]at h;cases h
  simp only[Gh.addBox,if_neg this];exact h
 refine⟨hle,fun j o h=>(hm.objs j o h).keep hle fun b _=>⟨rfl,fun _ h=>h,fun h=>h⟩,fun i j o1 o2 b' hi hj hbi hbj=>?_,hm.after,fun j hj=>?_⟩
 ·rw[GN (hm.objs i o1 hi) hle]at hbi;rw[GN (hm.objs j o2 hj) hle]at hbj;exact hm.sep i j o1 o2 b' hi hj hbi hbj
 ·have hfj:=hm.fresh j hj.1;exact⟨hfj.1,hfj.2.1,by simp only[Gh.addBox,if_neg hj.2];exact hfj.2.2.1,hfj.2.2.2⟩
theorem ABM{tv:Nat->Value}{pv:List Value}:∀{kn:List Kn} {n:Nat} {G:Gh} {free:Nat->Prop},MemS P fr free σ w G->(∀q∈kn,JQ w G.im tv pv q)->(∀k,n<=k->k<n+(GW kn n).length->free k)->
 ∃G',GLe w G w G'/\G'.im=G.im/\MemS P fr (fun j=>free j/\¬(n<=j/\j<n+(GW kn n).length)) σ w G'/\KeysOK tv G' kn n:=by
 intro kn;induction kn with
 |nil=>intro n G free hm _ _;exact⟨G,GLe.refl _ _,rfl,hm.shrink fun j h=>h.1,trivial⟩
 |cons q kn ih=>
  intro n G free hm hk hfree;have hq:=hk q AN;have hk':∀q'∈kn,JQ w G.im tv pv q':=fun q' h=>hk q' (AI _ h);unfold JQ at hq;cases hb:q.bx with
  |true=>
   rw[hb]at hq;obtain⟨b,e1,_⟩:=hq;have hlen:(GW (q::kn) n).length=(GW kn (n+1)).length+1:=by simp[GW,hb]
   rw[hlen]at hfree ⊢;obtain⟨h1,h2⟩:=hm.ghostB (hfree n (AM _) (by omega)) b .bool;obtain⟨G',g1,g2,g3,g4⟩:=ih (n:=n+1) h2 hk' (fun k h1 h2=>⟨hfree k (by omega) (by omega),by omega⟩);refine⟨G',h1.trans g1,g2,g3.shrink fun j hj=>⟨⟨hj.1,fun e=>hj.2 ⟨by omega,by omega⟩⟩,fun e=>hj.2 ⟨by omega,by omega⟩⟩,?_⟩;unfold KeysOK;rw[hb];exact⟨⟨b,e1,g1.box _ _ (by simp[Gh.addBox])⟩,g4⟩
  |false=>
   have hlen:(GW (q::kn) n).length=(GW kn n).length:=by simp[GW,hb]
   rw[hlen]at hfree ⊢;obtain⟨G',g1,g2,g3,g4⟩:=ih (n:=n) hm hk' hfree;refine⟨G',g1,g2,g3,?_⟩;unfold KeysOK;rw[hb];exact g4
theorem z8{tv:Nat->Value}{pv:List Value}{tm:List Nat}{svs:List SV}{kn:List Kn}{n:Nat}(hlen:svs.length=(tm.map tv++pv).length)(hs:∀(j:Nat) (s:SV) (v:Value),svs[j]?=some s->(tm.map tv++pv)[j]?=some v->SR P w G s v)
 (hk:KeysOK tv G kn n)(c:Nat):SR P w G (TP tm svs (GW kn n) c) (IK tv pv c):=by
 unfold TP IK;by_cases hc:c<1000000
 ·rw[if_pos hc,show Nat.blt c 1000000=true by simpa using hc];simp only[AA];split
  ·rename_i k hlk;obtain⟨b,e1,e2⟩:=hk.look hlk;rw[e1];exact⟨_,rfl,b,.bool,0,e2,rfl,⟨.bool,rfl,rfl⟩,rfl⟩
  ·exact kW (fun j s t hj ht=>hs j s _ hj (by
    have hlt:j<tm.length:=(AE.1 ht).1;rw[AW (by simpa using hlt),AK,ht];rfl)) c
 ·rw[if_neg hc,show Nat.blt c 1000000=false by rw[<-BM];simpa using hc];simp only[AC];rcases CG (tm.length+(c-1000000)) svs.length with hlt|hge
  ·refine hs (tm.length+(c-1000000)) _ _ ?_ ?_
   ·rw[A2,A_,A1 hlt];rfl
   ·rw[AY (by simp),A2];simp only[AL,Nat.add_sub_cancel_left];rw[hlen,A7,AL]at hlt;rw[A1 (by omega)];rfl
  ·rw[A2,A_,B1 hge];exact SR.undef _
theorem ABN{tv:Nat->Value}{pv:List Value}{tm:List Nat}{svs:List SV}{kn:List Kn}{n:Nat}(hlen:svs.length=(tm.map tv++pv).length)(hs:∀(j:Nat) (s:SV) (v:Value),svs[j]?=some s->(tm.map tv++pv)[j]?=some v->SR P w G s v)
 (hk:KeysOK tv G kn n)(q:Kn):CR P w G (QW tm svs (GW kn n) q) (q.caps.map (IK tv pv)):=
 ABL (by simp) fun j s v hj hv=>by
  rw[AK]at hj hv;cases hc:q.caps[j]? with
  |none=>rw[hc]at hj;cases hj
  |some c=>
   rw[hc]at hj hv;cases hj;cases hv;exact z8 hlen hs hk c
theorem ABO{tv:Nat->Value}{pv:List Value}{tm:List Nat}{svs:List SV}{ky:List (Nat×Nat)}(hcaps:∀q,CR P w G (QW tm svs ky q) (q.caps.map (IK tv pv))):
 ∀{kn:List Kn} {n:Nat},MemS P fr free σ w G->(∀q∈kn,JQ w G.im tv pv q)->KeysOK tv G kn n->(∀k,n<=k->k<n+(GW kn n).length->¬free k)->MemS P fr free (ER σ (KC tm svs ky kn n)) w G:=by
 intro kn;induction kn with
 |nil=>intro n hm _ _ _;exact hm
 |cons q kn ih=>
  intro n hm hk hkeys hfree;have hq:=hk q AN;have hk':∀q'∈kn,JQ w G.im tv pv q':=fun q' h=>hk q' (AI _ h);unfold JQ at hq;unfold KeysOK at hkeys;cases hb:q.bx with
  |true=>
   rw[hb]at hq hkeys;obtain⟨b,e1,e2,e3⟩:=hq;obtain⟨⟨b',d1,d2⟩,hkeys⟩:=hkeys;rw[e1]at d1;injection d1 with d1;injection d1 with d1;injection d1 with d1 _ _;subst d1;have hlen:(GW (q::kn) n).length=(GW kn (n+1)).length+1:=by simp[GW,hb]
   rw[hlen]at hfree;have hobs:KC tm svs ky (q::kn) n=[(n,some (.kn q.f (QW tm svs ky q)))]++KC tm svs ky kn (n+1):=by simp[KC,hb]
   rw[hobs,GD];exact(ih hm hk' hkeys (fun k h1 h2=>hfree k (by omega) (by omega))).backO ⟨b,_,d2,e2,e3,by simpa using hcaps q⟩ (hfree n (AM _) (by omega)) fun b hb=>hb.elim
  |false=>
   rw[hb]at hkeys;have hlen:(GW (q::kn) n).length=(GW kn n).length:=by simp[GW,hb]
   rw[hlen]at hfree;have hobs:KC tm svs ky (q::kn) n=KC tm svs ky kn n:=by simp[KC,hb]
   rw[hobs];exact ih hm hk' hkeys hfree
theorem ABP{tv:Nat->Value}{pv:List Value}{tm:List Nat}{svs:List SV}{ky:List (Nat×Nat)}(hcaps:∀q,CR P w G (QW tm svs ky q) (q.caps.map (IK tv pv)))(hbase:∀c,SR P w G (TP tm svs ky c) (IK tv pv c)):
 ∀{kn:List Kn} {t:Nat} {s:SV},(∀q∈kn,JQ w G.im tv pv q/\q.p<1000000)->QX tm svs ky kn t=some s->SR P w G s (tv t):=by
 intro kn;induction kn with
 |nil=>intro t s _ h;cases h
 |cons q kn ih=>
  intro t s hk h;simp only[QX]at h;cases hb:Nat.beq t q.p with
  |false=>rw[hb]at h;exact ih (fun q' h=>hk q' (AI _ h)) h
  |true=>
   rw[hb]at h;have e:=A3 hb;simp only[AA,AO]at h;subst h;obtain⟨hq,hp⟩:=hk q AN;cases hbx:q.bx with
   |true=>
    simp only[AA];have:=hbase q.p;unfold IK at this;rw[if_pos hp]at this;rw[e];exact this
   |false=>
    simp only[AC];unfold JQ at hq;rw[hbx]at hq;have hq:tv q.p=LT tv pv q:=hq;rw[e,hq];exact⟨_,rfl,_,rfl,by simpa using hcaps q⟩
theorem zA{x:KX}(h:LN x=true):∀q∈x.kn,q.p<1000000:=fun q hq=>by
 unfold LN at h;rw[BR]at h;simpa using h q hq
theorem zB(hm:MemS P fr free σ w G){tv:Nat->Value}{pv:List Value}{x:KX}(hx:KxOK w G.im tv pv x)(hlow:LN x=true){tm:List Nat}{svs:List SV}(hlen:svs.length=(tm.map tv++pv).length)
 (hs:∀(j:Nat) (s:SV) (v:Value),svs[j]?=some s->(tm.map tv++pv)[j]?=some v->SR P w G s v){n:Nat}(hfree:∀k,n<=k->k<n+(GW x.kn n).length->free k):
 ∃G',GLe w G w G'/\G'.im=G.im/\MemS P fr (fun j=>free j/\¬(n<=j/\j<n+(GW x.kn n).length)) (ER σ (KC tm svs (GW x.kn n) x.kn n)) w G'/\
  ∀t s,QX tm svs (GW x.kn n) x.kn t=some s→SR P w G' s (tv t):=by
 obtain⟨G',g1,g2,g3,g4⟩:=ABM hm hx.2 hfree;have hs':∀(j:Nat) (s:SV) (v:Value),svs[j]?=some s->(tm.map tv++pv)[j]?=some v->SR P w G' s v:=fun j s v h1 h2=>(hs j s v h1 h2).mono g1;have hx':∀q∈x.kn,JQ w G'.im tv pv q:=fun q hq=>by rw[g2];exact hx.2 q hq
 have hc:=ABN hlen hs' g4;exact⟨G',g1,g2,ABO hc g3 hx' g4 (fun k h1 h2 h=>h.2 ⟨h1,h2⟩),fun t s h=>ABP hc (z8 hlen hs' g4) (fun q hq=>⟨hx' q hq,zA hlow q hq⟩) h⟩
theorem kX{N:Nat}{k:Kp}{x:KX}{v:TupR k.sh}{a:Act}{bs:List Nat}{pv:List Value}(hd:a.defers=[])(hN:a.tmps.size=N)(hfx:∀t v,fr.fx t=some v->a.tmps.getD t undef=v)(haf:After fr.gv fr.w0 fr.i0 w I)(hdr:fr.dr=true->fr.w0.drawn<=w.drawn)
 (hx:KxOK w I (fun t=>a.tmps.getD t undef) pv x)(hlow:LN x=true)(h:ShL P w I k.sh v ((k.tm.map fun t=>a.tmps.getD t undef)++pv) bs)(hnd:bs.Nodup)(hbs:∀b∈bs,fr.owned b):∃G',SimN P N fr (QY k x v) a w G':=by
 let G0:Gh:=⟨I,fun _ _=>none,fun _=>none,fun _=>none⟩
 have hm0:MemS P fr (fun _=>True) (fun _=>none) w G0:=⟨fun k o h=>(by cases h),fun j k o o' b h=>(by cases h),haf,fun k _=>⟨rfl,rfl,rfl,fun _=>rfl⟩⟩;obtain⟨G1,h1,h2,h3,h4⟩:=UP (n:=0) (G:=G0) hm0 h hnd (fun b hb=>⟨hbs b hb,fun j o h=>(by cases h)⟩) (fun _ _ _=>trivial);have hlen:((FC k.sh v 0).map (·.sv)).length=((k.tm.map fun t=>a.tmps.getD t undef)++pv).length:=by rw[AL,h3,h2]
 have hsv:∀(j:Nat) (s:SV) (v':Value),((FC k.sh v 0).map (·.sv))[j]?=some s->((k.tm.map fun t=>a.tmps.getD t undef)++pv)[j]?=some v'->SR P w G1 s v':=by
  intro j s v' hj hv;rw[AK]at hj;cases hm:(FC k.sh v 0)[j]? with
  |none=>rw[hm]at hj;cases hj
  |some m=>rw[hm]at hj;cases hj;exact h4 j m v' hm hv
 have en:KV (FC k.sh v 0) 0=0+G8 k.sh:=yW;obtain⟨G2,g1,g2,g3,g4⟩:=zB (n:=KV (FC k.sh v 0) 0) h1.mem (by rw[h1.im];exact hx) hlow hlen hsv (fun j h1 h2=>⟨trivial,by omega⟩)
 have hsr:∀t,SR P w G2 ((QY k x v).slots t) (a.tmps.getD t undef):=by
  intro t;show SR P w G2 (iB _ _ _ _ t) _;unfold iB;split
  ·rename_i s hs;exact g4 t s hs
  ·exact kW (tv:=fun t=>a.tmps.getD t undef) (fun j s t hj ht=>(hsv j s _ hj (by
    have hlt:j<k.tm.length:=(AE.1 ht).1;rw[AW (by simpa using hlt),AK,ht];rfl)).mono g1) t
 refine⟨G2,fun t=>(hsr t).slotOK,hd,hN,hfx,fun t tk g s h=>?_,?_,hdr⟩
 ·have:=hsr t;rw[h]at this;exact this.not_grd
 ·have e:(QY k x v).sto=ER (fun _=>none) (KC k.tm ((FC k.sh v 0).map (·.sv)) (GW x.kn (KV (FC k.sh v 0) 0)) x.kn (KV (FC k.sh v 0) 0)++(FC k.sh v 0).flatMap (·.obs)):=funext fun i=>yV _ i;rw[e,GD];refine g3.shrink fun j hj=>?_;have hj:KV (FC k.sh v 0) 0+(GW x.kn (KV (FC k.sh v 0) 0)).length<=j:=hj;exact⟨⟨trivial,by omega⟩,by omega⟩
theorem zC{wrs:List Nat}:∀{kn:List Kn},LM wrs kn=true->∀q∈kn,FD q.p wrs=false/\∀c∈q.caps,c<1000000->FD c wrs=false:=by
 intro kn;induction kn with
 |nil=>intro _ q hq;cases hq
 |cons q kn ih=>
  intro h q' hq';simp only[LM,A5,BQ]at h;rcases B6.1 hq' with rfl|hq'
  ·refine⟨h.1.1,fun c hc hlt=>?_⟩;have:=BR.1 h.1.2 c hc;simp only[BG,BQ]at this;rcases this with h1|h1
   ·have:=C0 h1;omega
   ·exact h1
  ·exact ih h.2 q' hq'
theorem zD{N:Nat}{st:St}{a a':Act}{wrs ks bs bs':List Nat}{I':Im}{k:Kp}{x:KX}{pv:List Value}{y:TupR k.sh}(hs:SimN P N fr st a w G)(hblk:BlksOf st.sto G ks bs)
 (hwr:∀d,FD d wrs=true->fr.fx d=none)(hd:a'.defers=[])(hN:a'.tmps.size=N)(hfr:∀t,FD t wrs=false->a'.tmps.getD t undef=a.tmps.getD t undef)
 (hx:KxOK w G.im (fun t=>a.tmps.getD t undef) pv x)(hlow:LN x=true)(hxf:LM wrs x.kn=true)
 (haft:After (·∈bs) w G.im w' I')(hdr:fr.dr=true->w.drawn<=w'.drawn)(hsh:ShL P w' I' k.sh y ((k.tm.map fun t=>a'.tmps.getD t undef)++pv) bs')(hnd:bs'.Nodup)(hown:∀b∈bs',b∈bs\/w.heap.size<=b):
 ∃G',SimN P N fr (QZ st wrs ks x k y) a' w' G':=by
 obtain⟨g1,g2⟩:=hs.mem.called hblk haft
 obtain ⟨G1,h1,h2,h3,h4⟩:=UP (n:=st.n) g2 hsh hnd (fun b hb=>by
  refine⟨?_,fun j o ho hbj=>?_⟩
  ·rcases hown b hb with h|h
   ·obtain⟨k',_,o,ho,hbo⟩:=hblk b h;exact MG (hs.mem.objs k' o ho) hbo
   ·exact .inl (AZ hs.mem.after.size h)
  ·have ho':j ∉ ks/\st.sto j=some o:=by
    rw[KH]at ho;by_cases hj:j∈ks
    ·rw[if_pos hj]at ho;cases ho
    ·rw[if_neg hj]at ho;exact⟨hj,ho⟩
   have hbj0:Bk G j o b:=by rw[<-GN (hs.mem.objs j o ho'.2) g1];exact hbj
   rcases hown b hb with h|h
   ·obtain⟨k',hk,o2,ho2,hbo⟩:=hblk b h;have:=hs.mem.sep j k' o o2 b ho'.2 ho2 hbj0 hbo;subst this;exact ho'.1 hk
   ·have:=HW (hs.mem.objs j o ho'.2) hbj0;omega) (fun k' h1 _=>h1)
 have hlen:((FC k.sh y st.n).map (·.sv)).length=((k.tm.map fun t=>a'.tmps.getD t undef)++pv).length:=by rw[AL,h3,h2]
 have hsv:∀(j:Nat) (s:SV) (v':Value),((FC k.sh y st.n).map (·.sv))[j]?=some s->((k.tm.map fun t=>a'.tmps.getD t undef)++pv)[j]?=some v'->SR P w' G1 s v':=by
  intro j s v' hj hv;rw[AK]at hj;cases hm:(FC k.sh y st.n)[j]? with
  |none=>rw[hm]at hj;cases hj
  |some m=>rw[hm]at hj;cases hj;exact h4 j m v' hm hv
 have hx1:KxOK w' G1.im (fun t=>a'.tmps.getD t undef) pv x:=by
  rw[h1.im];refine hx.ext haft.ext fun q hq=>?_;obtain⟨q1,q2⟩:=zC hxf q hq;exact⟨hfr _ q1,fun c hc hlt=>hfr _ (q2 c hc hlt)⟩
 obtain⟨G2,d1,d2,d3,d4⟩:=zB (n:=st.n+G8 k.sh) h1.mem hx1 hlow hlen hsv (fun j h1 h2=>⟨by show st.n<=j;omega,by omega⟩)
 have hsr:∀t,SR P w' G2 ((QZ st wrs ks x k y).slots t) (a'.tmps.getD t undef):=by
  intro t;simp only[QZ];split
  ·rename_i s hs;exact d4 t s hs
  ·cases ht:FD t k.tm with
   |true=>
    exact kW (tv:=fun t=>a'.tmps.getD t undef) (fun j s t hj ht=>(hsv j s _ hj (by
     have hlt:j<k.tm.length:=(AE.1 ht).1;rw[AW (by simpa using hlt),AK,ht];rfl)).mono d1) t
   |false=>
    simp only[AC];cases hw:FD t wrs with
    |true=>exact SR.undef _
    |false=>
     simp only[AC];rw[hfr t hw];exact(((hs.sr (.tmp t)).mono g1).mono h1.le).mono d1
 refine⟨G2,fun t=>(hsr t).slotOK,hd,hN,fun t v hv=>?_,fun t tk g s h=>?_,?_,fun h=>AZ (hs.drawn h) (hdr h)⟩
 ·cases hw:FD t wrs with
  |true=>rw[hwr t hw]at hv;cases hv
  |false=>rw[hfr t hw];exact hs.fix t v hv
 ·have:=hsr t;rw[h]at this;exact this.not_grd
 ·simp only[QZ];rw[GD,GD];refine d3.shrink fun j hj=>?_;have hj:st.n+G8 k.sh+(GW x.kn (st.n+G8 k.sh)).length<=j:=hj;exact⟨⟨by show st.n<=j;omega,by omega⟩,by omega⟩
theorem ABQ{Ω:Type}{N:Nat}{K:Ex->St->Option Ω}{ω:Ω}{st:St}{a a':Act}{e:Exit}{wrs ks bs:List Nat}{I':Im}{x:KX}{pv:List Value}(hs:SimN P N fr st a w G)(hblk:BlksOf st.sto G ks bs)
 (hwr:∀d,FD d wrs=true->fr.fx d=none)(hd:a'.defers=[])(hN:a'.tmps.size=N)(hfr:∀t,FD t wrs=false->a'.tmps.getD t undef=a.tmps.getD t undef)
 (hx:KxOK w G.im (fun t=>a.tmps.getD t undef) pv x)(hlow:LN x=true)(hxf:LM wrs x.kn=true)(haft:After (·∈bs) w G.im w' I')(hdr:fr.dr=true->w.drawn<=w'.drawn):
 ∀{l:List (Ex×Kp)} {y:GT l},iC st wrs ks x l y K=some ω->ZM P w' I' a' e w.heap.size bs pv l y->
 ∃e' st' G',e=IB e'/\SimN P N fr st' a' w' G'/\K e' st'=some ω:=by
 intro l;induction l with
 |nil=>intro y;exact Empty.elim y
 |cons o r ih=>
  intro y h hq;cases r with
  |nil=>
   obtain⟨h1,bs',h2,h3,h4⟩:=hq;obtain⟨G',h5⟩:=zD hs hblk hwr hd hN hfr hx hlow hxf haft hdr h2 h3 h4;exact⟨o.1,_,G',h1,h5,h⟩
  |cons p r=>
   cases y with
   |inl y=>
    obtain⟨h1,bs',h2,h3,h4⟩:=hq;obtain⟨G',h5⟩:=zD hs hblk hwr hd hN hfr hx hlow hxf haft hdr h2 h3 h4;exact⟨o.1,_,G',h1,h5,h⟩
   |inr y=>exact ih (y:=y) h hq
variable{P:Program}{fr:Fr}{free free':Nat->Prop}{self:Nat}{σ σ':SSo}{w w':World}{G G':Gh}{I:Im}
theorem kY{Ω:Type}{E:Env}(hE:EnvOK P fr.dr E){N:Nat}{s:CSpec}{c:Code}(hwr:∀d,FD d s.wrs=true->fr.fx d=none)(hc:EN P fr.dr N s c){st:St}{K:Ex->St->Option Ω}{ω:Ω}{a:Act}{Q:Exit->Act->World->Prop}
 (h:UA E s st K=some ω)(hs:SimN P N fr st a w G)(hQ:∀e st' a' w' G',SimN P N fr st' a' w' G'->K e st'=some ω->Q (IB e) a' w'):c.wp P Q a w:=by
 unfold UA at h;unfold EN at hc;cases hkx:s.kx with
 |some x=>
 rw[hkx]at h hc;simp only at h hc;unfold vZ at h;split at h
 ·rename_i vs hvs0
  obtain⟨hxf,hlow,hvs⟩:LM s.wrs x.kn=true/\LN x=true/\Y8 s.inn x st=some vs:=by
   cases hb:(LM s.wrs x.kn&&LN x)with
   |false=>rw[hb]at hvs0;cases hvs0
   |true=>
    rw[hb]at hvs0;simp only[A5]at hb;exact⟨hb.1,hb.2,hvs0⟩
  split at h
  ·rename_i v hv;obtain⟨y,h1,h2⟩:=BX.1 h;obtain⟨pv,e0,e1,e2⟩:=ABK (fun k o h=>hs.mem.objs k o h) rfl (fun t=>hs.sr (.tmp t)) hvs;obtain⟨G1,gle,hm1⟩:=UT hs.mem s.inn.sh vs;have hs1:SimN P N fr (iD s.inn vs st) a w G1:=⟨fun t=>(hs.slots t).mono gle fun _ _ _ _=>Iff.rfl,hs.defs,hs.size,hs.fix,hs.nogrd,hm1,hs.drawn⟩;have hx1:KxOK w G1.im (fun t=>a.tmps.getD t undef) pv x:=e0.ext gle.ext fun q _=>⟨rfl,fun _ _ _=>rfl⟩;obtain⟨bs,p1,p2,p3⟩:=O6 hm1 hE.fs (vs:=(s.inn.tm.map fun t=>a.tmps.getD t undef)++pv) hv e1 (fun j s v h1 h2=>(e2 j s v h1 h2).mono gle);refine wp_mono (hc w G1.im a v bs pv hm1.after.mem hs.defs hs.size hx1 p1 p2 y h1) fun e a' w' hq=>?_;obtain⟨q1,q2,q3,qd,I',q4,q5⟩:=hq;obtain⟨e',st',G',rfl,h3,h4⟩:=ABQ hs1 p3 hwr q1 q2 q3 hx1 hlow hxf q4 qd h2 q5;exact hQ e' _ a' w' G' h3 h4
  ·cases h
 ·cases h
 |none=>
 rw[hkx]at h hc;simp only at h hc;split at h
 ·rename_i v hv0
  obtain⟨hal,hv⟩:N0 s.al st.slots=true/\MB E.fs s.inn (J8 s.inn st)=some v:=by
   cases hb:N0 s.al st.slots with
   |false=>rw[hb]at hv0;cases hv0
   |true=>rw[hb]at hv0;exact⟨rfl,hv0⟩
  have hal:=yY hs hal;obtain⟨G,_,hs⟩:=hs.frz s.inn;obtain⟨bs,p1,p2,p3⟩:=y_ hE.fs hs hv;have hc:=hc w G.im a v bs hs.mem.after.mem hs.defs hs.size hal p1 p2
  have fin:∀x,(TK (J8 s.inn st) s.wrs (HR (J8 s.inn st).sto s.inn.sh (s.inn.tm.map st.slots)) s.outs x fun e st'=>K e (TJ s.al s.wrs st'))=some ω->∀e a' w',UV P fr.dr N s x a w G.im bs e a' w'->Q e a' w':=by
   intro x h2 e a' w' hq;obtain⟨q1,q2,q3,qd,I',q4,q5⟩:=hq;obtain⟨e',st',G',rfl,h3,h4⟩:=ABG hs p3 hwr q1 q2 q3 q4 qd h2 q5;exact hQ e' _ a' w' G' (ABE h3 hal q3) h4
  cases hnd:s.nd with
  |none=>
   rw[hnd]at h hc;obtain⟨x,h1,h2⟩:=BX.1 h;exact wp_mono (hc x h1) fun e a' w' hq=>fin x h2 e a' w' hq
  |some d=>
   rw[hnd]at h hc;have hall:=A8L h;refine wp_mono (hc fun o ho=>?_) fun e a' w' ⟨o,x,hS,hx,hq⟩=>?_
   ·obtain⟨x,hx,_⟩:=BX.1 (hall o ho);exact⟨x,hx⟩
   ·obtain⟨x',hx',h2⟩:=BX.1 (hall o hS);rw[hx]at hx';cases hx';exact fin x h2 e a' w' hq
 ·cases h
theorem RW{Ω:Type}{E:Env}(hE:EnvOK P fr.dr E)(hmix:P.follows .mixedOrders=true){N:Nat}{ok:Nat->Bool}(hok:∀d,ok d=true->d<N/\fr.fx d=none):
 ∀(c:Code) (n:Nat) (st:St) (a:Act) (w:World) (G:Gh) (K:Ex->St->Option Ω) (ω:Ω) (Q:Exit->Act->World->Prop),
 HY ok c=true->KJ P fr.dr N ok E c n->JO E c n st K=some ω->SimN P N fr st a w G->(∀e st' a' w' G',SimN P N fr st' a' w' G'->K e st'=some ω->Q (IB e) a' w')->c.wp P Q a w:=by
 have hall:∀{l:List Nat},l.all ok=true->∀d,FD d l=true->fr.fx d=none:=by
  intro l h d hd;rw[BR]at h;exact(hok d (h d (O5.1 hd))).2
 intro c;induction c with
 |skip=>intro n st a w G K ω Q _ _ h hs hQ;exact wp_skip (hQ .normal st a w G hs h)
 |region id ops draw=>
  intro n st a w G K ω Q hd _ h hs hQ;refine ABD hE hmix (fun j o d hj ho=>?_) h hs fun st' a' w' G' hs' hK=>hQ .normal st' a' w' G' hs' hK;simp only[HY,BR]at hd;have:=hd o (AP (by simpa using hj));rw[ho]at this;exact hok d this
 |seq x y ihx ihy=>
  intro n st a w G K ω Q hd hc h hs hQ;simp only[HY,A5]at hd;simp only[JO]at h;simp only[KJ]at hc;split at h
  ·rename_i s hcut;rw[hcut]at hc;exact kY hE (hall hc.1) hc.2 h hs hQ
  ·rename_i hcut;rw[hcut]at hc;refine wp_seq (ihx n st a w G _ ω _ hd.1 hc.1 h hs fun e st' a' w' G' hs' hK=>kS ?_);cases e with
   |normal=>exact ihy _ st' a' w' G' K ω Q hd.2 hc.2 hK hs' hQ
   |exit i=>exact hQ (.exit i) st' a' w' G' hs' hK
   |ret=>exact hQ .ret st' a' w' G' hs' hK
 |cond c x y ihx ihy=>
  intro n st a w G K ω Q hd hc h hs hQ;simp only[HY,A5]at hd;simp only[JO]at h;simp only[KJ]at hc;split at h
  ·rename_i s hcut;rw[hcut]at hc;exact kY hE (hall hc.1) hc.2 h hs hQ
  ·rename_i hcut;rw[hcut]at hc;split at h
   ·rename_i t ht;have hv:=hs.sr c;rw[ht]at hv;have hv:=hv.bool;cases t with
    |true=>exact wp_cond_true hv (ihx _ st a w G K ω Q hd.1 hc.1 h hs hQ)
    |false=>exact wp_cond_false hv (ihy _ st a w G K ω Q hd.2 hc.2 h hs hQ)
   ·cases h
 |block id b ih=>
  intro n st a w G K ω Q hd hc h hs hQ;refine wp_block (ih n st a w G _ ω _ hd hc h hs fun e st' a' w' G' hs' hK=>?_);cases e with
  |normal=>exact hQ .normal st' a' w' G' hs' hK
  |ret=>exact hQ .ret st' a' w' G' hs' hK
  |exit i=>
   simp only[IB,Exit.inBlock];simp only at hK;by_cases e:i=id
   ·subst e;rw[if_pos rfl];rw[CI]at hK;exact hQ .normal st' a' w' G' hs' hK
   ·rw[if_neg e];rw[show Nat.beq i id=false by rw[<-BM];exact fun hh=>e (A3 hh)]at hK;exact hQ (.exit i) st' a' w' G' hs' hK
 |loop b ih=>
  intro n st a w G K ω Q hd hc h hs hQ;simp only[JO]at h;simp only[KJ]at hc;split at h
  ·rename_i s hcut;rw[hcut]at hc;exact kY hE (hall hc.1) hc.2 h hs hQ
  ·cases h
 |exit i=>intro n st a w G K ω Q _ _ h hs hQ;exact wp_exit (hQ (.exit i) st a w G hs h)
 |ret=>intro n st a w G K ω Q _ _ h hs hQ;exact wp_ret (hQ .ret st a w G hs h)
 |_=>intro n st a w G K ω Q _ _ h;cases h
theorem ABR{E:Env}(hE:EnvOK P fr.dr E){N:Nat}{e:Ex}{st:St}{a:Act}(hs:SimN P N fr st a w G){bs:List Nat}(hgv:∀b,fr.gv b->b∈bs):∀{l:List (Ex×Kp)} {x:GT l},outPut E.fs l e st=some x->
 ∃I,After fr.gv fr.w0 fr.i0 w I/\ZK P w I a (IB e) fr.w0.heap.size bs l x:=by
 have hsame:∀{e e':Ex},outPut.sameEx e e'=true->e'=e:=by
  intro e e' h;cases e<;>cases e'<;>first|rfl|cases h|skip
  have h:Nat.beq _ _=true:=h;rw[A3 h]
 have one:∀{o:Ex×Kp} {y:TupR o.2.sh},outPut.sameEx o.1 e=true->MB E.fs o.2 (J8 o.2 st)=some y->
  ∃I,After fr.gv fr.w0 fr.i0 w I/\IB e=IB o.1/\∃bs',ShL P w I o.2.sh y (o.2.tm.map fun t=>a.tmps.getD t undef) bs'/\bs'.Nodup/\∀b∈bs',b∈bs\/fr.w0.heap.size<=b:=by
  intro o y h1 h2;obtain⟨G0,_,hs⟩:=hs.frz o.2;obtain⟨bs',k1,k2,k3⟩:=y_ hE.fs hs h2;refine⟨G0.im,hs.mem.after,by rw[hsame h1],bs',k1,k2,fun b hb=>?_⟩;obtain⟨k,_,ob,ho,hbo⟩:=k3 b hb;rcases MG (hs.mem.objs k ob ho) hbo with h|h
  ·exact .inr h
  ·exact .inl (hgv b h)
 intro l;induction l with
 |nil=>intro x h;cases h
 |cons o r ih=>
  intro x h;cases r with
  |nil=>
   simp only[outPut]at h;cases hb:outPut.sameEx o.1 e with
   |false=>rw[hb]at h;cases h
   |true=>rw[hb]at h;exact one hb h
  |cons p r=>
   simp only[outPut]at h;cases hb:outPut.sameEx o.1 e with
   |false=>
    rw[hb]at h;simp only[AC]at h;cases hr:outPut E.fs (p::r) e st with
    |none=>rw[hr]at h;cases h
    |some y=>
     rw[hr]at h;cases h;exact ih hr
   |true=>
    rw[hb]at h;simp only[AA]at h;cases hr:MB E.fs o.2 (J8 o.2 st)with
    |none=>rw[hr]at h;cases h
    |some y=>
     rw[hr]at h;cases h;exact one hb hr
def IC(N:Nat)(wrs:List Nat)(d:Nat):Bool:=Nat.blt d N&&FD d wrs
def KK(dr:Bool)(wrs bs:List Nat)(a:Act)(w:World)(I:Im):Fr:=⟨(·∈bs),w,I,fun t=>if FD t wrs then none else some (a.tmps.getD t undef),dr⟩
theorem ZN{N:Nat}{wrs bs:List Nat}{a:Act}:∀d,IC N wrs d=true->d<N/\(KK dr wrs bs a w I).fx d=none:=by
 intro d h;simp only[IC,A5,BS]at h;exact⟨h.1,by simp[KK,h.2]⟩
theorem zF{N:Nat}{inn:Kp}{v:TupR inn.sh}{wrs bs:List Nat}{a:Act}(hm:HU w I)(hd:a.defers=[])(hN:a.tmps.size=N)(hsh:ShL P w I inn.sh v (inn.tm.map fun t=>a.tmps.getD t undef) bs)(hnd:bs.Nodup):
 ∃G,SimN P N (KK dr wrs bs a w I) (IX inn v) a w G:=
 kU hd hN (fun t v h=>by
  have h:(if FD t wrs=true then none else some (a.tmps.getD t undef))=some v:=h;split at h
  ·cases h
  ·exact A4 h) (After.refl hm) (fun _=>AM _) hsh hnd fun b hb=>.inr hb
theorem ZO{E:Env}(hE:EnvOK P dr E){N:Nat}{s:CSpec}{x:GT s.outs}{bs:List Nat}{a0 a:Act}{w0:World}{e:Ex}{st:St}(hs:SimN P N (KK dr s.wrs bs a0 w0 I) st a w G)(h:outPut E.fs s.outs e st=some x):
 UV P dr N s x a0 w0 I bs (IB e) a w:=
 ⟨hs.defs,hs.size,fun t ht=>hs.fix t _ (by simp[KK,ht]),hs.drawn,ABR hE hs (fun _ h=>h) h⟩
theorem ABS{E:Env}(hE:EnvOK P dr E)(hmix:P.follows .mixedOrders=true){N n:Nat}{c:Operand}{x y:Code}{s:CSpec}
 (hd:HY (IC N s.wrs) (.cond c x y)=true)(hx:AllCuts P dr N (IC N s.wrs) (HN E x (n+1)))(hy:AllCuts P dr N (IC N s.wrs) (HN E y (n+1+J9 x)))
 (hn:s.nd=none)(hkx:s.kx=none)(hF:∀v r,s.F v=some r->YP E c x y n s.al s.inn s.outs v=some r):EN P dr N s (.cond c x y):=by
 unfold EN;rw[hkx];intro w I a v bs hm hda hN hal hsh hnd;rw[hn];intro r h;have h:=hF v r h;obtain⟨G,hs⟩:=zF (wrs:=s.wrs) hm hda hN hsh hnd;have hs:=kV hs hal;simp only[HY,A5]at hd;unfold YP at h;split at h
 ·rename_i t ht;have hv:=hs.sr c;rw[ht]at hv;have hv:=hv.bool;cases t with
  |true=>exact wp_cond_true hv (RW hE hmix ZN _ _ _ a w G _ r _ hd.1 (RV hx) h hs fun e st' a' w' G' hs' hK=>ZO hE hs' hK)
  |false=>exact wp_cond_false hv (RW hE hmix ZN _ _ _ a w G _ r _ hd.2 (RV hy) h hs fun e st' a' w' G' hs' hK=>ZO hE hs' hK)
 ·cases h
theorem ABT{E:Env}(hE:EnvOK P dr E)(hmix:P.follows .mixedOrders=true){N n:Nat}{body:Code}{al:List (Nat×Nat)}{inn:Kp}{outs:List (Ex×Kp)}{wrs:List Nat}{F:Nat->TupR inn.sh->Option (GT outs)}
 (hd:HY (IC N wrs) body=true)(hc:AllCuts P dr N (IC N wrs) (HN E body n))(h0:∀v,F 0 v=none)(hF:∀k v r,F (k+1) v=some r->jI E body n al inn outs (F k) v=some r)(m:Nat):
 EN P dr N ⟨inn,outs,wrs,F m,al,none,none⟩ (.loop body):=by
 intro w0 I a0 v0 bs hm hda hN hal hsh hnd r h;obtain⟨G0,hs0⟩:=zF (wrs:=wrs) hm hda hN hsh hnd;have hs0:=kV hs0 hal;refine wp_loop_rounds m ?_
 have key:∀k v a w G,F k v=some r->SimN P N (KK dr wrs bs a0 w0 I) (QS al inn v) a w G->Code.rounds P body (UV P dr N ⟨inn,outs,wrs,F m,al,none,none⟩ r a0 w0 I bs) k a w:=by
  intro k;induction k with
  |zero=>intro v a w G h;rw[h0]at h;cases h
  |succ k ih=>
   intro v a w G h hs;rw[rounds_succ];refine RW hE hmix ZN _ _ _ a w G _ r _ hd (RV hc) (hF k v r h) hs fun e st' a' w' G' hs' hK=>kS ?_;cases e with
   |normal=>
    simp only at hK;split at hK
    ·rename_i v' hv0
     obtain⟨hal',hv'⟩:N0 al st'.slots=true/\MB E.fs inn (J8 inn st')=some v':=by
      cases hb:N0 al st'.slots with
      |false=>rw[hb]at hv0;cases hv0
      |true=>rw[hb]at hv0;exact⟨rfl,hv0⟩
     obtain⟨G'',hs''⟩:=ABF hE.fs hs' hv';exact ih v' a' w' G'' hK (kV hs'' (yY hs' hal'))
    ·cases hK
   |exit i=>exact ZO (s:=⟨inn,outs,wrs,F m,al,none,none⟩) hE hs' hK
   |ret=>exact ZO (s:=⟨inn,outs,wrs,F m,al,none,none⟩) hE hs' hK
 exact key m v0 a0 w0 G0 h hs0
end
section
variable{P:Program}{fr:Fr}{free free':Nat->Prop}{self:Nat}{σ σ':SSo}{w w':World}{G G':Gh}{I:Im}
def GX:List Sh->Nat->List Nat
 |[],_=>[]
 | .box _::ps,i=>i::GX ps (i+1)
 | .io _ _::ps,i=>i::GX ps (i+1)
 | .bld _ false::ps,i=>i::GX ps (i+1)
 |_::ps,i=>GX ps (i+1)
theorem ShL.length:∀{l:List Sh} {x:TupR l} {vs:List Value} {bs:List Nat},ShL P w I l x vs bs->vs.length=l.length:=by
 intro l;induction l with
 |nil=>intro x vs bs h;rw[h.1];rfl
 |cons a l ih=>
  intro x vs bs h;cases l with
  |nil=>obtain⟨v,rfl,_⟩:=h;rfl
  |cons b l=>
   obtain⟨v,vs',b1,b2,rfl,_,_,h4⟩:=h;simp[ih h4]
theorem SimN.slot{N:Nat}{st:St}{a:Act}(hs:SimN P N fr st a w G)(t:Nat):SR P w G (st.slots t) (a.tmps.getD t undef):=hs.sr (.tmp t)
theorem ABU{id:Nat}{v z:Value}(h:(Instr.loadAt id v).run P w=.ok z w):(asAddr v >>=loadVar id).run P w=.ok z w:=by
 cases v with
 |pointer a=>
  cases a with
  |none=>simp[Instr.loadAt,Instr.sureAddr,stuck]at h
  |some a=>exact h
 |_=>simp[Instr.loadAt,Instr.sureAddr,stuck]at h
def UW(tmps:Array Value):ResultVar->Sem Value
 | .tmp t=>pure (tmps.getD t undef)
 | .cell a t=>do loadVar t (<-asAddr (tmps.getD a undef))
theorem ABV{E:Env}(hE:EnvOK P fr.dr E){N:Nat}{st:St}{a:Act}(hs:SimN P N fr st a w G):∀{l:List ResultVar} {ss:List SV},ME E.ty E.wr st l=some ss->
 ∃vs:List Value,(l.mapM (UW a.tmps)).run P w=.ok vs w/\
  vs.length=l.length/\ss.length=l.length/\∀(j:Nat) (s:SV) (v:Value),ss[j]?=some s->vs[j]?=some v->SR P w G s v:=by
 intro l;induction l with
 |nil=>
  intro ss h;cases h;exact⟨[],rfl,rfl,rfl,fun j s v h=>by simp at h⟩
 |cons r l ih=>
  intro ss h;cases r with
  |tmp t=>
   simp only[ME]at h;split at h
   ·rename_i ss' hss;cases h;obtain⟨vs,h1,h2,h3,h4⟩:=ih hss;refine⟨a.tmps.getD t undef::vs,?_,by simp[h2],by simp[h3],fun j s v hj hv=>?_⟩
    ·rw[List.mapM_cons];simp only[UW,Sem.run_bind,Sem.run_pure,Result.andThen_ok,h1]
    ·cases j with
     |zero=>cases hj;cases hv;exact hs.slot t
     |succ j=>exact h4 j s v (by simpa using hj) (by simpa using hv)
   ·cases h
  |cell ad t=>
   simp only[ME]at h;split at h
   ·rename_i u hu;split at h
    ·rename_i s0 hl;split at h
     ·rename_i ss' hss;cases h;obtain⟨vs,h1,h2,h3,h4⟩:=ih hss
      obtain⟨z,k1,k2⟩:∃z,(Instr.loadAt t (a.tmps.getD ad undef)).run P w=.ok z w/\SR P w G s0 z:=by
       cases hw:E.wr ad with
       |true=>rw[hw]at hl;exact wP (hE.ty _ _ hu) hs.mem.objs hl (hs.slot ad)
       |false=>rw[hw]at hl;exact wL (hE.ty _ _ hu) hs.mem.objs hl (hs.slot ad)
      have k1:=ABU k1;refine⟨z::vs,?_,by simp[h2],by simp[h3],fun j s v hj hv=>?_⟩
      ·rw[List.mapM_cons];have k1:(UW a.tmps (.cell ad t)).run P w=.ok z w:=k1;simp only[Sem.run_bind,Sem.run_pure,k1,Result.andThen_ok,h1]
      ·cases j with
       |zero=>cases hj;cases hv;exact k2
       |succ j=>exact h4 j s v (by simpa using hj) (by simpa using hv)
     ·cases h
    ·cases h
   ·cases h
theorem zG{E:Env}(hE:EnvOK P fr.dr E){N:Nat}{st:St}{a:Act}(hs:SimN P N fr st a w G){fn:Func}{ss:List SV}(h:ME E.ty E.wr st fn.results.toList=some ss):
 ∃(vs:List Value) (rv:Value),(results fn a.tmps).run P w=.ok rv w/\JP vs rv/\vs.length=fn.results.toList.length/\ss.length=fn.results.toList.length/\
  ∀(j:Nat) (s:SV) (v:Value),ss[j]?=some s->vs[j]?=some v->SR P w G s v:=by
 obtain⟨vs,h1,h2,h3,h4⟩:=ABV hE hs h
 have hrun:(results fn a.tmps).run P w=.ok (if h:vs.toArray.size=1 then vs.toArray[0]else .tuple vs.toArray) w:=by
  have h1':(fn.results.mapM (UW a.tmps)).run P w=.ok vs.toArray w:=by
   rw[Array.mapM_eq_mapM_toList];simp only[Sem.run_map,h1,Result.andThen_ok]
  unfold results
  have e:(fn.results.mapM fun| .tmp t=>(pure (a.tmps.getD t undef):Sem Value)| .cell ad t=>do loadVar t (<-asAddr (a.tmps.getD ad undef)))=fn.results.mapM (UW a.tmps):=by
   congr 1
  simp only[Sem.run_bind]
  erw[e,h1']
  rfl
 refine⟨vs,_,hrun,?_,h2,h3,h4⟩;rcases vs with _|⟨v,_|⟨v',vs⟩⟩
 ·rfl
 ·rfl
 ·simp[JP]
theorem ABW{slots:Nat->SV}{tmps:Array Value}(hs:∀t,SR P w G (slots t) (tmps.getD t undef)):∀{ps:List Sh} {i:Nat} {vals:List Value},vals.length=ps.length->
 (∀j v,vals[j]?=some v->FD (i+j) (GX ps i)=true->tmps.getD (i+j) undef=v)->
 (H2 ps ((List.range' i ps.length).map slots)).length=(GC ps vals).length/\
 ∀(j:Nat) (s:SV) (v:Value),(H2 ps ((List.range' i ps.length).map slots))[j]?=some s->(GC ps vals)[j]?=some v->SR P w G s v:=by
 intro ps
 have hlt:∀(ps:List Sh) (i j:Nat),FD j (GX ps i)=true->i<=j:=by
  intro ps;induction ps with
  |nil=>intro i j h;cases h
  |cons p ps ih=>
   intro i j h;have key:FD j (GX ps (i+1))=true->i<=j:=fun h=>by have:=ih _ _ h;omega
   have here:FD j (i::GX ps (i+1))=true->i<=j:=fun h=>by
    simp only[FD,BG]at h;rcases h with h|h
    ·have:=A3 h;omega
    ·exact key h
   cases p with
   |box c=>exact here h
   |io el t=>exact here h
   |bld el c=>cases c with
    |true=>exact key h
    |false=>exact here h
   |_=>exact key h
 induction ps with
 |nil=>intro i vals hl h;exact⟨rfl,fun j s v h=>by simp[H2]at h⟩
 |cons p ps ih=>
  intro i vals hl h;cases vals with
  |nil=>cases hl
  |cons v0 vals=>
   have hl':vals.length=ps.length:=by simpa using hl
   simp only[AD,List.range'_succ,CZ];cases hb:F3 p with
   |true=>
    have e1:H2 (p::ps) (slots i::(List.range' (i+1) ps.length).map slots)=slots i::H2 ps ((List.range' (i+1) ps.length).map slots):=by
     cases p<;>first|rfl|(cases hb;done)|(rename_i c0;cases c0<;>first|rfl|(cases hb;done))
    have e2:GC (p::ps) (v0::vals)=v0::GC ps vals:=by
     cases p<;>first|rfl|(cases hb;done)|(rename_i c0;cases c0<;>first|rfl|(cases hb;done))
    have e3:GX (p::ps) i=i::GX ps (i+1):=by
     cases p<;>first|rfl|(cases hb;done)|(rename_i c0;cases c0<;>first|rfl|(cases hb;done))
    rw[e1,e2];rw[e3]at h
    obtain ⟨h1,h2⟩:=ih (i:=i+1) hl' (fun j v hj hh=>by
     have:=h (j+1) v (by simpa using hj) (by
      simp only[FD,BG];right;rw[show i+(j+1)=i+1+j by omega];exact hh)
     rw[show i+1+j=i+(j+1) by omega];exact this)
    refine⟨by simp[h1],fun j s v hj hv=>?_⟩;cases j with
    |zero=>
     cases hj;cases hv;have:=h 0 v0 rfl (by simp[FD,CI]);rw[<-this];exact hs i
    |succ j=>exact h2 j s v (by simpa using hj) (by simpa using hv)
   |false=>
    have e1:H2 (p::ps) (slots i::(List.range' (i+1) ps.length).map slots)=H2 ps ((List.range' (i+1) ps.length).map slots):=by
     cases p<;>first|rfl|(cases hb;done)|(rename_i c0;cases c0<;>first|rfl|(cases hb;done))
    have e2:GC (p::ps) (v0::vals)=GC ps vals:=by
     cases p<;>first|rfl|(cases hb;done)|(rename_i c0;cases c0<;>first|rfl|(cases hb;done))
    have e3:GX (p::ps) i=GX ps (i+1):=by
     cases p<;>first|rfl|(cases hb;done)|(rename_i c0;cases c0<;>first|rfl|(cases hb;done))
    rw[e1,e2]
    exact ih (i:=i+1) hl' (fun j v hj hh=>by
     have:=h (j+1) v (by simpa using hj) (by rw[e3,show i+(j+1)=i+1+j by omega];exact hh);rw[show i+1+j=i+(j+1) by omega];exact this)
theorem SimN.frzE{wr:Nat->Bool}{N:Nat}{st:St}{a:Act}(hs:SimN P N fr st a w G)(l:List ResultVar):∃G',GLe w G w G'/\SimN P N fr (KZ wr st l) a w G':=by
 obtain⟨G',h1,h2⟩:=kM (fz:=LL st.sto (YQ wr st l)) hs.mem kN;exact⟨G',h1,fun t=>(hs.slots t).mono h1 fun _ _ _ _=>Iff.rfl,hs.defs,hs.size,hs.fix,hs.nogrd,h2,hs.drawn⟩
def O7(N:Nat)(ps:List Sh)(d:Nat):Bool:=Nat.blt d N && !(FD d (GX ps 0))
theorem ABX{dr:Bool}{E:Env}(hE:EnvOK P dr E)(hmix:P.follows .mixedOrders=true){f:FuncId}{fn:Func}{c:Code}{ps rs:List Sh}{F:TupR ps->Option (TupR (rs++ps.filter F3))}
 (hf:P.funcs[f]?=some fn)(hb:fn.body=some c)(hd:HY (O7 fn.ntmps ps) c=true)(hn:Nat.ble ps.length fn.ntmps=true)(hl:Nat.beq fn.results.toList.length rs.length=true)
 (hc:AllCuts P dr fn.ntmps (O7 fn.ntmps ps) (HN E c 0))(hF:∀v r,F v=some r->YR E fn ps rs v=some r):FunOK P f ⟨ps,rs,F,dr⟩:=by
 intro w I v args bs hm hsh hnd r hr;have hr:=hF v r hr;have hn:=C0 hn;have hl:=A3 hl;have hlen:args.length=ps.length:=hsh.length;let fr:Fr:=⟨(·∈bs),w,I,fun t=>if FD t (GX ps 0)then some (args.getD t undef)else none,dr⟩
 let tm:Array Value:=args.toArray++Array.replicate (fn.ntmps-args.toArray.size) undef
 let a0:Act:=⟨tm,[]⟩
 have hlow:∀t,t<args.length->tm.getD t undef=args.getD t undef:=by
  intro t ht;simp[tm,BJ,Array.getElem?_append_left,ht]
 have hbx:∀(ps:List Sh) (i j:Nat),FD j (GX ps i)=true->j<i+ps.length:=by
  intro ps;induction ps with
  |nil=>intro i j h;cases h
  |cons p ps ih=>
   intro i j h;have key:FD j (GX ps (i+1))=true->j<i+(ps.length+1):=fun h=>by have:=ih _ _ h;omega
   have here:FD j (i::GX ps (i+1))=true->j<i+(ps.length+1):=fun h=>by
    simp only[FD,BG]at h;rcases h with h|h
    ·have:=A3 h;omega
    ·exact key h
   cases p with
   |box c=>exact here h
   |io el t=>exact here h
   |bld el c=>cases c with
    |true=>exact key h
    |false=>exact here h
   |_=>exact key h
 have hargs:(List.range ps.length).map (fun t=>tm.getD t undef)=args:=by
  apply BW;intro j;rw[AK];by_cases h:j<ps.length
  ·rw[C1 h];simp only[BF];rw[hlow j (by omega),A2,A1 (by omega)];rfl
  ·rw[B1 (by simpa using h),B1 (by omega)];rfl
 have hfxok:∀d,O7 fn.ntmps ps d=true->d<fn.ntmps/\fr.fx d=none:=fun d hd=>by
  simp only[O7,A5,BS,BQ]at hd;refine⟨hd.1,?_⟩;show(if FD d (GX ps 0)=true then some (args.getD d undef)else none)=none;rw[hd.2];rfl
 obtain ⟨G0,hs0⟩:=kU (P:=P) (fr:=fr) (N:=fn.ntmps) (k:=⟨List.range ps.length,ps⟩) (v:=v) (a:=a0) (I:=I) rfl (by simp [a0,tm]; omega) (fun t v' h=>by
  have h:(if FD t (GX ps 0)=true then some (args.getD t undef)else none)=some v':=h;split at h
  ·rename_i hh;cases h;exact hlow t (by have:=hbx _ _ _ hh;omega)
  ·cases h) (After.refl hm) (fun _=>AM _) (by rw[hargs];exact hsh) hnd (fun b hb=>.inr hb)
 refine calls_of_wp hf hb ?_;unfold YR at hr;rw[hb]at hr
 have fin:∀(st':St) (a':Act) (w':World) (G':Gh),SimN P fn.ntmps fr st' a' w' G'->
  (match ME E.ty E.wr (KZ E.wr st' fn.results.toList) fn.results.toList with
   |some l=>JM E.fs (MC (KZ E.wr st' fn.results.toList).sto (rs++ps.filter F3) (l++H2 ps ((List.range ps.length).map (KZ E.wr st' fn.results.toList).slots))) (rs++ps.filter F3) (l++H2 ps ((List.range ps.length).map (KZ E.wr st' fn.results.toList).slots))
   |none=>none)=some r->
  a'.defers=[]/\∃v,(results fn a'.tmps).run P w'=.ok v w'/\∃rv vs I' bs',Ending.returned v=.returned rv/\vs.length=rs.length/\JP vs rv/\After (·∈bs) w I w' I'/\
   ShL P w' I' (rs++ps.filter F3) r (vs++GC ps args) bs'/\bs'.Nodup/\(∀b∈bs',b∈bs\/w.heap.size<=b)/\(fr.dr=true->w.drawn<=w'.drawn):=by
  intro st' a' w' G' hs' h;refine⟨hs'.defs,?_⟩;obtain⟨G1,_,hs'⟩:=hs'.frzE fn.results.toList;generalize KZ E.wr st' fn.results.toList=st' at h hs';split at h
  ·rename_i ss hss;obtain⟨vs,rv,h1,h2,h3,h4,h5⟩:=zG hE hs' hss
   obtain ⟨b1,b2⟩:=ABW (slots:=st'.slots) (tmps:=a'.tmps) hs'.slot (ps:=ps) (i:=0) (vals:=args) hlen (fun j v hj hh=>by
    rw[BT]at hh ⊢
    exact hs'.fix j v (by
     show(if FD j (GX ps 0)=true then some (args.getD j undef)else none)=some v;rw[if_pos hh,A2,hj];rfl))
   rw[<-List.range_eq_range']at b1 b2;have hss2:ss.length=vs.length:=by rw[h4,h3]
   obtain⟨G2,gle,hm2⟩:=UT hs'.mem (rs++ps.filter F3) (ss++H2 ps ((List.range ps.length).map st'.slots))
   obtain ⟨bs',k1,k2,k3⟩:=O6 hm2 hE.fs (vs:=vs++GC ps args) h (by rw [A7,A7,b1,hss2]) (fun j s v hj hv=>by
    by_cases hlt:j<ss.length
    ·rw[AW hlt]at hj;rw[AW (by omega)]at hv;exact(h5 j s v hj hv).mono gle
    ·have hge:ss.length<=j:=DR hlt;rw[AY hge]at hj;rw[AY (by omega),<-hss2]at hv;exact(b2 _ s v hj hv).mono gle)
   refine⟨rv,h1,rv,vs,G2.im,bs',rfl,by rw[h3,hl],h2,hm2.after,k1,k2,fun b hb=>?_,hs'.drawn⟩;obtain⟨k,_,o,ho,hbo⟩:=k3 b hb;rcases MG (hm2.objs k o ho) hbo with h|h
   ·exact .inr h
   ·exact .inl h
  ·cases h
 refine RW hE hmix hfxok c 0 _ a0 w G0 _ r _ hd (RV hc) hr hs0 fun e st' a' w' G' hs' hK=>?_;cases e with
 |normal=>exact fin st' a' w' G' hs' hK
 |ret=>exact fin st' a' w' G' hs' hK
 |exit i=>cases hK
end
def EL{α β:Type}(r:(α→Option β)→α→Option β):Nat→α→Option β
 |0=>fun _=>none
 |k+1=>r (EL r k)
def sub:Code->List Nat->Code
 |c,[]=>c
 | .seq a b,i::r=>bif Nat.beq i 0 then sub a r else sub b r
 | .cond _ a b,i::r=>bif Nat.beq i 0 then sub a r else sub b r
 | .block _ b,_::r=>sub b r
 | .loop b,_::r=>sub b r
 |_,_=>.skip
def kZ:Code->Operand
 | .cond c _ _=>c
 |_=>.tmp 0
def F0(f:Func):Code:=match f.body with
 |some c=>c
 |none=>.skip
def k_(P:Program)(l:List (Nat×Ty)):Bool:=l.all fun p=>(layB P p.2).1 p.1
def lA(P:Program)(l:List (Nat×Nat)):Bool:=l.all fun p=>match P.underlying p.1 with
 |some (.slice x)=>Nat.beq p.2 x
 |some (.map _ _)=>true
 |_=>false
def ZP(P:Program)(l:List (Nat×Nat))(i:Nat):Nat:=match FU l i with
 |some x=>x
 |none=>match P.underlying i with
  |some (.slice x)=>x
  |_=>0
def lB(P:Program)(l:List (Nat×Nat)):Bool:=l.all fun p=>match P.underlying p.1 with
 |some (.map x _)=>Nat.beq p.2 x
 |_=>false
def ZQ(P:Program)(l:List (Nat×Nat))(i:Nat):Nat:=match FU l i with
 |some x=>x
 |none=>match P.underlying i with
  |some (.map x _)=>x
  |_=>0
theorem P3{α:Type}:∀{l:List (Nat×α)} {i:Nat} {x:α},FU l i=some x->(i,x)∈l:=by
 intro l;induction l with
 |nil=>intro i x h;cases h
 |cons p r ih=>
  intro i x h;obtain⟨j,y⟩:=p;simp only[FU]at h;cases hb:Nat.beq i j with
  |true=>
   rw[hb]at h;have:=A3 hb;subst this;cases h;exact AN
  |false=>rw[hb]at h;exact AI _ (ih h)
section
variable{P:Program}
def FsOK(P:Program):List (Nat×FSpec)->Prop
 |[]=>True
 |p::r=>(FF P p.1/\FunOK P p.1 p.2)/\FsOK P r
def KsOK(P:Program):List (Nat×KSpec)->Prop
 |[]=>True
 |p::r=>(FF P p.1/\HX P p.1 p.2)/\KsOK P r
theorem KsOK.mem:∀{l:List (Nat×KSpec)},KsOK P l->∀f s,(f,s)∈l->FF P f/\HX P f s:=by
 intro l;induction l with
 |nil=>intro _ f s h;cases h
 |cons p r ih=>
  intro h f s hm;rcases B6.1 hm with rfl|hm
  ·exact h.1
  ·exact ih h.2 f s hm
theorem FsOK.mem:∀{l:List (Nat×FSpec)},FsOK P l->∀f sp,(f,sp)∈l->FF P f/\FunOK P f sp:=by
 intro l;induction l with
 |nil=>intro _ f sp h;cases h
 |cons p r ih=>
  intro h f sp hm;rcases B6.1 hm with rfl|hm
  ·exact h.1
  ·exact ih h.2 f sp hm
def UX:List (String×Nat×Nat)->String->Nat->Option Nat
 |[],_,_=>none
 |x::r,m,id=>bif x.1==m&&Nat.beq x.2.1 id then some x.2.2 else UX r m id
def MsOK(P:Program):List (String×Nat×Nat)->Prop
 |[]=>True
 |x::r=>(∀(v:Value) (w:World),(method (P.types.size+Made.depth) x.2.1 v x.1).run P w=.ok (x.2.2,v) w)/\MsOK P r
theorem MsOK.look:∀{l:List (String×Nat×Nat)},MsOK P l->∀m id f,UX l m id=some f->∀(v:Value) (w:World),(method (P.types.size+Made.depth) id v m).run P w=.ok (f,v) w:=by
 intro l;induction l with
 |nil=>intro _ m id f h;cases h
 |cons x r ih=>
  intro h m id f hf;unfold UX at hf;cases hb:(x.1==m&&Nat.beq x.2.1 id)with
  |false=>rw[hb]at hf;exact ih h.2 m id f hf
  |true=>
   rw[hb]at hf;simp only[A5,beq_iff_eq]at hb;have e2:=A3 hb.2;cases hf;rw[<-hb.1,<-e2];exact h.1
def lC(P:Program)(tys:List (Nat×Ty))(eqs:List Nat):Bool:=eqs.all fun i=>match FU tys i with
 |some t=>N6 P t i
 |none=>true
theorem zH{dr:Bool}{tys:List (Nat×Ty)}{els:List (Nat×Nat)}{fs:List (Nat×FSpec)}{ms:List (String×Nat×Nat)}{eqs:List Nat}{kys:List (Nat×Nat)}{kss:List (Nat×KSpec)}{dp:Nat->Nat}{cut:Nat->Option CSpec}{wr:Nat->Bool}(hp:Pins.P=P)(h1:k_ P tys=true)(h2:lA P els=true)(h3:FsOK P fs)(h4:MsOK P ms)(h5:lC P tys eqs=true)(h7:lB P kys=true)(h6:(!dr||(fs.all fun p=>p.2.dr)&&(kss.all fun p=>p.2.sp.dr))=true)(h8:KsOK P kss):
 EnvOK P dr ⟨FU tys,FU fs,cut,wr,ZP P els,UX ms,(fun t=>FD t eqs),dr,dp,ZQ P kys,FU kss⟩:=by
 refine⟨hp,fun h=>h,fun hd f sp h=>?_,fun id t h=>?_,fun id x h=>?_,fun f sp h=>h3.mem f sp (P3 h),h4.look,fun id t he ht=>?_,fun id x y h=>?_,fun f s h=>⟨h8.mem f s (P3 h),fun hd=>?_⟩⟩
 ·subst hd;simp only[BP,C6,A5]at h6;exact BR.1 h6.1 _ (P3 h)
 ·unfold k_ at h1;rw[BR]at h1;exact h1 _ (P3 h)
 ·unfold lA at h2;rw[BR]at h2;show ZP P els id=x;unfold ZP;cases hl:FU els id with
  |none=>simp only[h]
  |some y=>
   have:=h2 _ (P3 hl);simp only[h]at this;exact A3 this
 ·unfold lC at h5;rw[BR]at h5;have h6:=h5 id (O5.1 he);have ht:FU tys id=some t:=ht;rw[ht]at h6;exact h6
 ·unfold lB at h7;rw[BR]at h7;show ZQ P kys id=x;unfold ZQ;cases hl:FU kys id with
  |none=>simp only[h]
  |some y=>
   have:=h7 _ (P3 hl);simp only[h]at this;exact A3 this
 ·subst hd;simp only[BP,C6,A5]at h6;exact BR.1 h6.2 _ (P3 h)
theorem ABY{dr:Bool}{E:Env}(hE:EnvOK P dr E)(hmix:P.follows .mixedOrders=true){f:FuncId}{fn:Func}{c:Code}{ps rs:List Sh}{F:TupR ps->Option (TupR (rs++ps.filter F3))}{l:List (CSpec×Code)}
 (hf:P.funcs[f]?=some fn)(hnm:(fn.name== "runtime.NumGoroutine")=false)(hb:fn.body=some c)(hd:HY (O7 fn.ntmps ps) c=true)(hn:Nat.ble ps.length fn.ntmps=true)(hl:Nat.beq fn.results.toList.length rs.length=true)
 (hcs:HN E c 0=l)(hc:AllCuts P dr fn.ntmps (O7 fn.ntmps ps) l)(hF:∀v,YR E fn ps rs v=F v):FF P f/\FunOK P f ⟨ps,rs,F,dr⟩:=by
 subst hcs;exact⟨⟨fn,c,hf,hnm,hb⟩,ABX hE hmix hf hb hd hn hl hc fun v r h=>(hF v).trans h⟩
theorem ABZ{dr:Bool}{E:Env}(hE:EnvOK P dr E)(hmix:P.follows .mixedOrders=true){N n:Nat}{body:Code}{al:List (Nat×Nat)}{inn:Kp}{outs:List (Ex×Kp)}{wrs:List Nat}{r:(TupR inn.sh->Option (GT outs))->TupR inn.sh->Option (GT outs)}{l:List (CSpec×Code)}
 (hd:HY (IC N wrs) body=true)(hcs:HN E body n=l)(hc:AllCuts P dr N (IC N wrs) l)(hF:∀next v,jI E body n al inn outs next v=r next v)(m:Nat):
 EN P dr N ⟨inn,outs,wrs,EL r m,al,none,none⟩ (.loop body):=by
 subst hcs;exact ABT hE hmix hd hc (fun _=>rfl) (fun k v x h=>(hF _ v).trans h) m
theorem AB_{dr:Bool}{E:Env}(hE:EnvOK P dr E)(hmix:P.follows .mixedOrders=true){N n:Nat}{c:Operand}{x y:Code}{al:List (Nat×Nat)}{inn:Kp}{outs:List (Ex×Kp)}{wrs:List Nat}{F:TupR inn.sh->Option (GT outs)}{lx ly:List (CSpec×Code)}
 (hd:HY (IC N wrs) (.cond c x y)=true)(hcx:HN E x (n+1)=lx)(hcy:HN E y (n+1+J9 x)=ly)(hx:AllCuts P dr N (IC N wrs) lx)(hy:AllCuts P dr N (IC N wrs) ly)
 (hF:∀v,YP E c x y n al inn outs v=F v):EN P dr N ⟨inn,outs,wrs,F,al,none,none⟩ (.cond c x y):=by
 subst hcx hcy;exact ABS (s:=⟨inn,outs,wrs,F,al,none,none⟩) hE hmix hd hx hy rfl rfl fun v r h=>(hF v).trans h
theorem zI{dr:Bool}{f:FuncId}{e:Ty}{rs:List Sh}{F1:TupR [Sh.nilS]->Option (TupR (rs++[Sh.nilS].filter F3))}{F2:TupR [Sh.nns e]->Option (TupR (rs++[Sh.nns e].filter F3))}
 {F:TupR [Sh.val (.slice e)]->Option (TupR (rs++[Sh.val (.slice e)].filter F3))}
 (h1:FF P f/\FunOK P f ⟨[.nilS],rs,F1,dr⟩)(h2:FF P f/\FunOK P f ⟨[.nns e],rs,F2,dr⟩)(e1:F1 ()=F ([]:List e.T))(e2:∀x,F2 x=F x):FF P f/\FunOK P f ⟨[.val (.slice e)],rs,F,dr⟩:=by
 refine⟨h1.1,fun w I v args bs hm hsh hnd r hr=>?_⟩;obtain⟨v0,rfl,hv,rfl⟩:=hsh;obtain⟨c,hc,a,cap,hca,hlen,hnil,had⟩:=hv;have hv0:v0=.slice a (show List e.T from v).length cap:=A8.1 ((show c=[v0]from hc).symm.trans hca);cases a with
 |none=>
  obtain⟨hx,rfl⟩:=hnil rfl;have hx:v=([]:List e.T):=hx;subst hx;exact h1.2 w I () [v0] [] hm ⟨v0,rfl,rfl,by rw[hv0];rfl⟩ B8 r (e1.trans hr)
 |some ad=>
  exact h2.2 w I v [v0] [] hm ⟨v0,rfl,rfl,⟨some ad,cap,by rw[hv0],hlen,hnil,had⟩,ad,_,cap,by rw[hv0]⟩ B8 r ((e2 v).trans hr)
end
section
variable{dr:Bool}
variable{P:Program}{fr:Fr}{free free':Nat->Prop}{self:Nat}{σ σ':SSo}{w w':World}{G G':Gh}{I:Im}
theorem SimN.frzX{N:Nat}{st:St}{a:Act}(hs:SimN P N fr st a w G)(k:Kp)(vs:List SV):∃G',GLe w G w G'/\SimN P N fr (iD k vs st) a w G':=by
 obtain⟨G',h1,h2⟩:=UT hs.mem k.sh vs;exact⟨G',h1,fun t=>(hs.slots t).mono h1 fun _ _ _ _=>Iff.rfl,hs.defs,hs.size,hs.fix,hs.nogrd,h2,hs.drawn⟩
theorem zJ{N:Nat}{fs:Nat->Option FSpec}(hE:∀f sp,fs f=some sp->FF P f/\FunOK P f sp){k:Kp}{x:KX}{st:St}{v:TupR k.sh}{a:Act}{pv:List Value}(hs:SimN P N fr st a w G)
 (hx:KxOK w G.im (fun t=>a.tmps.getD t undef) pv x)(h:OR fs k x st=some v):
 ∃(G1:Gh) (bs:List Nat),GLe w G w G1/\After fr.gv fr.w0 fr.i0 w G1.im/\ShL P w G1.im k.sh v ((k.tm.map fun t=>a.tmps.getD t undef)++pv) bs/\bs.Nodup/\∀b∈bs,fr.owned b:=by
 unfold OR at h;split at h
 ·rename_i vs hvs;obtain⟨e1,e2⟩:=z7 (fun k o h=>hs.mem.objs k o h) rfl (fun t=>hs.sr (.tmp t)) hx hvs;obtain⟨G1,gle,hs1⟩:=hs.frzX k vs;obtain⟨bs,p1,p2,p3⟩:=O6 hs1.mem hE (vs:=(k.tm.map fun t=>a.tmps.getD t undef)++pv) h e1 (fun j s v h1 h2=>(e2 j s v h1 h2).mono gle);refine⟨G1,bs,gle,hs1.mem.after,p1,p2,fun b hb=>?_⟩;obtain⟨k',_,o,ho,hbo⟩:=p3 b hb;exact MG (hs1.mem.objs k' o ho) hbo
 ·cases h
theorem lD{wrs bs:List Nat}{a0 a:Act}{w0:World}{N:Nat}{st:St}{x:KX}{pv:List Value}(hx:KxOK w0 I (fun t=>a0.tmps.getD t undef) pv x)(hxf:LM wrs x.kn=true)(hs:SimN P N (KK dr wrs bs a0 w0 I) st a w G):
 KxOK w G.im (fun t=>a.tmps.getD t undef) pv x:=by
 refine hx.ext hs.mem.after.ext fun q hq=>?_;obtain⟨q1,q2⟩:=zC hxf q hq;exact⟨hs.fix _ _ (by simp[KK,q1]),fun c hc hlt=>hs.fix _ _ (by simp[KK,q2 c hc hlt])⟩
theorem ABa{E:Env}(hE:EnvOK P fr.dr E){N:Nat}{e:Ex}{st:St}{a:Act}{x:KX}{pv:List Value}(hs:SimN P N fr st a w G)(hx:KxOK w G.im (fun t=>a.tmps.getD t undef) pv x){bs:List Nat}(hgv:∀b,fr.gv b->b∈bs):
 ∀{l:List (Ex×Kp)} {y:GT l},OU E.fs x l e st=some y->∃I,After fr.gv fr.w0 fr.i0 w I/\ZM P w I a (IB e) fr.w0.heap.size bs pv l y:=by
 have hsame:∀{e e':Ex},outPut.sameEx e e'=true->e'=e:=by
  intro e e' h;cases e<;>cases e'<;>first|rfl|cases h|skip
  have h:Nat.beq _ _=true:=h;rw[A3 h]
 have one:∀{o:Ex×Kp} {y:TupR o.2.sh},outPut.sameEx o.1 e=true->OR E.fs o.2 x st=some y->
  ∃I,After fr.gv fr.w0 fr.i0 w I/\IB e=IB o.1/\∃bs',ShL P w I o.2.sh y ((o.2.tm.map fun t=>a.tmps.getD t undef)++pv) bs'/\bs'.Nodup/\∀b∈bs',b∈bs\/fr.w0.heap.size<=b:=by
  intro o y h1 h2;obtain⟨G1,bs',_,k0,k1,k2,k3⟩:=zJ hE.fs hs hx h2;exact⟨G1.im,k0,by rw[hsame h1],bs',k1,k2,fun b hb=>(k3 b hb).elim .inr fun h=>.inl (hgv b h)⟩
 intro l;induction l with
 |nil=>intro y h;cases h
 |cons o r ih=>
  intro y h;cases r with
  |nil=>
   simp only[OU]at h;cases hb:outPut.sameEx o.1 e with
   |false=>rw[hb]at h;cases h
   |true=>rw[hb]at h;exact one hb h
  |cons p r=>
   simp only[OU]at h;cases hb:outPut.sameEx o.1 e with
   |false=>
    rw[hb]at h;simp only[AC]at h;cases hr:OU E.fs x (p::r) e st with
    |none=>rw[hr]at h;cases h
    |some z=>
     rw[hr]at h;cases h;exact ih hr
   |true=>
    rw[hb]at h;simp only[AA]at h;cases hr:OR E.fs o.2 x st with
    |none=>rw[hr]at h;cases h
    |some z=>
     rw[hr]at h;cases h;exact one hb hr
theorem zK{E:Env}(hE:EnvOK P dr E){N:Nat}{s:CSpec}{y:GT s.outs}{x:KX}{pv:List Value}{bs:List Nat}{a0 a:Act}{w0:World}{e:Ex}{st:St}(hx:KxOK w0 I (fun t=>a0.tmps.getD t undef) pv x)(hxf:LM s.wrs x.kn=true)
 (hs:SimN P N (KK dr s.wrs bs a0 w0 I) st a w G)(h:OU E.fs x s.outs e st=some y):kT P dr N s pv y a0 w0 I bs (IB e) a w:=
 ⟨hs.defs,hs.size,fun t ht=>hs.fix t _ (by simp[KK,ht]),hs.drawn,ABa hE hs (lD hx hxf hs) (fun _ h=>h) h⟩
theorem zL{E:Env}(hE:EnvOK P dr E)(hmix:P.follows .mixedOrders=true){N n:Nat}{body:Code}{x:KX}{inn:Kp}{outs:List (Ex×Kp)}{wrs:List Nat}{r:(TupR inn.sh->Option (GT outs))->TupR inn.sh->Option (GT outs)}{l:List (CSpec×Code)}
 (hlow:LN x=true)(hxf:LM wrs x.kn=true)(hd:HY (IC N wrs) body=true)(hcs:HN E body n=l)(hc:AllCuts P dr N (IC N wrs) l)(hF:∀next v,A8R E body n x inn outs next v=r next v)(m:Nat):
 EN P dr N ⟨inn,outs,wrs,EL r m,[],none,some x⟩ (.loop body):=by
 subst hcs;intro w0 I a0 v0 bs pv hm hda hN hx hsh hnd y h
 obtain ⟨G0,hs0⟩:=kX (fr:=KK dr wrs bs a0 w0 I) hda hN (fun t v h=>by
  have h:(if FD t wrs=true then none else some (a0.tmps.getD t undef))=some v:=h;split at h
  ·cases h
  ·exact A4 h) (After.refl hm) (fun _=>AM _) hx hlow hsh hnd (fun b hb=>.inr hb)
 refine wp_loop_rounds m ?_
 have key:∀k v a w G,EL r k v=some y->SimN P N (KK dr wrs bs a0 w0 I) (QY inn x v) a w G->Code.rounds P body (kT P dr N ⟨inn,outs,wrs,EL r m,[],none,some x⟩ pv y a0 w0 I bs) k a w:=by
  intro k;induction k with
  |zero=>intro v a w G h;cases h
  |succ k ih=>
   intro v a w G h hs;rw[rounds_succ];refine RW hE hmix ZN _ _ _ a w G _ y _ hd (RV hc) ((hF _ v).trans h) hs fun e st' a' w' G' hs' hK=>kS ?_;cases e with
   |normal=>
    simp only at hK;split at hK
    ·rename_i v' hv';obtain⟨G1,bs',_,k0,k1,k2,k3⟩:=zJ hE.fs hs' (lD hx hxf hs') hv';obtain⟨G'',hs''⟩:=kX hs'.defs hs'.size hs'.fix k0 hs'.drawn ((lD hx hxf hs').ext (by assumption:GLe w' G' w' G1).ext fun q _=>⟨rfl,fun _ _ _=>rfl⟩) hlow k1 k2 k3;exact ih v' a' w' G'' hK hs''
    ·cases hK
   |exit i=>exact zK (s:=⟨inn,outs,wrs,EL r m,[],none,some x⟩) hE hx hxf hs' hK
   |ret=>exact zK (s:=⟨inn,outs,wrs,EL r m,[],none,some x⟩) hE hx hxf hs' hK
 exact key m v0 a0 w0 G0 h hs0
def P4:List Kn->List Nat
 |[]=>[]
 |q::r=>q.p::(q.caps++P4 r)
def ZR(N n:Nat)(ps:List Sh)(x:KX)(d:Nat):Bool:=Nat.blt d N && !(Nat.blt d n&&(FD d (GX ps 0)||FD d (P4 x.kn)))
theorem ABb:∀{kn:List Kn} {q:Kn},q∈kn->q.p∈P4 kn/\∀c∈q.caps,c∈P4 kn:=by
 intro kn;induction kn with
 |nil=>intro q h;cases h
 |cons q' kn ih=>
  intro q h;rcases B6.1 h with rfl|h
  ·exact⟨AN,fun c hc=>AI _ (AS _ hc)⟩
  ·obtain⟨h1,h2⟩:=ih h;exact⟨AI _ (AU _ h1),fun c hc=>AI _ (AU _ (h2 c hc))⟩
theorem ABc:∀{ps:List Sh} {vs:List SV} {vals:List Value},vs.length=ps.length->vals.length=ps.length->(∀(j:Nat) (s:SV) (v:Value),vs[j]?=some s->vals[j]?=some v->SR P w G s v)->
 (H2 ps vs).length=(GC ps vals).length/\∀(j:Nat) (s:SV) (v:Value),(H2 ps vs)[j]?=some s->(GC ps vals)[j]?=some v->SR P w G s v:=by
 intro ps;induction ps with
 |nil=>intro vs vals h1 h2 _;exact⟨by cases vs<;>cases vals<;>rfl,fun j s v h=>by cases vs<;>simp[H2]at h⟩
 |cons p ps ih=>
  intro vs vals h1 h2 hs;cases vs with
  |nil=>cases h1
  |cons s0 vs=>
   cases vals with
   |nil=>cases h2
   |cons v0 vals=>
    obtain⟨i1,i2⟩:=ih (by simpa using h1) (by simpa using h2) (fun j s v h3 h4=>hs (j+1) s v (by simpa using h3) (by simpa using h4));cases hb:F3 p with
    |true=>
     have e1:H2 (p::ps) (s0::vs)=s0::H2 ps vs:=by
      cases p<;>first|rfl|(cases hb;done)|(rename_i c0;cases c0<;>first|rfl|(cases hb;done))
     have e2:GC (p::ps) (v0::vals)=v0::GC ps vals:=by
      cases p<;>first|rfl|(cases hb;done)|(rename_i c0;cases c0<;>first|rfl|(cases hb;done))
     rw[e1,e2];refine⟨by simp[i1],fun j s v hj hv=>?_⟩;cases j with
     |zero=>cases hj;cases hv;exact hs 0 _ _ rfl rfl
     |succ j=>exact i2 j s v (by simpa using hj) (by simpa using hv)
    |false=>
     have e1:H2 (p::ps) (s0::vs)=H2 ps vs:=by
      cases p<;>first|rfl|(cases hb;done)|(rename_i c0;cases c0<;>first|rfl|(cases hb;done))
     have e2:GC (p::ps) (v0::vals)=GC ps vals:=by
      cases p<;>first|rfl|(cases hb;done)|(rename_i c0;cases c0<;>first|rfl|(cases hb;done))
     rw[e1,e2];exact⟨i1,i2⟩
theorem ZS{E:Env}(hE:EnvOK P dr E)(hmix:P.follows .mixedOrders=true){f:FuncId}{fn:Func}{c:Code}{ps rs:List Sh}{n:Nat}{x:KX}{F:TupR ps->Option (TupR (rs++ps.filter F3))}{l:List (CSpec×Code)}
 (hf:P.funcs[f]?=some fn)(hnm:(fn.name== "runtime.NumGoroutine")=false)(hb:fn.body=some c)(hlow:LN x=true)(hsum:Nat.beq ps.length (n+x.m)=true)(hd:HY (ZR fn.ntmps n ps x) c=true)(hn:Nat.ble n fn.ntmps=true)(hl:Nat.beq fn.results.toList.length rs.length=true)
 (hlt:(P4 x.kn).all (fun c=>Nat.blt c n||Nat.ble 1000000 c)=true)(hcs:HN E c 0=l)(hc:AllCuts P dr fn.ntmps (ZR fn.ntmps n ps x) l)(hF:∀v,v_ E fn ps rs n x v=F v):FF P f/\HX P f ⟨⟨ps,rs,F,dr⟩,n,x⟩:=by
 subst hcs;refine⟨⟨fn,c,hf,hnm,hb⟩,?_⟩;intro w I v args pv bs hal hm hx hsh hnd r hr;have hr:=(hF v).trans hr;have hn:=C0 hn;have hl:=A3 hl;have hsum:=A3 hsum;have hal:args.length=n:=hal;have hpl:pv.length=x.m:=hx.1;have hext:(args++pv).length=ps.length:=by rw[A7,hal,hpl,hsum]
 let isF:Nat->Bool:=fun t=>Nat.blt t n&&(FD t (GX ps 0)||FD t (P4 x.kn))
 let fr:Fr:=⟨(·∈bs),w,I,fun t=>if isF t then some (args.getD t undef)else none,dr⟩
 let tm:Array Value:=args.toArray++Array.replicate (fn.ntmps-args.toArray.size) undef
 let a0:Act:=⟨tm,[]⟩
 have hlow':∀t,t<args.length->tm.getD t undef=args.getD t undef:=by
  intro t ht;simp[tm,BJ,Array.getElem?_append_left,ht]
 have htm:∀t,tm.getD t undef=args.getD t undef:=by
  intro t;rcases CG t args.length with h|h
  ·exact hlow' t h
  ·rw[A2,B1 h];simp only[tm,BJ];rw[Array.getElem?_append_right (by simpa using h),Array.getElem?_replicate];split<;>rfl
 have hargs:((List.range n).map fun t=>tm.getD t undef)=args:=by
  apply BW;intro j;rw[AK];by_cases h:j<n
  ·rw[C1 h];simp only[BF];rw[hlow' j (by omega),A2,A1 (by omega)];rfl
  ·rw[B1 (by simpa using h),B1 (by omega)];rfl
 have hfxok:∀d,ZR fn.ntmps n ps x d=true->d<fn.ntmps/\fr.fx d=none:=fun d hd=>by
  simp only[ZR,A5,BS,BQ]at hd;refine⟨hd.1,?_⟩;show(if isF d=true then some (args.getD d undef)else none)=none;simp only[isF,hd.2,CH,CK]
 have hx0:KxOK w I (fun t=>a0.tmps.getD t undef) pv x:=hx.ext (Ext.refl _ _) fun q _=>⟨htm _,fun c _ _=>htm c⟩
 obtain ⟨G0,hs0⟩:=kX (P:=P) (fr:=fr) (N:=fn.ntmps) (k:=⟨List.range n,ps⟩) (x:=x) (v:=v) (a:=a0) (I:=I) rfl (by simp [a0,tm]; omega) (fun t v' h=>by
  have h:(if isF t=true then some (args.getD t undef)else none)=some v':=h;split at h
  ·cases h;exact htm t
  ·cases h) (After.refl hm) (fun _=>AM _) hx0 hlow (by rw[hargs];exact hsh) hnd (fun b hb=>.inr hb)
 have hkeep:∀{st':St} {a':Act} {w':World} {G':Gh},SimN P fn.ntmps fr st' a' w' G'->KxOK w' G'.im (fun t=>a'.tmps.getD t undef) pv x:=by
  intro st' a' w' G' hs';refine hx.ext hs'.mem.after.ext fun q hq=>?_;obtain⟨k1,k2⟩:=ABb hq;rw[BR]at hlt
  have fixd:∀c,c∈P4 x.kn->c<1000000->a'.tmps.getD c undef=args.getD c undef:=by
   intro c hc hcl;refine hs'.fix c _ ?_;have h1:=hlt c hc;simp only[BG,BS]at h1
   have h2:c<n:=by
    rcases h1 with h1|h1
    ·exact h1
    ·have:=C0 h1;omega
   show(if isF c=true then some (args.getD c undef)else none)=_;rw[if_pos (by simp[isF,h2,O5.2 hc])]
  exact⟨fixd _ k1 (zA hlow q hq),fun c hc hcl=>fixd c (k2 c hc) hcl⟩
 have hbx:∀(ps:List Sh) (i j:Nat),FD j (GX ps i)=true→j<i+ps.length:=by
  intro ps;induction ps with
  |nil=>intro i j h;cases h
  |cons p ps ih=>
   intro i j h;have key:FD j (GX ps (i+1))=true->j<i+(ps.length+1):=fun h=>by have:=ih _ _ h;omega
   have here:FD j (i::GX ps (i+1))=true->j<i+(ps.length+1):=fun h=>by
    simp only[FD,BG]at h;rcases h with h|h
    ·have:=A3 h;omega
    ·exact key h
   cases p with
   |box c=>exact here h
   |io el t=>exact here h
   |bld el c=>cases c with
    |true=>exact key h
    |false=>exact here h
   |_=>exact key h
 rw[show(args.toArray:Array Value)=args.toArray from rfl];refine calls_of_wp hf hb ?_;unfold v_ at hr;rw[hb]at hr
 have fin:∀(st':St) (a':Act) (w':World) (G':Gh),SimN P fn.ntmps fr st' a' w' G'->
  (match ME E.ty E.wr (KZ E.wr st' fn.results.toList) fn.results.toList with
   |some l=>match TQ ⟨List.range n,ps⟩ x (KZ E.wr st' fn.results.toList)with
    |some vs=>JM E.fs (MC (KZ E.wr st' fn.results.toList).sto (rs++ps.filter F3) (l++H2 ps vs)) (rs++ps.filter F3) (l++H2 ps vs)
    |none=>none
   |none=>none)=some r->
  a'.defers=[]/\∃v,(results fn a'.tmps).run P w'=.ok v w'/\∃rv vs I' bs',Ending.returned v=.returned rv/\vs.length=rs.length/\JP vs rv/\After (·∈bs) w I w' I'/\
   ShL P w' I' (rs++ps.filter F3) r (vs++GC ps (args++pv)) bs'/\bs'.Nodup/\(∀b∈bs',b∈bs\/w.heap.size<=b)/\(fr.dr=true->w.drawn<=w'.drawn):=by
  intro st' a' w' G' hs' h;refine⟨hs'.defs,?_⟩;obtain⟨G1,_,hs'⟩:=hs'.frzE fn.results.toList;generalize KZ E.wr st' fn.results.toList=st' at h hs';split at h
  ·rename_i ss hss;split at h
   ·rename_i vx hvx;obtain⟨vs,rv,h1,h2,h3,h4,h5⟩:=zG hE hs' hss;have hss2:ss.length=vs.length:=by rw[h4,h3]
    obtain⟨e1,e2⟩:=z7 (fun k o h=>hs'.mem.objs k o h) rfl (fun t=>hs'.sr (.tmp t)) (hkeep hs') hvx
    have hbv:GC ps (((List.range n).map fun t=>a'.tmps.getD t undef)++pv)=GC ps (args++pv):=by
     have gen:∀(ps':List Sh) (i:Nat) (l1 l2:List Value),l1.length=l2.length->(∀j v1 v2,FD (i+j) (GX ps' i)=true->l1[j]?=some v1->l2[j]?=some v2->v1=v2)->GC ps' l1=GC ps' l2:=by
      intro ps';induction ps' with
      |nil=>intro i l1 l2 _ _;cases l1<;>cases l2<;>rfl
      |cons p ps' ih=>
       intro i l1 l2 hll h;cases l1 with
       |nil=>
        cases l2 with
        |nil=>rfl
        |cons _ _=>cases hll
       |cons v1 l1=>
        cases l2 with
        |nil=>cases hll
        |cons v2 l2=>
         have hll':l1.length=l2.length:=by simpa using hll
         cases hbp:F3 p with
         |true=>
          have q1:∀v l,GC (p::ps') (v::l)=v::GC ps' l:=by
           intro v l;cases p<;>first|rfl|(cases hbp;done)|(rename_i c0;cases c0<;>first|rfl|(cases hbp;done))
          have q2:GX (p::ps') i=i::GX ps' (i+1):=by
           cases p<;>first|rfl|(cases hbp;done)|(rename_i c0;cases c0<;>first|rfl|(cases hbp;done))
          rw[q1,q1];rw[q2]at h;have e0:v1=v2:=h 0 v1 v2 (by simp[FD,CI]) rfl rfl
          rw [e0,ih (i+1) l1 l2 hll' fun j u1 u2 hh hj1 hj2=>h (j+1) u1 u2 (by
           simp only[FD,BG];right;rw[show i+(j+1)=i+1+j by omega];exact hh) (by simpa using hj1) (by simpa using hj2)]
         |false=>
          have q1:∀v l,GC (p::ps') (v::l)=GC ps' l:=by
           intro v l;cases p<;>first|rfl|(cases hbp;done)|(rename_i c0;cases c0<;>first|rfl|(cases hbp;done))
          have q2:GX (p::ps') i=GX ps' (i+1):=by
           cases p<;>first|rfl|(cases hbp;done)|(rename_i c0;cases c0<;>first|rfl|(cases hbp;done))
          rw[q1,q1];rw[q2]at h;exact ih (i+1) l1 l2 hll' fun j u1 u2 hh hj1 hj2=>h (j+1) u1 u2 (by rw[show i+(j+1)=i+1+j by omega];exact hh) (by simpa using hj1) (by simpa using hj2)
     refine gen ps 0 _ _ (by simp[hal]) fun j v1 v2 hh hj1 hj2=>?_;rw[BT]at hh;rcases CG j n with hjn|hjn
     ·rw[AW (by simpa using hjn),AK,C1 hjn]at hj1;rw[AW (by omega)]at hj2
      have hfix:=hs'.fix j (args.getD j undef) (by
       show(if isF j=true then some (args.getD j undef)else none)=_;rw[if_pos (by simp[isF,hjn,hh])])
      simp only[BF,AO]at hj1;rw[<-hj1,hfix,A2,hj2];rfl
     ·rw[AY (by simpa using hjn)]at hj1;rw[AY (by omega)]at hj2;simp only[AL,CW]at hj1;rw[hal]at hj2;rw[hj1]at hj2;exact A4 hj2
    obtain⟨b1,b2⟩:=ABc (ps:=ps) (vs:=vx) (vals:=((List.range n).map fun t=>a'.tmps.getD t undef)++pv) (by rw[e1];simp[hpl,hsum]) (by simp[hpl,hsum]) e2;rw[hbv]at b1 b2;obtain⟨G2,gle,hm2⟩:=UT hs'.mem (rs++ps.filter F3) (ss++H2 ps vx)
    obtain⟨bs',k1,k2,k3⟩:=O6 hm2 hE.fs (vs:=vs++GC ps (args++pv)) h (by rw[A7,A7,b1,hss2])
     (fun j s v hj hv=>(ZC hss2 h5 b2 j s v hj hv).mono gle)
    refine⟨rv,h1,rv,vs,G2.im,bs',rfl,by rw[h3,hl],h2,hm2.after,k1,k2,fun b hb=>?_,hs'.drawn⟩;obtain⟨k,_,o,ho,hbo⟩:=k3 b hb;rcases MG (hm2.objs k o ho) hbo with h|h
    ·exact .inr h
    ·exact .inl h
   ·cases h
  ·cases h
 refine RW (fr:=fr) hE hmix hfxok c 0 _ a0 w G0 _ r _ hd (RV hc) hr hs0 fun e st' a' w' G' hs' hK=>?_;cases e with
 |normal=>exact fin st' a' w' G' hs' hK
 |ret=>exact fin st' a' w' G' hs' hK
 |exit i=>cases hK
end
end Go.Ev
