/-
  The evaluator's functions, second part: loops, branches, whole functions, closures that call themselves.
-/
import Derived.Test.YtloinlpkjpmnbaaGreatDoorE3
import Derived.Orders
import Derived.LoopN
import Derived.KernelRfl
set_option linter.unusedVariables false
set_option linter.unusedSimpArgs false
set_option linter.unusedSectionVars false
set_option maxRecDepth 100000
namespace Go.Ev
variable{k inn:Kp}{n t j N i n0:Nat}{tk:List (Nat×Bool)}{g dr:Bool}{s:SV}{v:Value}{a a':Act}{sl sl0:Nat->SV}{x:KX}{o:Oper}{all ops:Array Oper}{dst:Option Nat}{u:Upd}{E:Env}{D:Nat->Prop}{K:Act->World->Prop}{Q:Exit->Act->World->Prop}{Ω:Type}{S ok:Nat->Bool}{st:St}{cl:List (List Nat×List Nat)}{σ0:SSo}{c body:Code}{e:Ex}{bs wrs ks tm:List Nat}{al ky:List (Nat×Nat)}{fs:Nat->Option FSpec}{pv:List Value}{tv:Nat->Value}{ps rs:List Sh}{svs:List SV}{w0:World}{outs:List (Ex×Kp)}{fn:Func}{f:FuncId}{l:List (CSpec×Code)}
variable [Pins]
section
variable{P:Program}{fr:Fr}{free free':Nat->Prop}{self:Nat}{σ σ':SSo}{w w':World}{G G':Gh}{I:Im}
theorem AFq{k:IntKind}{n:Int}(h:cC k n=true):GK k n:=by
 simp only[cC,A6,AW]at h;exact h
theorem SR.undef(v:Value):SR P w G .undef v:=⟨[v],rfl,trivial⟩
theorem A2b(v:Value):SR P w G (cD v) v:=by
 unfold cD;split
 .exact SR.mk_bool _
 .grind[cC,SR.mk_int,AFq,SR.undef]
 .rename_i s;cases h:Nat.ble s.data.toList.length 281474976710656 with
  |true=>exact SR.mk_str (C9 h)
  |false=>exact SR.undef _
 .exact⟨_,rfl,rfl⟩
 .exact⟨_,rfl,rfl⟩
 .exact⟨_,rfl,rfl⟩
 .exact⟨_,rfl,rfl⟩
 .exact⟨_,rfl,rfl⟩
 .exact SR.undef _
theorem SR.not_grd(h:SR P w G (.grd tk g s) v):False:=by
 obtain⟨_,_,h⟩:=h;exact h
theorem SR.strip(h:SR P w G s v):SR P w G (s.strip tk) v:=by
 cases s<;>first|exact h|exact h.not_grd.elim
theorem SR.slotOK(h:SR P w G s v):SlotOK P w G a s v:=by
 cases s<;>first|exact h|exact h.not_grd.elim
theorem AFr{t:Nat×Bool}:∀{tk:List (Nat×Bool)},XO t tk=true->t∈tk:=by
 intro tk;induction tk with
 |nil=>intro h;cases h
 |cons u r i=>
  intro h;simp only[XO,BK,A6]at h;grind[Nat.eq_of_beq_eq_true,Prod.ext,List.mem_cons_self,List.mem_cons_of_mem]
theorem SlotOK.strip(h:SlotOK P w G a s v)(hk:holds a tk):SR P w G (s.strip tk) v:=by
 cases s with
 |grd b g s=>
  simp only[SV.strip];cases d:b.all (XO · tk)with
  |false=>exact SR.undef _
  |true=>
   rw[BV]at d;exact(h.1 λt e=>hk t (AFr (d t e))).2
 |_=>exact h
theorem SlotOK.mono(h:SlotOK P w G a s v)(e:GLe w G w' G')(b:∀tk g i,s=.grd tk g i->(holds a' tk<->holds a tk)):SlotOK P w' G' a' s v:=by
 cases s with
 |grd tk g s=>
  have b:=b tk g s rfl;exact⟨λd=>⟨(h.1 (b.1 d)).1,(h.1 (b.1 d)).2.mono e⟩,λd=>h.2 λhk=>d (b.2 hk)⟩
 |_=>exact SR.mono h e
theorem A2c{x:Operand}(h:∀t,x=.tmp t->SlotOK P w G a (sl t) (a.tmps.getD t undef))(hk:holds a tk):
 SR P w G ((GR sl x).strip tk) (a.eval x):=by
 cases x with
 |tmp t=>exact(h t rfl).strip hk
 |const v=>exact(A2b v).strip
 |func f=>exact⟨_,rfl,#[],rfl,rfl⟩
 |global g=>exact SR.undef _
def KA(all:Array Oper)(o:Oper):List Nat:=match o.guard with
 |some (j,_)=>match all[j]? with
  |some p=>p.dst.toList
  |none=>[]
 |none=>[]
def eL(o:Oper):List Nat:=o.op.operands.toList.filterMap λ| .tmp t=>some t|_=>none
theorem AFs(h:Operand.tmp t∈o.op.operands):t∈eL o:=by
 unfold eL;rw[List.mem_filterMap];exact⟨.tmp t,by simpa using h,rfl⟩
theorem RV{b:Bool}:holds a ((t,b)::tk)<->a.tmps.getD t undef=.bool b/\holds a tk:=by
 constructor
 .intro h;exact⟨h _ AL,λp d=>h p (AP _ d)⟩
 .intro h p d;rcases B2.1 d with rfl|d
  .exact h.1
  .exact h.2 p d
theorem RW(a:Act):holds a []:=λ_ h=>ol
theorem AFt(b:Bool):undef≠.bool b:=oq
theorem AFu{p:Oper}{b:Bool}(d:o.guard=some (j,b))(e:all[j]?=some p)(i:p.dst=some t):
 Region.wanted o (yielded all a.tmps)=true<->a.tmps.getD t undef=.bool b:=by
 unfold Region.wanted yielded;simp only[d,e,A0,i];cases h:a.tmps[t]? with
 |none=>simp[h,undef]
 |some v=>
  have:a.tmps.getD t undef=v:=by simp[h]
  grind
theorem AFv(h:PV all sl o=some (tk,g))
 (E:∀t∈KA all o,SlotOK P w G a (sl t) (a.tmps.getD t undef)):
 (Region.wanted o (yielded all a.tmps)=true<->holds a tk)/\(holds a tk->g=true)/\(o.guard=none->tk=[])/\
  ∀p∈tk,p.1∈KA all o\/∃t∈KA all o,∃e A H,sl t=.grd e A H/\p∈e:=by
 unfold PV at h;split at h
 .rename_i k;simp only[AO,DF]at h;obtain⟨rfl,rfl⟩:=h;exact⟨by simp[Region.wanted,k,RW],λ_=>rfl,λ_=>rfl,λp l=>by cases l⟩
 .rename_i j b k;split at h
  .rename_i p l;split at h
   .rename_i t B;have x:KA all o=[t]:=by simp[KA,k,l,B]
    have d:=E t (by rw[x];simp);have z:=AFu (a:=a) k l B;split at h
    .rename_i c s;simp only[AO,DF]at h;obtain⟨rfl,rfl⟩:=h;rw[s]at d;have y:=SR.bool d;refine⟨by rw[z,RV];simp[RW],λv=>?_,λh=>(oc),λq D=>.inl ?_⟩
     .have:=(RV.1 v).1;rw[y]at this;cases this;cases b<;>rfl
     grind
    .rename_i e A c s;simp only[AO,DF]at h;obtain⟨rfl,rfl⟩:=h;rw[s]at d
     have key:a.tmps.getD t undef=.bool b->holds a e:=by
      intro i;apply C0;intro r;rw[d.2 r]at i;exact AFt _ i
     refine⟨?_,λv=>?_,λh=>(oc),λq D=>?_⟩
     .grind[RV]
     .obtain⟨i,r⟩:=RV.1 v;obtain⟨I,C⟩:=d.1 r;have y:=SR.bool C;rw[y]at i;cases i;grind
     grind
    .cases h
   .cases h
  .cases h
structure SimF(P:Program)(N:Nat)(fr:Fr)(free D:Nat->Prop)(sl:Nat->SV)(σ:SSo)(a:Act)(w:World)(G:Gh):Prop where
 slots:∀t,SlotOK P w G a (sl t) (a.tmps.getD t undef)
 defs:a.defers=[]
 size:a.tmps.size=N
 fix:∀t v,fr.fx t=some v->a.tmps.getD t undef=v
 toks:∀t tk g s,sl t=.grd tk g s->tk≠[]/\∀p∈tk,D p.1
 mem:MemS P fr free σ w G
 drawn:fr.dr=true->fr.w0.drawn<=w.drawn
theorem eM(e:a.tmps.size=N)(b:∀d,dst=some d->d<N)(v:Value)(t:Nat):
 (a.put dst v).tmps.getD t undef=if dst=some t then v else a.tmps.getD t undef:=by
 cases dst with
 |none=>simp[Act.put]
 |some d=>
  have b:=b d rfl;by_cases h:d=t<;>simp_all[Act.put,Array.getElem?_setIfInBounds_ne]
theorem AFw(a:Act)(dst:Option Nat)(v:Value):(a.put dst v).defers=a.defers:=by cases dst<;>rfl
theorem AFx(a:Act)(dst:Option Nat)(v:Value):(a.put dst v).tmps.size=a.tmps.size:=by cases dst<;>simp[Act.put]
theorem UH(sl:Nat->SV)(dst:Option Nat)(s:SV)(t:Nat):OX sl dst s t=if dst=some t then s else sl t:=by
 cases dst with
 |none=>simp[OX]
 |some d=>
  simp only[OX];by_cases h:t=d
  .simp_all
  .have:Nat.beq t d=false:=by rw[<-BX];exact λa=>h (A3 a)
   grind
theorem AFy{p:Nat×Bool}(h:PV all sl o=some ([p],g))
 (A:∀t∈KA all o,SlotOK P w G a (sl t) (a.tmps.getD t undef))(y:∀t∈KA all o,∀tk g s,sl t=.grd tk g s->tk≠[])(x:g=true):holds a [p]:=by
 unfold PV at h;split at h
 .cases h
 .rename_i j b l;split at h
  .rename_i q z;split at h
   .rename_i t B;have r:KA all o=[t]:=by simp[KA,l,z,B]
    have d:=A t (by rw[r];simp);split at h
    .rename_i c v;simp only[AO,DF]at h;obtain⟨e,i⟩:=h;rw[v]at d;have C:=SR.bool d;have e:p=(t,b):=(AB.1 e).symm;subst e;refine RV.2 ⟨?_,RW a⟩;rw[C];rw[x]at i;cases b<;>cases k:c<;>rw[k]at i<;>first|rfl|cases i
    .grind
    .cases h
   .cases h
  .cases h
theorem AFz(h:calm tk u=true)(a:tk≠[]):u.wr=[]:=by
 cases tk with
 |nil=>grind
 |cons p r=>
  grind[calm]
theorem A2d(i:a.tmps.size=N)(j:∀d,dst=some d->d<N)(h:∀p∈tk,dst≠some p.1):
 holds (a.put dst v) tk<->holds a tk:=by
 unfold holds;constructor
 .intro e p b;have:=e p b;rw[eM i j,if_neg (h p b)]at this;exact this
 .intro e p b;rw[eM i j,if_neg (h p b)];exact e p b
theorem A2e(hE:EnvOK P fr.dr E)(ho:all[i]?=some o)
 (l:SimF P N fr free D sl σ a w G)(B:∀t,t∈eL o\/t∈KA all o->sl0 t=sl t)
 (h5:∀t∈KA all o,D t)(J:∀d,o.dst=some d->(d<N/\fr.fx d=none)/\¬D d)
 (hg:PV all sl0 o=some (tk,g))
 (x1:∀k ob,σ' k=some ob->σ k=some ob)(O:∀k,self<=k->k<self+8->free k)
 {r:OpRes} (hr:U2 E (λx=>(GR sl0 x).strip tk)
  (match o.op with| .pick c _ _=>λx=>(GR sl0 x).strip (PW c true tk)|_=>λx=>(GR sl0 x).strip tk)
  (match o.op with| .pick c _ _=>λx=>(GR sl0 x).strip (PW c false tk)|_=>λx=>(GR sl0 x).strip tk) σ' self o=some r)
 (hu:g=true->Gives r u)(x2:tk=[]->Gives r u)(j:calm tk u=true\/((∃p,tk=[p])/\(g=false->u.wr=[])))
 (hK:∀a' w' G',GLe w G w' G'->SimF P N fr (J1 free self) D (OX sl o.dst (PX tk g u.sv)) (EN σ u.wr) a' w' G'->K a' w'):
 wpOp P all Q i K a w:=by
 have U:∀t∈KA all o,SlotOK P w G a (sl0 t) (a.tmps.getD t undef):=λt R=>by rw[B t (.inr R)];exact l.slots t
 obtain⟨g1,g2,g3,g4⟩:=AFv hg U
 have h9:∀p∈tk,D p.1:=by
  intro p Y;rcases g4 p Y with h|⟨t,R,b,A,I,h1,h2⟩
  .exact h5 _ h
  .rw[B t (.inr R)]at h1;exact(l.toks t b A I h1).2 p h2
 have C:∀d,o.dst=some d->d<N:=λd hd=>(J d hd).1.1;have W:∀{b:List (Nat×Bool)},(∀p∈b,D p.1)->∀p∈b,o.dst≠some p.1:=λh p Y e=>(J _ e).2 (h p Y)
 have h0:∀(v:Value) (w':World) (G':Gh),GLe w G w' G'->MemS P fr (J1 free self) (EN σ u.wr) w' G'->(fr.dr=true->w.drawn<=w'.drawn)->
  ((holds a tk->g=true/\SR P w' G' u.sv v)/\(¬holds a tk->v=Go.undef))->K (a.put o.dst v) w':=by
  intro v w' G' V hm T hv;refine hK _ w' G' V ⟨λt=>?_,?_,?_,?_,?_,hm,λh=>AT (l.drawn h) (T h)⟩
  .rw[UH,eM l.size C];by_cases h:o.dst=some t
   .rw[if_pos h,if_pos h];cases tk with
    |nil=>exact(hv.1 (RW a)).2.slotOK
    |cons p r=>
     have:=A2d (v:=v) l.size C (W h9);exact⟨λs=>hv.1 (this.1 s),λs=>hv.2 λhk=>s (this.2 hk)⟩
   .rw[if_neg h,if_neg h];refine(l.slots t).mono V λb A I h'=>?_;exact A2d l.size C (W (l.toks t b A I h').2)
  .rw[AFw];exact l.defs
  .rw[AFx];exact l.size
  .intro t v' h;rw[eM l.size C,if_neg (λe=>oc)];exact l.fix t v' h
  .intro t b A I h;rw[UH]at h;by_cases hd:o.dst=some t
   .rw[if_pos hd]at h;cases L:tk with
    |nil=>
     rw[L]at h hv;have h:u.sv=.grd b A I:=h;have:=(hv.1 (RW a)).2;rw[h]at this;exact this.not_grd.elim
    |cons q r=>
     rw[L]at h;have h:SV.grd (q::r) g u.sv=.grd b A I:=h;grind
   .rw[if_neg hd]at h;exact l.toks t b A I h
 unfold wpOp;simp only[ho];by_cases hw:Region.wanted o (yielded all a.tmps)=true
 .rw[if_pos hw];have s:=g1.1 hw;have h6:=g2 s;left
  have H:∀{b:List (Nat×Bool)},holds a b->∀x∈o.op.operands,SR P w G ((GR sl0 x).strip b) (a.eval x):=by
   intro b h7 x hx;refine A2c (λt R=>?_) h7;subst R;rw[B t (.inl (AFs hx))];exact l.slots t
  have M:Done P fr.dr o a w (Res P fr free self σ w G u):=by
   refine AFp hE l.mem x1 O (λ_ x hx=>H s x hx) ?_ hr (hu h6);intro c x y z;refine⟨H s c (by simp[z,Op.operands]),λhc=>?_,λhc=>?_⟩
   .simp only[z];refine H ?_ x (by simp[z,Op.operands]);cases c with
    |tmp t=>exact RV.2 ⟨hc,s⟩
    |_=>exact s
   .simp only[z];refine H ?_ y (by simp[z,Op.operands]);cases c with
    |tmp t=>exact RV.2 ⟨hc,s⟩
    |_=>exact s
  refine M Q K λv w' Z T=>?_;obtain⟨G',h1,h2,h3⟩:=Z;grind
 .rw[if_neg hw];have X:¬holds a tk:=λh=>hw (g1.2 h);have h8:tk≠[]:=λe=>by grind[RW]
  have x0:u.wr=[]:=by
   rcases j with j|⟨⟨p,Y⟩,j⟩
   .exact AFz j h8
   .refine j ?_;cases h4:g with
    |false=>rfl
    |true=>
     subst Y;exact absurd (AFy hg U (λt R b A I h=>(l.toks t b A I ((B t (.inr R))▸h)).1) h4) X
  refine h0 Go.undef w G (GLe.refl _ _) ?_ (λ_=>AH _) ⟨λh=>absurd h X,λ_=>rfl⟩;rw[x0];exact l.mem.shrink λ_ h=>h.1
theorem SimF.draws(h:SimF P N fr free D sl σ a w G)(n:Nat)(j:w.drawn<=n):SimF P N fr free D sl σ a {w with drawn:=n} G:=by
 have d:GLe w G {w with drawn:=n} G:=⟨⟨λ_ _ h=>⟨h,rfl⟩,λ_ h=>⟨h,rfl⟩⟩,λ_ _ _ h=>h,λ_ _ h=>h,λ_ _ h=>h⟩;refine⟨λt=>(h.slots t).mono d λ_ _ _ _=>Iff.rfl,h.defs,h.size,h.fix,h.toks,⟨λk o l=>?_,h.mem.sep,?_,h.mem.fresh⟩,λi=>AT (h.drawn i) j⟩
 .exact(h.mem.objs k o l).keep d λb _=>⟨rfl,λ_ h=>h,λh=>h⟩
 .exact ⟨⟨λb o e=>h.mem.after.ext.cell b o e,λb e=>h.mem.after.ext.obj b e⟩,h.mem.after.heap,h.mem.after.size,h.mem.after.newC,h.mem.after.newO,h.mem.after.inC,h.mem.after.inO,
   h.mem.after.os,h.mem.after.tape,h.mem.after.output,h.mem.after.pins.ext d.ext⟩
def Calm(draw:Bool)(tk:List (Nat×Bool))(g:Bool)(u:Upd):Prop:=calm tk u=true\/(draw=false/\(∃p,tk=[p])/\(g=false->u.wr=[]))
theorem Calm.draw(h:Calm true tk g u):calm tk u=true:=h.elim id λh=>by cases h.1
theorem A2f(h:U4 tk=true):∃p,tk=[p]:=by
 unfold U4 at h;grind
theorem AG0{draw:Bool}{r:OpRes}{K:Upd->Option Ω}{ω:Ω}(h:oZ draw tk g r K=some ω):
 ∃u,(g=true->Gives r u)/\(tk=[]->Gives r u)/\Calm draw tk g u/\K u=some ω:=by
 unfold oZ at h;split at h
 .rename_i u;cases hc:calm tk u with
  |false=>
   rw[hc]at h;simp only[AA]at h;cases hd:(!draw&&U4 tk)with
   |false=>grind
   |true=>
    rw[hd]at h;simp only[A6,BP]at hd;obtain⟨hd,ho⟩:=hd;have hone:=A2f ho;simp only[A8]at h;cases g with
    |true=>exact⟨u,λ_=>.pure u,λ_=>.pure u,.inr ⟨hd,hone,λh=>ol⟩,h⟩
    |false=>exact⟨⟨u.sv,[]⟩,λh=>(ol),λh=>(oc),.inr ⟨hd,hone,λ_=>rfl⟩,h⟩
  |true=>rw[hc]at h;exact⟨u,λ_=>.pure u,λ_=>.pure u,.inl hc,h⟩
 .rename_i α m d f;obtain⟨x,h1,h2⟩:=A_.1 h;cases hc:calm tk (f x)with
  |false=>
   rw[hc]at h2;simp only[AA]at h2;cases hd:(!draw&&U4 tk)with
   |false=>grind
   |true=>
    rw[hd]at h2;simp only[A6,BP]at hd;obtain⟨hd,ho⟩:=hd;have hone:=A2f ho;simp only[A8]at h2;cases g with
    |true=>
     refine⟨f x,λ_=>.may ?_,λht=>(oc),.inr ⟨hd,hone,λh=>ol⟩,h2⟩;obtain⟨p,rfl⟩:=hone;exact h1
    |false=>exact⟨⟨(f x).sv,[]⟩,λh=>(ol),λh=>(oc),.inr ⟨hd,hone,λ_=>rfl⟩,h2⟩
  |true=>
   rw[hc]at h2;refine⟨f x,λhg=>.may ?_,λht=>.may ?_,.inl hc,h2⟩
   .subst hg;cases tk with
    |nil=>exact h1
    |cons p r=>exact h1
   .subst ht;exact h1
structure GuardsOK(all:Array Oper):Prop where
 uniq:LF all=true->∀(i j:Nat) (o p:Oper) (d:Nat),i<j->all[i]?=some o->all[j]?=some p->o.dst=some d->p.dst≠some d
 back:LF all=true->∀(i:Nat) (o:Oper) (j:Nat) (b:Bool),all[i]?=some o->o.guard=some (j,b)->j<i
theorem A2g{b:Bool}(a:all[i]?=some o)(h:o.guard=some (j,b)):LF all=true:=by
 grind[LF,List.any_eq_true,Array.mem_of_getElem?]
def DS(all:Array Oper)(S:Nat->Bool):Nat->Prop:=λt=>LF all=true/\∃j o,S j=true/\all[j]?=some o/\o.dst=some t
theorem DS.mono{S':Nat->Bool}(h:DS all S t)(a:∀j,S j=true->S' j=true):DS all S' t:=
 ⟨h.1,let ⟨j,o,h1,h2,h3⟩:=h.2;⟨j,o,a j h1,h2,h3⟩⟩
theorem A2h(h:t∈KA all o):∃j b p,o.guard=some (j,b)/\all[j]?=some p/\p.dst=some t:=by
 grind[KA]
theorem SimF.weaken{D':Nat->Prop}(h:SimF P N fr free D sl σ a w G)(e:∀k,free' k->free k)(d:∀t,D t->D' t):SimF P N fr free' D' sl σ a w G:=
 ⟨h.slots,h.defs,h.size,h.fix,λt tk g s b=>⟨(h.toks t tk g s b).1,λp i=>d _ ((h.toks t tk g s b).2 p i)⟩,h.mem.shrink e,h.drawn⟩
theorem A2i{d:Bool}{a:List Oper}{K:St->List (List Nat×List Nat)->Option Ω}{b:Ω}
 (h:PY E all d n0 (o::a) i st cl K=some b):
 ∃tk g r u,PV all st.slots o=some (tk,g)/\
  U2 E (λx=>(GR st.slots x).strip tk)
   (match o.op with| .pick c _ _=>λx=>(GR st.slots x).strip (PW c true tk)|_=>λx=>(GR st.slots x).strip tk)
   (match o.op with| .pick c _ _=>λx=>(GR st.slots x).strip (PW c false tk)|_=>λx=>(GR st.slots x).strip tk)
   (GG all d n0 i (U3 (λx=>(GR st.slots x).strip tk) st.sto o.op) st.sto) (n0+8*i) o=some r/\
  (g=true->Gives r u)/\(tk=[]->Gives r u)/\Calm d tk g u/\
  RL (GG all d n0 i (U3 (λx=>(GR st.slots x).strip tk) st.sto o.op) st.sto) (n0+8*i) u=true/\
  PY E all d n0 a (i+1) {slots:=OX st.slots o.dst (PX tk g u.sv),sto:=EN st.sto u.wr,n:=st.n}
   ((u.far (n0+8*i),U3 (λx=>(GR st.slots x).strip tk) st.sto o.op)::cl) K=some b:=by
 grind[PY,AG0,RL,GG,U3,GR]
theorem AG1(hE:EnvOK P fr.dr E)(x:GuardsOK all)(v:∀(j:Nat) o d,all[j]?=some o->o.dst=some d->d<N/\fr.fx d=none)
 {K:St->List (List Nat×List Nat)->Option Ω}{R:Ω}:
 ∀(ops:List Oper) (i:Nat) (st:St) (cl:List (List Nat×List Nat)) (a:Act) (w:World) (G:Gh),PY E all false n0 ops i st cl K=some R->all.toList.drop i=ops->i+ops.length=all.size->
  SimF P N fr (λk=>n0+8*i<=k) (DS all (λj=>decide (j<i))) st.slots st.sto a w G->
  (∀s e a' w' G',SimF P N fr (λk=>n0+8*all.size<=k) (DS all (λj=>decide (j<all.size))) s.slots s.sto a' w' G'->s.n=st.n->K s e=some R->Q .normal a' w')->
  wpOps P all Q (List.range' i ops.length) a w:=by
 intro ops;induction ops with
 |nil=>
  intro i st cl a w G h l C I B;simp only[BR,CT]at C;subst C;exact B st cl a w G I rfl h
 |cons o O ih=>
  intro i st cl a w G h l C I B;obtain⟨tk,g,r,u,T,U,V,W,X,h6,Y⟩:=A2i h
  have y:all[i]?=some o:=by
   have:=congrArg List.head? l;rw[List.head?_drop]at this;simpa using this
  simp only[AX,List.range'_succ];rw[wpOps_cons];refine A2e hE y (self:=n0+8*i) I (λt _=>rfl) ?_ ?_ T ?_ (λk hk _=>hk) U V W (X.imp id λh=>h.2) ?_
  .intro t J;obtain⟨j,b,p,L,D,z⟩:=A2h J;have A:=A2g y L;exact⟨A,j,p,by simpa using x.back A i o j b y L,D,z⟩
  .intro d z;refine⟨v i o d y z,λZ=>?_⟩;obtain⟨A,j,p,M,D,H⟩:=Z;exact x.uniq A j i p o d (by simpa using M) D y H z
  .intro k ob hk;exact hk
  .intro a' w' G' _ q;refine ih (i+1) _ _ a' w' G' Y ?_ oc ?_ (λs e a' w' G' q hn hK=>B s e a' w' G' q hn hK)
   .have:=congrArg List.tail l;simpa[List.tail_drop]using this
   .refine q.weaken (λk hk=>⟨oa,?_⟩) λt J=>J.mono λj M=>oc
    simp only[JO,DI];right;rw[<-BX,B_];omega
structure Info where
 tk:List (Nat×Bool)
 g:Bool
 u:Upd
 c:List Nat×List Nat
def GH(all:Array Oper)(L:Nat->Info)(S:Nat->Bool)(sl0:Nat->SV):Nat->Nat->SV
 |0=>sl0
 |i+1=>bif S i then OX (GH all L S sl0 i) (all.getD i default).dst (PX (L i).tk (L i).g (L i).u.sv)else GH all L S sl0 i
def GO(L:Nat->Info)(S:Nat->Bool)(σ0:SSo):Nat->SSo
 |0=>σ0
 |i+1=>bif S i then EN (GO L S σ0 i) (L i).u.wr else GO L S σ0 i
def M6(l:List (Nat×Option Obj)):List Nat:=l.map (·.1)
theorem qN{σ:SSo}:∀{l:List (Nat×Option Obj)} {k:Nat},k ∉ M6 l->EN σ l k=σ k:=by
 intro l;induction l with
 |nil=>intro k _;rfl
 |cons p r i=>
  intro k h;obtain⟨j,o⟩:=p;simp only[M6,DG,B2,not_or]at h;simp only[EN];rw[show Nat.beq k j=false by rw[<-BX];simp_all];exact i h.2
theorem A2j{σ σ':SSo}:∀{l:List (Nat×Option Obj)} {k:Nat},k∈M6 l->EN σ l k=EN σ' l k:=by
 intro l;induction l with
 |nil=>intro k h;cases h
 |cons p r i=>
  intro k h;obtain⟨j,o⟩:=p;simp only[EN];cases a:Nat.beq k j with
  |true=>rfl
  |false=>
   simp only[AA];refine i ?_;simp only[M6,DG,B2]at h;rcases h with rfl|h
   .simp_all
   .exact h
theorem eN{L:Nat→Info}{S S':Nat→Bool}{sl0:Nat→SV}:∀{n:Nat},(∀j,j<n→(all.getD j default).dst=some t→S j=S' j)→GH all L S sl0 n t=GH all L S' sl0 n t:=by
 intro n;induction n with
 |zero=>intro _;rfl
 |succ n i=>
  intro h;have i:=i λj b=>h j oa
  have key:∀S,GH all L S sl0 (n+1) t=if S n=true/\(all.getD n default).dst=some t then PX (L n).tk (L n).g (L n).u.sv else GH all L S sl0 n t:=by
   intro S;simp only[GH];cases a:S n with
   |false=>simp
   |true=>simp only[A8,UH,true_and]
  grind
theorem eO{L:Nat->Info}{S':Nat->Bool}{k:Nat}:∀{n:Nat},(∀j,j<n->k∈M6 (L j).u.wr->S j=S' j)->GO L S σ0 n k=GO L S' σ0 n k:=by
 intro n;induction n with
 |zero=>intro _;rfl
 |succ n i=>
  intro h;have i:=i λj a=>h j oa;simp only[GO];grind[hk,M6,A2j,EN,GO,qN]
theorem A2k{L:Nat->Info}:∀{n:Nat},i<=n->(∀j,j<i->S j=true)->(∀j,i<=j->j<n->S j=false)->GH all L S sl0 n=GH all L (λ_=>true) sl0 i:=by
 intro n;induction n with
 | zero => intro h _ _; have : i = 0 := by omega
           subst this;rfl
 |succ n ih=>
  intro hi h1 h2;by_cases h:i=n+1
  .grind[GH,eN]
  .simp only[GH,h2 n oa oa,AA];grind
theorem A2l{L:Nat->Info}:∀{n:Nat},i<=n->(∀j,j<i->S j=true)->(∀j,i<=j->j<n->S j=false)->GO L S σ0 n=GO L (λ_=>true) σ0 i:=by
 intro n;induction n with
 | zero => intro h _ _; have : i = 0 := by omega
           subst this;rfl
 |succ n ih=>
  intro hi h1 h2;by_cases h:i=n+1
  .grind[GO,eO]
  .simp only[GO,h2 n oa oa,AA];grind
theorem AG2{L:Nat->Info}(hi:S i=true)(l:(all.getD i default).dst=some t):
 ∀{n:Nat},i<n->(∀j,i<j->j<n->(all.getD j default).dst=some t->S j=false)->GH all L S sl0 n t=PX (L i).tk (L i).g (L i).u.sv:=by
 intro n;induction n with
 |zero=>intro h;omega
 |succ n a=>
  intro o h;simp only[GH];by_cases e:i=n
  .simp_all[A8,UH,if_true]
  .have a:=a oa λj b k=>h j b oa;by_cases d:(all.getD n default).dst=some t
   .grind
   .cases S n<;>simp_all[A8,UH,CL]
theorem AG3{L:Nat->Info}{σ:SSo}{k:Nat}(hi:S i=true)(a:k∈M6 (L i).u.wr):
 ∀{n:Nat},i<n->(∀j,i<j->j<n->k∈M6 (L j).u.wr->S j=false)->GO L S σ0 n k=EN σ (L i).u.wr k:=by
 intro n;induction n with
 |zero=>intro h;omega
 |succ n d=>
  intro b h;simp only[GO];grind[A2j,M6,qN,trans]
theorem A2m{L L':Nat->Info}:∀{n:Nat},(∀j,j<n->L j=L' j)->GH all L S sl0 n=GH all L' S sl0 n:=by
 intro n;induction n<;>grind[GH]
theorem A2n{L L':Nat->Info}:∀{n:Nat},(∀j,j<n->L j=L' j)->GO L S σ0 n=GO L' S σ0 n:=by
 intro n;induction n<;>grind[GO]
structure Fact(E:Env)(all:Array Oper)(n0:Nat)(L:Nat->Info)(sl0:Nat->SV)(σ0:SSo)(i:Nat)(o:Oper)(r:OpRes):Prop where
 op:all[i]?=some o
 grd:PV all (GH all L (λ_=>true) sl0 i) o=some ((L i).tk,(L i).g)
 val:U2 E (λx=>(GR (GH all L (λ_=>true) sl0 i) x).strip (L i).tk)
  (match o.op with| .pick c _ _=>λx=>(GR (GH all L (λ_=>true) sl0 i) x).strip (PW c true (L i).tk)|_=>λx=>(GR (GH all L (λ_=>true) sl0 i) x).strip (L i).tk)
  (match o.op with| .pick c _ _=>λx=>(GR (GH all L (λ_=>true) sl0 i) x).strip (PW c false (L i).tk)|_=>λx=>(GR (GH all L (λ_=>true) sl0 i) x).strip (L i).tk)
  (GG all true n0 i (L i).c.2 (GO L (λ_=>true) σ0 i)) (n0+8*i) o=some r
 gives:(L i).g=true->Gives r (L i).u
 gives':(L i).tk=[]->Gives r (L i).u
 calm:calm (L i).tk (L i).u=true
 wr:RL (GG all true n0 i (L i).c.2 (GO L (λ_=>true) σ0 i)) (n0+8*i) (L i).u=true
 cls:(L i).c.1=(L i).u.far (n0+8*i)
theorem Fact.congr{L L':Nat->Info}{r:OpRes}
 (h:Fact E all n0 L sl0 σ0 i o r)(a:∀j,j<=i->L j=L' j):Fact E all n0 L' sl0 σ0 i o r:=by
 have b:=A2m (all:=all) (S:=λ_=>true) (sl0:=sl0) (n:=i) λj k=>a j oa;have d:=A2n (S:=λ_=>true) (σ0:=σ0) (n:=i) λj k=>a j oa;have e:=a i (AH _)
 exact ⟨h.op,by rw [<- b,<- e]; exact h.grd,by rw [<- b,<- d,<- e]; exact h.val,by rw [<- e]; exact h.gives,by rw [<- e]; exact h.gives',by rw [<- e]; exact h.calm,
  by rw[<-d,<-e];exact h.wr,by rw[<-e];exact h.cls⟩
theorem AG4{K:St->List (List Nat×List Nat)->Option Ω}{A:Ω}:
 ∀(ops:List Oper) (i:Nat) (st:St) (L:Nat->Info),PY E all true n0 ops i st (((List.range i).map λj=>(L j).c).reverse) K=some A->all.toList.drop i=ops->i+ops.length=all.size->
  st.slots=GH all L (λ_=>true) sl0 i->st.sto=GO L (λ_=>true) σ0 i->(∀j,j<i->∃o r,Fact E all n0 L sl0 σ0 j o r)->
  ∃L':Nat->Info,(∀j,j<all.size->∃o r,Fact E all n0 L' sl0 σ0 j o r)/\
   K {slots:=GH all L' (λ_=>true) sl0 all.size,sto:=GO L' (λ_=>true) σ0 all.size,n:=st.n} (((List.range all.size).map λj=>(L' j).c).reverse)=some A:=by
 intro ops;induction ops with
 |nil=>
  intro i st L h a t d k l;simp only[BR,CT]at t;subst t;refine⟨L,l,?_⟩;rw[<-d,<-k];exact h
 |cons o z H=>
  intro i st L h a t d k l;obtain⟨tk,g,r,u,k1,N,O,Q,v,T,U⟩:=A2i h;have R:=v.draw
  have y:all[i]?=some o:=by
   have:=congrArg List.head? a;rw[List.head?_drop]at this;simpa using this
  let c:List Nat×List Nat:=(u.far (n0+8*i),U3 (λx=>(GR st.slots x).strip tk) st.sto o.op)
  let L':Nat->Info:=λj=>if j=i then⟨tk,g,u,c⟩else L j
  have b:∀j,j<i->L j=L' j:=λj s=>oc
  have q:L' i=⟨tk,g,u,c⟩:=by simp[L']
  have B:=A2m (all:=all) (S:=λ_=>true) (sl0:=sl0) (n:=i) b;have C:=A2n (S:=λ_=>true) (σ0:=σ0) (n:=i) b;have V:st.slots=GH all L' (λ_=>true) sl0 i:=d.trans B;have W:st.sto=GO L' (λ_=>true) σ0 i:=k.trans C
  have w:all.getD i default=o:=by
   rw[C8,y];rfl
  have:=H (i+1) {slots:=OX st.slots o.dst (PX tk g u.sv),sto:=EN st.sto u.wr,n:=st.n} L' ?_ ?_ ?_ ?_ ?_ ?_
  .exact this
  .have:((List.range (i+1)).map λj=>(L' j).c).reverse=c::((List.range i).map λj=>(L j).c).reverse:=by
    rw[List.range_succ,BL,List.reverse_append];simp only[DG,List.map_nil,List.reverse_cons,List.reverse_nil,DO,List.singleton_append,q,List.cons.injEq,true_and]
    congr 1
    exact List.map_congr_left λj s=>by rw[b j (CN.1 s)]
   grind
  .have:=congrArg List.tail a;simpa[List.tail_drop]using this
  .grind
  .simp_all[GH,A8]
  .simp_all[GO,A8]
  .intro j s;by_cases e:j=i
   .subst e;refine⟨o,r,y,?_,?_,?_,?_,?_,?_,?_⟩<;>grind
   .obtain⟨J,M,D⟩:=l j oa;exact⟨J,M,D.congr λI G=>b I oa⟩
end
section
variable{all:Array Oper}
def YA(acc:Array Nat)(l:List Edge)(s:Nat):Nat:=l.foldl (λs e=>if Region.binds .any e then s|||2 ^ e.on|||acc.getD e.on 0 else s) s
theorem AG5{a:Array Nat}:∀{l:List Edge} {s:Nat},(YA a l s).testBit i=true->
 s.testBit i=true\/∃e∈l,Region.binds .any e=true/\(e.on=i\/(a.getD e.on 0).testBit i=true):=by
 intro l;induction l with
 |nil=>intro s h;exact .inl h
 |cons e r b=>
  intro s h;simp only[YA,List.foldl_cons]at h;rcases b h with h|⟨d,j,k⟩<;>grind
def M7(acc:Array Nat)(o:Oper):Array Nat:=acc.push (YA acc o.after.toList 0)
theorem A2o(all:Array Oper):Region.before all=all.toList.foldl M7 #[]:=by
 unfold Region.before;rw[<-Array.foldl_toList]
 congr 1
 funext acc o;simp only[M7,YA,Array.foldl_toList]
theorem AG6:∀(l:List Oper) (a:Array Nat),(l.foldl M7 a).size=a.size+l.length/\(∀k,k<a.size->(l.foldl M7 a).getD k 0=a.getD k 0)/\
 ∀(j:Nat) (o:Oper),l[j]?=some o->∃b:Array Nat,(∀k,k<a.size+j->b.getD k 0=(l.foldl M7 a).getD k 0)/\(l.foldl M7 a).getD (a.size+j) 0=YA b o.after.toList 0:=by
 intro l;induction l with
 |nil=>simp
 |cons o l q=>
  intro a;obtain⟨r,d,s⟩:=q (M7 a o);have i:(M7 a o).size=a.size+1:=by simp[M7]
  have h:∀k,k<a.size->(M7 a o).getD k 0=a.getD k 0:=by
   intro k hk;simp[M7,C8,Array.getElem?_push,Nat.ne_of_lt hk]
  simp only[List.foldl_cons];refine⟨oc,λk hk=>by rw[d k oa,h k hk],λj p e=>?_⟩;cases j with
  |zero=>
   have:o=p:=by simpa using e
   subst this;refine⟨a,λk hk=>by rw[d k oa,h k oa],?_⟩;simp_all[M7,C8]
  |succ j=>
   grind
def qO(all:Array Oper):Prop:=∀(i:Nat) o,all[i]?=some o->∀e∈o.after,Region.binds .any e=true->e.on<i
def bits(all:Array Oper)(i:Nat):Nat:=(Region.before all).getD i 0
theorem AG7(t:qO all)(k:all[j]?=some o)(h:(bits all j).testBit i=true):
 ∃e∈o.after,Region.binds .any e=true/\(e.on=i\/(bits all e.on).testBit i=true):=by
 obtain⟨_,_,r⟩:=AG6 all.toList #[];obtain⟨b,k1,l⟩:=r j o (by simpa using k);unfold bits at h;rw[A2o]at h;simp only[BQ,BR,C4]at k1 l;rw[l]at h;rcases AG5 h with h|⟨e,q,d,s⟩
 .simp at h
 .have a:e∈o.after:=by simpa using q
  refine⟨e,a,d,s.imp id λh=>?_⟩;have v:=t j o k e a d;grind[bits,A2o]
def A2p(all:Array Oper)(S:Nat->Bool):Prop:=∀(j:Nat) o,S j=true->all[j]?=some o->∀e∈o.after,Region.binds .any e=true->S e.on=true
theorem A2q(r:qO all)(x:A2p all S):∀(n j:Nat) (o:Oper),j<n->all[j]?=some o->(∀e∈o.after,Region.binds .any e=true->S e.on=true)->
 ∀i,(bits all j).testBit i=true->S i=true/\i<j:=by
 intro n;induction n with
 |zero=>omega
 |succ n A=>
  intro j o B q a i h;obtain⟨e,s,b,d⟩:=AG7 r q h;have y:=r j o q e s b;have w:=a e s b;rcases d with d|d
  .grind
  .have z:j<all.size:=(BO.1 q).1;have t:all[e.on]?=some all[e.on]:=B7 oa;obtain⟨k1,C⟩:=A e.on _ oa t (λv l k=>x e.on _ w t v l k) i d;grind
structure OrdOK(all:Array Oper)(c:Nat->List Nat×List Nat):Prop where
 back:qO all
 slot:∀(i j:Nat) (o p:Oper) (t:Nat),all[i]?=some o->all[j]?=some p->i≠j->o.dst=some t->t∈XP all p->(i<j/\(bits all j).testBit i=true)\/(j<i/\(bits all i).testBit j=true)
 mem:∀(i j:Nat) (o p:Oper),all[i]?=some o->all[j]?=some p->i≠j->∀k,k∈(c i).1->k∈(c j).2->(i<j/\(bits all j).testBit i=true)\/(j<i/\(bits all i).testBit j=true)
theorem A2r(b:i≠j)(h:dM (Region.before all) i j=true):(i<j/\(bits all j).testBit i=true)\/(j<i/\(bits all i).testBit j=true):=by
 unfold dM at h;cases a:Nat.blt i j with
 |true=>
  rw[a]at h;exact .inl ⟨by rwa[B_]at a,h⟩
 |false=>
  rw[a]at h;refine .inr ⟨?_,h⟩;rw[<-BX,B_]at a;omega
theorem AG8:∀{l m:List Nat},dN l m=true->∀k,k∈l->k ∉ m:=by
 intro l;induction l with
 |nil=>simp
 |cons x l i=>
  intro m h k hk;simp only[dN,A6,BP]at h;rcases B2.1 hk with rfl|hk
  .grind[PZ]
  grind
theorem AG9{c:Nat->List Nat×List Nat}(hc:cl=(List.range all.size).map c)(h:XQ all cl=true):OrdOK all c:=by
 unfold XQ at h;simp only[A6,BV,CN]at h;obtain⟨A,z⟩:=h
 have a:∀{i:Nat} {o:Oper},all[i]?=some o->i<all.size/\all.getD i default=o:=λ{i o} q=>
  ⟨(BO.1 q).1,by simp_all⟩
 have r:∀i,i<all.size->cl.getD i ([],[])=c i:=by
  intro i l;rw[hc,AD,AV,CY l];rfl
 refine⟨λi o q e G E=>?_,λi j o p t q y b D H=>?_,λi j o p q y b k B C=>?_⟩
 .obtain⟨l,w⟩:=a q;have:=A i l;grind[Nat.blt_eq]
 .obtain⟨l,w⟩:=a q;obtain⟨v,s⟩:=a y;have:=z i l j v;rw[w,s,D]at this;have d:Nat.beq i j=false:=by rw[<-BX];exact λx=>b (A3 x)
  simp_all[CD,A6,BK,BP,absurd,A2r]
 .obtain⟨l,w⟩:=a q;obtain⟨v,s⟩:=a y;have:=z i l j v;have d:Nat.beq i j=false:=by rw[<-BX];exact λx=>b (A3 x)
  rw[d,r i l,r j v]at this;simp only[CD,A6,BK,BP]at this;rcases this.2 with h|h
  .exact absurd C (AG8 h k B)
  .exact A2r b h
end
section
variable{P:Program}{fr:Fr}{free free':Nat->Prop}{self:Nat}{σ σ':SSo}{w w':World}{G G':Gh}{I:Im}
theorem qP(h:t∈eL o\/t∈KA all o\/o.dst=some t):t∈XP all o:=by
 unfold XP;simp only[AS];rcases h with h|h|h
 .exact .inl (.inl h)
 .grind[KA]
 grind
theorem A2s{self:Nat}{k:Nat}(hk:k∈M6 u.wr):(self<=k/\k<self+8)\/k∈u.far self:=by
 obtain⟨p,a,rfl⟩:=B1.1 hk;cases h:JO self p.1 with
 |true=>simp_all[JO,A6,Nat.ble_eq,B_]
 |false=>exact .inr (B1.2 ⟨p,BM.2 ⟨a,by rw[h];rfl⟩,rfl⟩)
theorem A2t{σ:Nat→Option Obj}{self:Nat}(h:RL σ self u=true){k:Nat}(hk:k∈M6 u.wr):(self≤k∧k<self+8)∨(σ k).isSome=true:=by
 unfold RL at h;rw[BV]at h;obtain⟨p,a,rfl⟩:=B1.1 hk;have:=h p a;simp_all[JO,BK,A6,Nat.ble_eq,B_]
theorem qQ{F:List Nat}{σ:SSo}{k:Nat}(h:(GG all true n0 i F σ k).isSome=true):
 k∈F/\GG all true n0 i F σ k=σ k/\(k<n0\/(bits all i).testBit ((k-n0) / 8)=true):=by
 unfold GG at h ⊢;simp only[A8]at h ⊢;cases a:(FE k F&&(Nat.blt k n0||((Region.before all).getD i 0).testBit ((k-n0) / 8)))with
 |false=>grind
 |true=>
  rw[A6,BK,B_]at a;exact⟨PZ.1 a.1,rfl,a.2⟩
def A2u(n0:Nat)(S:Nat->Bool)(n:Nat):Nat->Prop:=λk=>n0<=k/\∀j,j<n->S j=true->¬(n0+8*j<=k/\k<n0+8*j+8)
theorem AGA{l:Array Bool}(hi:i<l.size):(l.setIfInBounds i true).getD j false=(decide (j=i)||l.getD j false):=by
 by_cases h:j=i
 .subst h;simp[hi]
 .rw[getD_set_ne false (λe=>h e.symm)];simp[h]
theorem AGB(hE:EnvOK P fr.dr E)(hgo:GuardsOK all)(hdst:∀(j:Nat) o d,all[j]?=some o->o.dst=some d->d<N/\fr.fx d=none)
 {L:Nat->Info}(hF:∀j,j<all.size->∃o r,Fact E all n0 L sl0 σ0 j o r)(hO:OrdOK all λi=>(L i).c)
 (hQ:∀a' w' G',SimF P N fr (λk=>n0+8*all.size<=k) (DS all (λ_=>true)) (GH all L (λ_=>true) sl0 all.size) (GO L (λ_=>true) σ0 all.size) a' w' G'->Q .normal a' w'):
 ∀(fuel:Nat) (listed:Array Bool) (a:Act) (w:World) (G:Gh),listed.size=all.size->((List.range all.size).filter λj=>!listed.getD j false).length<=fuel->
  A2p all (λj=>listed.getD j false)->
  SimF P N fr (A2u n0 (λj=>listed.getD j false) all.size) (DS all (λj=>listed.getD j false)) (GH all L (λj=>listed.getD j false) sl0 all.size) (GO L (λj=>listed.getD j false) σ0 all.size) a w G->
  wpAny P .any all Q fuel listed a w:=by
 have hgetD:∀{i:Nat} {o:Oper},all[i]?=some o->i<all.size/\all.getD i default=o:=λ{i o} ho=>
  ⟨(BO.1 ho).1,by simp_all⟩
 have hdone:∀(listed:Array Bool),listed.size=all.size->Region.ready .any all listed=[]->∀j,j<all.size->listed.getD j false=true:=by
  intro listed hsz hr
  have:∀n j,j<n->j<all.size->listed.getD j false=true:=by
   intro n;induction n with
   |zero=>intro j h;omega
   |succ n ih=>
    intro j hj hja;apply C0;intro hn
    have hm:j∈Region.ready .any all listed:=by
     rw[mem_ready];refine⟨?_,all[j],B7 hja,λe he hb=>?_⟩
     .grind
     .have hlt:=hO.back j _ (B7 hja) e he hb;grind
    grind
  intro j hj;exact this (j+1) j oa hj
 have hfin:∀(listed:Array Bool) (a:Act) (w:World) (G:Gh),(∀j,j<all.size->listed.getD j false=true)->
  SimF P N fr (A2u n0 (λj=>listed.getD j false) all.size) (DS all (λj=>listed.getD j false)) (GH all L (λj=>listed.getD j false) sl0 all.size) (GO L (λj=>listed.getD j false) σ0 all.size) a w G->Q .normal a w:=by
  intro listed a w G hall hs
  have e1:GH all L (λj=>listed.getD j false) sl0 all.size=GH all L (λ_=>true) sl0 all.size:=by
   funext t;exact eN λj hj _=>hall j hj
  have e2:GO L (λj=>listed.getD j false) σ0 all.size=GO L (λ_=>true) σ0 all.size:=by
   funext t;exact eO λj hj _=>hall j hj
  rw[e1,e2]at hs;exact hQ a w G (hs.weaken (λk hk=>⟨oa,λj hj _=>oa⟩) λt ht=>ht.mono λ_ _=>rfl)
 intro fuel;induction fuel with
 |zero=>
  intro listed a w G hsz hfu hdn hs
  have hall:∀j,j<all.size->listed.getD j false=true:=by
   intro j hj;apply C0;intro hn;have:j∈(List.range all.size).filter λj=>!listed.getD j false:=BM.2 ⟨CN.2 hj,by simpa using hn⟩;rw[AM (Nat.le_zero.1 hfu)]at this;cases this
  refine⟨?_,hfin listed a w G hall hs⟩;rw[D3];intro j hj;obtain⟨h1,o,ho,_⟩:=mem_ready.1 hj;grind
 |succ fuel ih=>
  intro listed a w G hsz hfu hdn hs;refine⟨λhr=>hfin listed a w G (hdone listed hsz hr) hs,λi hi=>?_⟩;obtain⟨hun,o,ho,hall⟩:=mem_ready.1 hi;obtain⟨hin,hget⟩:=hgetD ho
  have hun':listed.getD i false=false:=by
   have hj2:i<listed.size:=oa
   simp only[C8,B7 hj2,DD]at hun ⊢;exact hun
  obtain⟨o',r,hf⟩:=hF i hin
  have eo:o'=o:=by
   have:=hf.op;rw[ho]at this;cases this;rfl
  subst eo;have hpre:∀j,(bits all i).testBit j=true->listed.getD j false=true/\j<i:=A2q hO.back hdn (i+1) i o' oa ho hall
  have hpost:∀j,(bits all j).testBit i=true->j<all.size->listed.getD j false=false:=by
   intro j hb hj;rw[<-BX];intro hS;have hp:all[j]?=some all[j]:=B7 hj;have:=(A2q hO.back hdn (j+1) j _ oa hp (λe he hb=>hdn j _ hS hp e he hb) i hb).1;rw[hun']at this;cases this
  have hord:∀j,j<all.size->((i<j/\(bits all j).testBit i=true)\/(j<i/\(bits all i).testBit j=true))->listed.getD j false=decide (j<i):=by
   intro j hj h;rcases h with⟨h1,h2⟩|⟨h1,h2⟩
   .grind
   .grind
  have hcls:∀j oj,all[j]?=some oj->(L j).c.1=(L j).u.far (n0+8*j)/\RL (GG all true n0 j (L j).c.2 (GO L (λ_=>true) σ0 j)) (n0+8*j) (L j).u=true:=by
   intro j oj hj;obtain⟨o'',r'',hf''⟩:=hF j (hgetD hj).1;exact⟨hf''.cls,hf''.wr⟩
  have hslot:∀t,t∈XP all o'->GH all L (λ_=>true) sl0 i t=GH all L (λj=>listed.getD j false) sl0 all.size t:=by
   intro t ht;rw[<-A2k (S:=λj=>decide (j<i)) (n:=all.size) oa (λj hj=>by simpa using hj) (λj hj _=>by simpa using hj)];refine eN λj hj hd=>?_;by_cases e:j=i
   .grind
   .have hp:all[j]?=some all[j]:=B7 hj;rw[(hgetD hp).2]at hd;exact(hord j hj ((hO.slot j i _ o' t hp ho e hd ht).symm)).symm
  have hsto:∀k,(GG all true n0 i (L i).c.2 (GO L (λ_=>true) σ0 i) k).isSome=true->
   GG all true n0 i (L i).c.2 (GO L (λ_=>true) σ0 i) k=GO L (λj=>listed.getD j false) σ0 all.size k:=by
   intro k hk;obtain⟨h1,h2,h3⟩:=qQ hk;rw[h2];rw[<-A2l (S:=λj=>decide (j<i)) (n:=all.size) oa (λj hj=>by simpa using hj) (λj hj _=>by simpa using hj)];refine eO λj hj hd=>?_;by_cases e:j=i
   .grind
   .have hp:all[j]?=some all[j]:=B7 hj;obtain⟨hc,hw⟩:=hcls j _ hp;rcases A2s (self:=n0+8*j) hd with⟨k1,k2⟩|hl
    .have hdiv:(k-n0) / 8=j:=oa
     grind
    .exact(hord j hj ((hO.mem j i _ o' hp ho e k (hc▸hl) h1).symm)).symm
  refine A2e hE ho (self:=n0+8*i) (sl0:=GH all L (λ_=>true) sl0 i) hs ?_ ?_ ?_ hf.grd ?_ ?_ hf.val hf.gives hf.gives' (.inl hf.calm) ?_
  .grind[qP]
  .intro t ht;obtain⟨j,b,p,hg,hp,hd⟩:=A2h ht;have hh:=A2g ho hg;refine⟨hh,j,p,?_,hp,hd⟩;have hji:=hgo.back hh i o' j b ho hg;have:=hO.slot j i p o' t hp ho oa hd (qP (.inr (.inl ht)));grind
  .intro d hd;refine⟨hdst i o' d ho hd,λhD=>?_⟩;obtain⟨hh,j,p,hj,hp,hpd⟩:=hD;have hj:listed.getD j false=true:=hj;have hne:j≠i:=λe=>oc
   rcases CU j i with h|h
   .exact hgo.uniq hh j i p o' d h hp ho hpd hd
   .exact hgo.uniq hh i j o' p d oa ho hp hd hpd
  .grind
  .intro k h1 h2;refine⟨oa,λj hj hS h3=>?_⟩;have hS:listed.getD j false=true:=hS;have:j=i:=oa
   grind
  .intro a' w' G' _ hs';have hset:∀j,(listed.setIfInBounds i true).getD j false=(decide (j=i)||listed.getD j false):=λj=>AGA oa;have hS':(λj=>(listed.setIfInBounds i true).getD j false)=λj=>(decide (j=i)||listed.getD j false):=funext hset;refine ih (listed.setIfInBounds i true) a' w' G' (by simpa using hsz) ?_ ?_ ?_
   .have hlt:((List.range all.size).filter λj=>!(listed.setIfInBounds i true).getD j false).length<((List.range all.size).filter λj=>!listed.getD j false).length:=by
     have hsub:((List.range all.size).filter λj=>!(listed.setIfInBounds i true).getD j false)=((List.range all.size).filter λj=>!listed.getD j false).filter λj=>!decide (j=i):=by
      rw[List.filter_filter];refine List.filter_congr λj _=>?_;rw[hset,Bool.not_or]
     rw[hsub];refine List.length_filter_lt_length_iff_exists.2 ⟨i,BM.2 ⟨CN.2 hin,by rw[hun'];rfl⟩,oe⟩
    omega
   .intro j p hj hp e he hb;have hj:(listed.setIfInBounds i true).getD j false=true:=hj;show(listed.setIfInBounds i true).getD e.on false=true;rw[hset]at hj ⊢;rw[BK,AW]at hj ⊢;rcases hj with rfl|hj
    .grind
    .exact .inr (hdn j p hj hp e he hb)
   .rw[hS']
    have e1:OX (GH all L (λj=>listed.getD j false) sl0 all.size) o'.dst (PX (L i).tk (L i).g (L i).u.sv)=GH all L (λj=>(decide (j=i)||listed.getD j false)) sl0 all.size:=by
     funext t;rw[UH];by_cases hd:o'.dst=some t
     .rw[if_pos hd];refine(AG2 (S:=λj=>(decide (j=i)||listed.getD j false)) oe oc hin λj h1 h2 h3=>?_).symm;have hp:all[j]?=some all[j]:=B7 h2;rw[(hgetD hp).2]at h3;have:=hO.slot i j o' _ t ho hp oa hd (qP (.inr (.inr h3)));grind
     .rw[if_neg hd];grind[eN]
    have e2:EN (GO L (λj=>listed.getD j false) σ0 all.size) (L i).u.wr=GO L (λj=>(decide (j=i)||listed.getD j false)) σ0 all.size:=by
     funext k;by_cases hk:k∈M6 (L i).u.wr
     .refine(AG3 (S:=λj=>(decide (j=i)||listed.getD j false)) oe hk hin λj h1 h2 h3=>?_).symm;have hp:all[j]?=some all[j]:=B7 h2;have hne:¬j=i:=oa
      simp only[hne,decide_false,CD];rw[<-BX];intro hS
      have hno:¬((i<j/\(bits all j).testBit i=true)\/(j<i/\(bits all i).testBit j=true)):=by
       intro h;have:=hord j h2 h;rw[hS]at this;simp at this;omega
      obtain⟨hci,hwi⟩:=hcls i o' ho;obtain⟨hcj,hwj⟩:=hcls j _ hp;rcases A2t hwj h3 with hkj|hkj
      .rcases A2t hwi hk with hki|hki
       .omega
       .obtain⟨q1,q2,q3⟩:=qQ hki;grind
      .obtain⟨q1,q2,q3⟩:=qQ hkj;rcases A2s (self:=n0+8*i) hk with hki|hki
       .have hdiv:(k-n0) / 8=i:=oa
        grind
       .exact hno (hO.mem i j o' _ ho hp oa k (hci▸hki) q1)
     .grind[qN,eO]
    rw[<-e1,<-e2];refine hs'.weaken (λk hk=>⟨⟨hk.1,λj hj hS h3=>hk.2 j hj oc h3⟩,?_⟩) λt ht=>ht.mono λj hj=>oc
    have:=hk.2 i hin oe;rw[<-BX];simp only[JO,A6,Nat.ble_eq,B_];exact this
end
structure SimN(P:Program)(N:Nat)(fr:Fr)(st:St)(a:Act)(w:World)(G:Gh):Prop where
 slots:∀t,SlotOK P w G a (st.slots t) (a.tmps.getD t undef)
 defs:a.defers=[]
 size:a.tmps.size=N
 fix:∀t v,fr.fx t=some v->a.tmps.getD t undef=v
 nogrd:∀t tk g s,st.slots t≠.grd tk g s
 mem:MemS P fr (λk=>st.n<=k) st.sto w G
 drawn:fr.dr=true->fr.w0.drawn<=w.drawn
section
variable{dr:Bool}
variable{P:Program}{fr:Fr}{free free':Nat->Prop}{self:Nat}{σ σ':SSo}{w w':World}{G G':Gh}{I:Im}
theorem AGC:∀{l:List Oper},(l.filterMap (·.dst)).Nodup->∀(i j:Nat) (o p:Oper) (d:Nat),i<j->l[i]?=some o->l[j]?=some p->o.dst=some d->p.dst≠some d:=by
 intro l;induction l<;>grind
theorem AGD(h:LF all=true->MY (dO all)=true/\XS all=true):GuardsOK all:=by
 refine⟨λe i j o p d l k q r=>?_,λe i o j b k s=>?_⟩
 .exact AGC (A2H (h e).1) i j o p d l (by simpa using k) (by simpa using q) r
 .have a:=(h e).2;unfold XS at a;rw[BV]at a;have:=a i (CN.2 (BO.1 k).1);simp_all
theorem AGE(hE:EnvOK P fr.dr E)(hmix:P.follows .mixedOrders=true){draw:Bool}{id:Nat}{K:St->Option Ω}{ω:Ω}
 (hdst:∀(j:Nat) o d,ops[j]?=some o->o.dst=some d->d<N/\fr.fx d=none)(h:o_ E ops draw st K=some ω)(hs:SimN P N fr st a w G)
 (hQ:∀st' a' w' G',SimN P N fr st' a' w' G'->K st'=some ω->Q .normal a' w'):(Code.region id ops draw).wp P Q a w:=by
 unfold o_ at h
 have hgo:GuardsOK ops:=by
  refine AGD λhh=>?_;rw[hh]at h;cases h1:MY (dO ops)<;>cases h2:XS ops<;>rw[h1,h2]at h<;>first|exact⟨rfl,rfl⟩|cases h
 have h:PY E ops draw st.n ops.toList 0 st [] (λst' cl=>bif !draw||XQ ops cl.reverse then
  K {slots:=bif LF ops then XR st'.slots else st'.slots,sto:=st'.sto,n:=st.n+8*ops.size}else none)=some ω:=by
  cases hc:(LF ops && !(MY (dO ops)&&XS ops))with
  |true=>grind
  |false=>grind
 have fin:∀(st':St) (S:Nat->Bool) (a':Act) (w':World) (G':Gh),SimF P N fr (λk=>st.n+8*ops.size<=k) (DS ops S) st'.slots st'.sto a' w' G'->
  K {slots:=bif LF ops then XR st'.slots else st'.slots,sto:=st'.sto,n:=st.n+8*ops.size}=some ω->Q .normal a' w':=by
  intro st' S a' w' G' hs' hK;refine hQ _ a' w' G' ⟨λt=>?_,hs'.defs,hs'.size,hs'.fix,λt tk g s=>?_,hs'.mem,hs'.drawn⟩ hK
  .have:=hs'.slots t;cases hh:LF ops with
   |false=>exact this
   |true=>
    simp only[A8,XR];split
    .exact(SR.undef _).slotOK
    .exact this
  .cases hh:LF ops with
   |false=>
    intro h;obtain⟨h1,h2⟩:=hs'.toks t tk g s h;cases tk with
    |nil=>exact h1 rfl
    |cons p r=>
     have:=(h2 p AL).1;grind
   |true=>
    simp only[A8,XR];grind
 cases draw with
 |false=>
  refine wp_region ?_
  have:=AG1 hE hgo hdst (Q:=Q) ops.toList 0 st [] a w G h oe oe ⟨hs.slots,hs.defs,hs.size,hs.fix,λt tk g s hh=>absurd hh (hs.nogrd t tk g s),hs.mem.shrink λk hk=>by simpa using hk,hs.drawn⟩
   (λst' cl' a' w' G' hs' _ hK=>fin st' _ a' w' G' hs' hK)
  grind[List.range_eq_range']
 |true=>
  obtain⟨L,hF,hK⟩:=AG4 (sl0:=st.slots) (σ0:=st.sto) ops.toList 0 st (λ_=>⟨[],true,⟨.undef,[]⟩,([],[])⟩) h oe oe rfl rfl (λj hj=>oa);refine wp_region_any hmix ?_;cases ho:XQ ops ((List.range ops.size).map λj=>(L j).c)with
  |false=>grind
  |true=>
   simp only[List.reverse_reverse,ho,BS,CD,A8]at hK
   have hrep:∀j,(Array.replicate ops.size false).getD j false=false:=by
    intro j;simp only[C8,Array.getElem?_replicate];split<;>rfl
   have e1:GH ops L (λj=>(Array.replicate ops.size false).getD j false) st.slots ops.size=st.slots:=by
    rw[A2k (i:=0) (BJ _) (λj hj=>oa) (λj _ _=>hrep j)];rfl
   have e2:GO L (λj=>(Array.replicate ops.size false).getD j false) st.sto ops.size=st.sto:=by
    rw[A2l (i:=0) (BJ _) (λj hj=>oa) (λj _ _=>hrep j)];rfl
   refine AGB (n0:=st.n) (sl0:=st.slots) (σ0:=st.sto) hE hgo hdst hF (AG9 rfl ho) (λa' w' G' hs'=>fin ⟨GH ops L (λ_=>true) st.slots ops.size,GO L (λ_=>true) st.sto ops.size,0⟩ _ a' w' G' hs' hK) ops.size _ a _ G oe
    (AT (B8 _ _) oe) (λj o hj=>?_) ?_
   .grind
   .rw[e1,e2];refine SimF.draws ⟨hs.slots,hs.defs,hs.size,hs.fix,λt tk g s hh=>absurd hh (hs.nogrd t tk g s),hs.mem.shrink λk hk=>hk.1,hs.drawn⟩ _ (Nat.le_succ _)
theorem AGF:∀{l:List Oper} {st:St} {G:Gh},SimN P N fr st a w G->∃G',SimN P N fr (U5 E l st) a w G':=by
 intro l;induction l with
 |nil=>intro st G h;exact⟨G,h⟩
 |cons o l i=>
  intro st G h;simp only[U5];split
  .split
   .rename_i u q
    obtain⟨r,b⟩:∃p c,dF st.sto st.n p c=some u:=by
     grind
    obtain⟨c,b⟩:=b;obtain⟨G1,d,e⟩:=AFh h.mem (AH _) b
    exact i (st:=⟨st.slots,EN st.sto u,st.n+1⟩) ⟨λt=>(h.slots t).mono d λ_ _ _ _=>Iff.rfl,h.defs,h.size,h.fix,h.nogrd,e.shrink λj k=>by
     grind,h.drawn⟩
   .exact i h
  .exact i h
theorem AGG(q:EnvOK P fr.dr E)(i:P.follows .mixedOrders=true){b:Bool}{id:Nat}{K:St->Option Ω}{l:Ω}
 (e:∀(j:Nat) o d,ops[j]?=some o->o.dst=some d->d<N/\fr.fx d=none)(h:A1S E ops b st K=some l)(r:SimN P N fr st a w G)
 (v:∀s a' w' G',SimN P N fr s a' w' G'->K s=some l->Q .normal a' w'):(Code.region id ops b).wp P Q a w:=
 AGE q i e h r λs a' w' G' k t=>by
  obtain⟨G'',h⟩:=AGF (E:=E) (l:=ops.toList.reverse) k;grind
def J2:Ex->Exit
 | .normal=>.normal
 | .exit i=>.exit i
 | .ret=>.ret
theorem qR{w:World}(h:match e with| .normal=>K a w|e=>Q (J2 e) a w):Exit.then K Q (J2 e) a w:=by
 cases e<;>exact h
def eP(P:Program)(w:World)(I:Im)(a:Act)(e:Exit)(hs:Nat)(bs:List Nat):(l:List (Ex×Kp))->G_ l->Prop
 |[],x=>Empty.elim x
 |[o],x=>e=J2 o.1/\∃bs',ShL P w I o.2.sh x (o.2.tm.map λt=>a.tmps.getD t undef) bs'/\bs'.Nodup/\∀b∈bs',b∈bs\/hs<=b
 |o::p::r,x=>Sum.casesOn (motive:=λ_=>Prop) x (λy=>e=J2 o.1/\∃bs',ShL P w I o.2.sh y (o.2.tm.map λt=>a.tmps.getD t undef) bs'/\bs'.Nodup/\∀b∈bs',b∈bs\/hs<=b)
  (λy=>eP P w I a e hs bs (p::r) y)
def YB(P:Program)(dr:Bool)(N:Nat)(s:CSpec)(x:G_ s.outs)(a0:Act)(w:World)(I:Im)(bs:List Nat):Exit->Act->World->Prop:=λe a' w'=>
 a'.defers=[]/\a'.tmps.size=N/\(∀t,FE t s.wrs=false->a'.tmps.getD t undef=a0.tmps.getD t undef)/\(dr=true->w.drawn<=w'.drawn)/\∃I',After (·∈bs) w I w' I'/\eP P w' I' a' e w.heap.size bs s.outs x
def RX(a:Act)(c:Nat):Value:=bif Nat.blt c 1048576 then a.tmps.getD c undef else bif Nat.blt c 1099511627776 then .func (.func (c / 1048576-1)) #[] #[a.tmps.getD (c % 1048576) undef]else .func (.func (c / 1048576 % 1048576-1)) #[] #[a.tmps.getD (c % 1048576) undef,a.tmps.getD (c / 1099511627776-1) undef]
def eQ(al:List (Nat×Nat))(a:Act):Prop:=∀t j,FU al t=some j->a.tmps.getD t undef=RX a j
def eR(P:Program)(w:World)(I:Im)(a:Act)(e:Exit)(hs:Nat)(bs:List Nat)(pv:List Value):(l:List (Ex×Kp))->G_ l->Prop
 |[],x=>Empty.elim x
 |[o],x=>e=J2 o.1/\∃bs',ShL P w I o.2.sh x ((o.2.tm.map λt=>a.tmps.getD t undef)++pv) bs'/\bs'.Nodup/\∀b∈bs',b∈bs\/hs<=b
 |o::p::r,x=>Sum.casesOn (motive:=λ_=>Prop) x (λy=>e=J2 o.1/\∃bs',ShL P w I o.2.sh y ((o.2.tm.map λt=>a.tmps.getD t undef)++pv) bs'/\bs'.Nodup/\∀b∈bs',b∈bs\/hs<=b)
  (λy=>eR P w I a e hs bs pv (p::r) y)
def qS(P:Program)(dr:Bool)(N:Nat)(s:CSpec)(pv:List Value)(x:G_ s.outs)(a0:Act)(w:World)(I:Im)(bs:List Nat):Exit->Act->World->Prop:=λe a' w'=>
 a'.defers=[]/\a'.tmps.size=N/\(∀t,FE t s.wrs=false->a'.tmps.getD t undef=a0.tmps.getD t undef)/\(dr=true->w.drawn<=w'.drawn)/\∃I',After (·∈bs) w I w' I'/\eR P w' I' a' e w.heap.size bs pv s.outs x
def EJ(P:Program)(dr:Bool)(N:Nat)(s:CSpec)(c:Code):Prop:=match s.kx with
 |none=>∀(w:World) (I:Im) (a:Act) (v:TupR s.inn.sh) (bs:List Nat),HY w I->a.defers=[]->a.tmps.size=N->eQ s.al a->ShL P w I s.inn.sh v (s.inn.tm.map λt=>a.tmps.getD t undef) bs->bs.Nodup->
   match s.nd with
   |none=>∀x,s.F v=some x->c.wp P (YB P dr N s x a w I bs) a w
   |some d=>(∀o,d.S v o->∃x,d.F v o=some x)->c.wp P (λe a' w'=>∃o x,d.S v o/\d.F v o=some x/\YB P dr N s x a w I bs e a' w') a w
 |some k=>∀(w:World) (I:Im) (a:Act) (v:TupR s.inn.sh) (bs:List Nat) (pv:List Value),HY w I->a.defers=[]->a.tmps.size=N->KxOK w I (λt=>a.tmps.getD t undef) pv k->
   ShL P w I s.inn.sh v ((s.inn.tm.map λt=>a.tmps.getD t undef)++pv) bs->bs.Nodup->∀x,s.F v=some x->c.wp P (qS P dr N s pv x a w I bs) a w
theorem A2v:∀{tm:List Nat} {l:List SV},(∀(j:Nat) (s:SV) (t:Nat),l[j]?=some s->tm[j]?=some t->SR P w G s (a.tmps.getD t undef))->∀t,SR P w G (KY tm l t) (a.tmps.getD t undef):=by
 intro tm;induction tm with
 |nil=>grind[KY,SR.undef]
 |cons d tm o=>
  intro l h t;cases l with
  |nil=>grind[KY,SR.undef]
  |cons s l=>
   simp only[KY];cases k:Nat.beq t d with
   |true=>
    have e:=A3 k;subst e;exact h 0 s t rfl rfl
   |false=>exact o (λj q r b i=>h (j+1) q r (by simpa using b) (by simpa using i)) t
theorem A2w:∀(l:List (Nat×Option Obj)) (i:Nat),(FU l i).getD none=EN (λ_=>none) l i:=by
 intro l;induction l<;>grind[FU,EN,Nat.beq]
theorem A2x:∀{l:List Sh} {x:TupR l} {n:Nat},M0 (FB l x n) n=n+GF l:=by
 intro l;induction l with
 |nil=>intro x n;rfl
 |cons a l i=>
  intro x n;cases l with
  |nil=>exact(RT a x n).trans (by simp[GF])
  |cons b l=>
   have:M0 (FB (a::b::l) x n) n=M0 (FB (b::l) x.2 (FG a x.1 n).nx) (FG a x.1 n).nx:=rfl;grind[RT,GF]
theorem qT{v:TupR k.sh}(J:a.defers=[])(E:a.tmps.size=N)(y:∀t v,fr.fx t=some v->a.tmps.getD t undef=v)(q:After fr.gv fr.w0 fr.i0 w I)(x:fr.dr=true->fr.w0.drawn<=w.drawn)
 (h:ShL P w I k.sh v (k.tm.map λt=>a.tmps.getD t undef) bs)(A:bs.Nodup)(r:∀b∈bs,fr.owned b):∃G',SimN P N fr (JN k v) a w G':=by
 let G0:Gh:=⟨I,λ_ _=>none,λ_=>none,λ_=>none⟩
 have z:MemS P fr (λ_=>True) (λ_=>none) w G0:=⟨λk o h=>(ol),λj k o Q b h=>(ol),q,λk _=>⟨rfl,rfl,rfl,λ_=>rfl⟩⟩;obtain⟨G',C,K,L,D⟩:=Y5 (n:=0) (G:=G0) z h A (λb H=>⟨r b H,λj o h=>(ol)⟩) (λ_ _ _=>trivial)
 have d:∀t,SR P w G' ((JN k v).slots t) (a.tmps.getD t undef):=by
  refine A2v λj s t l O=>?_;rw[AV]at l;cases B:(FB k.sh v 0)[j]? with
  |none=>grind
  |some m=>
   rw[B]at l;cases l;exact D j m _ B oc
 refine⟨G',λt=>(d t).slotOK,J,E,y,λt tk g s h=>?_,?_,x⟩
 .have:=d t;rw[h]at this;exact this.not_grd
 .have e:(JN k v).sto=EN (λ_=>none) ((FB k.sh v 0).flatMap (·.obs)):=funext λi=>A2w _ i;rw[e];refine C.mem.shrink λj l=>⟨trivial,λM=>?_⟩;grind[JN,GF,A2x]
theorem A2y(d:SimN P N fr st a w G)(j:Nat):SR P w G (RI st.slots j) (RX a j):=by
 have h:∀j,SR P w G (st.slots j) (a.tmps.getD j undef):=by
  intro j;have b:SlotOK P w G a (st.slots j) (a.tmps.getD j undef):=d.slots _;have e:∀tk g s,st.slots j≠.grd tk g s:=d.nogrd _;generalize st.slots j=s at b e;cases s<;>first|exact b|grind
 unfold RI RX;cases k:Nat.blt j 1048576 with
 |true=>exact h j
 |false=>
  cases i:Nat.blt j 1099511627776 with
  |true=>exact⟨_,rfl,#[_],rfl,_,[],rfl,h _,rfl⟩
  |false=>exact⟨_,rfl,#[_,_],rfl,_,[_],rfl,h _,_,[],rfl,h _,rfl⟩
theorem AGH(b:SimN P N fr st a' w G)(i:eQ al a)(j:∀t,FE t wrs=false->a'.tmps.getD t undef=a.tmps.getD t undef):SimN P N fr (WY al wrs st) a' w G:=by
 unfold WY;split
 .exact b
 .have key:∀t,TO al wrs st.slots t=st.slots t\/∃c,TO al wrs st.slots t=RI st.slots c/\a'.tmps.getD t undef=RX a' c:=by
   intro t;unfold TO;split
   .rename_i c q;cases d:(FE t wrs||(FE (cV c) wrs||FE (nR c) wrs))with
    |true=>exact .inl rfl
    |false=>
     simp only[B0]at d;refine .inr ⟨c,rfl,?_⟩;rw[j t d.1,i t c q];have l:=d.2.1;have o:=d.2.2;unfold nR at o;unfold cV at l;unfold RX;grind
   .exact .inl rfl
  refine⟨λt=>?_,b.defs,b.size,b.fix,λt tk g s=>?_,b.mem,b.drawn⟩
  .show SlotOK P w G a' (TO al wrs st.slots t) _;rcases key t with e|⟨c,e,k⟩
   .rw[e];exact b.slots t
   .rw[e,k];exact(A2y b c).slotOK
  .show TO al wrs st.slots t≠_;rcases key t with e|⟨c,e,k⟩
   .rw[e];exact b.nogrd t tk g s
   .rw[e];intro h;have:=A2y b c;rw[h]at this;exact this.not_grd
theorem qU{v:TupR k.sh}(h:SimN P N fr (JN k v) a w G)(d:eQ al a):SimN P N fr (TM al k v) a w G:=by
 refine⟨λt=>?_,h.defs,h.size,h.fix,λt tk g s=>?_,h.mem,h.drawn⟩
 .show SlotOK P w G a (WV al (JN k v).slots t) _;unfold WV;split
  .rename_i j i;rw[d t j i];unfold RI RX;cases o:Nat.blt j 1048576 with
   |true=>exact h.slots j
   |false=>
    have b:∀j,SR P w G ((JN k v).slots j) (a.tmps.getD j undef):=by
     intro j;have e:SlotOK P w G a ((JN k v).slots j) (a.tmps.getD j undef):=h.slots _;have l:∀tk g s,(JN k v).slots j≠.grd tk g s:=h.nogrd _;generalize (JN k v).slots j=s at e l;cases s<;>first|exact e|grind
    cases q:Nat.blt j 1099511627776 with
    |true=>exact⟨_,rfl,#[_],rfl,_,[],rfl,b _,rfl⟩
    |false=>exact⟨_,rfl,#[_,_],rfl,_,[_],rfl,b _,_,[],rfl,b _,rfl⟩
  .exact h.slots t
 .show WV al (JN k v).slots t≠_;unfold WV;split
  .rename_i j i;unfold RI;cases o:Nat.blt j 1048576 with
   |true=>exact h.nogrd _ tk g s
   |false=>
    grind
  .exact h.nogrd _ tk g s
theorem A2z(I:SimN P N fr st a w G):∀{al:List (Nat×Nat)},RH al st.slots=true->eQ al a:=by
 have U:∀t k g,st.slots t=.obj k g->G.val k g=some (a.tmps.getD t undef):=by
  intro t k g h;have:=I.slots t;rw[h]at this;exact OZ this
 intro al;induction al with
 |nil=>intro _ t j h;cases h
 |cons p r V=>
  intro h t j C;simp only[RH,A6]at h;obtain⟨x,y⟩:=p;simp only[FU]at C;cases q:Nat.beq t x with
  |false=>rw[q]at C;exact V h.2 t j C
  |true=>
   rw[q]at C;have z:=A3 q;have A:y=j:=A2 C;subst z A;have d:=h.1;unfold A1F at d;unfold RX;cases q:Nat.blt y 1048576 with
   |true=>
   rw[q]at d;simp only[A8]at d ⊢;unfold A1E at d;split at d
   .rename_i k g W g' T h2;simp only[A6]at d;grind[Nat.eq_of_beq_eq_true,Option.some.inj]
   .cases d
   |false=>
   rw[q]at d;simp only[AA]at d ⊢
   have same:∀{s:SV} {m:Nat} {v:Value},MZ s (st.slots m)=true->SR P w G s v->v=a.tmps.getD m undef:=by
    intro s m v H J;unfold MZ at H;split at H
    .rename_i k u W u' T;have X:=A3 H;subst X;have D:=I.slots m;rw[T]at D;obtain⟨b,t1,o,b1,b2,b3,b4⟩:=JD (show SR P w G (.ptr k [] u') _ from D);grind[JD,SR]
    .cases H
   cases B:Nat.blt y 1099511627776 with
   |true=>
    rw[B]at d;simp only[A8]at d ⊢;split at d
    .rename_i f s l;simp only[A6]at d;have R:=A3 d.1;have e:=I.slots t;rw[l]at e;obtain⟨c,O,E,z,v,r,A,J,i⟩:=(show SR P w G (.fn f (.scons s .snil)) _ from e);have i:r=[]:=i;subst i;have L:a.tmps.getD t undef=.func (.func f) #[] E:=AB.1 ((show c=[_]from O).symm.trans z);have M:E= #[v]:=by apply CA;exact A
     rw[L,M,R,same d.2 J]
    .cases d
   |false=>
    rw[B]at d;simp only[AA]at d ⊢;split at d
    .rename_i f s Z l;simp only[A6]at d;have R:=A3 d.1;have e:=I.slots t;rw[l]at e;obtain⟨c,O,E,z,v,r,A,J,v',Y,K,Q,i⟩:=(show SR P w G (.fn f (.scons s (.scons Z .snil))) _ from e);have i:Y=[]:=i;subst i;have L:a.tmps.getD t undef=.func (.func f) #[] E:=AB.1 ((show c=[_]from O).symm.trans z);have M:E= #[v,v']:=by apply CA;rw[A,K]
     rw[L,M,R,same d.2.1 J,same d.2.2 Q]
    .cases d
theorem SimN.frz(h:SimN P N fr st a w G)(k:Kp):∃G',GLe w G w G'/\SimN P N fr (K5 k st) a w G':=by
 obtain⟨G',b,d⟩:=Y9 h.mem k.sh (k.tm.map st.slots);exact⟨G',b,λt=>(h.slots t).mono b λ_ _ _ _=>Iff.rfl,h.defs,h.size,h.fix,h.nogrd,d,h.drawn⟩
theorem AGI(z:∀f sp,fs f=some sp->FI P f/\FunOK P f sp){v:TupR k.sh}(d:SimN P N fr st a w G)(h:NY fs k (K5 k st)=some v):
 ∃G',SimN P N fr (JN k v) a w G':=by
 obtain⟨G0,_,d⟩:=d.frz k
 have r:∀t,SR P w G0 (st.slots t) (a.tmps.getD t undef):=by
  intro t;have e:SlotOK P w G0 a (st.slots t) (a.tmps.getD t undef):=d.slots t;have i:∀tk g s,st.slots t≠.grd tk g s:=d.nogrd t;generalize st.slots t=s at e i;cases s<;>first|exact e|grind
 obtain ⟨bs,e,i,y⟩:=P_ d.mem z (vs:=k.tm.map λt=>a.tmps.getD t undef) h oe (λj s v q x=>by
  rw[AV]at q x;cases C:k.tm[j]? with
  |none=>grind
  |some t=>
   rw[C]at q x;cases q;cases x;exact r t)
 refine qT d.defs d.size d.fix d.mem.after d.drawn e i λb A=>?_;obtain⟨D,_,o,B,l⟩:=y b A;exact O6 (d.mem.objs D o B) l
theorem SimN.sr(b:SimN P N fr st a w G)(x:Operand):SR P w G (GR st.slots x) (a.eval x):=by
 have:=A2c (x:=x) (tk:=[]) (λt _=>b.slots t) (RW a)
 have e:(GR st.slots x).strip []=GR st.slots x:=by
  have d:∀tk g s,GR st.slots x≠.grd tk g s:=by
   intro tk g s h;cases x with
   |tmp t=>exact b.nogrd t tk g s h
   |const v=>
    have:=A2b (P:=P) (w:=w) (G:=G) v;rw[show cD v=_ from h]at this;exact this.not_grd
   |func f=>cases h
   |global g=>cases h
  generalize GR st.slots x=s at d;cases s<;>first|rfl|grind
 grind
def LI(P:Program)(dr:Bool)(N:Nat)(ok:Nat->Bool)(E:Env):Code->Nat->Prop
 | .seq a b,n=>match pA E a with
  |some s=>s.wrs.all ok=true/\EJ P dr N s (.seq a b)
  |none=>LI P dr N ok E a n/\LI P dr N ok E b (n+K6 a)
 | .cond c a b,n=>match E.cut n with
  |some s=>s.wrs.all ok=true/\EJ P dr N s (.cond c a b)
  |none=>LI P dr N ok E a (n+1)/\LI P dr N ok E b (n+1+K6 a)
 | .block _ b,n=>LI P dr N ok E b n
 | .loop b,n=>match E.cut n with
  |some s=>s.wrs.all ok=true/\EJ P dr N s (.loop b)
  |none=>True
 |_,_=>True
def I9(E:Env):Code->Nat->List (CSpec×Code)
 | .seq a b,n=>match pA E a with
  |some s=>[(s,.seq a b)]
  |none=>I9 E a n++I9 E b (n+K6 a)
 | .cond c a b,n=>match E.cut n with
  |some s=>[(s,.cond c a b)]
  |none=>I9 E a (n+1)++I9 E b (n+1+K6 a)
 | .block _ b,n=>I9 E b n
 | .loop b,n=>match E.cut n with
  |some s=>[(s,.loop b)]
  |none=>[]
 |_,_=>[]
def AllCuts(P:Program)(dr:Bool)(N:Nat)(ok:Nat->Bool):List (CSpec×Code)->Prop
 |[]=>True
 |p::r=>(p.1.wrs.all ok=true/\EJ P dr N p.1 p.2)/\AllCuts P dr N ok r
theorem AllCuts.append:∀{l a:List (CSpec×Code)},AllCuts P dr N ok (l++a)->AllCuts P dr N ok l/\AllCuts P dr N ok a:=by
 intro l;induction l with
 |nil=>intro a h;exact⟨trivial,h⟩
 |cons p r i=>intro a h;exact⟨⟨h.1,(i h.2).1⟩,(i h.2).2⟩
theorem UI:∀{c:Code} {n:Nat},AllCuts P dr N ok (I9 E c n)->LI P dr N ok E c n:=by
 intro c;induction c with
 |seq a b d e=>
  intro n h;simp only[LI];simp only[I9]at h;split
  .rename_i s j;rw[j]at h;exact h.1
  .rename_i j;rw[j]at h;exact⟨d h.append.1,e h.append.2⟩
 |cond c a b d e=>
  intro n h;simp only[LI];simp only[I9]at h;split at h
  .rename_i s j;exact h.1
  .rename_i j;exact⟨d h.append.1,e h.append.2⟩
 |block i b k=>assumption
 |loop b k=>
  intro n h;simp only[LI];simp only[I9]at h;split at h
  .rename_i s j;exact h.1
  assumption
 |_=>intro n h;trivial
def IJ(ok:Nat->Bool):Code->Bool
 | .seq a b=>IJ ok a&&IJ ok b
 | .cond _ a b=>IJ ok a&&IJ ok b
 | .block _ b=>IJ ok b
 | .loop b=>IJ ok b
 | .region _ ops _=>ops.toList.all λo=>match o.dst with
  |some d=>ok d
  |none=>true
 |_=>true
theorem A30{bs':List Nat}{I':Im}{y:TupR k.sh}(i:SimN P N fr st a w G)(e:BlksOf st.sto G ks bs)
 (h0:∀d,FE d wrs=true->fr.fx d=none)(Y:a'.defers=[])(X:a'.tmps.size=N)(A:∀t,FE t wrs=false->a'.tmps.getD t undef=a.tmps.getD t undef)
 (z:After (·∈bs) w G.im w' I')(J:fr.dr=true->w.drawn<=w'.drawn)(O:ShL P w' I' k.sh y (k.tm.map λt=>a'.tmps.getD t undef) bs')(K:bs'.Nodup)(q:∀b∈bs',b∈bs\/w.heap.size<=b):
 ∃G',SimN P N fr (TN st wrs ks k y) a' w' G':=by
 obtain⟨R,V⟩:=i.mem.called e z
 obtain ⟨G',D,h2,h3,W⟩:=Y5 (n:=st.n) V O K (λb T=>by
  refine⟨?_,λj o L H=>?_⟩
  .rcases q b T with h|h
   .obtain⟨E,_,o,L,r⟩:=e b h;exact O6 (i.mem.objs E o L) r
   .exact .inl (AT i.mem.after.size h)
  .have x:j ∉ ks/\st.sto j=some o:=by
    rw[LH]at L;by_cases B:j∈ks
    .grind
    .grind
   have l:Bk G j o b:=by rw[<-GT (i.mem.objs j o x.2) R];exact H
   rcases q b T with h|h
   .obtain⟨E,hk,o2,M,r⟩:=e b h;have:=i.mem.sep j E o o2 b x.2 M l r;grind
   .have:=IN (i.mem.objs j o x.2) l;omega) (λE D _=>D)
 have C:∀t,SR P w' G' ((TN st wrs ks k y).slots t) (a'.tmps.getD t undef):=by
  intro t;simp only[TN];cases ht:FE t k.tm with
  |true=>
   refine A2v (λj s t' B Z=>?_) t;rw[AV]at B;cases U:(FB k.sh y st.n)[j]? with
   |none=>grind
   |some m=>
    rw[U]at B;cases B;exact W j m _ U oc
  |false=>
   simp only[AA];cases Q:FE t wrs with
   |true=>exact SR.undef _
   |false=>
    simp only[AA];rw[A t Q];exact((i.sr (.tmp t)).mono R).mono D.le
 refine⟨G',λt=>(C t).slotOK,Y,X,λt v hv=>?_,λt tk g s h=>?_,?_,λh=>AT (i.drawn h) (J h)⟩
 .cases Q:FE t wrs with
  |true=>grind
  |false=>rw[A t Q];exact i.fix t v hv
 .have:=C t;rw[h]at this;exact this.not_grd
 .simp only[TN];rw[GI];refine D.mem.shrink λj B=>⟨?_,λhh=>?_⟩<;>grind
theorem AGJ{K:Ex->St->Option Ω}{O:Ω}{e:Exit}{I':Im}(M:SimN P N fr st a w G)(i:BlksOf st.sto G ks bs)
 (q:∀d,FE d wrs=true->fr.fx d=none)(L:a'.defers=[])(J:a'.tmps.size=N)(k:∀t,FE t wrs=false->a'.tmps.getD t undef=a.tmps.getD t undef)(b:After (·∈bs) w G.im w' I')(j:fr.dr=true->w.drawn<=w'.drawn):
 ∀{l:List (Ex×Kp)} {x:G_ l},WZ st wrs ks l x K=some O->eP P w' I' a' e w.heap.size bs l x->
 ∃H s G',e=J2 H/\SimN P N fr s a' w' G'/\K H s=some O:=by
 intro l;induction l with
 |nil=>intro x;exact Empty.elim x
 |cons o r Q=>
  intro x h E;cases r with
  |nil=>
   obtain⟨z,v,A,B,C⟩:=E;obtain⟨G',D⟩:=A30 M i q L J k b j A B C;exact⟨o.1,_,G',z,D,h⟩
  |cons p r=>
   cases x with
   |inl y=>
    obtain⟨z,v,A,B,C⟩:=E;obtain⟨G',D⟩:=A30 M i q L J k b j A B C;exact⟨o.1,_,G',z,D,h⟩
   |inr y=>exact Q (x:=y) h E
theorem A31(i:∀f sp,fs f=some sp->FI P f/\FunOK P f sp){v:TupR k.sh}(e:SimN P N fr st a w G)(h:NY fs k st=some v):
 ∃bs,ShL P w G.im k.sh v (k.tm.map λt=>a.tmps.getD t undef) bs/\bs.Nodup/\BlksOf st.sto G (IH st.sto k.sh (k.tm.map st.slots)) bs:=
 P_ e.mem i (vs:=k.tm.map λt=>a.tmps.getD t undef) h oe (λj s v b d=>by
  rw[AV]at b d;cases l:k.tm[j]? with
  |none=>grind
  |some t=>
   rw[l]at b d;cases b;cases d;exact e.sr (.tmp t))
variable{P:Program}{fr:Fr}{free free':Nat->Prop}{self:Nat}{σ σ':SSo}{w w':World}{G G':Gh}{I:Im}
theorem AGK:∀{caps:List Nat} {l:List SV} {b a:List (Nat×SV)} {vs:List Value},W_ caps l b=some a->vs=caps.map (JE tv pv)->
 (∀(j:Nat) (s:SV) (v:Value),l[j]?=some s->vs[j]?=some v->SR P w G s v)->(∀j s,FU b j=some s->SR P w G s (pv.getD j undef))->∀j s,FU a j=some s->SR P w G s (pv.getD j undef):=by
 intro caps;induction caps with
 |nil=>
  intro l b a vs h _ _ r;cases l with
  |nil=>cases h;exact r
  |cons _ _=>cases h
 |cons c caps z=>
  intro l b a vs h y t r;subst y;cases l with
  |nil=>cases h
  |cons s l=>
   have q:∀(j:Nat) (d:SV) (v:Value),l[j]?=some d->(caps.map (JE tv pv))[j]?=some v->SR P w G d v:=λj d v i x=>t (j+1) d v (by simpa using i) (by simpa using x);simp only[W_]at h;cases k:Nat.blt c 1000000 with
   |true=>grind
   |false=>
    rw[k]at h;have B:¬c<1000000:=λi=>by rw[show Nat.blt c 1000000=true by simpa using i]at k;cases k
    refine z h rfl q λj d o=>?_;rw[UG]at o;by_cases e:j=c-1000000
    .rw[if_pos e]at o;cases o;have A:=t 0 s _ rfl rfl;simp_all[JE,if_neg]
    grind
theorem AGL(C:∀k o,σ k=some o->ObjOK P fr w G k o)(r:∀t,SR P w G (sl t) (tv t)):∀{kn:List Kn} {b a:List (Nat×SV)},cX σ sl kn b=some a->
 (∀q∈kn,KO w G.im tv pv q)->(∀j s,FU b j=some s->SR P w G s (pv.getD j undef))->∀j s,FU a j=some s->SR P w G s (pv.getD j undef):=by
 intro kn;induction kn with
 |nil=>intro b a h _ d;cases h;exact d
 |cons q kn H=>
  intro b a h hk d;simp only[cX]at h;split at h
  .rename_i f c i;cases z:MX c with
   |false=>grind
   |true=>
    rw[z]at h;simp only[A8]at h;split at h
    .rename_i y D;obtain⟨x,k1,J⟩:=A2U C i (r q.p);have E:=hk q AL
     have v:x.toList=q.caps.map (JE tv pv):=by
      unfold KO at E;unfold qB at J
      have I:Value.func (.func f) #[] x=O5 tv pv q->x.toList=q.caps.map (JE tv pv):=by
       intro e;unfold O5 at e;injection e with _ _ e;rw[e]
      cases A:q.bx with
      |true=>
       grind
      |false=>
       grind
     have B:=p_ k1 z;exact H h (λK l=>hk K (AP _ l)) (AGK D v (pZ k1 oa) d)
    .cases h
  .cases h
theorem AGM(q:∀k o,σ k=some o->ObjOK P fr w G k o)(b:∀t,SR P w G (sl t) (tv t))(hx:KxOK w G.im tv pv x){ps:List SV}(h:nS σ sl x=some ps):
 ps.length=pv.length/\∀(j:Nat) (s:SV) (v:Value),ps[j]?=some s->pv[j]?=some v->SR P w G s v:=by
 unfold nS at h;split at h
 .rename_i i a;obtain⟨e,r⟩:=A2V h;rw[D7]at e;have key:=AGL q b a hx.2 (λj s h=>ol);refine⟨by rw[e,hx.1],λj s v d y=>?_⟩;have l:j<ps.length:=(A9.1 d).1;have:=key j s (r j j s (by rw[CY oa]) d);grind
 .cases h
theorem A32(e:∀k o,σ k=some o->ObjOK P fr w G k o)(d:st.sto=σ)(b:∀t,SR P w G (st.slots t) (tv t))(hx:KxOK w G.im tv pv x){vs:List SV}(h:X9 k x st=some vs):
 vs.length=(k.tm.map tv++pv).length/\∀(j:Nat) (s:SV) (v:Value),vs[j]?=some s->(k.tm.map tv++pv)[j]?=some v->SR P w G s v:=by
 unfold X9 at h;split at h
 .rename_i ps a;cases h;subst d;obtain⟨i,l⟩:=AGM e b hx a;grind
 .cases h
theorem AGN(e:∀k o,σ k=some o->ObjOK P fr w G k o)(d:st.sto=σ)(b:∀t,SR P w G (st.slots t) (tv t)){vs:List SV}(h:cY k x st=some vs):
 ∃pv,KxOK w G.im tv pv x/\vs.length=(k.tm.map tv++pv).length/\∀(j:Nat) (s:SV) (v:Value),vs[j]?=some s->(k.tm.map tv++pv)[j]?=some v->SR P w G s v:=by
 unfold cY at h;split at h
 .rename_i ps a;cases h;subst d;obtain⟨pv,l,i,q⟩:=A2W e b a;grind
 .cases h
theorem qV:∀{tm:List Nat} {l:List SV},(∀(j:Nat) (s:SV) (t:Nat),l[j]?=some s->tm[j]?=some t->SR P w G s (tv t))->∀t,SR P w G (KY tm l t) (tv t):=by
 intro tm;induction tm with
 |nil=>grind[KY,SR.undef]
 |cons d tm k=>
  intro l h t;cases l with
  |nil=>grind[KY,SR.undef]
  |cons s l=>
   simp only[KY];cases i:Nat.beq t d with
   |true=>
    have e:=A3 i;subst e;exact h 0 s t rfl rfl
   |false=>exact k (λj o q a b=>h (j+1) o q (by simpa using a) (by simpa using b)) t
theorem AGO:∀{l:List SV} {vs:List Value},l.length=vs.length->(∀(j:Nat) (s:SV) (v:Value),l[j]?=some s->vs[j]?=some v->SR P w G s v)->CR P w G (SV.ofList l) vs:=by
 intro l;induction l with
 |nil=>intro vs h _;exact AM h.symm
 |cons s l i=>
  intro vs h a;cases vs with
  |nil=>cases h
  |cons v vs=>exact⟨v,vs,rfl,a 0 s v rfl rfl,i (by simpa using h) λj e k b d=>a (j+1) e k (by simpa using b) (by simpa using d)⟩
def KeysOK(tv:Nat->Value)(G:Gh):List Kn->Nat->Prop
 |[],_=>True
 |q::r,n=>match q.bx with
  |true=>(∃b,tv q.p=.pointer (some ⟨b,0,none⟩)/\G.box n=some (b,.bool))/\KeysOK tv G r (n+1)
  |false=>KeysOK tv G r n
theorem KeysOK.mono(h:∀k b,G.box k=some b->G'.box k=some b):∀{kn:List Kn} {n:Nat},KeysOK tv G kn n->KeysOK tv G' kn n:=by
 intro kn;induction kn<;>grind[hk,KeysOK]
theorem KeysOK.look:∀{kn:List Kn} {n p k:Nat},KeysOK tv G kn n->FU (HR kn n) p=some k->∃b,tv p=.pointer (some ⟨b,0,none⟩)/\G.box k=some (b,.bool):=by
 intro kn;induction kn with
 |nil=>intro n p k _ h;cases h
 |cons q kn i=>
  intro n p k hk h;unfold KeysOK at hk;unfold HR at h;cases a:q.bx with
  |true=>
   rw[a]at hk h;simp only[A8]at h;rw[UG]at h;grind
  |false=>
   grind
theorem MemS.ghostB(d:MemS P fr free σ w G){k:Nat}(hk:free k)(b:Nat)(t:Ty):
 GLe w G w (G.addBox k b t)/\MemS P fr (λj=>free j/\j≠k) σ w (G.addBox k b t):=by
 have A:=d.fresh k hk
 have a:GLe w G w (G.addBox k b t):=by
  refine⟨Ext.refl _ _,λj g u h=>h,λj t h=>h,λj s h=>?_⟩;have:j≠k:=λe=>oc
  simp only[Gh.addBox,if_neg this];exact h
 refine⟨a,λj o h=>(d.objs j o h).keep a λb _=>⟨rfl,λ_ h=>h,λh=>h⟩,λi j x y s v r l q=>?_,d.after,λj r=>?_⟩
 .rw[GT (d.objs i x v) a]at l;rw[GT (d.objs j y r) a]at q;exact d.sep i j x y s v r l q
 .have z:=d.fresh j r.1;simp_all[Gh.addBox,if_neg]
theorem AGP:∀{kn:List Kn} {n:Nat} {G:Gh} {free:Nat->Prop},MemS P fr free σ w G->(∀q∈kn,KO w G.im tv pv q)->(∀k,n<=k->k<n+(HR kn n).length->free k)->
 ∃G',GLe w G w G'/\G'.im=G.im/\MemS P fr (λj=>free j/\¬(n<=j/\j<n+(HR kn n).length)) σ w G'/\KeysOK tv G' kn n:=by
 intro kn;induction kn with
 |nil=>intro n G free r _ _;exact⟨G,GLe.refl _ _,rfl,r.shrink λj h=>h.1,trivial⟩
 |cons q kn D=>
  intro n G free r hk a;have s:=hk q AL;have o:∀t∈kn,KO w G.im tv pv t:=λt h=>hk t (AP _ h);unfold KO at s;cases i:q.bx with
  |true=>
   rw[i]at s;obtain⟨b,z,_⟩:=s;have d:(HR (q::kn) n).length=(HR kn (n+1)).length+1:=by simp[HR,i]
   rw[d]at a ⊢;obtain⟨x,y⟩:=r.ghostB (a n (AH _) oa) b .bool;obtain⟨G',v,A,B,C⟩:=D (n:=n+1) y o (λk x y=>⟨a k oa oa,oa⟩);refine⟨G',x.trans v,A,B.shrink λj l=>⟨⟨l.1,λe=>l.2 ⟨oa,oa⟩⟩,λe=>l.2 ⟨oa,oa⟩⟩,?_⟩;unfold KeysOK;rw[i];exact⟨⟨b,z,v.box _ _ (by simp[Gh.addBox])⟩,C⟩
  |false=>
   simp_all[HR,KeysOK]
theorem A33{kn:List Kn}(d:svs.length=(tm.map tv++pv).length)(e:∀(j:Nat) (s:SV) (v:Value),svs[j]?=some s->(tm.map tv++pv)[j]?=some v->SR P w G s v)
 (hk:KeysOK tv G kn n)(c:Nat):SR P w G (X8 tm svs (HR kn n) c) (JE tv pv c):=by
 unfold X8 JE;by_cases h:c<1000000
 .rw[if_pos h,show Nat.blt c 1000000=true by simpa using h];simp only[A8];split
  .rename_i k a;obtain⟨b,i,l⟩:=hk.look a;rw[i];exact⟨_,rfl,b,.bool,0,l,rfl,⟨.bool,rfl,rfl⟩,rfl⟩
  .exact qV (λj s t q x=>e j s _ q (by
    grind)) c
 .rw[if_neg h,show Nat.blt c 1000000=false by rw[<-BX];simpa using h];simp only[AA];rcases CU (tm.length+(c-1000000)) svs.length with r|o
  .refine e (tm.length+(c-1000000)) _ _ ?_ ?_<;>simp_all
  simp_all[AD,B5,BY,SR.undef]
theorem AGQ{kn:List Kn}(h:svs.length=(tm.map tv++pv).length)(d:∀(j:Nat) (s:SV) (v:Value),svs[j]?=some s->(tm.map tv++pv)[j]?=some v->SR P w G s v)
 (hk:KeysOK tv G kn n)(q:Kn):CR P w G (TQ tm svs (HR kn n) q) (q.caps.map (JE tv pv)):=
 AGO oe λj s v a b=>by
  rw[AV]at a b;grind[A33]
theorem AGR(o:∀q,CR P w G (TQ tm svs ky q) (q.caps.map (JE tv pv))):
 ∀{kn:List Kn} {n:Nat},MemS P fr free σ w G->(∀q∈kn,KO w G.im tv pv q)->KeysOK tv G kn n->(∀k,n<=k->k<n+(HR kn n).length->¬free k)->MemS P fr free (EN σ (N0 tm svs ky kn n)) w G:=by
 intro kn;induction kn with
 |nil=>intro n s _ _ _;exact s
 |cons q kn B=>
  intro n s hk a d;have t:=hk q AL;have r:∀v∈kn,KO w G.im tv pv v:=λv h=>hk v (AP _ h);unfold KO at t;unfold KeysOK at a;cases i:q.bx with
  |true=>
   rw[i]at t a;obtain⟨b,y,z,A⟩:=t;obtain⟨⟨C,e,x⟩,a⟩:=a;rw[y]at e;injection e with e;injection e with e;injection e with e _ _;subst e;have j:(HR (q::kn) n).length=(HR kn (n+1)).length+1:=by simp[HR,i]
   rw[j]at d;have l:N0 tm svs ky (q::kn) n=[(n,some (.kn q.f (TQ tm svs ky q)))]++N0 tm svs ky kn (n+1):=by simp[N0,i]
   rw[l,GI];exact(B s r a (λk D E=>d k oa oa)).backO ⟨b,_,x,z,A,oc⟩ (d n (AH _) oa) λb i=>i.elim
  |false=>
   grind[HR,N0]
theorem AGS(i:∀q,CR P w G (TQ tm svs ky q) (q.caps.map (JE tv pv)))(a:∀c,SR P w G (X8 tm svs ky c) (JE tv pv c)):
 ∀{kn:List Kn} {t:Nat} {s:SV},(∀q∈kn,KO w G.im tv pv q/\q.p<1000000)->TR tm svs ky kn t=some s->SR P w G s (tv t):=by
 intro kn;induction kn with
 |nil=>intro t s _ h;cases h
 |cons q kn l=>
  intro t s hk h;simp only[TR]at h;cases j:Nat.beq t q.p with
  |false=>grind
  |true=>
   rw[j]at h;have e:=A3 j;simp only[A8,AO]at h;subst h;obtain⟨b,k⟩:=hk q AL;cases d:q.bx with
   |true=>
    simp only[A8];have:=a q.p;simp_all[JE,if_pos]
   |false=>
    simp only[AA];unfold KO at b;rw[d]at b;have b:tv q.p=O5 tv pv q:=b;rw[e,b];exact⟨_,rfl,_,rfl,oc⟩
theorem A34(h:O0 x=true):∀q∈x.kn,q.p<1000000:=λq a=>by
 simp_all[O0,BV]
theorem A35(D:MemS P fr free σ w G)(hx:KxOK w G.im tv pv x)(d:O0 x=true)(a:svs.length=(tm.map tv++pv).length)
 (E:∀(j:Nat) (s:SV) (v:Value),svs[j]?=some s->(tm.map tv++pv)[j]?=some v->SR P w G s v)(b:∀k,n<=k->k<n+(HR x.kn n).length->free k):
 ∃G',GLe w G w G'/\G'.im=G.im/\MemS P fr (λj=>free j/\¬(n<=j/\j<n+(HR x.kn n).length)) (EN σ (N0 tm svs (HR x.kn n) x.kn n)) w G'/\
  ∀t s,TR tm svs (HR x.kn n) x.kn t=some s->SR P w G' s (tv t):=by
 obtain⟨G',z,A,C,o⟩:=AGP D hx.2 b;have e:∀(j:Nat) (s:SV) (v:Value),svs[j]?=some s->(tm.map tv++pv)[j]?=some v->SR P w G' s v:=λj s v r y=>(E j s v r y).mono z;have i:∀q∈x.kn,KO w G'.im tv pv q:=λq l=>by rw[A];exact hx.2 q l
 have B:=AGQ a e o;exact⟨G',z,A,AGR B C i o (λk r y h=>h.2 ⟨r,y⟩),λt s h=>AGS B (A33 a e o) (λq l=>⟨i q l,A34 d q l⟩) h⟩
theorem qW{v:TupR k.sh}(T:a.defers=[])(Q:a.tmps.size=N)(D:∀t v,fr.fx t=some v->a.tmps.getD t undef=v)(A:After fr.gv fr.w0 fr.i0 w I)(C:fr.dr=true->fr.w0.drawn<=w.drawn)
 (hx:KxOK w I (λt=>a.tmps.getD t undef) pv x)(q:O0 x=true)(h:ShL P w I k.sh v ((k.tm.map λt=>a.tmps.getD t undef)++pv) bs)(H:bs.Nodup)(B:∀b∈bs,fr.owned b):∃G',SimN P N fr (TT k x v) a w G':=by
 let G0:Gh:=⟨I,λ_ _=>none,λ_=>none,λ_=>none⟩
 have E:MemS P fr (λ_=>True) (λ_=>none) w G0:=⟨λk o h=>(ol),λj k o o' b h=>(ol),A,λk _=>⟨rfl,rfl,rfl,λ_=>rfl⟩⟩;obtain⟨G1,z,K,O,X⟩:=Y5 (n:=0) (G:=G0) E h H (λb R=>⟨B b R,λj o h=>(ol)⟩) (λ_ _ _=>trivial);have l:((FB k.sh v 0).map (·.sv)).length=((k.tm.map λt=>a.tmps.getD t undef)++pv).length:=by rw[AN,O,K]
 have y:∀(j:Nat) (s:SV) (J:Value),((FB k.sh v 0).map (·.sv))[j]?=some s->((k.tm.map λt=>a.tmps.getD t undef)++pv)[j]?=some J->SR P w G1 s J:=by
  intro j s J d hv;rw[AV]at d;cases Y:(FB k.sh v 0)[j]? with
  |none=>grind
  |some m=>grind
 have U:M0 (FB k.sh v 0) 0=0+GF k.sh:=A2x;obtain⟨G2,L,V,M,W⟩:=A35 (n:=M0 (FB k.sh v 0) 0) z.mem (by rw[z.im];exact hx) q l y (λj z K=>⟨trivial,oa⟩)
 have r:∀t,SR P w G2 ((TT k x v).slots t) (a.tmps.getD t undef):=by
  intro t;show SR P w G2 (nU _ _ _ _ t) _;unfold nU;split
  .grind
  .exact qV (tv:=λt=>a.tmps.getD t undef) (λj s t d Z=>(y j s _ d (by
    grind)).mono L) t
 refine⟨G2,λt=>(r t).slotOK,T,Q,D,λt tk g s h=>?_,?_,C⟩
 .have:=r t;rw[h]at this;exact this.not_grd
 .have e:(TT k x v).sto=EN (λ_=>none) (N0 k.tm ((FB k.sh v 0).map (·.sv)) (HR x.kn (M0 (FB k.sh v 0) 0)) x.kn (M0 (FB k.sh v 0) 0)++(FB k.sh v 0).flatMap (·.obs)):=funext λi=>A2w _ i;rw[e,GI];refine M.shrink λj d=>?_;have d:M0 (FB k.sh v 0) 0+(HR x.kn (M0 (FB k.sh v 0) 0)).length<=j:=d;grind
theorem A36:∀{kn:List Kn},N_ wrs kn=true->∀q∈kn,FE q.p wrs=false/\∀c∈q.caps,c<1000000->FE c wrs=false:=by
 intro kn;induction kn with
 |nil=>simp
 |cons q kn i=>
  intro h j a;simp only[N_,A6,BP]at h;rcases B2.1 a with rfl|a
  .refine⟨h.1.1,λc d e=>?_⟩;have:=BV.1 h.1.2 c d;simp only[BK,BP]at this;rcases this with b|b
   .have:=C9 b;omega
   .exact b
  grind
theorem A37{bs':List Nat}{I':Im}{y:TupR k.sh}(l:SimN P N fr st a w G)(e:BlksOf st.sto G ks bs)
 (h0:∀d,FE d wrs=true->fr.fx d=none)(hd:a'.defers=[])(hN:a'.tmps.size=N)(i:∀t,FE t wrs=false->a'.tmps.getD t undef=a.tmps.getD t undef)
 (hx:KxOK w G.im (λt=>a.tmps.getD t undef) pv x)(J:O0 x=true)(Z:N_ wrs x.kn=true)
 (r:After (·∈bs) w G.im w' I')(Q:fr.dr=true->w.drawn<=w'.drawn)(W:ShL P w' I' k.sh y ((k.tm.map λt=>a'.tmps.getD t undef)++pv) bs')(T:bs'.Nodup)(A:∀b∈bs',b∈bs\/w.heap.size<=b):
 ∃G',SimN P N fr (TU st wrs ks x k y) a' w' G':=by
 obtain⟨g1,g2⟩:=l.mem.called e r
 obtain ⟨G1,D,h2,h3,h4⟩:=Y5 (n:=st.n) g2 W T (λb hb=>by
  refine⟨?_,λj o U O=>?_⟩
  .rcases A b hb with h|h
   .obtain⟨M,_,o,U,B⟩:=e b h;exact O6 (l.mem.objs M o U) B
   .exact .inl (AT l.mem.after.size h)
  .have C:j ∉ ks/\st.sto j=some o:=by
    rw[LH]at U;by_cases E:j∈ks
    .grind
    .grind
   have z:Bk G j o b:=by rw[<-GT (l.mem.objs j o C.2) g1];exact O
   rcases A b hb with h|h
   .obtain⟨M,hk,o2,V,B⟩:=e b h;have:=l.mem.sep j M o o2 b C.2 V z B;grind
   .have:=IN (l.mem.objs j o C.2) z;omega) (λM D _=>D)
 have H:((FB k.sh y st.n).map (·.sv)).length=((k.tm.map λt=>a'.tmps.getD t undef)++pv).length:=by rw[AN,h3,h2]
 have L:∀(j:Nat) (s:SV) (v':Value),((FB k.sh y st.n).map (·.sv))[j]?=some s->((k.tm.map λt=>a'.tmps.getD t undef)++pv)[j]?=some v'->SR P w' G1 s v':=by
  intro j s v' E hv;rw[AV]at E;cases hm:(FB k.sh y st.n)[j]? with
  |none=>grind
  |some m=>grind
 have Y:KxOK w' G1.im (λt=>a'.tmps.getD t undef) pv x:=by
  rw[D.im];refine hx.ext r.ext λq hq=>?_;obtain⟨q1,q2⟩:=A36 Z q hq;exact⟨i _ q1,λc hc R=>i _ (q2 c hc R)⟩
 obtain⟨G2,d1,d2,d3,d4⟩:=A35 (n:=st.n+GF k.sh) D.mem Y J H L (λj D h2=>⟨oa,oa⟩)
 have K:∀t,SR P w' G2 ((TU st wrs ks x k y).slots t) (a'.tmps.getD t undef):=by
  intro t;simp only[TU];split
  .grind
  .cases ht:FE t k.tm with
   |true=>
    exact qV (tv:=λt=>a'.tmps.getD t undef) (λj s t E ht=>(L j s _ E (by
     grind)).mono d1) t
   |false=>
    simp only[AA];cases X:FE t wrs with
    |true=>exact SR.undef _
    |false=>
     simp only[AA];rw[i t X];exact(((l.sr (.tmp t)).mono g1).mono D.le).mono d1
 refine⟨G2,λt=>(K t).slotOK,hd,hN,λt v hv=>?_,λt tk g s h=>?_,?_,λh=>AT (l.drawn h) (Q h)⟩
 .cases X:FE t wrs with
  |true=>grind
  |false=>rw[i t X];exact l.fix t v hv
 .have:=K t;rw[h]at this;exact this.not_grd
 .simp only[TU];rw[GI,GI];refine d3.shrink λj E=>?_;omega
theorem AGT{K:Ex->St->Option Ω}{R:Ω}{e:Exit}{I':Im}(Q:SimN P N fr st a w G)(i:BlksOf st.sto G ks bs)
 (s:∀d,FE d wrs=true->fr.fx d=none)(O:a'.defers=[])(M:a'.tmps.size=N)(q:∀t,FE t wrs=false->a'.tmps.getD t undef=a.tmps.getD t undef)
 (hx:KxOK w G.im (λt=>a.tmps.getD t undef) pv x)(j:O0 x=true)(v:N_ wrs x.kn=true)(b:After (·∈bs) w G.im w' I')(k:fr.dr=true->w.drawn<=w'.drawn):
 ∀{l:List (Ex×Kp)} {y:G_ l},nV st wrs ks x l y K=some R->eR P w' I' a' e w.heap.size bs pv l y->
 ∃L z G',e=J2 L/\SimN P N fr z a' w' G'/\K L z=some R:=by
 intro l;induction l with
 |nil=>intro y;exact Empty.elim y
 |cons o r T=>
  intro y h J;cases r with
  |nil=>
   obtain⟨B,A,C,D,E⟩:=J;obtain⟨G',H⟩:=A37 Q i s O M q hx j v b k C D E;exact⟨o.1,_,G',B,H,h⟩
  |cons p r=>
   cases y with
   |inl y=>
    obtain⟨B,A,C,D,E⟩:=J;obtain⟨G',H⟩:=A37 Q i s O M q hx j v b k C D E;exact⟨o.1,_,G',B,H,h⟩
   |inr y=>exact T (y:=y) h J
variable{P:Program}{fr:Fr}{free free':Nat->Prop}{self:Nat}{σ σ':SSo}{w w':World}{G G':Gh}{I:Im}
theorem qX(hE:EnvOK P fr.dr E){s:CSpec}(D:∀d,FE d s.wrs=true->fr.fx d=none)(hc:EJ P fr.dr N s c){K:Ex->St->Option Ω}{ω:Ω}
 (h:XT E s st K=some ω)(b:SimN P N fr st a w G)(hQ:∀e i a' w' G',SimN P N fr i a' w' G'->K e i=some ω->Q (J2 e) a' w'):c.wp P Q a w:=by
 unfold XT at h;unfold EJ at hc;cases B:s.kx with
 |some x=>
 rw[B]at h hc;simp only at h hc;unfold A1T at h;split at h
 .rename_i vs h5
  obtain⟨V,C,U⟩:N_ s.wrs x.kn=true/\O0 x=true/\cY s.inn x st=some vs:=by
   grind
  split at h
  .rename_i v T;obtain⟨y,L,A⟩:=A_.1 h;obtain⟨pv,e0,e1,e2⟩:=AGN (λk o h=>b.mem.objs k o h) rfl (λt=>b.sr (.tmp t)) U;obtain⟨G1,r,z⟩:=Y9 b.mem s.inn.sh vs;have R:SimN P N fr (nW s.inn vs st) a w G1:=⟨λt=>(b.slots t).mono r λ_ _ _ _=>Iff.rfl,b.defs,b.size,b.fix,b.nogrd,z,b.drawn⟩;have H:KxOK w G1.im (λt=>a.tmps.getD t undef) pv x:=e0.ext r.ext λq _=>⟨rfl,λ_ _ _=>rfl⟩;obtain⟨bs,W,X,Y⟩:=P_ z hE.fs (vs:=(s.inn.tm.map λt=>a.tmps.getD t undef)++pv) T e1 (λj s v L A=>(e2 j s v L A).mono r);refine wp_mono (hc w G1.im a v bs pv z.after.mem b.defs b.size H W X y L) λe a' w' O=>?_;obtain⟨Z,q2,J,qd,I',q4,q5⟩:=O;obtain⟨e',i,G',rfl,h3,h4⟩:=AGT R Y D Z q2 J H C V q4 qd A q5;grind
  .cases h
 .cases h
 |none=>
 rw[B]at h hc;simp only at h hc;split at h
 .rename_i v h7
  obtain⟨l,T⟩:RH s.al st.slots=true/\NY E.fs s.inn (K5 s.inn st)=some v:=by
   grind
  have l:=A2z b l;obtain⟨G,_,b⟩:=b.frz s.inn;obtain⟨bs,W,X,Y⟩:=A31 hE.fs b T;have hc:=hc w G.im a v bs b.mem.after.mem b.defs b.size l W X
  have h6:∀x,(WZ (K5 s.inn st) s.wrs (IH (K5 s.inn st).sto s.inn.sh (s.inn.tm.map st.slots)) s.outs x λe i=>K e (WY s.al s.wrs i))=some ω->∀e a' w',YB P fr.dr N s x a w G.im bs e a' w'->Q e a' w':=by
   intro x A e a' w' O;obtain⟨Z,q2,J,qd,I',q4,q5⟩:=O;obtain⟨e',i,G',rfl,h3,h4⟩:=AGJ b Y D Z q2 J q4 qd A q5;exact hQ e' _ a' w' G' (AGH h3 l J) h4
  cases M:s.nd with
  |none=>
   grind[Option.bind_eq_some_iff,wp_mono]
  |some d=>
   rw[M]at h hc;have h0:=ADI h;grind[wp_mono,Option.bind_eq_some_iff]
 .cases h
theorem UJ(T:EnvOK P fr.dr E)(D:P.follows .mixedOrders=true)(H:∀d,ok d=true->d<N/\fr.fx d=none):
 ∀(c:Code) (n:Nat) (st:St) (a:Act) (w:World) (G:Gh) (K:Ex->St->Option Ω) (v:Ω) (Q:Exit->Act->World->Prop),
 IJ ok c=true->LI P fr.dr N ok E c n->KL E c n st K=some v->SimN P N fr st a w G->(∀e s a' w' G',SimN P N fr s a' w' G'->K e s=some v->Q (J2 e) a' w')->c.wp P Q a w:=by
 have O:∀{l:List Nat},l.all ok=true->∀d,FE d l=true->fr.fx d=none:=by
  intro l h d A;rw[BV]at h;exact(H d (h d (PZ.1 A))).2
 intro c;induction c with
 |skip=>intro n st a w G K v Q _ _ h r k;exact wp_skip (k .normal st a w G r h)
 |region id ops M=>
  intro n st a w G K v Q A _ h r k;refine AGG T D (λj o d V W=>?_) h r λs a' w' G' q z=>k .normal s a' w' G' q z;grind[IJ,List.all_eq_true,List.mem_of_getElem?]
 |seq x y J L=>
  intro n st a w G K v Q A B h r k;simp only[IJ,A6]at A;grind[KL,LI,qX,wp_seq,qR]
 |cond c x y J L=>
  intro n st a w G K v Q A B h r k;simp only[IJ,A6]at A;simp only[KL]at h;simp only[LI]at B;split at h
  .grind[qX]
  .rename_i C;rw[C]at B;split at h
   .rename_i t U;have I:=r.sr c;rw[U]at I;have I:=I.bool;cases t<;>grind[wp_cond_true,wp_cond_false]
   .cases h
 |block id b R=>
  intro n st a w G K v Q A B h r k;refine wp_block (R n st a w G _ v _ A B h r λe s a' w' G' q z=>?_);cases e with
  |normal=>exact k .normal s a' w' G' q z
  |ret=>exact k .ret s a' w' G' q z
  |exit i=>
   simp only[J2,Exit.inBlock];simp only at z;by_cases e:i=id
   .subst e;rw[if_pos rfl];rw[DC]at z;exact k .normal s a' w' G' q z
   .rw[if_neg e];rw[show Nat.beq i id=false by rw[<-BX];simp_all]at z;exact k (.exit i) s a' w' G' q z
 |loop b R=>
  grind[KL,LI,qX]
 |exit i=>intro n st a w G K v Q _ _ h r k;exact wp_exit (k (.exit i) st a w G r h)
 |ret=>intro n st a w G K v Q _ _ h r k;exact wp_ret (k .ret st a w G r h)
 |_=>intro n st a w G K v Q _ _ h;cases h
theorem AGU(D:EnvOK P fr.dr E)(s:SimN P N fr st a w G)(H:∀b,fr.gv b->b∈bs):∀{l:List (Ex×Kp)} {x:G_ l},outPut E.fs l e st=some x->
 ∃I,After fr.gv fr.w0 fr.i0 w I/\eP P w I a (J2 e) fr.w0.heap.size bs l x:=by
 have j:∀{e z:Ex},outPut.sameEx e z=true->z=e:=by
  intro e z h;cases e<;>cases z<;>first|rfl|cases h|skip
  have h:Nat.beq _ _=true:=h;rw[A3 h]
 have v:∀{o:Ex×Kp} {y:TupR o.2.sh},outPut.sameEx o.1 e=true->NY E.fs o.2 (K5 o.2 st)=some y->
  ∃I,After fr.gv fr.w0 fr.i0 w I/\J2 e=J2 o.1/\∃d,ShL P w I o.2.sh y (o.2.tm.map λt=>a.tmps.getD t undef) d/\d.Nodup/\∀b∈d,b∈bs\/fr.w0.heap.size<=b:=by
  intro o y B C;obtain⟨G0,_,s⟩:=s.frz o.2;obtain⟨d,k1,L,M⟩:=A31 D.fs s C;refine⟨G0.im,s.mem.after,by rw[j B],d,k1,L,λb i=>?_⟩;obtain⟨k,_,O,J,A⟩:=M b i;rcases O6 (s.mem.objs k O J) A with h|h
  .exact .inr h
  .grind
 intro l;induction l with
 |nil=>intro x h;cases h
 |cons o r K=>
  intro x h;cases r with
  |nil=>
   simp only[outPut]at h;cases i:outPut.sameEx o.1 e with
   |false=>rw[i]at h;cases h
   |true=>rw[i]at h;exact v i h
  |cons p r=>
   simp only[outPut]at h;cases i:outPut.sameEx o.1 e with
   |false=>
    rw[i]at h;simp only[AA]at h;cases q:outPut E.fs (p::r) e st with
    |none=>grind
    |some y=>
     rw[q]at h;cases h;exact K q
   |true=>
    rw[i]at h;simp only[A8]at h;cases q:NY E.fs o.2 (K5 o.2 st)with
    |none=>grind
    |some y=>
     rw[q]at h;cases h;exact v i q
def J3(N:Nat)(wrs:List Nat)(d:Nat):Bool:=Nat.blt d N&&FE d wrs
def LJ(dr:Bool)(wrs bs:List Nat)(a:Act)(w:World)(I:Im):Fr:=⟨(·∈bs),w,I,λt=>if FE t wrs then none else some (a.tmps.getD t undef),dr⟩
theorem eS:∀d,J3 N wrs d=true->d<N/\(LJ dr wrs bs a w I).fx d=none:=by
 simp_all[J3,A6,B_,LJ]
theorem A38{v:TupR inn.sh}(l:HY w I)(k:a.defers=[])(i:a.tmps.size=N)(e:ShL P w I inn.sh v (inn.tm.map λt=>a.tmps.getD t undef) bs)(d:bs.Nodup):
 ∃G,SimN P N (LJ dr wrs bs a w I) (JN inn v) a w G:=
 qT k i (λt v h=>by
  have h:(if FE t wrs=true then none else some (a.tmps.getD t undef))=some v:=h;grind) (After.refl l) (λ_=>AH _) e d λb j=>.inr j
theorem eT(i:EnvOK P dr E){s:CSpec}{x:G_ s.outs}{d:Act}(b:SimN P N (LJ dr s.wrs bs d w0 I) st a w G)(h:outPut E.fs s.outs e st=some x):
 YB P dr N s x d w0 I bs (J2 e) a w:=
 ⟨b.defs,b.size,λt j=>b.fix t _ (by simp[LJ,j]),b.drawn,AGU i b (λ_ h=>h) h⟩
theorem AGV(k:EnvOK P dr E)(b:P.follows .mixedOrders=true){c:Operand}{x y:Code}{s:CSpec}
 (q:IJ (J3 N s.wrs) (.cond c x y)=true)(hx:AllCuts P dr N (J3 N s.wrs) (I9 E x (n+1)))(M:AllCuts P dr N (J3 N s.wrs) (I9 E y (n+1+K6 x)))
 (K:s.nd=none)(A:s.kx=none)(hF:∀v r,s.F v=some r->dP E c x y n s.al s.inn s.outs v=some r):EJ P dr N s (.cond c x y):=by
 unfold EJ;rw[A];intro w I a v bs J z H o C B;rw[K];intro r h;have h:=hF v r h;obtain⟨G,i⟩:=A38 (wrs:=s.wrs) J z H C B;have i:=qU i o;simp only[IJ,A6]at q;unfold dP at h;split at h
 .rename_i t L;have j:=i.sr c;rw[L]at j;have j:=j.bool;cases t with
  |true=>exact wp_cond_true j (UJ k b eS _ _ _ a w G _ r _ q.1 (UI hx) h i λe D a' w' G' d l=>eT k d l)
  |false=>exact wp_cond_false j (UJ k b eS _ _ _ a w G _ r _ q.2 (UI M) h i λe D a' w' G' d l=>eT k d l)
 .cases h
theorem AGW(t:EnvOK P dr E)(o:P.follows .mixedOrders=true){F:Nat->TupR inn.sh->Option (G_ outs)}
 (J:IJ (J3 N wrs) body=true)(hc:AllCuts P dr N (J3 N wrs) (I9 E body n))(R:∀v,F 0 v=none)(hF:∀k v r,F (k+1) v=some r->pB E body n al inn outs (F k) v=some r)(m:Nat):
 EJ P dr N ⟨inn,outs,wrs,F m,al,none,none⟩ (.loop body):=by
 intro w0 I x Q bs K z H y B A r h;obtain⟨G0,d⟩:=A38 (wrs:=wrs) K z H B A;have d:=qU d y;refine wp_loop_rounds m ?_
 have key:∀k v a w G,F k v=some r->SimN P N (LJ dr wrs bs x w0 I) (TM al inn v) a w G->Code.rounds P body (YB P dr N ⟨inn,outs,wrs,F m,al,none,none⟩ r x w0 I bs) k a w:=by
  intro k;induction k with
  |zero=>grind
  |succ k O=>
   intro v a w G h L;rw[rounds_succ];refine UJ t o eS _ _ _ a w G _ r _ J (UI hc) (hF k v r h) L λe s a' w' G' b j=>qR ?_;cases e with
   |normal=>
    simp only at j;split at j
    .rename_i D M
     obtain⟨l,C⟩:RH al s.slots=true/\NY E.fs inn (K5 inn s)=some D:=by
      grind
     obtain⟨G'',q⟩:=AGI t.fs b C;exact O D a' w' G'' j (qU q (A2z b l))
    .cases j
   |exit i=>exact eT (s:=⟨inn,outs,wrs,F m,al,none,none⟩) t b j
   |ret=>exact eT (s:=⟨inn,outs,wrs,F m,al,none,none⟩) t b j
 exact key m Q x w0 G0 h d
end
section
variable{P:Program}{fr:Fr}{free free':Nat->Prop}{self:Nat}{σ σ':SSo}{w w':World}{G G':Gh}{I:Im}
def HH:List Sh->Nat->List Nat
 |[],_=>[]
 | .box _::ps,i=>i::HH ps (i+1)
 | .io _ _::ps,i=>i::HH ps (i+1)
 | .bld _ false::ps,i=>i::HH ps (i+1)
 |_::ps,i=>HH ps (i+1)
theorem ShL.length:∀{l:List Sh} {x:TupR l} {vs:List Value} {bs:List Nat},ShL P w I l x vs bs->vs.length=l.length:=by
 intro l;induction l with
 |nil=>intro x vs bs h;rw[h.1];rfl
 |cons a l i=>
  intro x vs bs h;cases l with
  |nil=>obtain⟨v,rfl,_⟩:=h;rfl
  |cons b l=>
   obtain⟨v,e,j,k,rfl,_,_,d⟩:=h;simp[i d]
theorem SimN.slot(h:SimN P N fr st a w G)(t:Nat):SR P w G (st.slots t) (a.tmps.getD t undef):=h.sr (.tmp t)
theorem AGX{id:Nat}{z:Value}(h:(Instr.loadAt id v).run P w=.ok z w):(asAddr v >>=loadVar id).run P w=.ok z w:=by
 cases v with
 |pointer a=>
  cases a with
  |none=>simp[Instr.loadAt,Instr.sureAddr,stuck]at h
  |some a=>exact h
 |_=>simp[Instr.loadAt,Instr.sureAddr,stuck]at h
def YC(tmps:Array Value):ResultVar->Sem Value
 | .tmp t=>pure (tmps.getD t undef)
 | .cell a t=>do loadVar t (<-asAddr (tmps.getD a undef))
theorem AGY(y:EnvOK P fr.dr E)(e:SimN P N fr st a w G):∀{l:List ResultVar} {ss:List SV},O2 E.ty E.wr st l=some ss->
 ∃d:List Value,(l.mapM (YC a.tmps)).run P w=.ok d w/\
  d.length=l.length/\ss.length=l.length/\∀(j:Nat) (s:SV) (v:Value),ss[j]?=some s->d[j]?=some v->SR P w G s v:=by
 intro l;induction l with
 |nil=>
  intro ss h;cases h;simp
 |cons r l H=>
  intro ss h;cases r with
  |tmp t=>
   simp only[O2]at h;split at h
   .rename_i x b;cases h;obtain⟨d,I,o,q,J⟩:=H b;refine⟨a.tmps.getD t undef::d,?_,by simp[o],by simp[q],λj s v A C=>?_⟩
    .simp_all[List.mapM_cons,YC,Sem.run_bind,Sem.run_pure,Result.andThen_ok]
    .cases j with
     |zero=>cases A;cases C;exact e.slot t
     |succ j=>grind
   .cases h
  |cell i t=>
   simp only[O2]at h;split at h
   .rename_i u B;split at h
    .rename_i K k;split at h
     .rename_i x b;cases h;obtain⟨d,I,o,q,J⟩:=H b
      obtain⟨z,k1,L⟩:∃z,(Instr.loadAt t (a.tmps.getD i undef)).run P w=.ok z w/\SR P w G K z:=by
       cases D:E.wr i with
       |true=>rw[D]at k;exact A1p (y.ty _ _ B) e.mem.objs k (e.slot i)
       |false=>rw[D]at k;exact A1m (y.ty _ _ B) e.mem.objs k (e.slot i)
      have k1:=AGX k1;refine⟨z::d,?_,by simp[o],by simp[q],λj s v A C=>?_⟩
      .rw[List.mapM_cons];grind[YC,Sem.run_bind,Sem.run_pure,Result.andThen_ok]
      grind
     .cases h
    .cases h
   .cases h
theorem A39(x:EnvOK P fr.dr E)(y:SimN P N fr st a w G){ss:List SV}(h:O2 E.ty E.wr st fn.results.toList=some ss):
 ∃(vs:List Value) (r:Value),(results fn a.tmps).run P w=.ok r w/\KN vs r/\vs.length=fn.results.toList.length/\ss.length=fn.results.toList.length/\
  ∀(j:Nat) (s:SV) (v:Value),ss[j]?=some s->vs[j]?=some v->SR P w G s v:=by
 obtain⟨vs,k,l,o,q⟩:=AGY x y h
 have b:(results fn a.tmps).run P w=.ok (if h:vs.toArray.size=1 then vs.toArray[0]else .tuple vs.toArray) w:=by
  have d:(fn.results.mapM (YC a.tmps)).run P w=.ok vs.toArray w:=by
   rw[Array.mapM_eq_mapM_toList];simp only[Sem.run_map,k,Result.andThen_ok]
  unfold results
  have e:(fn.results.mapM λ| .tmp t=>(pure (a.tmps.getD t undef):Sem Value)| .cell i t=>do loadVar t (<-asAddr (a.tmps.getD i undef)))=fn.results.mapM (YC a.tmps):=by
   congr 1
  simp only[Sem.run_bind]
  erw[e,d]
  rfl
 refine⟨vs,_,b,?_,l,o,q⟩;rcases vs with _|⟨v,_|⟨z,vs⟩⟩<;>grind[KN]
theorem AGZ{slots:Nat->SV}{tmps:Array Value}(D:∀t,SR P w G (slots t) (tmps.getD t undef)):∀{ps:List Sh} {i:Nat} {vals:List Value},vals.length=ps.length->
 (∀j v,vals[j]?=some v->FE (i+j) (HH ps i)=true->tmps.getD (i+j) undef=v)->
 (HB ps ((List.range' i ps.length).map slots)).length=(GD ps vals).length/\
 ∀(j:Nat) (s:SV) (v:Value),(HB ps ((List.range' i ps.length).map slots))[j]?=some s->(GD ps vals)[j]?=some v->SR P w G s v:=by
 intro ps
 have A:∀(ps:List Sh) (i j:Nat),FE j (HH ps i)=true->i<=j:=by
  intro ps;induction ps with
  |nil=>intro i j h;cases h
  |cons p ps r=>
   intro i j h;have key:FE j (HH ps (i+1))=true->i<=j:=λh=>oc
   have b:FE j (i::HH ps (i+1))=true->i<=j:=λh=>by
    simp only[FE,BK]at h;grind[Nat.eq_of_beq_eq_true]
   cases p with
   |box c=>exact b h
   |io el t=>exact b h
   |bld el c=>cases c with
    |true=>exact key h
    |false=>exact b h
   |_=>exact key h
 induction ps with
 |nil=>intro i vals q h;exact⟨rfl,λj s v h=>by simp[HB]at h⟩
 |cons p ps r=>
  intro i vals q h;cases vals with
  |nil=>cases q
  |cons k vals=>
   have e:vals.length=ps.length:=by simpa using q
   simp only[AX,List.range'_succ,DG];cases a:F3 p with
   |true=>
    have l:HB (p::ps) (slots i::(List.range' (i+1) ps.length).map slots)=slots i::HB ps ((List.range' (i+1) ps.length).map slots):=by
     cases p<;>first|rfl|(cases a;done)|(rename_i c0;cases c0<;>first|rfl|(cases a;done))
    have o:GD (p::ps) (k::vals)=k::GD ps vals:=by
     cases p<;>first|rfl|(cases a;done)|(rename_i c0;cases c0<;>first|rfl|(cases a;done))
    have x:HH (p::ps) i=i::HH ps (i+1):=by
     cases p<;>first|rfl|(cases a;done)|(rename_i c0;cases c0<;>first|rfl|(cases a;done))
    rw[l,o];rw[x]at h
    obtain ⟨y,C⟩:=r (i:=i+1) e (λj v d z=>by
     have:=h (j+1) v (by simpa using d) (by
      simp only[FE,BK];grind)
     grind)
    refine⟨by simp[y],λj s v d B=>?_⟩;cases j with
    |zero=>
     cases d;cases B;have:=h 0 k rfl (by simp[FE,DC]);grind
    |succ j=>grind
   |false=>
    have l:HB (p::ps) (slots i::(List.range' (i+1) ps.length).map slots)=HB ps ((List.range' (i+1) ps.length).map slots):=by
     cases p<;>first|rfl|(cases a;done)|(rename_i c0;cases c0<;>first|rfl|(cases a;done))
    have o:GD (p::ps) (k::vals)=GD ps vals:=by
     cases p<;>first|rfl|(cases a;done)|(rename_i c0;cases c0<;>first|rfl|(cases a;done))
    have x:HH (p::ps) i=HH ps (i+1):=by
     cases p<;>first|rfl|(cases a;done)|(rename_i c0;cases c0<;>first|rfl|(cases a;done))
    rw[l,o]
    exact r (i:=i+1) e (λj v d z=>by
     have:=h (j+1) v (by simpa using d) oc;grind)
theorem SimN.frzE{wr:Nat->Bool}(h:SimN P N fr st a w G)(l:List ResultVar):∃G',GLe w G w G'/\SimN P N fr (M2 wr st l) a w G':=by
 obtain⟨G',b,d⟩:=qL (fz:=M_ st.sto (dQ wr st l)) h.mem qM;exact⟨G',b,λt=>(h.slots t).mono b λ_ _ _ _=>Iff.rfl,h.defs,h.size,h.fix,h.nogrd,d,h.drawn⟩
def Q0(N:Nat)(ps:List Sh)(d:Nat):Bool:=Nat.blt d N && !(FE d (HH ps 0))
theorem AG_(W:EnvOK P dr E)(Q:P.follows .mixedOrders=true){F:TupR ps->Option (TupR (rs++ps.filter F3))}
 (hf:P.funcs[f]?=some fn)(J:fn.body=some c)(hd:IJ (Q0 fn.ntmps ps) c=true)(hn:Nat.ble ps.length fn.ntmps=true)(hl:Nat.beq fn.results.toList.length rs.length=true)
 (hc:AllCuts P dr fn.ntmps (Q0 fn.ntmps ps) (I9 E c 0))(hF:∀v r,F v=some r->dR E fn ps rs v=some r):FunOK P f ⟨ps,rs,F,dr⟩:=by
 intro w I v q bs hm h8 h6 r R;have R:=hF v r R;have hn:=C9 hn;have hl:=A3 hl;have N:q.length=ps.length:=h8.length;let fr:Fr:=⟨(·∈bs),w,I,λt=>if FE t (HH ps 0)then some (q.getD t undef)else none,dr⟩
 let tm:Array Value:=q.toArray++Array.replicate (fn.ntmps-q.toArray.size) undef
 let a0:Act:=⟨tm,[]⟩
 have x0:∀t,t<q.length->tm.getD t undef=q.getD t undef:=by
  intro t ht;simp[tm,C8,Array.getElem?_append_left,ht]
 have x1:∀(ps:List Sh) (i j:Nat),FE j (HH ps i)=true->j<i+ps.length:=by
  intro ps;induction ps with
  |nil=>intro i j h;cases h
  |cons p ps ih=>
   intro i j h;have key:FE j (HH ps (i+1))=true->j<i+(ps.length+1):=λh=>oc
   have A:FE j (i::HH ps (i+1))=true->j<i+(ps.length+1):=λh=>by
    simp only[FE,BK]at h;grind[Nat.eq_of_beq_eq_true]
   cases p with
   |box c=>exact A h
   |io el t=>exact A h
   |bld el c=>cases c with
    |true=>exact key h
    |false=>exact A h
   |_=>exact key h
 have Y:(List.range ps.length).map (λt=>tm.getD t undef)=q:=by
  apply BI;intro j;rw[AV];by_cases h:j<ps.length
  .grind
  .grind
 have C:∀d,Q0 fn.ntmps ps d=true->d<fn.ntmps/\fr.fx d=none:=λd hd=>by
  simp only[Q0,A6,B_,BP]at hd;grind
 obtain ⟨G0,h7⟩:=qT (P:=P) (fr:=fr) (N:=fn.ntmps) (k:=⟨List.range ps.length,ps⟩) (v:=v) (a:=a0) (I:=I) rfl oc (λt v' h=>by
  grind) (After.refl hm) (λ_=>AH _) oc h6 (λb J=>.inr J)
 refine calls_of_wp hf J ?_;unfold dR at R;rw[J]at R
 have K:∀(x:St) (a':Act) (w':World) (G':Gh),SimN P fn.ntmps fr x a' w' G'->
  (match O2 E.ty E.wr (M2 E.wr x fn.results.toList) fn.results.toList with
   |some l=>KJ E.fs (NZ (M2 E.wr x fn.results.toList).sto (rs++ps.filter F3) (l++HB ps ((List.range ps.length).map (M2 E.wr x fn.results.toList).slots))) (rs++ps.filter F3) (l++HB ps ((List.range ps.length).map (M2 E.wr x fn.results.toList).slots))
   |none=>none)=some r->
  a'.defers=[]/\∃v,(results fn a'.tmps).run P w'=.ok v w'/\∃T H I' z,Ending.returned v=.returned T/\H.length=rs.length/\KN H T/\After (·∈bs) w I w' I'/\
   ShL P w' I' (rs++ps.filter F3) r (H++GD ps q) z/\z.Nodup/\(∀b∈z,b∈bs\/w.heap.size<=b)/\(fr.dr=true->w.drawn<=w'.drawn):=by
  intro x a' w' G' y h;refine⟨y.defs,?_⟩;obtain⟨G1,_,y⟩:=y.frzE fn.results.toList;generalize M2 E.wr x fn.results.toList=x at h y;split at h
  .rename_i V h9;obtain⟨H,T,h1,h2,h3,h4,h5⟩:=A39 W y h9
   obtain ⟨b1,b2⟩:=AGZ (slots:=x.slots) (tmps:=a'.tmps) y.slot (ps:=ps) (i:=0) (vals:=q) N (λj v M hh=>by
    rw[C4]at hh ⊢
    exact y.fix j v (by
     grind))
   rw[<-List.range_eq_range']at b1 b2;have B:V.length=H.length:=by rw[h4,h3]
   obtain⟨G2,L,D⟩:=Y9 y.mem (rs++ps.filter F3) (V++HB ps ((List.range ps.length).map x.slots))
   obtain ⟨z,k1,k2,k3⟩:=P_ D W.fs (vs:=H++GD ps q) h (by rw [AE,AE,b1,B]) (λj s v M U=>by
    by_cases O:j<V.length
    .rw[C1 O]at M;rw[C1 oa]at U;exact(h5 j s v M U).mono L
    .have h0:V.length<=j:=DE O;rw[BG h0]at M;rw[BG oa,<-B]at U;exact(b2 _ s v M U).mono L)
   refine⟨T,h1,T,H,G2.im,z,rfl,by rw[h3,hl],h2,D.after,k1,k2,λb J=>?_,y.drawn⟩;obtain⟨k,_,o,ho,Z⟩:=k3 b J;rcases O6 (D.objs k o ho) Z with h|h<;>grind
  .cases h
 refine UJ W Q C c 0 _ a0 w G0 _ r _ hd (UI hc) R h7 λe x a' w' G' y X=>?_;cases e with
 |normal=>exact K x a' w' G' y X
 |ret=>exact K x a' w' G' y X
 |exit i=>cases X
end
def E8{α β:Type}(r:(α->Option β)->α->Option β):Nat->α->Option β
 |0=>λ_=>none
 |k+1=>r (E8 r k)
def sub:Code->List Nat->Code
 |c,[]=>c
 | .seq a b,i::r=>bif Nat.beq i 0 then sub a r else sub b r
 | .cond _ a b,i::r=>bif Nat.beq i 0 then sub a r else sub b r
 | .block _ b,_::r=>sub b r
 | .loop b,_::r=>sub b r
 |_,_=>.skip
def qY:Code->Operand
 | .cond c _ _=>c
 |_=>.tmp 0
def EP(f:Func):Code:=match f.body with
 |some c=>c
 |none=>.skip
def qZ(P:Program)(l:List (Nat×Ty)):Bool:=l.all λp=>(layB P p.2).1 p.1
def q_(P:Program)(l:List (Nat×Nat)):Bool:=l.all λp=>match P.underlying p.1 with
 |some (.slice x)=>Nat.beq p.2 x
 |some (.map _ _)=>true
 |_=>false
def eU(P:Program)(l:List (Nat×Nat))(i:Nat):Nat:=match FU l i with
 |some x=>x
 |none=>match P.underlying i with
  |some (.slice x)=>x
  |_=>0
def rA(P:Program)(l:List (Nat×Nat)):Bool:=l.all λp=>match P.underlying p.1 with
 |some (.map x _)=>Nat.beq p.2 x
 |_=>false
def eV(P:Program)(l:List (Nat×Nat))(i:Nat):Nat:=match FU l i with
 |some x=>x
 |none=>match P.underlying i with
  |some (.map x _)=>x
  |_=>0
theorem RY{α:Type}:∀{l:List (Nat×α)} {i:Nat} {x:α},FU l i=some x->(i,x)∈l:=by
 intro l;induction l<;>grind[FU,Nat.beq,Nat.eq_of_beq_eq_true,List.mem_cons_self,List.mem_cons_of_mem]
section
variable{P:Program}
def FsOK(P:Program):List (Nat×FSpec)->Prop
 |[]=>True
 |p::r=>(FI P p.1/\FunOK P p.1 p.2)/\FsOK P r
def KsOK(P:Program):List (Nat×KSpec)->Prop
 |[]=>True
 |p::r=>(FI P p.1/\L0 P p.1 p.2)/\KsOK P r
theorem KsOK.mem:∀{l:List (Nat×KSpec)},KsOK P l->∀f s,(f,s)∈l->FI P f/\L0 P f s:=by
 intro l;induction l with
 |nil=>simp
 |cons p r i=>
  intro h f s a;rcases B2.1 a with rfl|a
  .exact h.1
  .exact i h.2 f s a
theorem FsOK.mem:∀{l:List (Nat×FSpec)},FsOK P l->∀f sp,(f,sp)∈l->FI P f/\FunOK P f sp:=by
 intro l;induction l with
 |nil=>simp
 |cons p r i=>
  intro h f sp a;rcases B2.1 a with rfl|a
  .exact h.1
  .exact i h.2 f sp a
def YD:List (String×Nat×Nat)->String->Nat->Option Nat
 |[],_,_=>none
 |x::r,m,id=>bif x.1==m&&Nat.beq x.2.1 id then some x.2.2 else YD r m id
def MsOK(P:Program):List (String×Nat×Nat)->Prop
 |[]=>True
 |x::r=>(∀(v:Value) (w:World),(method (P.types.size+Made.depth) x.2.1 v x.1).run P w=.ok (x.2.2,v) w)/\MsOK P r
theorem MsOK.look:∀{l:List (String×Nat×Nat)},MsOK P l->∀m id f,YD l m id=some f->∀(v:Value) (w:World),(method (P.types.size+Made.depth) id v m).run P w=.ok (f,v) w:=by
 intro l;induction l with
 |nil=>intro _ m id f h;cases h
 |cons x r i=>
  intro h m id f b;unfold YD at b;cases a:(x.1==m&&Nat.beq x.2.1 id)with
  |false=>rw[a]at b;exact i h.2 m id f b
  |true=>
   rw[a]at b;simp only[A6,DT]at a;have e:=A3 a.2;cases b;rw[<-a.1,<-e];exact h.1
def rB(P:Program)(tys:List (Nat×Ty))(eqs:List Nat):Bool:=eqs.all λi=>match FU tys i with
 |some t=>P0 P t i
 |none=>true
theorem A3A{tys:List (Nat×Ty)}{els:List (Nat×Nat)}{fs:List (Nat×FSpec)}{ms:List (String×Nat×Nat)}{eqs:List Nat}{kys:List (Nat×Nat)}{k:List (Nat×KSpec)}{dp:Nat->Nat}{cut:Nat->Option CSpec}{wr:Nat->Bool}(r:Pins.P=P)(b:qZ P tys=true)(d:q_ P els=true)(l:FsOK P fs)(o:MsOK P ms)(v:rB P tys eqs=true)(e:rA P kys=true)(a:(!dr||(fs.all λp=>p.2.dr)&&(k.all λp=>p.2.sp.dr))=true)(q:KsOK P k):
 EnvOK P dr ⟨FU tys,FU fs,cut,wr,eU P els,YD ms,(λt=>FE t eqs),dr,dp,eV P kys,FU k⟩:=by
 refine⟨r,λh=>h,λi f sp h=>?_,λid t h=>?_,λid x h=>?_,λf sp h=>l.mem f sp (RY h),o.look,λid t w z=>?_,λid x y h=>?_,λf s h=>⟨q.mem f s (RY h),λi=>?_⟩⟩
 .subst i;simp only[BS,CD,A6]at a;exact BV.1 a.1 _ (RY h)
 .unfold qZ at b;rw[BV]at b;exact b _ (RY h)
 .unfold q_ at d;rw[BV]at d;show eU P els id=x;unfold eU;cases j:FU els id with
  |none=>simp only[h]
  |some y=>
   have:=d _ (RY j);simp_all
 .grind[rB,List.all_eq_true,PZ,FU]
 .unfold rA at e;rw[BV]at e;show eV P kys id=x;unfold eV;cases j:FU kys id with
  |none=>simp only[h]
  |some y=>
   have:=e _ (RY j);simp_all
 .subst i;simp only[BS,CD,A6]at a;exact BV.1 a.2 _ (RY h)
theorem AGa(j:EnvOK P dr E)(a:P.follows .mixedOrders=true){F:TupR ps->Option (TupR (rs++ps.filter F3))}
 (i:P.funcs[f]?=some fn)(d:(fn.name== "runtime.NumGoroutine")=false)(e:fn.body=some c)(k:IJ (Q0 fn.ntmps ps) c=true)(q:Nat.ble ps.length fn.ntmps=true)(o:Nat.beq fn.results.toList.length rs.length=true)
 (b:I9 E c 0=l)(hc:AllCuts P dr fn.ntmps (Q0 fn.ntmps ps) l)(hF:∀v,dR E fn ps rs v=F v):FI P f/\FunOK P f ⟨ps,rs,F,dr⟩:=by
 subst b;exact⟨⟨fn,c,i,d,e⟩,AG_ j a i e k q o hc λv r h=>(hF v).trans h⟩
theorem AGb(d:EnvOK P dr E)(a:P.follows .mixedOrders=true){r:(TupR inn.sh->Option (G_ outs))->TupR inn.sh->Option (G_ outs)}
 (e:IJ (J3 N wrs) body=true)(b:I9 E body n=l)(hc:AllCuts P dr N (J3 N wrs) l)(hF:∀next v,pB E body n al inn outs next v=r next v)(m:Nat):
 EJ P dr N ⟨inn,outs,wrs,E8 r m,al,none,none⟩ (.loop body):=by
 subst b;exact AGW d a e hc (λ_=>rfl) (λk v x h=>(hF _ v).trans h) m
theorem AGc(i:EnvOK P dr E)(a:P.follows .mixedOrders=true){c:Operand}{x y:Code}{F:TupR inn.sh->Option (G_ outs)}{l e:List (CSpec×Code)}
 (j:IJ (J3 N wrs) (.cond c x y)=true)(b:I9 E x (n+1)=l)(d:I9 E y (n+1+K6 x)=e)(hx:AllCuts P dr N (J3 N wrs) l)(k:AllCuts P dr N (J3 N wrs) e)
 (hF:∀v,dP E c x y n al inn outs v=F v):EJ P dr N ⟨inn,outs,wrs,F,al,none,none⟩ (.cond c x y):=by
 subst b d;exact AGV (s:=⟨inn,outs,wrs,F,al,none,none⟩) i a j hx k rfl rfl λv r h=>(hF v).trans h
theorem YE{e:Ty}{F1:TupR [Sh.nilS]->Option (TupR (rs++[Sh.nilS].filter F3))}{F2:TupR [Sh.nns e]->Option (TupR (rs++[Sh.nns e].filter F3))}
 {F:TupR [Sh.val (.slice e)]->Option (TupR (rs++[Sh.val (.slice e)].filter F3))}
 (y:FI P f/\FunOK P f ⟨[.nilS],rs,F1,dr⟩)(D:FI P f/\FunOK P f ⟨[.nns e],rs,F2,dr⟩)(B:F1 ()=F ([]:List e.T))(C:∀x,F2 x=F x):FI P f/\FunOK P f ⟨[.val (.slice e)],rs,F,dr⟩:=by
 refine⟨y.1,λw I v t bs z o G r A=>?_⟩;obtain⟨i,rfl,H,rfl⟩:=o;obtain⟨c,E,a,b,l,j,h,k⟩:=H;have d:i=.slice a (show List e.T from v).length b:=AB.1 ((show c=[i]from E).symm.trans l);cases a with
 |none=>
  obtain⟨q,rfl⟩:=h rfl;have q:v=([]:List e.T):=q;subst q;exact y.2 w I () [i] [] z ⟨i,rfl,rfl,by rw[d];rfl⟩ B3 r (B.trans A)
 |some s=>
  exact D.2 w I v [i] [] z ⟨i,rfl,rfl,⟨some s,b,by rw[d],j,h,k⟩,s,_,b,by rw[d]⟩ B3 r ((C v).trans A)
end
section
variable{dr:Bool}
variable{P:Program}{fr:Fr}{free free':Nat->Prop}{self:Nat}{σ σ':SSo}{w w':World}{G G':Gh}{I:Im}
theorem SimN.frzX(h:SimN P N fr st a w G)(k:Kp)(vs:List SV):∃G',GLe w G w G'/\SimN P N fr (nW k vs st) a w G':=by
 obtain⟨G',b,d⟩:=Y9 h.mem k.sh vs;exact⟨G',b,λt=>(h.slots t).mono b λ_ _ _ _=>Iff.rfl,h.defs,h.size,h.fix,h.nogrd,d,h.drawn⟩
theorem A3B(B:∀f sp,fs f=some sp->FI P f/\FunOK P f sp){v:TupR k.sh}(l:SimN P N fr st a w G)
 (hx:KxOK w G.im (λt=>a.tmps.getD t undef) pv x)(h:RJ fs k x st=some v):
 ∃(G1:Gh) (bs:List Nat),GLe w G w G1/\After fr.gv fr.w0 fr.i0 w G1.im/\ShL P w G1.im k.sh v ((k.tm.map λt=>a.tmps.getD t undef)++pv) bs/\bs.Nodup/\∀b∈bs,fr.owned b:=by
 unfold RJ at h;split at h
 .rename_i K q;obtain⟨r,y⟩:=A32 (λk o h=>l.mem.objs k o h) rfl (λt=>l.sr (.tmp t)) hx q;obtain⟨G1,e,d⟩:=l.frzX k K;obtain⟨bs,H,I,J⟩:=P_ d.mem B (vs:=(k.tm.map λt=>a.tmps.getD t undef)++pv) h r (λj s v z A=>(y j s v z A).mono e);refine⟨G1,bs,e,d.mem.after,H,I,λb C=>?_⟩;obtain⟨E,_,o,D,i⟩:=J b C;exact O6 (d.mem.objs E o D) i
 .cases h
theorem rC{d:Act}(hx:KxOK w0 I (λt=>d.tmps.getD t undef) pv x)(b:N_ wrs x.kn=true)(h:SimN P N (LJ dr wrs bs d w0 I) st a w G):
 KxOK w G.im (λt=>a.tmps.getD t undef) pv x:=by
 refine hx.ext h.mem.after.ext λq i=>?_;obtain⟨j,l⟩:=A36 b q i;exact⟨h.fix _ _ (by simp[LJ,j]),λc k e=>h.fix _ _ (by grind[LJ])⟩
theorem AGd(C:EnvOK P fr.dr E)(D:SimN P N fr st a w G)(hx:KxOK w G.im (λt=>a.tmps.getD t undef) pv x)(v:∀b,fr.gv b->b∈bs):
 ∀{l:List (Ex×Kp)} {y:G_ l},RM E.fs x l e st=some y->∃I,After fr.gv fr.w0 fr.i0 w I/\eR P w I a (J2 e) fr.w0.heap.size bs pv l y:=by
 have j:∀{e s:Ex},outPut.sameEx e s=true->s=e:=by
  intro e s h;cases e<;>cases s<;>first|rfl|cases h|skip
  have h:Nat.beq _ _=true:=h;rw[A3 h]
 have q:∀{o:Ex×Kp} {y:TupR o.2.sh},outPut.sameEx o.1 e=true->RJ E.fs o.2 x st=some y->
  ∃I,After fr.gv fr.w0 fr.i0 w I/\J2 e=J2 o.1/\∃d,ShL P w I o.2.sh y ((o.2.tm.map λt=>a.tmps.getD t undef)++pv) d/\d.Nodup/\∀b∈d,b∈bs\/fr.w0.heap.size<=b:=by
  intro o y A B;obtain⟨G1,d,_,k0,k1,J,K⟩:=A3B C.fs D hx B;exact⟨G1.im,k0,by rw[j A],d,k1,J,λb i=>(K b i).elim .inr λh=>.inl (v b h)⟩
 intro l;induction l with
 |nil=>intro y h;cases h
 |cons o r H=>
  intro y h;cases r with
  |nil=>
   simp only[RM]at h;cases i:outPut.sameEx o.1 e with
   |false=>rw[i]at h;cases h
   |true=>rw[i]at h;exact q i h
  |cons p r=>
   simp only[RM]at h;cases i:outPut.sameEx o.1 e with
   |false=>
    rw[i]at h;simp only[AA]at h;cases k:RM E.fs x (p::r) e st with
    |none=>grind
    |some z=>
     rw[k]at h;cases h;exact H k
   |true=>
    rw[i]at h;simp only[A8]at h;cases k:RJ E.fs o.2 x st with
    |none=>grind
    |some z=>
     rw[k]at h;cases h;exact q i k
theorem A3C(j:EnvOK P dr E){s:CSpec}{y:G_ s.outs}{d:Act}(hx:KxOK w0 I (λt=>d.tmps.getD t undef) pv x)(i:N_ s.wrs x.kn=true)
 (b:SimN P N (LJ dr s.wrs bs d w0 I) st a w G)(h:RM E.fs x s.outs e st=some y):qS P dr N s pv y d w0 I bs (J2 e) a w:=
 ⟨b.defs,b.size,λt k=>b.fix t _ (by simp[LJ,k]),b.drawn,AGd j b (rC hx i b) (λ_ h=>h) h⟩
theorem AGe(C:EnvOK P dr E)(A:P.follows .mixedOrders=true){r:(TupR inn.sh->Option (G_ outs))->TupR inn.sh->Option (G_ outs)}
 (o:O0 x=true)(j:N_ wrs x.kn=true)(U:IJ (J3 N wrs) body=true)(D:I9 E body n=l)(hc:AllCuts P dr N (J3 N wrs) l)(hF:∀next v,ADO E body n x inn outs next v=r next v)(m:Nat):
 EJ P dr N ⟨inn,outs,wrs,E8 r m,[],none,some x⟩ (.loop body):=by
 subst D;intro w0 I s v0 bs pv V H R B L J y h
 obtain ⟨G0,K⟩:=qW (fr:=LJ dr wrs bs s w0 I) H R (λt v h=>by
  have h:(if FE t wrs=true then none else some (s.tmps.getD t undef))=some v:=h;grind) (After.refl V) (λ_=>AH _) B o L J (λb T=>.inr T)
 refine wp_loop_rounds m ?_
 have key:∀k v a w G,E8 r k v=some y->SimN P N (LJ dr wrs bs s w0 I) (TT inn x v) a w G->Code.rounds P body (qS P dr N ⟨inn,outs,wrs,E8 r m,[],none,some x⟩ pv y s w0 I bs) k a w:=by
  intro k;induction k with
  |zero=>intro v a w G h;cases h
  |succ k ih=>
   intro v a w G h W;rw[rounds_succ];refine UJ C A eS _ _ _ a w G _ y _ U (UI hc) ((hF _ v).trans h) W λe Z a' w' G' d z=>qR ?_;cases e with
   |normal=>
    simp only at z;split at z
    .rename_i v' M;obtain⟨G1,Q,_,k0,k1,X,Y⟩:=A3B C.fs d (rC B j d) M;obtain⟨G'',O⟩:=qW d.defs d.size d.fix k0 d.drawn ((rC B j d).ext (by assumption:GLe w' G' w' G1).ext λq _=>⟨rfl,λ_ _ _=>rfl⟩) o k1 X Y;grind
    .cases z
   |exit i=>exact A3C (s:=⟨inn,outs,wrs,E8 r m,[],none,some x⟩) C B j d z
   |ret=>exact A3C (s:=⟨inn,outs,wrs,E8 r m,[],none,some x⟩) C B j d z
 exact key m v0 s w0 G0 h K
def RZ:List Kn->List Nat
 |[]=>[]
 |q::r=>q.p::(q.caps++RZ r)
def eW(N n:Nat)(ps:List Sh)(x:KX)(d:Nat):Bool:=Nat.blt d N && !(Nat.blt d n&&(FE d (HH ps 0)||FE d (RZ x.kn)))
theorem AGf:∀{kn:List Kn} {q:Kn},q∈kn→q.p∈RZ kn∧∀c∈q.caps,c∈RZ kn:=by
 intro kn;induction kn with
 |nil=>simp
 |cons e kn i=>
  intro q h;rcases B2.1 h with rfl|h
  .exact⟨AL,λc a=>AP _ (CH _ a)⟩
  .obtain⟨b,d⟩:=i h;exact⟨AP _ (BZ _ b),λc a=>AP _ (BZ _ (d c a))⟩
theorem AGg:∀{ps:List Sh} {vs:List SV} {vals:List Value},vs.length=ps.length->vals.length=ps.length->(∀(j:Nat) (s:SV) (v:Value),vs[j]?=some s->vals[j]?=some v->SR P w G s v)->
 (HB ps vs).length=(GD ps vals).length/\∀(j:Nat) (s:SV) (v:Value),(HB ps vs)[j]?=some s->(GD ps vals)[j]?=some v->SR P w G s v:=by
 intro ps;induction ps with
 |nil=>intro vs vals b d _;exact⟨by cases vs<;>cases vals<;>rfl,λj s v h=>by cases vs<;>simp[HB]at h⟩
 |cons p ps z=>
  intro vs vals b d o;cases vs with
  |nil=>cases b
  |cons e vs=>
   cases vals with
   |nil=>cases d
   |cons i vals=>
    obtain⟨y,A⟩:=z (by simpa using b) (by simpa using d) (λj s v q r=>o (j+1) s v (by simpa using q) (by simpa using r));cases a:F3 p with
    |true=>
     have k:HB (p::ps) (e::vs)=e::HB ps vs:=by
      cases p<;>first|rfl|(cases a;done)|(rename_i c0;cases c0<;>first|rfl|(cases a;done))
     have l:GD (p::ps) (i::vals)=i::GD ps vals:=by
      cases p<;>first|rfl|(cases a;done)|(rename_i c0;cases c0<;>first|rfl|(cases a;done))
     rw[k,l];refine⟨by simp[y],λj s v t x=>?_⟩;cases j with
     |zero=>cases t;cases x;exact o 0 _ _ rfl rfl
     |succ j=>grind
    |false=>
     have k:HB (p::ps) (e::vs)=HB ps vs:=by
      cases p<;>first|rfl|(cases a;done)|(rename_i c0;cases c0<;>first|rfl|(cases a;done))
     have l:GD (p::ps) (i::vals)=GD ps vals:=by
      cases p<;>first|rfl|(cases a;done)|(rename_i c0;cases c0<;>first|rfl|(cases a;done))
     grind
theorem A3D(hE:EnvOK P dr E)(y0:P.follows .mixedOrders=true){F:TupR ps->Option (TupR (rs++ps.filter F3))}
 (hf:P.funcs[f]?=some fn)(y9:(fn.name== "runtime.NumGoroutine")=false)(hb:fn.body=some c)(X:O0 x=true)(D:Nat.beq ps.length (n+x.m)=true)(hd:IJ (eW fn.ntmps n ps x) c=true)(hn:Nat.ble n fn.ntmps=true)(hl:Nat.beq fn.results.toList.length rs.length=true)
 (x2:(RZ x.kn).all (λc=>Nat.blt c n||Nat.ble 1000000 c)=true)(y7:I9 E c 0=l)(hc:AllCuts P dr fn.ntmps (eW fn.ntmps n ps x) l)(hF:∀v,A1U E fn ps rs n x v=F v):FI P f/\L0 P f ⟨⟨ps,rs,F,dr⟩,n,x⟩:=by
 subst y7;refine⟨⟨fn,c,hf,y9,hb⟩,?_⟩;intro w I v y pv bs R hm hx z1 y8 r hr;have hr:=(hF v).trans hr;have hn:=C9 hn;have hl:=A3 hl;have D:=A3 D;have R:y.length=n:=R;have y1:pv.length=x.m:=hx.1;have z5:(y++pv).length=ps.length:=by rw[AE,R,y1,D]
 let M:Nat->Bool:=λt=>Nat.blt t n&&(FE t (HH ps 0)||FE t (RZ x.kn))
 let fr:Fr:=⟨(·∈bs),w,I,λt=>if M t then some (y.getD t undef)else none,dr⟩
 let tm:Array Value:=y.toArray++Array.replicate (fn.ntmps-y.toArray.size) undef
 let a0:Act:=⟨tm,[]⟩
 have h7:∀t,t<y.length->tm.getD t undef=y.getD t undef:=by
  intro t ht;simp[tm,C8,Array.getElem?_append_left,ht]
 have y2:∀t,tm.getD t undef=y.getD t undef:=by
  intro t;rcases CU t y.length with h|h
  .exact h7 t h
  .rw[AD,BY h];simp only[tm,C8];grind
 have Z:((List.range n).map λt=>tm.getD t undef)=y:=by
  apply BI;intro j;rw[AV];by_cases h:j<n
  .grind
  .grind
 have h0:∀d,eW fn.ntmps n ps x d=true->d<fn.ntmps/\fr.fx d=none:=λd hd=>by
  simp only[eW,A6,B_,BP]at hd;grind
 have z4:KxOK w I (λt=>a0.tmps.getD t undef) pv x:=hx.ext (Ext.refl _ _) λq _=>⟨y2 _,λc _ _=>y2 c⟩
 obtain ⟨G0,z0⟩:=qW (P:=P) (fr:=fr) (N:=fn.ntmps) (k:=⟨List.range n,ps⟩) (x:=x) (v:=v) (a:=a0) (I:=I) rfl oc (λt v' h=>by
  grind) (After.refl hm) (λ_=>AH _) z4 X (by rw[Z];exact z1) y8 (λb hb=>.inr hb)
 have h6:∀{B:St} {a':Act} {w':World} {G':Gh},SimN P fn.ntmps fr B a' w' G'->KxOK w' G'.im (λt=>a'.tmps.getD t undef) pv x:=by
  intro B a' w' G' z;refine hx.ext z.mem.after.ext λq hq=>?_;obtain⟨k1,k2⟩:=AGf hq;rw[BV]at x2
  have U:∀c,c∈RZ x.kn->c<1000000->a'.tmps.getD c undef=y.getD c undef:=by
   intro c hc x0;refine z.fix c _ ?_;have V:=x2 c hc;simp only[BK,B_]at V
   have h2:c<n:=by
    rcases V with V|V
    .exact V
    .have:=C9 V;omega
   show(if M c=true then some (y.getD c undef)else none)=_;rw[if_pos (by simp[M,h2,PZ.2 hc])]
  exact⟨U _ k1 (A34 X q hq),λc hc x0=>U c (k2 c hc) x0⟩
 have z9:∀(ps:List Sh) (i j:Nat),FE j (HH ps i)=true->j<i+ps.length:=by
  intro ps;induction ps with
  |nil=>intro i j h;cases h
  |cons p ps ih=>
   intro i j h;have key:FE j (HH ps (i+1))=true->j<i+(ps.length+1):=λh=>oc
   have J:FE j (i::HH ps (i+1))=true->j<i+(ps.length+1):=λh=>by
    simp only[FE,BK]at h;grind[Nat.eq_of_beq_eq_true]
   cases p with
   |box c=>exact J h
   |io el t=>exact J h
   |bld el c=>cases c with
    |true=>exact key h
    |false=>exact J h
   |_=>exact key h
 rw[show(y.toArray:Array Value)=y.toArray from rfl];refine calls_of_wp hf hb ?_;unfold A1U at hr;rw[hb]at hr
 have h9:∀(B:St) (a':Act) (w':World) (G':Gh),SimN P fn.ntmps fr B a' w' G'->
  (match O2 E.ty E.wr (M2 E.wr B fn.results.toList) fn.results.toList with
   |some l=>match X9 ⟨List.range n,ps⟩ x (M2 E.wr B fn.results.toList)with
    |some Q=>KJ E.fs (NZ (M2 E.wr B fn.results.toList).sto (rs++ps.filter F3) (l++HB ps Q)) (rs++ps.filter F3) (l++HB ps Q)
    |none=>none
   |none=>none)=some r->
  a'.defers=[]/\∃v,(results fn a'.tmps).run P w'=.ok v w'/\∃rv Q I' H,Ending.returned v=.returned rv/\Q.length=rs.length/\KN Q rv/\After (·∈bs) w I w' I'/\
   ShL P w' I' (rs++ps.filter F3) r (Q++GD ps (y++pv)) H/\H.Nodup/\(∀b∈H,b∈bs\/w.heap.size<=b)/\(fr.dr=true->w.drawn<=w'.drawn):=by
  intro B a' w' G' z h;refine⟨z.defs,?_⟩;obtain⟨G1,_,z⟩:=z.frzE fn.results.toList;generalize M2 E.wr B fn.results.toList=B at h z;split at h
  .rename_i ss z2;split at h
   .rename_i vx z3;obtain⟨Q,rv,V,h2,h3,h4,h5⟩:=A39 hE z z2;have Y:ss.length=Q.length:=by rw[h4,h3]
    obtain⟨e1,e2⟩:=A32 (λk o h=>z.mem.objs k o h) rfl (λt=>z.sr (.tmp t)) (h6 z) z3
    have y6:GD ps (((List.range n).map λt=>a'.tmps.getD t undef)++pv)=GD ps (y++pv):=by
     have y3:∀(A:List Sh) (i:Nat) (N O:List Value),N.length=O.length->(∀j v1 v2,FE (i+j) (HH A i)=true->N[j]?=some v1->O[j]?=some v2->v1=v2)->GD A N=GD A O:=by
      intro A;induction A with
      |nil=>intro i N O _ _;rfl
      |cons p A ih=>
       intro i N O x1 h;cases N with
       |nil=>
        grind
       |cons v1 N=>
        cases O with
        |nil=>cases x1
        |cons v2 O=>
         have W:N.length=O.length:=by simpa using x1
         cases C:F3 p with
         |true=>
          have q1:∀v l,GD (p::A) (v::l)=v::GD A l:=by
           intro v l;cases p<;>first|rfl|(cases C;done)|(rename_i c0;cases c0<;>first|rfl|(cases C;done))
          have q2:HH (p::A) i=i::HH A (i+1):=by
           cases p<;>first|rfl|(cases C;done)|(rename_i c0;cases c0<;>first|rfl|(cases C;done))
          rw[q1,q1];rw[q2]at h;have e0:v1=v2:=h 0 v1 v2 (by simp[FE,DC]) rfl rfl
          rw [e0,ih (i+1) N O W λj u1 u2 hh K L=>h (j+1) u1 u2 (by
           simp only[FE,BK];grind) (by simpa using K) (by simpa using L)]
         |false=>
          have q1:∀v l,GD (p::A) (v::l)=GD A l:=by
           intro v l;cases p<;>first|rfl|(cases C;done)|(rename_i c0;cases c0<;>first|rfl|(cases C;done))
          have q2:HH (p::A) i=HH A (i+1):=by
           cases p<;>first|rfl|(cases C;done)|(rename_i c0;cases c0<;>first|rfl|(cases C;done))
          rw[q1,q1];rw[q2]at h;exact ih (i+1) N O W λj u1 u2 hh K L=>h (j+1) u1 u2 oc (by simpa using K) (by simpa using L)
     refine y3 ps 0 _ _ (by simp[R]) λj v1 v2 hh K L=>?_;rw[C4]at hh;rcases CU j n with T|T
     .rw[C1 (by simpa using T),AV,CY T]at K;rw[C1 oa]at L
      have z6:=z.fix j (y.getD j undef) (by
       show(if M j=true then some (y.getD j undef)else none)=_;rw[if_pos (by simp[M,T,hh])])
      grind
     .grind
    obtain⟨b1,b2⟩:=AGg (ps:=ps) (vs:=vx) (vals:=((List.range n).map λt=>a'.tmps.getD t undef)++pv) oc (by simp[y1,D]) e2;rw[y6]at b1 b2;obtain⟨G2,y4,h8⟩:=Y9 z.mem (rs++ps.filter F3) (ss++HB ps vx)
    obtain⟨H,k1,k2,k3⟩:=P_ h8 hE.fs (vs:=Q++GD ps (y++pv)) h (by rw[AE,AE,b1,Y])
     (λj s v hj hv=>(A2X Y h5 b2 j s v hj hv).mono y4)
    refine⟨rv,V,rv,Q,G2.im,H,rfl,by rw[h3,hl],h2,h8.after,k1,k2,λb hb=>?_,z.drawn⟩;obtain⟨k,_,o,ho,y5⟩:=k3 b hb;rcases O6 (h8.objs k o ho) y5 with h|h<;>grind
   .cases h
  .cases h
 refine UJ (fr:=fr) hE y0 h0 c 0 _ a0 w G0 _ r _ hd (UI hc) hr z0 λe B a' w' G' z hK=>?_;cases e with
 |normal=>exact h9 B a' w' G' z hK
 |ret=>exact h9 B a' w' G' z hK
 |exit i=>cases hK
end
end Go.Ev
