/-
  The evaluator's operations, second part: slices, maps, contracts and calls.
-/
import Derived.Test.YtngpbgokgpnamaaGreatDoorE1
import Derived.Deep.AppendSrc
import Derived.Great.BuildSlice
import Derived.Laws.BytesString
import Derived.Lib.ConvBytes
import Derived.Maps.RangeRun
set_option linter.all false
set_option maxRecDepth 100000
namespace Go.Ev
variable{s:SV}{t k u e:Ty}{id b o el i n cap src:Nat}{v cv vx vk vm:Value}{wr ke:Bool}{I I':Im}{c us cs ds vs:List Value}{bss:List (List Nat)}{ow:Nat->Prop}{r:OpRes}{h:Option (List Nat)}{bs:List Nat}{α β:Type}{fs:Nat->Option FSpec}{places:List (Nat×Nat)}{ps:List (Nat×SV)}
variable [Pins]
def Ty.dep:Ty->Nat
 | .agg t=>t.dep+1
 | .prod a b=>a.dep+b.dep
 |_=>0
def eqTB(P:Program):Ty->(Nat->Bool)×(List Field->Bool)
 | .prod a b=>(λ_=>false,λl=>match l with
  |f::r=>f.name != "_" && ((eqTB P a).1 f.type&&(eqTB P b).2 r)
  |[]=>false)
 | .unit=>(λ_=>false,λl=>match l with|[]=>true|_=>false)
 | .bool=>one λ_=>true
 | .int _=>one λ_=>true
 | .str=>one λ_=>true
 | .agg p=>one λid=>!(P.stoodInHeld id)&&(match P.underlying id with|some (.struct fs)=>(eqTB P p).2 fs.toList|_=>false)
 |_=>(λ_=>false,λ_=>false)
 where
 one (c:Nat->Bool):(Nat->Bool)×(List Field->Bool):=(c,λl=>match l with|[f]=>f.name != "_" && c f.type|_=>false)
section
variable{P:Program}{w:World}{I:Im}
def name_ne{s:String}(h:(s != "_")=true):s≠"_" :=by simpa using h
theorem A22:∀{t:Ty},(∀(id d:Nat) (x y:t.T) (v e:Value) (b:Bool),Lay P t id->(eqTB P t).1 id=true->VRel w I t x v->VRel w I t y e->Ty.beq t x y=some b->t.dep<d->
 (Op.equalIn d id v e).run P w=.ok b w)/\
 (∀ (l:List Field) (off d:Nat) (x y:t.T) (cs j:Array Value) (b:Bool),(layB P t).2 l off=true→(eqTB P t).2 l=true→Rel w I t x ((cs.toList.drop off).take t.sz)→Rel w I t y ((j.toList.drop off).take t.sz) →
  off+t.sz<=cs.size->off+t.sz<=j.size->Ty.beq t x y=some b->t.dep<d->(Op.eqFields d cs j l).run P w=.ok b w):=by
 intro t
 have leaf:∀{t:Ty} {c:Nat->Bool} {k:TypeDesc->Bool},(layB P t).2=(layB.one P t k).2->(eqTB P t).2=(eqTB.one c).2->(∀id,(layB.one P t k).1 id=true->Lay P t id)->(∀id,c id=true->(eqTB P t).1 id=true)->
  (∀ (id d:Nat) (x y:t.T) (v e:Value) (b:Bool),Lay P t id→(eqTB P t).1 id=true→VRel w I t x v→VRel w I t y e→Ty.beq t x y=some b→t.dep<d →
  (Op.equalIn d id v e).run P w=.ok b w)->
  ∀(l:List Field) (off d:Nat) (x y:t.T) (cs j:Array Value) (b:Bool),(layB P t).2 l off=true->(eqTB P t).2 l=true->Rel w I t x ((cs.toList.drop off).take t.sz)->Rel w I t y ((j.toList.drop off).take t.sz)->
  off+t.sz<=cs.size->off+t.sz<=j.size->Ty.beq t x y=some b->t.dep<d->(Op.eqFields d cs j l).run P w=.ok b w:=by
  intro t c k C J M hc B l off d x y cs j b h1 m W X s1 Z s D;rw[C]at h1;rw[J]at m;simp only[layB.one]at h1;split at h1
  .rename_i g;simp only[A5]at h1;have hg:=A4 h1.1;subst hg;simp only[eqTB.one,A5]at m;have E:Lay P t g.type:=M _ (by simp_all[layB.one,A5]);have⟨v,U,r2⟩:=T8 E W s1;have⟨e,q1,q2⟩:=T8 E X Z;simp only[Op.eqFields];rw[if_pos (name_ne m.1)];simp only[Sem.run_bind,U,Result.andThen_ok,q1,B g.type d x y v e b E (hc _ m.2) r2 q2 s D];cases b<;>simp
  .cases h1
 induction t with
 |bool=>
  have B:∀(id d:Nat) (x y:Bool) (v e:Value) (b:Bool),Lay P .bool id->(eqTB P .bool).1 id=true->VRel w I .bool x v->VRel w I .bool y e->Ty.beq .bool x y=some b->Ty.dep .bool<d->
   (Op.equalIn d id v e).run P w=.ok b w:=by
   intro id d x y v e b M _ T A s D;obtain⟨c,h1,m⟩:=T;obtain⟨H,Q,R⟩:=A;have C:v=.bool x:=AC.1 ((show c=[v]from h1).symm.trans m);have J:e=.bool y:=AC.1 ((show H=[e]from Q).symm.trans R);subst C J;cases d with
   |zero=>cases D
   |succ d=>cases s;simp[Op.equalIn,run_underlying M.bool,I6]
  exact⟨B,leaf (t:=.bool) (c:=λ_=>true) rfl rfl (λ_ h=>h) (λ_ h=>h) B⟩
 |int k=>
  have B:∀(id d:Nat) (x y:Int) (v e:Value) (b:Bool),Lay P (.int k) id->(eqTB P (.int k)).1 id=true->VRel w I (.int k) x v->VRel w I (.int k) y e->Ty.beq (.int k) x y=some b->Ty.dep (.int k)<d->
   (Op.equalIn d id v e).run P w=.ok b w:=by
   intro id d x y v e b M _ T A s D;obtain⟨c,h1,m,_⟩:=T;obtain⟨H,Q,R,_⟩:=A;have C:v=.int k x:=AC.1 ((show c=[v]from h1).symm.trans m);have J:e=.int k y:=AC.1 ((show H=[e]from Q).symm.trans R);subst C J;cases d with
   |zero=>cases D
   |succ d=>cases s;simp[Op.equalIn,run_underlying M.int,DP]
  exact⟨B,leaf (t:=.int k) (c:=λ_=>true) rfl rfl (λ_ h=>h) (λ_ h=>h) B⟩
 |str=>
  have B:∀(id d:Nat) (x y:DL) (v e:Value) (b:Bool),Lay P .str id->(eqTB P .str).1 id=true->VRel w I .str x v->VRel w I .str y e->Ty.beq .str x y=some b->Ty.dep .str<d->
   (Op.equalIn d id v e).run P w=.ok b w:=by
   intro id d x y v e b M _ T A s D;obtain⟨c,h1,m,_⟩:=T;obtain⟨H,Q,R,_⟩:=A;have C:v=.string ⟨x.toArray⟩:=AC.1 ((show c=[v]from h1).symm.trans m);have J:e=.string ⟨y.toArray⟩:=AC.1 ((show H=[e]from Q).symm.trans R);subst C J;cases d with
   |zero=>cases D
   |succ d=>cases s;rw[run_equalIn_string w d id _ _ M.str,A1z,A1z];rfl
  exact⟨B,leaf (t:=.str) (c:=λ_=>true) rfl rfl (λ_ h=>h) (λ_ h=>h) B⟩
 |agg p ih=>
  have B:∀(id d:Nat) (x y:p.T) (v e:Value) (b:Bool),Lay P (.agg p) id->(eqTB P (.agg p)).1 id=true->VRel w I (.agg p) x v->VRel w I (.agg p) y e->Ty.beq (.agg p) x y=some b->Ty.dep (.agg p)<d->
   (Op.equalIn d id v e).run P w=.ok b w:=by
   intro id d x y v e b M he T A s D;obtain⟨c,h1,m⟩:=T;obtain⟨H,Q,R⟩:=A;have C:v=.agg c.toArray:=h1;have J:e=.agg H.toArray:=Q;subst C J;obtain⟨fs,Y,h5,_⟩:=M.agg;simp only[eqTB,eqTB.one,Y,A5,BE]at he;have h6:P.fieldsOf id=fs:=by simp[Program.fieldsOf,Y]
   cases d with
   |zero=>cases D
   |succ d=>
    rw[run_equalIn_struct w d id _ _ oc he.1,h6];have K:Rel w I p x c:=m;have L:Rel w I p y H:=R;refine ih.2 fs.toList 0 d x y _ _ b h5 he.2 ?_ ?_ ?_ ?_ s (by grind[Ty.dep])
    .simpa[K.length]using (show Rel w I p x (c.take p.sz)from by rw[<-K.length,AQ];exact K)
    .simpa[L.length]using (show Rel w I p y (H.take p.sz)from by rw[<-L.length,AQ];exact L)
    .simp[K.length]
    .simp[L.length]
  exact⟨B,leaf (t:=.agg p) (c:=λid=>!(P.stoodInHeld id)&&(match P.underlying id with|some (.struct fs)=>(eqTB P p).2 fs.toList|_=>false)) rfl rfl (λ_ h=>h) (λ_ h=>h) B⟩
 |prod a b h9 x0=>
  refine⟨λid d x y v e r h=>by simp[Lay,layB]at h,λl off d x y cs j r h1 m W X s1 Z s D=>?_⟩;simp only[layB]at h1;split at h1
  .rename_i f l;simp only[A5]at h1;simp only[eqTB,A5]at m;have hg:=A4 h1.1;subst hg;have h8:(Ty.prod a b).sz=a.sz+b.sz:=rfl;rw[h8]at W X s1 Z;obtain⟨c1,c2,C,U,r2⟩:=W;obtain⟨N,O,V,G,x3⟩:=X;have k1:c1=(cs.toList.drop f.offset).take a.sz:=by
    have:((cs.toList.drop f.offset).take (a.sz+b.sz)).take a.sz=(c1++c2).take a.sz:=by rw[C]
    rw[DH,CV oa,<-U.length,List.take_left,U.length]at this;exact this.symm
   have k2:c2=(cs.toList.drop (f.offset+a.sz)).take b.sz:=by
    have:((cs.toList.drop f.offset).take (a.sz+b.sz)).drop a.sz=(c1++c2).drop a.sz:=by rw[C]
    rw[DA,C_,<-U.length,List.drop_left,U.length]at this;rw[<-this];congr 1;omega
   have x1:N=(j.toList.drop f.offset).take a.sz:=by
    have:((j.toList.drop f.offset).take (a.sz+b.sz)).take a.sz=(N++O).take a.sz:=by rw[V]
    rw[DH,CV oa,<-G.length,List.take_left,G.length]at this;exact this.symm
   have x2:O=(j.toList.drop (f.offset+a.sz)).take b.sz:=by
    have:((j.toList.drop f.offset).take (a.sz+b.sz)).drop a.sz=(N++O).drop a.sz:=by rw[V]
    rw[DA,C_,<-G.length,List.drop_left,G.length]at this;rw[<-this];congr 1;omega
   have⟨v,p1,p2⟩:=T8 h1.2.1 (k1▸U) oa;have⟨e,q1,q2⟩:=T8 h1.2.1 (x1▸G) oa;simp only[Ty.beq]at s;split at s
   .rename_i u z Y hz;have s:=A2 s;subst s;simp only[Ty.dep]at D;simp only[Op.eqFields];rw[if_pos (name_ne m.1)];simp only[Sem.run_bind,p1,Result.andThen_ok,q1,h9.1 f.type d x.1 y.1 v e u h1.2.1 m.2.1 p2 q2 Y oa];have h7:=x0.2 l (f.offset+a.sz) d x.2 y.2 cs j z h1.2.2.1 m.2.2 (k2▸r2) (x2▸x3) oa oa hz oa;cases u
    .simp
    grind
   .cases s
  .cases h1
 |unit=>
  refine⟨λid d x y v e r h=>by simp[Lay,layB]at h,λl off d x y cs j r h1 m W X s1 Z s D=>?_⟩;simp only[layB]at h1;split at h1
  .cases s;rfl
  .cases h1
 |_=>exact⟨λid d x y v e r _ h=>(oq),λl off d x y cs j r _ h=>(oq)⟩
theorem AFa:∀{t:Ty},(∀(id n:Nat) (e:Bool) (x:t.T) (v:Value),Lay P t id->(eqTB P t).1 id=true->VRel w I t x v->t.dep<n->(Instr.checkKey e n id v).run P w=.ok () w)/\
 (∀ (l:List Field) (off:Nat) (x:t.T) (cs:Array Value),(layB P t).2 l off=true->(eqTB P t).2 l=true->Rel w I t x ((cs.toList.drop off).take t.sz)->off+t.sz<=cs.size ->
  ∀f∈l,f.name≠"_" /\∃v,(part f.type cs f.offset).run P w=.ok v w/\∀(e:Bool) (n:Nat),t.dep<n->(Instr.checkKey e n f.type v).run P w=.ok () w):=by
 intro t
 have leaf:∀{t:Ty} {c:Nat->Bool} {k:TypeDesc->Bool},(layB P t).2=(layB.one P t k).2->(eqTB P t).2=(eqTB.one c).2->(∀id,(layB.one P t k).1 id=true->Lay P t id)->(∀id,c id=true->(eqTB P t).1 id=true)->
  (∀(id n:Nat) (e:Bool) (x:t.T) (v:Value),Lay P t id->(eqTB P t).1 id=true->VRel w I t x v->t.dep<n->(Instr.checkKey e n id v).run P w=.ok () w)->
  (∀ (l:List Field) (off:Nat) (x:t.T) (cs:Array Value),(layB P t).2 l off=true->(eqTB P t).2 l=true->Rel w I t x ((cs.toList.drop off).take t.sz)->off+t.sz<=cs.size ->
  ∀f∈l,f.name≠"_" /\∃v,(part f.type cs f.offset).run P w=.ok v w/\∀(e:Bool) (n:Nat),t.dep<n->(Instr.checkKey e n f.type v).run P w=.ok () w):=by
  intro t c k j W y hc m l off x cs h1 d G s1 f hf;rw[j]at h1;rw[W]at d;simp only[layB.one]at h1;split at h1
  .rename_i g;simp only[A5]at h1;have M:=A4 h1.1;subst M;simp only[eqTB.one,A5]at d;have E:Lay P t g.type:=y _ (by simp_all[layB.one,A5]);have⟨v,C,r2⟩:=T8 E G s1;grind
  .cases h1
 induction t with
 |bool=>
  have m:∀(id n:Nat) (e:Bool) (x:Bool) (v:Value),Lay P .bool id->(eqTB P .bool).1 id=true->VRel w I .bool x v->Ty.dep .bool<n->(Instr.checkKey e n id v).run P w=.ok () w:=by
   intro id n e x v y _ B z;obtain⟨c,h1,d⟩:=B;have j:v=.bool x:=AC.1 ((show c=[v]from h1).symm.trans d);subst j;cases n with
   |zero=>cases z
   |succ n=>simp[Instr.checkKey,run_underlying y.bool]
  exact⟨m,leaf (t:=.bool) (c:=λ_=>true) rfl rfl (λ_ h=>h) (λ_ h=>h) m⟩
 |int k=>
  have m:∀(id n:Nat) (e:Bool) (x:Int) (v:Value),Lay P (.int k) id->(eqTB P (.int k)).1 id=true->VRel w I (.int k) x v->Ty.dep (.int k)<n->(Instr.checkKey e n id v).run P w=.ok () w:=by
   intro id n e x v y _ B z;obtain⟨c,h1,d,_⟩:=B;have j:v=.int k x:=AC.1 ((show c=[v]from h1).symm.trans d);subst j;cases n with
   |zero=>cases z
   |succ n=>simp[Instr.checkKey,run_underlying y.int]
  exact⟨m,leaf (t:=.int k) (c:=λ_=>true) rfl rfl (λ_ h=>h) (λ_ h=>h) m⟩
 |str=>
  have m:∀(id n:Nat) (e:Bool) (x:DL) (v:Value),Lay P .str id->(eqTB P .str).1 id=true->VRel w I .str x v->Ty.dep .str<n->(Instr.checkKey e n id v).run P w=.ok () w:=by
   intro id n e x v y _ B z;obtain⟨c,h1,d,_⟩:=B;have j:v=.string ⟨x.toArray⟩:=AC.1 ((show c=[v]from h1).symm.trans d);subst j;cases n with
   |zero=>cases z
   |succ n=>simp[Instr.checkKey,run_underlying y.str]
  exact⟨m,leaf (t:=.str) (c:=λ_=>true) rfl rfl (λ_ h=>h) (λ_ h=>h) m⟩
 |agg p X=>
  have m:∀(id n:Nat) (e:Bool) (x:p.T) (v:Value),Lay P (.agg p) id->(eqTB P (.agg p)).1 id=true->VRel w I (.agg p) x v->Ty.dep (.agg p)<n->(Instr.checkKey e n id v).run P w=.ok () w:=by
   intro id n e x v y U B z;obtain⟨c,h1,d⟩:=B;have j:v=.agg c.toArray:=h1;subst j;obtain⟨fs,V,K,_⟩:=y.agg;simp only[eqTB,eqTB.one,V,A5,BE]at U;cases n with
   |zero=>cases z
   |succ n=>
    have s:Rel w I p x c:=d;have N:p.dep<n:=by simp only[Ty.dep]at z;omega
    have A:=X.2 fs.toList 0 x c.toArray K U.2 (by simpa[s.length]using (show Rel w I p x (c.take p.sz)from by rw[<-s.length,AQ];exact s)) (by simp[s.length]);rw[Instr.checkKey];simp only[Sem.run_bind,run_underlying V,Result.andThen_ok];rw[<-Array.forIn_toList];generalize fs.toList=L at A;induction L with
    |nil=>simp
    |cons f L Z=>have⟨O,v,p1,T⟩:=A f oh;have p3:=T e n N;simp only[List.forIn_cons,Sem.run_bind,O,ne_eq,not_false_eq_true,if_true,Result.andThen_ok,p1,p3,Sem.run_pure];simp_all
  exact⟨m,leaf (t:=.agg p) (c:=λid=>!(P.stoodInHeld id)&&(match P.underlying id with|some (.struct fs)=>(eqTB P p).2 fs.toList|_=>false)) rfl rfl (λ_ h=>h) (λ_ h=>h) m⟩
 |prod a b R Y=>
  refine⟨λid n e x v h=>by simp[Lay,layB]at h,λl off x cs h1 d G s1 f0 D=>?_⟩;simp only[layB]at h1;split at h1
  .rename_i f l;simp only[A5]at h1;simp only[eqTB,A5]at d;have M:=A4 h1.1;subst M;have Q:(Ty.prod a b).sz=a.sz+b.sz:=rfl;rw[Q]at G s1;obtain⟨H,J,j,C,r2⟩:=G;have k1:H=(cs.toList.drop f.offset).take a.sz:=by
    have:((cs.toList.drop f.offset).take (a.sz+b.sz)).take a.sz=(H++J).take a.sz:=by rw[j]
    rw[DH,CV oa,<-C.length,List.take_left,C.length]at this;exact this.symm
   have k2:J=(cs.toList.drop (f.offset+a.sz)).take b.sz:=by
    have:((cs.toList.drop f.offset).take (a.sz+b.sz)).drop a.sz=(H++J).drop a.sz:=by rw[j]
    rw[DA,C_,<-C.length,List.drop_left,C.length]at this;rw[<-this];congr 1;omega
   have⟨v,p1,T⟩:=T8 h1.2.1 (k1▸C) oa;rcases A_.1 D with rfl|D
   .exact⟨name_ne d.1,v,p1,λe n z=>R.1 f0.type n e x.1 v h1.2.1 d.2.1 T (by grind[Ty.dep])⟩
   grind[Ty.dep]
  .cases h1
 |unit=>grind[id,Lay,layB]
 |_=>exact⟨λid n e x v _ h=>(oq),λl off x cs _ h=>(oq)⟩
def NT(P:Program)(t:Ty)(id:Nat):Bool:=(eqTB P t).1 id&&(!(P.eqGuardType P.depth id)&&Nat.blt t.dep 10000)
theorem AFb(s:Lay P t id)(l:∃p,t=.agg p)(hk:NT P t id=true){x y:t.T}{a:Value}{b:Bool}(h:VRel w I t x v)(d:VRel w I t y a)(m:Ty.beq t x y=some b){op:BinOp}{ox oy:Operand}:
 (op=.eql->((do eqGuard op id ox oy v a;binOp op id v a:Sem Value)).run P w=.ok (.bool b) w)/\
 (op=.neq->((do eqGuard op id ox oy v a;binOp op id v a:Sem Value)).run P w=.ok (.bool (!b)) w):=by
 obtain⟨p,rfl⟩:=l;simp only[NT,A5,BE,BY]at hk;have B:=A22.1 id 10000 x y v a b s hk.1 h d m hk.2.2;obtain⟨c,h1,_⟩:=h;obtain⟨e,j,_⟩:=d;have z:v=.agg c.toArray:=h1;have A:a=.agg e.toArray:=j;grind[Sem.run_bind,run_eqGuard_agg,Result.andThen_ok,run_eql_struct,run_neq_struct]
end
section
variable{P:Program}{fr:Fr}{free free':Nat->Prop}{self:Nat}{σ:SSo}{w w':World}{G G':Gh}
def NU{o:Go.Obj}(h:w.heap[b]?=some o):b<w.heap.size:=(B1.1 h).1
def SlOK.slice{xs:List t.T}(h:SlOK fr w I el t xs wr v){c:Nat}(a:HS v=.map (some c)):
 c<w.heap.size/\fr.owned c/\∃cap cs,v=.slice (some ⟨c,0,none⟩) xs.length cap/\RowAt w c cs el:=by
 rcases h with⟨rfl,_⟩|⟨b,cap,cs,rfl,h1,d,j,l,e,_⟩
 .cases a
 .injection a with a;injection a with a;have a:b=c:=a;subst a;exact⟨d.lt,e,cap,cs,rfl,d⟩
theorem MgOK.own{j:List (k.T×List t.T)}{tk:Option k.T}(h:MgOK fr w I id k t j tk us cv){c:Nat}(l:Value.map (some c)∈us):
 ∃(x:List t.T) (v:Value),SlOK fr w I id t x false v/\HS v=.map (some c):=by
 obtain⟨b,a,d,rfl,h1,⟨p,_⟩,s,y,_⟩:=h;have⟨i,hi⟩:=BN l;have m:i<us.length:=(A3.1 hi).1;obtain⟨x,A⟩:∃x,j[i]?=some x:=⟨_,A1 oa⟩;obtain⟨e,z⟩:∃e,a[i]?=some e:=⟨_,AU oa⟩;grind
def SlOK.keep{xs:List t.T}(h:SlOK fr w I el t xs wr v)(e:Ext w I w' I')
 (D:∀c,HS v=.map (some c)->w'.heap[c]?=w.heap[c]? /\(∀b,I'.cell c b->I.cell c b)/\(I'.obj c->I.obj c)):SlOK fr w' I' el t xs wr v:=by
 rcases h with⟨rfl,rfl⟩|⟨l,cap,cs,rfl,s,y,z,A,B,C,m,j⟩
 .exact .inl ⟨rfl,rfl⟩
 .obtain⟨k1,p,G⟩:=D l rfl;exact .inr ⟨l,cap,cs,rfl,s,y.keep k1,z,λi x E=>(A i x E).ext e,B,λd o a=>C d o (p o a),λd o=>⟨λa=>(e.cell _ _ ((m d o).1 a)).1,λa=>(m d o).2 (p o a)⟩,λa=>j (G a)⟩
def YV(h:b∈bss.getD i []):b∈bss.flatten:=by rw[AJ]at h;grind[List.mem_flatten,List.mem_of_getElem?]
theorem DV.keep(e:Ext w I w' I'):∀{ids:List Nat} {x:(E2 ids t).T} {h:Option (List Nat)} {cs:List Value} {bs:List Nat},DV ow w I t ids x h cs bs->
 (∀b∈bs,w'.heap[b]?=w.heap[b]? /\(∀d,I'.cell b d->I.cell b d)/\(I'.obj b->I.obj b))->DV ow w' I' t ids x h cs bs:=by
 intro ids;induction ids with
 |nil=>intro x h cs bs j _;exact⟨j.1,Rel.ext e j.2⟩
 |cons id r A=>
  intro x h cs bs j m;obtain⟨v,rfl,h1,a⟩:=j;refine⟨v,rfl,h1,?_⟩;rcases a with a|a|⟨a,b,o,cap,cells,bss,rfl,D,E,G,H,J,K,L,rfl,M⟩
  .exact .inl a
  .grind
  .obtain⟨k1,B,C⟩:=m b AE;exact .inr (.inr ⟨a,b,o,cap,cells,bss,rfl,D,E.keep k1,G,H,λc s=>J c (B c s),λy=>K (C y),L,rfl,λi x z =>A (M i x z) λp l=>m p (AN _ (YV l))⟩)
theorem DV.blk:∀{ids:List Nat} {x:(E2 ids t).T} {h:Option (List Nat)} {cs:List Value} {bs:List Nat},DV ow w I t ids x h cs bs->
 ∀b∈bs,b<w.heap.size/\ow b/\(∀c,¬I.cell b c)/\¬I.obj b:=by
 intro ids;induction ids with
 |nil=>intro x h cs bs d b a;rw[d.1]at a;cases a
 |cons id r s=>
  intro x h cs bs d b a;obtain⟨v,rfl,h1,j⟩:=d;rcases j with⟨_,rfl,_⟩|⟨_,_,_,rfl⟩|⟨j,E,o,cap,cells,bss,rfl,G,y,H,z,A,B,C,rfl,D⟩
  .cases a
  .cases a
  .rcases A_.1 a with rfl|a
   .exact⟨y.lt,z,A,B⟩
   .obtain⟨l,p,m⟩:=List.mem_flatten.1 a;have⟨i,hi⟩:=BN p;have e:i<List.length (show List (E2 r t).T from x):=by rw[<-C];exact(A3.1 hi).1
    refine s (D i _ (A1 e)) b ?_;grind
theorem DV.head{r:List Nat}{x:List (E2 r t).T}(j:DV ow w I t (id::r) x h cs bs):
 ∃a cap,cs=[.slice a x.length cap]/\x.length<=281474976710656:=by
 obtain⟨v,rfl,h1,d⟩:=j;rcases d with⟨_,_,a,cap,rfl,e⟩|⟨_,rfl,e,_⟩|⟨_,b,o,cap,cells,bss,rfl,l,_⟩
 .grind
 .grind
 .exact⟨_,cap,rfl,l.2⟩
theorem DV.own{ow':Nat->Prop}:∀{ids:List Nat} {x:(E2 ids t).T} {h:Option (List Nat)} {cs:List Value} {bs:List Nat},DV ow w I t ids x h cs bs->(∀b∈bs,ow' b)->
 DV ow' w I t ids x h cs bs:=by
 intro ids;induction ids with
 |nil=>intro x h cs bs e _;exact e
 |cons id r p=>
  intro x h cs bs e j;obtain⟨v,rfl,h1,a⟩:=e;refine⟨v,rfl,h1,?_⟩;rcases a with a|a|⟨a,b,o,cap,cells,bss,rfl,s,y,z,E,A,B,C,rfl,D⟩
  .exact .inl a
  .grind
  .exact .inr (.inr ⟨a,b,o,cap,cells,bss,rfl,s,y,z,j b AE,A,B,C,rfl,λi x m =>p (D i x m) λl d=>j l (AN _ (YV d))⟩)
def AFc{a:Nat}(h:IK a=IK b):a=b:=by injection h with h;injection h
theorem MV(h:us=List.map IK bs):IK b∈us<->b∈bs:=by rw[h,B_];exact⟨λ⟨a,h1,d⟩=>AFc d▸h1,λh=>⟨b,h,rfl⟩⟩
theorem DpOK.inv{k:Nat}{r:List Nat}{x:(E2 (id::r) t).T}{a:Nat}(b:DpOK fr w G k (id::r) t x a h true):
 h≠some []/\G.ety k=some (E2 r t)/\∃v us bs,G.val k 0=some v/\G.val a 0=some (.tuple us)/\us.toList=List.map IK bs/\bs.Nodup/\DV fr.owned w G.im t (id::r) x h [v] bs:=
 let ⟨h0,h1,v,us,bs,h2,h3,h4,h5,h6,_⟩:=b
 ⟨h0,h1,v,us,bs,h2,h3,h4,h5,h6⟩
theorem DpOK.hole{k:Nat}{r:List Nat}{x:(E2 (id::r) t).T}{a:Nat}(b:DpOK fr w G k (id::r) t x a h true)(j:G.val k 0=some v):sT w G a h v:=by obtain⟨_,_,l,_,_,d,_,_,_,_,e⟩:=b;grind
theorem LK{k:Nat}{o:Obj}(h:ObjOK P fr w G k o)(d:Bk G k o b):b<w.heap.size:=by
 cases o with
 |box t c wr=>obtain⟨y,cs,el,h1,e,_⟩:=h;simp only[Bk,h1,BH,AK]at d;subst d;exact NU e
 |sl el t M g wr=>
  obtain⟨_,v,h1,e⟩:=h;simp only[Bk,h1]at d;rcases e with⟨rfl,_⟩|⟨y,cap,cs,rfl,_,j,_⟩
  .cases d
  .cases d;exact j.lt
 |mp a y B wr=>obtain⟨v,h1,p,K,D,m,l,rfl,j,_⟩:=h;simp only[Bk,h1,AK]at d;subst d;exact NU j
 |mg id a t B tk E=>
  obtain⟨v,us,h1,e,j⟩:=h;rcases d with d|⟨A,s,d⟩
  .obtain⟨y,m,l,rfl,C,_⟩:=j;rw[h1]at d;cases d;exact NU C
  .rw[e]at s;cases s;have⟨x,L,k1,I⟩:=j.own d;exact(k1.slice I).1
 |dp z t x E J wr=>
  obtain⟨rfl,A,s,d⟩:=d;cases z with
  |nil=>exact absurd h id
  |cons id r=>have⟨_,_,v,us,bs,h1,e,j,C,H⟩:=DpOK.inv h;rw[e]at s;cases s;exact(H.blk b ((MV j).1 d)).1
 |it a y B=>obtain⟨r,o,h1,e,_⟩:=h;simp only[Bk,h1,AK]at d;subst d;exact NU e
theorem H6{k:Nat}{o:Obj}(h:ObjOK P fr w G k o)(d:GLe w G w' G'):Bk G' k o b<->Bk G k o b:=by
 cases o with
 |box t c wr=>obtain⟨l,cs,el,h1,_⟩:=h;simp[Bk,h1,d.box _ _ h1]
 |sl el t B g wr=>obtain⟨_,v,h1,e⟩:=h;simp[Bk,h1,d.val _ _ _ h1]
 |mp a l m wr=>obtain⟨v,h1,_⟩:=h;simp[Bk,h1,d.val _ _ _ h1]
 |mg id a t m tk p=>obtain⟨v,us,h1,e,_⟩:=h;simp[Bk,h1,d.val _ _ _ h1,e,d.val _ _ _ e]
 |dp j t x p s wr=>
  cases wr with
  |false=>simp[Bk]
  |true=>
   cases j with
   |nil=>exact absurd h id
   |cons id r=>have⟨_,_,v,us,bs,h1,e,y,z,A⟩:=DpOK.inv h;simp[Bk,e,d.val _ _ _ e]
 |it a l m=>obtain⟨r,o,h1,_⟩:=h;simp[Bk,h1,d.val _ _ _ h1]
theorem ItAt.ext{a b:Ty}{s:List (a.T×b.T)}{o:Go.Obj}(h:ItAt w I a b s o)(e:Ext w I w' I'):ItAt w' I' a b s o:=by obtain⟨m,h1,z⟩:=h;refine⟨m,h1.ext e,z.imp id ?_⟩;rintro⟨p,l,d,rfl,rfl,A⟩;obtain⟨c,C,_,_,D,rfl,_,j⟩:=h1;have x:[Value.map D]=[Value.map (some p)]:=C;have y:=AC.1 x;cases y;have⟨B,_⟩:=j p rfl;exact⟨p,l,d,rfl,rfl,(e.obj p B).2.trans A⟩
theorem ObjOK.keep{k:Nat}{o:Obj}(h:ObjOK P fr w G k o)(d:GLe w G w' G')
 (K:∀b,Bk G k o b->w'.heap[b]?=w.heap[b]? /\(∀T,G'.im.cell b T->G.im.cell b T)/\(G'.im.obj b->G.im.obj b)):ObjOK P fr w' G' k o:=by
 cases o with
 |box t c wr=>obtain⟨A,cs,el,h1,s,y,D,z,E,N,O⟩:=h;have⟨k1,I,J⟩:=K A (by simp[Bk,h1]);exact⟨A,cs,el,d.box _ _ h1,k1.trans s,y,D,z.mono d,⟨λB o l=>E.1 B o (I o l),λB o l=>(d.ext.cell _ _ (E.2 B o l)).1⟩,λl=>N (J l),O⟩
 |sl el t xs g wr=>
  obtain⟨h0,v,h1,s⟩:=h;refine⟨d.ety _ _ h0,v,d.val _ _ _ h1,?_⟩;rcases s with⟨rfl,rfl⟩|⟨A,cap,cs,rfl,y,D,z,E,N,O,V,M⟩
  .exact .inl ⟨rfl,rfl⟩
  .obtain⟨k1,I,J⟩:=K A (by simp[Bk,h1]);refine .inr ⟨A,cap,cs,rfl,y,D.keep k1,z,λi x Q=>(E i x Q).ext d.ext,N,λB o l=>O B o (I o l),λB o=>⟨λl=>(d.ext.cell _ _ ((V B o).1 l)).1,λl=>(V B o).2 (I o l)⟩,λl=>M (J l)⟩
 |mp a b es wr=>obtain⟨v,h1,p,hp,A,C,m,rfl,y,D,z,E,N,O⟩:=h;have⟨k1,I,J⟩:=K A (by simp[Bk,h1]);exact⟨_,d.val _ _ _ h1,p,hp,A,C,m,rfl,k1.trans y,D,λi x e Q W=>⟨(z i x e Q W).1.ext d.ext,(z i x e Q W).2.ext d.ext⟩,⟨λB l=>E.1 B (J l),λB=>(d.ext.obj _ (E.2 B)).1⟩,λo l=>N o (I o l),O⟩
 |mg id a t es tk gk=>obtain⟨v,us,h1,s,A,C,m,rfl,y,D,z,E,N,O,V,M,x0⟩:=h;have⟨k1,I,J⟩:=K A (.inl h1);refine⟨_,us,d.val _ _ _ h1,d.val _ _ _ s,A,C,m,rfl,k1.trans y,D,z,λi x e u Q W hu=>?_,N,O,λl=>V (J l),λo l=>M o (I o l),x0⟩;have⟨q1,q2⟩:=E i x e u Q W hu;refine⟨q1.ext d.ext,q2.imp (λ⟨X,U,a3⟩=>⟨X,U,a3.ext d.ext⟩) λ⟨X,U⟩=>⟨X.keep d.ext λc hc=>?_,U⟩⟩;exact K c (.inr ⟨us,s,by rw[<-hc,<-U];exact AH hu⟩)
 |dp x3 t x gk h' wr=>
  cases x3 with
  |nil=>exact absurd h id
  |cons id r=>
   cases wr with
   |false=>obtain⟨v,h1,s⟩:=h;exact⟨v,d.val _ _ _ h1,Rel.ext d.ext s⟩
   |true=>
    have⟨h0,R,v,us,bs,h1,s,y,D,z⟩:=DpOK.inv h;have H:=DpOK.hole h h1;refine⟨h0,d.ety _ _ R,v,us,bs,d.val _ _ _ h1,d.val _ _ _ s,y,D,z.keep d.ext λb x1=>K b ⟨rfl,us,s,(MV y).2 x1⟩,?_⟩;unfold sT at H ⊢;split at H
    .rename_i i;obtain⟨hv,b,o,len,cap,e1,rfl,e0,Y⟩:=H;refine⟨hv,b,o,len,cap,d.val _ _ _ e1,rfl,e0,?_⟩;obtain⟨v',Z,_,L⟩:=z;have Z:=AC.1 Z;subst Z;have x2:b∈bs:=by
      rcases L with⟨L,_⟩|⟨_,L,_⟩|⟨_,A,o',x4,cells,bss,L,_,_,_,_,_,_,_,e5,_⟩
      .cases L
      .cases L
      .cases L;rw[e5];exact AE
     have:=(K b ⟨rfl,us,s,(MV y).2 x2⟩).1;unfold World.cell? at Y ⊢;simp only at Y ⊢;rw[this];exact Y
    .trivial
 |it a b es=>obtain⟨r,o,h1,s,y,D,z,E⟩:=h;have⟨k1,I,J⟩:=K r (by simp[Bk,h1]);exact⟨r,o,d.val _ _ _ h1,k1.trans s,y.ext d.ext,λl=>D (J l),λj l=>z j (I j l),E⟩
theorem MemS.change(x:MemS P fr free σ w G){k:Nat}{o':Option Obj}
 (p:GLe w G w' G')(V:∀j o,j≠k->σ j=some o->¬Bk G j o b)
 (O:∀a,a<w.heap.size->a≠b->w'.heap[a]?=w.heap[a]?)(A:w.heap.size<=w'.heap.size)(Y:b<w'.heap.size)(H:fr.owned b)
 (J:∀a d,G'.im.cell a d->G.im.cell a d\/a=b)(K:∀a,G'.im.obj a->G.im.obj a\/a=b)
 (M:w'.os=w.os)(B:w'.tape=w.tape)(E:w'.output=w.output)
 (hk:∀o,o'=some o->ObjOK P fr w' G' k o/\∀a,Bk G' k o a->a=b\/∀j Q,j≠k->σ j=some Q->¬Bk G j Q a)
 (m:∀j,free' j->j≠k/\free j/\G'.ety j=none/\G'.box j=none/\∀g,G'.val j g=none):
 MemS P fr free' (EF σ [(k,o')]) w' G':=by
 have y:∀j,EF σ [(k,o')] j=if j=k then o' else σ j:=by
  intro j;simp only[EF];by_cases h:j=k
  .simp
  .simp
 have old:∀j o,j≠k->σ j=some o->ObjOK P fr w' G' j o:=by intro j o s C;have h1:=x.objs j o C;refine h1.keep p λa l=>?_;have z:a≠b:=λe=>V j o s C (e▸l);exact⟨O a (LK h1 l) z,λd D=>(J a d D).resolve_right z,λL=>(K a L).resolve_right z⟩
 have N:∀j o,j≠k->σ j=some o->∀{b},Bk G' j o b<->Bk G j o b:=λj o s C=>H6 (x.objs j o C) p;refine⟨λj o C=>?_,λi j o o2 a hi s W X=>?_,?_,λj s=>?_⟩
 .grind
 .rw[y]at hi s;by_cases h1:i=k<;>by_cases I:j=k
  .rw[h1,I]
  .grind
  .grind
  .rw[if_neg h1]at hi;rw[if_neg I]at s;exact x.sep i j o o2 a hi s oc oc
 .refine x.after.trans (gv':=λa=>a=b) ⟨p.ext,λa l Z=>O a l Z,A,λa d h=>(J a d h).imp id .inr,λa h=>(K a h).imp id .inr,?_,?_,M,B,E,x.after.pins.ext p.ext⟩ ?_
  .intro a d h;rcases J a d h with h1|h1
   .exact AO (x.after.inC _ _ h1) A
   omega
  .intro a h;rcases K a h with h1|h1
   .exact AO (x.after.inO _ h1) A
   omega
  .intro a h;subst h;exact H.symm
 .obtain⟨h1,I,R,T,U⟩:=m j s;exact⟨by rw[y,if_neg h1];exact(x.fresh j I).1,R,T,U⟩
def A23(a:c.length=n)(h:∀j,j<n->w.cell? ⟨b,o+j,none⟩=c[j]?):
 (loadCells ⟨b,o,none⟩ n).run P w=.ok c.toArray w:=by
 grind[run_loadCells_list,MC,List.getElem?_eq_some_iff]
def tC(h:w.cell? ⟨b,o,none⟩=some v):(load ⟨b,o,none⟩).run P w=.ok v w:=by simp_all
theorem YW(b:Lay P t id):(isAgg id).run P w=.ok t.isAgg w:=by obtain⟨d,a,h⟩:=b.isAgg;simp only[isAgg,Sem.run_bind,run_underlying a,Result.andThen_ok];cases d<;>simp at h<;>simp[h]
theorem Lay.sz_one(a:Lay P t id)(h:t.isAgg=false):t.sz=1:=by cases t<;>first|rfl|(exfalso;simp[Ty.isAgg]at h;done)|(exfalso;simp[Lay,layB]at a;done)
def AFd(h:t.isAgg=false):KJ t v [v]:=by cases t<;>first|rfl|(exfalso;simp[Ty.isAgg]at h;done)
def AFe(h:t.isAgg=true):KJ t (.agg c.toArray) c:=by cases t<;>first|rfl|(exfalso;simp[Ty.isAgg]at h;done)
theorem VG(l:Lay P t id){x:t.T}(d:∀j,j<t.sz->w.cell? ⟨b,o+j,none⟩=c[j]?)(a:Rel w I t x c):
 ∃v,(loadVar id ⟨b,o,none⟩).run P w=.ok v w/\VRel w I t x v:=by
 obtain⟨i,hi,e⟩:=l.cells;simp only[loadVar,Sem.run_bind,YW l,Result.andThen_ok];cases h:t.isAgg with
 |true=>refine⟨.agg c.toArray,?_,c,AFe h,a⟩;simp only[if_true,Sem.run_bind,run_sizeOf w hi,e,Result.andThen_ok,A23 a.length d,Sem.run_pure]
 |false=>
  have h1:=l.sz_one h;have m:c.length=1:=by rw[a.length,h1]
  match c,m,d,a with
  |[v],_,d,a=>refine⟨v,?_,[v],AFd h,a⟩;simp_all
def AFf{cs:Array Value}{el:TypeId}{f:Nat×Nat}(h:w.heap[b]?=some (.cells cs el f))(o:Nat):w.cell? ⟨b,o,none⟩=cs.toList[o]?:=by simp[World.cell?,h]
def eP{cs:Array Value}{el:TypeId}(h:RowAt w b cs el):∀j,j<n->w.cell? ⟨b,o+j,none⟩=((cs.toList.drop o).take n)[j]?:=by intro j a;rw[h.cell,B3,if_pos a,B9]
def eQ{cs:Array Value}{el:TypeId}{f:Nat×Nat}(h:w.heap[b]?=some (.cells cs el f)):∀j,j<n->w.cell? ⟨b,o+j,none⟩=((cs.toList.drop o).take n)[j]?:=by intro j a;rw[AFf h,B3,if_pos a,B9]
def eR{p m:Nat}(h:p+m<=n):((((c.drop o).take n).drop p).take m)=(c.drop (o+p)).take m:=by rw[DA,DH,C_,CV oa]
theorem AFg(l:Lay P t id){x:t.T}(h:SR P w G (.ref t x) v):∃z,(Instr.loadAt id v).run P w=.ok z w/\SR P w G (.val t x) z:=by obtain⟨ad,c,rfl,h1,a,d⟩:=T9 h;obtain⟨b,p,y⟩:=ad;simp only at h1;subst h1;have⟨z,s,m⟩:=VG l (b:=b) (o:=p) (λj e=>(a.at_ j e).2) d;exact⟨z,by assumption,m⟩
theorem A24(hl:Lay P t id)(ho:∀k o,σ k=some o->ObjOK P fr w G k o){s':SV}(d:loadAt σ t s=some s')(h:SR P w G s v):
 ∃z,(Instr.loadAt id v).run P w=.ok z w/\SR P w G s' z:=by
 have D:∀{a:Addr} {z:Value},(loadVar id a).run P w=.ok z w->(Instr.loadAt id (.pointer (some a))).run P w=.ok z w:=by intro a z m;simp only[Instr.loadAt,Sem.run_bind,Instr.sureAddr,Sem.run_pure,Result.andThen_ok];exact m
 unfold loadAt at d;split at d
 .rename_i u x;cases hc:OI u t x with
  |none=>rw[hc]at d;cases d
  |some y=>rw[hc]at d;cases d;obtain⟨ad,c,rfl,h1,K,Q⟩:=T9 h;obtain⟨bb,oo,sp⟩:=ad;simp only at h1;subst h1;have R:=eH hc Q;have⟨z,m,M⟩:=VG hl (b:=bb) (o:=oo) (λj hj=>(K.at_ j (by rw[<-Q.length,R.length];exact hj)).2) R;exact⟨z,D m,M⟩
 .rename_i k p u;split at d
  .rename_i u' c wr hk;obtain⟨b,t',o,h1,K,Q,rfl⟩:=NR h;have⟨b',cs,el,k1,T,N,k4,k5,_⟩:=ho _ _ hk;rw[h1]at k1;cases k1;cases H:c.getAt p with
   |none=>rw[H]at d;cases d
   |some s0=>
    rw[H]at d;have⟨o',u1,m1,m2,m3,m4,Z⟩:=YR k4 k5 H;rw[K]at m1;cases m1;have E:∀{v1:Value},u1.sz=1->(cs.toList.drop o).take u1.sz=[v1]->t.isAgg=false->(loadVar id ⟨b,o,none⟩).run P w=.ok v1 w:=by intro v1 x3 x5 y1;simp only[loadVar,Sem.run_bind,YW hl,Result.andThen_ok,y1,D6,CL];refine tC ?_;have:=eQ (n:=1) (o:=o) T 0 oa;rw[x3]at x5;rw[x5]at this;simpa using this
    split at d
    .rename_i j g C;cases C;obtain⟨v1,q1,q0,V⟩:=Z;have m:t.isAgg=false/\s'=.obj j g:=by
      split at d
      .exact⟨rfl,(A2 d).symm⟩
      .exact⟨rfl,(A2 d).symm⟩
      .cases d
     obtain⟨m,rfl⟩:=m;exact⟨v1,D (E m3 V m),AFL q1 q0⟩
    .rename_i j q W C;cases C;have y9:=Z;obtain⟨b2,t2,U,q1,V,q3,q4⟩:=Z;have m:t.isAgg=false/\s'=.ptr j q W:=by
      split at d
      .exact⟨rfl,(A2 d).symm⟩
      .cases d
     obtain⟨m,rfl⟩:=m;exact⟨_,D (E m3 q4 m),_,rfl,b2,t2,U,q1,V,q3,rfl⟩
    .rename_i e2 x2 C;cases C;obtain⟨q1,ad,n2,y4,V,q3⟩:=Z;have m:t.isAgg=false/\s'=.mns e2 x2:=by
      split at d
      .exact⟨rfl,(A2 d).symm⟩
      .cases d
     obtain⟨m,rfl⟩:=m;exact⟨_,D (E m3 V m),_,rfl,V▸q1,ad,n2,y4,rfl,q3⟩
    .rename_i f2 h8 C;cases C;obtain⟨y5,q1,V⟩:=Z;have m:t.isAgg=false/\s'=.fn f2 h8:=by
      split at d
      .exact⟨rfl,(A2 d).symm⟩
      .cases d
     obtain⟨m,rfl⟩:=m;exact⟨_,D (E m3 q1 m),_,rfl,y5,rfl,V⟩
    .rename_i s1 _ _ _ _ C;cases C;cases J:s0.asC σ t with
     |none=>rw[J]at d;cases d
     |some x=>
      rw[J]at d;cases d;have l:=YQ ho J Z;have x3:t.sz=u1.sz:=by rw[<-l.length,m3.len Z]
      have⟨z,m,M⟩:=VG hl (b:=b) (o:=o) (λj hj=>eQ T j oa) l;exact⟨z,D m,M⟩
    .rename_i C;cases C
  .cases d
 .rename_i k p i q u;split at d
  .rename_i u' c wr hk;obtain⟨b,t',o,n,e,U,h1,K,⟨u0,Q,R⟩,X,h5,h6,rfl⟩:=eO h;have⟨b',cs,el,k1,T,N,k4,k5,_⟩:=ho _ _ hk;rw[h1]at k1;cases k1;split at d
   .rename_i n' e' L H;have⟨o',u1,m1,m2,m3,m4,Z⟩:=YR k4 k5 H;rw[K]at m1;cases m1;rw[Q]at m2;cases m2;have he:Ty.arr n' e'=Ty.arr n e:=(show(Ty.arr n' e').bare=u0.bare from m3).trans R;cases he;split at d
    .rename_i W y hy;cases J:OI W t y with
     |none=>rw[J]at d;cases d
     |some x=>
      rw[J]at d;cases d;obtain⟨r1,r2,r3⟩:=Z;have hi:i<List.length (show List e.T from L):=by rw[r1];exact X
      have B:(show List e.T from L)[i]?=some ((show List e.T from L).getD i e.dflt):=by rw[AJ,A1 hi];rfl
      have⟨oo,n1,n2,n3,O⟩:=eJ (r3 i _ B) hy;rw[h5]at n1;cases n1;have x1:(i+1)*e.sz<=n*e.sz:=AT _ X;rw[C8]at x1;have x4:u0.sz=n*e.sz:=by rw[<-Ty.sz_bare,R];rfl
      rw[eR n3,eR (by rw[x4];omega),<-CN]at O;have l:=eH J O;have⟨z,m,M⟩:=VG hl (b:=b) (o:=o+i*e.sz+U) (λj hj=>eQ T j (by have:=l.length.symm.trans O.length;omega)) l;exact⟨z,D m,M⟩
    .cases d
   .cases d
  .cases d
 .rename_i k g i q u;split at d
  .rename_i el e L g' hk;cases H:Nat.beq g g' with
   |false=>rw[H]at d;cases d
   |true=>
    rw[H]at d;simp only[A6]at d;have:=A4 H;subst this;obtain⟨b,o1,len,cap,e',U,h1,K,Q,X,h5,rfl⟩:=RQ h;have⟨A,v',k1,T⟩:=ho _ _ hk;rw[h1]at k1;cases k1;rw[A]at K;cases K;rcases T with⟨I,_⟩|⟨b',h7,cs,I,r1,r2,r3,r4,_⟩
    .cases I
    .cases I;rw[BO];split at d
     .rename_i W y hy;cases J:OI W t y with
      |none=>rw[J]at d;cases d
      |some x=>
       rw[J]at d;cases d;have B:L[i]?=some (L.getD i e.dflt):=by rw[AJ,A1 Q];rfl
       have⟨oo,n1,n2,n3,O⟩:=eJ (r4 i _ B) hy;rw[X]at n1;cases n1;rw[eR n3]at O;have l:=eH J O;have⟨z,m,M⟩:=VG hl (b:=b) (o:=i*e.sz+U) (λj hj=>eP r2 j (by have:=l.length.symm.trans O.length;omega)) l;exact⟨z,D m,M⟩
     .cases d
  .rename_i y7 e L gk hk;cases H:Nat.beq g 0 with
   |false=>rw[H]at d;cases d
   |true=>
    rw[H]at d;simp only[A6]at d;have:=A4 H;subst this;obtain⟨b,o1,len,cap,e',U,h1,K,Q,X,h5,rfl⟩:=RQ h;have⟨h0,A,v',us,bs,k1,_,_,_,v2,T,_,N⟩:=DpOK.inv (ho _ _ hk);have M:v'=v2:=(AC.1 T);subst M;rw[h1]at k1;cases k1;have A:G.ety k=some e:=A;rw[A]at K;cases K;rcases N with⟨N,_⟩|⟨_,N,_⟩|⟨_,b',o',h7,cells,bss,I,r1,r2,r3,r4,r5,r6,r7,r8,r9⟩
    .exact absurd N h0
    .cases N
    .cases I;split at d
     .rename_i W y hy;cases J:OI W t y with
      |none=>rw[J]at d;cases d
      |some x=>
       rw[J]at d;cases d;have B:∀(ys:List e.T),i<ys.length->ys[i]?=some (ys.getD i e.dflt):=λys h=>by rw[AJ,A1 h];rfl
       have⟨oo,n1,n2,n3,O⟩:=eJ (r9 i _ (B L Q)).2 hy;rw[X]at n1;cases n1;have n3:U+W.sz<=e.sz:=n3;have O:Rel w G.im W y ((((cells.toList.drop (o1+i*e.sz)).take e.sz).drop U).take W.sz):=O;rw[eR n3]at O;have l:=eH J O;have⟨z,m,M⟩:=VG hl (b:=b) (o:=o1+i*e.sz+U) (λj hj=>eP r2 j (by have:=l.length.symm.trans O.length;omega)) l;exact⟨z,D m,M⟩
     .cases d
  .rename_i y8 y3 rr e L gk hh hk;split at d
   .rename_i y6;cases H:Nat.beq g 0 with
    |false=>rw[H]at d;cases d
    |true=>
     rw[H]at d;cases d;have:=A4 H;subst this;obtain⟨b,o1,len,cap,e',U,h1,K,Q,X,h5,rfl⟩:=RQ h;have⟨h0,A,v',us,bs,k1,_,_,_,v2,T,_,N⟩:=DpOK.inv (ho _ _ hk);have M:v'=v2:=(AC.1 T);subst M;rw[h1]at k1;cases k1;rw[A]at K;cases K;have y0:(E2 (y3::rr) e).off []=some 0:=rfl;rw[y0]at X;cases X;rcases N with⟨N,_⟩|⟨_,N,_⟩|⟨_,b',o',h7,cells,bss,I,r1,r2,r3,r4,r5,r6,r7,r8,r9⟩
     .exact absurd N h0
     .cases N
     .cases I;have x0:∀(ys:List (List (E2 rr e).T)),i<ys.length->ys[i]?=some (ys.getD i []):=λys h=>by rw[AJ,A1 h];rfl
      have B:(show List (List (E2 rr e).T)from L)[i]?=some ((show List (List (E2 rr e).T)from L).getD i []):=x0 L Q;have⟨a,cp,q1,V⟩:=DV.head (r9 i _ B);have h9:w.cell? ⟨b,o1+i*1+0,none⟩=some (.slice a ((show List (List (E2 rr e).T)from L).getD i []).length cp):=by
       have hq:(cells.toList.drop (o1+i*1)).take 1=[.slice a ((show List (List (E2 rr e).T)from L).getD i []).length cp]:=q1;have Y:o1+i*1<cells.toList.length:=by
        rcases Nat.lt_or_ge (o1+i*1) cells.toList.length with Y|y2
        .exact Y
        .rw[List.drop_eq_nil_of_le y2]at hq;cases hq
       rw[BD Y]at hq;simp only[List.take_succ_cons,List.take_zero,List.cons.injEq,and_true]at hq;rw[r2.cell,CE,A1 Y,hq]
      refine⟨_,D ?_,_,rfl,a,cp,rfl,V⟩;simp only[loadVar,Sem.run_bind,YW hl,Result.andThen_ok,Ty.isAgg,D6,CL];exact tC h9
   .cases d
  .cases d
 .cases d
end
def MW(h:o+ds.length<=cs.length)(q:Nat):(EY cs o ds)[q]?=if o<=q/\q<o+ds.length then ds[q-o]? else cs[q]?:=by unfold EY;grind
def A25{a:Nat}(h:a+n<=cs.length)(e:o+ds.length<=n):
 ((EY cs (a+o) ds).drop a).take n=EY ((cs.drop a).take n) o ds:=by
 apply BR;intro q;have d:((cs.drop a).take n).length=n:=ot;rw[MW oa,B3];by_cases b:q<n
 .rw[if_pos b,B9,MW oa];grind
 grind
def A26{a:Nat}(h:o+ds.length<=cs.length)(d:a+n<=o\/o+ds.length<=a):
 ((EY cs o ds).drop a).take n=(cs.drop a).take n:=by
 apply BR;intro q;rw[B3,B3];by_cases b:q<n
 .rw[if_pos b,if_pos b,B9,B9,MW h,if_neg oa]
 grind
def AFh{p m:Nat}(h:o+m<=cs.length)(d:p+ds.length<=m):
 EY cs o (EY ((cs.drop o).take m) p ds)=EY cs (o+p) ds:=by
 have b:((cs.drop o).take m).length=m:=ot;have a:(EY ((cs.drop o).take m) p ds).length=m:=by rw[MB oa,b]
 apply BR;intro q;rw[MW oa,a];by_cases h1:o<=q/\q<o+m
 .rw[if_pos h1,MW oa,MW oa];grind
 .rw[if_neg h1,MW oa,if_neg oa]
section
variable{P:Program}{fr:Fr}{free free':Nat->Prop}{self:Nat}{σ σ':SSo}{w w':World}{G G':Gh}
theorem Rel.oneCell:∀{t:Ty} {x:t.T} {cs:List Value},Rel w I t x cs->∀v∈cs,v.oneCell'=true:=by
 intro t;induction t with
 |unit=>intro x cs h v j;rw[show cs=[]from h]at j;cases j
 |bool=>intro x cs h v j;rw[show cs=[_]from h]at j;simp at j;subst j;rfl
 |int k=>intro x cs h v j;rw[show cs=[_]from h.1]at j;simp at j;subst j;rfl
 |str=>intro x cs h v j;rw[show cs=[_]from h.1]at j;simp at j;subst j;rfl
 |slice s p=>intro x cs h v j;obtain⟨a,cap,h1,_⟩:=h;rw[h1]at j;simp at j;subst j;rfl
 |agg s p=>intro x cs h;exact p (show Rel w I s x cs from h)
 |prod a b D E=>
  intro x cs h v j;obtain⟨c,d,h1,l,A⟩:=h;rw[h1]at j;rcases AZ.1 j with h|h
  .exact D l v h
  .exact E A v h
 |arr n s p=>
  intro x cs h v j;obtain⟨h1,l,A⟩:=h;have⟨q,H⟩:=BN j;have m:q<cs.length:=(A3.1 H).1;have C:0<s.sz:=by
   rcases Nat.eq_zero_or_pos s.sz with h|h
   .rw[l,h,Nat.mul_zero]at m;omega
   .exact h
  have hi:q / s.sz<List.length (show List s.T from x):=by rw[h1];exact Nat.div_lt_of_lt_mul (by rw[CY,<-l];exact m)
  have K:=A (q / s.sz) _ (A1 hi);refine p K v ?_;have B:=Nat.div_add_mod q s.sz;have J:=Nat.mod_lt q C;have:((cs.drop (q / s.sz*s.sz)).take s.sz)[q % s.sz]?=some v:=by rw[B3,if_pos J,B9,CY,B];exact H
  exact AH this
 |ptr s p=>
  intro x cs h v j;cases x with
  |none=>rw[show cs=[_]from h]at j;simp at j;subst j;rfl
  |some y=>obtain⟨ad,h1,_⟩:=h;rw[h1]at j;simp at j;subst j;rfl
 |map k e L N=>intro x cs h v j;obtain⟨_,_,r,h1,_⟩:=h;rw[h1]at j;simp at j;subst j;rfl
 |inil=>intro x cs h v j;rw[show cs=[_]from h]at j;simp at j;subst j;rfl
 |self=>intro x cs h v j;rw[show cs=[_]from h]at j;simp at j;subst j;rfl
 |opq=>intro x cs h v j;obtain⟨O,h1,l⟩:=h;rw[h1]at j;simp at j;subst j;exact l
 |fnc d c _ _=>
  intro x cs h v j;cases x with
  |none=>rw[show cs=[_]from h]at j;simp at j;subst j;rfl
  |some F=>obtain⟨f,vs,h1,_⟩:=h;rw[h1]at j;simp at j;subst j;rfl
 |ialt id t r M G=>
  intro x cs h v j;cases x with
  |inl y=>obtain⟨O,c,h1,_⟩:=h;rw[h1]at j;simp at j;subst j;rfl
  |inr z=>exact G h.2 v j
def eS(h:v.oneCell'=true):v.cells= #[v]:=by cases v<;>first|rfl|(simp[Value.oneCell']at h)
def VRel.cells{x:t.T}(h:VRel w I t x v):Rel w I t x v.cells.toList:=by
 obtain⟨c,h1,a⟩:=h;have b:v=.agg c.toArray->Rel w I t x v.cells.toList:=by intro e;rw[e];exact a
 have p:c=[v]->Rel w I t x v.cells.toList:=by intro e;subst e;rw[eS (a.oneCell v oh)];exact a
 cases t<;>first|exact b h1|exact p h1
def SR.one(h:SR P w G s v)(b:∀u y,s≠.val u y):CR P w G s [v]:=by
 obtain⟨c,h1,a⟩:=h;have:c=[v]:=by cases s<;>first|exact h1|grind
 grind
theorem Fit.of_bare0(h:Fit s t)(e:u.bare=t.bare):Fit s u:=by
 have b:u.sz=t.sz:=by rw[<-Ty.sz_bare,e,Ty.sz_bare]
 cases s<;>first|exact(show _=_ from h).trans e.symm|exact b.trans h|(obtain⟨x,y,h1,a⟩:=h;exact⟨x,y,e.trans h1,a⟩)|exact absurd h id
def AFi{p:SV}(d:V1 t s=some p)(h:SR P w G s v):
 Fit p t/\CR P w G p v.cells.toList/\∀x∈v.cells.toList,x.oneCell'=true:=by
 have e:∀{s:SV},(t.sz=1->Fit s t)->t.sz=1->CR P w G s [v]->v.oneCell'=true->Fit s t/\CR P w G s v.cells.toList/\∀x∈v.cells.toList,x.oneCell'=true:=by intro s a I b c;rw[eS c];exact⟨a I,b,by simpa using c⟩
 have L:∀{s:SV},(SV.as t s).map (SV.val t ·)=some p->SR P w G s v->Fit p t/\CR P w G p v.cells.toList/\∀x∈v.cells.toList,x.oneCell'=true:=by
  intro s h1 y;cases H:SV.as t s with
  |none=>grind
  |some x=>rw[H]at h1;cases h1;have:=(KK H y).cells;exact⟨rfl,this,this.oneCell⟩
 unfold V1 at d;split at d
 .have j:=h.one oh;have E:=s_ h;split at d
  .cases d;exact e (λh=>h) rfl j E
  .cases d;exact e (λh=>h) rfl j E
  .cases d
 .have j:=h.one oh;have⟨b,M,o,_,_,_,l⟩:=NR h;split at d
  .cases d;exact e (λh=>h) rfl j (by rw[l];rfl)
  .cases d
 .rename_i u c;cases D:u.same t with
  |false=>grind
  |true=>rw[D]at d;have d:=A2 d;subst d;have:=Ty.same_eq D;subst this;obtain⟨cc,C,B,h1,y,J,K⟩:=h;have l:v=.agg B.toArray:=AC.1 ((show cc=[v]from C).symm.trans h1);subst l;obtain⟨a,b,rfl,y⟩:=y;exact⟨y.of_bare0 rfl,K,J⟩
 .have j:=h.one oh;obtain⟨vs,z,A⟩:=j;have l:v=_:=AC.1 z;split at d
  .cases d;exact e (λh=>h) rfl ⟨vs,z,A⟩ (by rw[l];rfl)
  .cases d
 .have j:=h.one oh;obtain⟨z,ad,n,m,A⟩:=j;have l:v=_:=AC.1 A;split at d
  .cases d;exact e (λh=>h) rfl ⟨z,ad,n,m,A⟩ (by rw[l];rfl)
  .cases d
 .have j:=h.one oh;have l:v=.slice none 0 0:=AC.1 (show [v]=[Value.slice none 0 0]from j);split at d
  .cases d;exact e (λh=>h) rfl j (by rw[l];rfl)
  .cases d
 .exact L d h
theorem Fit.of_bare(h:Fit s t)(e:u.bare=t.bare):Fit s u:=by
 have b:u.sz=t.sz:=by rw[<-Ty.sz_bare,e,Ty.sz_bare]
 cases s<;>first|exact(show _=_ from h).trans e.symm|exact b.trans h|(obtain⟨x,y,h1,a⟩:=h;exact⟨x,y,e.trans h1,a⟩)|exact absurd h id
def AFj:∀{c:SV} {t:Ty} {cs:List Value},Fit c t->CR P w G c cs->∀x∈cs,x.oneCell'=true:=by
 intro c;induction c with
 |val u y=>intro t cs _ l;exact(show Rel w G.im u y cs from l).oneCell
 |pr a b z A=>intro t cs s l x j;obtain⟨_,_,_,C,D⟩:=s;obtain⟨c,d,rfl,E,H⟩:=l;grind
 |obj k g=>intro t cs _ l x j;obtain⟨v,_,h1,rfl⟩:=l;grind
 |ptr k p u=>intro t cs _ l x j;obtain⟨b,B,o,_,_,_,rfl⟩:=l;simp at j;rw[j];rfl
 |nilS=>intro t cs _ l x j;rw[show cs=_ from l]at j;simp at j;rw[j];rfl
 |slf k=>intro t cs _ l x j;obtain⟨b,B,_,h⟩:=l;rcases h with rfl|rfl<;>(simp at j;rw[j];rfl)
 |fn f c=>intro t cs _ l x j;obtain⟨vs,rfl,_⟩:=l;simp at j;rw[j];rfl
 |hof d c F=>intro t cs _ l x j;obtain⟨f,vs,rfl,_⟩:=l;simp at j;rw[j];rfl
 |nns e y=>intro t cs _ l x j;obtain⟨_,ad,n,m,rfl⟩:=l;simp at j;rw[j];rfl
 |mns e y=>intro t cs _ l x j;obtain⟨_,ad,n,m,rfl,_⟩:=l;simp at j;rw[j];rfl
 |_=>intro t cs s;exact absurd s (by simp[Fit])
theorem A27(H:Lay P t id)(R:∀k o,σ k=some o->ObjOK P fr w G k o){L:SV}(d:V2 σ t s=some L)(h:SR P w G s v):
 ∃z,(Instr.loadAt id v).run P w=.ok z w/\SR P w G L z:=by
 unfold V2 at d;split at d
 .rename_i k p u;split at d
  .rename_i a b;cases E:u.bare.same (.prod a b)with
   |false=>grind
   |true=>
    rw[E]at d;simp only[A6]at d;have D:=Ty.same_eq E;split at d
    .rename_i u' c wr hk;split at d
     .rename_i s0 Q;have d:=A2 d;subst d;obtain⟨bl,t',o,h1,M,⟨m,N,e⟩,rfl⟩:=NR h;have⟨W,cs,el,k1,T,Y,U,V,_⟩:=R _ _ hk;rw[h1]at k1;cases k1;have⟨o',u1,J,K,B,Z,C⟩:=YR U V Q;rw[M]at J;cases J;rw[N]at K;cases K;have O:Fit s0 (.prod a b):=B.of_bare0 (D.symm.trans e.symm);have A:m.sz=(Ty.agg (.prod a b)).sz:=by rw[<-Ty.sz_bare m,e,D];rfl
      obtain⟨i,hi,y⟩:=H.cells;have l:((cs.toList.drop o).take m.sz).length=(Ty.agg (.prod a b)).sz:=by rw[B.len C,A]
      have I:(loadVar id ⟨bl,o,none⟩).run P w=.ok (.agg ((cs.toList.drop o).take m.sz).toArray) w:=by
       have x:(Ty.agg (.prod a b)).isAgg=true:=rfl
       simp only [loadVar,Sem.run_bind,YW H,Result.andThen_ok,x,if_true,run_sizeOf w hi,y,
        A23 l (λj X=>eQ T j oa),Sem.run_pure]
      refine⟨_,?_,_,rfl,_,rfl,⟨a,b,rfl,O⟩,AFj B C,C⟩;assumption
     .cases d
    .cases d
  .cases d
 .cases d
def Ext.of_heap(j:∀a,a≠b->w'.heap[a]?=w.heap[a]?)(l:∀o,¬I.cell b o)(d:¬I.obj b):Ext w I w' I:=
 ⟨λa o h=>⟨h,by grind[World.cell?]⟩,λa h=>⟨h,j a (λe=>d (e▸h))⟩⟩
def GLe.of_heap(j:∀a,a≠b->w'.heap[a]?=w.heap[a]?)(d:∀o,¬G.im.cell b o)(e:¬G.im.obj b):GLe w G w' G:=
 ⟨Ext.of_heap j d e,λ_ _ _ h=>h,λ_ _ h=>h,λ_ _ h=>h⟩
theorem eT(P:Program)(g o:Nat)(t:TypeId)(fz:Nat×Nat):∀(vs:List Value) (i:Nat) (a:Array Value) (w:World),w.heap[g]?=some (.cells a t fz)->(fz.2<=fz.1\/a.size<=fz.1)->o+i+vs.length<=a.size->(∀v∈vs,v.oneCell'=true)->
 (storeCells ⟨g,o,none⟩ vs i).run P w=.ok () (w.setRow g (a.toList.take (o+i)++vs++a.toList.drop (o+i+vs.length)).toArray)
 |[],i,a,w,hg,_,_,_=>by simp only[storeCells,CU,C4,CE,List.take_append_drop,Array.toArray_toList];rw[setRow_self w g a t fz hg];rfl
 |v::rest,i,a,w,hg,hfz,hl,h1=>by
  have hi:o+i<a.size:=by simp at hl;omega
  have b:(⟨g,o,none⟩:Addr).add i=⟨g,o+i,none⟩:=by unfold Addr.add;split<;>simp_all
  have h:w.cell? ⟨g,o+i,none⟩=some a[o+i]:=by simp[World.cell?,hg,hi]
  have d:w.frozen? ⟨g,o+i,none⟩=false:=by obtain⟨lo,l⟩:=fz;simp only[World.frozen?,hg,D9,CX];simp only at hfz;omega
  have j:(store ((⟨g,o,none⟩:Addr).add i) v).run P w=.ok () (w.setRow g (a.setIfInBounds (o+i) v)):=by rw[b,run_store P w _ v _ (h1 v oh),h];simp[d,setCell_eq_setRow w g (o+i) a t fz v hg]
  have p:=eT P g o t fz rest (i+1) (a.setIfInBounds (o+i) v) (w.setRow g (a.setIfInBounds (o+i) v)) (setRow_heap w g a _ t _ hg) (by simpa using hfz) oc (λx m=>h1 x (by simp[m]));simp only[storeCells,Sem.run_bind,j,Result.andThen_ok,p,setRow_setRow];congr 3;have e:=list_seg_step a.toList (o+i) v rest oa;grind
def RowAt.set{cs new:Array Value}{el:TypeId}(h:RowAt w b cs el)(d:new.size=cs.size):RowAt (w.setRow b new) b new el:=by obtain⟨fz,h1,a⟩:=h;exact⟨fz,setRow_heap w b cs new el fz h1,by rw[d];exact a⟩
theorem tD(l:Lay P t id){cs:Array Value}{el:TypeId}(a:RowAt w b cs el)
 (h:v.cells.toList.length=t.sz)(h1:∀x∈v.cells.toList,x.oneCell'=true)(d:o+t.sz<=cs.size):
 (storeVar id ⟨b,o,none⟩ v).run P w=.ok () (w.setRow b (EY cs.toList o v.cells.toList).toArray):=by
 obtain⟨i,hi,e⟩:=l.cells;obtain⟨fz,a,j⟩:=a;have m:v.cells.size=t.sz:=by rw[<-h];simp
 simp only[storeVar,Sem.run_bind,run_sizeOf w hi,e,Result.andThen_ok];rw[if_neg (by simp[m])];grind[eT,EY]
theorem A28(e:Lay P t id){cs:Array Value}{el:TypeId}(l:w.heap[b]?=some (.cells cs el (0,0)))
 (h:v.cells.toList.length=t.sz)(h1:∀x∈v.cells.toList,x.oneCell'=true)(a:o+t.sz<=cs.size):
 (storeVar id ⟨b,o,none⟩ v).run P w=.ok () (w.setRow b (EY cs.toList o v.cells.toList).toArray):=by
 obtain⟨i,hi,d⟩:=e.cells;have j:v.cells.size=t.sz:=by rw[<-h];simp
 simp only[storeVar,Sem.run_bind,run_sizeOf w hi,d,Result.andThen_ok];rw[if_neg (by simp[j])];grind[run_storeCells_at,EY]
def MemS.set(z:MemS P fr free σ w G){k:Nat}{o o':Obj}{cs new:Array Value}{el:TypeId}(hk:σ k=some o)(x:Bk G k o b)
 {fz:Nat×Nat}(B:w.heap[b]?=some (.cells cs el fz))(D:∀o,¬G.im.cell b o)(E:¬G.im.obj b)(m:fr.owned b)
 (l:(w.setRow b new).heap[b]?=some (.cells new el fz)->GLe w G (w.setRow b new) G->ObjOK P fr (w.setRow b new) G k o'/\∀a,Bk G k o' a->a=b):
 GLe w G (w.setRow b new) G/\MemS P fr (JA free self) (EF σ [(k,some o')]) (w.setRow b new) G:=by
 have C:∀a,a≠b->(w.setRow b new).heap[a]?=w.heap[a]?:=λa h=>setRow_other w b a new h;have d:GLe w G (w.setRow b new) G:=GLe.of_heap C D E;have⟨h1,I⟩:=l (setRow_heap w b cs new el fz B) d;refine⟨d,z.change (b:=b) d ?_ (λa _ h=>C a h) oh (by simpa using NU B) m (λ_ _ h=>.inl h) (λ_ h=>.inl h) rfl rfl rfl ?_ ?_⟩
 .intro j H p A s;exact p (z.sep j k H o b A hk s x)
 .grind
 .intro j p;have y:=z.fresh j p.1;refine⟨λe=>?_,p.1,y.2.1,y.2.2.1,y.2.2.2⟩;grind
def eU{xs:List e.T}{o2:Nat}{z:e.T}(s:xs.length*e.sz<=c.length)
 (h:∀j y,xs[j]?=some y->Rel w I e y ((c.drop (j*e.sz)).take e.sz))(hi:i<xs.length)
 (p:Rel w I e z (EY ((c.drop (i*e.sz)).take e.sz) o2 ds))(m:o2+ds.length<=e.sz):
 ∀j y,(xs.set i z)[j]?=some y->Rel w I e y (((EY c (i*e.sz+o2) ds).drop (j*e.sz)).take e.sz):=by
 intro j y l;have d:(i+1)*e.sz<=xs.length*e.sz:=AT _ hi;rw[C8]at d;by_cases a:j=i
 .subst a;rw[BU hi]at l;cases l;rw[A25 oa m];exact p
 .rw[BZ (λe=>a e.symm)]at l;rw[A26 oa]
  .exact h j y l
  .rcases Nat.lt_or_gt_of_ne a with b|b
   .left;have:(j+1)*e.sz<=i*e.sz:=AT _ b;grind
   .right;have:(i+1)*e.sz<=j*e.sz:=AT _ b;grind
def getD_some{xs:List α}{d:α}(h:i<xs.length):xs[i]?=some (xs.getD i d):=by grind
def A29{a:Nat}(h:a+o+ds.length<=cs.length):(EY cs (a+o) ds).drop a=EY (cs.drop a) o ds:=by apply BR;intro q;rw[B9,MW oa,MW ot,B9];grind
def AFk(h:∀i,i<bss.length->bss.getD i []=[]):bss.flatten=[]:=by apply List.flatten_eq_nil_iff.2;intro l a;have⟨i,hi⟩:=BN a;grind
theorem DV.leaf{xs:List t.T}(h:DV ow w I t [id] xs none [v] bs){len:Nat}(p:v=.slice (some ⟨b,o,none⟩) len cap):
 ∃cells,len=xs.length/\IS xs.length cap/\RowAt w b cells id/\o+cap*t.sz<=cells.size/\ow b/\(∀c,¬I.cell b c)/\¬I.obj b/\bs=[b]/\
  ∀i x,xs[i]?=some x->Rel w I t x ((cells.toList.drop (o+i*t.sz)).take t.sz):=by
 obtain⟨G,h0,h1,a⟩:=h;have e:v=G:=AC.1 h0;subst e;rcases a with⟨a,_⟩|⟨_,a,_⟩|⟨_,H,J,j,cells,bss,l,y,z,A,B,C,D,K,E,m⟩
 .cases a
 .grind
 .rw[p]at l;cases l;have d:bss.flatten=[]:=AFk λi hi=>(m i _ (A1 oa)).1;exact⟨cells,rfl,y,z,A,B,C,D,by rw[E,d],λi x s=>(m i x s).2⟩
theorem A2A(n:Nat):(List.replicate n ([]:List Nat)).flatten=[]:=by simp
theorem DV.mkleaf{xs:List t.T}{cells:Array Value}(d:IS xs.length cap)(e:RowAt w b cells id)(j:o+cap*t.sz<=cells.size)(l:ow b)
 (m:∀c,¬I.cell b c)(p:¬I.obj b)(s:∀i x,xs[i]?=some x->Rel w I t x ((cells.toList.drop (o+i*t.sz)).take t.sz)):DV ow w I t [id] xs none [.slice (some ⟨b,o,none⟩) xs.length cap] [b]:=by
 refine⟨_,rfl,rfl,.inr (.inr ⟨ou,b,o,cap,cells,List.replicate xs.length [],rfl,d,e,j,l,m,p,B8,by rw[A2A],λi x a=>⟨?_,s i x a⟩⟩)⟩;grind
def AFl{xs:List e.T}{o1 o2:Nat}{z:e.T}(l:o1+xs.length*e.sz<=c.length)
 (h:∀j y,xs[j]?=some y->Rel w I e y ((c.drop (o1+j*e.sz)).take e.sz))(hi:i<xs.length)
 (m:Rel w I e z (EY ((c.drop (o1+i*e.sz)).take e.sz) o2 ds))(d:o2+ds.length<=e.sz):
 ∀j y,(xs.set i z)[j]?=some y->Rel w I e y (((EY c (o1+i*e.sz+o2) ds).drop (o1+j*e.sz)).take e.sz):=by
 intro j y b;have a:(i+1)*e.sz<=xs.length*e.sz:=AT _ hi;rw[C8]at a;have:=eU (c:=c.drop o1) (ds:=ds) (i:=i) (o2:=o2) (z:=z) (w:=w) (I:=I) (xs:=xs) ot (λj y b=>by simp_all) hi (by simp_all) d j y b;rw[<-A29 oa,C_,<-CN]at this;exact this
theorem AFm(hl:Lay P t id)(M:MemS P fr free σ w G)(O:∀k o,σ' k=some o->σ k=some o){k d E:Nat}{xs:List e.T}{q:List Bool}{vp:Value}{y:t.T}{z:e.T}
 (hk:σ k=some (.dp [d] e xs E none true))(hy:s.asV σ' t=some y)(hz:Ty.put e q (xs.getD i e.dflt) t y=some z)(hp:SR P w G (.elem k 0 i q u) vp)(hv:SR P w G s v):
 ∃w',(Instr.storeAt id vp v).run P w=.ok () w'/\GLe w G w' G/\MemS P fr (JA free self) (EF σ [(k,some (.dp [d] e (xs.set i z) E none true))]) w' G:=by
 have W:∀{a:Addr} {w':World},(storeVar id a v).run P w=.ok () w'->(Instr.storeAt id (.pointer (some a)) v).run P w=.ok () w':=by intro a w' h;simp only[Instr.storeAt,Sem.run_bind,Instr.sureAddr,Sem.run_pure,Result.andThen_ok];exact h
 have ho:∀k o,σ' k=some o->ObjOK P fr w G k o:=λk o h=>M.objs k o (O k o h);obtain⟨b,m,len,cap,e',H,h1,X,J,h4,h5,rfl⟩:=RQ hp;have⟨h0,j,v',us,bs,k1,R,T,k6,Q⟩:=DpOK.inv (M.objs _ _ hk);have D:=k1;rw[h1]at D;cases D;have j:G.ety k=some e:=j;rw[j]at X;cases X;have Q:DV fr.owned w G.im e [d] xs none [.slice (some ⟨b,m,none⟩) len cap] bs:=Q;obtain⟨cs,rfl,r1,U,r3,r4,r5,r6,rfl,r9⟩:=Q.leaf rfl;have p:=(K0 ho hy hv).cells;have⟨z1,z2,z3⟩:=eK (r9 i _ (getD_some J)) hz h4 p;have l:=p.length;have C:(i+1)*e.sz<=xs.length*e.sz:=AT _ J;rw[C8]at C;have Y:xs.length*e.sz<=cap*e.sz:=AT _ r1.1;have h6:cs.toList.length=cs.size:=BG;have K:m+xs.length*e.sz<=cs.toList.length:=oa;have B:m+i*e.sz+H+v.cells.toList.length<=cs.toList.length:=by rw[l];omega
 have⟨fz,V,_⟩:=(show RowAt w b cs d from U);have A:∀I,Bk G k (.dp [d] e (xs.set i z) E none true) I->I=b:=by rintro I ⟨_,h7,Z,x⟩;rw[R]at Z;cases Z;rw[MV T]at x;simpa using x
 obtain ⟨q1,q2⟩:=M.set (self:=self) (new:=(EY cs.toList (m+i*e.sz+H) v.cells.toList).toArray) (o':=.dp [d] e (xs.set i z) E none true) (b:=b) hk ⟨rfl,us,R,(MV T).2 AE⟩ V r5 r6 r4 (λhh L =>
  ⟨⟨h0,j,_,us,_,h1,R,T,k6,by
   have:=DV.mkleaf (ow:=fr.owned) (w:=w.setRow b (EY cs.toList (m+i*e.sz+H) v.cells.toList).toArray) (I:=G.im) (id:=d) (b:=b) (o:=m) (cap:=cap) (xs:=xs.set i z) (cells:=(EY cs.toList (m+i*e.sz+H) v.cells.toList).toArray)
    oc (U.set (by rw[B7,MB B];simp)) (by grind[List.size_toArray,MB]) r4 r5 r6
    (λj' y' N=>by have:=AFl (o1:=m) K r9 J z3 oa j' y' N;simpa using Rel.ext L.ext this)
   rw[B0]at this;exact⟨this,trivial⟩⟩,A⟩)
 exact⟨_,W (tD hl U l p.oneCell oa),q1,q2⟩
theorem AFn(hl:Lay P t id)(X:MemS P fr free σ w G)(x:∀k o,σ' k=some o->σ k=some o){sp:SV}{vp:Value}{k:Nat}{o':Obj}
 (d:storeAt σ' t s sp=some (k,o'))(hp:SR P w G sp vp)(hv:SR P w G s v):
 ∃w',(Instr.storeAt id vp v).run P w=.ok () w'/\GLe w G w' G/\MemS P fr (JA free self) (EF σ [(k,some o')]) w' G:=by
 have h8:∀{a:Addr} {w':World},(storeVar id a v).run P w=.ok () w'->(Instr.storeAt id (.pointer (some a)) v).run P w=.ok () w':=by intro a w' h;simp only[Instr.storeAt,Sem.run_bind,Instr.sureAddr,Sem.run_pure,Result.andThen_ok];exact h
 have ho:∀k o,σ' k=some o->ObjOK P fr w G k o:=λk o h=>X.objs k o (x k o h);unfold storeAt at d;split at d
 .rename_i j p u;split at d
  .rename_i x2;split at d
   .rename_i bt c hk;split at d
    .rename_i s1 x1;cases B:c.setAt p s1 with
     |none=>grind
     |some c'=>
      rw[B]at d;cases d;obtain⟨b,t',o,h1,J,⟨u1,H,Q⟩,rfl⟩:=NR hp;have Y:=ho _ _ hk;obtain⟨b',cs,el,k1,R,k3,k4,k5,k6,k7,k8⟩:=Y;rw[h1]at k1;cases k1;have⟨f1,f2,f3⟩:=AFi x1 hv;have Z:u1.bare=t.bare:=Q.trans (Ty.same_eq x2);have h9:=f1.of_bare Z;have⟨m1,m2,m3⟩:=sW k4 k5 B J H h9 f2;have l:v.cells.toList.length=t.sz:=f1.len f2;have y0:u1.sz=t.sz:=by rw[<-Ty.sz_bare,Z,Ty.sz_bare]
      obtain ⟨q1,q2⟩:=X.set (self:=self) (new:=(EY cs.toList o v.cells.toList).toArray) (o':=.box bt c' true) (x _ _ hk) (by simp [Bk,h1]) R (k6.1 rfl) k7 k8.1 (λhh C =>⟨⟨b,_,el,h1,hh,by grind[MB],m1,by simpa using m3.mono C,k6,k7,k8⟩,by grind[Bk]⟩)
      grind[A28]
    .cases d
   .cases d
  .cases d
 .rename_i j p i q u;split at d
  .rename_i bt c hk;split at d
   .rename_i n' T A L;split at d
    .rename_i y hy;split at d
     .rename_i z hz;cases B:A1b c p n' T A i z with
      |none=>grind
      |some c'=>
       rw[B]at d;cases d;obtain⟨b,t',o,n,e,o2,h1,J,⟨O,H,K⟩,Q,h5,h6,rfl⟩:=eO hp;have⟨b',cs,el,k1,R,k3,k4,k5,k6,k7,k8⟩:=ho _ _ hk;rw[h1]at k1;cases k1;have⟨o',u1,m1,m2,m3,m4,m5⟩:=YR k4 k5 L;rw[J]at m1;cases m1;rw[H]at m2;cases m2;have he:Ty.arr n' T=Ty.arr n e:=(show(Ty.arr n' T).bare=O.bare from m3).trans K;have x0:n=n'/\e=T:=by injection he with a b;exact⟨a.symm,b.symm⟩
       obtain⟨rfl,rfl⟩:=x0;have y1:O.sz=n*e.sz:=by rw[<-Ty.sz_bare,K];rfl
       obtain⟨r1,r2,r3⟩:=m5;have h7:A.length=n:=r1;have hi:i<A.length:=by rw[h7];exact Q
       have m:=(KK hy hv).cells;have⟨z1,z2,z3⟩:=eK (r3 i _ (getD_some hi)) hz h5 m;have l:=m.length;have D:(i+1)*e.sz<=n*e.sz:=AT _ Q;rw[C8]at D;have W:((cs.toList.drop o).take O.sz).length=n*e.sz:=r2;have U:o+O.sz<=cs.toList.length:=ot;have E:CR P w G (.val (.arr n e) (A.set i z)) (EY ((cs.toList.drop o).take O.sz) (i*e.sz+o2) v.cells.toList):=by refine⟨Eq.trans (B0 (as:=(show List e.T from A)) (i:=i) (a:=z)) h7,by grind[MB],?_⟩;exact eU oc r3 hi z3 oa
       have⟨w1,w2,w3⟩:=sW (u:=O) k4 k5 B J H (show(Ty.arr n e).bare=O.bare from K.symm) E;rw[AFh U (by rw[l];omega),<-CN]at w3;obtain ⟨q1,q2⟩:=X.set (self:=self) (new:=(EY cs.toList (o+i*e.sz+o2) v.cells.toList).toArray) (o':=.box bt c' true) (x _ _ hk) (by simp [Bk,h1]) R (k6.1 rfl) k7 k8.1 (λhh C =>⟨⟨b,_,el,h1,hh,by grind[List.size_toArray,MB],w1,by simpa using w3.mono C,k6,k7,k8⟩,by grind[Bk]⟩)
       exact⟨_,h8 (A28 hl R l m.oneCell oa),q1,q2⟩
     .cases d
    .cases d
   .cases d
  .cases d
 .rename_i j g i q u;split at d
  .rename_i N e A g' hk;cases L:Nat.beq g g' with
   |false=>grind
   |true=>
    rw[L]at d;simp only[A6]at d;have:=A4 L;subst this;split at d
    .rename_i y hy;split at d
     .rename_i z hz;cases d;obtain⟨b,o1,len,cap,T,o2,h1,J,H,Q,h5,rfl⟩:=RQ hp;have⟨I,v',k1,R⟩:=ho _ _ hk;rw[h1]at k1;cases k1;rw[I]at J;cases J;rcases R with⟨M,_⟩|⟨b',x5,cs,M,r1,r2,r3,r4,r5,r6,r7,r8⟩
      .cases M
      .cases M;rw[BO];have m:=(K0 ho hy hv).cells;have⟨z1,z2,z3⟩:=eK (r4 i _ (getD_some H)) hz Q m;have l:=m.length;have D:(i+1)*e.sz<=A.length*e.sz:=AT _ H;rw[C8]at D;have V:A.length*e.sz<=cap*e.sz:=AT _ r1.1;have W:A.length*e.sz<=cs.toList.length:=by simp[r3];exact V
       have⟨fz,x4,_⟩:=(show RowAt w b cs N from r2);obtain ⟨q1,q2⟩:=X.set (self:=self) (new:=(EY cs.toList (i*e.sz+o2) v.cells.toList).toArray) (o':=.sl N e (A.set i z) g true) (x _ _ hk) (by simp [Bk,h1]) x4 (r6 rfl) r8 r5 (λhh C =>
        ⟨⟨I,_,h1,.inr ⟨b,cap,_,by rw [B0],oc,r2.set (by grind [List.size_toArray,MB]),
          by grind[List.size_toArray,MB],
          λj' y' x3=>by have:=eU W r4 H z3 oa j' y' x3;simpa using this.ext C.ext,r5,r6,λh=>(oq),r8⟩⟩,by grind[Bk]⟩)
       exact⟨_,h8 (tD hl r2 l m.oneCell oa),q1,q2⟩
     .cases d
    .cases d
  .rename_i N e A gk hk;cases L:Nat.beq g 0 with
   |false=>grind
   |true=>
    rw[L]at d;simp only[A6]at d;have:=A4 L;subst this;split at d
    .rename_i y hy;split at d
     .rename_i z hz;cases d;exact AFm (xs:=A) hl X x (x _ _ hk) hy hz hp hv
     .cases d
    .cases d
  .cases d
 .cases d
end
def Gh.addBox(G:Gh)(k b:Nat)(t:Ty):Gh:={G with box:=λj=>if j=k then some (b,t)else G.box j}
def Gh.addVal(G:Gh)(k g:Nat)(v:Value):Gh:={G with val:=λj h=>if j=k/\h=g then some v else G.val j h}
def Gh.addEty(G:Gh)(k:Nat)(t:Ty):Gh:={G with ety:=λj=>if j=k then some t else G.ety j}
def Gh.addIm(G:Gh)(b lo hi:Nat):Gh:={G with im:=⟨λb' o=>G.im.cell b' o\/(b'=b/\lo<=o/\o<hi),G.im.obj⟩}
theorem eV(k:Nat):JQ k k=true:=by simp_all[JQ,Nat.blt,A5,CC,AD]
section
variable{P:Program}{fr:Fr}{free free':Nat->Prop}{self:Nat}{σ σ':SSo}{w w':World}{G G':Gh}
def MemS.owned_new(h:MemS P fr free σ w G):fr.owned w.heap.size:=.inl h.after.size
def MemS.new(p:MemS P fr free σ w G)(s:free self){I:Go.Obj}{o':Obj}
 (D:w'.heap=w.heap.push I)(H:w'.os=w.os)(x:w'.tape=w.tape)(B:w'.output=w.output)
 (L:∀b d,G.im.cell b d->G'.im.cell b d)(K:∀b d,G'.im.cell b d->G.im.cell b d\/b=w.heap.size)(J:G'.im.obj=G.im.obj)
 (N:∀j,j≠self->G'.box j=G.box j/\G'.ety j=G.ety j/\∀g,G'.val j g=G.val j g)
 (hk:w'.heap[w.heap.size]?=some I->GLe w G w' G'->ObjOK P fr w' G' self o'/\∀y,Bk G' self o' y->y=w.heap.size):
 GLe w G w' G'/\MemS P fr (JA free self) (EF σ [(self,some o')]) w' G':=by
 have U:=p.fresh self s;have a:∀b,b<w.heap.size->w'.heap[b]?=w.heap[b]?:=λb C=>by rw[D,DJ C,AU C]
 have A:w'.heap[w.heap.size]?=some I:=by rw[D,D2]
 have m:GLe w G w' G':=by
  refine⟨⟨λb o h=>⟨L b o h,?_⟩,λb h=>⟨J▸h,a b (p.after.inO b h)⟩⟩,λk g v h=>?_,λk t h=>?_,λk b h=>?_⟩
  .simp only[World.cell?,a b (p.after.inC b o h)]
  .grind
  .grind
  .grind
 have⟨h1,T⟩:=hk A m;refine⟨m,p.change (b:=w.heap.size) m ?_ (λy h _=>a y h) (by rw[D];simp) (by rw[D];simp) p.owned_new K (λy h=>.inl (J▸h)) H x B ?_ ?_⟩
 .intro j o _ M C;exact absurd (LK (p.objs j o M) C) (AA _)
 .grind
 .intro j E;have z:j≠self:=λe=>by subst e;have:=E.2;grind[eV]
  have l:=p.fresh j E.1;have⟨O,Q,R⟩:=N j z;exact⟨z,E.1,Q.trans l.2.1,O.trans l.2.2.1,λg=>(R g).trans (l.2.2.2 g)⟩
def AFo{x:t.T}(h:Rel w G.im t x c):Fit (SV.unagg (.val t x)) t.bare/\CR P w G (SV.unagg (.val t x)) c:=by
 cases t with
 |agg p=>refine⟨?_,h⟩;rfl
 |_=>exact⟨rfl,h⟩
def AFp:∀{t:Ty} {l r:List Value},zc t l=some r->∃c,l=c++r/\CR P w G (H4 t) c/\Fit (H4 t) t/\c.length=t.sz:=by
 intro t;have base:∀{t:Ty} {l r:List Value},H4 t=.val t t.dflt->zc t l=some r->∃c,l=c++r/\CR P w G (H4 t) c/\Fit (H4 t) t/\c.length=t.sz:=by intro t l r H h;have⟨c,h1,d⟩:=A1y (w:=w) (I:=G.im) h;rw[H];exact⟨c,h1,d,rfl,d.length⟩
 have j:∀{a b:Ty} (_:∀{l r:List Value},zc a l=some r->∃c,l=c++r/\CR P w G (H4 a) c/\Fit (H4 a) a/\c.length=a.sz)
  (_:∀{l r:List Value},zc b l=some r->∃c,l=c++r/\CR P w G (H4 b) c/\Fit (H4 b) b/\c.length=b.sz) {l r:List Value},zc (.prod a b) l=some r->
  ∃c,l=c++r/\CR P w G (.pr (H4 a) (H4 b)) c/\(Fit (H4 a) a/\Fit (H4 b) b)/\c.length=a.sz+b.sz:=by
  intro a b C D l r h;simp only[zc]at h;split at h
  .rename_i L E;obtain⟨z,rfl,d,m,s⟩:=C E;obtain⟨A,rfl,I,J,K⟩:=D h;exact⟨z++A,oh,⟨z,A,rfl,d,I⟩,⟨m,J⟩,by simp[s,K]⟩
  .cases h
 have y:∀{e:Ty} {l r:List Value},zc (.slice e) l=some r->∃c,l=c++r/\c=[Value.slice none 0 0]:=by
  intro e l r h;simp only[zc]at h;split at h
  .grind
  .cases h
 have key:∀(n:Nat) (t:Ty),SizeOf.sizeOf t<n->∀{l r:List Value},zc t l=some r->∃c,l=c++r/\CR P w G (H4 t) c/\Fit (H4 t) t/\c.length=t.sz:=by
  intro n;induction n with
  |zero=>intro t h;omega
  |succ n x=>
   intro t B l r h;cases t with
   |prod a b=>simp only[Ty.prod.sizeOf_spec]at B;have⟨c,h1,d,m,s⟩:=j (x a oa) (x b oa) h;exact⟨c,h1,d,⟨a,b,rfl,m.1,m.2⟩,s⟩
   |slice e=>obtain⟨c,h1,rfl⟩:=y h;exact⟨_,h1,rfl,rfl,rfl⟩
   |agg p=>
    cases p with
    |prod a b=>simp only[Ty.agg.sizeOf_spec,Ty.prod.sizeOf_spec]at B;have⟨c,h1,d,m,s⟩:=j (x a oa) (x b oa) (show zc (.prod a b) l=some r from h);exact⟨c,h1,d,⟨a,b,rfl,m.1,m.2⟩,s⟩
    |_=>exact base rfl h
   |_=>exact base rfl h
 intro l r h;exact key (SizeOf.sizeOf t+1) t oa h
theorem A2B(b:MemS P fr free σ w G)(a:free self){c:SV}{cs:Array Value}(p:CR P w G c cs.toList)(s:Fit c t)(y:cs.size=t.sz)(d:t=GS->Lay P (.agg GS) id):
 ∃G',GLe w G (w.alloc (.cells cs id)) G'/\MemS P fr (JA free self) (EF σ [(self,some (.box t c true))]) (w.alloc (.cells cs id)) G'/\
  SR P (w.alloc (.cells cs id)) G' (.ptr self [] t) (.pointer (some ⟨w.heap.size,0,none⟩)):=by
 have⟨h1,m⟩:=b.new (w':=w.alloc (.cells cs id)) (G':=G.addBox self w.heap.size t) (o':=.box t c true) a rfl rfl rfl rfl
  (λ_ _ h=>h) (λ_ _ h=>.inl h) rfl (λj x=>⟨by simp [Gh.addBox,x],rfl,λ_=>rfl⟩) (λz e =>⟨⟨w.heap.size,cs,id,by simp[Gh.addBox],z,y,s,p.mono e,⟨λ_ o l=>absurd (b.after.inC _ _ l) (AA _),λh=>oq⟩,λl=>absurd (b.after.inO _ l) (AA _),b.owned_new,d⟩,by grind[Bk,Gh.addBox]⟩)
 refine⟨_,h1,m,_,rfl,w.heap.size,t,0,by simp[Gh.addBox],by cases t<;>rfl,⟨t,by cases t<;>rfl,rfl⟩,rfl⟩
theorem Lay.bld(d:Lay P t id)(h:t.bare=GS):Lay P (.agg GS) id:=by
 cases t with
 |agg p=>have h:p=GS:=h;grind
 |prod a b=>cases d
 |_=>cases h
theorem AFq(h:Lay P t id):∃v,(zeroValue id).run P w=.ok v w/\VRel w G.im t t.dflt v:=by have⟨i,v,h1,a,b,d,e⟩:=K4 h.inf;simp_all[sX,zeroValue,typeInfo]
def AFr(t:Nat)(v:Value):(newVar t v).run P w=.ok ⟨w.heap.size,0,none⟩ (w.alloc (.cells v.cells t)):=by rfl
def A2C(h:zv t v=true):CR P w G (H4 t.bare) v.cells.toList/\Fit (H4 t.bare) t.bare/\v.cells.size=t.bare.sz:=by
 have d:∀{t:Ty} {l:List Value},PS t l=true->CR P w G (H4 t) l/\Fit (H4 t) t/\l.length=t.sz:=by
  intro t l h;unfold PS at h;split at h
  .rename_i m;have⟨c,h1,a,b,p⟩:=AFp (P:=P) (w:=w) (G:=G) m;grind
  .cases h
 cases t with
 |agg t=>
  simp only[zv]at h;split at h
  .rename_i cs;have⟨h1,a,b⟩:=d h;exact⟨h1,a,(BG (xs:=cs)).symm.trans b⟩
  .cases h
 |arr n e=>
  simp only[zv]at h;split at h
  .rename_i cs;have⟨h1,a,b⟩:=d h;exact⟨h1,a,(BG (xs:=cs)).symm.trans b⟩
  .cases h
 |_=>
  simp only[zv]at h;split at h
  .cases h
  .rename_i j;have⟨h1,a,b⟩:=d h;rw[Value.cells_of_not_agg j];exact⟨h1,a,b⟩
theorem AFs(a:Lay P t id)(x:MemS P fr free σ w G)(h:free self):
 ∃v w',(Instr.alloc id true (.tuple #[])).run P w=.ok v w'/\
  Res P fr free self σ w G ⟨.ptr self [] t.bare,[(self,some (.box t.bare (H4 t.bare) true))]⟩ v w':=by
 have⟨i,z,h1,A,B,p,s⟩:=K4 a.inf;have y:(zeroValue id).run P w=.ok z w:=by simp[zeroValue,typeInfo,h1,p]
 have⟨b,d,e⟩:=A2C (P:=P) (w:=w) (G:=G) s;have⟨G',j,l,m⟩:=A2B (id:=id) x h b d e a.bld;refine⟨_,_,?_,G',j,l,m⟩;simp only[Instr.alloc,Sem.run_bind,y,Result.andThen_ok,AFr];rfl
theorem AFt(hl:Lay P t id)(hm:MemS P fr free σ w G)(E:free self){c:SV}(d:V1 t s=some c)(h:SR P w G s v):
 ∃z w',(Instr.box id v).run P w=.ok z w'/\
  Res P fr free self σ w G ⟨.ptr self [] t.bare,[(self,some (.box t.bare c.unagg true))]⟩ z w':=by
 have hc:CR P w G c.unagg v.cells.toList/\Fit c.unagg t.bare/\v.cells.size=t.bare.sz:=by
  have hd:∀{x:t.T},c=.val t x->VRel w G.im t x v->CR P w G c.unagg v.cells.toList/\Fit c.unagg t.bare/\v.cells.size=t.bare.sz:=by intro x K A;subst K;have D:=A.cells;have⟨f1,Z⟩:=AFo (P:=P) D;have C:=D.length;exact⟨Z,f1,by grind[Ty.sz_bare]⟩
  have O:∀{a b:Ty} {c0:SV} {j:List Value},t=.agg (.prod a b)->Fit c0 (.prod a b)->CR P w G c0 j->CR P w G c0.unagg j/\Fit c0.unagg t.bare/\j.toArray.size=t.bare.sz:=by
   intro a b c0 j ht J D;have C:=J.len D;subst ht;have H:j.toArray.size=(Ty.prod a b).sz:=by simpa using C
   cases c0 with
   |val u y=>
    cases u with
    |agg q=>have hq:q=.prod a b:=J;subst hq;exact⟨D,rfl,H⟩
    |_=>exact⟨D,J,H⟩
   |_=>exact⟨D,J,H⟩
  have h1:∀{s:SV},(∀u x,s≠.val u x)->SR P w G s v->v.cells= #[v]->CR P w G s v.cells.toList:=by intro s hn d A;rw[A];exact SR.one d hn
  unfold V1 at d;split at d
  .rename_i k g;have I:=s_ h;have A:v.cells= #[v]:=by cases v<;>first|rfl|cases I
   cases t<;>first|(cases d;done)|skip
   all_goals
    cases d;exact⟨h1 (λ_ _ e=>by cases e) h A,rfl,by rw[A];rfl⟩
  .rename_i k p u;obtain⟨b,t',o,_,_,_,rfl⟩:=NR h;cases t<;>first|(cases d;done)|skip
   cases d;exact⟨h1 (λ_ _ e=>by cases e) h rfl,rfl,rfl⟩
  .rename_i u c0;cases Q:u.same t with
   |false=>grind
   |true=>rw[Q]at d;have d:=A2 d;subst d;have:=Ty.same_eq Q;subst this;obtain⟨cc,l,j,W,X,e3,Y⟩:=h;have A:v=.agg j.toArray:=AC.1 ((show cc=[v]from l).symm.trans W);subst A;obtain⟨a,b,M,N⟩:=X;exact O M N Y
  .have B:=h;obtain⟨cc,l,vs,L,R⟩:=h;have A:v=_:=AC.1 ((show cc=[v]from l).symm.trans L);subst A;cases t<;>first|(cases d;done)|skip
   cases d;exact⟨h1 (λ_ _ e=>by cases e) B rfl,rfl,rfl⟩
  .have B:=h;obtain⟨cc,l,L,ad,n,m,R⟩:=h;have A:v=_:=AC.1 ((show cc=[v]from l).symm.trans R);subst A;cases t<;>first|(cases d;done)|skip
   cases d;exact⟨h1 (λ_ _ e=>by cases e) B rfl,rfl,rfl⟩
  .have B:=h;obtain⟨cc,l,L⟩:=h;have A:v=.slice none 0 0:=AC.1 ((show cc=[v]from l).symm.trans L);subst A;cases t<;>first|(cases d;done)|skip
   cases d;exact⟨h1 (λ_ _ e=>by cases e) B rfl,rfl,rfl⟩
  .cases K:SV.as t s with
   |none=>grind
   |some x=>rw[K]at d;cases d;exact hd rfl (KK K h)
 obtain⟨T,U,V⟩:=hc;have⟨G',g1,g2,g3⟩:=A2B (id:=id) hm E T U V hl.bld;refine⟨_,_,?_,G',g1,g2,g3⟩;rfl
end
def RowsOK(w:World)(I:Im)(t:Ty)(xs:List t.T)(cs:List Value):Prop:=∀(i:Nat) (x:t.T),xs[i]?=some x->Rel w I t x ((cs.drop (i*t.sz)).take t.sz)
section
variable{P:Program}{fr:Fr}{free free':Nat->Prop}{self:Nat}{σ σ':SSo}{w w':World}{G G':Gh}{I:Im}
def RowsOK.ext{xs:List t.T}(h:RowsOK w I t xs cs)(e:Ext w I w' I'):RowsOK w' I' t xs cs:=λi x a=>(h i x a).ext e
def lt_of_getElem? {l:List α}{x:α}(h:l[i]?=some x):i<l.length:=(A3.1 h).1
def TA{s:Nat}(h:i<n):i*s+s<=n*s:=by have:=AT s h;grind
theorem RowsOK.append{xs ys:List t.T}{a:List Value}(m:RowsOK w I t xs cs)(p:RowsOK w I t ys ds)(d:cs.length=xs.length*t.sz)(l:ds.length=ys.length*t.sz):
 RowsOK w I t (xs++ys) (cs++(ds++a)):=by
 intro i x hi;by_cases h:i<xs.length
 .rw[BJ h]at hi;rw[sV (by rw[d];exact TA h)];exact m i x hi
 .have j:xs.length<=i:=D1 h;rw[BC j]at hi;have b:=lt_of_getElem? hi;have e:i*t.sz=cs.length+(i-xs.length)*t.sz:=by rw[d,<-CP];congr 1;omega
  rw[e,eI,sV (by rw[l];exact TA b)];exact p _ x hi
def AFu{s:Nat}(h:o+s<=n):((cs.take n).drop o).take s=(cs.drop o).take s:=by rw[DA,DH];congr 1;omega
def RowsOK.take{xs:List t.T}(a:RowsOK w I t xs cs)(h:xs.length*t.sz<=n):RowsOK w I t xs (cs.take n):=by intro i x hi;rw[AFu (AM (TA (lt_of_getElem? hi)) h)];exact a i x hi
theorem RowsOK.set{xs:List t.T}{z:t.T}(h:RowsOK w I t xs cs)(a:xs.length*t.sz<=cs.length)(hi:i<xs.length)(b:Rel w I t z ds):
 RowsOK w I t (xs.set i z) (EY cs (i*t.sz) ds):=by
 have d:=b.length;have:=eU (o2:=0) (ds:=ds) a h hi (z:=z) (by simp_all[take,TA,EY,List.take_zero,CZ,BO,List.drop_eq_nil_of_le,CU]) oa
 exact this
def A2D{ys:List e.T}(h:VRel w I (.slice e) ys v):
 ∃a cap news,v=.slice a ys.length cap/\(a=none->ys=[])/\news.length=ys.length*e.sz/\RowsOK w I e ys news/\(∀u∈news,u.oneCell'=true)/\
  ∀ad,a=some ad->∀j u,news[j]?=some u->ad.spot=none/\w.cell? ⟨ad.block,ad.off+j,none⟩=some u:=by
 obtain⟨c,hc,a,cap,rfl,hcap,hnil0,had⟩:=h;have hnil:a=none->ys=[]:=λh=>(hnil0 h).1;have hv:[v]=[.slice a ys.length cap]:=(show _=[v]from hc).symm;injection hv with hv _;cases a with
 |none=>
  have:=hnil rfl;refine⟨none,cap,[],hv,hnil,?_,?_,oh,oh⟩
  .grind
  .rw[show ys=[]from this];intro i x hx;simp at hx
 |some ad=>
  have⟨hs,hr⟩:=had ad rfl;have hcell:∀j,j<ys.length*e.sz->∃u,w.cell? ⟨ad.block,ad.off+j,none⟩=some u:=by
   intro j hj
   have hpos : 0 < e.sz := by rcases Nat.eq_zero_or_pos e.sz with h | h; · grind
                              .exact h
   have hi:j / e.sz<ys.length:=Nat.div_lt_of_lt_mul oc;have⟨c,hrow,_⟩:=hr (j / e.sz) _ (A1 hi);have hm:=Nat.mod_lt j hpos;have:=(hrow.at_ (j % e.sz) hm).2;rw[CN,Nat.div_add_mod']at this;rw[this];exact⟨_,A1 (by rw[hrow.len];exact hm)⟩
  have hnews:∀j,((List.range (ys.length*e.sz)).map λj=>(w.cell? ⟨ad.block,ad.off+j,none⟩).getD undef)[j]?=if j<ys.length*e.sz then w.cell? ⟨ad.block,ad.off+j,none⟩else none:=by
   intro j;by_cases hj:j<ys.length*e.sz
   .grind
   .simp[hj]
  have hrows:RowsOK w I e ys ((List.range (ys.length*e.sz)).map λj=>(w.cell? ⟨ad.block,ad.off+j,none⟩).getD undef):=by
   intro i x hx;have⟨c,hrow,hrel⟩:=hr i x hx;have hb:=TA (s:=e.sz) (lt_of_getElem? hx);have:c=(((List.range (ys.length*e.sz)).map λj=>(w.cell? ⟨ad.block,ad.off+j,none⟩).getD undef).drop (i*e.sz)).take e.sz:=by
    apply BR;intro j;by_cases hj:j<e.sz
    .rw[B3,if_pos hj,B9,hnews,if_pos (AO (Nat.add_lt_add_left hj _) hb),<-CN];exact(hrow.at_ j hj).2.symm
    .rw[B3,if_neg hj,CK (by rw[hrow.len];omega)]
   rw[<-this];exact hrel
  refine⟨some ad,cap,_,hv,hnil,oh,hrows,?_,?_⟩
  .intro u hu;have⟨j,hj,hju⟩:=List.mem_iff_getElem.1 hu;have hj':j<ys.length*e.sz:=by simpa using hj
   have hpos : 0 < e.sz := by rcases Nat.eq_zero_or_pos e.sz with h | h; · grind
                              .exact h
   have hi:j / e.sz<ys.length:=Nat.div_lt_of_lt_mul oc;refine Rel.oneCell (hrows (j / e.sz) _ (A1 hi)) u ?_;refine List.mem_iff_getElem?.2 ⟨j % e.sz,?_⟩;rw[B3,if_pos (Nat.mod_lt j hpos),B9,Nat.div_add_mod',A1 hj,hju]
  .intro ad' had';cases had';intro j u hj;rw[hnews]at hj;split at hj
   .rename_i hlt;refine⟨hs λh0=>?_,hj⟩;have h1:=hcap.1;grind
   .cases hj
def MemS.drop(d:MemS P fr free σ w G)(k:Nat):MemS P fr free (EF σ [(k,none)]) w G:=by
 have a:∀j o,EF σ [(k,none)] j=some o->σ j=some o:=by
  intro j o h;simp only[EF]at h;cases p:Nat.beq j k with
  |true=>grind
  |false=>grind
 refine⟨λj o h=>d.objs j o (a j o h),λi j o l b hi e=>d.sep i j o l b (a i o hi) (a j l e),d.after,λj e=>?_⟩;have⟨h1,m⟩:=d.fresh j e;simp_all[EF]
def MemS.take_sl(E:MemS P fr free σ w G)(y:free self){xs:List t.T}{cs:Array Value}
 (W:∀j o,σ j=some o->¬Bk G j o b)(d:fr.owned b)
 (Q:∀a,a<w.heap.size->a≠b->w'.heap[a]?=w.heap[a]?)(O:w.heap.size<=w'.heap.size)
 (N:w'.os=w.os)(A:w'.tape=w.tape)(H:w'.output=w.output)
 (B:IS xs.length cap)(C:RowAt w' b cs el)(z:cs.size=cap*t.sz)
 (x:RowsOK w G.im t xs cs.toList)
 (Y:wr=true->∀o,¬G.im.cell b o)(X:∀o,G.im.cell b o->o<xs.length*t.sz/\w'.cell? ⟨b,o,none⟩=w.cell? ⟨b,o,none⟩)(T:¬G.im.obj b):
 ∃G',GLe w G w' G'/\MemS P fr (JA free self) (EF σ [(self,some (.sl el t xs 0 wr))]) w' G'/\SR P w' G' (.obj self 0) (.slice (some ⟨b,0,none⟩) xs.length cap):=by
 have Z:=E.fresh self y;let I':Im:=bif wr then G.im else⟨λa o=>G.im.cell a o\/(a=b/\o<xs.length*t.sz),G.im.obj⟩
 let G':Gh:={((G.addVal self 0 (.slice (some ⟨b,0,none⟩) xs.length cap)).addEty self t)with im:=I'}
 have U:∀a o,G.im.cell a o->I'.cell a o:=by
  intro a o h;cases wr with
  |true=>exact h
  |false=>exact .inl h
 have V:∀a o,I'.cell a o->G.im.cell a o\/(wr=false/\a=b/\o<xs.length*t.sz):=by
  intro a o h;cases wr with
  |true=>exact .inl h
  |false=>grind
 have m:I'.obj=G.im.obj:=by cases wr<;>rfl
 have K:b<w'.heap.size:=C.lt;have p:GLe w G w' G':=by
  refine⟨⟨λa o h=>⟨U a o h,?_⟩,λa h=>⟨m▸h,?_⟩⟩,λk g v h=>?_,λk t h=>?_,λk b h=>h⟩
  .by_cases J:a=b
   .grind
   .simp only[World.cell?,Q a (E.after.inC a o h) J]
  .exact Q a (E.after.inO a h) (λe=>T (e▸h))
  .have:k≠self:=λe=>oc;simp only[G',Gh.addVal,Gh.addEty,this,DC,CL];exact h
  .have:k≠self:=λe=>oc;simp only[G',Gh.addVal,Gh.addEty,this,CL];exact h
 have l:G'.val self 0=some (.slice (some ⟨b,0,none⟩) xs.length cap):=by simp[G',Gh.addVal,Gh.addEty]
 refine⟨G',p,E.change (b:=b) p (λj o _ M=>W j o M) Q O K d ?_ (λa h=>.inl (m▸h)) N A H ?_ ?_,⟨_,rfl,_,l,rfl,rfl⟩⟩
 .grind
 .intro o M;cases M;refine⟨⟨by simp[G',Gh.addVal,Gh.addEty],_,l,.inr ⟨b,cap,cs,rfl,B,C,z,x.ext p.ext,d,?_,?_,λh=>T (m▸h)⟩⟩,by grind[Bk]⟩
  .grind
  .intro R o;refine⟨λh=>?_,λh=>?_⟩
   .show I'.cell b o;simp only[I',R,A8];grind
   grind
 .intro j L;have s:j≠self:=λe=>by subst e;have:=L.2;grind[eV]
  have D:=E.fresh j L.1;refine⟨s,L.1,?_,D.2.2.1,λg=>?_⟩
  .simp only[G',Gh.addVal,Gh.addEty,s,CL];exact D.2.1
  .simp only[G',Gh.addVal,Gh.addEty,s,DC,CL];grind
def MemS.nil_sl(p:MemS P fr free σ w G)(s:free self):
 ∃G',GLe w G w G'/\MemS P fr (JA free self) (EF σ [(self,some (.sl el t [] 0 wr))]) w G'/\SR P w G' (.obj self 0) (.slice none 0 0):=by
 have H:=p.fresh self s;let G':Gh:=(G.addVal self 0 (.slice none 0 0)).addEty self t
 have d:GLe w G w G':=by
  refine⟨Ext.refl _ _,λk g v h=>?_,λk t h=>?_,λk b h=>h⟩
  .have:k≠self:=λe=>oc;simp only[G',Gh.addVal,Gh.addEty,this,DC,CL];exact h
  .have:k≠self:=λe=>oc;simp only[G',Gh.addVal,Gh.addEty,this,CL];exact h
 have a:G'.val self 0=some (.slice none 0 0):=by simp[G',Gh.addVal,Gh.addEty]
 have l:∀j,EF σ [(self,some (.sl el t [] 0 wr))] j=if j=self then some (.sl el t [] 0 wr)else σ j:=by
  intro j;simp only[EF];by_cases h:j=self
  .simp
  .simp
 have C:∀b,¬Bk G' self (.sl el t [] 0 wr) b:=by intro b;simp[Bk,a]
 refine⟨G',d,⟨λj o z=>?_,λi j o D b hi m A B=>?_,p.after,λj m=>?_⟩,⟨_,rfl,_,a,rfl,rfl⟩⟩
 .rw[l]at z;by_cases h:j=self
  .rw[if_pos h]at z;cases z;subst h;exact⟨by simp[G',Gh.addVal,Gh.addEty],_,a,.inl ⟨rfl,rfl⟩⟩
  .rw[if_neg h]at z;exact(p.objs j o z).keep d λb _=>⟨rfl,λ_ h=>h,λh=>h⟩
 .rw[l]at hi m;by_cases h1:i=self
  .grind
  .by_cases E:j=self
   .grind
   .rw[if_neg h1]at hi;rw[if_neg E]at m;exact p.sep i j o D b hi m (by rw[<-H6 (p.objs i o hi) d];exact A) (by rw[<-H6 (p.objs j D m) d];exact B)
 .have y:j≠self:=λe=>by subst e;have:=m.2;grind[eV]
  have x:=p.fresh j m.1;refine⟨oc,?_,x.2.2.1,λg=>?_⟩
  .simp only[G',Gh.addVal,Gh.addEty,y,CL];exact x.2.1
  .simp only[G',Gh.addVal,Gh.addEty,y,DC,CL];grind
def MemS.new_sl(l:MemS P fr free σ w G)(b:free self){xs:List t.T}{cs:Array Value}
 {fz:Nat×Nat}(s:fz.2≤fz.1∨cs.size≤fz.1∧Pins.P.underlying el=some (.int .u8))(y:w'.heap=w.heap.push (.cells cs el fz))(x:w'.os=w.os)(e:w'.tape=w.tape)(p:w'.output=w.output)
 (m:IS xs.length cap)(d:cs.size=cap*t.sz)(a:RowsOK w G.im t xs cs.toList):
 ∃G',GLe w G w' G'/\MemS P fr (JA free self) (EF σ [(self,some (.sl el t xs 0 wr))]) w' G'/\SR P w' G' (.obj self 0) (.slice (some ⟨w.heap.size,0,none⟩) xs.length cap):=
 l.take_sl b (λj o z h=>absurd (LK (l.objs j o z) h) (AA _)) l.owned_new
  (λA h _=>by rw[y,DJ h,AU h]) (by rw[y];simp) x e p m ⟨fz,by rw[y,D2],s⟩ d a
  (λ_ o h=>absurd (l.after.inC _ _ h) (AA _)) (λo h=>absurd (l.after.inC _ _ h) (AA _)) (λh=>absurd (l.after.inO _ h) (AA _))
theorem RowsOK.made{z:List Value}{x:t.T}(l:Rel w I t x z){m:Nat}(d:m<=n):RowsOK w I t (List.replicate m x) (madeCells z.toArray (n*t.sz)).toList:=by
 intro i y hi;have h:=lt_of_getElem? hi;rw[B8]at h;have e:x=y:=by rw[D3,if_pos h]at hi;exact A2 hi
 subst e;have a:=l.length;have s:=TA (s:=t.sz) (AO h d);have:((madeCells z.toArray (n*t.sz)).toList.drop (i*t.sz)).take t.sz=z:=by
  apply BR;intro j;by_cases b:j<t.sz
  .rw[B3,if_pos b,B9];have h1:i*t.sz+j<n*t.sz:=oa;have p:(i*t.sz+j) % z.length=j:=by rw[a,CY,Nat.mul_add_mod];exact Nat.mod_eq_of_lt b
   simp_all[madeCells,Array.toList_map,Array.toList_range,AX,List.getElem?_range,BH,B7,A1]
  .rw[B3,if_neg b,CK oa]
 grind
theorem PU(h:Lay P t id):∃i z,P.info? id=some i/\i.size=t.sz/\i.bytes<=24*t.sz/\i.zero=some z/\VRel w I t t.dflt z/\Rel w I t t.dflt z.cells.toList:=by have⟨i,v,h1,a,b,d,e⟩:=K4 h.inf;grind[sX]
def A2E{B:Nat}{l c:Int}{z:α}{xs:List α}(h:mks? B l c z=some xs):0<=l/\l<=c/\c.toNat*B<=70368744177664/\xs=List.replicate l.toNat z:=by unfold mks? at h;grind
theorem AFv(R:Lay P (.slice e) id)(T:MemS P fr free σ w G)(j:free self){a b:Int}{I:List e.T}(A:FZ .i64 b)
 (h:mks? (24*e.sz) a b e.dflt=some I)(y:∀x,P.underlying id=some (.slice x)->el=x):
 ∃v w',(Instr.makeSlice id (.int .i64 a) (.int .i64 b)).run P w=.ok v w'/\Res P fr free self σ w G ⟨.obj self 0,[(self,some (.sl el e I 0 wr))]⟩ v w':=by
 obtain⟨J,H,B,E⟩:=R.slice;have:=y _ H;subst this;obtain⟨h0,l,X,rfl⟩:=A2E h;have⟨i,z,h1,M,N,O,V,W⟩:=PU (P:=P) (w:=w) (I:=G.im) B;have p:(i.bytes:Int)*b<=281474976710656:=by
  have m:b=(b.toNat:Int):=oa;have Q:i.bytes*b.toNat<=281474976710656:=by
   have:i.bytes*b.toNat<=b.toNat*(24*e.sz):=by rw[CY];exact C7 _ N
   omega
  rw[m,<-Int.natCast_mul];exact Int.ofNat_le.2 Q
 have s:b<=9223372036854775807:=A.2;have d:=run_make (P:=P) w id el i z H h1 O .i64 .i64 a b h0 l p s;rw[M]at d;have U:madeCells z.cells (b.toNat*e.sz)=madeCells z.cells.toList.toArray (b.toNat*e.sz):=oh
 have⟨G',K,L,D⟩:=T.new_sl (w':=w.alloc (.cells (madeCells z.cells (b.toNat*e.sz)) el)) (el:=el) (wr:=wr) j (cap:=b.toNat) (xs:=List.replicate a.toNat e.dflt) (cs:=madeCells z.cells (b.toNat*e.sz)) (fz:=(0,0)) (.inl (AD _)) rfl rfl rfl rfl
  (by rw[B8];have C:b.toNat*1<=b.toNat*(24*e.sz):=C7 _ oa;exact⟨oa,oa⟩) (size_madeCells _ _) (by rw[U];grind[RowsOK.made])
 rw[B8]at D;exact⟨_,_,d,G',K,L,D⟩
def AFw:∀(ds:List Value) (k off:Nat) (cs:Array Value),off+k+ds.length<=cs.size->
 (ds.zipIdx k).foldl (λ(cs:Array Value) (p:Value×Nat)=>cs.setIfInBounds (off+p.2) p.1) cs=(EY cs.toList (off+k) ds).toArray:=by
 intro ds;induction ds with
 |nil=>simp_all[EY]
 |cons d ds a=>intro k off cs h;simp only[BL]at h;rw[List.zipIdx_cons,List.foldl_cons,a (k+1) off _ ot];congr 1;apply BR;intro j;rw[MW ot,MW ot];grind
def tE{a:Nat->Option (Nat×Nat)}{cells:Array Value}{off size:Nat}{b:List (Nat×Value)}(d:a i=some (off,size))(j:v.cells.size=size)(h:off+size<=cells.size):
 Instr.fill a cells ((i,v)::b)=Instr.fill a (EY cells.toList off v.cells.toList).toArray b:=by
 have e:v.cells.zipIdx.foldl (λ(cs:Array Value) (p:Value×Nat)=>cs.setIfInBounds (off+p.2) p.1) cells=(EY cells.toList off v.cells.toList).toArray:=by have:=AFw v.cells.toList 0 off cells ot;rw[<-Array.foldl_toList,Array.toList_zipIdx];simpa using this
 simp_all[Instr.fill,if_neg]
theorem AFx{p:Ty}{fs:Array Field}(L:(layB P p).2 fs.toList 0=true)
 (A:∀(f:Nat) (F:Field),fs[f]?=some F->∃s,places[f]?=some (F.offset,s)/\∃i,P.info? F.type=some i/\i.size=s)
 (N:MemS P fr free σ w G)(C:∀k o,σ' k=some o->σ k=some o):
 ∀{ps:List (Nat×SV)} {vs:List (Nat×Value)} {x y:p.T} {cells:Array Value},Y4 σ' p ps x=some y->ps.length=vs.length->
  (∀(j:Nat) (q:Nat×SV) (u:Nat×Value),ps[j]?=some q->vs[j]?=some u->q.1=u.1/\SR P w G q.2 u.2)->Rel w G.im p x cells.toList->
  ∃a,Instr.fill (places.toArray[·]?) cells vs=some a/\Rel w G.im p y a.toList:=by
 obtain⟨k1,V⟩:=YT L;intro ps;induction ps with
 |nil=>
  intro vs x y cells h b _ m;cases vs with
  |nil=>cases h;exact⟨cells,rfl,m⟩
  |cons _ _=>simp at b
 |cons q r T=>
  intro vs x y cells h b E m;cases vs with
  |nil=>simp at b
  |cons u vs=>
   obtain⟨i,s⟩:=q;obtain⟨R,v⟩:=u;obtain⟨hi,e⟩:=E 0 _ _ rfl rfl;have hi:i=R:=hi;subst hi;have e:SR P w G s v:=e;simp only[Y4]at h;cases h1:rQ σ' p i s x with
   |none=>grind
   |some x'=>
    rw[h1]at h;unfold rQ at h1;cases d:Nat.blt i p.fields with
    |false=>grind
    |true=>
     rw[d]at h1;simp only[A6]at h1;rw[BY]at d;split at h1
     .rename_i u O;split at h1
      .rename_i yv Q;have H:=(K0 (λk o h=>N.objs k o (C k o h)) Q e).cells;have l:i<fs.toList.length:=by rw[k1];exact d
       obtain⟨u',o,I,Y,Z,q4⟩:=V i _ (A1 l);rw[O]at I;cases I;obtain⟨sz,p1,U,W,X⟩:=A i _ (by rw[<-B4];exact A1 l);have B:sz=u.sz:=by obtain⟨i2,_,D,J,_⟩:=K4 q4.inf;rw[W]at D;cases D;rw[<-X,J]
       subst B;obtain⟨z1,z2,z3⟩:=eK m h1 Y H;have z:=H.length;have M:=m.length;rw[Z,BO]at p1;rw[tE (off:=o) (size:=u.sz) (by simpa using p1) oa oc];exact T h (by simpa using b) (λj q u h1 K=>E (j+1) q u oz (by simpa using K)) (by simpa using z3)
      .cases h1
     .cases h1
theorem A2F(A:MemS P fr free σ w G)(p:∀k o,σ' k=some o->σ k=some o):
 ∀{ps:List (Nat×SV)} {vs:List (Nat×Value)} {xs ys:List e.T} {cells:Array Value},RK σ' e ps xs=some ys->ps.length=vs.length->
  (∀(j:Nat) (q:Nat×SV) (u:Nat×Value),ps[j]?=some q->vs[j]?=some u->q.1=u.1/\SR P w G q.2 u.2)->cells.size=xs.length*e.sz->RowsOK w G.im e xs cells.toList->
  ∃a,Instr.fill (λi=>some (i*e.sz,e.sz)) cells vs=some a/\ys.length=xs.length/\a.size=cells.size/\RowsOK w G.im e ys a.toList:=by
 intro ps;induction ps with
 |nil=>
  intro vs xs ys cells h b _ _ y;cases vs with
  |nil=>cases h;exact⟨cells,rfl,rfl,rfl,y⟩
  |cons _ _=>simp at b
 |cons q r H=>
  intro vs xs ys cells h b x B y;cases vs with
  |nil=>simp at b
  |cons u vs=>
   obtain⟨i,s⟩:=q;obtain⟨E,v⟩:=u;obtain⟨hi,l⟩:=x 0 _ _ rfl rfl;have hi:i=E:=hi;subst hi;have l:SR P w G s v:=l;simp only[RK]at h;cases d:Nat.blt i xs.length with
   |false=>grind
   |true=>
    rw[d]at h;simp only[A6]at h;rw[BY]at d;split at h
    .rename_i N D;have C:=(K0 (λk o h=>A.objs k o (p k o h)) D l).cells;have m:=C.length;have M:=TA (s:=e.sz) d;rw[tE (off:=i*e.sz) (size:=e.sz) rfl oa oa]
     obtain⟨a,I,J,K,L⟩:=H (cells:=(EY cells.toList (i*e.sz) v.cells.toList).toArray) h (by simpa using b) (λj q u h1 z=>x (j+1) q u oz (by simpa using z))
      (by grind[List.size_toArray,MB]) (by grind[RowsOK.set])
     grind[List.length_set,List.size_toArray,MB]
    .cases h
def A2G:∀(fs:List Field),(∀(f:Nat) (F:Field),fs[f]?=some F->∃i,P.info? F.type=some i)->
 ∃places:List (Nat×Nat),fs.mapM (λf=>(P.info? f.type).map λi=>(f.offset,i.size))=some places/\
  ∀(f:Nat) (F:Field),fs[f]?=some F->∃s,places[f]?=some (F.offset,s)/\∃i,P.info? F.type=some i/\i.size=s:=by
 intro fs;induction fs with
 |nil=>simp
 |cons g fs b=>intro h;have⟨i,hi⟩:=h 0 g rfl;have⟨places,h1,d⟩:=b (λf F a=>h (f+1) F (by simpa using a));refine⟨(g.offset,i.size)::places,by simp[hi,h1],λf F a=>?_⟩;grind
theorem AFy(m:Lay P t id)(H:MemS P fr free σ w G)(l:∀k o,σ' k=some o->σ k=some o){vs:Array (Nat×Value)}{u:Upd}
 (h:dM σ' t ps=some r)(J:Gives r u)(a:ps.length=vs.toList.length)
 (I:∀(j:Nat) (q:Nat×SV) (u:Nat×Value),ps[j]?=some q->vs.toList[j]?=some u->q.1=u.1/\SR P w G q.2 u.2):
 u.wr=[]/\∃z,(Instr.build id vs).run P w=.ok z w/\SR P w G u.sv z:=by
 have⟨it,zv,h1,h2,h3,h4,h5,C⟩:=PU (P:=P) (w:=w) (I:=G.im) m;unfold dM at h;split at h
 .rename_i p;cases b:Y4 σ' p ps p.dflt with
  |none=>rw[b]at h;cases h
  |some x=>
   rw[b]at h;have h:=A2 h;subst h;rw[J.v_inv];obtain⟨fs,A,D,d⟩:=m.agg;have⟨k1,O⟩:=YT D;obtain ⟨places,p1,T⟩:=A2G (P:=P) fs.toList (λf F E=>by have⟨u,o,_,_,_,U⟩:=O f F E;have⟨i,_,e,_⟩:=K4 U.inf;exact⟨i,e⟩)
   have⟨cells,K,B⟩:=AFx (x:=p.dflt) (cells:=zv.cells) D (λf F E=>T f F oc) H l b a I C;refine⟨rfl,.agg cells,run_build w id vs cells ?_,cells.toList,by rfl,B⟩;grind[Program.built]
 .rename_i n e;cases b:RK σ' e ps (List.replicate n e.dflt)with
  |none=>rw[b]at h;cases h
  |some x=>
   rw[b]at h;have h:=A2 h;subst h;rw[J.v_inv];obtain⟨el,A,s,d,hn⟩:=m.arr;have⟨ie,ze,W,X,Y,Z,e5,e6⟩:=PU (P:=P) (w:=w) (I:=G.im) s;obtain⟨l1,Q,R⟩:=C;have M:zv.cells.size=n*e.sz:=by simpa using Q
   have⟨cells,K,B,V,L⟩:=A2F (cells:=zv.cells) H l b a I oc (λi y N=>R i y N);refine⟨rfl,.agg cells,run_build w id vs cells ?_,cells.toList,by rfl,?_,?_,L⟩
   .grind[Program.built]
   .grind
   grind
 .cases h
def AFz(z:MemS P fr free σ w G)(j:∀k o,σ' k=some o->σ k=some o){l:SV}(h:rR σ' u s=some l)(d:SR P w G s v):
 Fit l u/\CR P w G l v.cells.toList/\∀x∈v.cells.toList,x.oneCell'=true:=by
 have p:∀{s:SV},(SV.asV σ' u s).map (SV.val u ·)=some l->SR P w G s v->Fit l u/\CR P w G l v.cells.toList/\∀x∈v.cells.toList,x.oneCell'=true:=by
  intro s h1 a;cases e:SV.asV σ' u s with
  |none=>grind
  |some x=>rw[e]at h1;cases h1;have:=(K0 (λk o h=>z.objs k o (j k o h)) e a).cells;exact⟨rfl,this,this.oneCell⟩
 unfold rR at h;split at h
 .split at h
  .cases h;obtain⟨c,h1,a⟩:=d;have a:c=[.slice none 0 0]:=a;have B:v=.slice none 0 0:=AC.1 ((show c=[v]from h1).symm.trans a);subst B;exact⟨rfl,rfl,by simp[Value.cells,Value.oneCell']⟩
  .cases h
 .rename_i k g;have b:∀{u:Ty},u.sz=1->Fit (.obj k g) u/\CR P w G (.obj k g) v.cells.toList/\∀x∈v.cells.toList,x.oneCell'=true:=by intro u A;have y:=d.one oh;have m:=s_ d;rw[eS m];exact⟨A,y,by simpa using m⟩
  split at h
  .rename_i x e;cases h;exact p (s:=.obj k g) (by show(QV σ' k g u).map _=_;rw[e];rfl) d
  .split at h
   .cases h;exact b rfl
   .cases h;exact b rfl
   .cases h
 .exact p h d
theorem AG0{p:Ty}{fs:Array Field}(T:(layB P p).2 fs.toList 0=true)
 (D:∀(f:Nat) (F:Field),fs[f]?=some F->∃s,places[f]?=some (F.offset,s)/\∃i,P.info? F.type=some i/\i.size=s)
 (W:MemS P fr free σ w G)(H:∀k o,σ' k=some o->σ k=some o):
 ∀{ps:List (Nat×SV)} {vs:List (Nat×Value)} {x y:SV} {cells:Array Value},V0 σ' p ps x=some y→ps.length=vs.length→
  (∀(j:Nat) (q:Nat×SV) (u:Nat×Value),ps[j]?=some q→vs[j]?=some u→q.1=u.1∧SR P w G q.2 u.2)→Fit x p→CR P w G x cells.toList→(∀c∈cells.toList,c.oneCell'=true)→
  ∃a,Instr.fill (places.toArray[·]?) cells vs=some a/\Fit y p/\CR P w G y a.toList/\∀c∈a.toList,c.oneCell'=true:=by
 obtain⟨k1,k2⟩:=YT T;intro ps;induction ps with
 |nil=>
  intro vs x y cells h b _ z A h1;cases vs with
  |nil=>cases h;exact⟨cells,rfl,z,A,h1⟩
  |cons _ _=>simp at b
 |cons q r Y=>
  intro vs x y cells h b K z A J;cases vs with
  |nil=>simp at b
  |cons u vs=>
   obtain⟨i,s⟩:=q;obtain⟨X,v⟩:=u;obtain⟨hi,e⟩:=K 0 _ _ rfl rfl;have hi:i=X:=hi;subst hi;have e:SR P w G s v:=e;simp only[V0]at h;cases h1:rS σ' p i s x with
   |none=>grind
   |some x'=>
    rw[h1]at h;unfold rS at h1;cases d:Nat.blt i p.fields with
    |false=>grind
    |true=>
     rw[d]at h1;simp only[A6]at h1;rw[BY]at d;split at h1
     .rename_i u L;split at h1
      .rename_i l V;obtain⟨lf,N,M⟩:=AFz W H V e;have m:i<fs.toList.length:=by rw[k1];exact d
       obtain⟨u',o,O,q2,q3,q4⟩:=k2 i _ (A1 m);rw[L]at O;cases O;obtain⟨sz,p1,Z,p2,p3⟩:=D i _ (by rw[<-B4];exact A1 m);have E:sz=u.sz:=by obtain⟨i2,_,I,Q,_⟩:=K4 q4.inf;rw[p2]at I;cases I;rw[<-p3,Q]
       subst E;obtain⟨z1,z2,z3⟩:=sW z A h1 q2 L lf N;have C:=lf.len N;have U:=z.len A;rw[q3,BO]at p1;rw[tE (off:=o) (size:=u.sz) (by simpa using p1) oa oc];exact Y h (by simpa using b) (λj q u h1 R=>K (j+1) q u oz (by simpa using R)) z1 (by simpa using z3) (λc B=>by
        have B:c∈EY cells.toList o v.cells.toList:=by simpa using B
        unfold EY at B;grind)
      .cases h1
     .cases h1
theorem AG1(B:Lay P t id)(J:MemS P fr free σ w G)(m:∀k o,σ' k=some o->σ k=some o){vs:Array (Nat×Value)}{u:Upd}
 (h:Y5 σ' t ps=some r)(L:Gives r u)(d:ps.length=vs.toList.length)
 (K:∀(j:Nat) (q:Nat×SV) (u:Nat×Value),ps[j]?=some q->vs.toList[j]?=some u->q.1=u.1/\SR P w G q.2 u.2):
 u.wr=[]/\∃z,(Instr.build id vs).run P w=.ok z w/\SR P w G u.sv z:=by
 have⟨it,zv,h1,V,W,X,s⟩:=K4 B.inf;cases t<;>first|(simp[Y5]at h;done)|skip
 rename_i p;cases p<;>first|(simp[Y5]at h;done)|skip
 rename_i a b;have h:(V0 σ' (.prod a b) ps (H4 (.prod a b))).map (λc=>OpRes.v (.bt (.agg (.prod a b)) c))=some r:=h;cases D:V0 σ' (.prod a b) ps (H4 (.prod a b))with
 |none=>grind
 |some x=>
  rw[D]at h;have h:=A2 h;subst h;rw[L.v_inv];obtain⟨fs,M,y,C⟩:=B.agg;have⟨k1,N⟩:=YT y;obtain ⟨places,p1,O⟩:=A2G (P:=P) fs.toList (λf F A=>by have⟨u,o,_,_,_,Q⟩:=N f F A;have⟨i,_,e,_⟩:=K4 Q.inf;exact⟨i,e⟩)
  have⟨R,T,Y⟩:=A2C (P:=P) (w:=w) (G:=G) s;have l:∀c∈zv.cells.toList,c.oneCell'=true:=((sX (w:=w) (I:=G.im) s).2).oneCell;have⟨cells,U,E,H,I⟩:=AG0 (x:=H4 (.prod a b)) (cells:=zv.cells) y (λf F A=>O f F oc) J m D d K T R l;refine⟨rfl,.agg cells,run_build w id vs cells ?_,_,rfl,cells.toList,oh,⟨a,b,rfl,E⟩,I,H⟩;grind[Program.built]
theorem AG2{len:Nat}(R:Lay P (.slice e) id)(E:MemS P fr free σ w G)(A:∀k o,σ' k=some o→σ k=some o)(a:free self){vs:Array (Nat×Value)}{xs:List e.T}
 (y:(bif Nat.blt 0 len&&Nat.ble (len*e.sz) 16777216 then RK σ' e ps (List.replicate len e.dflt)else none)=some xs)(b:ps.length=vs.toList.length)(p:∀x,P.underlying id=some (.slice x)->el=x)
 (T:∀(j:Nat) (q:Nat×SV) (u:Nat×Value),ps[j]?=some q->vs.toList[j]?=some u->q.1=u.1/\SR P w G q.2 u.2):
 ∃v w',(Instr.buildSlice id len vs).run P w=.ok v w'/\Res P fr free self σ w G ⟨.obj self 0,[(self,some (.sl el e xs 0 wr))]⟩ v w':=by
 obtain⟨L,I,s,h⟩:=R.slice;have:=p _ I;subst this;cases m:(Nat.blt 0 len&&Nat.ble (len*e.sz) 16777216)with
 |false=>grind
 |true=>
  rw[m]at y;simp only[A6]at y;simp only[A5,BY,Nat.ble_eq]at m;have⟨i,z,h1,l,V,O,W,Q⟩:=PU (P:=P) (w:=w) (I:=G.im) s;have U:madeCells z.cells (len*e.sz)=madeCells z.cells.toList.toArray (len*e.sz):=oh
  have⟨cells,J,B,C,K⟩:=A2F (cells:=madeCells z.cells (len*e.sz)) E A y b T (by rw[size_madeCells,B8])
   (by rw[U];exact RowsOK.made Q (AD _))
  rw[B8]at B;rw[size_madeCells]at C;have H:0<len*e.sz:=Nat.mul_pos m.1 h;have d:=run_buildSlice w id el len vs cells i z I h1 O (by rw[l];omega) (by rw[l];omega) (by rw[l];exact J);obtain ⟨G',M,N,D⟩:=E.new_sl (w':=w.alloc (.cells cells el)) (el:=el) (wr:=wr) a (cap:=len) (xs:=xs) (cs:=cells) (fz:=(0,0)) (.inl (AD _)) rfl rfl rfl rfl ⟨oa,by have:len*1<=len*e.sz:=C7 _ h;omega⟩ C K
  rw[B]at D;exact⟨_,_,d,G',M,N,D⟩
theorem AG3(A:Lay P (.slice e) id)(B:MemS P fr free σ w G)(h:free self)(b:∀x,P.underlying id=some (.slice x)->el=x):
 ∃v w',(Instr.buildSlice id 0 #[]).run P w=.ok v w'/\Res P fr free self σ w G ⟨.obj self 0,[(self,some (.sl el e [] 0 wr))]⟩ v w':=by
 obtain⟨m,l,d,j⟩:=A.slice;have:=b _ l;subst this;have⟨i,z,h1,D,E,H,I,J⟩:=PU (P:=P) (w:=w) (I:=G.im) d;have a:(Instr.buildSlice id 0 #[]).run P w=.ok (.slice (some ⟨w.heap.size,0,none⟩) 0 0) (w.alloc (.cells #[] el)):=by simp[Instr.buildSlice,run_underlying l,sizeOf,typeInfo,h1,newRow,Instr.fill];rw[show(Array.range 0).map (λ_=>(default:Value))= #[]from Array.eq_empty_of_size_eq_zero oh]
 have⟨G',p,s,y⟩:=B.new_sl (w':=w.alloc (.cells #[] el)) (el:=el) (wr:=wr) h (cap:=0) (xs:=([]:List e.T)) (cs:=#[]) (fz:=(0,0)) (.inl (AD _)) rfl rfl rfl rfl ⟨oh,oh⟩ oh (λi x C=>by simp at C);exact⟨_,_,a,G',p,s,y⟩
theorem AG4{v:Ty}(E:Lay P (.map k v) id)(s:MemS P fr free σ w G)(l:free self){r:Option Value}(y:∀x,r=some x->∃A n,x=.int A n):
 ∃z w',(Instr.makeMap id r).run P w=.ok z w'/\Res P fr free self σ w G ⟨.obj self 0,[(self,some (.mp k v [] true))]⟩ z w':=by
 obtain⟨a,b,J,_,_⟩:=E.map;have p:(Instr.makeMap id r).run P w=.ok (.map (some w.heap.size)) (w.alloc (.map #[] 0)):=by
  cases r with
  |none=>simp[Instr.makeMap]
  |some x=>obtain⟨A,n,rfl⟩:=y x rfl;simp[Instr.makeMap,run_underlying J,asInt,asIntOf]
 let G':Gh:=G.addVal self 0 (.map (some w.heap.size))
 have d:G'.val self 0=some (.map (some w.heap.size)):=by simp[G',Gh.addVal]
 have⟨B,C⟩:=s.new (w':=w.alloc (.map #[] 0)) (G':=G') (o':=.mp k v [] true) l rfl rfl rfl rfl (λ_ _ h=>h) (λ_ _ h=>.inl h) rfl
  (λj D=>⟨rfl,rfl,λg=>by simp [G',Gh.addVal,D]⟩) (λI H=>⟨⟨_,d,[],⟨.refl _,AW⟩,w.heap.size,#[],0,rfl,I,⟨rfl,MapKept.stamped_empty 0⟩,λi x e h=>by simp at h,
   ⟨λ_ h=>absurd (s.after.inO _ h) (AA _),λh=>oq⟩,λo h=>absurd (s.after.inC _ _ h) (AA _),s.owned_new⟩,by intro K m;simp[Bk,d]at m;exact m.symm⟩)
 exact⟨_,_,p,G',B,C,_,rfl,_,d,rfl,rfl⟩
def tF{B:Nat}{xs ys z:List α}(h:app? B xs ys=some z):(xs.length+ys.length)*B<=70368744177664/\z=xs++ys:=by unfold app? at h;grind
theorem AG5{i:TypeInfo}(z:P.underlying id=some (.slice el))(hi:P.info? el=some i)(A:i.size=e.sz){ys:List e.T}(h:VRel w I (.slice e) ys v):
 ∃b,Src P i.size id v ys.length b w/\b.length=ys.length*e.sz/\RowsOK w I e ys b:=by
 obtain⟨a,cap,b,rfl,d,h1,m,p,s⟩:=A2D h;cases a with
 |none=>have:=d rfl;subst this;have:b=[]:=AF oz;grind[Src.ofNil]
 |some ad=>
  have x:=s ad rfl;refine⟨b,Src.ofSlice w z ad _ _ b oc (λj u y=>?_) p,h1,m⟩;have l:=(x j u y).1;have:ad.add j=⟨ad.block,ad.off+j,none⟩:=by cases ad;cases l;exact MC
  grind
def VH(P:Program)(w:World)(I:Im)(e:Ty)(id:Nat)(ys:List e.T)(v:Value):Prop:=
 ∃news,Src P e.sz id v ys.length news w/\news.length=ys.length*e.sz/\RowsOK w I e ys news
theorem tG(m:Lay P (.slice e) id){ys:List e.T}(h:VRel w I (.slice e) ys v):VH P w I e id ys v:=by obtain⟨j,p,b,d⟩:=m.slice;have⟨i,z,h1,l,_⟩:=K4 b.inf;have⟨a,s1,s,x⟩:=AG5 p h1 l h;exact⟨a,oc,s,x⟩
def AG6{ys:DL}{x:Int}(h:(FY ys)[i]?=some x):FZ .u8 x/\(((FY ys).map (Value.int .u8)).drop (i*1)).take 1=[Value.int .u8 x]:=by
 have hi:i<(FY ys).length:=(A3.1 h).1;refine⟨?_,?_⟩
 .unfold FY at h;rw[AX]at h;grind[Option.some.inj,sZ]
 simp_all[CS,BD,List.getElem_map,List.take_succ_cons,List.take_zero,A1,A2]
theorem AG7(p:Lay P .str id){ys:DL}(h:SR P w G (.val .str ys) v):VH P w G.im (.int .u8) id (FY ys) v:=by
 obtain⟨rfl,_⟩:=h.str;have b:(FY ys).length=(⟨ys.toArray⟩:ByteArray).size:=by simp[FY,ByteArray.size]
 have a:byteCells ⟨ys.toArray⟩=(FY ys).map (Value.int .u8):=by simp[byteCells,FY]
 have d:Src P 1 id (.string ⟨ys.toArray⟩) (FY ys).length (byteCells ⟨ys.toArray⟩) w:=by rw[b];exact Src.ofString w p.str _
 have j:(byteCells ⟨ys.toArray⟩).length=(FY ys).length*1:=by rw[a];simp
 refine⟨byteCells ⟨ys.toArray⟩,d,j,λi x l=>?_⟩;have l:(FY ys)[i]?=some (show Int from x):=l;have⟨h1,m⟩:=AG6 l;rw[a];have e:(((FY ys).map (Value.int .u8)).drop (i*(Ty.int .u8).sz)).take (Ty.int .u8).sz=[Value.int .u8 x]:=m;rw[e];exact⟨rfl,h1⟩
theorem A2H(K:Lay P (.slice e) id)(O:P.underlying id=some (.slice el))(m:Lay P e el)(L:MemS P fr free σ w G)(b:free self){xs ys:List e.T}{base:Option Addr}{olds:List Value}{ty id2:Nat}
 (V:(xs.length+ys.length)*(24*e.sz)<=70368744177664)(h:cap<xs.length+ys.length)(R:VH P w G.im e id2 ys v)
 (y:(Builtin.firstCells e.sz xs.length (.slice base xs.length cap)).run P w.drew=.ok olds.toArray w.drew)(p:olds.length=xs.length*e.sz)(M:RowsOK w G.im e xs olds):
 ∃z w',(Builtin.append_ #[id,id2] ty #[.slice base xs.length cap,v]).run P w=.ok z w'/\Res P fr free self σ w G ⟨.obj self 0,[(self,some (.sl el e (xs++ys) 0 wr))]⟩ z w':=by
 have⟨i,z,h1,D,E,H,U,I⟩:=PU (P:=P) (w:=w) (I:=G.im) m;obtain⟨a,s1,T,W⟩:=R;rw[<-D]at s1;have A:0<e.sz:=by obtain⟨_,Q,_,N⟩:=K.slice;exact N
 have d:(xs.length+ys.length)*i.bytes<=140737488355328:=by have:(xs.length+ys.length)*i.bytes<=(xs.length+ys.length)*(24*e.sz):=C7 _ E;omega
 have J:xs.length+ys.length<=70368744177664:=by have:(xs.length+ys.length)*1<=(xs.length+ys.length)*(24*e.sz):=C7 _ oa;omega
 have j:=run_append_grow_src w id id2 ty el i z O h1 H base xs.length cap olds oc v ys.length a s1 h oa (growslice_fits h d);have l:=grownCap_ge w (xs.length+ys.length) cap el;have s:z.cells.size=e.sz:=by have:=I.length;simpa using this
 have⟨G',B,C,x⟩:=L.new_sl (w':=w.drew.alloc (.cells ((olds++a).toArray++Builtin.zeroCells z.cells (grownCap w (xs.length+ys.length) cap el-(xs.length+ys.length))) el)) (el:=el) (wr:=wr) b
  (cap:=grownCap w (xs.length+ys.length) cap el) (xs:=xs++ys) (fz:=(0,0)) (.inl (AD _)) rfl rfl rfl rfl (by rw[AI];exact⟨l,oa⟩)
  (by rw[Array.size_append,size_zeroCells,s,B7,AI,p,T,<-CP,<-CP];grind)
  (by grind[Array.toList_append,List.append_assoc,RowsOK.append])
 rw[AI]at x;exact⟨_,_,j,G',B,C,x⟩
theorem tH(A:Lay P (.slice e) id)(l:∀x,P.underlying id=some (.slice x)->el=x)(B:MemS P fr free σ w G)(a:free self){ys y:List e.T}{ty id2:Nat}
 (D:VH P w G.im e id2 ys v)(h:app? (24*e.sz) [] ys=some y):
 ∃z w',(Builtin.append_ #[id,id2] ty #[.slice none 0 0,v]).run P w=.ok z w'/\Res P fr free self σ w G ⟨.obj self 0,[(self,some (.sl el e y 0 wr))]⟩ z w':=by
 obtain⟨E,p,d,C⟩:=A.slice;have:=l _ p;subst this;have⟨L,s⟩:=tF h;have s:y=ys:=s;rw[s];by_cases h0:ys.length=0
 .have O:ys=[]:=AF h0;subst O;have⟨i,z,h1,K,T,U,V,W⟩:=PU (P:=P) (w:=w) (I:=G.im) d;obtain⟨j,s1,Q,X⟩:=D;rw[←K]at s1;have M:j=[]:=AF (by simpa using Q);subst M;have⟨G',H,I,J⟩:=B.nil_sl (el:=el) (t:=e) (wr:=wr) a;refine⟨.slice none 0 0,w,?_,G',H,I,J⟩;have m:=s1.len w;have b:=s1.cells;simp at b;rcases s1.kind with⟨R,hk⟩|hk<;>simp[Builtin.append_,run_underlying p,run_underlying hk,sizeOf,typeInfo,h1,m,b]
 .have:=A2H (xs:=([]:List e.T)) (ys:=ys) (ty:=ty) (self:=self) (wr:=wr) (base:=none) (cap:=0) (olds:=[]) A p d B a L ot D (run_firstCells_none _ _ _ _ _) oh (λi x N=>by simp at N);simpa using this
theorem A2I(X:Lay P (.slice e) id)(K:∀x,P.underlying id=some (.slice x)->el=x)(hm:MemS P fr free σ w G)(d:free self){k:Nat}{xs ys zs:List e.T}{ty id2:Nat}
 (hk:σ k=some (.sl el e xs 0 wr))(hs:SR P w G (.obj k 0) v)(hv:VH P w G.im e id2 ys vx)(h:app? (24*e.sz) xs ys=some zs):
 ∃z w',(Builtin.append_ #[id,id2] ty #[v,vx]).run P w=.ok z w'/\Res P fr free self σ w G ⟨.obj self 0,[(self,some (.sl el e zs 0 wr)),(k,none)]⟩ z w':=by
 have⟨x0,v',k1,k2⟩:=hm.objs _ _ hk;obtain⟨c,hc,v2,k3,k4,k5⟩:=hs;have h9:v2=v:=by have:[v]=[v2]:=(show c=[v]from hc).symm.trans k5;exact(AC.1 this).symm
 subst h9;rw[k1]at k3;cases k3;have C:=hm.drop k;have R:free self:=d;rcases k2 with⟨rfl,rfl⟩|⟨b,cap,cs,rfl,J,H,D,p,N,hW,hA,hO⟩
 .exact tH X K C d hv h
 .obtain⟨x2,hu,M,x1⟩:=X.slice;have:=K _ hu;subst this;obtain⟨hB,rfl⟩:=tF h;have⟨i,z,h1,T,h3,h4,h5,h6⟩:=PU (P:=P) (w:=w) (I:=G.im) M;have h8:=hv;obtain⟨a,s1,s2,s3⟩:=hv;rw[<-T]at s1;have V:xs.length*e.sz<=cs.size:=by rw[D];exact AT _ J.1
  by_cases m:xs.length+ys.length<=cap
  .have A:xs.length*e.sz+a.length<=cs.size:=by rw[s2,D,<-CP];exact AT _ m
   have l:∀o,w.cell? ⟨b,o,none⟩=cs.toList[o]?:=H.cell;have⟨fz,U,W⟩:=(show RowAt w b cs el from H);have Q:=eT P b (xs.length*e.sz) el fz a 0 cs w U (W.imp (λh=>h) And.left) oa s1.one
   have O:(Builtin.append_ #[id,id2] ty #[.slice (some ⟨b,0,none⟩) xs.length cap,vx]).run P w=
    .ok (.slice (some ⟨b,0,none⟩) (xs.length+ys.length) cap) (w.setRow b (EY cs.toList (xs.length*e.sz) a).toArray):=by
    have Y:=s1.len w;have I:=s1.cells;rw[T]at I;simp only[CE]at Q;rcases s1.kind with⟨e',L⟩|L<;>simp[Builtin.append_,run_underlying hu,run_underlying L,sizeOf,typeInfo,h1,T,Y,m,I,Addr.add_lit,Q,EY]
   have s:(EY cs.toList (xs.length*e.sz) a).length=cs.size:=by rw[MB (by simpa using A)];simp
   have⟨G',g1,g2,g3⟩:=C.take_sl (w':=w.setRow b (EY cs.toList (xs.length*e.sz) a).toArray) (el:=el) (wr:=wr) (cap:=cap) (xs:=xs++ys) (b:=b) (cs:=(EY cs.toList (xs.length*e.sz) a).toArray) d
    (λj o B E=>by
     simp only[EF]at B;cases y:Nat.beq j k with
     |true=>rw[y]at B;cases B
     |false=>rw[y]at B;have:j=k:=hm.sep j k o _ b B hk E (by simp[Bk,k1]);rw[this,CM]at y;cases y)
    N (λb' _ h7=>setRow_other w b b' _ h7) oh rfl rfl rfl (by rw[AI];have x3:(xs.length+ys.length)*1<=(xs.length+ys.length)*(24*e.sz):=C7 _ oa;exact⟨m,oa⟩) (H.set (by rw[B7,s])) (by rw[B7,s,D])
    (by show RowsOK w G.im e (xs++ys) (EY cs.toList (xs.length*e.sz) a);exact RowsOK.append (RowsOK.take p (AD _)) s3 ot s2)
    (λhw=>hW hw)
    (λo B=>by
     cases wr with
     |true=>exact absurd B (hW rfl o)
     |false=>have Z:=(hA rfl o).2 B;refine⟨AO Z (by rw[AI,CP];omega),?_⟩;rw[(H.set (new:=(EY cs.toList (xs.length*e.sz) a).toArray) (by rw[B7,s])).cell,l];show(EY cs.toList (xs.length*e.sz) a)[o]?=_;rw[MW (by simpa using A),if_neg oa])
    hO
   rw[AI]at g3;exact⟨_,_,O,G',g1,g2,g3⟩
  .have l:∀o,w.cell? ⟨b,o,none⟩=cs.toList[o]?:=H.cell
   exact A2H (xs:=xs) (ys:=ys) (ty:=ty) (self:=self) (wr:=wr) (base:=some ⟨b,0,none⟩) (cap:=cap) (olds:=cs.toList.take (xs.length*e.sz)) X hu M C d hB oa h8
    (run_firstCells_some _ _ _ _ _ _ _ (by simp; omega) (λj u E=>by
     rw[World.cell?_drew,Addr.add_lit,BO,l];rw[B3]at E;split at E
     .exact E
     .cases E)) ot (RowsOK.take p (AD _))
theorem MemS.new_im(a:MemS P fr free σ w G){I:Go.Obj}(s:∀b,b<w.heap.size->w'.heap[b]?=w.heap[b]?)(E:w'.heap.size=w.heap.size+1)(A:w'.heap[w.heap.size]?=some I)
 (z:w'.os=w.os)(e:w'.tape=w.tape)(p:w'.output=w.output):
 GLe w G w' (G.addIm w.heap.size 0 n)/\MemS P fr free σ w' (G.addIm w.heap.size 0 n):=by
 have d:GLe w G w' (G.addIm w.heap.size 0 n):=by refine⟨⟨λb o h=>⟨.inl h,?_⟩,λb h=>⟨h,s b (a.after.inO b h)⟩⟩,λk g v h=>h,λk t h=>h,λk b h=>h⟩;simp only[World.cell?,s b (a.after.inC b o h)]
 have m:∀j o,σ j=some o->ObjOK P fr w' (G.addIm w.heap.size 0 n) j o:=by intro j o B;refine(a.objs j o B).keep d λb x=>?_;have l:=LK (a.objs j o B) x;exact⟨s b l,λJ h=>h.resolve_right (λh=>Nat.ne_of_lt l h.1),λh=>h⟩
 refine⟨d,m,λi j o H b hi y C D=>?_,?_,λj y=>a.fresh j y⟩
 .exact a.sep i j o H b hi y (by assumption) (by assumption)
 .refine a.after.trans (gv':=VC) ⟨d.ext,λb x _=>s b x,oa,λb o h=>h.imp id (λh=>.inl (Nat.le_of_eq h.1.symm)),λb h=>.inl h,?_,?_,z,e,p,a.after.pins.ext d.ext⟩ (λb h=>absurd h id)
  .intro b o h;rcases h with h|⟨h,_⟩
   .exact AO (a.after.inC b o h) oa
   .omega
  .intro b h;exact AO (a.after.inO b h) oa
theorem AG8(M:Lay P (.slice (.int .u8)) id)(m:∃d,P.underlying src=some d)(N:MemS P fr free σ w G){s:DL}(O:SR P w G (.val .str s) v):
 ∃z w',(convert src id v).run P w=.ok z w'/\Res P fr free self σ w G ⟨.val (.slice (.int .u8)) (FY s),[]⟩ z w':=by
 obtain⟨rfl,e⟩:=O.str;obtain⟨el,Q,C,_⟩:=M.slice;obtain⟨d,L⟩:=m;have l:=Lib.run_convert_string_bytes w src id el ⟨s.toArray⟩ L Q C.int;have D:(⟨s.toArray⟩:ByteArray).size=s.length:=OL s
 have⟨I,J⟩:=N.new_im (w':=Lib.bytesWorld w el ⟨s.toArray⟩) (n:=s.length) (λb K=>Lib.bytesWorld_at_old w el _ b K) (Lib.bytesWorld_size w el _) (Lib.bytesWorld_at_new w el _)
  rfl rfl rfl
 refine⟨_,_,l,_,I,J.shrink λ_ h=>h.1,?_⟩;have a:(FY s).length=s.length:=by simp[FY]
 refine⟨_,rfl,some ⟨w.heap.size,0,none⟩,grownCap w s.length 0 el,?_,?_,oh,?_⟩
 .rw[D];show _=[Value.slice _ (FY s).length _];rw[a]
 .show IS (FY s).length _;rw[a];exact⟨grownCap_ge _ _ _ _,e⟩
 .intro ad A;cases A;refine⟨λ_=>rfl,λi x y=>?_⟩;have y:(FY s)[i]?=some x:=y;have hi:i<s.length:=by rw[<-a];exact lt_of_getElem? y
  have E:x=((s[i]).toNat:Int):=by simp only[FY,AX,A1 hi,BH]at y;exact(A2 y).symm
  refine⟨[.int .u8 x],⟨rfl,λj H=>?_⟩,rfl,?_⟩
  .have B:j=0:=by simp[Ty.sz]at H;exact H
   subst B;have p:0+i*(Ty.int .u8).sz+0=i:=by simp[Ty.sz]
   rw[p];refine⟨.inr ⟨rfl,oa,hi⟩,?_⟩;grind[Lib.bytesWorld_cell,List.getD]
  .rw[E];have:=(s[i]).toNat_lt;constructor<;>simp[IntKind.min,IntKind.max,IntKind.signed,IntKind.bits]<;>omega
theorem AG9(D:Pins.P=P)(Z:Lay P (.slice (.int .u8)) id)(N:∀x,P.underlying id=some (.slice x)->el=x)(H:∃d,P.underlying src=some d)(p:MemS P fr free σ w G)(e:free self){s:DL}(hs:SR P w G (.val .str s) v):
 ∃z w',(convert src id v).run P w=.ok z w'/\Res P fr free self σ w G ⟨.obj self 0,[(self,some (.sl el (.int .u8) (FY s) 0 wr))]⟩ z w':=by
 obtain⟨rfl,A⟩:=hs.str;obtain⟨T,R,y,_⟩:=Z.slice;have:=N _ R;subst this;obtain⟨d,Y⟩:=H;have E:=Lib.run_convert_string_bytes w src id el ⟨s.toArray⟩ Y R y.int;have l:(⟨s.toArray⟩:ByteArray).size=s.length:=OL s;have a:(FY s).length=s.length:=by simp[FY]
 have O:=grownCap_ge w s.length 0 el;have L:(Lib.bytesCells w el ⟨s.toArray⟩).size=grownCap w s.length 0 el:=by unfold Lib.bytesCells;rw[l];simp;omega
 have b:∀i,i<s.length->(Lib.bytesCells w el ⟨s.toArray⟩).toList[i]?=some (.int .u8 ((s.getD i 0).toNat:Int)):=by
  intro i hi;have h1:=Lib.bytesWorld_cell w el ⟨s.toArray⟩ i (by rw[l];exact hi);have W:=Lib.bytesWorld_at_new w el ⟨s.toArray⟩;have X:(Lib.bytesWorld w el ⟨s.toArray⟩).cell? ⟨w.heap.size,i,none⟩=(Lib.bytesCells w el ⟨s.toArray⟩).toList[i]?:=by simp[World.cell?,W]
  rw[<-X,h1]
 have C:∀m,m<w.heap.size->m≠w.heap.size->(Lib.bytesWorld w el ⟨s.toArray⟩).heap[m]?=w.heap[m]?:=λm h _=>Lib.bytesWorld_at_old w el _ m h
 have⟨G',U,V,J⟩:=p.take_sl (w':=Lib.bytesWorld w el ⟨s.toArray⟩) (b:=w.heap.size) (el:=el) (wr:=wr) (cap:=grownCap w s.length 0 el) (t:=.int .u8) (xs:=FY s) (cs:=Lib.bytesCells w el ⟨s.toArray⟩) e
  (λj o ho h=>absurd (LK (p.objs j o ho) h) (AA _)) p.owned_new C (by rw[Lib.bytesWorld_size];omega) rfl rfl rfl
  (by show IS (FY s).length _;rw[a];exact⟨O,A⟩) ⟨_,Lib.bytesWorld_at_new w el _,.inr ⟨AD _,by rw[D];exact y.int⟩⟩ (by rw[L];simp[Ty.sz])
  (by
   intro i x I;have I:(FY s)[i]?=some x:=I;have hi:i<s.length:=by rw[<-a];exact lt_of_getElem? I
   have Q:x=((s.getD i 0).toNat:Int):=by simp only[FY,AX,A1 hi,BH]at I;rw[AJ,A1 hi];exact(A2 I).symm
   have K:=b i hi;have B:i<(Lib.bytesCells w el ⟨s.toArray⟩).toList.length:=(A3.1 K).1;have M:((Lib.bytesCells w el ⟨s.toArray⟩).toList.drop (i*(Ty.int .u8).sz)).take (Ty.int .u8).sz=[.int .u8 ((s.getD i 0).toNat:Int)]:=by show((Lib.bytesCells w el ⟨s.toArray⟩).toList.drop (i*1)).take 1=_;rw[CS,BD B];rw[A1 B]at K;rw[A2 K];rfl
   rw[M,Q];exact⟨rfl,sZ _⟩)
  (λ_ o h=>absurd (p.after.inC _ _ h) (AA _)) (λo h=>absurd (p.after.inC _ _ h) (AA _)) (λh=>absurd (p.after.inO _ h) (AA _))
 refine⟨_,_,E,G',U,V,?_⟩;rw[l];have J:SR P _ G' (.obj self 0) (.slice (some ⟨w.heap.size,0,none⟩) (FY s).length (grownCap w s.length 0 el)):=J;rw[a]at J;exact J
def AGA{k:IntKind}:∀{xs:List Int} {news:List Value},RowsOK w I (.int k) xs news->news.length=xs.length->news=xs.map (Value.int k):=by
 intro xs news h b;apply BR;intro i;by_cases hi:i<xs.length
 .have:=(h i xs[i] (A1 hi)).1;have e:i*(Ty.int k).sz=i:=by simp[Ty.sz]
  rw[e]at this;have a:=congrArg (·[0]?) this;grind
 grind
theorem AGB(l:List Int):∀(r:ByteArray),l.foldl (λr n=>r.push (UInt8.ofNat n.toNat)) r=⟨r.data++(IR l).toArray⟩:=by induction l<;>simp_all[IR,List.foldl_cons,ByteArray.push]
theorem AGC(C:Lay P .str id)(x:Lay P (.slice (.int .u8)) src){xs:List Int}{s:DL}(L:VRel w I (.slice (.int .u8)) xs v)(p:cat? [] (IR xs)=some s):
 ∃z,(convert src id v).run P w=.ok z w/\SR P w G (.val .str s) z:=by
 obtain⟨el,D,d,_⟩:=x.slice;unfold cat? at p;cases B:decide ((([]:DL).length+(IR xs).length)<=281474976710656)with
 |false=>grind
 |true=>
  rw[B]at p;have p:IR xs=s:=A2 p;subst p;have l:=AB B;have⟨a,cap,b,h,m,h1,E,N,H⟩:=A2D L;have h:v=.slice a (List.length (α:=Int) xs) cap:=h;have h1:b.length=List.length (α:=Int) xs*1:=h1;subst h;have y:b=xs.map (Value.int .u8):=AGA E (by rw[h1,CS]);cases a with
  |none=>have M:xs=[]:=m rfl;subst M;refine⟨.string .empty,?_,SR.mk_str (s:=[]) oh⟩;rw[run_convert_bytes_string w src id el _ _ _ D d.int C.str];rfl
  |some ad=>
   have J:=H ad rfl;refine⟨_,?_,SR.mk_str (s:=IR xs) (by simpa using l)⟩;rw[run_convert_bytes_string w src id el _ _ _ D d.int C.str,run_bytesToString w ad xs.length cap xs ?_,AGB]
   .simp
   .have:(loadCells ad b.length).run P w=.ok b.toArray w:=run_loadCells_list w ad b λj u K=>by
     have A:=(J j u K).1;have e:ad.add j=⟨ad.block,ad.off+j,none⟩:=by cases ad;cases A;exact MC
     grind
    grind
end
open Go.MapKept
section
variable{P:Program}{fr:Fr}{free free':Nat->Prop}{self:Nat}{σ σ':SSo}{w w':World}{G G':Gh}{I:Im}
theorem AGD(a b:DL):((⟨a.toArray⟩:ByteArray)==⟨b.toArray⟩)=DQ a b:=by rw[Bool.eq_iff_iff,bytes_beq];simp[DQ]
structure KeyAt(P:Program)(w:World)(I:Im)(t:Ty)(eq:t.T->t.T->Bool)(d:TypeDesc):Prop where
 key:∀x v,VRel w I t x v->IsKey d v
 same:∀x v y u,VRel w I t x v->VRel w I t y u->Instr.sameNow d v u=some (eq x y)/\(eq x y=true->Instr.sameBits 10000 u v=true/\u=v)/\(eq x y=false->u≠v)
def AGE(x y:Bool):Instr.sameNow .bool (.bool x) (.bool y)=some (I6 x y)/\(I6 x y=true->Instr.sameBits 10000 (.bool y) (.bool x)=true/\Value.bool y=.bool x)/\(I6 x y=false->Value.bool y≠.bool x):=by refine⟨rfl,λh=>?_,λh e=>by grind[I6]⟩;grind[I6,Instr.sameBits]
def AGF(k:IntKind)(x y:Int):Instr.sameNow (.int k) (.int k x) (.int k y)=some (DP x y)/\(DP x y=true->Instr.sameBits 10000 (.int k y) (.int k x)=true/\Value.int k y=.int k x)/\(DP x y=false->Value.int k y≠.int k x):=by grind[Instr.sameNow,DP,Instr.sameBits]
def AGG(x y:DL):Instr.sameNow .string (.string ⟨x.toArray⟩) (.string ⟨y.toArray⟩)=some (DQ x y)/\(DQ x y=true->Instr.sameBits 10000 (.string ⟨y.toArray⟩) (.string ⟨x.toArray⟩)=true/\Value.string ⟨y.toArray⟩=.string ⟨x.toArray⟩)/\(DQ x y=false->Value.string ⟨y.toArray⟩≠.string ⟨x.toArray⟩):=by
 refine ⟨by simp only [Instr.sameNow]; rw [AGD],λh=>?_,λh e=>by simp_all[Value.string.inj,congrArg,ByteArray.data,DQ]⟩
 have:x=y:=by simpa[DQ]using h
 subst this;exact⟨by simp only[Instr.sameBits];rw[bytes_beq],rfl⟩
theorem key_ok(e:Lay P t id){eq:t.T->t.T->Bool}(h:NM t=some eq):∃d,P.underlying id=some d/\KeyAt P w I t eq d:=by
 cases t<;>simp only[NM]at h<;>first|(cases h;done)|skip
 .have h:=A2 h;subst h;refine⟨_,e.bool,⟨λx v a=>?_,λx v y u a b=>?_⟩⟩
  .rw[SR.bool (P:=P) (G:=⟨I,λ_ _=>none,λ_=>none,λ_=>none⟩) a];trivial
  .rw[SR.bool (P:=P) (G:=⟨I,λ_ _=>none,λ_=>none,λ_=>none⟩) a,SR.bool (P:=P) (G:=⟨I,λ_ _=>none,λ_=>none,λ_=>none⟩) b];exact AGE x y
 .rename_i k;have h:=A2 h;subst h;refine⟨_,e.int,⟨λx v a=>?_,λx v y u a b=>?_⟩⟩
  .rw[(SR.int (P:=P) (G:=⟨I,λ_ _=>none,λ_=>none,λ_=>none⟩) a).1];rfl
  .rw[(SR.int (P:=P) (G:=⟨I,λ_ _=>none,λ_=>none,λ_=>none⟩) a).1,(SR.int (P:=P) (G:=⟨I,λ_ _=>none,λ_=>none,λ_=>none⟩) b).1];exact AGF k x y
 .have h:=A2 h;subst h;refine⟨_,e.str,⟨λx v a=>?_,λx v y u a b=>?_⟩⟩
  .rw[(SR.str (P:=P) (G:=⟨I,λ_ _=>none,λ_=>none,λ_=>none⟩) a).1];trivial
  .rw[(SR.str (P:=P) (G:=⟨I,λ_ _=>none,λ_=>none,λ_=>none⟩) a).1,(SR.str (P:=P) (G:=⟨I,λ_ _=>none,λ_=>none,λ_=>none⟩) b).1];exact AGG x y
def EntsOK(w:World)(I:Im)(k v:Ty)(es:List (k.T×v.T))(ents:List MapEntry):Prop:=
 ents.length=es.length/\∀(i:Nat) (x:k.T×v.T) (e:MapEntry),es[i]?=some x->ents[i]?=some e->VRel w I k x.1 e.key/\VRel w I v x.2 e.val
def AGH{v:Ty}{eq:k.T->k.T->Bool}{d:TypeDesc}(hk:KeyAt P w I k eq d){x:k.T}(p:VRel w I k x vx):∀(b:List (k.T×v.T)) (a:List MapEntry) (i:Nat),EntsOK w I k v b a->
 (Instr.findNow d vx a i=some none/\DW eq x b=none/\(∀z,EB eq x z b=b++[(x,z)])/\∀e∈a,e.key≠vx)\/
 (∃j e y,Instr.findNow d vx a i=some (some (i+j,e.val))/\a[j]?=some e/\DW eq x b=some y/\VRel w I v y e.val/\Instr.sameBits 10000 e.key vx=true/\j<b.length/\(∀z,EB eq x z b=b.set j (x,z))/\e.key=vx):=by
 intro b;induction b with
 |nil=>intro a i h;have:a=[]:=AF h.1;subst this;exact .inl ⟨rfl,rfl,λz=>rfl,λ_ h=>oq⟩
 |cons q b A=>
  intro a i h;cases a with
  |nil=>cases h.1
  |cons e a=>
   have⟨h1,m⟩:=h.2 0 q e rfl rfl;have⟨s1,s,B⟩:=hk.same _ _ _ _ p h1;cases l:eq x q.1 with
   |true=>rw[l]at s1;refine .inr ⟨0,e,q.2,by simp[Instr.findNow,s1],rfl,by simp[DW,l],m,(s l).1,oh,λz=>by simp[EB,l],(s l).2⟩
   |false=>
    rw[l]at s1;rcases A a (i+1) ⟨by simpa using h.1,λj y e h1 m=>h.2 (j+1) y e oz (by simpa using m)⟩with⟨a1,a2,a3,a8⟩|⟨j,e',y,a1,a2,a3,a4,a5,a6,a7,a8⟩
    .simp_all[Instr.findNow,DW,EB,A_]
    .exact .inr ⟨j+1,e',y,by grind[Instr.findNow],by simpa using a2,by simp[DW,l,a3],a4,a5,ot,λz=>by simp[EB,l,a7],a8⟩
structure KeyRun(P:Program)(w:World)(I:Im)(t:Ty)(eq:t.T->t.T->Bool)(ka:TypeId):Prop where
 check:∀x v,VRel w I t x v->∀e,(Instr.checkKey e 10000 ka v).run P w=.ok () w
 find:∀{v:Ty} {x:t.T} {vx:Value},VRel w I t x vx->∀(es:List (t.T×v.T)) (ents:List MapEntry),EntsOK w I t v es ents->
  ((Instr.findKey ka vx ents).run P w=.ok none w/\DW eq x es=none/\(∀z,EB eq x z es=es++[(x,z)])/\∀e∈ents,e.key≠vx)\/
  (∃j e y,(Instr.findKey ka vx ents).run P w=.ok (some (j,e.val)) w/\ents[j]?=some e/\DW eq x es=some y/\VRel w I v y e.val/\Instr.sameBits 10000 e.key vx=true/\j<es.length/\(∀z,EB eq x z es=es.set j (x,z))/\e.key=vx)
def tI{m:Nat}(G:Lay P t m){eq:t.T->t.T->Bool}(h:NM t=some eq):KeyRun P w I t eq m:=by
 have⟨d,D,hk⟩:=key_ok (P:=P) (w:=w) (I:=I) G h;refine⟨λx v H e=>run_checkKey D (hk.key _ _ H) e 9999,λ{v x vx} J C a E=>?_⟩;rcases AGH (P:=P) hk J C a 0 E with⟨p,b,l⟩|⟨j,e,y,p,b,l,s,z,A,B⟩
 .grind[run_findKey]
 .refine .inr ⟨j,e,y,?_,b,l,s,z,A,B⟩;simp_all[run_findKey,BO]
def A2J(x y:Bool):I6 x y=true<->x=y:=CI
def A2K(x y:Int):DP x y=true<->x=y:=CI
def A2L(x y:DL):DQ x y=true<->x=y:=CI
theorem AGI(x:Bool)(n:Nat):Instr.sameBits n (.bool x) (.bool x)=true:=by simp[Instr.sameBits]
theorem AGJ(k:IntKind)(x:Int)(n:Nat):Instr.sameBits n (.int k x) (.int k x)=true:=by simp[Instr.sameBits]
theorem AGK(x:ByteArray)(n:Nat):Instr.sameBits n (.string x) (.string x)=true:=by simp only[Instr.sameBits];rw[bytes_beq]
def A2M{a b:Ty}{eq:a.T×b.T->a.T×b.T->Bool}(h:LI (.prod a b)=some eq):∃f g,LI a=some f/\LI b=some g/\eq=λx y=>f x.1 y.1&&g x.2 y.2:=by
 have h:(match LI a,LI b with
  |some f,some g=>some (λ(x y:a.T×b.T)=>f x.1 y.1&&g x.2 y.2)
  |_,_=>none)=some eq:=h
 grind
def eW:∀{t:Ty} {eq:t.T->t.T->Bool},LI t=some eq->∀x y,Ty.beq t x y=some (eq x y)/\(eq x y=true<->x=y):=by
 intro t;induction t with
 |bool=>intro eq h x y;cases h;exact⟨rfl,A2J x y⟩
 |int k=>intro eq h x y;cases h;exact⟨rfl,A2K x y⟩
 |str=>intro eq h x y;cases h;exact⟨rfl,A2L x y⟩
 |agg p w=>assumption
 |prod a b d e=>intro eq h x y;obtain⟨f,g,j,l,rfl⟩:=A2M h;have⟨p1,m⟩:=d j x.1 y.1;have⟨z,s⟩:=e l x.2 y.2;refine⟨by grind[Ty.beq],?_⟩;rw[A5,m,s];grind[Prod.ext]
 |_=>intro eq h;cases h
def AGL:∀{t:Ty} {eq:t.T->t.T->Bool},LI t=some eq->∀{x:t.T} {cs ds:List Value},Rel w I t x cs->Rel w I t x ds->cs=ds/\∀v∈cs,∀n,Instr.sameBits n v v=true:=by
 intro t;induction t with
 |bool=>
  intro eq _ x cs ds h k;have h:cs=[.bool x]:=h;have k:ds=[.bool x]:=k;subst h k;exact ⟨rfl,λv d n=>by grind[List.mem_singleton,AGI]⟩
 |int e=>
  intro eq _ x cs ds h k;have h:cs=[.int e x]:=h.1;have k:ds=[.int e x]:=k.1;subst h k;exact ⟨rfl,λv d n=>by grind[List.mem_singleton,AGJ]⟩
 |str=>
  intro eq _ x cs ds h k;have h:=h.1;have k:=k.1;subst h k;exact ⟨rfl,λv d n=>by grind[List.mem_singleton,AGK]⟩
 |agg p D=>assumption
 |prod a b l m=>intro eq h x cs ds h1 j;obtain⟨f,g,B,C,rfl⟩:=A2M h;obtain⟨s,y,rfl,p1,E⟩:=h1;obtain⟨z,A,rfl,G,H⟩:=j;grind
 |_=>intro eq h;cases h
def AGM{l:List Value}(h:∀v∈l,Instr.sameBits n v v=true):((l.zip l).all λ(x,y)=>Instr.sameBits n x y)=true:=by grind[List.all_eq_true,List.getElem?_of_mem,List.getElem?_zip_eq_some,Option.some.inj,List.mem_of_getElem?]
theorem AGN{p:Ty}{m:Nat}(Y:Lay P (.agg p) m){eq:p.T->p.T->Bool}(h:LI p=some eq)(hk:NT P (.agg p) m=true):KeyRun P w I (.agg p) eq m:=by
 simp only[NT,A5,BE,BY]at hk;obtain⟨fs,J,_⟩:=Y.agg;have Q:∀{x y:p.T} {v u:Value},VRel w I (.agg p) x v->VRel w I (.agg p) y u->(Op.equal m v u).run P w=.ok (eq x y) w:=λ{x y v u} H J=>(A22 (t:=.agg p)).1 m 10000 x y v u (eq x y) Y hk.1 H J ((eW h x y).1) hk.2.2
 have G:∀{x:p.T} {v u:Value},VRel w I (.agg p) x v->VRel w I (.agg p) x u->Instr.sameBits 10000 u v=true/\u=v:=by intro x v u H J;obtain⟨c,h1,L⟩:=H;obtain⟨d,h3,h4⟩:=J;have e1:v=.agg c.toArray:=h1;have e2:u=.agg d.toArray:=h3;subst e1 e2;obtain⟨e,hb⟩:=AGL h (show Rel w I p x c from L) (show Rel w I p x d from h4);subst e;have M:=AGM (n:=9999) λv H=>hb v H 9999;refine⟨?_,rfl⟩;simp only[Instr.sameBits,beq_self_eq_true,BK];exact M
 have R:∀{v:Value} (e:MapEntry) (l:List MapEntry) (i:Nat),Instr.findNow (.struct fs) v (e::l) i=none:=by intro v e l i;simp[Instr.findNow,Instr.sameNow]
 have N:∀{v:Ty} {x:p.T} {vx:Value},VRel w I (.agg p) x vx->∀(b:List (p.T×v.T)) (a:List MapEntry) (i:Nat),EntsOK w I (.agg p) v b a->
  ((Instr.findAsking m vx a i).run P w=.ok none w/\DW eq x b=none/\(∀z,EB eq x z b=b++[(x,z)])/\∀e∈a,e.key≠vx)\/
  (∃j e y,(Instr.findAsking m vx a i).run P w=.ok (some (i+j,e.val)) w/\a[j]?=some e/\DW eq x b=some y/\VRel w I v y e.val/\Instr.sameBits 10000 e.key vx=true/\j<b.length/\(∀z,EB eq x z b=b.set j (x,z))/\e.key=vx):=by
  intro v x vx K b;induction b with
  |nil=>intro a i s;have:a=[]:=AF s.1;subst this;exact .inl ⟨rfl,rfl,λz=>rfl,λ_ h=>oq⟩
  |cons q b ih=>
   intro a i s;cases a with
   |nil=>cases s.1
   |cons e a=>
    obtain⟨h1,L⟩:=s.2 0 q e rfl rfl;have s1:=Q K h1;cases A:eq x q.1 with
    |true=>rw[A]at s1;have Z:=(eW h x q.1).2.1 A;obtain⟨t1,t2⟩:=G K (by rw[Z];exact h1);refine .inr ⟨0,e,q.2,by simp[Instr.findAsking,s1],rfl,by simp[DW,A],L,t1,oh,λz=>by simp[EB,A],t2⟩
    |false=>
     rw[A]at s1;rcases ih a (i+1) ⟨Nat.succ.inj s.1,λj y e h1 L=>s.2 (j+1) y e h1 L⟩with⟨B,D,E,a8⟩|⟨j,T,y,B,D,E,U,V,a6,W,a8⟩
     .refine .inl ⟨by simp[Instr.findAsking,s1,B],by simp[DW,A,D],λz=>by simp[EB,A,E],λT O=>?_⟩;rcases A_.1 O with rfl|O
      .intro X;rw[X]at s1;have:=(Q K K).symm.trans s1;rw[(eW h x x).2.2 rfl]at this;cases this
      grind
     .refine .inr ⟨j+1,T,y,?_,by simpa using D,by simp[DW,A,E],U,V,ot,λz=>by simp[EB,A,W],a8⟩;rw[show i+(j+1)=i+1+j by omega];simp[Instr.findAsking,s1,B]
 refine⟨λx v H e=>(AFa (t:=.agg p)).1 m 10000 e x v Y hk.1 H hk.2.2,λ{v x vx} K b a s=>?_⟩;cases a with
 |nil=>have:b=[]:=AF s.1.symm;subst this;exact .inl ⟨by simp[Instr.findKey,run_underlying J,Instr.findNow],rfl,λz=>rfl,λ_ h=>oq⟩
 |cons e a=>
  have C:(Instr.findKey m vx (e::a)).run P w=(Instr.findAsking m vx (e::a)).run P w:=by simp only[Instr.findKey,Sem.run_bind,run_underlying J,Result.andThen_ok,R]
  rcases N K b (e::a) 0 s with⟨B,D,E⟩|⟨j,T,y,B,D,E,U,V,a6,W⟩
  .exact .inl ⟨C.trans B,D,E⟩
  .rw[BO]at B;exact .inr ⟨j,T,y,C.trans B,D,E,U,V,a6,W⟩
def A2N{b:Nat}(a:Lay P t b){eq:t.T->t.T->Bool}(h:dK ke t=some eq)(hk:ke=true->NT P t b=true):KeyRun P w I t eq b:=by
 cases t with
 |agg p=>
  cases ke with
  |false=>cases h
  |true=>exact AGN a (show LI p=some eq from h) (hk rfl)
 |bool=>exact tI a (show NM .bool=some eq from h)
 |int k=>exact tI a (show NM (.int k)=some eq from h)
 |str=>exact tI a (show NM .str=some eq from h)
 |_=>cases h
def A2O{eq:α->α->Bool}(a:∀x y,eq x y=true<->x=y):∀{l:List (α×β)},(l.map (·.1)).Nodup->∀{x y},DW eq x l=some y<->(x,y)∈l:=by
 intro l;induction l with
 |nil=>grind[DW]
 |cons q l b=>intro h x y;have⟨d,e⟩:=AV.1 h;simp only[DW];grind
def PE.nodup{p e:List (α×β)}(h:PE p e):(p.map (·.1)).Nodup:=((h.1.map (·.1)).nodup_iff).2 h.2
def PE.find{eq:α->α->Bool}(a:∀x y,eq x y=true<->x=y){p e:List (α×β)}(h:PE p e)(x:α):DW eq x p=DW eq x e:=by apply Option.ext;intro y;rw[A2O a h.nodup,A2O a h.2,h.1.mem_iff]
def A2P{eq:α->α->Bool}(e:∀x y,eq x y=true<->x=y){x:α}{z:β}:∀{l:List (α×β)},(l.map (·.1)).Nodup->
 ((EB eq x z l).map (·.1)).Nodup/\∀q,q∈EB eq x z l<->q=(x,z)\/q∈l/\q.1≠x:=by
 intro l;induction l with
 |nil=>grind[EB]
 |cons a l b=>intro h;have⟨m,d⟩:=AV.1 h;have⟨i1,j⟩:=b d;simp only[EB];grind
def A2Q{l:List (α×β)}(h:(l.map (·.1)).Nodup):l.Nodup:=by induction l<;>grind
def AGO:∀{l r:List α},l.Nodup->r.Nodup->(∀x,x∈l<->x∈r)->l.Perm r:=by
 intro l;induction l with
 |nil=>intro r _ _ h;cases r with
  |nil=>exact .refl _
  |cons a r=>exact absurd ((h a).2 AE) List.not_mem_nil
 |cons a l p=>intro r h1 j h;have⟨z,A⟩:=AV.1 h1;obtain⟨s,t,rfl⟩:=List.append_of_mem ((h a).1 AE);have b:(s++a::t).Perm (a::(s++t)):=List.perm_middle;have m:=(b.nodup_iff).1 j;have⟨w,y⟩:=AV.1 m;refine((p A y λx=>?_).cons a).trans b.symm;have d:=(h x).trans (b.mem_iff);rw[A_,A_]at d;refine⟨λk=>(d.1 (.inr k)).resolve_left λe=>z (e▸k),λk=>(d.2 (.inr k)).resolve_left λe=>w (e▸k)⟩
def PE.put{eq:α->α->Bool}(a:∀x y,eq x y=true<->x=y){p e:List (α×β)}(h:PE p e)(x:α)(z:β):PE (EB eq x z p) (EB eq x z e):=by have⟨d,j⟩:=A2P a (x:=x) (z:=z) h.nodup;have⟨b,l⟩:=A2P a (x:=x) (z:=z) h.2;exact⟨AGO (A2Q d) (A2Q b) λq=>by rw[j,l,h.1.mem_iff],b⟩
def A2R{eq:t.T->t.T->Bool}(h:dK ke t=some eq):∀x y,eq x y=true<->x=y:=by
 cases t with
 |agg p=>
  cases ke with
  |false=>cases h
  |true=>exact λx y=>(eW (show LI p=some eq from h) x y).2
 |bool=>cases h;exact A2J
 |int k=>cases h;exact A2K
 |str=>cases h;exact A2L
 |_=>cases h
theorem tJ{v:Ty}(Y:Lay P (.map k v) id)(L:ke=true->∀x y,P.underlying id=some (.map x y)->NT P k x=true){ok:Bool}{p R:List (k.T×v.T)}{u:Upd}{d:Array MapEntry}
 (I:Y9 ke k v ok s R=some r)(V:Gives r u)(hs:SR P w G s vk)(hp:PE p R)(X:EntsOK w G.im k v p d.toList)
 (Z:(vm=.map none/\d= #[])\/∃b l,vm=.map (some b)/\w.heap[b]?=some (.map d l)):
 u.wr=[]/\∃z,(Instr.lookup id vm vk ok).run P w=.ok z w/\SR P w G u.sv z:=by
 obtain⟨ka,va,B,M,N⟩:=Y.map;unfold Y9 at I;split at I
 .rename_i eq x D hx;cases I;rw[<-hp.find (A2R D)]at V;rw[V.v_inv];have E:VRel w G.im k x vk:=KK hx hs;have m:=A2N (P:=P) (w:=w) (I:=G.im) M D (λh=>L h _ _ B);have C:=m.check _ _ E d.isEmpty;have⟨zv,hz,H⟩:=AFq (P:=P) (w:=w) (G:=G) N
  have A:∀a:Option (Nat×Value),(Instr.findKey ka vk d.toList).run P w=.ok a w->
   (Instr.lookup id vm vk ok).run P w=.ok (match a with|some p=>if ok then .tuple #[p.2,.bool true]else p.2|none=>if ok then .tuple #[zv,.bool false]else zv) w:=by
   intro a T;rcases Z with⟨rfl,rfl⟩|⟨b,l,rfl,U⟩
   .cases a<;>simp_all[Instr.lookup,run_underlying]
   .cases a with
    |none=>simp[Instr.lookup,run_underlying B,MapKept.run_getObj_map U,C,T,hz]
    |some p=>simp[Instr.lookup,run_underlying B,MapKept.run_getObj_map U,C,T]
  refine⟨rfl,?_⟩;rcases m.find E p d.toList X with⟨J,O,_⟩|⟨j,e,y,J,O,W,Q,_⟩
  .have K:=A _ J;rw[K,O];cases ok with
   |true=>refine⟨_,rfl,_,rfl,_,rfl,_,_,rfl,H,_,_,rfl,?_,rfl⟩;exact⟨_,rfl,rfl⟩
   |false=>exact⟨_,rfl,H⟩
  .have K:=A _ J;rw[K,W];cases ok with
   |true=>refine⟨_,rfl,_,rfl,_,rfl,_,_,rfl,Q,_,_,rfl,?_,rfl⟩;exact⟨_,rfl,rfl⟩
   |false=>exact⟨_,rfl,Q⟩
 .cases I
def AGP{v:Ty}{m:List (k.T×v.T)}(h:VRel w I (.map k v) m cv):
 ∃(a:Array MapEntry) (p:List (k.T×v.T)),PE p m/\EntsOK w I k v p a.toList/\((cv=.map none/\a= #[])\/∃b d,cv=.map (some b)/\w.heap[b]?=some (.map a d)):=by
 obtain⟨c,B,p,s,r,rfl,j,A⟩:=h;have l:cv=.map r:=by have:[Value.map r]=[cv]:=B;exact(AC.1 this).symm
 subst l;cases r with
 |none=>have:p=[]:=j rfl;subst this;exact⟨#[],[],s,⟨rfl,λi x e h=>by simp at h⟩,.inl ⟨rfl,rfl⟩⟩
 |some b=>have⟨_,a,d,h1,y,z⟩:=A b rfl;exact⟨a,p,s,⟨by simpa using y.1,λi x e C D=>z i x e C oc⟩,.inr ⟨b,d,rfl,h1⟩⟩
theorem MgOK.ents{j:List (k.T×List t.T)}{tk:Option k.T}(h:MgOK fr w I id k t j tk us cv):
 ∃b a d,cv=.map (some b)/\w.heap[b]?=some (.map a d)/\EntsOK w I k (.slice t) j a.toList/\(j.map (·.1)).Nodup:=by
 obtain⟨b,a,d,rfl,h1,p,B,s,_,y,_⟩:=h;refine⟨b,a,d,rfl,h1,⟨(BG (xs:=a)).trans p.1,λi x e m C=>?_⟩,y⟩;have z:i<j.length:=(A3.1 m).1;have⟨k1,A⟩:=s i x e _ m oc (A1 oa);refine⟨k1,?_⟩;rcases A with⟨_,_,l⟩|⟨l,_⟩
 .exact l
 .exact⟨_,rfl,VE l⟩
theorem AGQ(M:Lay P t id)(B:ke=true->∀k v,t=.map k v->∀x y,P.underlying id=some (.map x y)->NT P k x=true)(Z:∀k o,σ k=some o->ObjOK P fr w G k o){ok:Bool}{m:SV}{u:Upd}
 (a:dO σ ke t ok m s=some r)(Q:Gives r u)(N:SR P w G m vm)(O:SR P w G s vk):
 u.wr=[]/\∃z,(Instr.lookup id vm vk ok).run P w=.ok z w/\SR P w G u.sv z:=by
 unfold dO at a;split at a
 .rename_i k v;split at a
  .rename_i q Y;split at a
   .rename_i h2 K;have⟨A,p,e0,D,E⟩:=AGP (VRel.cast K N);exact tJ M (λh=>B h _ _ rfl) a Q O e0 D E
   .cases a
  .rename_i j g;split at a
   .rename_i R v' Y wr hk;cases l:(Nat.beq g 0&&(R.same k&&v'.same v))with
    |false=>grind
    |true=>
     rw[l]at a;simp only[A6]at a;simp only[A5]at l;have L:=A4 l.1;have D:=Ty.same_eq l.2.1;have E:=Ty.same_eq l.2.2;subst L D E;obtain⟨cv,U,p,hp,b,A,d,rfl,V,W,X,_⟩:=Z _ _ hk;obtain⟨c,J,I,H,_,T⟩:=N;have C:I=vm:=by have:[vm]=[I]:=(show c=[vm]from J).symm.trans T;exact(AC.1 this).symm
     subst C;rw[U]at H;cases H;exact tJ M (λh=>B h _ _ rfl) a Q O hp ⟨by simpa using W.1,λi x e hx he=>X i x e hx oc⟩ (.inr ⟨b,d,rfl,V⟩)
   .rename_i h3 R t' Y tk gk hk;cases l:(Nat.beq g 0&&(R.same k&&(Ty.slice t').same v))with
    |false=>grind
    |true=>
     rw[l]at a;simp only[A6]at a;simp only[A5]at l;have L:=A4 l.1;have D:=Ty.same_eq l.2.1;have E:=Ty.same_eq l.2.2;subst L D E;have⟨cv,us,U,_,V⟩:=Z _ _ hk;obtain⟨b,A,d,rfl,W,X,q5⟩:=V.ents;obtain⟨c,J,I,H,_,T⟩:=N;have C:I=vm:=by have:[vm]=[I]:=(show c=[vm]from J).symm.trans T;exact(AC.1 this).symm
     subst C;rw[U]at H;cases H;exact tJ M (λh=>B h _ _ rfl) a Q O ⟨.refl _,q5⟩ X (.inr ⟨b,d,rfl,W⟩)
   .cases a
  .cases a
 .cases a
end
section
variable{P:Program}{fr:Fr}{free free':Nat->Prop}{self:Nat}{σ σ':SSo}{w w':World}{G G':Gh}{I:Im}
def EntsOK.set{v:Ty}{d:List (k.T×v.T)}{a:List MapEntry}(h:EntsOK w I k v d a){j:Nat}{x:k.T}{y:v.T}{e:MapEntry}(s:VRel w I k x e.key)(z:VRel w I v y e.val):
 EntsOK w I k v (d.set j (x,y)) (a.set j e):=by
 refine⟨by simpa using h.1,λi q p m l=>?_⟩;by_cases b:j=i
 .grind
 .rw[BZ b]at m l;exact h.2 i q p m l
def EntsOK.push{v:Ty}{j:List (k.T×v.T)}{a:List MapEntry}(h:EntsOK w I k v j a){x:k.T}{y:v.T}{e:MapEntry}(s:VRel w I k x e.key)(z:VRel w I v y e.val):
 EntsOK w I k v (j++[(x,y)]) (a++[e]):=by
 refine⟨by simp[h.1],λi q p m l=>?_⟩;by_cases b:i<j.length
 .rw[BJ b]at m;rw[BJ (by rw[h.1];exact b)]at l;exact h.2 i q p m l
 .have d:j.length<=i:=D1 b;rw[BC d]at m;rw[BC (by rw[h.1];exact d),h.1]at l;grind
def EntsOK.ext{v:Ty}{d:List (k.T×v.T)}{a:List MapEntry}(h:EntsOK w I k v d a)(e:Ext w I w' I'):EntsOK w' I' k v d a:=
 ⟨h.1,λi q b l j=>⟨(h.2 i q b l j).1.ext e,(h.2 i q b l j).2.ext e⟩⟩
theorem A2S(hl:Lay P t id)(h5:ke=true->∀k v,t=.map k v->∀x y,P.underlying id=some (.map x y)->NT P k x=true)(hm:MemS P fr free σ w G)(O:∀k o,σ' k=some o->σ k=some o){m sx:SV}{u:Upd}
 (C:dQ σ' ke t m s sx=some r)(hu:Gives r u)(x0:SR P w G m vm)(hs:SR P w G s vk)(x2:SR P w G sx vx):
 ∃w',(Instr.mapUpdate id vm vk vx).run P w=.ok () w'/\Res P fr free self σ w G u undef w':=by
 have ho:∀k o,σ' k=some o->ObjOK P fr w G k o:=λk o h=>hm.objs k o (O k o h);unfold dQ at C;split at C
 .rename_i k v;split at C
  .rename_i j g;split at C
   .rename_i Z T es hk;cases Q:(Nat.beq g 0&&(Z.same k&&T.same v))with
    |false=>rw[Q]at C;cases C
    |true=>
     rw[Q]at C;simp only[A6]at C;simp only[A5]at Q;have hg:=A4 Q.1;have e1:=Ty.same_eq Q.2.1;have e2:=Ty.same_eq Q.2.2;subst hg e1 e2;split at C
     .rename_i eq a b X ha h4;cases C;rw[hu.pure_inv];obtain⟨ka,va,N,h6,x5⟩:=hl.map;obtain⟨cv,q1,p,hp,bl,z,A,rfl,R,q3,q4,q5,q6,q7⟩:=ho _ _ hk;have h9:=hp.put (A2R X) a b;obtain⟨c,hc,v2,k3,_,k5⟩:=x0;have x3:v2=vm:=by have:[vm]=[v2]:=(show c=[vm]from hc).symm.trans k5;exact(AC.1 this).symm
      subst x3;rw[q1]at k3;cases k3;have D:VRel w G.im Z a vk:=KK ha hs;have J:VRel w G.im T b vx:=K0 ho h4 x2;have H:=A2N (P:=P) (w:=w) (I:=G.im) h6 X (λh=>h5 h _ _ rfl _ _ N);have W:=H.check _ _ D false;have B:EntsOK w G.im Z T p z.toList:=⟨by simpa using q3.1,λi x e hx he=>q4 i x e hx (by rw[<-B4];exact he)⟩;have Y:=λo'=>heap_set (o':=o') R;have x4:VRel w G.im T b vx:=J
      have U:∀(l:Array MapEntry) (d:Nat),EntsOK w G.im Z T (EB eq a b p) l.toList->Stamped l d->
       Res P fr free self σ w G ⟨.undef,[(j,some (.mp Z T (EB eq a b es) true))]⟩ undef {w with heap:=w.heap.setIfInBounds bl (.map l d)}:=by
       intro l d he x1;have⟨s1,s2⟩:=Y (.map l d);have L:GLe w G {w with heap:=w.heap.setIfInBounds bl (.map l d)} G:=GLe.of_heap (b:=bl) (λb' M=>s2 b' M) q6 (q5.1 rfl);refine⟨G,L,hm.change (b:=bl) L ?_ (λb' _ M=>s2 b' M) oh (by simpa using NU R) q7 (λ_ _ h=>.inl h) (λ_ h=>.inl h) rfl rfl rfl ?_ ?_,⟨_,rfl,trivial⟩⟩
       .intro i o hi h8 h3;exact hi (hm.sep i j o _ bl h8 (O _ _ hk) h3 (by simp[Bk,q1]))
       .intro o h7;cases h7;have hx:=he.ext L.ext;exact⟨⟨_,q1,_,h9,bl,l,d,rfl,s1,⟨by simpa using he.1,x1⟩,λi x e h1 h2=>hx.2 i x e h1 (by rw[B4];exact h2),q5,q6,q7⟩,by intro b' V;simp[Bk,q1]at V;exact .inl V.symm⟩
       .intro i hi;have E:=hm.fresh i hi.1;refine⟨λe=>?_,hi.1,E.2.1,E.2.2.1,E.2.2.2⟩;subst e;rw[O _ _ hk]at E;cases E.1
      rcases H.find D p z.toList B with⟨a1,a2,a3,a8⟩|⟨i,e,y,a1,a2,a3,a4,a5,a6,a7,a8⟩
      .have E:=a1;refine⟨_,?_,U (z.push {key:=vk,val:=vx,born:=A}) (A+1) ?_ (stamped_push q3.2 a8)⟩
       .simp[Instr.mapUpdate,run_underlying N,MapKept.run_getObj_map R,W,E,run_setObj_map _ R]
       .rw[a3,Array.toList_push];exact B.push D J
      .have E:=a1;have I:z[i]?=some e:=by rw[<-B4];exact a2
       refine⟨_,?_,U (z.modify i λe=>{e with key:=vk,val:=vx}) A ?_ (stamped_modify q3.2 i _ (λ_ _=>rfl) (λe' _ h=>by rw[I]at h;cases h;exact a8.symm))⟩
       .simp[Instr.mapUpdate,run_underlying N,MapKept.run_getObj_map R,W,E,I,Instr.keyThatStays,a5,run_setObj_map _ R]
       .rw[a7];have:(z.modify i λe=>{e with key:=vk,val:=vx}).toList=z.toList.set i {e with key:=vk,val:=vx}:=by
         apply BR;intro n;rw[B4,Array.getElem?_modify];by_cases K:i=n
         .subst K;rw[if_pos rfl,I,BU (by have:=lt_of_getElem? a2;simpa using this)];rfl
         .rw[if_neg K,BZ K,B4]
        rw[this];exact B.set D J
     .cases C
   .cases C
  .cases C
 .cases C
theorem AGR{x:t.T}(h:VRel w I t x v):∀{u:Ty} {y:u.T},OK id t x u=some y->Rel w I u y [.iface id v]:=by
 intro u;induction u with
 |ialt j a r p l=>
  intro y b;simp only[OK]at b;cases e:Nat.beq id j with
  |true=>
   rw[e]at b;simp only[A6]at b;have:=A4 e;subst this;cases d:Ty.cast? t a x with
   |none=>grind
   |some z=>rw[d]at b;have b:=A2 b;subst b;have⟨c,h1,m⟩:=VRel.cast d h;exact⟨v,c,rfl,h1,m⟩
  |false=>
   rw[e]at b;simp only[A8]at b;cases d:OK id t x r with
   |none=>grind
   |some z=>rw[d]at b;have b:=A2 b;subst b;exact⟨rfl,l d⟩
 |_=>intro y b;simp[OK]at b
theorem AGS{x:t.T}:∀{u:Ty} {y:u.T},OK id t x u=some y->∀v:Value,sS (.val u y) v [v]:=by intro u y h v;cases u<;>first|exact rfl|(simp[OK]at h;done)
theorem AGT(j:Lay P t id)(B:t.isIface=false){x:t.T}{y:u.T}(h:VRel w G.im t x v)(s:OK id t x u=some y):
 ∃z,(Instr.makeInterface id v).run P w=.ok z w/\SR P w G (.val u y) z:=by
 have l:(Instr.makeInterface id v).run P w=.ok (.iface id v) w:=by
  have key:∃d,P.underlying id=some d/\∀ms,d≠.interface ms:=by
   cases t with
   |bool=>exact⟨_,j.bool,λ_ h=>oq⟩
   |int k=>exact⟨_,j.int,λ_ h=>oq⟩
   |str=>exact⟨_,j.str,λ_ h=>oq⟩
   |slice e=>obtain⟨_,h,_⟩:=j.slice;grind
   |agg p=>obtain⟨_,h,_⟩:=j.agg;grind
   |arr n e=>obtain⟨_,h,_⟩:=j.arr;grind
   |ptr e=>obtain⟨_,h,_⟩:=j.ptr;grind
   |map a b=>obtain⟨_,_,h,_⟩:=j.map;grind
   |self=>obtain⟨_,h⟩:=j.self;grind
   |opq=>exact j.opq
   |fnc a b=>exact j.fnc
   |unit=>simp[Lay,layB]at j
   |prod a b=>simp[Lay,layB]at j
   |inil=>simp[Ty.isIface]at B
   |ialt i a r=>have⟨_,d,m,C⟩:=JJ j;grind
  obtain⟨d,m,A⟩:=key;simp only[Instr.makeInterface,Sem.run_bind,run_underlying m,Result.andThen_ok];cases d<;>first|rfl|exact absurd rfl (A _)
 exact⟨_,l,_,AGS s _,AGR h s⟩
def AGU{k:IntKind}{a b:Int}(d:Array TypeId)(ty:Nat)(e:FZ k a)(j:FZ k b):
 ∃z,(Builtin.min_ d ty #[.int k a,.int k b]).run P w=.ok z w/\SR P w G (.val (.int k) (YD a b)) z:=by
 refine⟨.int k (if b<a then b else a),by rfl,?_⟩;unfold YD;by_cases h:b<a<;>simp_all[if_pos,A7,A6,SR.mk_int,if_neg,A9,A8]
def AGV{k:IntKind}{a b:Int}(d:Array TypeId)(ty:Nat)(e:FZ k a)(j:FZ k b):
 ∃z,(Builtin.max_ d ty #[.int k a,.int k b]).run P w=.ok z w/\SR P w G (.val (.int k) (YE a b)) z:=by
 refine⟨.int k (if b > a then b else a),by rfl,?_⟩;unfold YE;by_cases h:a<b<;>simp_all[gt_iff_lt,if_pos,A7,A6,SR.mk_int,if_neg,A9,A8]
theorem tK:∀{ss:List SV} {vs:List Value},ss.length=vs.length->(∀(j:Nat) (s:SV) (v:Value),ss[j]?=some s->vs[j]?=some v->SR P w G s v)->CR P w G (SV.ofList ss) vs:=by
 intro ss;induction ss with
 |nil=>intro vs a _;exact AF a.symm
 |cons s ss d=>
  intro vs a h;cases vs with
  |nil=>cases a
  |cons v vs=>exact⟨v,vs,rfl,h 0 s v rfl rfl,d (by simpa using a) (λj s v h1 b=>h (j+1) s v oz (by simpa using b))⟩
theorem A2T(j:Lay P t id)(b:∃d,P.underlying src=some d){u:Upd}(a:sH t s=some r)(l:Gives r u)(h:SR P w G s v):
 u.wr=[]/\∃z,(convert src id v).run P w=.ok z w/\SR P w G u.sv z:=by
 obtain⟨d,e⟩:=b;unfold sH at a;split at a
 .rename_i k n;split at a
  .rename_i p;cases a;rw[l.v_inv];obtain⟨rfl,_⟩:=h.int;exact⟨rfl,_,by simp[convert,run_underlying e,run_underlying j.int,Conv.intToInt],SR.mk_int (T7 _ _)⟩
  .cases a
 .rename_i x;split at a
  .cases a;rw[l.v_inv];obtain⟨rfl,m⟩:=h.str;exact⟨rfl,_,by simp[convert,run_underlying e,run_underlying j.str],SR.mk_str m⟩
  .cases a
 .cases a
def AGW(n:Int):(V5 n).length<=4:=by grind[V5,Utf8.encode]
theorem AGX(e:Lay P .str id)(a:∃d,P.underlying src=some d){k:IntKind}{n:Int}(h:SR P w G (.val (.int k) n) v):
 ∃z,(convert src id v).run P w=.ok z w/\SR P w G (.val .str (V5 n)) z:=by
 obtain⟨d,b⟩:=a;obtain⟨rfl,_⟩:=h.int;exact⟨.string ⟨(V5 n).toArray⟩,by simp[convert,run_underlying b,run_underlying e.str,Conv.intToString,V5],SR.mk_str (AM (AGW n) oi)⟩
theorem AGY{v:Ty}(T:Lay P (.map k v) id)(C:MemS P fr free σ w G)(p:free self){x:List (k.T×v.T)}{mv:Value}(D:VRel w G.im (.map k v) x mv):
 ∃z w',(Instr.range id mv).run P w=.ok z w'/\Res P fr free self σ w G ⟨.obj self 0,[(self,some (.it k v x))]⟩ z w':=by
 obtain⟨a,b,M,_,_⟩:=T.map;obtain⟨m,rfl⟩:∃m,mv=.map m:=by obtain⟨c,I,_,_,E,rfl,_⟩:=D;have H:[Value.map E]=[mv]:=I;exact⟨E,(AC.1 H).symm⟩
 obtain⟨it,A,J⟩:∃it,(Instr.range id (.map m)).run P w=.ok (.pointer (some ⟨w.heap.size,0,none⟩)) (w.alloc it)/\ItAt w G.im k v x it:=by
  cases m with
  |none=>exact⟨_,run_range_nilMap w id a b M,none,D,.inl ⟨rfl,rfl⟩⟩
  |some B=>have L:=D;obtain⟨c,I,_,_,E,rfl,_,s⟩:=L;have H:[Value.map E]=[Value.map (some B)]:=I;have N:=AC.1 H;cases N;have⟨_,l,d,h1,_⟩:=s B rfl;exact⟨_,run_range_map w id a b B l d M h1,some B,D,.inr ⟨B,l,d,rfl,rfl,h1⟩⟩
 let G':Gh:=G.addVal self 0 (.pointer (some ⟨w.heap.size,0,none⟩))
 have e:G'.val self 0=some (.pointer (some ⟨w.heap.size,0,none⟩)):=by simp[G',Gh.addVal]
 have⟨O,Q⟩:=C.new (w':=w.alloc it) (G':=G') (o':=.it k v x) p rfl rfl rfl rfl (λ_ _ h=>h) (λ_ _ h=>.inl h) rfl
  (λj R=>⟨rfl,rfl,λg=>by simp [G',Gh.addVal,R]⟩) (λU K=>⟨⟨w.heap.size,it,e,U,J.ext K.ext,
   λh=>absurd (C.after.inO _ h) (AA _),λo h=>absurd (C.after.inC _ _ h) (AA _),C.owned_new⟩,by intro V y;simp[Bk,e]at y;exact y.symm⟩)
 exact⟨_,_,A,G',O,Q,_,rfl,_,e,rfl,rfl⟩
end
def ON:Value->Option Nat
 | .map r=>r
 |_=>none
def SlG(w:World)(I:Im)(el:Nat)(t:Ty)(xs:List t.T)(v:Value):Prop:=
 (v=.slice none 0 0/\xs=[])\/
 ∃b cap cs,v=.slice (some ⟨b,0,none⟩) xs.length cap/\IS xs.length cap/\RowAt w b cs el/\cs.size=cap*t.sz/\
  (∀i x,xs[i]?=some x->Rel w I t x ((cs.toList.drop (i*t.sz)).take t.sz))/\(∀o,o<xs.length*t.sz<->I.cell b o)/\¬I.obj b
theorem SlG.of{fr:Fr}{w:World}{xs:List t.T}(h:SlOK fr w I el t xs false v):SlG w I el t xs v:=
 h.imp id λ⟨b,cap,cs,h1,a,d,e,j,_,_,l,m⟩=>⟨b,cap,cs,h1,a,d,e,j,l rfl,m⟩
def SlG.own{fr:Fr}{w:World}{xs:List t.T}(h:SlG w I el t xs v)(p:∀c,HS v=.map (some c)->fr.owned c):SlOK fr w I el t xs false v:=by
 rcases h with h|⟨b,cap,cs,rfl,a,d,e,j,l,m⟩
 .exact .inl h
 .exact .inr ⟨b,cap,cs,rfl,a,d,e,j,p b rfl,λh=>(oq),λ_=>l,m⟩
theorem A2U{c:Nat}(h:ON (HS v)=some c):HS v=.map (some c):=by unfold HS at h ⊢;grind[ON]
theorem VI{c:Nat}(a:∀u∈us,∃v,u=HS v):c∈us.filterMap ON<->Value.map (some c)∈us:=by
 rw[List.mem_filterMap];constructor
 .rintro⟨u,h1,b⟩;obtain⟨v,rfl⟩:=a u h1;grind[A2U]
 .intro h;exact⟨_,h,rfl⟩
def ShC(P:Program)(w:World)(I:Im):(s:Sh)->s.T->List Value->List Nat->Prop
 | .val t,x,cs,bs=>Rel w I t x cs/\bs=[]
 | .own el t wr,xs,cs,bs=>(cs=[.slice none 0 0]/\(show List t.T from xs)=[]/\bs=[])\/
  ∃b cap cells,cs=[.slice (some ⟨b,0,none⟩) (show List t.T from xs).length cap]/\bs=[b]/\IS (show List t.T from xs).length cap/\RowAt w b cells el/\cells.size=cap*t.sz/\
   RowsOK w I t (show List t.T from xs) cells.toList/\(wr=true->∀o,¬I.cell b o)/\(wr=false->∀o,o<(show List t.T from xs).length*t.sz<->I.cell b o)/\¬I.obj b
 | .io el t,xs,cs,bs=>(cs=[.slice none 0 0]/\(show List t.T from xs)=[]/\bs=[])\/
  ∃b cap cells,cs=[.slice (some ⟨b,0,none⟩) (show List t.T from xs).length cap]/\bs=[b]/\IS (show List t.T from xs).length cap/\RowAt w b cells el/\cells.size=cap*t.sz/\
   RowsOK w I t (show List t.T from xs) cells.toList/\(true=true->∀o,¬I.cell b o)/\(true=false->∀o,o<(show List t.T from xs).length*t.sz<->I.cell b o)/\¬I.obj b
 | .omap k v,es,cs,bs=>∃p:List (k.T×v.T),PE p (show List (k.T×v.T)from es)/\∃b ents clock,cs=[.map (some b)]/\bs=[b]/\w.heap[b]?=some (.map ents clock)/\(ents.size=p.length/\Go.MapKept.Stamped ents clock)/\
  (∀(i:Nat) (x:k.T×v.T) (e:MapEntry),p[i]?=some x->ents[i]?=some e->VRel w I k x.1 e.key/\VRel w I v x.2 e.val)/\¬I.obj b/\∀o,¬I.cell b o
 | .box c,x,cs,bs=>∃b cells el bs',cs=[.pointer (some ⟨b,0,none⟩)]/\bs=b::bs'/\w.heap[b]?=some (.cells cells el (0,0))/\cells.size=c.ty.sz/\ShC P w I c x cells.toList bs'/\(∀o,¬I.cell b o)/\¬I.obj b/\(c.ty=GS->Lay P (.agg GS) el)
 | .pr a b,x,cs,bs=>∃c d bs1 bs2,cs=c++d/\bs=bs1++bs2/\ShC P w I a x.1 c bs1/\ShC P w I b x.2 d bs2
 | .hof nd d c,F,cs,bs=>bs=[]/\∃f vs,cs=[.func (.func f) #[] vs]/\HofD P (nd=true) w I d c F f vs
 | .fn f,_,cs,bs=>bs=[]/\cs=[.func (.func f) #[] #[]]
 | .nilS,_,cs,bs=>bs=[]/\cs=[.slice none 0 0]
 | .nns e,x,cs,bs=>bs=[]/\Rel w I (.slice e) x cs/\∃ad len cap,cs=[.slice (some ad) len cap]
 | .mns e,x,cs,bs=>bs=[]/\Rel w I (.slice e) ((show Option (List e.T)from x).getD []) cs/\∃ad len cap,cs=[.slice ad len cap]/\((show Option (List e.T)from x)=none->ad=none)
 | .fz t,x,cs,bs=>Rel w I t x cs/\bs=[]
 | .it _ _,_,_,_=>False
 | .dp ids t,x,cs,bs=>ids≠[]/\DV (λ_=>True) w I t ids x none cs bs
 | .any,_,_,_=>False
 | .tr _,_,_,_=>False
 | .bld el _,xs,cs,bs=>∃b cells el' p q bs',cs=[.pointer (some ⟨b,0,none⟩)]/\bs=b::bs'/\w.heap[b]?=some (.cells cells el' (0,0))/\Lay P (.agg GS) el'/\cells.toList=[p,q]/\
  (p=.pointer none\/p=.pointer (some ⟨b,0,none⟩))/\(∀o,¬I.cell b o)/\¬I.obj b/\
  ((q=.slice none 0 0/\(show List Int from xs)=[]/\bs'=[]) \/
  ∃g cap gcells,q=.slice (some ⟨g,0,none⟩) (show List Int from xs).length cap/\bs'=[g]/\IS (show List Int from xs).length cap/\RowAt w g gcells el/\gcells.size=cap*(Ty.int .u8).sz/\
   RowsOK w I (.int .u8) (show List Int from xs) gcells.toList/\(∀o,¬I.cell g o)/\¬I.obj g)
 | .og id k t,es,cs,bs=>∃b ents clock,∃us:List Value,cs=[.map (some b)]/\bs=b::us.filterMap ON/\w.heap[b]?=some (.map ents clock)/\(ents.size=(show List (k.T×List t.T)from es).length/\Go.MapKept.Stamped ents clock)/\us.length=(show List (k.T×List t.T)from es).length/\
  (∀(i:Nat) (x:k.T×List t.T) (e:MapEntry) (u:Value),(show List (k.T×List t.T)from es)[i]?=some x->ents[i]?=some e->us[i]?=some u->VRel w I k x.1 e.key/\SlG w I id t x.2 e.val/\u=HS e.val)/\
  ((show List (k.T×List t.T)from es).map (·.1)).Nodup/\¬I.obj b/\∀o,¬I.cell b o
def ShV(P:Program)(w:World)(I:Im):(s:Sh)->s.T->Value->List Nat->Prop
 | .val t,x,v,bs=>VRel w I t x v/\bs=[]
 | .own el t wr,x,v,bs=>ShC P w I (.own el t wr) x [v] bs
 | .io el t,x,v,bs=>ShC P w I (.io el t) x [v] bs
 | .omap a b,x,v,bs=>ShC P w I (.omap a b) x [v] bs
 | .og id a b,x,v,bs=>ShC P w I (.og id a b) x [v] bs
 | .box c,x,v,bs=>ShC P w I (.box c) x [v] bs
 | .pr _ _,_,_,_=>False
 | .hof nd d c,x,v,bs=>ShC P w I (.hof nd d c) x [v] bs
 | .fn f,x,v,bs=>ShC P w I (.fn f) x [v] bs
 | .nilS,x,v,bs=>ShC P w I .nilS x [v] bs
 | .nns e,x,v,bs=>ShC P w I (.nns e) x [v] bs
 | .mns e,x,v,bs=>ShC P w I (.mns e) x [v] bs
 | .dp ids t,x,v,bs=>ShC P w I (.dp ids t) x [v] bs
 | .fz t,x,v,bs=>VRel w I t x v/\bs=[]
 | .it a b,es,v,bs=>∃r o,v=.pointer (some ⟨r,0,none⟩)/\bs=[r]/\w.heap[r]?=some o/\ItAt w I a b (show List (a.T×b.T)from es) o/\¬I.obj r/\∀j,¬I.cell r j
 | .any,_,_,bs=>bs=[]
 | .bld el c,x,v,bs=>ShC P w I (.bld el c) x [v] bs
 | .tr s,x,v,bs=>dB s=true/\∃cs,v=.agg cs.toArray/\(∀y∈cs,y.oneCell'=true)/\ShC P w I s x cs bs
def ShL(P:Program)(w:World)(I:Im):(l:List Sh)->TupR l->List Value->List Nat->Prop
 |[],_,vs,bs=>vs=[]/\bs=[]
 |[a],x,vs,bs=>∃v,vs=[v]/\ShV P w I a x v bs
 |a::b::r,x,vs,bs=>∃v vs' bs1 bs2,vs=v::vs'/\bs=bs1++bs2/\ShV P w I a x.1 v bs1/\ShL P w I (b::r) x.2 vs' bs2
def I7:List Sh->List Value->List Value
 | .box _::ps,v::vs=>v::I7 ps vs
 | .io _ _::ps,v::vs=>v::I7 ps vs
 | .bld _ false::ps,v::vs=>v::I7 ps vs
 |_::ps,_::vs=>I7 ps vs
 |_,_=>[]
def MD:List Value->Value->Prop
 |[v],rv=>rv=v
 |vs,rv=>rv=.tuple vs.toArray
def FunOK(P:Program)(f:Nat)(sp:FSpec):Prop:=
 ∀(w:World) (I:Im) (v:TupR sp.ps) (args:List Value) (bs:List Nat),HQ w I->ShL P w I sp.ps v args bs->bs.Nodup->∀r,sp.F v=some r->
  Calls P f args.toArray w λe w'=>∃rv vs I' bs',e=.returned rv/\vs.length=sp.rs.length/\MD vs rv/\After (·∈bs) w I w' I'/\
   ShL P w' I' (sp.rs++sp.ps.filter EU) r (vs++I7 sp.ps args) bs'/\bs'.Nodup/\(∀b∈bs',b∈bs\/w.heap.size<=b)/\(sp.dr=true->w.drawn<=w'.drawn)
structure EnvOK(P:Program)(dr:Bool)(E:Env):Prop where
 pin:Pins.P=P
 drE:dr=true->E.dr=true
 drs:dr=true->∀f sp,E.fs f=some sp->sp.dr=true
 ty:∀id t,E.ty id=some t->Lay P t id
 el:∀id x,P.underlying id=some (.slice x)->E.el id=x
 fs:∀f sp,E.fs f=some sp->FK P f/\FunOK P f sp
 mt:∀m id f,E.mt m id=some f->∀(v:Value) (w:World),(method (P.types.size+Made.depth) id v m).run P w=.ok (f,v) w
 eq:∀id t,E.eq id=true->E.ty id=some t->NT P t id=true
 ky:∀id x y,P.underlying id=some (.map x y)->E.ky id=x
section
variable{P:Program}{fr:Fr}{free free':Nat->Prop}{self:Nat}{σ σ':SSo}{w w':World}{G G':Gh}{I:Im}
def BlksOf(σ:SSo)(G:Gh)(ks bs:List Nat):Prop:=∀b∈bs,∃k∈ks,∃o,σ k=some o/\Bk G k o b
def BlksOf.mono{ks a:List Nat}(h:BlksOf σ G ks bs)(hk:∀k∈ks,k∈a):BlksOf σ G a bs:=λb d=>let ⟨k,h1,h2⟩:=h b d;⟨k,hk k h1,h2⟩
def BlksOf.append(C:MemS P fr free σ w G){k1 z j l:List Nat}(h1:BlksOf σ G k1 j)(A:BlksOf σ G z l)(J:j.Nodup)(K:l.Nodup)(hk:(k1++z).Nodup):
 (j++l).Nodup/\BlksOf σ G (k1++z) (j++l):=by
 refine⟨AY.2 ⟨J,K,λa B b m e=>?_⟩,λb m=>?_⟩
 .subst e;have⟨x,H,o,D,p⟩:=h1 a B;have⟨y,I,L,s,d⟩:=A a m;exact(AY.1 hk).2.2 x H y I (C.sep x y o L a D s p d)
 .rcases AZ.1 m with h|h
  .obtain⟨k,hk,E⟩:=h1 b h;grind
  .obtain⟨k,hk,E⟩:=A b h;grind
def VJ(hm:MemS P fr free σ w G){v:SV}{x:List t.T}(h:LG σ el t wr v=some x)(hr:CR P w G v cs):
 ∃bs,ShC P w G.im (.own el t wr) x cs bs/\bs.Nodup/\BlksOf σ G (GP v) bs:=by
 unfold LG at h;split at h
 .rename_i k g;split at h
  .rename_i id' t' xs g' w1 hk;cases hb:(Nat.beq g 0&&Nat.beq g g'&&(Nat.beq el id'&&(bif wr then w1 else !w1)))with
   |false=>grind
   |true=>
    rw[hb]at h;have h:Ty.cast? (.slice t') (.slice t) xs=some x:=h;simp only[A5]at hb;have e1:=A4 hb.1.2;have e2:=A4 hb.2.1;have e3:wr=w1:=by have:=hb.2.2;cases wr<;>cases w1<;>first|rfl|cases this
    subst e1 e2 e3;obtain⟨et,ex⟩:=Ty.cast?_some h;have et':t'=t:=by injection et
    subst et';cases ex;have⟨_,v',k1,k2⟩:=hm.objs _ _ hk;obtain⟨v2,k3,_,k5⟩:=hr;rw[k1]at k3;cases k3;rcases k2 with⟨rfl,hx⟩|⟨b,cap,cells,rfl,q1,q2,q3,q4,q5,q6,q7,q8⟩
    .exact⟨[],.inl ⟨k5,hx,rfl⟩,AW,λb hb=>by cases hb⟩
    .refine⟨[b],.inr ⟨b,cap,cells,k5,rfl,q1,q2,q3,q4,q6,q7,q8⟩,oh,λb' hb'=>?_⟩;simp_all[GP,Bk]
  .cases h
 .cases h;exact⟨[],.inl ⟨hr,rfl,rfl⟩,AW,λb hb=>by cases hb⟩
 .cases h
def A2V(E:MemS P fr free σ w G){v:Ty}{x:List (k.T×v.T)}(h:XV σ k v s=some x)(I:CR P w G s cs):
 ∃bs,ShC P w G.im (.omap k v) x cs bs/\bs.Nodup/\BlksOf σ G (GP s) bs:=by
 unfold XV at h;split at h
 .rename_i j g;split at h
  .rename_i J y C wr hk;cases d:(Nat.beq g 0&&wr)with
   |false=>rw[d]at h;cases h
   |true=>
    rw[d]at h;have h:Ty.cast? (.map J y) (.map k v) C=some x:=h;simp only[A5]at d;have A:=A4 d.1;have B:wr=true:=d.2;subst A B;obtain⟨D,ex⟩:=Ty.cast?_some h;injection D with e3 e4;subst e3 e4;cases ex;obtain⟨y,k1,p,H,b,e,a,rfl,L,M,N,O,Q,R⟩:=E.objs _ _ hk;obtain⟨T,m,_,K⟩:=I;rw[k1]at m;cases m;refine⟨[b],⟨p,H,b,e,a,K,rfl,L,M,N,O.1 rfl,Q⟩,oh,λz l=>?_⟩;have:z=b:=by simpa using l
    subst this;exact⟨j,by simp[GP],_,hk,by simp[Bk,k1]⟩
  .cases h
 .cases h
def AGZ(z:MemS P fr free σ w G){v:Ty}{x:List (k.T×v.T)}{val:Value}(h:cY σ k v s=some x)(A:SR P w G s val):
 ∃bs,ShV P w G.im (.it k v) x val bs/\bs.Nodup/\BlksOf σ G (GP s) bs:=by
 unfold cY at h;split at h
 .rename_i j g;split at h
  .rename_i B I p hk;cases a:Nat.beq g 0 with
   |false=>rw[a]at h;cases h
   |true=>
    rw[a]at h;have h:Ty.cast? (.map B I) (.map k v) p=some x:=h;have m:=A4 a;subst m;obtain⟨y,ex⟩:=Ty.cast?_some h;injection y with e3 e4;subst e3 e4;cases ex;have⟨r,o,k1,C,D,E,H,_⟩:=z.objs _ _ hk;obtain⟨_,rfl,J,e,_,d⟩:=A;rw[k1]at e;cases e;have d:=AC.1 d;subst d;refine⟨[r],⟨r,o,rfl,rfl,C,D,E,H⟩,oh,λl b=>?_⟩;have:l=r:=by simpa using b
    subst this;exact⟨j,by simp[GP],_,hk,by simp[Bk,k1]⟩
  .cases h
 .cases h
theorem MgOK.bks{j:List (k.T×List t.T)}(h:MgOK fr w I id k t j none us cv):∀u∈us,∃v,u=HS v:=by intro u m;obtain⟨b,a,d,rfl,h1,⟨p,_⟩,s,y,_⟩:=h;have⟨i,hi⟩:=BN m;have l:i<us.length:=(A3.1 hi).1;obtain⟨x,A⟩:∃x,j[i]?=some x:=⟨_,A1 oa⟩;obtain⟨e,z⟩:∃e,a[i]?=some e:=⟨_,AU oa⟩;grind
def AG_:∀{us:List Value},(∀u∈us,∃v,u=HS v)->(∀(i j c:Nat),us[i]?=some (.map (some c))->us[j]?=some (.map (some c))->i=j)->(us.filterMap ON).Nodup:=by
 intro us;induction us with
 |nil=>simp
 |cons u us w=>
  intro a e;have d:=w (λx b=>a x (AN _ b)) (λi j c h1 m=>by simpa using e (i+1) (j+1) c oz (by simpa using m));cases h:ON u with
  |none=>grind
  |some c=>
   rw[List.filterMap_cons_some h];refine AV.2 ⟨λl=>?_,d⟩;have⟨v,s⟩:=a u AE;rw[VI λx b=>a x (AN _ b)]at l;have⟨j,p⟩:=BN l;have h0:u=.map (some c):=by rw[s]at h ⊢;exact A2U h
   have:=e 0 (j+1) c (by simp[h0]) (by simpa using p);omega
def AGa:∀{us:List Value},(∀u∈us,∃v,u=HS v)->(us.filterMap ON).Nodup->∀{i j c:Nat},us[i]?=some (.map (some c))->us[j]?=some (.map (some c))->i=j:=by
 intro us;induction us with
 |nil=>simp
 |cons u us p=>
  intro e a i j c hi m;have h:∀x∈us,∃v,x=HS v:=λx l=>e x (AN _ l);have key:∀j:Nat,u=Value.map (some c)->us[j]?=some (Value.map (some c))->False:=by intro j h1 b;subst h1;have d:ON (Value.map (some c))=some c:=rfl;rw[List.filterMap_cons_some d]at a;exact(AV.1 a).1 ((VI h).2 (AH b))
  grind
theorem A2W(O:MemS P fr free σ w G){x:List (k.T×List t.T)}(h:XW σ id k t s=some x)(Q:CR P w G s cs):
 ∃bs,ShC P w G.im (.og id k t) x cs bs/\bs.Nodup/\BlksOf σ G (GP s) bs:=by
 unfold XW at h;split at h
 .rename_i j g;split at h
  .rename_i D R t' K gk hk;cases z:(Nat.beq g 0&&Nat.beq id D)with
   |false=>rw[z]at h;cases h
   |true=>
    rw[z]at h;have h:Ty.cast? (.map R (.slice t')) (.map k (.slice t)) K=some x:=h;simp only[A5]at z;have I:=A4 z.1;have J:=A4 z.2;subst I J;obtain⟨L,ex⟩:=Ty.cast?_some h;injection L with e3 e4;injection e4 with e4;subst e3 e4;cases ex;have⟨v',us,k1,T,p⟩:=O.objs _ _ hk;have m:=p.bks;have B:=p;obtain⟨b,y,d,rfl,V,W,X,Y,Z,q6,q7,q8,q9⟩:=p;obtain⟨v2,E,_,U⟩:=Q;rw[k1]at E;cases E;refine⟨b::us.toList.filterMap ON,⟨b,y,d,us.toList,U,rfl,V,W,X,λi x e u h1 M N=>?_,q6,q7,q8⟩,AV.2 ⟨λA=>?_,AG_ m Z⟩,λb' l=>?_⟩
    .obtain⟨C,a⟩:=Y i x e u h1 M N;rcases a with⟨a,_⟩|⟨a,H⟩
     .cases a
     .exact⟨C,.of a,H⟩
    .rw[VI m]at A;have⟨x,v,C,a⟩:=B.own A;have⟨_,_,cap,cells,_,fz,a5,_⟩:=C.slice a;grind
    .refine⟨j,by simp[GP],_,hk,?_⟩;rcases A_.1 l with e|l
     .subst e;exact .inl k1
     .exact .inr ⟨us,T,(VI m).1 l⟩
  .cases h
 .cases h
def tL:∀{a b:List Nat},PP a b=true->a=b:=by
 intro a;induction a with
 |nil=>intro b h;cases b<;>first|rfl|cases h
 |cons x a d=>
  intro b h;cases b with
  |nil=>cases h
  |cons y b=>simp only[PP,A5]at h;rw[A4 h.1,d h.2]
theorem SlOK.dv{xs:List t.T}(h:SlOK fr w I id t xs true v):
 ∃bs,DV fr.owned w I t [id] xs none [v] bs/\bs.Nodup/\∀b∈bs,HS v=.map (some b):=by
 rcases h with⟨rfl,rfl⟩|⟨b,cap,cells,rfl,j,l,z,A,m,p,B,s⟩
 .exact⟨[],⟨_,rfl,rfl,.inr (.inl ⟨ou,rfl,rfl,rfl⟩)⟩,AW,λb e=>by cases e⟩
 .refine⟨[b],DV.mkleaf j l oa m (p rfl) s (λi x y=>oc),oh,λd a=>?_⟩
  .have:d=b:=by simpa using a
   rw[this];rfl
theorem A2X(B:MemS P fr free σ w G){ids:List Nat}{v:SV}{x:(E2 ids t).T}(h:QY σ ids t v=some x)(C:CR P w G v cs):
 ∃bs,(ids≠[]/\DV fr.owned w G.im t ids x none cs bs)/\bs.Nodup/\BlksOf σ G (GP v) bs:=by
 unfold QY at h;split at h
 .rename_i k g;split at h
  .rename_i e m W Y hk;cases d:(Nat.beq g 0&&PP e ids)with
   |false=>grind
   |true=>
    rw[d]at h;have h:Ty.cast? (E2 e m) (E2 ids t) W=some x:=h;simp only[A5]at d;have s:=A4 d.1;have z:=tL d.2;subst s z;obtain⟨j,ex⟩:=Ty.cast?_some h;have A:m=t:=by
     have:∀(l:List Nat),E2 l m=E2 l t->m=t:=by
      intro l;induction l with
      |nil=>intro h;exact h
      |cons a l O=>intro h;injection h with h;exact O h
     exact this _ j
    subst A;cases ex;cases e with
    |nil=>exact absurd (B.objs _ _ hk) id
    |cons id r=>have⟨h0,H,U,us,bs,k1,y,Q,R,T⟩:=DpOK.inv (B.objs _ _ hk);obtain⟨V,p,_,E⟩:=C;rw[k1]at p;cases p;rw[E];exact⟨bs,⟨ou,T⟩,R,λb d=>⟨k,by simp[GP],_,hk,rfl,us,y,(MV Q).2 d⟩⟩
  .rename_i D m X M hk;cases d:(Nat.beq g 0&&(Nat.beq M 0&&PP [D] ids))with
   |false=>grind
   |true=>rw[d]at h;have h:Ty.cast? (.slice m) (E2 ids t) X=some x:=h;simp only[A5]at d;have s:=A4 d.1;have z:=A4 d.2.1;have L:=tL d.2.2;subst s z L;obtain⟨j,ex⟩:=Ty.cast?_some h;have j:Ty.slice m=.slice t:=j;injection j with j;subst j;cases ex;have⟨_,U,k1,y⟩:=B.objs _ _ hk;obtain⟨V,p,_,E⟩:=C;rw[k1]at p;cases p;rw[E];have⟨bs,I,J,K⟩:=SlOK.dv y;refine⟨bs,⟨ou,I⟩,J,λb d=>⟨k,by simp[GP],_,hk,?_⟩⟩;have⟨_,_,cap,cells,s,_⟩:=y.slice (K b d);grind[Bk]
  .cases h
 .split at h
  .cases h
  .rename_i id r;have N:x=([]:List (E2 r t).T):=(A2 h).symm;refine⟨[],⟨ou,⟨_,C,rfl,.inr (.inl ⟨ou,rfl,N,rfl⟩)⟩⟩,AW,λb d=>by cases d⟩
 .cases h
def A2Y(a:MemS P fr free σ w G){ids:List Nat}{v:SV}{x:(E2 ids t).T}(h:QY σ ids t v=some x)(b:CR P w G v cs):
 ∃bs,ShC P w G.im (.dp ids t) x cs bs/\bs.Nodup/\BlksOf σ G (GP v) bs:=
 let ⟨bs,h1,h2,h3⟩:=A2X a h b
 ⟨bs,⟨h1.1,h1.2.own λ_ _=>trivial⟩,h2,h3⟩
def A2Z{f:Nat}{v:SV}{x:Unit}(h:XX f v=some x)(d:CR P w G v cs):cs=[.func (.func f) #[] #[]]:=by
 unfold XX at h;split at h
 .split at h
  .rename_i b;have:=A4 b;subst this;obtain⟨vs,h1,a⟩:=d;have a:vs.toList=[]:=a;simp_all
  .cases h
 .cases h
def A2_{v:SV}{x:List e.T}(h:cZ e v=some x)(a:CR P w G v cs):Rel w G.im (.slice e) x cs/\∃ad len cap,cs=[.slice (some ad) len cap]:=by cases v<;>first|exact⟨Rel.cast h a.1,a.2⟩|cases h
def A2a{x:Option (List u.T)}{y:Option (List e.T)}(h:c_ u e x=some y):∃h:u=e,h▸x=y:=by grind[c_,Ty.same_eq,Option.some.inj]
def A2b{v:SV}{x:Option (List e.T)}(h:dA e v=some x)(b:CR P w G v cs):
 Rel w G.im (.slice e) (x.getD []) cs/\∃ad len cap,cs=[.slice ad len cap]/\(x=none->ad=none):=by
 cases v with
 |nilS=>have h:none=x:=A2 h;subst h;have b:cs=[.slice none 0 0]:=b;subst b;exact⟨⟨none,0,rfl,⟨AD _,AS _⟩,λ_=>⟨rfl,rfl⟩,λad h=>oq⟩,none,0,0,rfl,λ_=>rfl⟩
 |nns u y=>have⟨h1,d⟩:=A2a h;subst h1;subst d;obtain⟨p,ad,n,m,s⟩:=b;exact⟨p,some ad,n,m,s,λh=>oq⟩
 |mns u y=>have⟨h1,d⟩:=A2a h;subst h1;subst d;exact b
 |val u y=>
  have h:(Ty.cast? u (.slice e) y).map some=some x:=h;cases j:Ty.cast? u (.slice e) y with
  |none=>rw[j]at h;cases h
  |some z=>rw[j]at h;have h:some z=x:=A2 h;subst h;have l:=Rel.cast j (show Rel w G.im u y cs from b);refine⟨l,?_⟩;obtain⟨a,cap,h1,_⟩:=l;exact⟨a,_,cap,h1,λh=>oq⟩
 |_=>cases h
def AGb{x:t.T}(h:SR P w G (.rf0 t x) v):SR P w G (.ref t x) v:=by obtain⟨d,j,b,c,h1,a,e⟩:=h;exact⟨d,j,⟨b,0,none⟩,c,h1,rfl,a,e⟩
def A2c{v:SV}{x:Unit}(h:XY v=some x)(a:CR P w G v cs):cs=[.slice none 0 0]:=by
 unfold XY at h;split at h
 .exact a
 .cases h
theorem A2d(p:MemS P fr free σ w G):∀{s:Sh} {v:SV} {x:s.T} {cs:List Value} {t:Ty},PQ σ s v=some x->CR P w G v cs->
 (T0 s v).Nodup->Fit v t->∃bs,ShC P w G.im s x cs bs/\bs.Nodup/\BlksOf σ G (T0 s v) bs:=by
 intro s;induction s with
 |val t=>intro v x cs _ h j _ _;exact⟨[],⟨YQ (λk o h=>p.objs k o h) h j,rfl⟩,AW,λb l=>by cases l⟩
 |own el t wr=>intro v x cs _ h j _ _;exact VJ p h j
 |io el t=>intro v x cs _ h j _ _;exact VJ (wr:=true) p h j
 |omap a b=>intro v x cs _ h j _ _;exact A2V p h j
 |og id a b=>intro v x cs _ h j _ _;exact A2W p h j
 |dp R t=>intro v x cs _ h j _ _;exact A2Y p h j
 |pr a b B C=>
  intro v x cs t h j A Q;simp only[PQ]at h;split at h
  .rename_i y z H;split at h
   .rename_i x1 x2 h1 O;have h:=A2 h;subst h;simp only[T0,H]at A ⊢;obtain⟨tx,ty,I,J,e1,K,L,rfl,M,N,_⟩:=sU Q j H;have m:=AY.1 A;have⟨D,p1,T,U⟩:=B h1 M m.1 K;have⟨E,V,W,X⟩:=C O N m.2.1 L;have⟨Y,Z⟩:=U.append p X T W A;exact⟨D++E,⟨I,J,D,E,rfl,rfl,p1,V⟩,Y,Z⟩
   .cases h
  .cases h
 |fn f=>intro v x cs _ h j _ _;exact⟨[],⟨rfl,A2Z h j⟩,AW,λb l=>by cases l⟩
 |nilS=>intro v x cs _ h j _ _;exact⟨[],⟨rfl,A2c h j⟩,AW,λb l=>by cases l⟩
 |nns e=>intro v x cs _ h j _ _;exact⟨[],⟨rfl,A2_ h j⟩,AW,λb l=>by cases l⟩
 |mns e=>intro v x cs _ h j _ _;exact⟨[],⟨rfl,A2b h j⟩,AW,λb l=>by cases l⟩
 |box c ih=>intro v x cs _ h;cases h
 |hof d c=>intro v x cs _ h;cases h
 |any=>intro v x cs _ h;cases h
 |bld el c=>intro v x cs _ h;cases h
 |tr s _=>intro v x cs _ h;cases h
 |fz t=>intro v x cs _ h;cases h
 |it a b=>intro v x cs _ h;cases h
def ArgsV.one{d:Ty}{x:d.T}{l:List Value}(e:∀a b,d≠.prod a b)(h:ArgsV w I d x l):∃v,l=[v]/\VRel w I d x v:=by cases d<;>first|exact h|grind
def ArgsV.mk_one{d:Ty}{x:d.T}(a:MU d=false)(h:VRel w I d x v):ArgsV w I d x [v]:=by cases d<;>first|exact⟨v,rfl,h⟩|cases a
def AGc:∀{rs:List Sh} {c:Ty} {y:TupR rs} {z:c.T} {vs:List Value} {bs:List Nat},SZ rs c y=some z->ShL P w I rs y vs bs->
 ArgsV w I c z vs/\(MU c=true->2<=vs.length)/\(MU c=false->vs.length=1):=by
 intro rs;induction rs with
 |nil=>intro c y z vs bs h;cases h
 |cons a rs m=>
  intro c y z vs bs h j;cases a<;>first|(cases rs<;>cases h;done)|skip
  rename_i t;cases rs with
  |nil=>
   obtain⟨v,rfl,h1,_⟩:=j;simp only[SZ]at h;cases e:MU c with
   |true=>grind
   |false=>rw[e]at h;simp only[A8]at h;exact⟨ArgsV.mk_one e (VRel.cast h h1),⟨λh=>absurd h oh,λ_=>rfl⟩⟩
  |cons b rs=>
   cases c<;>first|(cases h;done)|skip
   rename_i p q;obtain⟨v,d,A,B,rfl,rfl,⟨k1,E⟩,x⟩:=j;simp only[SZ]at h;split at h
   .rename_i u r h1 l;have h:=A2 h;subst h;have⟨s,C,D⟩:=m l x;refine⟨⟨v,d,rfl,VRel.cast h1 k1,s⟩,λ_=>?_,λh=>oq⟩;grind
   .cases h
def A2e{rs:List Sh}{c:Ty}{y:TupR rs}{z:c.T}{m:Value}(h:SZ rs c y=some z)(A:ShL P w I rs y vs bs)(d:MD vs m):RetV w I c z m:=by
 have⟨h1,p,s⟩:=AGc h A;cases l:MU c with
 |true=>
  have j:=p l;have e:m=.tuple vs.toArray:=by
   rcases vs with _|⟨v,_|⟨B,vs⟩⟩
   .simp at j
   .simp at j
   .exact d
  cases c<;>first|(cases l;done)|skip
  exact⟨vs.toArray,e,h1⟩
 |false=>
  have j:=s l;rcases vs with _|⟨v,_|⟨B,vs⟩⟩<;>first|(simp at j;done)|skip
  have e:m=v:=d;subst e;have x:∀a b,c≠.prod a b:=by intro a b e;subst e;cases l
  have⟨u,C,D⟩:=h1.one x;grind[RetV.one]
def A2f:∀{ps:List Sh},US ps=true->ps.filter EU=[]/\∀b,I7 ps b=[]:=by
 intro ps;induction ps with
 |nil=>intro _;exact⟨rfl,λb=>by cases b<;>rfl⟩
 |cons a ps e=>
  intro h;cases a<;>first|(cases h;done)|skip
  have⟨h1,d⟩:=e h;refine⟨?_,λb=>?_⟩
  .assumption
  .cases b with
   |nil=>rfl
   |cons v b=>exact d b
def tM(d:∀k o,σ k=some o->ObjOK P fr w G k o){x:t.T}(h:UT σ t s=some x)(a:SR P w G s v):VRel w G.im t x v:=by
 have a:=tB d a;unfold UT at h;generalize QX σ s=s at h a;have key:∀{u:Ty} {y:u.T},SR P w G (.ref u y) v->cX u y t=some x->VRel w G.im t x v:=by
  intro u y a h;unfold cX at h;split at h
  .rename_i e _;cases b:rE e u y with
   |none=>grind
   |some z=>
    rw[b]at h;have h:=A2 h;subst h;obtain⟨ad,c,rfl,h1,m,p⟩:=T9 a;have j:u.sz=e.sz/\Rel w G.im e z c:=by
     unfold rE at b;split at b
     .grind[Ty.cast?_some,Rel.cast]
     .obtain⟨l,_⟩:=Ty.cast?_some b;exact⟨by rw[<-l];rfl,Rel.cast (t:=.agg u) b p⟩
    exact⟨_,rfl,ad,rfl,h1,c,j.1▸m,j.2⟩
  .cases h
 unfold A1V at h;split at h
 .exact key a h
 .exact key (AGb a) h
 .exact K0 d h a
def VK{a:Sh}{r:List Sh}{x:a.T}{y:TupR r}(h1:ShV P w I a x v [])(h:ShL P w I r y vs []):ShL P w I (a::r) (S_ a r x y) (v::vs) []:=by
 cases r with
 |nil=>obtain⟨rfl,_⟩:=h;exact⟨v,rfl,h1⟩
 |cons b r=>exact⟨v,vs,[],[],rfl,rfl,h1,h⟩
def AGd(B:∀k o,σ k=some o->ObjOK P fr w G k o):∀{l:List Sh} {ss:List SV} {x:TupR l} {vs:List Value},XS σ l ss=some x->ss.length=vs.length->
 (∀(j:Nat) (s:SV) (v:Value),ss[j]?=some s->vs[j]?=some v->SR P w G s v)->∀w' I',Ext w G.im w' I'->ShL P w' I' l x vs []:=by
 intro l;induction l with
 |nil=>
  intro ss x vs h b _ w' I' _;cases ss with
  |nil=>exact⟨AF b.symm,rfl⟩
  |cons _ _=>cases h
 |cons a l C=>
  intro ss x vs h b e w' I' d;cases ss with
  |nil=>cases a<;>cases h
  |cons s ss=>
   cases vs with
   |nil=>cases b
   |cons v vs=>
    cases a<;>first|(cases h;done)|skip
    rename_i t;simp only[XS]at h;split at h
    .rename_i y z h1 m;have h:=A2 h;subst h;refine VK ⟨(tM B h1 (e 0 s v rfl rfl)).ext d,rfl⟩ (C m (by simpa using b) (λj s v p A=>e (j+1) s v (by simpa using p) (by simpa using A)) w' I' d)
    .cases h
def AGe(E:∀k o,σ k=some o->ObjOK P fr w G k o){cs:List SV}(D:cs.length=vs.length)(H:∀(j:Nat) (s:SV) (v:Value),cs[j]?=some s->vs[j]?=some v->SR P w G s v)
 {w':World}(C:Ext w G.im w' I'):∀{n:Nat} {ps:List Sh} {d:Ty} {x:d.T} {v:TupR ps} {l:List Value},XT σ cs n ps d x=some v->ArgsV w' I' d x l->ShL P w' I' ps v (l++vs) []:=by
 intro n;induction n with
 |zero=>
  intro ps d x v l h A;cases ps with
  |nil=>cases h
  |cons a ps=>
   cases a<;>first|(cases h;done)|skip
   rename_i t;simp only[XT]at h;cases B:MU d with
   |true=>grind
   |false=>
    rw[B]at h;simp only[A8]at h;split at h
    .rename_i y z h1 m;have h:=A2 h;subst h;obtain⟨u,rfl,J⟩:=A.one (λa b e=>by subst e;cases B);exact VK ⟨VRel.cast h1 J,rfl⟩ (AGd E m D H w' I' C)
    .cases h
 |succ n K=>
  intro ps d x v l h A;cases ps with
  |nil=>cases h
  |cons a ps=>
   cases a<;>first|(cases h;done)|skip
   rename_i t;cases d<;>first|(cases h;done)|skip
   rename_i p q;simp only[XT]at h;split at h
   .rename_i y z h1 m;have h:=A2 h;subst h;obtain⟨u,r,rfl,k1,L⟩:=A;exact VK ⟨VRel.cast h1 k1,rfl⟩ (K m L)
   .cases h
def A2g:∀{l:SV} {vs:List Value},CR P w G l vs->l.list.length<=vs.length->∀(j:Nat) (s:SV) (v:Value),l.list[j]?=some s->vs[j]?=some v->SR P w G s v:=by
 intro l;induction l with
 |scons a b A B=>
  intro vs h y j s v d z;obtain⟨C,r,rfl,⟨c,p,x⟩,D⟩:=h;cases j with
  |zero=>
   have e:a=s:=by simpa[SV.list]using d
   have m:C=v:=by simpa using z
   subst e m;exact⟨c,p,x⟩
  |succ j=>grind[SV.list]
 |_=>intro vs h y j s v d;simp[SV.list]at d
def A2h:∀{l:SV} {vs:List Value},CR P w G l vs->PM l=true->l.list.length=vs.length:=by
 intro l;induction l with
 |snil=>intro vs h _;have h:vs=[]:=h;rw[h];rfl
 |scons a b j d=>intro vs h hk;obtain⟨m,r,rfl,_,e⟩:=h;simp[SV.list,d e hk]
 |_=>intro vs h hk;cases hk
def eX(ho:∀k o,σ k=some o->ObjOK P fr w G k o)(hE:∀f s,fs f=some s->FK P f/\FunOK P f s){d c:Ty}{v:SV}{F:d.T->Option c.T}{nd:Bool}{D:Prop}(V:D->nd=true\/((∀f s,fs f=some s->s.dr=true)/\∀p U T F',v≠.hof p U T F'))(h:PO nd fs σ d c v=some F)(H:CR P w G v cs):
 ∃f vs,cs=[.func (.func f) #[] vs]/\HofD P D w G.im d c F f vs:=by
 unfold PO at h;split at h
 .rename_i p U T F';cases C:(!nd||p)with
  |false=>grind
  |true=>
  rw[C]at h;simp only[A6]at h;unfold A1U at h;split at h
  .rename_i J;split at h
   .rename_i K;have e1:=Ty.same_eq J;have e2:=Ty.same_eq K;subst e1 e2;have h:=A2 h;subst h;obtain⟨f,vs,h1,E,h3⟩:=H;refine⟨f,vs,h1,E,λw' I' M N x l O y m=>(h3 w' I' M N x l O y m).mono λe R ⟨Q,I'',k1,k2,k3,k4⟩=>⟨Q,I'',k1,k2,k3,λL=>k4 ((V L).elim (λe=>oc) λhh=>absurd rfl (hh.2 _ _ _ _))⟩⟩
   .cases h
  .cases h
 .rename_i f j;split at h
  .rename_i s X;cases a:(PM j&&US s.ps&&(!nd||s.dr)&&A1W σ (XU d) s.ps j.list)with
   |false=>grind
   |true=>rw[a]at h;have h:=A2 h;subst h;simp only[A5]at a;obtain⟨vs,h1,E⟩:=H;obtain⟨⟨a,C⟩,_⟩:=a;have⟨M,A⟩:=hE _ _ X;have B:=A2h E a.1;refine⟨f,vs,h1,M,λw' I' z N x l O y m=>?_⟩;have⟨v,hv,m⟩:=B6.1 m;have⟨r,H,m⟩:=B6.1 m;have⟨a1,Z⟩:=A2f a.2;have W:=A w' I' v (l++vs.toList) [] N (AGe ho B (A2g E oa) z hv O) AW r H;rw[show(l++vs.toList).toArray=(l.toArray++vs:Array Value) by simp]at W;refine Calls.mono W λe R hq=>?_;obtain⟨Q,h5,I',h4,q1,q2,q3,q4,Y,_,_,qd⟩:=hq;rw[Z,CU]at Y;exact⟨Q,I',q1,q4.mono (λb J=>by cases J),A2e m Y q3,λL=>qd ((V L).elim (λe=>oc) λh=>h.1 _ _ X)⟩
  .cases h
 .cases h
def SR.cell(h:SR P w G s v)(a:∀t x,s≠.val t x):CR P w G s [v]:=SR.one h a
def AGf(s:MemS P fr free σ w G){c:Sh}{v:SV}{x:c.T}(h:UV σ c v=some x)(z:CR P w G v cs)(d:(dF σ c v).Nodup):
 ∃bs,ShC P w G.im (.box c) x cs bs/\bs.Nodup/\BlksOf σ G (dF σ c v) bs:=by
 unfold UV at h;split at h
 .rename_i k u;split at h
  .rename_i t cv hk;cases A:t.same c.ty with
   |false=>grind
   |true=>
    rw[A]at h;have h:PQ σ c cv=some x:=h;have H:=Ty.same_eq A;subst H;have⟨b,cells,el,k1,N,O,Q,R,T,U,V⟩:=s.objs _ _ hk;obtain⟨X,Z,o,B,L,_,M⟩:=z;rw[k1]at B;cases B;have K:o=0:=by have:Ty.off c.ty []=some o:=L;cases J:c.ty<;>rw[J]at this<;>exact(A2 this).symm
    subst K;simp only[dF,hk]at d ⊢;have j:=AV.1 d;have⟨a,p1,W,D⟩:=A2d s h R j.2 Q;refine⟨b::a,⟨b,cells,el,a,M,rfl,N,O,p1,T.1 rfl,U,V.2⟩,AV.2 ⟨λI=>?_,W⟩,λE l=>?_⟩
    .obtain⟨C,p,Y,y,m⟩:=D b I;have:=s.sep k C _ _ b hk y (by simp[Bk,k1]) m;grind
    .rcases A_.1 l with e|e
     .grind[List.mem_cons_self,Bk]
     .obtain⟨C,p,z⟩:=D E e;grind
  .cases h
 .cases h
def AGg{k:Nat}{x:SV}(hk:G.box k=some (b,t))(h:dC k x=true)(a:CR P w G x cs):cs=[.pointer none]\/cs=[.pointer (some ⟨b,0,none⟩)]:=by
 unfold dC at h;split at h
 .rename_i u y;have:=Ty.same_eq h;subst this;exact .inl a
 .have:=A4 h;subst this;obtain⟨e,j,h1,d⟩:=a;grind
 .have:=A4 h;subst this;obtain⟨e,j,o,h1,d,_,l⟩:=a;rw[hk]at h1;cases h1;have m:o=0:=by cases t<;>exact(A2 d).symm
  grind
 .cases h
def AGh(H:MemS P fr free σ w G){c:Bool}{v:SV}{x:List Int}(h:UU σ el v=some x)(L:CR P w G v cs)(l:(dG σ v).Nodup):
 ∃bs,ShC P w G.im (.bld el c) x cs bs/\bs.Nodup/\BlksOf σ G (dG σ v) bs:=by
 unfold UU at h;split at h
 .rename_i k u;split at h
  .rename_i t cv hk;cases M:t.same GS with
   |false=>grind
   |true=>
    rw[M]at h;simp only[A6]at h;have Y:=Ty.same_eq M;subst Y;split at h
    .rename_i y z;cases d:dC k y with
     |false=>rw[d]at h;cases h
     |true=>
      rw[d]at h;have h:LG σ el (.int .u8) true z=some x:=h;have⟨b,cells,s,k1,k2,k3,k4,k5,k6,k7,k8⟩:=H.objs _ _ hk;obtain⟨b',t',o,N,j2,_,j4⟩:=L;rw[k1]at N;cases N;have ho:o=0:=(A2 j2).symm;subst ho;obtain⟨T,U,V,W,X⟩:=k5;have D:=AGg k1 d W;simp only[dG,hk]at l ⊢;have K:=AV.1 l;have⟨j,p1,p2,Q⟩:=VJ H h X;have a:∃q,U=[q]:=by
       rcases p1 with⟨a,_⟩|⟨g,cap,J,a,_⟩
       .grind
       .grind
      obtain⟨q,rfl⟩:=a;have m:∃p,T=[p]/\(p=.pointer none\/p=.pointer (some ⟨b,0,none⟩)):=by
       rcases D with m|m
       .grind
       .grind
      obtain⟨p,rfl,m⟩:=m;refine⟨b::j,⟨b,cells,s,p,q,j,j4,rfl,k2,k8.2 rfl,V,m,k6.1 rfl,k7,?_⟩,AV.2 ⟨λhb=>?_,p2⟩,λR B=>?_⟩
      .rcases p1 with⟨a,h1,A⟩|⟨g,cap,J,a,h1,A,Z,h4,h5,h6,_,h8⟩
       .exact .inl ⟨AC.1 a,h1,A⟩
       .exact .inr ⟨g,cap,J,AC.1 a,h1,A,Z,h4,h5,h6 rfl,h8⟩
      .obtain⟨O,E,o',I,C⟩:=Q b hb;have:=H.sep k O _ _ b hk I (by simp[Bk,k1]) C;grind
      .rcases A_.1 B with e|e
       .grind[List.mem_cons_self,Bk]
       .obtain⟨O,E,L⟩:=Q R e;grind
    .cases h
  .cases h
 .cases h
theorem A2i(e:Ty):e.off []=some 0:=by cases e<;>rfl
theorem A2j(m:MemS P fr free σ w G)(N:∀f J,fs f=some J->FK P f/\FunOK P f J){s:Sh}{v:SV}{x:s.T}{val:Value}(h:UW fs σ s v=some x)(l:SR P w G v val)
 (p:(QZ σ s v).Nodup):∃bs,ShV P w G.im s x val bs/\bs.Nodup/\BlksOf σ G (QZ σ s v) bs:=by
 have j:BlksOf σ G (QZ σ s v) []:=λb A=>by cases A
 cases s with
 |val t=>exact⟨[],⟨K0 (λk o h=>m.objs k o h) h l,rfl⟩,AW,j⟩
 |own el t wr=>have h:LG σ el t wr v=some x:=h;refine VJ m h (l.cell λt y e=>?_);subst e;cases h
 |io el t=>have h:LG σ el t true v=some x:=h;refine VJ (wr:=true) m h (l.cell λt y e=>?_);subst e;cases h
 |omap a b=>have h:XV σ a b v=some x:=h;refine A2V m h (l.cell λt y e=>?_);subst e;cases h
 |og id a b=>have h:XW σ id a b v=some x:=h;refine A2W m h (l.cell λt y e=>?_);subst e;cases h
 |fz t=>have h:UT σ t v=some x:=h;exact⟨[],⟨tM (λk o h=>m.objs k o h) h l,rfl⟩,AW,j⟩
 |it a b=>have h:cY σ a b v=some x:=h;exact AGZ m h l
 |dp H t=>have h:QY σ H t v=some x:=h;refine A2Y m h (l.cell λt y e=>?_);subst e;cases h
 |box c=>have h:UV σ c v=some x:=h;refine AGf m h (l.cell λt y e=>?_) p;subst e;cases h
 |pr a b=>cases h
 |hof nd d c=>have h:PO nd fs σ d c v=some x:=h;exact⟨[],⟨rfl,eX (D:=nd=true) (λk o h=>m.objs k o h) N (λh=>.inl h) h (l.cell λt y e=>by subst e;cases h)⟩,AW,j⟩
 |fn f=>have h:XX f v=some x:=h;exact⟨[],⟨rfl,A2Z h (l.cell λt y e=>by subst e;cases h)⟩,AW,j⟩
 |nilS=>have h:XY v=some x:=h;exact⟨[],⟨rfl,A2c h (l.cell λt y e=>by subst e;cases h)⟩,AW,j⟩
 |any=>exact⟨[],rfl,AW,j⟩
 |tr s=>
  have h:A1X σ s v=some x:=h;cases v with
  |bt u c=>
   have h:(bif dB s&&u.same (.agg s.ty)then PQ σ s c else none)=some x:=h;cases A:(dB s&&u.same (.agg s.ty))with
   |false=>rw[A]at h;cases h
   |true=>rw[A]at h;have E:PQ σ s c=some x:=h;simp only[A5]at A;obtain⟨cc,D,B,h1,⟨a,b,O,C⟩,L,M⟩:=l;have Q:val=.agg B.toArray:=AC.1 ((show cc=[val]from D).symm.trans h1);have⟨bs,p1,R,T⟩:=A2d m E M p C;exact⟨bs,⟨A.1,B,Q,L,p1⟩,R,T⟩
  |_=>cases h
 |bld el c=>have h:UU σ el v=some x:=h;refine AGh (c:=c) m h (l.cell λt y e=>?_) p;subst e;cases h
 |nns e=>have h:cZ e v=some x:=h;exact⟨[],⟨rfl,A2_ h (l.cell λt y e=>by subst e;cases h)⟩,AW,j⟩
 |mns e=>
  have h:dA e v=some x:=h;refine⟨[],⟨rfl,A2b (P:=P) h ?_⟩,AW,j⟩;cases v with
  |val t y=>
   have h:(Ty.cast? t (.slice e) y).map some=some x:=h;cases I:Ty.cast? t (.slice e) y with
   |none=>rw[I]at h;cases h
   |some z=>obtain⟨K,U⟩:=Ty.cast?_some I;subst K;obtain⟨c,h1,C⟩:=l;have h1:c=[_]:=h1;subst h1;exact C
  |_=>exact l.cell λt y e=>by cases e
theorem eY{a b:Sh}{r:List Sh}{v:SV}{vs:List SV}:Q_ fs σ (a::b::r) (v::vs)=(match UW fs σ a v,Q_ fs σ (b::r) vs with
 |some x,some y=>some (x,y)
 |_,_=>none):=rfl
theorem AGi(z:MemS P fr free σ w G)(E:∀f I,fs f=some I->FK P f/\FunOK P f I):∀{l:List Sh} {d:List SV} {x:TupR l} {vs:List Value},Q_ fs σ l d=some x->
 d.length=vs.length→(∀(j:Nat) (s:SV) (v:Value),d[j]?=some s→vs[j]?=some v→SR P w G s v)→(GL σ l d).Nodup→∃bs,ShL P w G.im l x vs bs∧bs.Nodup∧BlksOf σ G (GL σ l d) bs:=by
 intro l;induction l with
 |nil=>
  intro d x vs h p _ _;cases d with
  |nil=>exact⟨[],⟨AF p.symm,rfl⟩,AW,λb J=>by cases J⟩
  |cons _ _=>cases h
 |cons a l K=>
  intro d x vs h p H e;cases d with
  |nil=>cases l<;>cases h
  |cons s d=>
   cases vs with
   |nil=>cases p
   |cons v vs=>
    have h0:=H 0 s v rfl rfl;cases l with
    |nil=>
     cases d with
     |cons _ _=>cases h
     |nil=>have h:UW fs σ a s=some x:=h;simp only[GL,CU]at e ⊢;obtain⟨bs,p1,A,B⟩:=A2j z E h h0 e;have:vs=[]:=AF oc;subst this;exact⟨bs,⟨v,rfl,p1⟩,A,B⟩
    |cons b l=>
     rw[eY]at h;split at h
     .rename_i R T h1 y;have h:=A2 h;subst h;rw[GL]at e ⊢;have m:=AY.1 e;obtain⟨C,p1,A,B⟩:=A2j z E h1 h0 m.1;obtain⟨D,L,M,N⟩:=K y (by simpa using p) (λj s v h1 y=>H (j+1) s v oz (by simpa using y)) m.2.1;obtain⟨O,Q⟩:=B.append z N A M e;exact⟨C++D,⟨v,vs,C,D,rfl,rfl,p1,L⟩,O,Q⟩
     .cases h
theorem OO{k:Nat}:∀{l:List Nat},EW k l=true<->k∈l:=by intro l;induction l<;>simp_all[EW,C5,A_,A4,id,CM]
theorem A2k:∀{l:List Nat},LH l=true->l.Nodup:=by
 intro l;induction l with
 |nil=>simp
 |cons k r a=>intro h;simp only[LH,A5]at h;grind[List.nodup_cons,hk,OO]
def eZ(m:MemS P fr free σ w G)(d:∀f b,fs f=some b->FK P f/\FunOK P f b){l:List Sh}{a:List SV}{x:TupR l}(h:R0 fs σ l a=some x)
 (e:a.length=vs.length)(p:∀(j:Nat) (s:SV) (v:Value),a[j]?=some s->vs[j]?=some v->SR P w G s v):∃bs,ShL P w G.im l x vs bs/\bs.Nodup/\BlksOf σ G (GL σ l a) bs:=by
 grind[R0,LH,GL,AGi,A2k]
end
end Go.Ev
