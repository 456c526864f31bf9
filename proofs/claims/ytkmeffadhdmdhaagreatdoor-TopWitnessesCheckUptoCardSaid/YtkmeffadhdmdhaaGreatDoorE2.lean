/-
  The evaluator's operations, second part: slices, maps, contracts and calls.
-/
import Derived.Test.YtkmeffadhdmdhaaGreatDoorE1
import Derived.Deep.AppendSrc
import Derived.Great.BuildSlice
import Derived.Laws.BytesString
import Derived.Lib.ConvBytes
import Derived.Maps.RangeRun
set_option linter.all false
set_option maxRecDepth 100000
namespace Go.Ev
variable{s:SV}{t k u e:Ty}{id b o el i n cap src:Nat}{v cv vx vk vm:X2}{wr ke:X5}{I I':Im}{c us cs ds vs:KX X2}{bss:KX (KX Nat)}{ow:Nat->Prop}{r:Z8}{h:X1 (KX Nat)}{bs:KX Nat}{α β:Type}{fs:Nat->X1 Q2}{places:KX (Nat×Nat)}{ps:KX (Nat×SV)}
variable [CB]
def Ty.dep:Ty->Nat
 | .agg t=>t.dep+1
 | .prod a b=>a.dep+b.dep
 |_=>0
def R3(P:Program):Ty->(Nat->X5)×(KX Field->X5)
 | .prod a b=>(λ_=>false,λl=>match l with
  |f::r=>f.name != "_" && ((R3 P a).1 f.type&&(R3 P b).2 r)
  |[]=>false)
 | .unit=>(λ_=>false,λl=>match l with|[]=>true|_=>false)
 | .bool=>one λ_=>true
 | .int _=>one λ_=>true
 | .str=>one λ_=>true
 | .agg p=>one λid=>!(P.stoodInHeld id)&&(match P.underlying id with|some (.struct fs)=>(R3 P p).2 fs.toList|_=>false)
 |_=>(λ_=>false,λ_=>false)
 where
 one (c:Nat->X5):(Nat->X5)×(KX Field->X5):=(c,λl=>match l with|[f]=>f.name != "_" && c f.type|_=>false)
section
variable{P:Program}{w:X4}{I:Im}
def name_ne{s:String}(h:(s != "_")=true):s≠"_" :=by simpa using h
theorem A2j:∀{t:Ty},(∀(id d:Nat) (x y:t.T) (v e:X2) (b:X5),Lay P t id->(R3 P t).1 id=true->Z4 w I t x v->Z4 w I t y e->Ty.beq t x y=some b->t.dep<d->
 (Op.equalIn d id v e).run P w=.ok b w)/\
 (∀ (l:KX Field) (off d:Nat) (x y:t.T) (cs j:Array X2) (b:X5),(W5 P t).2 l off=true→(R3 P t).2 l=true→Rel w I t x ((cs.toList.drop off).take t.sz)→Rel w I t y ((j.toList.drop off).take t.sz) →
  off+t.sz<=cs.size->off+t.sz<=j.size->Ty.beq t x y=some b->t.dep<d->(Op.eqFields d cs j l).run P w=.ok b w):=by
 intro t
 have leaf:∀{t:Ty} {c:Nat->X5} {k:TypeDesc->X5},(W5 P t).2=(W5.one P t k).2->(R3 P t).2=(R3.one c).2->(∀id,(W5.one P t k).1 id=true->Lay P t id)->(∀id,c id=true->(R3 P t).1 id=true)->
  (∀ (id d:Nat) (x y:t.T) (v e:X2) (b:X5),Lay P t id→(R3 P t).1 id=true→Z4 w I t x v→Z4 w I t y e→Ty.beq t x y=some b→t.dep<d →
  (Op.equalIn d id v e).run P w=.ok b w)->
  ∀(l:KX Field) (off d:Nat) (x y:t.T) (cs j:Array X2) (b:X5),(W5 P t).2 l off=true->(R3 P t).2 l=true->Rel w I t x ((cs.toList.drop off).take t.sz)->Rel w I t y ((j.toList.drop off).take t.sz)->
  off+t.sz<=cs.size->off+t.sz<=j.size->Ty.beq t x y=some b->t.dep<d->(Op.eqFields d cs j l).run P w=.ok b w:=by
  intro t c k D J M hc C l off d x y cs j b m s W X s1 Z A hd;rw[D]at m;rw[J]at s;simp only[W5.one]at m;split at m
  .rename_i g;simp only[A7]at m;have hg:=A5 m.1;subst hg;simp only[R3.one,A7]at s;have E:Lay P t g.type:=M _ (by simp_all[W5.one,A7]);have⟨v,U,r2⟩:=TN E W s1;have⟨e,q1,q2⟩:=TN E X Z;simp only[Op.eqFields];rw[if_pos (name_ne s.1)];simp only[Sem.run_bind,U,Result.andThen_ok,q1,C g.type d x y v e b E (hc _ s.2) r2 q2 A hd];cases b<;>simp
  .cases m
 induction t with
 |bool=>
  have C:∀(id d:Nat) (x y:X5) (v e:X2) (b:X5),Lay P .bool id->(R3 P .bool).1 id=true->Z4 w I .bool x v->Z4 w I .bool y e->Ty.beq .bool x y=some b->Ty.dep .bool<d->
   (Op.equalIn d id v e).run P w=.ok b w:=by
   intro id d x y v e b M _ T B A hd;obtain⟨c,m,s⟩:=T;obtain⟨H,Q,R⟩:=B;have D:v=.bool x:=AB.1 ((show c=[v]from m).symm.trans s);have J:e=.bool y:=AB.1 ((show H=[e]from Q).symm.trans R);subst D J;cases d with
   |zero=>cases hd
   |succ d=>cases A;simp[Op.equalIn,run_underlying M.bool,IE]
  exact⟨C,leaf (t:=.bool) (c:=λ_=>true) rfl rfl (λ_ h=>h) (λ_ h=>h) C⟩
 |int k=>
  have C:∀(id d:Nat) (x y:Int) (v e:X2) (b:X5),Lay P (.int k) id->(R3 P (.int k)).1 id=true->Z4 w I (.int k) x v->Z4 w I (.int k) y e->Ty.beq (.int k) x y=some b->Ty.dep (.int k)<d->
   (Op.equalIn d id v e).run P w=.ok b w:=by
   intro id d x y v e b M _ T B A hd;obtain⟨c,m,s,_⟩:=T;obtain⟨H,Q,R,_⟩:=B;have D:v=.int k x:=AB.1 ((show c=[v]from m).symm.trans s);have J:e=.int k y:=AB.1 ((show H=[e]from Q).symm.trans R);subst D J;cases d with
   |zero=>cases hd
   |succ d=>cases A;simp[Op.equalIn,run_underlying M.int,DT]
  exact⟨C,leaf (t:=.int k) (c:=λ_=>true) rfl rfl (λ_ h=>h) (λ_ h=>h) C⟩
 |str=>
  have C:∀(id d:Nat) (x y:DO) (v e:X2) (b:X5),Lay P .str id->(R3 P .str).1 id=true->Z4 w I .str x v->Z4 w I .str y e->Ty.beq .str x y=some b->Ty.dep .str<d->
   (Op.equalIn d id v e).run P w=.ok b w:=by
   intro id d x y v e b M _ T B A hd;obtain⟨c,m,s,_⟩:=T;obtain⟨H,Q,R,_⟩:=B;have D:v=.string ⟨x.toArray⟩:=AB.1 ((show c=[v]from m).symm.trans s);have J:e=.string ⟨y.toArray⟩:=AB.1 ((show H=[e]from Q).symm.trans R);subst D J;cases d with
   |zero=>cases hd
   |succ d=>cases A;rw[run_equalIn_string w d id _ _ M.str,A2g,A2g];rfl
  exact⟨C,leaf (t:=.str) (c:=λ_=>true) rfl rfl (λ_ h=>h) (λ_ h=>h) C⟩
 |agg p ih=>
  have C:∀(id d:Nat) (x y:p.T) (v e:X2) (b:X5),Lay P (.agg p) id->(R3 P (.agg p)).1 id=true->Z4 w I (.agg p) x v->Z4 w I (.agg p) y e->Ty.beq (.agg p) x y=some b->Ty.dep (.agg p)<d->
   (Op.equalIn d id v e).run P w=.ok b w:=by
   intro id d x y v e b M he T B A hd;obtain⟨c,m,s⟩:=T;obtain⟨H,Q,R⟩:=B;have D:v=.agg c.toArray:=m;have J:e=.agg H.toArray:=Q;subst D J;obtain⟨fs,Y,h5,_⟩:=M.agg;simp only[R3,R3.one,Y,A7,BM]at he;have h6:P.fieldsOf id=fs:=by simp[Program.fieldsOf,Y]
   cases d with
   |zero=>cases hd
   |succ d=>
    rw[run_equalIn_struct w d id _ _ oc he.1,h6];have K:Rel w I p x c:=s;have L:Rel w I p y H:=R;refine ih.2 fs.toList 0 d x y _ _ b h5 he.2 ?_ ?_ ?_ ?_ A (by grind[Ty.dep])
    .simpa[K.length]using (show Rel w I p x (c.take p.sz)from by rw[<-K.length,AR];exact K)
    .simpa[L.length]using (show Rel w I p y (H.take p.sz)from by rw[<-L.length,AR];exact L)
    .simp[K.length]
    .simp[L.length]
  exact⟨C,leaf (t:=.agg p) (c:=λid=>!(P.stoodInHeld id)&&(match P.underlying id with|some (.struct fs)=>(R3 P p).2 fs.toList|_=>false)) rfl rfl (λ_ h=>h) (λ_ h=>h) C⟩
 |prod a b h9 x0=>
  refine⟨λid d x y v e r h=>by simp[Lay,W5]at h,λl off d x y cs j r m s W X s1 Z A hd=>?_⟩;simp only[W5]at m;split at m
  .rename_i f l;simp only[A7]at m;simp only[R3,A7]at s;have hg:=A5 m.1;subst hg;have h8:(Ty.prod a b).sz=a.sz+b.sz:=rfl;rw[h8]at W X s1 Z;obtain⟨c1,c2,D,U,r2⟩:=W;obtain⟨N,O,V,G,x3⟩:=X;have k1:c1=(cs.toList.drop f.offset).take a.sz:=by
    have:((cs.toList.drop f.offset).take (a.sz+b.sz)).take a.sz=(c1++c2).take a.sz:=by rw[D]
    rw[DJ,D1 oa,<-U.length,List.take_left,U.length]at this;exact this.symm
   have k2:c2=(cs.toList.drop (f.offset+a.sz)).take b.sz:=by
    have:((cs.toList.drop f.offset).take (a.sz+b.sz)).drop a.sz=(c1++c2).drop a.sz:=by rw[D]
    rw[DD,D5,<-U.length,List.drop_left,U.length]at this;rw[<-this];congr 1;omega
   have x1:N=(j.toList.drop f.offset).take a.sz:=by
    have:((j.toList.drop f.offset).take (a.sz+b.sz)).take a.sz=(N++O).take a.sz:=by rw[V]
    rw[DJ,D1 oa,<-G.length,List.take_left,G.length]at this;exact this.symm
   have x2:O=(j.toList.drop (f.offset+a.sz)).take b.sz:=by
    have:((j.toList.drop f.offset).take (a.sz+b.sz)).drop a.sz=(N++O).drop a.sz:=by rw[V]
    rw[DD,D5,<-G.length,List.drop_left,G.length]at this;rw[<-this];congr 1;omega
   have⟨v,p1,p2⟩:=TN m.2.1 (k1▸U) oa;have⟨e,q1,q2⟩:=TN m.2.1 (x1▸G) oa;simp only[Ty.beq]at A;split at A
   .rename_i u z Y hz;have A:=A2 A;subst A;simp only[Ty.dep]at hd;simp only[Op.eqFields];rw[if_pos (name_ne s.1)];simp only[Sem.run_bind,p1,Result.andThen_ok,q1,h9.1 f.type d x.1 y.1 v e u m.2.1 s.2.1 p2 q2 Y oa];have h7:=x0.2 l (f.offset+a.sz) d x.2 y.2 cs j z m.2.2.1 s.2.2 (k2▸r2) (x2▸x3) oa oa hz oa;cases u
    .simp
    grind
   .cases A
  .cases m
 |unit=>
  refine⟨λid d x y v e r h=>by simp[Lay,W5]at h,λl off d x y cs j r m s W X s1 Z A hd=>?_⟩;simp only[W5]at m;split at m
  .cases A;rfl
  .cases m
 |_=>exact⟨λid d x y v e r _ h=>(om),λl off d x y cs j r _ h=>(om)⟩
theorem AGV:∀{t:Ty},(∀(id n:Nat) (e:X5) (x:t.T) (v:X2),Lay P t id->(R3 P t).1 id=true->Z4 w I t x v->t.dep<n->(Instr.checkKey e n id v).run P w=.ok () w)/\
 (∀ (l:KX Field) (off:Nat) (x:t.T) (cs:Array X2),(W5 P t).2 l off=true->(R3 P t).2 l=true->Rel w I t x ((cs.toList.drop off).take t.sz)->off+t.sz<=cs.size ->
  ∀f∈l,f.name≠"_" /\∃v,(part f.type cs f.offset).run P w=.ok v w/\∀(e:X5) (n:Nat),t.dep<n->(Instr.checkKey e n f.type v).run P w=.ok () w):=by
 intro t
 have leaf:∀{t:Ty} {c:Nat->X5} {k:TypeDesc->X5},(W5 P t).2=(W5.one P t k).2->(R3 P t).2=(R3.one c).2->(∀id,(W5.one P t k).1 id=true->Lay P t id)->(∀id,c id=true->(R3 P t).1 id=true)->
  (∀(id n:Nat) (e:X5) (x:t.T) (v:X2),Lay P t id->(R3 P t).1 id=true->Z4 w I t x v->t.dep<n->(Instr.checkKey e n id v).run P w=.ok () w)->
  (∀ (l:KX Field) (off:Nat) (x:t.T) (cs:Array X2),(W5 P t).2 l off=true->(R3 P t).2 l=true->Rel w I t x ((cs.toList.drop off).take t.sz)->off+t.sz<=cs.size ->
  ∀f∈l,f.name≠"_" /\∃v,(part f.type cs f.offset).run P w=.ok v w/\∀(e:X5) (n:Nat),t.dep<n->(Instr.checkKey e n f.type v).run P w=.ok () w):=by
  intro t c k m Y z hc s l off x cs d j H s1 f hf;rw[m]at d;rw[Y]at j;simp only[W5.one]at d;split at d
  .rename_i g;simp only[A7]at d;have N:=A5 d.1;subst N;simp only[R3.one,A7]at j;have G:Lay P t g.type:=z _ (by simp_all[W5.one,A7]);have⟨v,D,r2⟩:=TN G H s1;grind
  .cases d
 induction t with
 |bool=>
  have s:∀(id n:Nat) (e:X5) (x:X5) (v:X2),Lay P .bool id->(R3 P .bool).1 id=true->Z4 w I .bool x v->Ty.dep .bool<n->(Instr.checkKey e n id v).run P w=.ok () w:=by
   intro id n e x v z _ C A;obtain⟨c,d,j⟩:=C;have m:v=.bool x:=AB.1 ((show c=[v]from d).symm.trans j);subst m;cases n with
   |zero=>cases A
   |succ n=>simp[Instr.checkKey,run_underlying z.bool]
  exact⟨s,leaf (t:=.bool) (c:=λ_=>true) rfl rfl (λ_ h=>h) (λ_ h=>h) s⟩
 |int k=>
  have s:∀(id n:Nat) (e:X5) (x:Int) (v:X2),Lay P (.int k) id->(R3 P (.int k)).1 id=true->Z4 w I (.int k) x v->Ty.dep (.int k)<n->(Instr.checkKey e n id v).run P w=.ok () w:=by
   intro id n e x v z _ C A;obtain⟨c,d,j,_⟩:=C;have m:v=.int k x:=AB.1 ((show c=[v]from d).symm.trans j);subst m;cases n with
   |zero=>cases A
   |succ n=>simp[Instr.checkKey,run_underlying z.int]
  exact⟨s,leaf (t:=.int k) (c:=λ_=>true) rfl rfl (λ_ h=>h) (λ_ h=>h) s⟩
 |str=>
  have s:∀(id n:Nat) (e:X5) (x:DO) (v:X2),Lay P .str id->(R3 P .str).1 id=true->Z4 w I .str x v->Ty.dep .str<n->(Instr.checkKey e n id v).run P w=.ok () w:=by
   intro id n e x v z _ C A;obtain⟨c,d,j,_⟩:=C;have m:v=.string ⟨x.toArray⟩:=AB.1 ((show c=[v]from d).symm.trans j);subst m;cases n with
   |zero=>cases A
   |succ n=>simp[Instr.checkKey,run_underlying z.str]
  exact⟨s,leaf (t:=.str) (c:=λ_=>true) rfl rfl (λ_ h=>h) (λ_ h=>h) s⟩
 |agg p Z=>
  have s:∀(id n:Nat) (e:X5) (x:p.T) (v:X2),Lay P (.agg p) id->(R3 P (.agg p)).1 id=true->Z4 w I (.agg p) x v->Ty.dep (.agg p)<n->(Instr.checkKey e n id v).run P w=.ok () w:=by
   intro id n e x v z W C A;obtain⟨c,d,j⟩:=C;have m:v=.agg c.toArray:=d;subst m;obtain⟨fs,X,M,_⟩:=z.agg;simp only[R3,R3.one,X,A7,BM]at W;cases n with
   |zero=>cases A
   |succ n=>
    have y:Rel w I p x c:=j;have O:p.dep<n:=by simp only[Ty.dep]at A;omega
    have B:=Z.2 fs.toList 0 x c.toArray M W.2 (by simpa[y.length]using (show Rel w I p x (c.take p.sz)from by rw[<-y.length,AR];exact y)) (by simp[y.length]);rw[Instr.checkKey];simp only[Sem.run_bind,run_underlying X,Result.andThen_ok];rw[<-Array.forIn_toList];generalize fs.toList=L at B;induction L with
    |nil=>simp
    |cons f L h4=>have⟨Q,v,U,V⟩:=B f oh;have p3:=V e n O;simp only[List.forIn_cons,Sem.run_bind,Q,ne_eq,not_false_eq_true,if_true,Result.andThen_ok,U,p3,Sem.run_pure];simp_all
  exact⟨s,leaf (t:=.agg p) (c:=λid=>!(P.stoodInHeld id)&&(match P.underlying id with|some (.struct fs)=>(R3 P p).2 fs.toList|_=>false)) rfl rfl (λ_ h=>h) (λ_ h=>h) s⟩
 |prod a b T h3=>
  refine⟨λid n e x v h=>by simp[Lay,W5]at h,λl off x cs d j H s1 f0 E=>?_⟩;simp only[W5]at d;split at d
  .rename_i f l;simp only[A7]at d;simp only[R3,A7]at j;have N:=A5 d.1;subst N;have R:(Ty.prod a b).sz=a.sz+b.sz:=rfl;rw[R]at H s1;obtain⟨J,K,m,D,r2⟩:=H;have k1:J=(cs.toList.drop f.offset).take a.sz:=by
    have:((cs.toList.drop f.offset).take (a.sz+b.sz)).take a.sz=(J++K).take a.sz:=by rw[m]
    rw[DJ,D1 oa,<-D.length,List.take_left,D.length]at this;exact this.symm
   have k2:K=(cs.toList.drop (f.offset+a.sz)).take b.sz:=by
    have:((cs.toList.drop f.offset).take (a.sz+b.sz)).drop a.sz=(J++K).drop a.sz:=by rw[m]
    rw[DD,D5,<-D.length,List.drop_left,D.length]at this;rw[<-this];congr 1;omega
   have⟨v,U,V⟩:=TN d.2.1 (k1▸D) oa;rcases B1.1 E with rfl|E
   .exact⟨name_ne j.1,v,U,λe n A=>T.1 f0.type n e x.1 v d.2.1 j.2.1 V (by grind[Ty.dep])⟩
   grind[Ty.dep]
  .cases d
 |unit=>grind[id,Lay,W5]
 |_=>exact⟨λid n e x v _ h=>(om),λl off x cs _ h=>(om)⟩
def O6(P:Program)(t:Ty)(id:Nat):X5:=(R3 P t).1 id&&(!(P.eqGuardType P.depth id)&&Nat.blt t.dep 10000)
theorem AGW(z:Lay P t id)(m:∃p,t=.agg p)(hk:O6 P t id=true){x y:t.T}{a:X2}{b:X5}(h:Z4 w I t x v)(d:Z4 w I t y a)(s:Ty.beq t x y=some b){op:BinOp}{ox oy:Operand}:
 (op=.eql->((do eqGuard op id ox oy v a;binOp op id v a:Sem X2)).run P w=.ok (.bool b) w)/\
 (op=.neq->((do eqGuard op id ox oy v a;binOp op id v a:Sem X2)).run P w=.ok (.bool (!b)) w):=by
 obtain⟨p,rfl⟩:=m;simp only[O6,A7,BM,C2]at hk;have C:=A2j.1 id 10000 x y v a b z hk.1 h d s hk.2.2;obtain⟨c,j,_⟩:=h;obtain⟨e,l,_⟩:=d;have A:v=.agg c.toArray:=j;have B:a=.agg e.toArray:=l;grind[Sem.run_bind,run_eqGuard_agg,Result.andThen_ok,run_eql_struct,run_neq_struct]
end
section
variable{P:Program}{fr:Fr}{free free':Nat->Prop}{σ:W4}{w w':X4}{G G':Gh}
def O7{o:Go.Obj}(h:w.heap[b]?=some o):b<w.heap.size:=(B6.1 h).1
def RE.slice{xs:KX t.T}(h:RE fr w I el t xs wr v){c:Nat}(a:I5 v=.map (some c)):
 c<w.heap.size/\fr.owned c/\∃cap cs,v=.slice (some ⟨c,0,none⟩) xs.length cap/\Q9 w c cs el:=by
 rcases h with⟨rfl,_⟩|⟨b,cap,cs,rfl,j,d,l,m,e,_⟩
 .cases a
 .injection a with a;injection a with a;have a:b=c:=a;subst a;exact⟨d.lt,e,cap,cs,rfl,d⟩
theorem MgOK.own{j:KX (k.T×KX t.T)}{tk:X1 k.T}(h:MgOK fr w I id k t j tk us cv){c:Nat}(l:Value.map (some c)∈us):
 ∃(x:KX t.T) (v:X2),RE fr w I id t x false v/\I5 v=.map (some c):=by
 obtain⟨b,a,d,rfl,p,⟨s,_⟩,y,z,_⟩:=h;have⟨i,hi⟩:=BR l;have m:i<us.length:=(A3.1 hi).1;obtain⟨x,B⟩:∃x,j[i]?=some x:=⟨_,A1 oa⟩;obtain⟨e,A⟩:∃e,a[i]?=some e:=⟨_,AU oa⟩;grind
def RE.keep{xs:KX t.T}(h:RE fr w I el t xs wr v)(e:Ext w I w' I')
 (D:∀c,I5 v=.map (some c)->w'.heap[c]?=w.heap[c]? /\(∀b,I'.cell c b->I.cell c b)/\(I'.obj c->I.obj c)):RE fr w' I' el t xs wr v:=by
 rcases h with⟨rfl,rfl⟩|⟨l,cap,cs,rfl,s,y,z,A,B,C,m,j⟩
 .exact .inl ⟨rfl,rfl⟩
 .obtain⟨k1,p,G⟩:=D l rfl;exact .inr ⟨l,cap,cs,rfl,s,y.keep k1,z,λi x E=>(A i x E).ext e,B,λd o a=>C d o (p o a),λd o=>⟨λa=>(e.cell _ _ ((m d o).1 a)).1,λa=>(m d o).2 (p o a)⟩,λa=>j (G a)⟩
def ZB(h:b∈bss.getD i []):b∈bss.flatten:=by rw[AH]at h;grind[List.mem_flatten,List.mem_of_getElem?]
theorem DV.keep(e:Ext w I w' I'):∀{ids:KX Nat} {x:(E5 ids t).T} {h:X1 (KX Nat)} {cs:KX X2} {bs:KX Nat},DV ow w I t ids x h cs bs->
 (∀b∈bs,w'.heap[b]?=w.heap[b]? /\(∀d,I'.cell b d->I.cell b d)/\(I'.obj b->I.obj b))->DV ow w' I' t ids x h cs bs:=by
 intro ids;induction ids with
 |nil=>intro x h cs bs hd _;exact⟨hd.1,Rel.ext e hd.2⟩
 |cons id r A=>
  intro x h cs bs hd l;obtain⟨v,rfl,p,a⟩:=hd;refine⟨v,rfl,p,?_⟩;rcases a with a|a|⟨a,b,o,cap,cells,bss,rfl,D,E,G,H,J,K,L,rfl,M⟩
  .exact .inl a
  .grind
  .obtain⟨k1,B,C⟩:=l b AF;exact .inr (.inr ⟨a,b,o,cap,cells,bss,rfl,D,E.keep k1,G,H,λc s=>J c (B c s),λy=>K (C y),L,rfl,λi x z =>A (M i x z) λm j=>l m (AP _ (ZB j))⟩)
theorem DV.blk:∀{ids:KX Nat} {x:(E5 ids t).T} {h:X1 (KX Nat)} {cs:KX X2} {bs:KX Nat},DV ow w I t ids x h cs bs->
 ∀b∈bs,b<w.heap.size/\ow b/\(∀c,¬I.cell b c)/\¬I.obj b:=by
 intro ids;induction ids with
 |nil=>intro x h cs bs hd b a;rw[hd.1]at a;cases a
 |cons id r p=>
  intro x h cs bs hd b a;obtain⟨v,rfl,E,e⟩:=hd;rcases e with⟨_,rfl,_⟩|⟨_,_,_,rfl⟩|⟨e,D,o,cap,cells,bss,rfl,G,s,H,y,z,A,B,rfl,C⟩
  .cases a
  .cases a
  .rcases B1.1 a with rfl|a
   .exact⟨s.lt,y,z,A⟩
   .obtain⟨l,m,j⟩:=List.mem_flatten.1 a;have⟨i,hi⟩:=BR m;have d:i<List.length (show KX (E5 r t).T from x):=by rw[<-B];exact(A3.1 hi).1
    refine p (C i _ (A1 d)) b ?_;grind
theorem DV.head{r:KX Nat}{x:KX (E5 r t).T}(hd:DV ow w I t (id::r) x h cs bs):
 ∃a cap,cs=[.slice a x.length cap]/\x.length<=281474976710656:=by
 obtain⟨v,rfl,l,d⟩:=hd;rcases d with⟨_,_,a,cap,rfl,e⟩|⟨_,rfl,e,_⟩|⟨_,b,o,cap,cells,bss,rfl,j,_⟩
 .grind
 .grind
 .exact⟨_,cap,rfl,j.2⟩
theorem DV.own{ow':Nat->Prop}:∀{ids:KX Nat} {x:(E5 ids t).T} {h:X1 (KX Nat)} {cs:KX X2} {bs:KX Nat},DV ow w I t ids x h cs bs->(∀b∈bs,ow' b)->
 DV ow' w I t ids x h cs bs:=by
 intro ids;induction ids with
 |nil=>intro x h cs bs hd _;exact hd
 |cons id r p=>
  intro x h cs bs hd e;obtain⟨v,rfl,l,a⟩:=hd;refine⟨v,rfl,l,?_⟩;rcases a with a|a|⟨a,b,o,cap,cells,bss,rfl,s,y,z,E,A,B,C,rfl,D⟩
  .exact .inl a
  .grind
  .exact .inr (.inr ⟨a,b,o,cap,cells,bss,rfl,s,y,z,e b AF,A,B,C,rfl,λi x m =>p (D i x m) λj d=>e j (AP _ (ZB d))⟩)
def AGX{a:Nat}(h:IT a=IT b):a=b:=by injection h with h;injection h
theorem N1(h:us=List.map IT bs):IT b∈us<->b∈bs:=by rw[h,BP];exact⟨λ⟨a,d,e⟩=>AGX e▸d,λh=>⟨b,h,rfl⟩⟩
theorem RA.inv{k:Nat}{r:KX Nat}{x:(E5 (id::r) t).T}{a:Nat}(hd:RA fr w G k (id::r) t x a h true):
 h≠some []/\G.ety k=some (E5 r t)/\∃v us bs,G.val k 0=some v/\G.val a 0=some (.tuple us)/\us.toList=List.map IT bs/\bs.Nodup/\DV fr.owned w G.im t (id::r) x h [v] bs:=
 let ⟨h0,h1,v,us,bs,h2,h3,h4,h5,h6,_⟩:=hd
 ⟨h0,h1,v,us,bs,h2,h3,h4,h5,h6⟩
theorem RA.hole{k:Nat}{r:KX Nat}{x:(E5 (id::r) t).T}{a:Nat}(hd:RA fr w G k (id::r) t x a h true)(e:G.val k 0=some v):tI w G a h v:=by obtain⟨_,_,j,_,_,b,_,_,_,_,d⟩:=hd;grind
theorem LW{k:Nat}{o:Obj}(h:V1 P fr w G k o)(d:Bk G k o b):b<w.heap.size:=by
 cases o with
 |box t c wr=>obtain⟨z,cs,el,e,j,_⟩:=h;simp only[Bk,e,BG,AJ]at d;subst d;exact O7 j
 |sl el t N g wr=>
  obtain⟨_,v,e,j⟩:=h;simp only[Bk,e]at d;rcases j with⟨rfl,_⟩|⟨z,cap,cs,rfl,_,l,_⟩
  .cases d
  .cases d;exact l.lt
 |mp a z C wr=>obtain⟨v,e,p,L,E,s,m,rfl,l,_⟩:=h;simp only[Bk,e,AJ]at d;subst d;exact O7 l
 |mg id a t C tk H=>
  obtain⟨v,us,e,j,l⟩:=h;rcases d with d|⟨B,y,d⟩
  .obtain⟨z,s,m,rfl,D,_⟩:=l;rw[e]at d;cases d;exact O7 D
  .rw[j]at y;cases y;have⟨x,M,k1,J⟩:=l.own d;exact(k1.slice J).1
 |dp A t x H K wr=>
  obtain⟨rfl,B,y,d⟩:=d;cases A with
  |nil=>exact absurd h id
  |cons id r=>have⟨_,_,v,us,bs,e,j,l,D,I⟩:=RA.inv h;rw[j]at y;cases y;exact(I.blk b ((N1 l).1 d)).1
 |it a z C=>obtain⟨r,o,e,j,_⟩:=h;simp only[Bk,e,AJ]at d;subst d;exact O7 j
theorem H8{k:Nat}{o:Obj}(h:V1 P fr w G k o)(e:PC w G w' G'):Bk G' k o b<->Bk G k o b:=by
 cases o with
 |box t c wr=>obtain⟨m,cs,el,d,_⟩:=h;simp[Bk,d,e.box _ _ d]
 |sl el t C g wr=>obtain⟨_,v,d,j⟩:=h;simp[Bk,d,e.val _ _ _ d]
 |mp a m p wr=>obtain⟨v,d,_⟩:=h;simp[Bk,d,e.val _ _ _ d]
 |mg id a t p tk s=>obtain⟨v,us,d,j,_⟩:=h;simp[Bk,d,e.val _ _ _ d,j,e.val _ _ _ j]
 |dp l t x s y wr=>
  cases wr with
  |false=>simp[Bk]
  |true=>
   cases l with
   |nil=>exact absurd h id
   |cons id r=>have⟨_,_,v,us,bs,d,j,z,A,B⟩:=RA.inv h;simp[Bk,j,e.val _ _ _ j]
 |it a m p=>obtain⟨r,o,d,_⟩:=h;simp[Bk,d,e.val _ _ _ d]
theorem ItAt.ext{a b:Ty}{s:KX (a.T×b.T)}{o:Go.Obj}(h:ItAt w I a b s o)(e:Ext w I w' I'):ItAt w' I' a b s o:=by obtain⟨m,x,A⟩:=h;refine⟨m,x.ext e,A.imp id ?_⟩;rintro⟨p,l,d,rfl,rfl,B⟩;obtain⟨c,D,_,_,E,rfl,_,j⟩:=x;have y:[Value.map E]=[Value.map (some p)]:=D;have z:=AB.1 y;cases z;have⟨C,_⟩:=j p rfl;exact⟨p,l,d,rfl,rfl,(e.obj p C).2.trans B⟩
theorem V1.keep{k:Nat}{o:Obj}(h:V1 P fr w G k o)(d:PC w G w' G')
 (L:∀b,Bk G k o b->w'.heap[b]?=w.heap[b]? /\(∀U,G'.im.cell b U->G.im.cell b U)/\(G'.im.obj b->G.im.obj b)):V1 P fr w' G' k o:=by
 cases o with
 |box t c wr=>obtain⟨B,cs,el,m,y,z,E,A,H,O,Q⟩:=h;have⟨k1,J,K⟩:=L B (by simp[Bk,m]);exact⟨B,cs,el,d.box _ _ m,k1.trans y,z,E,A.mono d,⟨λC o l=>H.1 C o (J o l),λC o l=>(d.ext.cell _ _ (H.2 C o l)).1⟩,λl=>O (K l),Q⟩
 |sl el t xs g wr=>
  obtain⟨h0,v,m,y⟩:=h;refine⟨d.ety _ _ h0,v,d.val _ _ _ m,?_⟩;rcases y with⟨rfl,rfl⟩|⟨B,cap,cs,rfl,z,E,A,H,O,Q,W,N⟩
  .exact .inl ⟨rfl,rfl⟩
  .obtain⟨k1,J,K⟩:=L B (by simp[Bk,m]);refine .inr ⟨B,cap,cs,rfl,z,E.keep k1,A,λi x R=>(H i x R).ext d.ext,O,λC o l=>Q C o (J o l),λC o=>⟨λl=>(d.ext.cell _ _ ((W C o).1 l)).1,λl=>(W C o).2 (J o l)⟩,λl=>N (K l)⟩
 |mp a b es wr=>obtain⟨v,m,p,hp,B,D,s,rfl,z,E,A,H,O,Q⟩:=h;have⟨k1,J,K⟩:=L B (by simp[Bk,m]);exact⟨_,d.val _ _ _ m,p,hp,B,D,s,rfl,k1.trans z,E,λi x e R X=>⟨(A i x e R X).1.ext d.ext,(A i x e R X).2.ext d.ext⟩,⟨λC l=>H.1 C (K l),λC=>(d.ext.obj _ (H.2 C)).1⟩,λo l=>O o (J o l),Q⟩
 |mg id a t es tk gk=>obtain⟨v,us,m,y,B,D,s,rfl,z,E,A,H,O,Q,W,N,x0⟩:=h;have⟨k1,J,K⟩:=L B (.inl m);refine⟨_,us,d.val _ _ _ m,d.val _ _ _ y,B,D,s,rfl,k1.trans z,E,A,λi x e u R X hu=>?_,O,Q,λl=>W (K l),λo l=>N o (J o l),x0⟩;have⟨q1,q2⟩:=H i x e u R X hu;refine⟨q1.ext d.ext,q2.imp (λ⟨Y,V,a3⟩=>⟨Y,V,a3.ext d.ext⟩) λ⟨Y,V⟩=>⟨Y.keep d.ext λc hc=>?_,V⟩⟩;exact L c (.inr ⟨us,y,by rw[<-hc,<-V];exact AE hu⟩)
 |dp x3 t x gk h' wr=>
  cases x3 with
  |nil=>exact absurd h id
  |cons id r=>
   cases wr with
   |false=>obtain⟨v,m,y⟩:=h;exact⟨v,d.val _ _ _ m,Rel.ext d.ext y⟩
   |true=>
    have⟨h0,T,v,us,bs,m,y,z,E,A⟩:=RA.inv h;have I:=RA.hole h m;refine⟨h0,d.ety _ _ T,v,us,bs,d.val _ _ _ m,d.val _ _ _ y,z,E,A.keep d.ext λb x1=>L b ⟨rfl,us,y,(N1 z).2 x1⟩,?_⟩;unfold tI at I ⊢;split at I
    .rename_i i;obtain⟨hv,b,o,len,cap,e1,rfl,e0,Z⟩:=I;refine⟨hv,b,o,len,cap,d.val _ _ _ e1,rfl,e0,?_⟩;obtain⟨v',e3,_,M⟩:=A;have e3:=AB.1 e3;subst e3;have x2:b∈bs:=by
      rcases M with⟨M,_⟩|⟨_,M,_⟩|⟨_,B,o',x4,cells,bss,M,_,_,_,_,_,_,_,e5,_⟩
      .cases M
      .cases M
      .cases M;rw[e5];exact AF
     have:=(L b ⟨rfl,us,y,(N1 z).2 x2⟩).1;unfold World.cell? at Z ⊢;simp only at Z ⊢;rw[this];exact Z
    .trivial
 |it a b es=>obtain⟨r,o,m,y,z,E,A,H⟩:=h;have⟨k1,J,K⟩:=L r (by simp[Bk,m]);exact⟨r,o,d.val _ _ _ m,k1.trans y,z.ext d.ext,λl=>E (K l),λj l=>A j (J j l),H⟩
theorem Z2.change(y:Z2 P fr free σ w G){k:Nat}{o':X1 Obj}
 (s:PC w G w' G')(W:∀j o,j≠k->σ j=some o->¬Bk G j o b)
 (Q:∀a,a<w.heap.size->a≠b->w'.heap[a]?=w.heap[a]?)(B:w.heap.size<=w'.heap.size)(Z:b<w'.heap.size)(I:fr.owned b)
 (K:∀a d,G'.im.cell a d->G.im.cell a d\/a=b)(L:∀a,G'.im.obj a->G.im.obj a\/a=b)
 (N:w'.os=w.os)(C:w'.tape=w.tape)(H:w'.output=w.output)
 (hk:∀o,o'=some o->V1 P fr w' G' k o/\∀a,Bk G' k o a->a=b\/∀j R,j≠k->σ j=some R->¬Bk G j R a)
 (p:∀j,free' j->j≠k/\free j/\G'.ety j=none/\G'.box j=none/\∀g,G'.val j g=none):
 Z2 P fr free' (EK σ [(k,o')]) w' G':=by
 have z:∀j,EK σ [(k,o')] j=if j=k then o' else σ j:=by
  intro j;simp only[EK];by_cases h:j=k
  .simp
  .simp
 have old:∀j o,j≠k->σ j=some o->V1 P fr w' G' j o:=by intro j o x D;have l:=y.objs j o D;refine l.keep s λa m=>?_;have A:a≠b:=λe=>W j o x D (e▸m);exact⟨Q a (LW l m) A,λd E=>(K a d E).resolve_right A,λM=>(L a M).resolve_right A⟩
 have O:∀j o,j≠k->σ j=some o->∀{b},Bk G' j o b<->Bk G j o b:=λj o x D=>H8 (y.objs j o D) s;refine⟨λj o D=>?_,λi j o o2 a hi x X Y=>?_,?_,λj x=>?_⟩
 .grind
 .rw[z]at hi x;by_cases l:i=k<;>by_cases J:j=k
  .rw[l,J]
  .grind
  .grind
  .rw[if_neg l]at hi;rw[if_neg J]at x;exact y.sep i j o o2 a hi x oc oc
 .refine y.after.trans (gv':=λa=>a=b) ⟨s.ext,λa m hn=>Q a m hn,B,λa d h=>(K a d h).imp id .inr,λa h=>(L a h).imp id .inr,?_,?_,N,C,H,y.after.pins.ext s.ext⟩ ?_
  .intro a d h;rcases K a d h with l|l
   .exact AQ (y.after.inC _ _ l) B
   omega
  .intro a h;rcases L a h with l|l
   .exact AQ (y.after.inO _ l) B
   omega
  .intro a h;subst h;exact I.symm
 .obtain⟨l,J,T,U,V⟩:=p j x;exact⟨by rw[z,if_neg l];exact(y.fresh j J).1,T,U,V⟩
def A2k(a:c.length=n)(h:∀j,j<n->w.cell? ⟨b,o+j,none⟩=c[j]?):
 (loadCells ⟨b,o,none⟩ n).run P w=.ok c.toArray w:=by
 grind[run_loadCells_list,MJ,List.getElem?_eq_some_iff]
def tS(h:w.cell? ⟨b,o,none⟩=some v):(load ⟨b,o,none⟩).run P w=.ok v w:=by simp_all
theorem ZC(a:Lay P t id):(isAgg id).run P w=.ok t.isAgg w:=by obtain⟨d,hd,h⟩:=a.isAgg;simp only[isAgg,Sem.run_bind,run_underlying hd,Result.andThen_ok];cases d<;>simp at h<;>simp[h]
theorem Lay.sz_one(a:Lay P t id)(h:t.isAgg=false):t.sz=1:=by cases t<;>first|rfl|(exfalso;simp[Ty.isAgg]at h;done)|(exfalso;simp[Lay,W5]at a;done)
def AGY(h:t.isAgg=false):KV t v [v]:=by cases t<;>first|rfl|(exfalso;simp[Ty.isAgg]at h;done)
def AGZ(h:t.isAgg=true):KV t (.agg c.toArray) c:=by cases t<;>first|rfl|(exfalso;simp[Ty.isAgg]at h;done)
theorem VY(l:Lay P t id){x:t.T}(d:∀j,j<t.sz->w.cell? ⟨b,o+j,none⟩=c[j]?)(a:Rel w I t x c):
 ∃v,(loadVar id ⟨b,o,none⟩).run P w=.ok v w/\Z4 w I t x v:=by
 obtain⟨i,hi,e⟩:=l.cells;simp only[loadVar,Sem.run_bind,ZC l,Result.andThen_ok];cases h:t.isAgg with
 |true=>refine⟨.agg c.toArray,?_,c,AGZ h,a⟩;simp only[if_true,Sem.run_bind,run_sizeOf w hi,e,Result.andThen_ok,A2k a.length d,Sem.run_pure]
 |false=>
  have p:=l.sz_one h;have m:c.length=1:=by rw[a.length,p]
  match c,m,d,a with
  |[v],_,d,a=>refine⟨v,?_,[v],AGY h,a⟩;simp_all
def AG_{cs:Array X2}{el:TypeId}{f:Nat×Nat}(h:w.heap[b]?=some (.cells cs el f))(o:Nat):w.cell? ⟨b,o,none⟩=cs.toList[o]?:=by simp[World.cell?,h]
def fC{cs:Array X2}{el:TypeId}(h:Q9 w b cs el):∀j,j<n->w.cell? ⟨b,o+j,none⟩=((cs.toList.drop o).take n)[j]?:=by intro j a;rw[h.cell,B0,if_pos a,B5]
def fD{cs:Array X2}{el:TypeId}{f:Nat×Nat}(h:w.heap[b]?=some (.cells cs el f)):∀j,j<n->w.cell? ⟨b,o+j,none⟩=((cs.toList.drop o).take n)[j]?:=by intro j a;rw[AG_ h,B0,if_pos a,B5]
def fE{p m:Nat}(h:p+m<=n):((((c.drop o).take n).drop p).take m)=(c.drop (o+p)).take m:=by rw[DD,DJ,D5,D1 oa]
theorem AGa(p:Lay P t id){x:t.T}(h:SR P w G (.ref t x) v):∃z,(Instr.loadAt id v).run P w=.ok z w/\SR P w G (.val t x) z:=by obtain⟨b,c,rfl,a,e,l⟩:=TO h;obtain⟨d,y,B⟩:=b;simp only at a;subst a;have⟨z,A,s⟩:=VY p (b:=d) (o:=y) (λj m=>(e.at_ j m).2) l;exact⟨z,by assumption,s⟩
theorem A2l(hl:Lay P t id)(ho:∀k o,σ k=some o->V1 P fr w G k o){s':SV}(d:loadAt σ t s=some s')(h:SR P w G s v):
 ∃z,(Instr.loadAt id v).run P w=.ok z w/\SR P w G s' z:=by
 have D:∀{a:Addr} {z:X2},(loadVar id a).run P w=.ok z w->(Instr.loadAt id (.pointer (some a))).run P w=.ok z w:=by intro a z m;simp only[Instr.loadAt,Sem.run_bind,Instr.sureAddr,Sem.run_pure,Result.andThen_ok];exact m
 unfold loadAt at d;split at d
 .rename_i u x;cases hc:OO u t x with
  |none=>rw[hc]at d;cases d
  |some y=>rw[hc]at d;cases d;obtain⟨ad,c,rfl,Q,K,R⟩:=TO h;obtain⟨bb,oo,sp⟩:=ad;simp only at Q;subst Q;have T:=eV hc R;have⟨z,m,M⟩:=VY hl (b:=bb) (o:=oo) (λj hj=>(K.at_ j (by rw[<-R.length,T.length];exact hj)).2) T;exact⟨z,D m,M⟩
 .rename_i k p u;split at d
  .rename_i u' c wr hk;obtain⟨b,t',o,Q,K,R,rfl⟩:=O5 h;have⟨b',cs,el,k1,U,N,k4,k5,_⟩:=ho _ _ hk;rw[Q]at k1;cases k1;cases H:c.l6 p with
   |none=>rw[H]at d;cases d
   |some s0=>
    rw[H]at d;have⟨o',u1,m1,m2,m3,m4,m5⟩:=YZ k4 k5 H;rw[K]at m1;cases m1;have E:∀{v1:X2},u1.sz=1->(cs.toList.drop o).take u1.sz=[v1]->t.isAgg=false->(loadVar id ⟨b,o,none⟩).run P w=.ok v1 w:=by intro v1 x3 x5 y1;simp only[loadVar,Sem.run_bind,ZC hl,Result.andThen_ok,y1,CJ,CE];refine tS ?_;have:=fD (n:=1) (o:=o) U 0 oa;rw[x3]at x5;rw[x5]at this;simpa using this
    split at d
    .rename_i j g C;cases C;obtain⟨v1,q1,q0,W⟩:=m5;have m:t.isAgg=false/\s'=.obj j g:=by
      split at d
      .exact⟨rfl,(A2 d).symm⟩
      .exact⟨rfl,(A2 d).symm⟩
      .cases d
     obtain⟨m,rfl⟩:=m;exact⟨v1,D (E m3 W m),AGF q1 q0⟩
    .rename_i j q X C;cases C;have y9:=m5;obtain⟨b2,t2,V,q1,W,q3,q4⟩:=m5;have m:t.isAgg=false/\s'=.ptr j q X:=by
      split at d
      .exact⟨rfl,(A2 d).symm⟩
      .cases d
     obtain⟨m,rfl⟩:=m;exact⟨_,D (E m3 q4 m),_,rfl,b2,t2,V,q1,W,q3,rfl⟩
    .rename_i e2 x2 C;cases C;obtain⟨q1,ad,n2,y4,W,q3⟩:=m5;have m:t.isAgg=false/\s'=.mns e2 x2:=by
      split at d
      .exact⟨rfl,(A2 d).symm⟩
      .cases d
     obtain⟨m,rfl⟩:=m;exact⟨_,D (E m3 W m),_,rfl,W▸q1,ad,n2,y4,rfl,q3⟩
    .rename_i f2 h8 C;cases C;obtain⟨y5,q1,W⟩:=m5;have m:t.isAgg=false/\s'=.fn f2 h8:=by
      split at d
      .exact⟨rfl,(A2 d).symm⟩
      .cases d
     obtain⟨m,rfl⟩:=m;exact⟨_,D (E m3 q1 m),_,rfl,y5,rfl,W⟩
    .rename_i s1 _ _ _ _ C;cases C;cases J:s0.asC σ t with
     |none=>rw[J]at d;cases d
     |some x=>
      rw[J]at d;cases d;have l:=YY ho J m5;have x3:t.sz=u1.sz:=by rw[<-l.length,m3.len m5]
      have⟨z,m,M⟩:=VY hl (b:=b) (o:=o) (λj hj=>fD U j oa) l;exact⟨z,D m,M⟩
    .rename_i C;cases C
  .cases d
 .rename_i k p i q u;split at d
  .rename_i u' c wr hk;obtain⟨b,t',o,n,e,V,Q,K,⟨u0,R,T⟩,Y,h5,h6,rfl⟩:=fB h;have⟨b',cs,el,k1,U,N,k4,k5,_⟩:=ho _ _ hk;rw[Q]at k1;cases k1;split at d
   .rename_i n' e' L H;have⟨o',u1,m1,m2,m3,m4,m5⟩:=YZ k4 k5 H;rw[K]at m1;cases m1;rw[R]at m2;cases m2;have he:Ty.arr n' e'=Ty.arr n e:=(show(Ty.arr n' e').bare=u0.bare from m3).trans T;cases he;split at d
    .rename_i X y hy;cases J:OO X t y with
     |none=>rw[J]at d;cases d
     |some x=>
      rw[J]at d;cases d;obtain⟨r1,r2,r3⟩:=m5;have hi:i<List.length (show KX e.T from L):=by rw[r1];exact Y
      have B:(show KX e.T from L)[i]?=some ((show KX e.T from L).getD i e.Q8):=by rw[AH,A1 hi];rfl
      have⟨oo,n1,n2,n3,O⟩:=eX (r3 i _ B) hy;rw[h5]at n1;cases n1;have x1:(i+1)*e.sz<=n*e.sz:=AN _ Y;rw[C6]at x1;have x4:u0.sz=n*e.sz:=by rw[<-Ty.PD,T];rfl
      rw[fE n3,fE (by rw[x4];omega),<-CW]at O;have l:=eV J O;have⟨z,m,M⟩:=VY hl (b:=b) (o:=o+i*e.sz+V) (λj hj=>fD U j (by have:=l.length.symm.trans O.length;omega)) l;exact⟨z,D m,M⟩
    .cases d
   .cases d
  .cases d
 .rename_i k g i q u;split at d
  .rename_i el e L g' hk;cases H:Nat.beq g g' with
   |false=>rw[H]at d;cases d
   |true=>
    rw[H]at d;simp only[A4]at d;have:=A5 H;subst this;obtain⟨b,o1,len,cap,e',V,Q,K,R,Y,h5,rfl⟩:=S6 h;have⟨A,v',k1,U⟩:=ho _ _ hk;rw[Q]at k1;cases k1;rw[A]at K;cases K;rcases U with⟨I,_⟩|⟨b',h7,cs,I,r1,r2,r3,r4,_⟩
    .cases I
    .cases I;rw[BH];split at d
     .rename_i X y hy;cases J:OO X t y with
      |none=>rw[J]at d;cases d
      |some x=>
       rw[J]at d;cases d;have B:L[i]?=some (L.getD i e.Q8):=by rw[AH,A1 R];rfl
       have⟨oo,n1,n2,n3,O⟩:=eX (r4 i _ B) hy;rw[Y]at n1;cases n1;rw[fE n3]at O;have l:=eV J O;have⟨z,m,M⟩:=VY hl (b:=b) (o:=i*e.sz+V) (λj hj=>fC r2 j (by have:=l.length.symm.trans O.length;omega)) l;exact⟨z,D m,M⟩
     .cases d
  .rename_i y7 e L gk hk;cases H:Nat.beq g 0 with
   |false=>rw[H]at d;cases d
   |true=>
    rw[H]at d;simp only[A4]at d;have:=A5 H;subst this;obtain⟨b,o1,len,cap,e',V,Q,K,R,Y,h5,rfl⟩:=S6 h;have⟨h0,A,v',us,bs,k1,_,_,_,v2,U,_,N⟩:=RA.inv (ho _ _ hk);have M:v'=v2:=(AB.1 U);subst M;rw[Q]at k1;cases k1;have A:G.ety k=some e:=A;rw[A]at K;cases K;rcases N with⟨N,_⟩|⟨_,N,_⟩|⟨_,b',o',h7,cells,bss,I,r1,r2,r3,r4,r5,r6,r7,r8,r9⟩
    .exact absurd N h0
    .cases N
    .cases I;split at d
     .rename_i X y hy;cases J:OO X t y with
      |none=>rw[J]at d;cases d
      |some x=>
       rw[J]at d;cases d;have B:∀(ys:KX e.T),i<ys.length->ys[i]?=some (ys.getD i e.Q8):=λys h=>by rw[AH,A1 h];rfl
       have⟨oo,n1,n2,n3,O⟩:=eX (r9 i _ (B L R)).2 hy;rw[Y]at n1;cases n1;have n3:V+X.sz<=e.sz:=n3;have O:Rel w G.im X y ((((cells.toList.drop (o1+i*e.sz)).take e.sz).drop V).take X.sz):=O;rw[fE n3]at O;have l:=eV J O;have⟨z,m,M⟩:=VY hl (b:=b) (o:=o1+i*e.sz+V) (λj hj=>fC r2 j (by have:=l.length.symm.trans O.length;omega)) l;exact⟨z,D m,M⟩
     .cases d
  .rename_i y8 y3 rr e L gk hh hk;split at d
   .rename_i y6;cases H:Nat.beq g 0 with
    |false=>rw[H]at d;cases d
    |true=>
     rw[H]at d;cases d;have:=A5 H;subst this;obtain⟨b,o1,len,cap,e',V,Q,K,R,Y,h5,rfl⟩:=S6 h;have⟨h0,A,v',us,bs,k1,_,_,_,v2,U,_,N⟩:=RA.inv (ho _ _ hk);have M:v'=v2:=(AB.1 U);subst M;rw[Q]at k1;cases k1;rw[A]at K;cases K;have y0:(E5 (y3::rr) e).off []=some 0:=rfl;rw[y0]at Y;cases Y;rcases N with⟨N,_⟩|⟨_,N,_⟩|⟨_,b',o',h7,cells,bss,I,r1,r2,r3,r4,r5,r6,r7,r8,r9⟩
     .exact absurd N h0
     .cases N
     .cases I;have x0:∀(ys:KX (KX (E5 rr e).T)),i<ys.length->ys[i]?=some (ys.getD i []):=λys h=>by rw[AH,A1 h];rfl
      have B:(show KX (KX (E5 rr e).T)from L)[i]?=some ((show KX (KX (E5 rr e).T)from L).getD i []):=x0 L R;have⟨a,cp,q1,W⟩:=DV.head (r9 i _ B);have h9:w.cell? ⟨b,o1+i*1+0,none⟩=some (.slice a ((show KX (KX (E5 rr e).T)from L).getD i []).length cp):=by
       have hq:(cells.toList.drop (o1+i*1)).take 1=[.slice a ((show KX (KX (E5 rr e).T)from L).getD i []).length cp]:=q1;have Z:o1+i*1<cells.toList.length:=by
        rcases Nat.lt_or_ge (o1+i*1) cells.toList.length with Z|y2
        .exact Z
        .rw[List.drop_eq_nil_of_le y2]at hq;cases hq
       rw[BL Z]at hq;simp only[List.take_succ_cons,List.take_zero,List.cons.injEq,and_true]at hq;rw[r2.cell,CG,A1 Z,hq]
      refine⟨_,D ?_,_,rfl,a,cp,rfl,W⟩;simp only[loadVar,Sem.run_bind,ZC hl,Result.andThen_ok,Ty.isAgg,CJ,CE];exact tS h9
   .cases d
  .cases d
 .cases d
end
def N2(h:o+ds.length<=cs.length)(q:Nat):(F3 cs o ds)[q]?=if o<=q/\q<o+ds.length then ds[q-o]? else cs[q]?:=by unfold F3;grind
def A2m{a:Nat}(h:a+n<=cs.length)(e:o+ds.length<=n):
 ((F3 cs (a+o) ds).drop a).take n=F3 ((cs.drop a).take n) o ds:=by
 apply BN;intro q;have d:((cs.drop a).take n).length=n:=ot;rw[N2 oa,B0];by_cases b:q<n
 .rw[if_pos b,B5,N2 oa];grind
 grind
def A2n{a:Nat}(h:o+ds.length<=cs.length)(d:a+n<=o\/o+ds.length<=a):
 ((F3 cs o ds).drop a).take n=(cs.drop a).take n:=by
 apply BN;intro q;rw[B0,B0];by_cases b:q<n
 .rw[if_pos b,if_pos b,B5,B5,N2 h,if_neg oa]
 grind
def AGb{p m:Nat}(h:o+m<=cs.length)(e:p+ds.length<=m):
 F3 cs o (F3 ((cs.drop o).take m) p ds)=F3 cs (o+p) ds:=by
 have d:((cs.drop o).take m).length=m:=ot;have a:(F3 ((cs.drop o).take m) p ds).length=m:=by rw[MI oa,d]
 apply BN;intro q;rw[N2 oa,a];by_cases b:o<=q/\q<o+m
 .rw[if_pos b,N2 oa,N2 oa];grind
 .rw[if_neg b,N2 oa,if_neg oa]
section
variable{P:Program}{fr:Fr}{free free':Nat->Prop}{self:Nat}{σ σ':W4}{w w':X4}{G G':Gh}
theorem Rel.RB:∀{t:Ty} {x:t.T} {cs:KX X2},Rel w I t x cs->∀v∈cs,v.oneCell'=true:=by
 intro t;induction t with
 |unit=>intro x cs h v j;rw[show cs=[]from h]at j;cases j
 |bool=>intro x cs h v j;rw[show cs=[_]from h]at j;simp at j;subst j;rfl
 |int k=>intro x cs h v j;rw[show cs=[_]from h.1]at j;simp at j;subst j;rfl
 |str=>intro x cs h v j;rw[show cs=[_]from h.1]at j;simp at j;subst j;rfl
 |slice s A=>intro x cs h v j;obtain⟨a,cap,l,_⟩:=h;rw[l]at j;simp at j;subst j;rfl
 |agg s A=>intro x cs h;exact A (show Rel w I s x cs from h)
 |prod a b E G=>
  intro x cs h v j;obtain⟨c,d,l,m,B⟩:=h;rw[l]at j;rcases AX.1 j with h|h
  .exact E m v h
  .exact G B v h
 |arr n s A=>
  intro x cs h v j;obtain⟨l,m,B⟩:=h;have⟨q,J⟩:=BR j;have p:q<cs.length:=(A3.1 J).1;have D:0<s.sz:=by
   rcases DI s.sz with h|h
   .rw[m,h,Nat.mul_zero]at p;omega
   .exact h
  have hi:q / s.sz<List.length (show KX s.T from x):=by rw[l];exact Nat.div_lt_of_lt_mul (by rw[D0,<-m];exact p)
  have L:=B (q / s.sz) _ (A1 hi);refine A L v ?_;have C:=Nat.div_add_mod q s.sz;have K:=Nat.mod_lt q D;have:((cs.drop (q / s.sz*s.sz)).take s.sz)[q % s.sz]?=some v:=by rw[B0,if_pos K,B5,D0,C];exact J
  exact AE this
 |ptr s A=>
  intro x cs h v j;cases x with
  |none=>rw[show cs=[_]from h]at j;simp at j;subst j;rfl
  |some y=>obtain⟨R,l,_⟩:=h;rw[l]at j;simp at j;subst j;rfl
 |map k e M O=>intro x cs h v j;obtain⟨_,_,r,l,_⟩:=h;rw[l]at j;simp at j;subst j;rfl
 |inil=>intro x cs h v j;rw[show cs=[_]from h]at j;simp at j;subst j;rfl
 |self=>intro x cs h v j;rw[show cs=[_]from h]at j;simp at j;subst j;rfl
 |opq=>intro x cs h v j;obtain⟨Q,l,m⟩:=h;rw[l]at j;simp at j;subst j;exact m
 |hV d c _ _=>
  intro x cs h v j;cases x with
  |none=>rw[show cs=[_]from h]at j;simp at j;subst j;rfl
  |some F=>obtain⟨f,vs,l,_⟩:=h;rw[l]at j;simp at j;subst j;rfl
 |ialt id t r N H=>
  intro x cs h v j;cases x with
  |inl y=>obtain⟨Q,c,l,_⟩:=h;rw[l]at j;simp at j;subst j;rfl
  |inr z=>exact H h.2 v j
def fF(h:v.oneCell'=true):v.cells= #[v]:=by cases v<;>first|rfl|(simp[Value.oneCell']at h)
def Z4.cells{x:t.T}(h:Z4 w I t x v):Rel w I t x v.cells.toList:=by
 obtain⟨c,b,a⟩:=h;have d:v=.agg c.toArray->Rel w I t x v.cells.toList:=by intro e;rw[e];exact a
 have pl:c=[v]->Rel w I t x v.cells.toList:=by intro e;subst e;rw[fF (a.RB v oh)];exact a
 cases t<;>first|exact d b|exact pl b
def SR.one(h:SR P w G s v)(d:∀u y,s≠.val u y):CR P w G s [v]:=by
 obtain⟨c,a,b⟩:=h;have:c=[v]:=by cases s<;>first|exact a|grind
 grind
theorem Fit.of_bare0(h:Fit s t)(e:u.bare=t.bare):Fit s u:=by
 have d:u.sz=t.sz:=by rw[<-Ty.PD,e,Ty.PD]
 cases s<;>first|exact(show _=_ from h).trans e.symm|exact d.trans h|(obtain⟨x,y,a,b⟩:=h;exact⟨x,y,e.trans a,b⟩)|exact absurd h id
def AGc{p:SV}(d:VJ t s=some p)(h:SR P w G s v):
 Fit p t/\CR P w G p v.cells.toList/\∀x∈v.cells.toList,x.oneCell'=true:=by
 have e:∀{s:SV},(t.sz=1->Fit s t)->t.sz=1->CR P w G s [v]->v.oneCell'=true->Fit s t/\CR P w G s v.cells.toList/\∀x∈v.cells.toList,x.oneCell'=true:=by intro s a J b c;rw[fF c];exact⟨a J,b,by simpa using c⟩
 have N:∀{s:SV},(SV.as t s).map (SV.val t ·)=some p->SR P w G s v->Fit p t/\CR P w G p v.cells.toList/\∀x∈v.cells.toList,x.oneCell'=true:=by
  intro s z y;cases I:SV.as t s with
  |none=>grind
  |some x=>rw[I]at z;cases z;have:=(KW I y).cells;exact⟨rfl,this,this.RB⟩
 unfold VJ at d;split at d
 .have j:=h.one oh;have H:=tP h;split at d
  .cases d;exact e (λh=>h) rfl j H
  .cases d;exact e (λh=>h) rfl j H
  .cases d
 .have j:=h.one oh;have⟨b,O,o,_,_,_,l⟩:=O5 h;split at d
  .cases d;exact e (λh=>h) rfl j (by rw[l];rfl)
  .cases d
 .rename_i u c;cases E:u.same t with
  |false=>grind
  |true=>rw[E]at d;have d:=A2 d;subst d;have:=Ty.Z7 E;subst this;obtain⟨cc,D,C,z,y,L,M⟩:=h;have l:v=.agg C.toArray:=AB.1 ((show cc=[v]from D).symm.trans z);subst l;obtain⟨a,b,rfl,y⟩:=y;exact⟨y.of_bare0 rfl,M,L⟩
 .have j:=h.one oh;obtain⟨vs,A,B⟩:=j;have l:v=_:=AB.1 A;split at d
  .cases d;exact e (λh=>h) rfl ⟨vs,A,B⟩ (by rw[l];rfl)
  .cases d
 .have j:=h.one oh;obtain⟨A,K,n,m,B⟩:=j;have l:v=_:=AB.1 B;split at d
  .cases d;exact e (λh=>h) rfl ⟨A,K,n,m,B⟩ (by rw[l];rfl)
  .cases d
 .have j:=h.one oh;have l:v=.slice none 0 0:=AB.1 (show [v]=[Value.slice none 0 0]from j);split at d
  .cases d;exact e (λh=>h) rfl j (by rw[l];rfl)
  .cases d
 .exact N d h
theorem Fit.of_bare(h:Fit s t)(e:u.bare=t.bare):Fit s u:=by
 have d:u.sz=t.sz:=by rw[<-Ty.PD,e,Ty.PD]
 cases s<;>first|exact(show _=_ from h).trans e.symm|exact d.trans h|(obtain⟨x,y,a,b⟩:=h;exact⟨x,y,e.trans a,b⟩)|exact absurd h id
def AGd:∀{c:SV} {t:Ty} {cs:KX X2},Fit c t->CR P w G c cs->∀x∈cs,x.oneCell'=true:=by
 intro c;induction c with
 |val u y=>intro t cs _ l;exact(show Rel w G.im u y cs from l).RB
 |pr a b A B=>intro t cs s l x j;obtain⟨_,_,_,E,H⟩:=s;obtain⟨c,d,rfl,I,J⟩:=l;grind
 |obj k g=>intro t cs _ l x j;obtain⟨v,_,D,rfl⟩:=l;grind
 |ptr k p u=>intro t cs _ l x j;obtain⟨b,C,o,_,_,_,rfl⟩:=l;simp at j;rw[j];rfl
 |nilS=>intro t cs _ l x j;rw[show cs=_ from l]at j;simp at j;rw[j];rfl
 |slf k=>intro t cs _ l x j;obtain⟨b,C,_,h⟩:=l;rcases h with rfl|rfl<;>(simp at j;rw[j];rfl)
 |fn f c=>intro t cs _ l x j;obtain⟨vs,rfl,_⟩:=l;simp at j;rw[j];rfl
 |hof d c F=>intro t cs _ l x j;obtain⟨f,vs,rfl,_⟩:=l;simp at j;rw[j];rfl
 |nns e y=>intro t cs _ l x j;obtain⟨_,z,n,m,rfl⟩:=l;simp at j;rw[j];rfl
 |mns e y=>intro t cs _ l x j;obtain⟨_,z,n,m,rfl,_⟩:=l;simp at j;rw[j];rfl
 |_=>intro t cs s;exact absurd s (by simp[Fit])
theorem A2o(H:Lay P t id)(T:∀k o,σ k=some o->V1 P fr w G k o){L:SV}(d:VK σ t s=some L)(h:SR P w G s v):
 ∃z,(Instr.loadAt id v).run P w=.ok z w/\SR P w G L z:=by
 unfold VK at d;split at d
 .rename_i k p u;split at d
  .rename_i a b;cases E:u.bare.same (.prod a b)with
   |false=>grind
   |true=>
    rw[E]at d;simp only[A4]at d;have D:=Ty.Z7 E;split at d
    .rename_i u' c wr hk;split at d
     .rename_i s0 R;have d:=A2 d;subst d;obtain⟨bl,t',o,M,N,⟨m,O,e⟩,rfl⟩:=O5 h;have⟨X,cs,el,k1,U,Z,V,W,_⟩:=T _ _ hk;rw[M]at k1;cases k1;have⟨o',u1,J,K,B,m4,C⟩:=YZ V W R;rw[N]at J;cases J;rw[O]at K;cases K;have Q:Fit s0 (.prod a b):=B.of_bare0 (D.symm.trans e.symm);have A:m.sz=(Ty.agg (.prod a b)).sz:=by rw[<-Ty.PD m,e,D];rfl
      obtain⟨i,hi,y⟩:=H.cells;have l:((cs.toList.drop o).take m.sz).length=(Ty.agg (.prod a b)).sz:=by rw[B.len C,A]
      have I:(loadVar id ⟨bl,o,none⟩).run P w=.ok (.agg ((cs.toList.drop o).take m.sz).toArray) w:=by
       have x:(Ty.agg (.prod a b)).isAgg=true:=rfl
       simp only [loadVar,Sem.run_bind,ZC H,Result.andThen_ok,x,if_true,run_sizeOf w hi,y,
        A2k l (λj Y=>fD U j oa),Sem.run_pure]
      refine⟨_,?_,_,rfl,_,rfl,⟨a,b,rfl,Q⟩,AGd B C,C⟩;assumption
     .cases d
    .cases d
  .cases d
 .cases d
def Ext.of_heap(j:∀a,a≠b->w'.heap[a]?=w.heap[a]?)(l:∀o,¬I.cell b o)(d:¬I.obj b):Ext w I w' I:=
 ⟨λa o h=>⟨h,by grind[World.cell?]⟩,λa h=>⟨h,j a (λe=>d (e▸h))⟩⟩
def PC.of_heap(j:∀a,a≠b->w'.heap[a]?=w.heap[a]?)(d:∀o,¬G.im.cell b o)(e:¬G.im.obj b):PC w G w' G:=
 ⟨Ext.of_heap j d e,λ_ _ _ h=>h,λ_ _ h=>h,λ_ _ h=>h⟩
theorem fG(P:Program)(g o:Nat)(t:TypeId)(fz:Nat×Nat):∀(vs:KX X2) (i:Nat) (a:Array X2) (w:X4),w.heap[g]?=some (.cells a t fz)->(fz.2<=fz.1\/a.size<=fz.1)->o+i+vs.length<=a.size->(∀v∈vs,v.oneCell'=true)->
 (storeCells ⟨g,o,none⟩ vs i).run P w=.ok () (w.setRow g (a.toList.take (o+i)++vs++a.toList.drop (o+i+vs.length)).toArray)
 |[],i,a,w,hg,_,_,_=>by simp only[storeCells,CX,C8,CG,List.take_append_drop,Array.toArray_toList];rw[setRow_self w g a t fz hg];rfl
 |v::rest,i,a,w,hg,hfz,hl,h1=>by
  have hi:o+i<a.size:=by simp at hl;omega
  have b:(⟨g,o,none⟩:Addr).add i=⟨g,o+i,none⟩:=by unfold Addr.add;split<;>simp_all
  have h:w.cell? ⟨g,o+i,none⟩=some a[o+i]:=by simp[World.cell?,hg,hi]
  have d:w.frozen? ⟨g,o+i,none⟩=false:=by obtain⟨lo,l⟩:=fz;simp only[World.frozen?,hg,DC,CZ];simp only at hfz;omega
  have j:(store ((⟨g,o,none⟩:Addr).add i) v).run P w=.ok () (w.setRow g (a.setIfInBounds (o+i) v)):=by rw[b,run_store P w _ v _ (h1 v oh),h];simp[d,setCell_eq_setRow w g (o+i) a t fz v hg]
  have p:=fG P g o t fz rest (i+1) (a.setIfInBounds (o+i) v) (w.setRow g (a.setIfInBounds (o+i) v)) (setRow_heap w g a _ t _ hg) (by simpa using hfz) oc (λx m=>h1 x (by simp[m]));simp only[storeCells,Sem.run_bind,j,Result.andThen_ok,p,setRow_setRow];congr 3;have e:=list_seg_step a.toList (o+i) v rest oa;grind
def Q9.set{cs new:Array X2}{el:TypeId}(h:Q9 w b cs el)(e:new.size=cs.size):Q9 (w.setRow b new) b new el:=by obtain⟨fz,a,d⟩:=h;exact⟨fz,setRow_heap w b cs new el fz a,by rw[e];exact d⟩
theorem tT(l:Lay P t id){cs:Array X2}{el:TypeId}(a:Q9 w b cs el)
 (h:v.cells.toList.length=t.sz)(p:∀x∈v.cells.toList,x.oneCell'=true)(d:o+t.sz<=cs.size):
 (storeVar id ⟨b,o,none⟩ v).run P w=.ok () (w.setRow b (F3 cs.toList o v.cells.toList).toArray):=by
 obtain⟨i,hi,e⟩:=l.cells;obtain⟨fz,a,j⟩:=a;have m:v.cells.size=t.sz:=by rw[<-h];simp
 simp only[storeVar,Sem.run_bind,run_sizeOf w hi,e,Result.andThen_ok];rw[if_neg (by simp[m])];grind[fG,F3]
theorem A2p(e:Lay P t id){cs:Array X2}{el:TypeId}(m:w.heap[b]?=some (.cells cs el (0,0)))
 (h:v.cells.toList.length=t.sz)(l:∀x∈v.cells.toList,x.oneCell'=true)(a:o+t.sz<=cs.size):
 (storeVar id ⟨b,o,none⟩ v).run P w=.ok () (w.setRow b (F3 cs.toList o v.cells.toList).toArray):=by
 obtain⟨i,hi,d⟩:=e.cells;have j:v.cells.size=t.sz:=by rw[<-h];simp
 simp only[storeVar,Sem.run_bind,run_sizeOf w hi,d,Result.andThen_ok];rw[if_neg (by simp[j])];grind[run_storeCells_at,F3]
def Z2.set(z:Z2 P fr free σ w G){k:Nat}{o o':Obj}{cs new:Array X2}{el:TypeId}(hk:σ k=some o)(x:Bk G k o b)
 {fz:Nat×Nat}(B:w.heap[b]?=some (.cells cs el fz))(D:∀o,¬G.im.cell b o)(E:¬G.im.obj b)(m:fr.owned b)
 (l:(w.setRow b new).heap[b]?=some (.cells new el fz)->PC w G (w.setRow b new) G->V1 P fr (w.setRow b new) G k o'/\∀a,Bk G k o' a->a=b):
 PC w G (w.setRow b new) G/\Z2 P fr (JH free self) (EK σ [(k,some o')]) (w.setRow b new) G:=by
 have C:∀a,a≠b->(w.setRow b new).heap[a]?=w.heap[a]?:=λa h=>setRow_other w b a new h;have d:PC w G (w.setRow b new) G:=PC.of_heap C D E;have⟨I,J⟩:=l (setRow_heap w b cs new el fz B) d;refine⟨d,z.change (b:=b) d ?_ (λa _ h=>C a h) oh (by simpa using O7 B) m (λ_ _ h=>.inl h) (λ_ h=>.inl h) rfl rfl rfl ?_ ?_⟩
 .intro j H p A s;exact p (z.sep j k H o b A hk s x)
 .grind
 .intro j p;have y:=z.fresh j p.1;refine⟨λe=>?_,p.1,y.2.1,y.2.2.1,y.2.2.2⟩;grind
def fH{xs:KX e.T}{o2:Nat}{z:e.T}(s:xs.length*e.sz<=c.length)
 (h:∀j y,xs[j]?=some y->Rel w I e y ((c.drop (j*e.sz)).take e.sz))(hi:i<xs.length)
 (p:Rel w I e z (F3 ((c.drop (i*e.sz)).take e.sz) o2 ds))(m:o2+ds.length<=e.sz):
 ∀j y,(xs.set i z)[j]?=some y->Rel w I e y (((F3 c (i*e.sz+o2) ds).drop (j*e.sz)).take e.sz):=by
 intro j y l;have d:(i+1)*e.sz<=xs.length*e.sz:=AN _ hi;rw[C6]at d;by_cases a:j=i
 .subst a;rw[BY hi]at l;cases l;rw[A2m oa m];exact p
 .rw[C4 (λe=>a e.symm)]at l;rw[A2n oa]
  .exact h j y l
  .rcases Nat.lt_or_gt_of_ne a with b|b
   .left;have:(j+1)*e.sz<=i*e.sz:=AN _ b;grind
   .right;have:(i+1)*e.sz<=j*e.sz:=AN _ b;grind
def getD_some{xs:KX α}{d:α}(h:i<xs.length):xs[i]?=some (xs.getD i d):=by grind
def A2q{a:Nat}(h:a+o+ds.length<=cs.length):(F3 cs (a+o) ds).drop a=F3 (cs.drop a) o ds:=by apply BN;intro q;rw[B5,N2 oa,N2 ot,B5];grind
def AGe(h:∀i,i<bss.length->bss.getD i []=[]):bss.flatten=[]:=by apply List.flatten_eq_nil_iff.2;intro l a;have⟨i,hi⟩:=BR a;grind
theorem DV.leaf{xs:KX t.T}(h:DV ow w I t [id] xs none [v] bs){len:Nat}(p:v=.slice (some ⟨b,o,none⟩) len cap):
 ∃cells,len=xs.length/\IZ xs.length cap/\Q9 w b cells id/\o+cap*t.sz<=cells.size/\ow b/\(∀c,¬I.cell b c)/\¬I.obj b/\bs=[b]/\
  ∀i x,xs[i]?=some x->Rel w I t x ((cells.toList.drop (o+i*t.sz)).take t.sz):=by
 obtain⟨G,h0,J,a⟩:=h;have e:v=G:=AB.1 h0;subst e;rcases a with⟨a,_⟩|⟨_,a,_⟩|⟨_,H,K,j,cells,bss,l,y,z,A,B,C,D,L,E,m⟩
 .cases a
 .grind
 .rw[p]at l;cases l;have d:bss.flatten=[]:=AGe λi hi=>(m i _ (A1 oa)).1;exact⟨cells,rfl,y,z,A,B,C,D,by rw[E,d],λi x s=>(m i x s).2⟩
theorem A2r(n:Nat):(List.replicate n ([]:KX Nat)).flatten=[]:=by simp
theorem DV.mkleaf{xs:KX t.T}{cells:Array X2}(d:IZ xs.length cap)(e:Q9 w b cells id)(j:o+cap*t.sz<=cells.size)(l:ow b)
 (m:∀c,¬I.cell b c)(p:¬I.obj b)(s:∀i x,xs[i]?=some x->Rel w I t x ((cells.toList.drop (o+i*t.sz)).take t.sz)):DV ow w I t [id] xs none [.slice (some ⟨b,o,none⟩) xs.length cap] [b]:=by
 refine⟨_,rfl,rfl,.inr (.inr ⟨qu,b,o,cap,cells,List.replicate xs.length [],rfl,d,e,j,l,m,p,BA,by rw[A2r],λi x a=>⟨?_,s i x a⟩⟩)⟩;grind
def AGf{xs:KX e.T}{o1 o2:Nat}{z:e.T}(l:o1+xs.length*e.sz<=c.length)
 (h:∀j y,xs[j]?=some y->Rel w I e y ((c.drop (o1+j*e.sz)).take e.sz))(hi:i<xs.length)
 (m:Rel w I e z (F3 ((c.drop (o1+i*e.sz)).take e.sz) o2 ds))(d:o2+ds.length<=e.sz):
 ∀j y,(xs.set i z)[j]?=some y->Rel w I e y (((F3 c (o1+i*e.sz+o2) ds).drop (o1+j*e.sz)).take e.sz):=by
 intro j y b;have a:(i+1)*e.sz<=xs.length*e.sz:=AN _ hi;rw[C6]at a;have:=fH (c:=c.drop o1) (ds:=ds) (i:=i) (o2:=o2) (z:=z) (w:=w) (I:=I) (xs:=xs) ot (λj y b=>by simp_all) hi (by simp_all) d j y b;rw[<-A2q oa,D5,<-CW]at this;exact this
theorem AGg(hl:Lay P t id)(M:Z2 P fr free σ w G)(O:∀k o,σ' k=some o->σ k=some o){k d E:Nat}{xs:KX e.T}{q:KX X5}{vp:X2}{y:t.T}{z:e.T}
 (hk:σ k=some (.dp [d] e xs E none true))(hy:s.asV σ' t=some y)(hz:Ty.put e q (xs.getD i e.Q8) t y=some z)(hp:SR P w G (.elem k 0 i q u) vp)(hv:SR P w G s v):
 ∃w',(Instr.storeAt id vp v).run P w=.ok () w'/\PC w G w' G/\Z2 P fr (JH free self) (EK σ [(k,some (.dp [d] e (xs.set i z) E none true))]) w' G:=by
 have W:∀{a:Addr} {w':X4},(storeVar id a v).run P w=.ok () w'->(Instr.storeAt id (.pointer (some a)) v).run P w=.ok () w':=by intro a w' h;simp only[Instr.storeAt,Sem.run_bind,Instr.sureAddr,Sem.run_pure,Result.andThen_ok];exact h
 have ho:∀k o,σ' k=some o->V1 P fr w G k o:=λk o h=>M.objs k o (O k o h);obtain⟨b,m,len,cap,e',H,X,Y,J,h4,h5,rfl⟩:=S6 hp;have⟨h0,j,v',us,bs,k1,R,T,k6,Q⟩:=RA.inv (M.objs _ _ hk);have D:=k1;rw[X]at D;cases D;have j:G.ety k=some e:=j;rw[j]at Y;cases Y;have Q:DV fr.owned w G.im e [d] xs none [.slice (some ⟨b,m,none⟩) len cap] bs:=Q;obtain⟨cs,rfl,r1,U,r3,r4,r5,r6,rfl,r9⟩:=Q.leaf rfl;have p:=(KD ho hy hv).cells;have⟨z1,z2,z3⟩:=eY (r9 i _ (getD_some J)) hz h4 p;have l:=p.length;have C:(i+1)*e.sz<=xs.length*e.sz:=AN _ J;rw[C6]at C;have Z:xs.length*e.sz<=cap*e.sz:=AN _ r1.1;have h6:cs.toList.length=cs.size:=BD;have K:m+xs.length*e.sz<=cs.toList.length:=oa;have B:m+i*e.sz+H+v.cells.toList.length<=cs.toList.length:=by rw[l];omega
 have⟨fz,V,_⟩:=(show Q9 w b cs d from U);have A:∀I,Bk G k (.dp [d] e (xs.set i z) E none true) I->I=b:=by rintro I ⟨_,h7,hu,x⟩;rw[R]at hu;cases hu;rw[N1 T]at x;simpa using x
 obtain ⟨q1,q2⟩:=M.set (self:=self) (new:=(F3 cs.toList (m+i*e.sz+H) v.cells.toList).toArray) (o':=.dp [d] e (xs.set i z) E none true) (b:=b) hk ⟨rfl,us,R,(N1 T).2 AF⟩ V r5 r6 r4 (λhh L =>
  ⟨⟨h0,j,_,us,_,X,R,T,k6,by
   have:=DV.mkleaf (ow:=fr.owned) (w:=w.setRow b (F3 cs.toList (m+i*e.sz+H) v.cells.toList).toArray) (I:=G.im) (id:=d) (b:=b) (o:=m) (cap:=cap) (xs:=xs.set i z) (cells:=(F3 cs.toList (m+i*e.sz+H) v.cells.toList).toArray)
    oc (U.set (by rw[B9,MI B];simp)) (by grind[List.size_toArray,MI]) r4 r5 r6
    (λj' y' N=>by have:=AGf (o1:=m) K r9 J z3 oa j' y' N;simpa using Rel.ext L.ext this)
   rw[B4]at this;exact⟨this,trivial⟩⟩,A⟩)
 exact⟨_,W (tT hl U l p.RB oa),q1,q2⟩
theorem AGh(hl:Lay P t id)(Y:Z2 P fr free σ w G)(x:∀k o,σ' k=some o->σ k=some o){sp:SV}{vp:X2}{k:Nat}{o':Obj}
 (d:storeAt σ' t s sp=some (k,o'))(hp:SR P w G sp vp)(hv:SR P w G s v):
 ∃w',(Instr.storeAt id vp v).run P w=.ok () w'/\PC w G w' G/\Z2 P fr (JH free self) (EK σ [(k,some o')]) w' G:=by
 have h9:∀{a:Addr} {w':X4},(storeVar id a v).run P w=.ok () w'->(Instr.storeAt id (.pointer (some a)) v).run P w=.ok () w':=by intro a w' h;simp only[Instr.storeAt,Sem.run_bind,Instr.sureAddr,Sem.run_pure,Result.andThen_ok];exact h
 have ho:∀k o,σ' k=some o->V1 P fr w G k o:=λk o h=>Y.objs k o (x k o h);unfold storeAt at d;split at d
 .rename_i j p u;split at d
  .rename_i x3;split at d
   .rename_i bt c hk;split at d
    .rename_i s1 x2;cases C:c.setAt p s1 with
     |none=>grind
     |some c'=>
      rw[C]at d;cases d;obtain⟨b,t',o,B,K,⟨u1,I,R⟩,rfl⟩:=O5 hp;have Z:=ho _ _ hk;obtain⟨b',cs,el,k1,T,k3,k4,k5,k6,k7,k8⟩:=Z;rw[B]at k1;cases k1;have⟨f1,f2,f3⟩:=AGc x2 hv;have h7:u1.bare=t.bare:=R.trans (Ty.Z7 x3);have x0:=f1.of_bare h7;have⟨m1,m2,m3⟩:=tL k4 k5 C K I x0 f2;have l:v.cells.toList.length=t.sz:=f1.len f2;have y1:u1.sz=t.sz:=by rw[<-Ty.PD,h7,Ty.PD]
      obtain ⟨q1,q2⟩:=Y.set (self:=self) (new:=(F3 cs.toList o v.cells.toList).toArray) (o':=.box bt c' true) (x _ _ hk) (by simp [Bk,B]) T (k6.1 rfl) k7 k8.1 (λhh D =>⟨⟨b,_,el,B,hh,by grind[MI],m1,by simpa using m3.mono D,k6,k7,k8⟩,by grind[Bk]⟩);grind[A2p]
    .cases d
   .cases d
  .cases d
 .rename_i j p i q u;split at d
  .rename_i bt c hk;split at d
   .rename_i n' U A M;split at d
    .rename_i y hy;split at d
     .rename_i z hz;cases C:A2J c p n' U A i z with
      |none=>grind
      |some c'=>
       rw[C]at d;cases d;obtain⟨b,t',o,n,e,o2,B,K,⟨Q,I,L⟩,R,h5,h6,rfl⟩:=fB hp;have⟨b',cs,el,k1,T,k3,k4,k5,k6,k7,k8⟩:=ho _ _ hk;rw[B]at k1;cases k1;have⟨o',u1,m1,m2,m3,m4,m5⟩:=YZ k4 k5 M;rw[K]at m1;cases m1;rw[I]at m2;cases m2;have he:Ty.arr n' U=Ty.arr n e:=(show(Ty.arr n' U).bare=Q.bare from m3).trans L;have x1:n=n'/\e=U:=by injection he with a b;exact⟨a.symm,b.symm⟩
       obtain⟨rfl,rfl⟩:=x1;have y2:Q.sz=n*e.sz:=by rw[<-Ty.PD,L];rfl
       obtain⟨r1,r2,r3⟩:=m5;have h8:A.length=n:=r1;have hi:i<A.length:=by rw[h8];exact R
       have m:=(KW hy hv).cells;have⟨z1,z2,z3⟩:=eY (r3 i _ (getD_some hi)) hz h5 m;have l:=m.length;have E:(i+1)*e.sz<=n*e.sz:=AN _ R;rw[C6]at E;have X:((cs.toList.drop o).take Q.sz).length=n*e.sz:=r2;have V:o+Q.sz<=cs.toList.length:=ot;have H:CR P w G (.val (.arr n e) (A.set i z)) (F3 ((cs.toList.drop o).take Q.sz) (i*e.sz+o2) v.cells.toList):=by refine⟨Eq.trans (B4 (as:=(show KX e.T from A)) (i:=i) (a:=z)) h8,by grind[MI],?_⟩;exact fH oc r3 hi z3 oa
       have⟨w1,w2,w3⟩:=tL (u:=Q) k4 k5 C K I (show(Ty.arr n e).bare=Q.bare from L.symm) H;rw[AGb V (by rw[l];omega),<-CW]at w3;obtain ⟨q1,q2⟩:=Y.set (self:=self) (new:=(F3 cs.toList (o+i*e.sz+o2) v.cells.toList).toArray) (o':=.box bt c' true) (x _ _ hk) (by simp [Bk,B]) T (k6.1 rfl) k7 k8.1 (λhh D =>⟨⟨b,_,el,B,hh,by grind[List.size_toArray,MI],w1,by simpa using w3.mono D,k6,k7,k8⟩,by grind[Bk]⟩);exact⟨_,h9 (A2p hl T l m.RB oa),q1,q2⟩
     .cases d
    .cases d
   .cases d
  .cases d
 .rename_i j g i q u;split at d
  .rename_i O e A g' hk;cases M:Nat.beq g g' with
   |false=>grind
   |true=>
    rw[M]at d;simp only[A4]at d;have:=A5 M;subst this;split at d
    .rename_i y hy;split at d
     .rename_i z hz;cases d;obtain⟨b,o1,len,cap,U,o2,B,K,I,R,h5,rfl⟩:=S6 hp;have⟨J,v',k1,T⟩:=ho _ _ hk;rw[B]at k1;cases k1;rw[J]at K;cases K;rcases T with⟨N,_⟩|⟨b',y0,cs,N,r1,r2,r3,r4,r5,r6,r7,r8⟩
      .cases N
      .cases N;rw[BH];have m:=(KD ho hy hv).cells;have⟨z1,z2,z3⟩:=eY (r4 i _ (getD_some I)) hz R m;have l:=m.length;have E:(i+1)*e.sz<=A.length*e.sz:=AN _ I;rw[C6]at E;have W:A.length*e.sz<=cap*e.sz:=AN _ r1.1;have X:A.length*e.sz<=cs.toList.length:=by simp[r3];exact W
       have⟨fz,x5,_⟩:=(show Q9 w b cs O from r2);obtain ⟨q1,q2⟩:=Y.set (self:=self) (new:=(F3 cs.toList (i*e.sz+o2) v.cells.toList).toArray) (o':=.sl O e (A.set i z) g true) (x _ _ hk) (by simp [Bk,B]) x5 (r6 rfl) r8 r5 (λhh D =>
        ⟨⟨J,_,B,.inr ⟨b,cap,_,by rw [B4],oc,r2.set (by grind [List.size_toArray,MI]),
          by grind[List.size_toArray,MI],
          λj' y' x4=>by have:=fH X r4 I z3 oa j' y' x4;simpa using this.ext D.ext,r5,r6,λh=>(om),r8⟩⟩,by grind[Bk]⟩)
       exact⟨_,h9 (tT hl r2 l m.RB oa),q1,q2⟩
     .cases d
    .cases d
  .rename_i O e A gk hk;cases M:Nat.beq g 0 with
   |false=>grind
   |true=>
    rw[M]at d;simp only[A4]at d;have:=A5 M;subst this;split at d
    .rename_i y hy;split at d
     .rename_i z hz;cases d;exact AGg (xs:=A) hl Y x (x _ _ hk) hy hz hp hv
     .cases d
    .cases d
  .cases d
 .cases d
end
def Gh.RG(G:Gh)(k b:Nat)(t:Ty):Gh:={G with box:=λj=>if j=k then some (b,t)else G.box j}
def Gh.Z3(G:Gh)(k g:Nat)(v:X2):Gh:={G with val:=λj h=>if j=k/\h=g then some v else G.val j h}
def Gh.Q7(G:Gh)(k:Nat)(t:Ty):Gh:={G with ety:=λj=>if j=k then some t else G.ety j}
def Gh.addIm(G:Gh)(b lo hi:Nat):Gh:={G with im:=⟨λb' o=>G.im.cell b' o\/(b'=b/\lo<=o/\o<hi),G.im.obj⟩}
theorem fI(k:Nat):K0 k k=true:=by simp_all[K0,Nat.blt,A7,CH,AD]
section
variable{P:Program}{fr:Fr}{free free':Nat->Prop}{self:Nat}{σ σ':W4}{w w':X4}{G G':Gh}
def Z2.R5(h:Z2 P fr free σ w G):fr.owned w.heap.size:=.inl h.after.size
def Z2.new(p:Z2 P fr free σ w G)(s:free self){I:Go.Obj}{o':Obj}
 (D:w'.heap=w.heap.push I)(H:w'.os=w.os)(x:w'.tape=w.tape)(B:w'.output=w.output)
 (L:∀b d,G.im.cell b d->G'.im.cell b d)(K:∀b d,G'.im.cell b d->G.im.cell b d\/b=w.heap.size)(J:G'.im.obj=G.im.obj)
 (N:∀j,j≠self->G'.box j=G.box j/\G'.ety j=G.ety j/\∀g,G'.val j g=G.val j g)
 (hk:w'.heap[w.heap.size]?=some I->PC w G w' G'->V1 P fr w' G' self o'/\∀y,Bk G' self o' y->y=w.heap.size):
 PC w G w' G'/\Z2 P fr (JH free self) (EK σ [(self,some o')]) w' G':=by
 have V:=p.fresh self s;have a:∀b,b<w.heap.size->w'.heap[b]?=w.heap[b]?:=λb C=>by rw[D,DL C,AU C]
 have A:w'.heap[w.heap.size]?=some I:=by rw[D,D7]
 have m:PC w G w' G':=by
  refine⟨⟨λb o h=>⟨L b o h,?_⟩,λb h=>⟨J▸h,a b (p.after.inO b h)⟩⟩,λk g v h=>?_,λk t h=>?_,λk b h=>?_⟩
  .simp only[World.cell?,a b (p.after.inC b o h)]
  .grind
  .grind
  .grind
 have⟨T,U⟩:=hk A m;refine⟨m,p.change (b:=w.heap.size) m ?_ (λy h _=>a y h) (by rw[D];simp) (by rw[D];simp) p.R5 K (λy h=>.inl (J▸h)) H x B ?_ ?_⟩
 .intro j o _ M C;exact absurd (LW (p.objs j o M) C) (AA _)
 .grind
 .intro j E;have z:j≠self:=λe=>by subst e;have:=E.2;grind[fI]
  have l:=p.fresh j E.1;have⟨O,Q,R⟩:=N j z;exact⟨z,E.1,Q.trans l.2.1,O.trans l.2.2.1,λg=>(R g).trans (l.2.2.2 g)⟩
def AGi{x:t.T}(h:Rel w G.im t x c):Fit (SV.rB (.val t x)) t.bare/\CR P w G (SV.rB (.val t x)) c:=by
 cases t with
 |agg p=>refine⟨?_,h⟩;rfl
 |_=>exact⟨rfl,h⟩
def AGj:∀{t:Ty} {l r:KX X2},zc t l=some r->∃c,l=c++r/\CR P w G (H7 t) c/\Fit (H7 t) t/\c.length=t.sz:=by
 intro t;have base:∀{t:Ty} {l r:KX X2},H7 t=.val t t.Q8->zc t l=some r->∃c,l=c++r/\CR P w G (H7 t) c/\Fit (H7 t) t/\c.length=t.sz:=by intro t l r I h;have⟨c,m,d⟩:=A2f (w:=w) (I:=G.im) h;rw[I];exact⟨c,m,d,rfl,d.length⟩
 have j:∀{a b:Ty} (_:∀{l r:KX X2},zc a l=some r->∃c,l=c++r/\CR P w G (H7 a) c/\Fit (H7 a) a/\c.length=a.sz)
  (_:∀{l r:KX X2},zc b l=some r->∃c,l=c++r/\CR P w G (H7 b) c/\Fit (H7 b) b/\c.length=b.sz) {l r:KX X2},zc (.prod a b) l=some r->
  ∃c,l=c++r/\CR P w G (.pr (H7 a) (H7 b)) c/\(Fit (H7 a) a/\Fit (H7 b) b)/\c.length=a.sz+b.sz:=by
  intro a b D E l r h;simp only[zc]at h;split at h
  .rename_i M H;obtain⟨A,rfl,d,s,x⟩:=D H;obtain⟨B,rfl,J,K,L⟩:=E h;exact⟨A++B,oh,⟨A,B,rfl,d,J⟩,⟨s,K⟩,by simp[x,L]⟩
  .cases h
 have z:∀{e:Ty} {l r:KX X2},zc (.slice e) l=some r->∃c,l=c++r/\c=[Value.slice none 0 0]:=by
  intro e l r h;simp only[zc]at h;split at h
  .grind
  .cases h
 have key:∀(n:Nat) (t:Ty),SizeOf.sizeOf t<n->∀{l r:KX X2},zc t l=some r->∃c,l=c++r/\CR P w G (H7 t) c/\Fit (H7 t) t/\c.length=t.sz:=by
  intro n;induction n with
  |zero=>intro t h;omega
  |succ n y=>
   intro t C l r h;cases t with
   |prod a b=>simp only[Ty.prod.sizeOf_spec]at C;have⟨c,m,d,s,x⟩:=j (y a oa) (y b oa) h;exact⟨c,m,d,⟨a,b,rfl,s.1,s.2⟩,x⟩
   |slice e=>obtain⟨c,m,rfl⟩:=z h;exact⟨_,m,rfl,rfl,rfl⟩
   |agg p=>
    cases p with
    |prod a b=>simp only[Ty.agg.sizeOf_spec,Ty.prod.sizeOf_spec]at C;have⟨c,m,d,s,x⟩:=j (y a oa) (y b oa) (show zc (.prod a b) l=some r from h);exact⟨c,m,d,⟨a,b,rfl,s.1,s.2⟩,x⟩
    |_=>exact base rfl h
   |_=>exact base rfl h
 intro l r h;exact key (SizeOf.sizeOf t+1) t oa h
theorem A2s(b:Z2 P fr free σ w G)(a:free self){c:SV}{cs:Array X2}(s:CR P w G c cs.toList)(x:Fit c t)(z:cs.size=t.sz)(d:t=GT->Lay P (.agg GT) id):
 ∃G',PC w G (w.alloc (.cells cs id)) G'/\Z2 P fr (JH free self) (EK σ [(self,some (.box t c true))]) (w.alloc (.cells cs id)) G'/\
  SR P (w.alloc (.cells cs id)) G' (.ptr self [] t) (.pointer (some ⟨w.heap.size,0,none⟩)):=by
 have⟨m,p⟩:=b.new (w':=w.alloc (.cells cs id)) (G':=G.RG self w.heap.size t) (o':=.box t c true) a rfl rfl rfl rfl
  (λ_ _ h=>h) (λ_ _ h=>.inl h) rfl (λj y=>⟨by simp [Gh.RG,y],rfl,λ_=>rfl⟩) (λA e =>⟨⟨w.heap.size,cs,id,by simp[Gh.RG],A,z,x,s.mono e,⟨λ_ o l=>absurd (b.after.inC _ _ l) (AA _),λh=>om⟩,λl=>absurd (b.after.inO _ l) (AA _),b.R5,d⟩,by grind[Bk,Gh.RG]⟩)
 refine⟨_,m,p,_,rfl,w.heap.size,t,0,by simp[Gh.RG],by cases t<;>rfl,⟨t,by cases t<;>rfl,rfl⟩,rfl⟩
theorem Lay.R9(d:Lay P t id)(h:t.bare=GT):Lay P (.agg GT) id:=by
 cases t with
 |agg p=>have h:p=GT:=h;grind
 |prod a b=>cases d
 |_=>cases h
theorem AGk(h:Lay P t id):∃v,(zeroValue id).run P w=.ok v w/\Z4 w G.im t t.Q8 v:=by have⟨i,v,a,b,d,e,j⟩:=KE h.inf;simp_all[tM,zeroValue,typeInfo]
def AGl(t:Nat)(v:X2):(newVar t v).run P w=.ok ⟨w.heap.size,0,none⟩ (w.alloc (.cells v.cells t)):=by rfl
def A2t(h:zv t v=true):CR P w G (H7 t.bare) v.cells.toList/\Fit (H7 t.bare) t.bare/\v.cells.size=t.bare.sz:=by
 have j:∀{t:Ty} {l:KX X2},PZ t l=true->CR P w G (H7 t) l/\Fit (H7 t) t/\l.length=t.sz:=by
  intro t l h;unfold PZ at h;split at h
  .rename_i p;have⟨c,a,b,d,s⟩:=AGj (P:=P) (w:=w) (G:=G) p;grind
  .cases h
 cases t with
 |agg t=>
  simp only[zv]at h;split at h
  .rename_i cs;have⟨a,b,d⟩:=j h;exact⟨a,b,(BD (xs:=cs)).symm.trans d⟩
  .cases h
 |arr n e=>
  simp only[zv]at h;split at h
  .rename_i cs;have⟨a,b,d⟩:=j h;exact⟨a,b,(BD (xs:=cs)).symm.trans d⟩
  .cases h
 |_=>
  simp only[zv]at h;split at h
  .cases h
  .rename_i m;have⟨a,b,d⟩:=j h;rw[Value.cZ m];exact⟨a,b,d⟩
theorem AGm(a:Lay P t id)(y:Z2 P fr free σ w G)(h:free self):
 ∃v w',(Instr.alloc id true (.tuple #[])).run P w=.ok v w'/\
  RD P fr free self σ w G ⟨.ptr self [] t.bare,[(self,some (.box t.bare (H7 t.bare) true))]⟩ v w':=by
 have⟨i,z,p,B,C,s,x⟩:=KE a.inf;have A:(zeroValue id).run P w=.ok z w:=by simp[zeroValue,typeInfo,p,s]
 have⟨b,d,e⟩:=A2t (P:=P) (w:=w) (G:=G) x;have⟨G',j,l,m⟩:=A2s (id:=id) y h b d e a.R9;refine⟨_,_,?_,G',j,l,m⟩;simp only[Instr.alloc,Sem.run_bind,A,Result.andThen_ok,AGl];rfl
theorem AGn(hl:Lay P t id)(hm:Z2 P fr free σ w G)(E:free self){c:SV}(d:VJ t s=some c)(h:SR P w G s v):
 ∃z w',(Instr.box id v).run P w=.ok z w'/\
  RD P fr free self σ w G ⟨.ptr self [] t.bare,[(self,some (.box t.bare c.rB true))]⟩ z w':=by
 have hc:CR P w G c.rB v.cells.toList/\Fit c.rB t.bare/\v.cells.size=t.bare.sz:=by
  have hd:∀{x:t.T},c=.val t x->Z4 w G.im t x v->CR P w G c.rB v.cells.toList/\Fit c.rB t.bare/\v.cells.size=t.bare.sz:=by intro x L A;subst L;have D:=A.cells;have⟨f1,f2⟩:=AGi (P:=P) D;have C:=D.length;exact⟨f2,f1,by grind[Ty.PD]⟩
  have Q:∀{a b:Ty} {c0:SV} {j:KX X2},t=.agg (.prod a b)->Fit c0 (.prod a b)->CR P w G c0 j->CR P w G c0.rB j/\Fit c0.rB t.bare/\j.toArray.size=t.bare.sz:=by
   intro a b c0 j ht K D;have C:=K.len D;subst ht;have H:j.toArray.size=(Ty.prod a b).sz:=by simpa using C
   cases c0 with
   |val u y=>
    cases u with
    |agg q=>have hq:q=.prod a b:=K;subst hq;exact⟨D,rfl,H⟩
    |_=>exact⟨D,K,H⟩
   |_=>exact⟨D,K,H⟩
  have I:∀{s:SV},(∀u x,s≠.val u x)->SR P w G s v->v.cells= #[v]->CR P w G s v.cells.toList:=by intro s hn d A;rw[A];exact SR.one d hn
  unfold VJ at d;split at d
  .rename_i k g;have J:=tP h;have A:v.cells= #[v]:=by cases v<;>first|rfl|cases J
   cases t<;>first|(cases d;done)|skip
   all_goals
    cases d;exact⟨I (λ_ _ e=>by cases e) h A,rfl,by rw[A];rfl⟩
  .rename_i k p u;obtain⟨b,t',o,_,_,_,rfl⟩:=O5 h;cases t<;>first|(cases d;done)|skip
   cases d;exact⟨I (λ_ _ e=>by cases e) h rfl,rfl,rfl⟩
  .rename_i u c0;cases R:u.same t with
   |false=>grind
   |true=>rw[R]at d;have d:=A2 d;subst d;have:=Ty.Z7 R;subst this;obtain⟨cc,l,j,X,Y,e3,Z⟩:=h;have A:v=.agg j.toArray:=AB.1 ((show cc=[v]from l).symm.trans X);subst A;obtain⟨a,b,N,O⟩:=Y;exact Q N O Z
  .have B:=h;obtain⟨cc,l,vs,M,T⟩:=h;have A:v=_:=AB.1 ((show cc=[v]from l).symm.trans M);subst A;cases t<;>first|(cases d;done)|skip
   cases d;exact⟨I (λ_ _ e=>by cases e) B rfl,rfl,rfl⟩
  .have B:=h;obtain⟨cc,l,M,ad,n,m,T⟩:=h;have A:v=_:=AB.1 ((show cc=[v]from l).symm.trans T);subst A;cases t<;>first|(cases d;done)|skip
   cases d;exact⟨I (λ_ _ e=>by cases e) B rfl,rfl,rfl⟩
  .have B:=h;obtain⟨cc,l,M⟩:=h;have A:v=.slice none 0 0:=AB.1 ((show cc=[v]from l).symm.trans M);subst A;cases t<;>first|(cases d;done)|skip
   cases d;exact⟨I (λ_ _ e=>by cases e) B rfl,rfl,rfl⟩
  .cases L:SV.as t s with
   |none=>grind
   |some x=>rw[L]at d;cases d;exact hd rfl (KW L h)
 obtain⟨U,V,W⟩:=hc;have⟨G',g1,g2,g3⟩:=A2s (id:=id) hm E U V W hl.R9;refine⟨_,_,?_,G',g1,g2,g3⟩;rfl
end
def Q3(w:X4)(I:Im)(t:Ty)(xs:KX t.T)(cs:KX X2):Prop:=∀(i:Nat) (x:t.T),xs[i]?=some x->Rel w I t x ((cs.drop (i*t.sz)).take t.sz)
section
variable{P:Program}{fr:Fr}{free free':Nat->Prop}{self:Nat}{σ σ':W4}{w w':X4}{G G':Gh}{I:Im}
def Q3.ext{xs:KX t.T}(h:Q3 w I t xs cs)(e:Ext w I w' I'):Q3 w' I' t xs cs:=λi x a=>(h i x a).ext e
def lt_of_getElem? {l:KX α}{x:α}(h:l[i]?=some x):i<l.length:=(A3.1 h).1
def TP{s:Nat}(h:i<n):i*s+s<=n*s:=by have:=AN s h;grind
theorem Q3.append{xs ys:KX t.T}{a:KX X2}(l:Q3 w I t xs cs)(m:Q3 w I t ys ds)(d:cs.length=xs.length*t.sz)(hd:ds.length=ys.length*t.sz):
 Q3 w I t (xs++ys) (cs++(ds++a)):=by
 intro i x hi;by_cases h:i<xs.length
 .rw[BC h]at hi;rw[tK (by rw[d];exact TP h)];exact l i x hi
 .have j:xs.length<=i:=D6 h;rw[BI j]at hi;have b:=lt_of_getElem? hi;have e:i*t.sz=cs.length+(i-xs.length)*t.sz:=by rw[d,<-C7];congr 1;omega
  rw[e,eW,tK (by rw[hd];exact TP b)];exact m _ x hi
def AGo{s:Nat}(h:o+s<=n):((cs.take n).drop o).take s=(cs.drop o).take s:=by rw[DD,DJ];congr 1;omega
def Q3.take{xs:KX t.T}(a:Q3 w I t xs cs)(h:xs.length*t.sz<=n):Q3 w I t xs (cs.take n):=by intro i x hi;rw[AGo (AM (TP (lt_of_getElem? hi)) h)];exact a i x hi
theorem Q3.set{xs:KX t.T}{z:t.T}(h:Q3 w I t xs cs)(a:xs.length*t.sz<=cs.length)(hi:i<xs.length)(b:Rel w I t z ds):
 Q3 w I t (xs.set i z) (F3 cs (i*t.sz) ds):=by
 have d:=b.length;have:=fH (o2:=0) (ds:=ds) a h hi (z:=z) (by simp_all[take,TP,F3,List.take_zero,D3,BH,List.drop_eq_nil_of_le,CX]) oa;exact this
def A2u{ys:KX e.T}(h:Z4 w I (.slice e) ys v):
 ∃a cap news,v=.slice a ys.length cap/\(a=none->ys=[])/\news.length=ys.length*e.sz/\Q3 w I e ys news/\(∀u∈news,u.oneCell'=true)/\
  ∀ad,a=some ad->∀j u,news[j]?=some u->ad.spot=none/\w.cell? ⟨ad.block,ad.off+j,none⟩=some u:=by
 obtain⟨c,hc,a,cap,rfl,hcap,hnil0,had⟩:=h;have hnil:a=none->ys=[]:=λh=>(hnil0 h).1;have hv:[v]=[.slice a ys.length cap]:=(show _=[v]from hc).symm;injection hv with hv _;cases a with
 |none=>
  have:=hnil rfl;refine⟨none,cap,[],hv,hnil,?_,?_,oh,oh⟩
  .grind
  .rw[show ys=[]from this];intro i x hx;simp at hx
 |some ad=>
  have⟨hs,hr⟩:=had ad rfl;have hcell:∀j,j<ys.length*e.sz->∃u,w.cell? ⟨ad.block,ad.off+j,none⟩=some u:=by
   intro j hj
   have hpos : 0 < e.sz := by rcases DI e.sz with h | h; · grind
                              .exact h
   have hi:j / e.sz<ys.length:=Nat.div_lt_of_lt_mul oc;have⟨c,hrow,_⟩:=hr (j / e.sz) _ (A1 hi);have hm:=Nat.mod_lt j hpos;have:=(hrow.at_ (j % e.sz) hm).2;rw[CW,Nat.div_add_mod']at this;rw[this];exact⟨_,A1 (by rw[hrow.len];exact hm)⟩
  have hnews:∀j,((List.range (ys.length*e.sz)).map λj=>(w.cell? ⟨ad.block,ad.off+j,none⟩).getD undef)[j]?=if j<ys.length*e.sz then w.cell? ⟨ad.block,ad.off+j,none⟩else none:=by
   intro j;by_cases hj:j<ys.length*e.sz
   .grind
   .simp[hj]
  have hrows:Q3 w I e ys ((List.range (ys.length*e.sz)).map λj=>(w.cell? ⟨ad.block,ad.off+j,none⟩).getD undef):=by
   intro i x hx;have⟨c,hrow,hrel⟩:=hr i x hx;have hb:=TP (s:=e.sz) (lt_of_getElem? hx);have:c=(((List.range (ys.length*e.sz)).map λj=>(w.cell? ⟨ad.block,ad.off+j,none⟩).getD undef).drop (i*e.sz)).take e.sz:=by
    apply BN;intro j;by_cases hj:j<e.sz
    .rw[B0,if_pos hj,B5,hnews,if_pos (AQ (Nat.add_lt_add_left hj _) hb),<-CW];exact(hrow.at_ j hj).2.symm
    .rw[B0,if_neg hj,CQ (by rw[hrow.len];omega)]
   rw[<-this];exact hrel
  refine⟨some ad,cap,_,hv,hnil,oh,hrows,?_,?_⟩
  .intro u hu;have⟨j,hj,hju⟩:=List.mem_iff_getElem.1 hu;have hj':j<ys.length*e.sz:=by simpa using hj
   have hpos : 0 < e.sz := by rcases DI e.sz with h | h; · grind
                              .exact h
   have hi:j / e.sz<ys.length:=Nat.div_lt_of_lt_mul oc;refine Rel.RB (hrows (j / e.sz) _ (A1 hi)) u ?_;refine List.mem_iff_getElem?.2 ⟨j % e.sz,?_⟩;rw[B0,if_pos (Nat.mod_lt j hpos),B5,Nat.div_add_mod',A1 hj,hju]
  .intro ad' had';cases had';intro j u hj;rw[hnews]at hj;split at hj
   .rename_i hlt;refine⟨hs λh0=>?_,hj⟩;have h1:=hcap.1;grind
   .cases hj
def Z2.drop(d:Z2 P fr free σ w G)(k:Nat):Z2 P fr free (EK σ [(k,none)]) w G:=by
 have a:∀j o,EK σ [(k,none)] j=some o->σ j=some o:=by
  intro j o h;simp only[EK]at h;cases s:Nat.beq j k with
  |true=>grind
  |false=>grind
 refine⟨λj o h=>d.objs j o (a j o h),λi j o l b hi e=>d.sep i j o l b (a i o hi) (a j l e),d.after,λj e=>?_⟩;have⟨m,p⟩:=d.fresh j e;simp_all[EK]
def Z2.take_sl(E:Z2 P fr free σ w G)(y:free self){xs:KX t.T}{cs:Array X2}
 (W:∀j o,σ j=some o->¬Bk G j o b)(d:fr.owned b)
 (Q:∀a,a<w.heap.size->a≠b->w'.heap[a]?=w.heap[a]?)(O:w.heap.size<=w'.heap.size)
 (N:w'.os=w.os)(A:w'.tape=w.tape)(H:w'.output=w.output)
 (B:IZ xs.length cap)(C:Q9 w' b cs el)(z:cs.size=cap*t.sz)
 (x:Q3 w G.im t xs cs.toList)
 (Y:wr=true->∀o,¬G.im.cell b o)(X:∀o,G.im.cell b o->o<xs.length*t.sz/\w'.cell? ⟨b,o,none⟩=w.cell? ⟨b,o,none⟩)(T:¬G.im.obj b):
 ∃G',PC w G w' G'/\Z2 P fr (JH free self) (EK σ [(self,some (.sl el t xs 0 wr))]) w' G'/\SR P w' G' (.obj self 0) (.slice (some ⟨b,0,none⟩) xs.length cap):=by
 have Z:=E.fresh self y;let I':Im:=bif wr then G.im else⟨λa o=>G.im.cell a o\/(a=b/\o<xs.length*t.sz),G.im.obj⟩
 let G':Gh:={((G.Z3 self 0 (.slice (some ⟨b,0,none⟩) xs.length cap)).Q7 self t)with im:=I'}
 have U:∀a o,G.im.cell a o->I'.cell a o:=by
  intro a o h;cases wr with
  |true=>exact h
  |false=>exact .inl h
 have V:∀a o,I'.cell a o->G.im.cell a o\/(wr=false/\a=b/\o<xs.length*t.sz):=by
  intro a o h;cases wr with
  |true=>exact .inl h
  |false=>grind
 have m:I'.obj=G.im.obj:=by cases wr<;>rfl
 have K:b<w'.heap.size:=C.lt;have p:PC w G w' G':=by
  refine⟨⟨λa o h=>⟨U a o h,?_⟩,λa h=>⟨m▸h,?_⟩⟩,λk g v h=>?_,λk t h=>?_,λk b h=>h⟩
  .by_cases J:a=b
   .grind
   .simp only[World.cell?,Q a (E.after.inC a o h) J]
  .exact Q a (E.after.inO a h) (λe=>T (e▸h))
  .have:k≠self:=λe=>oc;simp only[G',Gh.Z3,Gh.Q7,this,DE,CE];exact h
  .have:k≠self:=λe=>oc;simp only[G',Gh.Z3,Gh.Q7,this,CE];exact h
 have l:G'.val self 0=some (.slice (some ⟨b,0,none⟩) xs.length cap):=by simp[G',Gh.Z3,Gh.Q7]
 refine⟨G',p,E.change (b:=b) p (λj o _ M=>W j o M) Q O K d ?_ (λa h=>.inl (m▸h)) N A H ?_ ?_,⟨_,rfl,_,l,rfl,rfl⟩⟩
 .grind
 .intro o M;cases M;refine⟨⟨by simp[G',Gh.Z3,Gh.Q7],_,l,.inr ⟨b,cap,cs,rfl,B,C,z,x.ext p.ext,d,?_,?_,λh=>T (m▸h)⟩⟩,by grind[Bk]⟩
  .grind
  .intro R o;refine⟨λh=>?_,λh=>?_⟩
   .show I'.cell b o;simp only[I',R,A8];grind
   grind
 .intro j L;have s:j≠self:=λe=>by subst e;have:=L.2;grind[fI]
  have D:=E.fresh j L.1;refine⟨s,L.1,?_,D.2.2.1,λg=>?_⟩
  .simp only[G',Gh.Z3,Gh.Q7,s,CE];exact D.2.1
  .simp only[G',Gh.Z3,Gh.Q7,s,DE,CE];grind
def Z2.nil_sl(p:Z2 P fr free σ w G)(s:free self):
 ∃G',PC w G w G'/\Z2 P fr (JH free self) (EK σ [(self,some (.sl el t [] 0 wr))]) w G'/\SR P w G' (.obj self 0) (.slice none 0 0):=by
 have I:=p.fresh self s;let G':Gh:=(G.Z3 self 0 (.slice none 0 0)).Q7 self t
 have d:PC w G w G':=by
  refine⟨Ext.refl _ _,λk g v h=>?_,λk t h=>?_,λk b h=>h⟩
  .have:k≠self:=λe=>oc;simp only[G',Gh.Z3,Gh.Q7,this,DE,CE];exact h
  .have:k≠self:=λe=>oc;simp only[G',Gh.Z3,Gh.Q7,this,CE];exact h
 have a:G'.val self 0=some (.slice none 0 0):=by simp[G',Gh.Z3,Gh.Q7]
 have l:∀j,EK σ [(self,some (.sl el t [] 0 wr))] j=if j=self then some (.sl el t [] 0 wr)else σ j:=by
  intro j;simp only[EK];by_cases h:j=self
  .simp
  .simp
 have C:∀b,¬Bk G' self (.sl el t [] 0 wr) b:=by intro b;simp[Bk,a]
 refine⟨G',d,⟨λj o z=>?_,λi j o D b hi m A B=>?_,p.after,λj m=>?_⟩,⟨_,rfl,_,a,rfl,rfl⟩⟩
 .rw[l]at z;by_cases h:j=self
  .rw[if_pos h]at z;cases z;subst h;exact⟨by simp[G',Gh.Z3,Gh.Q7],_,a,.inl ⟨rfl,rfl⟩⟩
  .rw[if_neg h]at z;exact(p.objs j o z).keep d λb _=>⟨rfl,λ_ h=>h,λh=>h⟩
 .rw[l]at hi m;by_cases E:i=self
  .grind
  .by_cases H:j=self
   .grind
   .rw[if_neg E]at hi;rw[if_neg H]at m;exact p.sep i j o D b hi m (by rw[<-H8 (p.objs i o hi) d];exact A) (by rw[<-H8 (p.objs j D m) d];exact B)
 .have y:j≠self:=λe=>by subst e;have:=m.2;grind[fI]
  have x:=p.fresh j m.1;refine⟨oc,?_,x.2.2.1,λg=>?_⟩
  .simp only[G',Gh.Z3,Gh.Q7,y,CE];exact x.2.1
  .simp only[G',Gh.Z3,Gh.Q7,y,DE,CE];grind
def Z2.new_sl(l:Z2 P fr free σ w G)(b:free self){xs:KX t.T}{cs:Array X2}
 {fz:Nat×Nat}(s:fz.2≤fz.1∨cs.size≤fz.1∧CB.P.underlying el=some (.int .u8))(y:w'.heap=w.heap.push (.cells cs el fz))(x:w'.os=w.os)(e:w'.tape=w.tape)(p:w'.output=w.output)
 (m:IZ xs.length cap)(d:cs.size=cap*t.sz)(a:Q3 w G.im t xs cs.toList):
 ∃G',PC w G w' G'/\Z2 P fr (JH free self) (EK σ [(self,some (.sl el t xs 0 wr))]) w' G'/\SR P w' G' (.obj self 0) (.slice (some ⟨w.heap.size,0,none⟩) xs.length cap):=
 l.take_sl b (λj o z h=>absurd (LW (l.objs j o z) h) (AA _)) l.R5
  (λA h _=>by rw[y,DL h,AU h]) (by rw[y];simp) x e p m ⟨fz,by rw[y,D7],s⟩ d a
  (λ_ o h=>absurd (l.after.inC _ _ h) (AA _)) (λo h=>absurd (l.after.inC _ _ h) (AA _)) (λh=>absurd (l.after.inO _ h) (AA _))
theorem Q3.made{z:KX X2}{x:t.T}(l:Rel w I t x z){m:Nat}(d:m<=n):Q3 w I t (List.replicate m x) (madeCells z.toArray (n*t.sz)).toList:=by
 intro i y hi;have h:=lt_of_getElem? hi;rw[BA]at h;have e:x=y:=by rw[D8,if_pos h]at hi;exact A2 hi
 subst e;have a:=l.length;have A:=TP (s:=t.sz) (AQ h d);have:((madeCells z.toArray (n*t.sz)).toList.drop (i*t.sz)).take t.sz=z:=by
  apply BN;intro j;by_cases b:j<t.sz
  .rw[B0,if_pos b,B5];have p:i*t.sz+j<n*t.sz:=oa;have s:(i*t.sz+j) % z.length=j:=by rw[a,D0,Nat.mul_add_mod];exact Nat.mod_eq_of_lt b
   simp_all[madeCells,DN,Array.toList_range,AS,List.getElem?_range,BG,B9,A1]
  .rw[B0,if_neg b,CQ oa]
 grind
theorem Q0(h:Lay P t id):∃i z,P.info? id=some i/\i.size=t.sz/\i.bytes<=24*t.sz/\i.zero=some z/\Z4 w I t t.Q8 z/\Rel w I t t.Q8 z.cells.toList:=by have⟨i,v,a,b,d,e,j⟩:=KE h.inf;grind[tM]
def A2v{B:Nat}{l c:Int}{z:α}{xs:KX α}(h:mks? B l c z=some xs):0<=l/\l<=c/\c.toNat*B<=70368744177664/\xs=List.replicate l.toNat z:=by unfold mks? at h;grind
theorem AGp(T:Lay P (.slice e) id)(U:Z2 P fr free σ w G)(j:free self){a b:Int}{I:KX e.T}(A:F_ .i64 b)
 (h:mks? (24*e.sz) a b e.Q8=some I)(y:∀x,P.underlying id=some (.slice x)->el=x):
 ∃v w',(Instr.makeSlice id (.int .i64 a) (.int .i64 b)).run P w=.ok v w'/\RD P fr free self σ w G ⟨.obj self 0,[(self,some (.sl el e I 0 wr))]⟩ v w':=by
 obtain⟨J,H,B,E⟩:=T.slice;have:=y _ H;subst this;obtain⟨h0,l,Y,rfl⟩:=A2v h;have⟨i,z,M,N,O,Q,W,X⟩:=Q0 (P:=P) (w:=w) (I:=G.im) B;have p:(i.bytes:Int)*b<=281474976710656:=by
  have m:b=(b.toNat:Int):=oa;have R:i.bytes*b.toNat<=281474976710656:=by
   have:i.bytes*b.toNat<=b.toNat*(24*e.sz):=by rw[D0];exact CA _ O
   omega
  rw[m,<-Int.natCast_mul];exact Int.ofNat_le.2 R
 have s:b<=9223372036854775807:=A.2;have d:=run_make (P:=P) w id el i z H M Q .i64 .i64 a b h0 l p s;rw[N]at d;have V:madeCells z.cells (b.toNat*e.sz)=madeCells z.cells.toList.toArray (b.toNat*e.sz):=oh
 have⟨G',K,L,D⟩:=U.new_sl (w':=w.alloc (.cells (madeCells z.cells (b.toNat*e.sz)) el)) (el:=el) (wr:=wr) j (cap:=b.toNat) (xs:=List.replicate a.toNat e.Q8) (cs:=madeCells z.cells (b.toNat*e.sz)) (fz:=(0,0)) (.inl (AD _)) rfl rfl rfl rfl
  (by rw[BA];have C:b.toNat*1<=b.toNat*(24*e.sz):=CA _ oa;exact⟨oa,oa⟩) (size_madeCells _ _) (by rw[V];grind[Q3.made])
 rw[BA]at D;exact⟨_,_,d,G',K,L,D⟩
def AGq:∀(ds:KX X2) (k off:Nat) (cs:Array X2),off+k+ds.length<=cs.size->
 (ds.zipIdx k).foldl (λ(cs:Array X2) (p:X2×Nat)=>cs.setIfInBounds (off+p.2) p.1) cs=(F3 cs.toList (off+k) ds).toArray:=by
 intro ds;induction ds with
 |nil=>simp_all[F3]
 |cons d ds a=>intro k off cs h;simp only[BO]at h;rw[List.zipIdx_cons,List.foldl_cons,a (k+1) off _ ot];congr 1;apply BN;intro j;rw[N2 ot,N2 ot];grind
def tU{a:Nat->X1 (Nat×Nat)}{cells:Array X2}{off size:Nat}{b:KX (Nat×X2)}(d:a i=some (off,size))(j:v.cells.size=size)(h:off+size<=cells.size):
 Instr.fill a cells ((i,v)::b)=Instr.fill a (F3 cells.toList off v.cells.toList).toArray b:=by
 have e:v.cells.zipIdx.foldl (λ(cs:Array X2) (p:X2×Nat)=>cs.setIfInBounds (off+p.2) p.1) cells=(F3 cells.toList off v.cells.toList).toArray:=by have:=AGq v.cells.toList 0 off cells ot;rw[<-Array.foldl_toList,Array.toList_zipIdx];simpa using this
 simp_all[Instr.fill,if_neg]
theorem AGr{p:Ty}{fs:Array Field}(N:(W5 P p).2 fs.toList 0=true)
 (B:∀(f:Nat) (F:Field),fs[f]?=some F->∃s,places[f]?=some (F.offset,s)/\∃i,P.info? F.type=some i/\i.size=s)
 (Q:Z2 P fr free σ w G)(D:∀k o,σ' k=some o->σ k=some o):
 ∀{ps:KX (Nat×SV)} {vs:KX (Nat×X2)} {x y:p.T} {cells:Array X2},YC σ' p ps x=some y->ps.length=vs.length->
  (∀(j:Nat) (q:Nat×SV) (u:Nat×X2),ps[j]?=some q->vs[j]?=some u->q.1=u.1/\SR P w G q.2 u.2)->Rel w G.im p x cells.toList->
  ∃a,Instr.fill (places.toArray[·]?) cells vs=some a/\Rel w G.im p y a.toList:=by
 obtain⟨k1,X⟩:=Z0 N;intro ps;induction ps with
 |nil=>
  intro vs x y cells h b _ z;cases vs with
  |nil=>cases h;exact⟨cells,rfl,z⟩
  |cons _ _=>simp at b
 |cons q r V=>
  intro vs x y cells h b H z;cases vs with
  |nil=>simp at b
  |cons u vs=>
   obtain⟨i,s⟩:=q;obtain⟨U,v⟩:=u;obtain⟨hi,l⟩:=H 0 _ _ rfl rfl;have hi:i=U:=hi;subst hi;have l:SR P w G s v:=l;simp only[YC]at h;cases d:sF σ' p i s x with
   |none=>grind
   |some x'=>
    rw[d]at h;unfold sF at d;cases e:Nat.blt i p.fields with
    |false=>grind
    |true=>
     rw[e]at d;simp only[A4]at d;rw[C2]at e;split at d
     .rename_i u R;split at d
      .rename_i yv T;have I:=(KD (λk o h=>Q.objs k o (D k o h)) T l).cells;have m:i<fs.toList.length:=by rw[k1];exact e
       obtain⟨u',o,K,q2,q3,q4⟩:=X i _ (A1 m);rw[R]at K;cases K;obtain⟨sz,J,W,Y,Z⟩:=B i _ (by rw[<-A_];exact A1 m);have C:sz=u.sz:=by obtain⟨i2,_,E,L,_⟩:=KE q4.inf;rw[Y]at E;cases E;rw[<-Z,L]
       subst C;obtain⟨z1,z2,z3⟩:=eY z d q2 I;have A:=I.length;have O:=z.length;rw[q3,BH]at J;rw[tU (off:=o) (size:=u.sz) (by simpa using J) oa oc];exact V h (by simpa using b) (λj q u d M=>H (j+1) q u (by simpa using d) (by simpa using M)) (by simpa using z3)
      .cases d
     .cases d
theorem A2w(B:Z2 P fr free σ w G)(p:∀k o,σ' k=some o->σ k=some o):
 ∀{ps:KX (Nat×SV)} {vs:KX (Nat×X2)} {xs ys:KX e.T} {cells:Array X2},RZ σ' e ps xs=some ys->ps.length=vs.length->
  (∀(j:Nat) (q:Nat×SV) (u:Nat×X2),ps[j]?=some q->vs[j]?=some u->q.1=u.1/\SR P w G q.2 u.2)->cells.size=xs.length*e.sz->Q3 w G.im e xs cells.toList->
  ∃a,Instr.fill (λi=>some (i*e.sz,e.sz)) cells vs=some a/\ys.length=xs.length/\a.size=cells.size/\Q3 w G.im e ys a.toList:=by
 intro ps;induction ps with
 |nil=>
  intro vs xs ys cells h b _ _ y;cases vs with
  |nil=>cases h;exact⟨cells,rfl,rfl,rfl,y⟩
  |cons _ _=>simp at b
 |cons q r I=>
  intro vs xs ys cells h b x C y;cases vs with
  |nil=>simp at b
  |cons u vs=>
   obtain⟨i,s⟩:=q;obtain⟨H,v⟩:=u;obtain⟨hi,l⟩:=x 0 _ _ rfl rfl;have hi:i=H:=hi;subst hi;have l:SR P w G s v:=l;simp only[RZ]at h;cases d:Nat.blt i xs.length with
   |false=>grind
   |true=>
    rw[d]at h;simp only[A4]at h;rw[C2]at d;split at h
    .rename_i O E;have D:=(KD (λk o h=>B.objs k o (p k o h)) E l).cells;have m:=D.length;have N:=TP (s:=e.sz) d;rw[tU (off:=i*e.sz) (size:=e.sz) rfl oa oa]
     obtain⟨a,J,K,L,M⟩:=I (cells:=(F3 cells.toList (i*e.sz) v.cells.toList).toArray) h (by simpa using b) (λj q u z A=>x (j+1) q u (by simpa using z) (by simpa using A))
      (by grind[List.size_toArray,MI]) (by grind[Q3.set])
     grind[List.length_set,List.size_toArray,MI]
    .cases h
def A2x:∀(fs:KX Field),(∀(f:Nat) (F:Field),fs[f]?=some F->∃i,P.info? F.type=some i)->
 ∃places:KX (Nat×Nat),fs.mapM (λf=>(P.info? f.type).map λi=>(f.offset,i.size))=some places/\
  ∀(f:Nat) (F:Field),fs[f]?=some F->∃s,places[f]?=some (F.offset,s)/\∃i,P.info? F.type=some i/\i.size=s:=by
 intro fs;induction fs with
 |nil=>simp
 |cons g fs d=>intro h;have⟨i,hi⟩:=h 0 g rfl;have⟨places,b,e⟩:=d (λf F a=>h (f+1) F (by simpa using a));refine⟨(g.offset,i.size)::places,by simp[hi,b],λf F a=>?_⟩;grind
theorem AGs(m:Lay P t id)(H:Z2 P fr free σ w G)(l:∀k o,σ' k=some o->σ k=some o){vs:Array (Nat×X2)}{u:n_}
 (h:dY σ' t ps=some r)(J:Q4 r u)(a:ps.length=vs.toList.length)
 (I:∀(j:Nat) (q:Nat×SV) (u:Nat×X2),ps[j]?=some q->vs.toList[j]?=some u->q.1=u.1/\SR P w G q.2 u.2):
 u.wr=[]/\∃z,(Instr.build id vs).run P w=.ok z w/\SR P w G u.sv z:=by
 have⟨it,zv,h1,h2,h3,h4,h5,C⟩:=Q0 (P:=P) (w:=w) (I:=G.im) m;unfold dY at h;split at h
 .rename_i p;cases b:YC σ' p ps p.Q8 with
  |none=>rw[b]at h;cases h
  |some x=>
   rw[b]at h;have h:=A2 h;subst h;rw[J.QM];obtain⟨fs,A,D,d⟩:=m.agg;have⟨k1,O⟩:=Z0 D;obtain ⟨places,p1,T⟩:=A2x (P:=P) fs.toList (λf F E=>by have⟨u,o,_,_,_,U⟩:=O f F E;have⟨i,_,e,_⟩:=KE U.inf;exact⟨i,e⟩);have⟨cells,K,B⟩:=AGr (x:=p.Q8) (cells:=zv.cells) D (λf F E=>T f F oc) H l b a I C;refine⟨rfl,.agg cells,run_build w id vs cells ?_,cells.toList,by rfl,B⟩;grind[Program.built]
 .rename_i n e;cases b:RZ σ' e ps (List.replicate n e.Q8)with
  |none=>rw[b]at h;cases h
  |some x=>
   rw[b]at h;have h:=A2 h;subst h;rw[J.QM];obtain⟨el,A,s,d,hn⟩:=m.arr;have⟨ie,ze,W,X,Y,Z,e5,e6⟩:=Q0 (P:=P) (w:=w) (I:=G.im) s;obtain⟨l1,Q,R⟩:=C;have M:zv.cells.size=n*e.sz:=by simpa using Q
   have⟨cells,K,B,V,L⟩:=A2w (cells:=zv.cells) H l b a I oc (λi y N=>R i y N);refine⟨rfl,.agg cells,run_build w id vs cells ?_,cells.toList,by rfl,?_,?_,L⟩
   .grind[Program.built]
   .grind
   grind
 .cases h
def AGt(A:Z2 P fr free σ w G)(m:∀k o,σ' k=some o->σ k=some o){l:SV}(h:sG σ' u s=some l)(d:SR P w G s v):
 Fit l u/\CR P w G l v.cells.toList/\∀x∈v.cells.toList,x.oneCell'=true:=by
 have y:∀{s:SV},(SV.asV σ' u s).map (SV.val u ·)=some l->SR P w G s v->Fit l u/\CR P w G l v.cells.toList/\∀x∈v.cells.toList,x.oneCell'=true:=by
  intro s e a;cases j:SV.asV σ' u s with
  |none=>grind
  |some x=>rw[j]at e;cases e;have:=(KD (λk o h=>A.objs k o (m k o h)) j a).cells;exact⟨rfl,this,this.RB⟩
 unfold sG at h;split at h
 .split at h
  .cases h;obtain⟨c,e,a⟩:=d;have a:c=[.slice none 0 0]:=a;have C:v=.slice none 0 0:=AB.1 ((show c=[v]from e).symm.trans a);subst C;exact⟨rfl,rfl,by simp[Value.cells,Value.oneCell']⟩
  .cases h
 .rename_i k g;have b:∀{u:Ty},u.sz=1->Fit (.obj k g) u/\CR P w G (.obj k g) v.cells.toList/\∀x∈v.cells.toList,x.oneCell'=true:=by intro u B;have z:=d.one oh;have p:=tP d;rw[fF p];exact⟨B,z,by simpa using p⟩
  split at h
  .rename_i x j;cases h;exact y (s:=.obj k g) (by show(RQ σ' k g u).map _=_;rw[j];rfl) d
  .split at h
   .cases h;exact b rfl
   .cases h;exact b rfl
   .cases h
 .exact y h d
theorem AGu{p:Ty}{fs:Array Field}(V:(W5 P p).2 fs.toList 0=true)
 (E:∀(f:Nat) (F:Field),fs[f]?=some F->∃s,places[f]?=some (F.offset,s)/\∃i,P.info? F.type=some i/\i.size=s)
 (Y:Z2 P fr free σ w G)(I:∀k o,σ' k=some o->σ k=some o):
 ∀{ps:KX (Nat×SV)} {vs:KX (Nat×X2)} {x y:SV} {cells:Array X2},VI σ' p ps x=some y→ps.length=vs.length→
  (∀(j:Nat) (q:Nat×SV) (u:Nat×X2),ps[j]?=some q→vs[j]?=some u→q.1=u.1∧SR P w G q.2 u.2)→Fit x p→CR P w G x cells.toList→(∀c∈cells.toList,c.oneCell'=true)→
  ∃a,Instr.fill (places.toArray[·]?) cells vs=some a/\Fit y p/\CR P w G y a.toList/\∀c∈a.toList,c.oneCell'=true:=by
 obtain⟨k1,k2⟩:=Z0 V;intro ps;induction ps with
 |nil=>
  intro vs x y cells h b _ A B d;cases vs with
  |nil=>cases h;exact⟨cells,rfl,A,B,d⟩
  |cons _ _=>simp at b
 |cons q r ih=>
  intro vs x y cells h b L A B K;cases vs with
  |nil=>simp at b
  |cons u vs=>
   obtain⟨i,s⟩:=q;obtain⟨Z,v⟩:=u;obtain⟨hi,m⟩:=L 0 _ _ rfl rfl;have hi:i=Z:=hi;subst hi;have m:SR P w G s v:=m;simp only[VI]at h;cases d:sH σ' p i s x with
   |none=>grind
   |some x'=>
    rw[d]at h;unfold sH at d;cases e:Nat.blt i p.fields with
    |false=>grind
    |true=>
     rw[e]at d;simp only[A4]at d;rw[C2]at e;split at d
     .rename_i u M;split at d
      .rename_i l X;obtain⟨lf,O,N⟩:=AGt Y I X m;have z:i<fs.toList.length:=by rw[k1];exact e
       obtain⟨u',o,R,q2,q3,q4⟩:=k2 i _ (A1 z);rw[M]at R;cases R;obtain⟨sz,Q,h3,p2,p3⟩:=E i _ (by rw[<-A_];exact A1 z);have H:sz=u.sz:=by obtain⟨i2,_,J,T,_⟩:=KE q4.inf;rw[p2]at J;cases J;rw[<-p3,T]
       subst H;obtain⟨z1,z2,z3⟩:=tL A B d q2 M lf O;have D:=lf.len O;have W:=A.len B;rw[q3,BH]at Q;rw[tU (off:=o) (size:=u.sz) (by simpa using Q) oa oc];exact ih h (by simpa using b) (λj q u d U=>L (j+1) q u (by simpa using d) (by simpa using U)) z1 (by simpa using z3) (λc C=>by
        have C:c∈F3 cells.toList o v.cells.toList:=by simpa using C
        unfold F3 at C;grind)
      .cases d
     .cases d
theorem AGv(B:Lay P t id)(J:Z2 P fr free σ w G)(m:∀k o,σ' k=some o->σ k=some o){vs:Array (Nat×X2)}{u:n_}
 (h:YD σ' t ps=some r)(L:Q4 r u)(d:ps.length=vs.toList.length)
 (K:∀(j:Nat) (q:Nat×SV) (u:Nat×X2),ps[j]?=some q->vs.toList[j]?=some u->q.1=u.1/\SR P w G q.2 u.2):
 u.wr=[]/\∃z,(Instr.build id vs).run P w=.ok z w/\SR P w G u.sv z:=by
 have⟨it,zv,V,W,X,Y,s⟩:=KE B.inf;cases t<;>first|(simp[YD]at h;done)|skip
 rename_i p;cases p<;>first|(simp[YD]at h;done)|skip
 rename_i a b;have h:(VI σ' (.prod a b) ps (H7 (.prod a b))).map (λc=>Z8.v (.bt (.agg (.prod a b)) c))=some r:=h;cases D:VI σ' (.prod a b) ps (H7 (.prod a b))with
 |none=>grind
 |some x=>
  rw[D]at h;have h:=A2 h;subst h;rw[L.QM];obtain⟨fs,M,y,C⟩:=B.agg;have⟨k1,N⟩:=Z0 y;obtain ⟨places,Z,O⟩:=A2x (P:=P) fs.toList (λf F A=>by have⟨u,o,_,_,_,Q⟩:=N f F A;have⟨i,_,e,_⟩:=KE Q.inf;exact⟨i,e⟩);have⟨R,T,z3⟩:=A2t (P:=P) (w:=w) (G:=G) s;have l:∀c∈zv.cells.toList,c.oneCell'=true:=((tM (w:=w) (I:=G.im) s).2).RB;have⟨cells,U,E,H,I⟩:=AGu (x:=H7 (.prod a b)) (cells:=zv.cells) y (λf F A=>O f F oc) J m D d K T R l;refine⟨rfl,.agg cells,run_build w id vs cells ?_,_,rfl,cells.toList,oh,⟨a,b,rfl,E⟩,I,H⟩;grind[Program.built]
theorem AGw{len:Nat}(T:Lay P (.slice e) id)(E:Z2 P fr free σ w G)(A:∀k o,σ' k=some o→σ k=some o)(a:free self){vs:Array (Nat×X2)}{xs:KX e.T}
 (y:(bif Nat.blt 0 len&&Nat.ble (len*e.sz) 16777216 then RZ σ' e ps (List.replicate len e.Q8)else none)=some xs)(b:ps.length=vs.toList.length)(p:∀x,P.underlying id=some (.slice x)->el=x)
 (U:∀(j:Nat) (q:Nat×SV) (u:Nat×X2),ps[j]?=some q->vs.toList[j]?=some u->q.1=u.1/\SR P w G q.2 u.2):
 ∃v w',(Instr.buildSlice id len vs).run P w=.ok v w'/\RD P fr free self σ w G ⟨.obj self 0,[(self,some (.sl el e xs 0 wr))]⟩ v w':=by
 obtain⟨L,I,s,h⟩:=T.slice;have:=p _ I;subst this;cases m:(Nat.blt 0 len&&Nat.ble (len*e.sz) 16777216)with
 |false=>grind
 |true=>
  rw[m]at y;simp only[A4]at y;simp only[A7,C2,Nat.ble_eq]at m;have⟨i,z,O,l,W,Q,X,R⟩:=Q0 (P:=P) (w:=w) (I:=G.im) s;have V:madeCells z.cells (len*e.sz)=madeCells z.cells.toList.toArray (len*e.sz):=oh
  have⟨cells,J,B,C,K⟩:=A2w (cells:=madeCells z.cells (len*e.sz)) E A y b U (by rw[size_madeCells,BA])
   (by rw[V];exact Q3.made R (AD _))
  rw[BA]at B;rw[size_madeCells]at C;have H:0<len*e.sz:=Nat.mul_pos m.1 h;have d:=run_buildSlice w id el len vs cells i z I O Q (by rw[l];omega) (by rw[l];omega) (by rw[l];exact J);obtain ⟨G',M,N,D⟩:=E.new_sl (w':=w.alloc (.cells cells el)) (el:=el) (wr:=wr) a (cap:=len) (xs:=xs) (cs:=cells) (fz:=(0,0)) (.inl (AD _)) rfl rfl rfl rfl ⟨oa,by have:len*1<=len*e.sz:=CA _ h;omega⟩ C K;rw[B]at D;exact⟨_,_,d,G',M,N,D⟩
theorem AGx(B:Lay P (.slice e) id)(C:Z2 P fr free σ w G)(h:free self)(b:∀x,P.underlying id=some (.slice x)->el=x):
 ∃v w',(Instr.buildSlice id 0 #[]).run P w=.ok v w'/\RD P fr free self σ w G ⟨.obj self 0,[(self,some (.sl el e [] 0 wr))]⟩ v w':=by
 obtain⟨m,l,d,j⟩:=B.slice;have:=b _ l;subst this;have⟨i,z,A,E,H,I,J,K⟩:=Q0 (P:=P) (w:=w) (I:=G.im) d;have a:(Instr.buildSlice id 0 #[]).run P w=.ok (.slice (some ⟨w.heap.size,0,none⟩) 0 0) (w.alloc (.cells #[] el)):=by simp[Instr.buildSlice,run_underlying l,sizeOf,typeInfo,A,newRow,Instr.fill];rw[show(Array.range 0).map (λ_=>(default:X2))= #[]from Array.eq_empty_of_size_eq_zero oh]
 have⟨G',p,s,y⟩:=C.new_sl (w':=w.alloc (.cells #[] el)) (el:=el) (wr:=wr) h (cap:=0) (xs:=([]:KX e.T)) (cs:=#[]) (fz:=(0,0)) (.inl (AD _)) rfl rfl rfl rfl ⟨oh,oh⟩ oh (λi x D=>by simp at D);exact⟨_,_,a,G',p,s,y⟩
theorem AGy{v:Ty}(E:Lay P (.map k v) id)(s:Z2 P fr free σ w G)(l:free self){r:X1 X2}(y:∀x,r=some x->∃A n,x=.int A n):
 ∃z w',(Instr.makeMap id r).run P w=.ok z w'/\RD P fr free self σ w G ⟨.obj self 0,[(self,some (.mp k v [] true))]⟩ z w':=by
 obtain⟨a,b,J,_,_⟩:=E.map;have p:(Instr.makeMap id r).run P w=.ok (.map (some w.heap.size)) (w.alloc (.map #[] 0)):=by
  cases r with
  |none=>simp[Instr.makeMap]
  |some x=>obtain⟨A,n,rfl⟩:=y x rfl;simp[Instr.makeMap,run_underlying J,asInt,asIntOf]
 let G':Gh:=G.Z3 self 0 (.map (some w.heap.size))
 have d:G'.val self 0=some (.map (some w.heap.size)):=by simp[G',Gh.Z3]
 have⟨B,C⟩:=s.new (w':=w.alloc (.map #[] 0)) (G':=G') (o':=.mp k v [] true) l rfl rfl rfl rfl (λ_ _ h=>h) (λ_ _ h=>.inl h) rfl
  (λj D=>⟨rfl,rfl,λg=>by simp [G',Gh.Z3,D]⟩) (λI H=>⟨⟨_,d,[],⟨.refl _,AW⟩,w.heap.size,#[],0,rfl,I,⟨rfl,MapKept.stamped_empty 0⟩,λi x e h=>by simp at h,
   ⟨λ_ h=>absurd (s.after.inO _ h) (AA _),λh=>om⟩,λo h=>absurd (s.after.inC _ _ h) (AA _),s.R5⟩,by intro K m;simp[Bk,d]at m;exact m.symm⟩)
 exact⟨_,_,p,G',B,C,_,rfl,_,d,rfl,rfl⟩
def tV{B:Nat}{xs ys z:KX α}(h:app? B xs ys=some z):(xs.length+ys.length)*B<=70368744177664/\z=xs++ys:=by unfold app? at h;grind
theorem AGz{i:TypeInfo}(B:P.underlying id=some (.slice el))(hi:P.info? el=some i)(C:i.size=e.sz){ys:KX e.T}(h:Z4 w I (.slice e) ys v):
 ∃b,Src P i.size id v ys.length b w/\b.length=ys.length*e.sz/\Q3 w I e ys b:=by
 obtain⟨a,cap,b,rfl,l,p,s,x,y⟩:=A2u h;cases a with
 |none=>have:=l rfl;subst this;have:b=[]:=AK (by simpa using p);grind[Src.ofNil]
 |some d=>
  have z:=y d rfl;refine⟨b,Src.ofSlice w B d _ _ b oc (λj u A=>?_) x,p,s⟩;have m:=(z j u A).1;have:d.add j=⟨d.block,d.off+j,none⟩:=by cases d;cases m;exact MJ
  grind
def VZ(P:Program)(w:X4)(I:Im)(e:Ty)(id:Nat)(ys:KX e.T)(v:X2):Prop:=
 ∃news,Src P e.sz id v ys.length news w/\news.length=ys.length*e.sz/\Q3 w I e ys news
theorem tW(p:Lay P (.slice e) id){ys:KX e.T}(h:Z4 w I (.slice e) ys v):VZ P w I e id ys v:=by obtain⟨j,s,b,d⟩:=p.slice;have⟨i,z,l,m,_⟩:=KE b.inf;have⟨a,s1,x,y⟩:=AGz s l m h;exact⟨a,oc,x,y⟩
def AH0{ys:DO}{x:Int}(h:(FZ ys)[i]?=some x):F_ .u8 x/\(((FZ ys).map (Value.int .u8)).drop (i*1)).take 1=[Value.int .u8 x]:=by
 have hi:i<(FZ ys).length:=(A3.1 h).1;refine⟨?_,?_⟩
 .unfold FZ at h;rw[AS]at h;grind[Option.some.inj,tO]
 simp_all[CI,BL,List.getElem_map,List.take_succ_cons,List.take_zero,A1,A2]
theorem AH1(s:Lay P .str id){ys:DO}(h:SR P w G (.val .str ys) v):VZ P w G.im (.int .u8) id (FZ ys) v:=by
 obtain⟨rfl,_⟩:=h.str;have b:(FZ ys).length=(⟨ys.toArray⟩:X3).size:=by simp[FZ,ByteArray.size]
 have a:byteCells ⟨ys.toArray⟩=(FZ ys).map (Value.int .u8):=by simp[byteCells,FZ]
 have d:Src P 1 id (.string ⟨ys.toArray⟩) (FZ ys).length (byteCells ⟨ys.toArray⟩) w:=by rw[b];exact Src.ofString w s.str _
 have j:(byteCells ⟨ys.toArray⟩).length=(FZ ys).length*1:=by rw[a];simp
 refine⟨byteCells ⟨ys.toArray⟩,d,j,λi x l=>?_⟩;have l:(FZ ys)[i]?=some (show Int from x):=l;have⟨m,p⟩:=AH0 l;rw[a];have e:(((FZ ys).map (Value.int .u8)).drop (i*(Ty.int .u8).sz)).take (Ty.int .u8).sz=[Value.int .u8 x]:=p;rw[e];exact⟨rfl,m⟩
theorem A2y(L:Lay P (.slice e) id)(Q:P.underlying id=some (.slice el))(m:Lay P e el)(M:Z2 P fr free σ w G)(b:free self){xs ys:KX e.T}{base:X1 Addr}{olds:KX X2}{ty id2:Nat}
 (W:(xs.length+ys.length)*(24*e.sz)<=70368744177664)(h:cap<xs.length+ys.length)(T:VZ P w G.im e id2 ys v)
 (y:(Builtin.firstCells e.sz xs.length (.slice base xs.length cap)).run P w.drew=.ok olds.toArray w.drew)(p:olds.length=xs.length*e.sz)(N:Q3 w G.im e xs olds):
 ∃z w',(Builtin.append_ #[id,id2] ty #[.slice base xs.length cap,v]).run P w=.ok z w'/\RD P fr free self σ w G ⟨.obj self 0,[(self,some (.sl el e (xs++ys) 0 wr))]⟩ z w':=by
 have⟨i,z,D,E,H,I,V,J⟩:=Q0 (P:=P) (w:=w) (I:=G.im) m;obtain⟨a,s1,U,X⟩:=T;rw[<-E]at s1;have A:0<e.sz:=by obtain⟨_,R,_,O⟩:=L.slice;exact O
 have d:(xs.length+ys.length)*i.bytes<=140737488355328:=by have:(xs.length+ys.length)*i.bytes<=(xs.length+ys.length)*(24*e.sz):=CA _ H;omega
 have K:xs.length+ys.length<=70368744177664:=by have:(xs.length+ys.length)*1<=(xs.length+ys.length)*(24*e.sz):=CA _ oa;omega
 have j:=run_append_grow_src w id id2 ty el i z Q D I base xs.length cap olds oc v ys.length a s1 h oa (growslice_fits h d);have l:=grownCap_ge w (xs.length+ys.length) cap el;have s:z.cells.size=e.sz:=by have:=J.length;simpa using this
 have⟨G',B,C,x⟩:=M.new_sl (w':=w.drew.alloc (.cells ((olds++a).toArray++Builtin.zeroCells z.cells (grownCap w (xs.length+ys.length) cap el-(xs.length+ys.length))) el)) (el:=el) (wr:=wr) b
  (cap:=grownCap w (xs.length+ys.length) cap el) (xs:=xs++ys) (fz:=(0,0)) (.inl (AD _)) rfl rfl rfl rfl (by rw[AL];exact⟨l,oa⟩)
  (by rw[Array.size_append,size_zeroCells,s,B9,AL,p,U,<-C7,<-C7];grind)
  (by grind[Array.toList_append,List.append_assoc,Q3.append])
 rw[AL]at x;exact⟨_,_,j,G',B,C,x⟩
theorem tX(A:Lay P (.slice e) id)(l:∀x,P.underlying id=some (.slice x)->el=x)(B:Z2 P fr free σ w G)(a:free self){ys y:KX e.T}{ty id2:Nat}
 (D:VZ P w G.im e id2 ys v)(h:app? (24*e.sz) [] ys=some y):
 ∃z w',(Builtin.append_ #[id,id2] ty #[.slice none 0 0,v]).run P w=.ok z w'/\RD P fr free self σ w G ⟨.obj self 0,[(self,some (.sl el e y 0 wr))]⟩ z w':=by
 obtain⟨E,p,d,C⟩:=A.slice;have:=l _ p;subst this;have⟨M,s⟩:=tV h;have s:y=ys:=s;rw[s];by_cases h0:ys.length=0
 .have Q:ys=[]:=AK h0;subst Q;have⟨i,z,K,L,U,V,W,X⟩:=Q0 (P:=P) (w:=w) (I:=G.im) d;obtain⟨j,s1,R,Y⟩:=D;rw[←L]at s1;have N:j=[]:=AK (by simpa using R);subst N;have⟨G',H,I,J⟩:=B.nil_sl (el:=el) (t:=e) (wr:=wr) a;refine⟨.slice none 0 0,w,?_,G',H,I,J⟩;have m:=s1.len w;have b:=s1.cells;simp at b;rcases s1.kind with⟨T,hk⟩|hk<;>simp[Builtin.append_,run_underlying p,run_underlying hk,sizeOf,typeInfo,K,m,b]
 .have:=A2y (xs:=([]:KX e.T)) (ys:=ys) (ty:=ty) (self:=self) (wr:=wr) (base:=none) (cap:=0) (olds:=[]) A p d B a M ot D (run_firstCells_none _ _ _ _ _) oh (λi x O=>by simp at O);simpa using this
theorem A2z(X:Lay P (.slice e) id)(K:∀x,P.underlying id=some (.slice x)->el=x)(hm:Z2 P fr free σ w G)(d:free self){k:Nat}{xs ys zs:KX e.T}{ty id2:Nat}
 (hk:σ k=some (.sl el e xs 0 wr))(hs:SR P w G (.obj k 0) v)(hv:VZ P w G.im e id2 ys vx)(h:app? (24*e.sz) xs ys=some zs):
 ∃z w',(Builtin.append_ #[id,id2] ty #[v,vx]).run P w=.ok z w'/\RD P fr free self σ w G ⟨.obj self 0,[(self,some (.sl el e zs 0 wr)),(k,none)]⟩ z w':=by
 have⟨x0,v',k1,k2⟩:=hm.objs _ _ hk;obtain⟨c,hc,v2,k3,k4,k5⟩:=hs;have h9:v2=v:=by have:[v]=[v2]:=(show c=[v]from hc).symm.trans k5;exact(AB.1 this).symm
 subst h9;rw[k1]at k3;cases k3;have C:=hm.drop k;have R:free self:=d;rcases k2 with⟨rfl,rfl⟩|⟨b,cap,cs,rfl,J,H,D,p,N,hW,hA,hO⟩
 .exact tX X K C d hv h
 .obtain⟨x2,hu,M,x1⟩:=X.slice;have:=K _ hu;subst this;obtain⟨hB,rfl⟩:=tV h;have⟨i,z,h1,T,h3,h4,h5,h6⟩:=Q0 (P:=P) (w:=w) (I:=G.im) M;have h8:=hv;obtain⟨a,s1,s2,s3⟩:=hv;rw[<-T]at s1;have V:xs.length*e.sz<=cs.size:=by rw[D];exact AN _ J.1
  by_cases m:xs.length+ys.length<=cap
  .have A:xs.length*e.sz+a.length<=cs.size:=by rw[s2,D,<-C7];exact AN _ m
   have l:∀o,w.cell? ⟨b,o,none⟩=cs.toList[o]?:=H.cell;have⟨fz,U,W⟩:=(show Q9 w b cs el from H);have Q:=fG P b (xs.length*e.sz) el fz a 0 cs w U (W.imp (λh=>h) And.left) oa s1.one
   have O:(Builtin.append_ #[id,id2] ty #[.slice (some ⟨b,0,none⟩) xs.length cap,vx]).run P w=
    .ok (.slice (some ⟨b,0,none⟩) (xs.length+ys.length) cap) (w.setRow b (F3 cs.toList (xs.length*e.sz) a).toArray):=by
    have Y:=s1.len w;have I:=s1.cells;rw[T]at I;simp only[CG]at Q;rcases s1.kind with⟨e',L⟩|L<;>simp[Builtin.append_,run_underlying hu,run_underlying L,sizeOf,typeInfo,h1,T,Y,m,I,Addr.add_lit,Q,F3]
   have s:(F3 cs.toList (xs.length*e.sz) a).length=cs.size:=by rw[MI (by simpa using A)];simp
   have⟨G',g1,g2,g3⟩:=C.take_sl (w':=w.setRow b (F3 cs.toList (xs.length*e.sz) a).toArray) (el:=el) (wr:=wr) (cap:=cap) (xs:=xs++ys) (b:=b) (cs:=(F3 cs.toList (xs.length*e.sz) a).toArray) d
    (λj o B E=>by
     simp only[EK]at B;cases y:Nat.beq j k with
     |true=>rw[y]at B;cases B
     |false=>rw[y]at B;have:j=k:=hm.sep j k o _ b B hk E (by simp[Bk,k1]);rw[this,CS]at y;cases y)
    N (λb' _ h7=>setRow_other w b b' _ h7) oh rfl rfl rfl (by rw[AL];have x3:(xs.length+ys.length)*1<=(xs.length+ys.length)*(24*e.sz):=CA _ oa;exact⟨m,oa⟩) (H.set (by rw[B9,s])) (by rw[B9,s,D])
    (by show Q3 w G.im e (xs++ys) (F3 cs.toList (xs.length*e.sz) a);exact Q3.append (Q3.take p (AD _)) s3 ot s2)
    (λhw=>hW hw)
    (λo B=>by
     cases wr with
     |true=>exact absurd B (hW rfl o)
     |false=>have Z:=(hA rfl o).2 B;refine⟨AQ Z (by rw[AL,C7];omega),?_⟩;rw[(H.set (new:=(F3 cs.toList (xs.length*e.sz) a).toArray) (by rw[B9,s])).cell,l];show(F3 cs.toList (xs.length*e.sz) a)[o]?=_;rw[N2 (by simpa using A),if_neg oa])
    hO
   rw[AL]at g3;exact⟨_,_,O,G',g1,g2,g3⟩
  .have l:∀o,w.cell? ⟨b,o,none⟩=cs.toList[o]?:=H.cell
   exact A2y (xs:=xs) (ys:=ys) (ty:=ty) (self:=self) (wr:=wr) (base:=some ⟨b,0,none⟩) (cap:=cap) (olds:=cs.toList.take (xs.length*e.sz)) X hu M C d hB oa h8
    (run_firstCells_some _ _ _ _ _ _ _ (by simp; omega) (λj u E=>by
     rw[World.cell?_drew,Addr.add_lit,BH,l];rw[B0]at E;split at E
     .exact E
     .cases E)) ot (Q3.take p (AD _))
theorem Z2.new_im(a:Z2 P fr free σ w G){I:Go.Obj}(s:∀b,b<w.heap.size->w'.heap[b]?=w.heap[b]?)(E:w'.heap.size=w.heap.size+1)(A:w'.heap[w.heap.size]?=some I)
 (z:w'.os=w.os)(e:w'.tape=w.tape)(p:w'.output=w.output):
 PC w G w' (G.addIm w.heap.size 0 n)/\Z2 P fr free σ w' (G.addIm w.heap.size 0 n):=by
 have d:PC w G w' (G.addIm w.heap.size 0 n):=by refine⟨⟨λb o h=>⟨.inl h,?_⟩,λb h=>⟨h,s b (a.after.inO b h)⟩⟩,λk g v h=>h,λk t h=>h,λk b h=>h⟩;simp only[World.cell?,s b (a.after.inC b o h)]
 have m:∀j o,σ j=some o->V1 P fr w' (G.addIm w.heap.size 0 n) j o:=by intro j o B;refine(a.objs j o B).keep d λb x=>?_;have l:=LW (a.objs j o B) x;exact⟨s b l,λJ h=>h.resolve_right (λh=>Nat.ne_of_lt l h.1),λh=>h⟩
 refine⟨d,m,λi j o H b hi y C D=>?_,?_,λj y=>a.fresh j y⟩
 .exact a.sep i j o H b hi y (by assumption) (by assumption)
 .refine a.after.trans (gv':=VU) ⟨d.ext,λb x _=>s b x,oa,λb o h=>h.imp id (λh=>.inl (Nat.le_of_eq h.1.symm)),λb h=>.inl h,?_,?_,z,e,p,a.after.pins.ext d.ext⟩ (λb h=>absurd h id)
  .intro b o h;rcases h with h|⟨h,_⟩
   .exact AQ (a.after.inC b o h) oa
   .omega
  .intro b h;exact AQ (a.after.inO b h) oa
theorem AH2(L:Lay P (.slice (.int .u8)) id)(m:∃d,P.underlying src=some d)(M:Z2 P fr free σ w G){s:DO}(N:SR P w G (.val .str s) v):
 ∃z w',(convert src id v).run P w=.ok z w'/\RD P fr free self σ w G ⟨.val (.slice (.int .u8)) (FZ s),[]⟩ z w':=by
 obtain⟨rfl,e⟩:=N.str;obtain⟨el,O,C,_⟩:=L.slice;obtain⟨d,hd⟩:=m;have l:=Lib.run_convert_string_bytes w src id el ⟨s.toArray⟩ hd O C.int;have D:(⟨s.toArray⟩:X3).size=s.length:=OR s
 have⟨I,J⟩:=M.new_im (w':=Lib.bytesWorld w el ⟨s.toArray⟩) (n:=s.length) (λb K=>Lib.bytesWorld_at_old w el _ b K) (Lib.bytesWorld_size w el _) (Lib.bytesWorld_at_new w el _)
  rfl rfl rfl
 refine⟨_,_,l,_,I,J.shrink λ_ h=>h.1,?_⟩;have a:(FZ s).length=s.length:=by simp[FZ]
 refine⟨_,rfl,some ⟨w.heap.size,0,none⟩,grownCap w s.length 0 el,?_,?_,oh,?_⟩
 .rw[D];show _=[Value.slice _ (FZ s).length _];rw[a]
 .show IZ (FZ s).length _;rw[a];exact⟨grownCap_ge _ _ _ _,e⟩
 .intro Q A;cases A;refine⟨λ_=>rfl,λi x y=>?_⟩;have y:(FZ s)[i]?=some x:=y;have hi:i<s.length:=by rw[<-a];exact lt_of_getElem? y
  have E:x=((s[i]).toNat:Int):=by simp only[FZ,AS,A1 hi,BG]at y;exact(A2 y).symm
  refine⟨[.int .u8 x],⟨rfl,λj H=>?_⟩,rfl,?_⟩
  .have B:j=0:=by simp[Ty.sz]at H;exact H
   subst B;have p:0+i*(Ty.int .u8).sz+0=i:=by simp[Ty.sz]
   rw[p];refine⟨.inr ⟨rfl,oa,hi⟩,?_⟩;grind[Lib.bytesWorld_cell,List.getD]
  .rw[E];have:=(s[i]).toNat_lt;constructor<;>simp[IntKind.min,IntKind.max,IntKind.signed,IntKind.bits]<;>omega
theorem AH3(D:CB.P=P)(Z:Lay P (.slice (.int .u8)) id)(N:∀x,P.underlying id=some (.slice x)->el=x)(H:∃d,P.underlying src=some d)(p:Z2 P fr free σ w G)(e:free self){s:DO}(hs:SR P w G (.val .str s) v):
 ∃z w',(convert src id v).run P w=.ok z w'/\RD P fr free self σ w G ⟨.obj self 0,[(self,some (.sl el (.int .u8) (FZ s) 0 wr))]⟩ z w':=by
 obtain⟨rfl,A⟩:=hs.str;obtain⟨T,R,y,_⟩:=Z.slice;have:=N _ R;subst this;obtain⟨d,hd⟩:=H;have E:=Lib.run_convert_string_bytes w src id el ⟨s.toArray⟩ hd R y.int;have l:(⟨s.toArray⟩:X3).size=s.length:=OR s;have a:(FZ s).length=s.length:=by simp[FZ]
 have O:=grownCap_ge w s.length 0 el;have L:(Lib.bytesCells w el ⟨s.toArray⟩).size=grownCap w s.length 0 el:=by unfold Lib.bytesCells;rw[l];simp;omega
 have b:∀i,i<s.length->(Lib.bytesCells w el ⟨s.toArray⟩).toList[i]?=some (.int .u8 ((s.getD i 0).toNat:Int)):=by
  intro i hi;have W:=Lib.bytesWorld_cell w el ⟨s.toArray⟩ i (by rw[l];exact hi);have X:=Lib.bytesWorld_at_new w el ⟨s.toArray⟩;have Y:(Lib.bytesWorld w el ⟨s.toArray⟩).cell? ⟨w.heap.size,i,none⟩=(Lib.bytesCells w el ⟨s.toArray⟩).toList[i]?:=by simp[World.cell?,X]
  rw[<-Y,W]
 have C:∀m,m<w.heap.size->m≠w.heap.size->(Lib.bytesWorld w el ⟨s.toArray⟩).heap[m]?=w.heap[m]?:=λm h _=>Lib.bytesWorld_at_old w el _ m h
 have⟨G',U,V,J⟩:=p.take_sl (w':=Lib.bytesWorld w el ⟨s.toArray⟩) (b:=w.heap.size) (el:=el) (wr:=wr) (cap:=grownCap w s.length 0 el) (t:=.int .u8) (xs:=FZ s) (cs:=Lib.bytesCells w el ⟨s.toArray⟩) e
  (λj o ho h=>absurd (LW (p.objs j o ho) h) (AA _)) p.R5 C (by rw[Lib.bytesWorld_size];omega) rfl rfl rfl
  (by show IZ (FZ s).length _;rw[a];exact⟨O,A⟩) ⟨_,Lib.bytesWorld_at_new w el _,.inr ⟨AD _,by rw[D];exact y.int⟩⟩ (by rw[L];simp[Ty.sz])
  (by
   intro i x I;have I:(FZ s)[i]?=some x:=I;have hi:i<s.length:=by rw[<-a];exact lt_of_getElem? I
   have Q:x=((s.getD i 0).toNat:Int):=by simp only[FZ,AS,A1 hi,BG]at I;rw[AH,A1 hi];exact(A2 I).symm
   have K:=b i hi;have B:i<(Lib.bytesCells w el ⟨s.toArray⟩).toList.length:=(A3.1 K).1;have M:((Lib.bytesCells w el ⟨s.toArray⟩).toList.drop (i*(Ty.int .u8).sz)).take (Ty.int .u8).sz=[.int .u8 ((s.getD i 0).toNat:Int)]:=by show((Lib.bytesCells w el ⟨s.toArray⟩).toList.drop (i*1)).take 1=_;rw[CI,BL B];rw[A1 B]at K;rw[A2 K];rfl
   rw[M,Q];exact⟨rfl,tO _⟩)
  (λ_ o h=>absurd (p.after.inC _ _ h) (AA _)) (λo h=>absurd (p.after.inC _ _ h) (AA _)) (λh=>absurd (p.after.inO _ h) (AA _))
 refine⟨_,_,E,G',U,V,?_⟩;rw[l];have J:SR P _ G' (.obj self 0) (.slice (some ⟨w.heap.size,0,none⟩) (FZ s).length (grownCap w s.length 0 el)):=J;rw[a]at J;exact J
def AH4{k:IntKind}:∀{xs:KX Int} {news:KX X2},Q3 w I (.int k) xs news->news.length=xs.length->news=xs.map (Value.int k):=by
 intro xs news h b;apply BN;intro i;by_cases hi:i<xs.length
 .have:=(h i xs[i] (A1 hi)).1;have e:i*(Ty.int k).sz=i:=by simp[Ty.sz]
  rw[e]at this;have a:=congrArg (·[0]?) this;grind
 grind
theorem AH5(l:KX Int):∀(r:X3),l.foldl (λr n=>r.push (UInt8.ofNat n.toNat)) r=⟨r.data++(IY l).toArray⟩:=by induction l<;>simp_all[IY,List.foldl_cons,ByteArray.push]
theorem AH6(E:Lay P .str id)(y:Lay P (.slice (.int .u8)) src){xs:KX Int}{s:DO}(N:Z4 w I (.slice (.int .u8)) xs v)(x:cat? [] (IY xs)=some s):
 ∃z,(convert src id v).run P w=.ok z w/\SR P w G (.val .str s) z:=by
 obtain⟨el,H,l,_⟩:=y.slice;unfold cat? at x;cases D:decide ((([]:DO).length+(IY xs).length)<=281474976710656)with
 |false=>grind
 |true=>
  rw[D]at x;have x:IY xs=s:=A2 x;subst x;have m:=AC D;have⟨a,cap,b,h,p,A,J,Q,K⟩:=A2u N;have h:v=.slice a (List.length (α:=Int) xs) cap:=h;have A:b.length=List.length (α:=Int) xs*1:=A;subst h;have B:b=xs.map (Value.int .u8):=AH4 J (by rw[A,CI]);cases a with
  |none=>have O:xs=[]:=p rfl;subst O;refine⟨.string .empty,?_,SR.rF (s:=[]) oh⟩;rw[run_convert_bytes_string w src id el _ _ _ H l.int E.str];rfl
  |some d=>
   have L:=K d rfl;refine⟨_,?_,SR.rF (s:=IY xs) (by simpa using m)⟩;rw[run_convert_bytes_string w src id el _ _ _ H l.int E.str,run_bytesToString w d xs.length cap xs ?_,AH5]
   .simp
   .have:(loadCells d b.length).run P w=.ok b.toArray w:=run_loadCells_list w d b λj u M=>by
     have C:=(L j u M).1;have e:d.add j=⟨d.block,d.off+j,none⟩:=by cases d;cases C;exact MJ
     grind
    grind
end
open Go.MapKept
section
variable{P:Program}{fr:Fr}{σ σ':W4}{w w':X4}{G G':Gh}{I:Im}
theorem AH7(a b:DO):((⟨a.toArray⟩:X3)==⟨b.toArray⟩)=DU a b:=by rw[Bool.eq_iff_iff,bytes_beq];simp[DU]
structure KeyAt(P:Program)(w:X4)(I:Im)(t:Ty)(eq:t.T->t.T->X5)(d:TypeDesc):Prop where
 key:∀x v,Z4 w I t x v->IsKey d v
 same:∀x v y u,Z4 w I t x v->Z4 w I t y u->Instr.sameNow d v u=some (eq x y)/\(eq x y=true->Instr.sameBits 10000 u v=true/\u=v)/\(eq x y=false->u≠v)
def AH8(x y:X5):Instr.sameNow .bool (.bool x) (.bool y)=some (IE x y)/\(IE x y=true->Instr.sameBits 10000 (.bool y) (.bool x)=true/\Value.bool y=.bool x)/\(IE x y=false->Value.bool y≠.bool x):=by refine⟨rfl,λh=>?_,λh e=>by grind[IE]⟩;grind[IE,Instr.sameBits]
def AH9(k:IntKind)(x y:Int):Instr.sameNow (.int k) (.int k x) (.int k y)=some (DT x y)/\(DT x y=true->Instr.sameBits 10000 (.int k y) (.int k x)=true/\Value.int k y=.int k x)/\(DT x y=false->Value.int k y≠.int k x):=by grind[Instr.sameNow,DT,Instr.sameBits]
def AHA(x y:DO):Instr.sameNow .string (.string ⟨x.toArray⟩) (.string ⟨y.toArray⟩)=some (DU x y)/\(DU x y=true->Instr.sameBits 10000 (.string ⟨y.toArray⟩) (.string ⟨x.toArray⟩)=true/\Value.string ⟨y.toArray⟩=.string ⟨x.toArray⟩)/\(DU x y=false->Value.string ⟨y.toArray⟩≠.string ⟨x.toArray⟩):=by
 refine ⟨by simp only [Instr.sameNow]; rw [AH7],λh=>?_,λh e=>by simp_all[Value.string.inj,congrArg,ByteArray.data,DU]⟩;have:x=y:=by simpa[DU]using h
 subst this;exact⟨by simp only[Instr.sameBits];rw[bytes_beq],rfl⟩
theorem key_ok(e:Lay P t id){eq:t.T->t.T->X5}(h:O0 t=some eq):∃d,P.underlying id=some d/\KeyAt P w I t eq d:=by
 cases t<;>simp only[O0]at h<;>first|(cases h;done)|skip
 .have h:=A2 h;subst h;refine⟨_,e.bool,⟨λx v a=>?_,λx v y u a b=>?_⟩⟩
  .rw[SR.bool (P:=P) (G:=⟨I,λ_ _=>none,λ_=>none,λ_=>none⟩) a];trivial
  .rw[SR.bool (P:=P) (G:=⟨I,λ_ _=>none,λ_=>none,λ_=>none⟩) a,SR.bool (P:=P) (G:=⟨I,λ_ _=>none,λ_=>none,λ_=>none⟩) b];exact AH8 x y
 .rename_i k;have h:=A2 h;subst h;refine⟨_,e.int,⟨λx v a=>?_,λx v y u a b=>?_⟩⟩
  .rw[(SR.int (P:=P) (G:=⟨I,λ_ _=>none,λ_=>none,λ_=>none⟩) a).1];rfl
  .rw[(SR.int (P:=P) (G:=⟨I,λ_ _=>none,λ_=>none,λ_=>none⟩) a).1,(SR.int (P:=P) (G:=⟨I,λ_ _=>none,λ_=>none,λ_=>none⟩) b).1];exact AH9 k x y
 .have h:=A2 h;subst h;refine⟨_,e.str,⟨λx v a=>?_,λx v y u a b=>?_⟩⟩
  .rw[(SR.str (P:=P) (G:=⟨I,λ_ _=>none,λ_=>none,λ_=>none⟩) a).1];trivial
  .rw[(SR.str (P:=P) (G:=⟨I,λ_ _=>none,λ_=>none,λ_=>none⟩) a).1,(SR.str (P:=P) (G:=⟨I,λ_ _=>none,λ_=>none,λ_=>none⟩) b).1];exact AHA x y
def PI(w:X4)(I:Im)(k v:Ty)(es:KX (k.T×v.T))(Z6:KX MapEntry):Prop:=
 Z6.length=es.length/\∀(i:Nat) (x:k.T×v.T) (e:MapEntry),es[i]?=some x->Z6[i]?=some e->Z4 w I k x.1 e.key/\Z4 w I v x.2 e.val
def AHB{v:Ty}{eq:k.T->k.T->X5}{d:TypeDesc}(hk:KeyAt P w I k eq d){x:k.T}(A:Z4 w I k x vx):∀(b:KX (k.T×v.T)) (a:KX MapEntry) (i:Nat),PI w I k v b a->
 (Instr.findNow d vx a i=some none/\DY eq x b=none/\(∀z,EE eq x z b=b++[(x,z)])/\∀e∈a,e.key≠vx)\/
 (∃j e y,Instr.findNow d vx a i=some (some (i+j,e.val))/\a[j]?=some e/\DY eq x b=some y/\Z4 w I v y e.val/\Instr.sameBits 10000 e.key vx=true/\j<b.length/\(∀z,EE eq x z b=b.set j (x,z))/\e.key=vx):=by
 intro b;induction b with
 |nil=>intro a i h;have:a=[]:=AK h.1;subst this;exact .inl ⟨rfl,rfl,λz=>rfl,λ_ h=>om⟩
 |cons q b B=>
  intro a i h;cases a with
  |nil=>cases h.1
  |cons e a=>
   have⟨m,p⟩:=h.2 0 q e rfl rfl;have⟨s1,s,C⟩:=hk.same _ _ _ _ A m;cases l:eq x q.1 with
   |true=>rw[l]at s1;refine .inr ⟨0,e,q.2,by simp[Instr.findNow,s1],rfl,by simp[DY,l],p,(s l).1,oh,λz=>by simp[EE,l],(s l).2⟩
   |false=>
    rw[l]at s1;rcases B a (i+1) ⟨by simpa using h.1,λj y e m p=>h.2 (j+1) y e (by simpa using m) (by simpa using p)⟩with⟨a1,a2,a3,a8⟩|⟨j,e',y,a1,a2,a3,a4,a5,a6,a7,a8⟩
    .simp_all[Instr.findNow,DY,EE,B1]
    .exact .inr ⟨j+1,e',y,by grind[Instr.findNow],by simpa using a2,by simp[DY,l,a3],a4,a5,ot,λz=>by simp[EE,l,a7],a8⟩
structure KeyRun(P:Program)(w:X4)(I:Im)(t:Ty)(eq:t.T->t.T->X5)(ka:TypeId):Prop where
 check:∀x v,Z4 w I t x v->∀e,(Instr.checkKey e 10000 ka v).run P w=.ok () w
 find:∀{v:Ty} {x:t.T} {vx:X2},Z4 w I t x vx->∀(es:KX (t.T×v.T)) (Z6:KX MapEntry),PI w I t v es Z6->
  ((Instr.findKey ka vx Z6).run P w=.ok none w/\DY eq x es=none/\(∀z,EE eq x z es=es++[(x,z)])/\∀e∈Z6,e.key≠vx)\/
  (∃j e y,(Instr.findKey ka vx Z6).run P w=.ok (some (j,e.val)) w/\Z6[j]?=some e/\DY eq x es=some y/\Z4 w I v y e.val/\Instr.sameBits 10000 e.key vx=true/\j<es.length/\(∀z,EE eq x z es=es.set j (x,z))/\e.key=vx)
def tY{m:Nat}(E:Lay P t m){eq:t.T->t.T->X5}(h:O0 t=some eq):KeyRun P w I t eq m:=by
 have⟨d,hd,hk⟩:=key_ok (P:=P) (w:=w) (I:=I) E h;refine⟨λx v G e=>run_checkKey hd (hk.key _ _ G) e 9999,λ{v x vx} H C a D=>?_⟩;rcases AHB (P:=P) hk H C a 0 D with⟨p,b,l⟩|⟨j,e,y,p,b,l,s,z,A,B⟩
 .grind[run_findKey]
 .refine .inr ⟨j,e,y,?_,b,l,s,z,A,B⟩;simp_all[run_findKey,BH]
def A30(x y:X5):IE x y=true<->x=y:=CM
def A31(x y:Int):DT x y=true<->x=y:=CM
def A32(x y:DO):DU x y=true<->x=y:=CM
theorem AHC(x:X5)(n:Nat):Instr.sameBits n (.bool x) (.bool x)=true:=by simp[Instr.sameBits]
theorem AHD(k:IntKind)(x:Int)(n:Nat):Instr.sameBits n (.int k x) (.int k x)=true:=by simp[Instr.sameBits]
theorem AHE(x:X3)(n:Nat):Instr.sameBits n (.string x) (.string x)=true:=by simp only[Instr.sameBits];rw[bytes_beq]
def A33{a b:Ty}{eq:a.T×b.T->a.T×b.T->X5}(h:LU (.prod a b)=some eq):∃f g,LU a=some f/\LU b=some g/\eq=λx y=>f x.1 y.1&&g x.2 y.2:=by
 have h:(match LU a,LU b with
  |some f,some g=>some (λ(x y:a.T×b.T)=>f x.1 y.1&&g x.2 y.2)
  |_,_=>none)=some eq:=h
 grind
def fJ:∀{t:Ty} {eq:t.T->t.T->X5},LU t=some eq->∀x y,Ty.beq t x y=some (eq x y)/\(eq x y=true<->x=y):=by
 intro t;induction t with
 |bool=>intro eq h x y;cases h;exact⟨rfl,A30 x y⟩
 |int k=>intro eq h x y;cases h;exact⟨rfl,A31 x y⟩
 |str=>intro eq h x y;cases h;exact⟨rfl,A32 x y⟩
 |agg p w=>assumption
 |prod a b d e=>intro eq h x y;obtain⟨f,g,j,l,rfl⟩:=A33 h;have⟨z,m⟩:=d j x.1 y.1;have⟨A,s⟩:=e l x.2 y.2;refine⟨by grind[Ty.beq],?_⟩;rw[A7,m,s];grind[Prod.ext]
 |_=>intro eq h;cases h
def AHF:∀{t:Ty} {eq:t.T->t.T->X5},LU t=some eq->∀{x:t.T} {cs ds:KX X2},Rel w I t x cs->Rel w I t x ds->cs=ds/\∀v∈cs,∀n,Instr.sameBits n v v=true:=by
 intro t;induction t with
 |bool=>
  intro eq _ x cs ds h k;have h:cs=[.bool x]:=h;have k:ds=[.bool x]:=k;subst h k;exact ⟨rfl,λv d n=>by grind[List.mem_singleton,AHC]⟩
 |int e=>
  intro eq _ x cs ds h k;have h:cs=[.int e x]:=h.1;have k:ds=[.int e x]:=k.1;subst h k;exact ⟨rfl,λv d n=>by grind[List.mem_singleton,AHD]⟩
 |str=>
  intro eq _ x cs ds h k;have h:=h.1;have k:=k.1;subst h k;exact ⟨rfl,λv d n=>by grind[List.mem_singleton,AHE]⟩
 |agg p E=>assumption
 |prod a b m s=>intro eq h x cs ds j l;obtain⟨f,g,C,D,rfl⟩:=A33 h;obtain⟨y,z,rfl,G,H⟩:=j;obtain⟨A,B,rfl,J,K⟩:=l;grind
 |_=>intro eq h;cases h
def AHG{l:KX X2}(h:∀v∈l,Instr.sameBits n v v=true):((l.zip l).all λ(x,y)=>Instr.sameBits n x y)=true:=by grind[List.all_eq_true,List.getElem?_of_mem,List.getElem?_zip_eq_some,Option.some.inj,List.mem_of_getElem?]
theorem AHH{p:Ty}{m:Nat}(Z:Lay P (.agg p) m){eq:p.T->p.T->X5}(h:LU p=some eq)(hk:O6 P (.agg p) m=true):KeyRun P w I (.agg p) eq m:=by
 simp only[O6,A7,BM,C2]at hk;obtain⟨fs,K,_⟩:=Z.agg;have R:∀{x y:p.T} {v u:X2},Z4 w I (.agg p) x v->Z4 w I (.agg p) y u->(Op.equal m v u).run P w=.ok (eq x y) w:=λ{x y v u} H K=>(A2j (t:=.agg p)).1 m 10000 x y v u (eq x y) Z hk.1 H K ((fJ h x y).1) hk.2.2;have G:∀{x:p.T} {v u:X2},Z4 w I (.agg p) x v->Z4 w I (.agg p) x u->Instr.sameBits 10000 u v=true/\u=v:=by intro x v u H K;obtain⟨c,J,M⟩:=H;obtain⟨d,h3,h4⟩:=K;have e1:v=.agg c.toArray:=J;have e2:u=.agg d.toArray:=h3;subst e1 e2;obtain⟨e,hb⟩:=AHF h (show Rel w I p x c from M) (show Rel w I p x d from h4);subst e;have N:=AHG (n:=9999) λv H=>hb v H 9999;refine⟨?_,rfl⟩;simp only[Instr.sameBits,beq_self_eq_true,BU];exact N
 have T:∀{v:X2} (e:MapEntry) (l:KX MapEntry) (i:Nat),Instr.findNow (.struct fs) v (e::l) i=none:=by intro v e l i;simp[Instr.findNow,Instr.sameNow]
 have O:∀{v:Ty} {x:p.T} {vx:X2},Z4 w I (.agg p) x vx->∀(b:KX (p.T×v.T)) (a:KX MapEntry) (i:Nat),PI w I (.agg p) v b a->
  ((Instr.findAsking m vx a i).run P w=.ok none w/\DY eq x b=none/\(∀z,EE eq x z b=b++[(x,z)])/\∀e∈a,e.key≠vx)\/
  (∃j e y,(Instr.findAsking m vx a i).run P w=.ok (some (i+j,e.val)) w/\a[j]?=some e/\DY eq x b=some y/\Z4 w I v y e.val/\Instr.sameBits 10000 e.key vx=true/\j<b.length/\(∀z,EE eq x z b=b.set j (x,z))/\e.key=vx):=by
  intro v x vx L b;induction b with
  |nil=>intro a i s;have:a=[]:=AK s.1;subst this;exact .inl ⟨rfl,rfl,λz=>rfl,λ_ h=>om⟩
  |cons q b ih=>
   intro a i s;cases a with
   |nil=>cases s.1
   |cons e a=>
    obtain⟨J,M⟩:=s.2 0 q e rfl rfl;have s1:=R L J;cases A:eq x q.1 with
    |true=>rw[A]at s1;have h5:=(fJ h x q.1).2.1 A;obtain⟨t1,t2⟩:=G L (by rw[h5];exact J);refine .inr ⟨0,e,q.2,by simp[Instr.findAsking,s1],rfl,by simp[DY,A],M,t1,oh,λz=>by simp[EE,A],t2⟩
    |false=>
     rw[A]at s1;rcases ih a (i+1) ⟨Nat.succ.inj s.1,λj y e J M=>s.2 (j+1) y e J M⟩with⟨B,D,E,a8⟩|⟨j,U,y,B,D,E,V,W,a6,X,a8⟩
     .refine .inl ⟨by simp[Instr.findAsking,s1,B],by simp[DY,A,D],λz=>by simp[EE,A,E],λU Q=>?_⟩;rcases B1.1 Q with rfl|Q
      .intro Y;rw[Y]at s1;have:=(R L L).symm.trans s1;rw[(fJ h x x).2.2 rfl]at this;cases this
      grind
     .refine .inr ⟨j+1,U,y,?_,by simpa using D,by simp[DY,A,E],V,W,ot,λz=>by simp[EE,A,X],a8⟩;rw[show i+(j+1)=i+1+j by omega];simp[Instr.findAsking,s1,B]
 refine⟨λx v H e=>(AGV (t:=.agg p)).1 m 10000 e x v Z hk.1 H hk.2.2,λ{v x vx} L b a s=>?_⟩;cases a with
 |nil=>have:b=[]:=AK s.1.symm;subst this;exact .inl ⟨by simp[Instr.findKey,run_underlying K,Instr.findNow],rfl,λz=>rfl,λ_ h=>om⟩
 |cons e a=>
  have C:(Instr.findKey m vx (e::a)).run P w=(Instr.findAsking m vx (e::a)).run P w:=by simp only[Instr.findKey,Sem.run_bind,run_underlying K,Result.andThen_ok,T]
  rcases O L b (e::a) 0 s with⟨B,D,E⟩|⟨j,U,y,B,D,E,V,W,a6,X⟩
  .exact .inl ⟨C.trans B,D,E⟩
  .rw[BH]at B;exact .inr ⟨j,U,y,C.trans B,D,E,V,W,a6,X⟩
def A34{b:Nat}(a:Lay P t b){eq:t.T->t.T->X5}(h:dW ke t=some eq)(hk:ke=true->O6 P t b=true):KeyRun P w I t eq b:=by
 cases t with
 |agg p=>
  cases ke with
  |false=>cases h
  |true=>exact AHH a (show LU p=some eq from h) (hk rfl)
 |bool=>exact tY a (show O0 .bool=some eq from h)
 |int k=>exact tY a (show O0 (.int k)=some eq from h)
 |str=>exact tY a (show O0 .str=some eq from h)
 |_=>cases h
def A35{eq:α->α->X5}(a:∀x y,eq x y=true<->x=y):∀{l:KX (α×β)},(l.map (·.1)).Nodup->∀{x y},DY eq x l=some y<->(x,y)∈l:=by
 intro l;induction l with
 |nil=>grind[DY]
 |cons q l b=>intro h x y;have⟨d,e⟩:=AY.1 h;simp only[DY];grind
def PE.nodup{p e:KX (α×β)}(h:PE p e):(p.map (·.1)).Nodup:=((h.1.map (·.1)).nodup_iff).2 h.2
def PE.find{eq:α->α->X5}(a:∀x y,eq x y=true<->x=y){p e:KX (α×β)}(h:PE p e)(x:α):DY eq x p=DY eq x e:=by apply Option.ext;intro y;rw[A35 a h.nodup,A35 a h.2,h.1.mem_iff]
def A36{eq:α->α->X5}(e:∀x y,eq x y=true<->x=y){x:α}{z:β}:∀{l:KX (α×β)},(l.map (·.1)).Nodup->
 ((EE eq x z l).map (·.1)).Nodup/\∀q,q∈EE eq x z l<->q=(x,z)\/q∈l/\q.1≠x:=by
 intro l;induction l with
 |nil=>grind[EE]
 |cons a l b=>intro h;have⟨m,d⟩:=AY.1 h;have⟨i1,j⟩:=b d;simp only[EE];grind
def A37{l:KX (α×β)}(h:(l.map (·.1)).Nodup):l.Nodup:=by induction l<;>grind
def AHI:∀{l r:KX α},l.Nodup->r.Nodup->(∀x,x∈l<->x∈r)->l.Perm r:=by
 intro l;induction l with
 |nil=>intro r _ _ h;cases r with
  |nil=>exact .refl _
  |cons a r=>exact absurd ((h a).2 AF) List.not_mem_nil
 |cons a l w=>intro r j m h;have⟨A,B⟩:=AY.1 j;obtain⟨s,t,rfl⟩:=List.append_of_mem ((h a).1 AF);have b:(s++a::t).Perm (a::(s++t)):=List.perm_middle;have p:=(b.nodup_iff).1 m;have⟨y,z⟩:=AY.1 p;refine((w B z λx=>?_).cons a).trans b.symm;have d:=(h x).trans (b.mem_iff);rw[B1,B1]at d;refine⟨λk=>(d.1 (.inr k)).resolve_left λe=>A (e▸k),λk=>(d.2 (.inr k)).resolve_left λe=>y (e▸k)⟩
def PE.put{eq:α->α->X5}(a:∀x y,eq x y=true<->x=y){p e:KX (α×β)}(h:PE p e)(x:α)(z:β):PE (EE eq x z p) (EE eq x z e):=by have⟨d,j⟩:=A36 a (x:=x) (z:=z) h.nodup;have⟨b,l⟩:=A36 a (x:=x) (z:=z) h.2;exact⟨AHI (A37 d) (A37 b) λq=>by rw[j,l,h.1.mem_iff],b⟩
def A38{eq:t.T->t.T->X5}(h:dW ke t=some eq):∀x y,eq x y=true<->x=y:=by
 cases t with
 |agg p=>
  cases ke with
  |false=>cases h
  |true=>exact λx y=>(fJ (show LU p=some eq from h) x y).2
 |bool=>cases h;exact A30
 |int k=>cases h;exact A31
 |str=>cases h;exact A32
 |_=>cases h
theorem tZ{v:Ty}(Y:Lay P (.map k v) id)(L:ke=true->∀x y,P.underlying id=some (.map x y)->O6 P k x=true){ok:X5}{p R:KX (k.T×v.T)}{u:n_}{d:Array MapEntry}
 (I:YH ke k v ok s R=some r)(V:Q4 r u)(hs:SR P w G s vk)(hp:PE p R)(X:PI w G.im k v p d.toList)
 (Z:(vm=.map none/\d= #[])\/∃b l,vm=.map (some b)/\w.heap[b]?=some (.map d l)):
 u.wr=[]/\∃z,(Instr.lookup id vm vk ok).run P w=.ok z w/\SR P w G u.sv z:=by
 obtain⟨ka,va,B,M,N⟩:=Y.map;unfold YH at I;split at I
 .rename_i eq x D hx;cases I;rw[<-hp.find (A38 D)]at V;rw[V.QM];have E:Z4 w G.im k x vk:=KW hx hs;have m:=A34 (P:=P) (w:=w) (I:=G.im) M D (λh=>L h _ _ B);have C:=m.check _ _ E d.isEmpty;have⟨zv,hz,H⟩:=AGk (P:=P) (w:=w) (G:=G) N
  have A:∀a:X1 (Nat×X2),(Instr.findKey ka vk d.toList).run P w=.ok a w->
   (Instr.lookup id vm vk ok).run P w=.ok (match a with|some p=>if ok then .tuple #[p.2,.bool true]else p.2|none=>if ok then .tuple #[zv,.bool false]else zv) w:=by
   intro a T;rcases Z with⟨rfl,rfl⟩|⟨b,l,rfl,U⟩
   .cases a<;>simp_all[Instr.lookup,run_underlying]
   .cases a with
    |none=>simp[Instr.lookup,run_underlying B,MapKept.run_getObj_map U,C,T,hz]
    |some p=>simp[Instr.lookup,run_underlying B,MapKept.run_getObj_map U,C,T]
  refine⟨rfl,?_⟩;rcases m.find E p d.toList X with⟨J,O,_⟩|⟨j,e,y,J,O,W,Q,_⟩
  .have K:=A _ J;rw[K,O];cases ok with
   |true=>refine⟨_,rfl,_,rfl,_,rfl,_,_,rfl,H,_,_,rfl,?_,rfl⟩;exact⟨_,rfl,rfl⟩
   |false=>exact⟨_,rfl,H⟩
  .have K:=A _ J;rw[K,W];cases ok with
   |true=>refine⟨_,rfl,_,rfl,_,rfl,_,_,rfl,Q,_,_,rfl,?_,rfl⟩;exact⟨_,rfl,rfl⟩
   |false=>exact⟨_,rfl,Q⟩
 .cases I
def AHJ{v:Ty}{m:KX (k.T×v.T)}(h:Z4 w I (.map k v) m cv):
 ∃(a:Array MapEntry) (p:KX (k.T×v.T)),PE p m/\PI w I k v p a.toList/\((cv=.map none/\a= #[])\/∃b d,cv=.map (some b)/\w.heap[b]?=some (.map a d)):=by
 obtain⟨c,C,p,s,r,rfl,j,B⟩:=h;have l:cv=.map r:=by have:[Value.map r]=[cv]:=C;exact(AB.1 this).symm
 subst l;cases r with
 |none=>have:p=[]:=j rfl;subst this;exact⟨#[],[],s,⟨rfl,λi x e h=>by simp at h⟩,.inl ⟨rfl,rfl⟩⟩
 |some b=>have⟨_,a,d,y,z,A⟩:=B b rfl;exact⟨a,p,s,⟨by simpa using z.1,λi x e D E=>A i x e D oc⟩,.inr ⟨b,d,rfl,y⟩⟩
theorem MgOK.Z6{j:KX (k.T×KX t.T)}{tk:X1 k.T}(h:MgOK fr w I id k t j tk us cv):
 ∃b a d,cv=.map (some b)/\w.heap[b]?=some (.map a d)/\PI w I k (.slice t) j a.toList/\(j.map (·.1)).Nodup:=by
 obtain⟨b,a,d,rfl,p,s,C,y,_,z,_⟩:=h;refine⟨b,a,d,rfl,p,⟨(BD (xs:=a)).trans s.1,λi x e m D=>?_⟩,z⟩;have A:i<j.length:=(A3.1 m).1;have⟨k1,B⟩:=y i x e _ m oc (A1 oa);refine⟨k1,?_⟩;rcases B with⟨_,_,l⟩|⟨l,_⟩
 .exact l
 .exact⟨_,rfl,VW l⟩
theorem AHK(M:Lay P t id)(B:ke=true->∀k v,t=.map k v->∀x y,P.underlying id=some (.map x y)->O6 P k x=true)(Z:∀k o,σ k=some o->V1 P fr w G k o){ok:X5}{m:SV}{u:n_}
 (a:d_ σ ke t ok m s=some r)(Q:Q4 r u)(N:SR P w G m vm)(O:SR P w G s vk):
 u.wr=[]/\∃z,(Instr.lookup id vm vk ok).run P w=.ok z w/\SR P w G u.sv z:=by
 unfold d_ at a;split at a
 .rename_i k v;split at a
  .rename_i q Y;split at a
   .rename_i h1 K;have⟨A,p,e0,D,E⟩:=AHJ (Z4.cast K N);exact tZ M (λh=>B h _ _ rfl) a Q O e0 D E
   .cases a
  .rename_i j g;split at a
   .rename_i R v' Y wr hk;cases l:(Nat.beq g 0&&(R.same k&&v'.same v))with
    |false=>grind
    |true=>
     rw[l]at a;simp only[A4]at a;simp only[A7]at l;have L:=A5 l.1;have D:=Ty.Z7 l.2.1;have E:=Ty.Z7 l.2.2;subst L D E;obtain⟨cv,U,p,hp,b,A,d,rfl,V,W,X,_⟩:=Z _ _ hk;obtain⟨c,J,I,H,_,T⟩:=N;have C:I=vm:=by have:[vm]=[I]:=(show c=[vm]from J).symm.trans T;exact(AB.1 this).symm
     subst C;rw[U]at H;cases H;exact tZ M (λh=>B h _ _ rfl) a Q O hp ⟨by simpa using W.1,λi x e hx he=>X i x e hx oc⟩ (.inr ⟨b,d,rfl,V⟩)
   .rename_i h2 R t' Y tk gk hk;cases l:(Nat.beq g 0&&(R.same k&&(Ty.slice t').same v))with
    |false=>grind
    |true=>
     rw[l]at a;simp only[A4]at a;simp only[A7]at l;have L:=A5 l.1;have D:=Ty.Z7 l.2.1;have E:=Ty.Z7 l.2.2;subst L D E;have⟨cv,us,U,_,V⟩:=Z _ _ hk;obtain⟨b,A,d,rfl,W,X,q5⟩:=V.Z6;obtain⟨c,J,I,H,_,T⟩:=N;have C:I=vm:=by have:[vm]=[I]:=(show c=[vm]from J).symm.trans T;exact(AB.1 this).symm
     subst C;rw[U]at H;cases H;exact tZ M (λh=>B h _ _ rfl) a Q O ⟨.refl _,q5⟩ X (.inr ⟨b,d,rfl,W⟩)
   .cases a
  .cases a
 .cases a
end
section
variable{P:Program}{fr:Fr}{free free':Nat->Prop}{self:Nat}{σ σ':W4}{w w':X4}{G G':Gh}{I:Im}
def PI.set{v:Ty}{d:KX (k.T×v.T)}{a:KX MapEntry}(h:PI w I k v d a){j:Nat}{x:k.T}{y:v.T}{e:MapEntry}(s:Z4 w I k x e.key)(z:Z4 w I v y e.val):
 PI w I k v (d.set j (x,y)) (a.set j e):=by
 refine⟨by simpa using h.1,λi q p m l=>?_⟩;by_cases b:j=i
 .grind
 .rw[C4 b]at m l;exact h.2 i q p m l
def PI.push{v:Ty}{j:KX (k.T×v.T)}{a:KX MapEntry}(h:PI w I k v j a){x:k.T}{y:v.T}{e:MapEntry}(s:Z4 w I k x e.key)(z:Z4 w I v y e.val):
 PI w I k v (j++[(x,y)]) (a++[e]):=by
 refine⟨by simp[h.1],λi q p m l=>?_⟩;by_cases b:i<j.length
 .rw[BC b]at m;rw[BC (by rw[h.1];exact b)]at l;exact h.2 i q p m l
 .have d:j.length<=i:=D6 b;rw[BI d]at m;rw[BI (by rw[h.1];exact d),h.1]at l;grind
def PI.ext{v:Ty}{d:KX (k.T×v.T)}{a:KX MapEntry}(h:PI w I k v d a)(e:Ext w I w' I'):PI w' I' k v d a:=
 ⟨h.1,λi q b l j=>⟨(h.2 i q b l j).1.ext e,(h.2 i q b l j).2.ext e⟩⟩
theorem A39(hl:Lay P t id)(h5:ke=true->∀k v,t=.map k v->∀x y,P.underlying id=some (.map x y)->O6 P k x=true)(hm:Z2 P fr free σ w G)(O:∀k o,σ' k=some o->σ k=some o){m sx:SV}{u:n_}
 (C:eA σ' ke t m s sx=some r)(hu:Q4 r u)(x0:SR P w G m vm)(hs:SR P w G s vk)(x2:SR P w G sx vx):
 ∃w',(Instr.mapUpdate id vm vk vx).run P w=.ok () w'/\RD P fr free self σ w G u undef w':=by
 have ho:∀k o,σ' k=some o->V1 P fr w G k o:=λk o h=>hm.objs k o (O k o h);unfold eA at C;split at C
 .rename_i k v;split at C
  .rename_i j g;split at C
   .rename_i Z T es hk;cases Q:(Nat.beq g 0&&(Z.same k&&T.same v))with
    |false=>rw[Q]at C;cases C
    |true=>
     rw[Q]at C;simp only[A4]at C;simp only[A7]at Q;have hg:=A5 Q.1;have e1:=Ty.Z7 Q.2.1;have e2:=Ty.Z7 Q.2.2;subst hg e1 e2;split at C
     .rename_i eq a b X ha h4;cases C;rw[hu.PB];obtain⟨ka,va,N,h6,x5⟩:=hl.map;obtain⟨cv,q1,p,hp,bl,z,A,rfl,R,q3,q4,q5,q6,q7⟩:=ho _ _ hk;have h9:=hp.put (A38 X) a b;obtain⟨c,hc,v2,k3,_,k5⟩:=x0;have x3:v2=vm:=by have:[vm]=[v2]:=(show c=[vm]from hc).symm.trans k5;exact(AB.1 this).symm
      subst x3;rw[q1]at k3;cases k3;have D:Z4 w G.im Z a vk:=KW ha hs;have J:Z4 w G.im T b vx:=KD ho h4 x2;have H:=A34 (P:=P) (w:=w) (I:=G.im) h6 X (λh=>h5 h _ _ rfl _ _ N);have W:=H.check _ _ D false;have B:PI w G.im Z T p z.toList:=⟨by simpa using q3.1,λi x e hx he=>q4 i x e hx (by rw[<-A_];exact he)⟩;have Y:=λo'=>heap_set (o':=o') R;have x4:Z4 w G.im T b vx:=J
      have U:∀(l:Array MapEntry) (d:Nat),PI w G.im Z T (EE eq a b p) l.toList->Stamped l d->
       RD P fr free self σ w G ⟨.undef,[(j,some (.mp Z T (EE eq a b es) true))]⟩ undef {w with heap:=w.heap.setIfInBounds bl (.map l d)}:=by
       intro l d he x1;have⟨s1,s2⟩:=Y (.map l d);have L:PC w G {w with heap:=w.heap.setIfInBounds bl (.map l d)} G:=PC.of_heap (b:=bl) (λb' M=>s2 b' M) q6 (q5.1 rfl);refine⟨G,L,hm.change (b:=bl) L ?_ (λb' _ M=>s2 b' M) oh (by simpa using O7 R) q7 (λ_ _ h=>.inl h) (λ_ h=>.inl h) rfl rfl rfl ?_ ?_,⟨_,rfl,trivial⟩⟩
       .intro i o hi h8 h3;exact hi (hm.sep i j o _ bl h8 (O _ _ hk) h3 (by simp[Bk,q1]))
       .intro o h7;cases h7;have hx:=he.ext L.ext;exact⟨⟨_,q1,_,h9,bl,l,d,rfl,s1,⟨by simpa using he.1,x1⟩,λi x e h1 h2=>hx.2 i x e h1 (by rw[A_];exact h2),q5,q6,q7⟩,by intro b' V;simp[Bk,q1]at V;exact .inl V.symm⟩
       .intro i hi;have E:=hm.fresh i hi.1;refine⟨λe=>?_,hi.1,E.2.1,E.2.2.1,E.2.2.2⟩;subst e;rw[O _ _ hk]at E;cases E.1
      rcases H.find D p z.toList B with⟨a1,a2,a3,a8⟩|⟨i,e,y,a1,a2,a3,a4,a5,a6,a7,a8⟩
      .have E:=a1;refine⟨_,?_,U (z.push {key:=vk,val:=vx,born:=A}) (A+1) ?_ (stamped_push q3.2 a8)⟩
       .simp[Instr.mapUpdate,run_underlying N,MapKept.run_getObj_map R,W,E,run_setObj_map _ R]
       .rw[a3,Array.toList_push];exact B.push D J
      .have E:=a1;have I:z[i]?=some e:=by rw[<-A_];exact a2
       refine⟨_,?_,U (z.modify i λe=>{e with key:=vk,val:=vx}) A ?_ (stamped_modify q3.2 i _ (λ_ _=>rfl) (λe' _ h=>by rw[I]at h;cases h;exact a8.symm))⟩
       .simp[Instr.mapUpdate,run_underlying N,MapKept.run_getObj_map R,W,E,I,Instr.keyThatStays,a5,run_setObj_map _ R]
       .rw[a7];have:(z.modify i λe=>{e with key:=vk,val:=vx}).toList=z.toList.set i {e with key:=vk,val:=vx}:=by
         apply BN;intro n;rw[A_,Array.getElem?_modify];by_cases K:i=n
         .subst K;rw[if_pos rfl,I,BY (by have:=lt_of_getElem? a2;simpa using this)];rfl
         .rw[if_neg K,C4 K,A_]
        rw[this];exact B.set D J
     .cases C
   .cases C
  .cases C
 .cases C
theorem AHL{x:t.T}(h:Z4 w I t x v):∀{u:Ty} {y:u.T},OQ id t x u=some y->Rel w I u y [.iface id v]:=by
 intro u;induction u with
 |ialt j a r s l=>
  intro y b;simp only[OQ]at b;cases e:Nat.beq id j with
  |true=>
   rw[e]at b;simp only[A4]at b;have:=A5 e;subst this;cases d:Ty.cast? t a x with
   |none=>grind
   |some z=>rw[d]at b;have b:=A2 b;subst b;have⟨c,m,p⟩:=Z4.cast d h;exact⟨v,c,rfl,m,p⟩
  |false=>
   rw[e]at b;simp only[A8]at b;cases d:OQ id t x r with
   |none=>grind
   |some z=>rw[d]at b;have b:=A2 b;subst b;exact⟨rfl,l d⟩
 |_=>intro y b;simp[OQ]at b
theorem AHM{x:t.T}:∀{u:Ty} {y:u.T},OQ id t x u=some y->∀v:X2,tH (.val u y) v [v]:=by intro u y h v;cases u<;>first|exact rfl|(simp[OQ]at h;done)
theorem AHN(j:Lay P t id)(A:t.isIface=false){x:t.T}{y:u.T}(h:Z4 w G.im t x v)(m:OQ id t x u=some y):
 ∃z,(Instr.makeInterface id v).run P w=.ok z w/\SR P w G (.val u y) z:=by
 have l:(Instr.makeInterface id v).run P w=.ok (.iface id v) w:=by
  have key:∃d,P.underlying id=some d/\∀ms,d≠.interface ms:=by
   cases t with
   |bool=>exact⟨_,j.bool,λ_ h=>om⟩
   |int k=>exact⟨_,j.int,λ_ h=>om⟩
   |str=>exact⟨_,j.str,λ_ h=>om⟩
   |slice e=>obtain⟨_,h,_⟩:=j.slice;grind
   |agg p=>obtain⟨_,h,_⟩:=j.agg;grind
   |arr n e=>obtain⟨_,h,_⟩:=j.arr;grind
   |ptr e=>obtain⟨_,h,_⟩:=j.ptr;grind
   |map a b=>obtain⟨_,_,h,_⟩:=j.map;grind
   |self=>obtain⟨_,h⟩:=j.self;grind
   |opq=>exact j.opq
   |hV a b=>exact j.hV
   |unit=>simp[Lay,W5]at j
   |prod a b=>simp[Lay,W5]at j
   |inil=>simp[Ty.isIface]at A
   |ialt i a r=>have⟨_,d,hd,B⟩:=JR j;grind
  obtain⟨d,hd,s⟩:=key;simp only[Instr.makeInterface,Sem.run_bind,run_underlying hd,Result.andThen_ok];cases d<;>first|rfl|exact absurd rfl (s _)
 exact⟨_,l,_,AHM m _,AHL h m⟩
def AHO{k:IntKind}{a b:Int}(d:Array TypeId)(ty:Nat)(e:F_ k a)(j:F_ k b):
 ∃z,(Builtin.min_ d ty #[.int k a,.int k b]).run P w=.ok z w/\SR P w G (.val (.int k) (YL a b)) z:=by
 refine⟨.int k (if b<a then b else a),by rfl,?_⟩;unfold YL;by_cases h:b<a<;>simp_all[if_pos,A6,A4,SR.R8,if_neg,A9,A8]
def AHP{k:IntKind}{a b:Int}(d:Array TypeId)(ty:Nat)(e:F_ k a)(j:F_ k b):
 ∃z,(Builtin.max_ d ty #[.int k a,.int k b]).run P w=.ok z w/\SR P w G (.val (.int k) (YM a b)) z:=by
 refine⟨.int k (if b > a then b else a),by rfl,?_⟩;unfold YM;by_cases h:a<b<;>simp_all[gt_iff_lt,if_pos,A6,A4,SR.R8,if_neg,A9,A8]
theorem t_:∀{ss:KX SV} {vs:KX X2},ss.length=vs.length->(∀(j:Nat) (s:SV) (v:X2),ss[j]?=some s->vs[j]?=some v->SR P w G s v)->CR P w G (SV.ofList ss) vs:=by
 intro ss;induction ss with
 |nil=>intro vs a _;exact AK a.symm
 |cons s ss e=>
  intro vs a h;cases vs with
  |nil=>cases a
  |cons v vs=>exact⟨v,vs,rfl,h 0 s v rfl rfl,e (by simpa using a) (λj s v b d=>h (j+1) s v (by simpa using b) (by simpa using d))⟩
theorem A3A(e:Lay P t id)(b:∃d,P.underlying src=some d){u:n_}(a:sX t s=some r)(j:Q4 r u)(h:SR P w G s v):
 u.wr=[]/\∃z,(convert src id v).run P w=.ok z w/\SR P w G u.sv z:=by
 obtain⟨d,hd⟩:=b;unfold sX at a;split at a
 .rename_i k n;split at a
  .rename_i m;cases a;rw[j.QM];obtain⟨rfl,_⟩:=h.int;exact⟨rfl,_,by simp[convert,run_underlying hd,run_underlying e.int,Conv.intToInt],SR.R8 (TM _ _)⟩
  .cases a
 .rename_i x;split at a
  .cases a;rw[j.QM];obtain⟨rfl,l⟩:=h.str;exact⟨rfl,_,by simp[convert,run_underlying hd,run_underlying e.str],SR.rF l⟩
  .cases a
 .cases a
def AHQ(n:Int):(VN n).length<=4:=by grind[VN,Utf8.encode]
theorem AHR(b:Lay P .str id)(a:∃d,P.underlying src=some d){k:IntKind}{n:Int}(h:SR P w G (.val (.int k) n) v):
 ∃z,(convert src id v).run P w=.ok z w/\SR P w G (.val .str (VN n)) z:=by
 obtain⟨d,hd⟩:=a;obtain⟨rfl,_⟩:=h.int;exact⟨.string ⟨(VN n).toArray⟩,by simp[convert,run_underlying hd,run_underlying b.str,Conv.intToString,VN],SR.rF (AM (AHQ n) oi)⟩
theorem AHS{v:Ty}(V:Lay P (.map k v) id)(C:Z2 P fr free σ w G)(p:free self){x:KX (k.T×v.T)}{E:X2}(D:Z4 w G.im (.map k v) x E):
 ∃z w',(Instr.range id E).run P w=.ok z w'/\RD P fr free self σ w G ⟨.obj self 0,[(self,some (.it k v x))]⟩ z w':=by
 obtain⟨a,b,O,_,_⟩:=V.map;obtain⟨m,rfl⟩:∃m,E=.map m:=by obtain⟨c,J,_,_,H,rfl,_⟩:=D;have I:[Value.map H]=[E]:=J;exact⟨H,(AB.1 I).symm⟩
 obtain⟨it,A,K⟩:∃it,(Instr.range id (.map m)).run P w=.ok (.pointer (some ⟨w.heap.size,0,none⟩)) (w.alloc it)/\ItAt w G.im k v x it:=by
  cases m with
  |none=>exact⟨_,run_range_nilMap w id a b O,none,D,.inl ⟨rfl,rfl⟩⟩
  |some B=>have M:=D;obtain⟨c,J,_,_,H,rfl,_,s⟩:=M;have I:[Value.map H]=[Value.map (some B)]:=J;have Q:=AB.1 I;cases Q;have⟨_,l,d,N,_⟩:=s B rfl;exact⟨_,run_range_map w id a b B l d O N,some B,D,.inr ⟨B,l,d,rfl,rfl,N⟩⟩
 let G':Gh:=G.Z3 self 0 (.pointer (some ⟨w.heap.size,0,none⟩))
 have e:G'.val self 0=some (.pointer (some ⟨w.heap.size,0,none⟩)):=by simp[G',Gh.Z3]
 have⟨R,T⟩:=C.new (w':=w.alloc it) (G':=G') (o':=.it k v x) p rfl rfl rfl rfl (λ_ _ h=>h) (λ_ _ h=>.inl h) rfl
  (λj U=>⟨rfl,rfl,λg=>by simp [G',Gh.Z3,U]⟩) (λW L=>⟨⟨w.heap.size,it,e,W,K.ext L.ext,
   λh=>absurd (C.after.inO _ h) (AA _),λo h=>absurd (C.after.inC _ _ h) (AA _),C.R5⟩,by intro X y;simp[Bk,e]at y;exact y.symm⟩)
 exact⟨_,_,A,G',R,T,_,rfl,_,e,rfl,rfl⟩
end
def OT:X2->X1 Nat
 | .map r=>r
 |_=>none
def SlG(w:X4)(I:Im)(el:Nat)(t:Ty)(xs:KX t.T)(v:X2):Prop:=
 (v=.slice none 0 0/\xs=[])\/
 ∃b cap cs,v=.slice (some ⟨b,0,none⟩) xs.length cap/\IZ xs.length cap/\Q9 w b cs el/\cs.size=cap*t.sz/\
  (∀i x,xs[i]?=some x->Rel w I t x ((cs.toList.drop (i*t.sz)).take t.sz))/\(∀o,o<xs.length*t.sz<->I.cell b o)/\¬I.obj b
theorem SlG.of{fr:Fr}{w:X4}{xs:KX t.T}(h:RE fr w I el t xs false v):SlG w I el t xs v:=
 h.imp id λ⟨b,cap,cs,a,d,e,j,l,_,_,m,p⟩=>⟨b,cap,cs,a,d,e,j,l,m rfl,p⟩
def SlG.own{fr:Fr}{w:X4}{xs:KX t.T}(h:SlG w I el t xs v)(p:∀c,I5 v=.map (some c)->fr.owned c):RE fr w I el t xs false v:=by
 rcases h with h|⟨b,cap,cs,rfl,a,d,e,j,l,m⟩
 .exact .inl h
 .exact .inr ⟨b,cap,cs,rfl,a,d,e,j,p b rfl,λh=>(om),λ_=>l,m⟩
theorem A3B{c:Nat}(h:OT (I5 v)=some c):I5 v=.map (some c):=by unfold I5 at h ⊢;grind[OT]
theorem V_{c:Nat}(b:∀u∈us,∃v,u=I5 v):c∈us.filterMap OT<->Value.map (some c)∈us:=by
 rw[List.mem_filterMap];constructor
 .rintro⟨u,a,d⟩;obtain⟨v,rfl⟩:=b u a;grind[A3B]
 .intro h;exact⟨_,h,rfl⟩
def RF(P:Program)(w:X4)(I:Im):(s:Sh)->s.T->KX X2->KX Nat->Prop
 | .val t,x,cs,bs=>Rel w I t x cs/\bs=[]
 | .own el t wr,xs,cs,bs=>(cs=[.slice none 0 0]/\(show KX t.T from xs)=[]/\bs=[])\/
  ∃b cap cells,cs=[.slice (some ⟨b,0,none⟩) (show KX t.T from xs).length cap]/\bs=[b]/\IZ (show KX t.T from xs).length cap/\Q9 w b cells el/\cells.size=cap*t.sz/\
   Q3 w I t (show KX t.T from xs) cells.toList/\(wr=true->∀o,¬I.cell b o)/\(wr=false->∀o,o<(show KX t.T from xs).length*t.sz<->I.cell b o)/\¬I.obj b
 | .io el t,xs,cs,bs=>(cs=[.slice none 0 0]/\(show KX t.T from xs)=[]/\bs=[])\/
  ∃b cap cells,cs=[.slice (some ⟨b,0,none⟩) (show KX t.T from xs).length cap]/\bs=[b]/\IZ (show KX t.T from xs).length cap/\Q9 w b cells el/\cells.size=cap*t.sz/\
   Q3 w I t (show KX t.T from xs) cells.toList/\(true=true->∀o,¬I.cell b o)/\(true=false->∀o,o<(show KX t.T from xs).length*t.sz<->I.cell b o)/\¬I.obj b
 | .omap k v,es,cs,bs=>∃p:KX (k.T×v.T),PE p (show KX (k.T×v.T)from es)/\∃b Z6 clock,cs=[.map (some b)]/\bs=[b]/\w.heap[b]?=some (.map Z6 clock)/\(Z6.size=p.length/\Go.MapKept.Stamped Z6 clock)/\
  (∀(i:Nat) (x:k.T×v.T) (e:MapEntry),p[i]?=some x->Z6[i]?=some e->Z4 w I k x.1 e.key/\Z4 w I v x.2 e.val)/\¬I.obj b/\∀o,¬I.cell b o
 | .box c,x,cs,bs=>∃b cells el bs',cs=[.pointer (some ⟨b,0,none⟩)]/\bs=b::bs'/\w.heap[b]?=some (.cells cells el (0,0))/\cells.size=c.ty.sz/\RF P w I c x cells.toList bs'/\(∀o,¬I.cell b o)/\¬I.obj b/\(c.ty=GT->Lay P (.agg GT) el)
 | .pr a b,x,cs,bs=>∃c d bs1 bs2,cs=c++d/\bs=bs1++bs2/\RF P w I a x.1 c bs1/\RF P w I b x.2 d bs2
 | .hof nd d c,F,cs,bs=>bs=[]/\∃f vs,cs=[.func (.func f) #[] vs]/\HofD P (nd=true) w I d c F f vs
 | .fn f,_,cs,bs=>bs=[]/\cs=[.func (.func f) #[] #[]]
 | .nilS,_,cs,bs=>bs=[]/\cs=[.slice none 0 0]
 | .nns e,x,cs,bs=>bs=[]/\Rel w I (.slice e) x cs/\∃ad len cap,cs=[.slice (some ad) len cap]
 | .mns e,x,cs,bs=>bs=[]/\Rel w I (.slice e) ((show X1 (KX e.T)from x).getD []) cs/\∃ad len cap,cs=[.slice ad len cap]/\((show X1 (KX e.T)from x)=none->ad=none)
 | .fz t,x,cs,bs=>Rel w I t x cs/\bs=[]
 | .it _ _,_,_,_=>False
 | .dp ids t,x,cs,bs=>ids≠[]/\DV (λ_=>True) w I t ids x none cs bs
 | .any,_,_,_=>False
 | .tr _,_,_,_=>False
 | .R9 el _,xs,cs,bs=>∃b cells el' p q bs',cs=[.pointer (some ⟨b,0,none⟩)]/\bs=b::bs'/\w.heap[b]?=some (.cells cells el' (0,0))/\Lay P (.agg GT) el'/\cells.toList=[p,q]/\
  (p=.pointer none\/p=.pointer (some ⟨b,0,none⟩))/\(∀o,¬I.cell b o)/\¬I.obj b/\
  ((q=.slice none 0 0/\(show KX Int from xs)=[]/\bs'=[]) \/
  ∃g cap gcells,q=.slice (some ⟨g,0,none⟩) (show KX Int from xs).length cap/\bs'=[g]/\IZ (show KX Int from xs).length cap/\Q9 w g gcells el/\gcells.size=cap*(Ty.int .u8).sz/\
   Q3 w I (.int .u8) (show KX Int from xs) gcells.toList/\(∀o,¬I.cell g o)/\¬I.obj g)
 | .og id k t,es,cs,bs=>∃b Z6 clock,∃us:KX X2,cs=[.map (some b)]/\bs=b::us.filterMap OT/\w.heap[b]?=some (.map Z6 clock)/\(Z6.size=(show KX (k.T×KX t.T)from es).length/\Go.MapKept.Stamped Z6 clock)/\us.length=(show KX (k.T×KX t.T)from es).length/\
  (∀(i:Nat) (x:k.T×KX t.T) (e:MapEntry) (u:X2),(show KX (k.T×KX t.T)from es)[i]?=some x->Z6[i]?=some e->us[i]?=some u->Z4 w I k x.1 e.key/\SlG w I id t x.2 e.val/\u=I5 e.val)/\
  ((show KX (k.T×KX t.T)from es).map (·.1)).Nodup/\¬I.obj b/\∀o,¬I.cell b o
def ShV(P:Program)(w:X4)(I:Im):(s:Sh)->s.T->X2->KX Nat->Prop
 | .val t,x,v,bs=>Z4 w I t x v/\bs=[]
 | .own el t wr,x,v,bs=>RF P w I (.own el t wr) x [v] bs
 | .io el t,x,v,bs=>RF P w I (.io el t) x [v] bs
 | .omap a b,x,v,bs=>RF P w I (.omap a b) x [v] bs
 | .og id a b,x,v,bs=>RF P w I (.og id a b) x [v] bs
 | .box c,x,v,bs=>RF P w I (.box c) x [v] bs
 | .pr _ _,_,_,_=>False
 | .hof nd d c,x,v,bs=>RF P w I (.hof nd d c) x [v] bs
 | .fn f,x,v,bs=>RF P w I (.fn f) x [v] bs
 | .nilS,x,v,bs=>RF P w I .nilS x [v] bs
 | .nns e,x,v,bs=>RF P w I (.nns e) x [v] bs
 | .mns e,x,v,bs=>RF P w I (.mns e) x [v] bs
 | .dp ids t,x,v,bs=>RF P w I (.dp ids t) x [v] bs
 | .fz t,x,v,bs=>Z4 w I t x v/\bs=[]
 | .it a b,es,v,bs=>∃r o,v=.pointer (some ⟨r,0,none⟩)/\bs=[r]/\w.heap[r]?=some o/\ItAt w I a b (show KX (a.T×b.T)from es) o/\¬I.obj r/\∀j,¬I.cell r j
 | .any,_,_,bs=>bs=[]
 | .R9 el c,x,v,bs=>RF P w I (.R9 el c) x [v] bs
 | .tr s,x,v,bs=>dP s=true/\∃cs,v=.agg cs.toArray/\(∀y∈cs,y.oneCell'=true)/\RF P w I s x cs bs
def R2(P:Program)(w:X4)(I:Im):(l:KX Sh)->Z5 l->KX X2->KX Nat->Prop
 |[],_,vs,bs=>vs=[]/\bs=[]
 |[a],x,vs,bs=>∃v,vs=[v]/\ShV P w I a x v bs
 |a::b::r,x,vs,bs=>∃v vs' bs1 bs2,vs=v::vs'/\bs=bs1++bs2/\ShV P w I a x.1 v bs1/\R2 P w I (b::r) x.2 vs' bs2
def IF:KX Sh->KX X2->KX X2
 | .box _::ps,v::vs=>v::IF ps vs
 | .io _ _::ps,v::vs=>v::IF ps vs
 | .R9 _ false::ps,v::vs=>v::IF ps vs
 |_::ps,_::vs=>IF ps vs
 |_,_=>[]
def MK:KX X2->X2->Prop
 |[v],rv=>rv=v
 |vs,rv=>rv=.tuple vs.toArray
def Z9(P:Program)(f:Nat)(sp:Q2):Prop:=
 ∀(w:X4) (I:Im) (v:Z5 sp.ps) (args:KX X2) (bs:KX Nat),I4 w I->R2 P w I sp.ps v args bs->bs.Nodup->∀r,sp.F v=some r->
  Calls P f args.toArray w λe w'=>∃rv vs I' bs',e=.returned rv/\vs.length=sp.rs.length/\MK vs rv/\Q5 (·∈bs) w I w' I'/\
   R2 P w' I' (sp.rs++sp.ps.filter EX) r (vs++IF sp.ps args) bs'/\bs'.Nodup/\(∀b∈bs',b∈bs\/w.heap.size<=b)/\(sp.dr=true->w.drawn<=w'.drawn)
structure WT(P:Program)(dr:X5)(E:Env):Prop where
 pin:CB.P=P
 drE:dr=true->E.dr=true
 drs:dr=true->∀f sp,E.fs f=some sp->sp.dr=true
 ty:∀id t,E.ty id=some t->Lay P t id
 el:∀id x,P.underlying id=some (.slice x)->E.el id=x
 fs:∀f sp,E.fs f=some sp->FJ P f/\Z9 P f sp
 mt:∀m id f,E.mt m id=some f->∀(v:X2) (w:X4),(method (P.types.size+Made.depth) id v m).run P w=.ok (f,v) w
 eq:∀id t,E.eq id=true->E.ty id=some t->O6 P t id=true
 ky:∀id x y,P.underlying id=some (.map x y)->E.ky id=x
section
variable{P:Program}{fr:Fr}{free free':Nat->Prop}{σ σ':W4}{w w':X4}{G G':Gh}{I:Im}
def W7(σ:W4)(G:Gh)(ks bs:KX Nat):Prop:=∀b∈bs,∃k∈ks,∃o,σ k=some o/\Bk G k o b
def W7.mono{ks a:KX Nat}(h:W7 σ G ks bs)(hk:∀k∈ks,k∈a):W7 σ G a bs:=λb d=>let ⟨k,h1,h2⟩:=h b d;⟨k,hk k h1,h2⟩
def W7.append(B:Z2 P fr free σ w G){k1 p b1 b2:KX Nat}(s:W7 σ G k1 b1)(z:W7 σ G p b2)(I:b1.Nodup)(J:b2.Nodup)(hk:(k1++p).Nodup):
 (b1++b2).Nodup/\W7 σ G (k1++p) (b1++b2):=by
 refine⟨B2.2 ⟨I,J,λa A b j e=>?_⟩,λb j=>?_⟩
 .subst e;have⟨x,E,o,C,l⟩:=s a A;have⟨y,H,K,m,d⟩:=z a j;exact(B2.1 hk).2.2 x E y H (B.sep x y o K a C m l d)
 .rcases AX.1 j with h|h
  .obtain⟨k,hk,D⟩:=s b h;grind
  .obtain⟨k,hk,D⟩:=z b h;grind
def W0(hm:Z2 P fr free σ w G){v:SV}{x:KX t.T}(h:LR σ el t wr v=some x)(hr:CR P w G v cs):
 ∃bs,RF P w G.im (.own el t wr) x cs bs/\bs.Nodup/\W7 σ G (GQ v) bs:=by
 unfold LR at h;split at h
 .rename_i k g;split at h
  .rename_i id' t' xs g' w1 hk;cases hb:(Nat.beq g 0&&Nat.beq g g'&&(Nat.beq el id'&&(bif wr then w1 else !w1)))with
   |false=>grind
   |true=>
    rw[hb]at h;have h:Ty.cast? (.slice t') (.slice t) xs=some x:=h;simp only[A7]at hb;have e1:=A5 hb.1.2;have e2:=A5 hb.2.1;have e3:wr=w1:=by have:=hb.2.2;cases wr<;>cases w1<;>first|rfl|cases this
    subst e1 e2 e3;obtain⟨et,ex⟩:=Ty.cast?_some h;have et':t'=t:=by injection et
    subst et';cases ex;have⟨_,v',k1,k2⟩:=hm.objs _ _ hk;obtain⟨v2,k3,_,k5⟩:=hr;rw[k1]at k3;cases k3;rcases k2 with⟨rfl,hx⟩|⟨b,cap,cells,rfl,q1,q2,q3,q4,q5,q6,q7,q8⟩
    .exact⟨[],.inl ⟨k5,hx,rfl⟩,AW,λb hb=>by cases hb⟩
    .refine⟨[b],.inr ⟨b,cap,cells,k5,rfl,q1,q2,q3,q4,q6,q7,q8⟩,oh,λb' hb'=>?_⟩;simp_all[GQ,Bk]
  .cases h
 .cases h;exact⟨[],.inl ⟨hr,rfl,rfl⟩,AW,λb hb=>by cases hb⟩
 .cases h
def A3C(E:Z2 P fr free σ w G){v:Ty}{x:KX (k.T×v.T)}(h:Y2 σ k v s=some x)(I:CR P w G s cs):
 ∃bs,RF P w G.im (.omap k v) x cs bs/\bs.Nodup/\W7 σ G (GQ s) bs:=by
 unfold Y2 at h;split at h
 .rename_i j g;split at h
  .rename_i J y C wr hk;cases d:(Nat.beq g 0&&wr)with
   |false=>rw[d]at h;cases h
   |true=>
    rw[d]at h;have h:Ty.cast? (.map J y) (.map k v) C=some x:=h;simp only[A7]at d;have A:=A5 d.1;have B:wr=true:=d.2;subst A B;obtain⟨D,ex⟩:=Ty.cast?_some h;injection D with e3 e4;subst e3 e4;cases ex;obtain⟨y,k1,p,H,b,e,a,rfl,L,M,N,O,Q,R⟩:=E.objs _ _ hk;obtain⟨T,m,_,K⟩:=I;rw[k1]at m;cases m;refine⟨[b],⟨p,H,b,e,a,K,rfl,L,M,N,O.1 rfl,Q⟩,oh,λz l=>?_⟩;have:z=b:=by simpa using l
    subst this;exact⟨j,by simp[GQ],_,hk,by simp[Bk,k1]⟩
  .cases h
 .cases h
def AHT(z:Z2 P fr free σ w G){v:Ty}{x:KX (k.T×v.T)}{val:X2}(h:dL σ k v s=some x)(A:SR P w G s val):
 ∃bs,ShV P w G.im (.it k v) x val bs/\bs.Nodup/\W7 σ G (GQ s) bs:=by
 unfold dL at h;split at h
 .rename_i j g;split at h
  .rename_i B I p hk;cases a:Nat.beq g 0 with
   |false=>rw[a]at h;cases h
   |true=>
    rw[a]at h;have h:Ty.cast? (.map B I) (.map k v) p=some x:=h;have m:=A5 a;subst m;obtain⟨y,ex⟩:=Ty.cast?_some h;injection y with e3 e4;subst e3 e4;cases ex;have⟨r,o,k1,C,D,E,H,_⟩:=z.objs _ _ hk;obtain⟨_,rfl,J,e,_,d⟩:=A;rw[k1]at e;cases e;have d:=AB.1 d;subst d;refine⟨[r],⟨r,o,rfl,rfl,C,D,E,H⟩,oh,λl b=>?_⟩;have:l=r:=by simpa using b
    subst this;exact⟨j,by simp[GQ],_,hk,by simp[Bk,k1]⟩
  .cases h
 .cases h
theorem MgOK.bks{j:KX (k.T×KX t.T)}(h:MgOK fr w I id k t j none us cv):∀u∈us,∃v,u=I5 v:=by intro u m;obtain⟨b,a,d,rfl,p,⟨s,_⟩,y,z,_⟩:=h;have⟨i,hi⟩:=BR m;have l:i<us.length:=(A3.1 hi).1;obtain⟨x,B⟩:∃x,j[i]?=some x:=⟨_,A1 oa⟩;obtain⟨e,A⟩:∃e,a[i]?=some e:=⟨_,AU oa⟩;grind
def AHU:∀{us:KX X2},(∀u∈us,∃v,u=I5 v)->(∀(i j c:Nat),us[i]?=some (.map (some c))->us[j]?=some (.map (some c))->i=j)->(us.filterMap OT).Nodup:=by
 intro us;induction us with
 |nil=>simp
 |cons u us w=>
  intro a hd;have d:=w (λx b=>a x (AP _ b)) (λi j c l m=>by simpa using hd (i+1) (j+1) c (by simpa using l) (by simpa using m));cases h:OT u with
  |none=>grind
  |some c=>
   rw[List.filterMap_cons_some h];refine AY.2 ⟨λe=>?_,d⟩;have⟨v,s⟩:=a u AF;rw[V_ λx b=>a x (AP _ b)]at e;have⟨j,p⟩:=BR e;have h0:u=.map (some c):=by rw[s]at h ⊢;exact A3B h
   have:=hd 0 (j+1) c (by simp[h0]) (by simpa using p);omega
def AHV:∀{us:KX X2},(∀u∈us,∃v,u=I5 v)->(us.filterMap OT).Nodup->∀{i j c:Nat},us[i]?=some (.map (some c))->us[j]?=some (.map (some c))->i=j:=by
 intro us;induction us with
 |nil=>simp
 |cons u us s=>
  intro l a i j c hi p;have h:∀x∈us,∃v,x=I5 v:=λx m=>l x (AP _ m);have key:∀j:Nat,u=Value.map (some c)->us[j]?=some (Value.map (some c))->False:=by intro j b d;subst b;have e:OT (Value.map (some c))=some c:=rfl;rw[List.filterMap_cons_some e]at a;exact(AY.1 a).1 ((V_ h).2 (AE d))
  grind
theorem A3D(Q:Z2 P fr free σ w G){x:KX (k.T×KX t.T)}(h:Y3 σ id k t s=some x)(R:CR P w G s cs):
 ∃bs,RF P w G.im (.og id k t) x cs bs/\bs.Nodup/\W7 σ G (GQ s) bs:=by
 unfold Y3 at h;split at h
 .rename_i j g;split at h
  .rename_i D T t' K gk hk;cases z:(Nat.beq g 0&&Nat.beq id D)with
   |false=>rw[z]at h;cases h
   |true=>
    rw[z]at h;have h:Ty.cast? (.map T (.slice t')) (.map k (.slice t)) K=some x:=h;simp only[A7]at z;have I:=A5 z.1;have J:=A5 z.2;subst I J;obtain⟨L,ex⟩:=Ty.cast?_some h;injection L with e3 e4;injection e4 with e4;subst e3 e4;cases ex;have⟨v',us,k1,U,p⟩:=Q.objs _ _ hk;have m:=p.bks;have B:=p;obtain⟨b,y,d,rfl,W,X,Y,Z,q5,q6,q7,q8,q9⟩:=p;obtain⟨v2,E,_,V⟩:=R;rw[k1]at E;cases E;refine⟨b::us.toList.filterMap OT,⟨b,y,d,us.toList,V,rfl,W,X,Y,λi x e u M N O=>?_,q6,q7,q8⟩,AY.2 ⟨λA=>?_,AHU m q5⟩,λb' l=>?_⟩
    .obtain⟨C,a⟩:=Z i x e u M N O;rcases a with⟨a,_⟩|⟨a,H⟩
     .cases a
     .exact⟨C,.of a,H⟩
    .rw[V_ m]at A;have⟨x,v,C,a⟩:=B.own A;have⟨_,_,cap,cells,_,fz,a5,_⟩:=C.slice a;grind
    .refine⟨j,by simp[GQ],_,hk,?_⟩;rcases B1.1 l with e|l
     .subst e;exact .inl k1
     .exact .inr ⟨us,U,(V_ m).1 l⟩
  .cases h
 .cases h
def u6:∀{a b:KX Nat},PV a b=true->a=b:=by
 intro a;induction a with
 |nil=>intro b h;cases b<;>first|rfl|cases h
 |cons x a d=>
  intro b h;cases b with
  |nil=>cases h
  |cons y b=>simp only[PV,A7]at h;rw[A5 h.1,d h.2]
theorem RE.dv{xs:KX t.T}(h:RE fr w I id t xs true v):
 ∃bs,DV fr.owned w I t [id] xs none [v] bs/\bs.Nodup/\∀b∈bs,I5 v=.map (some b):=by
 rcases h with⟨rfl,rfl⟩|⟨b,cap,cells,rfl,j,l,z,A,m,p,B,s⟩
 .exact⟨[],⟨_,rfl,rfl,.inr (.inl ⟨qu,rfl,rfl,rfl⟩)⟩,AW,λb e=>by cases e⟩
 .refine⟨[b],DV.mkleaf j l oa m (p rfl) s (λi x y=>oc),oh,λd a=>?_⟩
  .have:d=b:=by simpa using a
   rw[this];rfl
theorem A3E(B:Z2 P fr free σ w G){ids:KX Nat}{v:SV}{x:(E5 ids t).T}(h:RU σ ids t v=some x)(C:CR P w G v cs):
 ∃bs,(ids≠[]/\DV fr.owned w G.im t ids x none cs bs)/\bs.Nodup/\W7 σ G (GQ v) bs:=by
 unfold RU at h;split at h
 .rename_i k g;split at h
  .rename_i e m W Y hk;cases d:(Nat.beq g 0&&PV e ids)with
   |false=>grind
   |true=>
    rw[d]at h;have h:Ty.cast? (E5 e m) (E5 ids t) W=some x:=h;simp only[A7]at d;have s:=A5 d.1;have z:=u6 d.2;subst s z;obtain⟨j,ex⟩:=Ty.cast?_some h;have A:m=t:=by
     have:∀(l:KX Nat),E5 l m=E5 l t->m=t:=by
      intro l;induction l with
      |nil=>intro h;exact h
      |cons a l O=>intro h;injection h with h;exact O h
     exact this _ j
    subst A;cases ex;cases e with
    |nil=>exact absurd (B.objs _ _ hk) id
    |cons id r=>have⟨h0,H,U,us,bs,k1,y,Q,R,T⟩:=RA.inv (B.objs _ _ hk);obtain⟨V,p,_,E⟩:=C;rw[k1]at p;cases p;rw[E];exact⟨bs,⟨qu,T⟩,R,λb d=>⟨k,by simp[GQ],_,hk,rfl,us,y,(N1 Q).2 d⟩⟩
  .rename_i D m X M hk;cases d:(Nat.beq g 0&&(Nat.beq M 0&&PV [D] ids))with
   |false=>grind
   |true=>rw[d]at h;have h:Ty.cast? (.slice m) (E5 ids t) X=some x:=h;simp only[A7]at d;have s:=A5 d.1;have z:=A5 d.2.1;have L:=u6 d.2.2;subst s z L;obtain⟨j,ex⟩:=Ty.cast?_some h;have j:Ty.slice m=.slice t:=j;injection j with j;subst j;cases ex;have⟨_,U,k1,y⟩:=B.objs _ _ hk;obtain⟨V,p,_,E⟩:=C;rw[k1]at p;cases p;rw[E];have⟨bs,I,J,K⟩:=RE.dv y;refine⟨bs,⟨qu,I⟩,J,λb d=>⟨k,by simp[GQ],_,hk,?_⟩⟩;have⟨_,_,cap,cells,s,_⟩:=y.slice (K b d);grind[Bk]
  .cases h
 .split at h
  .cases h
  .rename_i id r;have N:x=([]:KX (E5 r t).T):=(A2 h).symm;refine⟨[],⟨qu,⟨_,C,rfl,.inr (.inl ⟨qu,rfl,N,rfl⟩)⟩⟩,AW,λb d=>by cases d⟩
 .cases h
def A3F(a:Z2 P fr free σ w G){ids:KX Nat}{v:SV}{x:(E5 ids t).T}(h:RU σ ids t v=some x)(b:CR P w G v cs):
 ∃bs,RF P w G.im (.dp ids t) x cs bs/\bs.Nodup/\W7 σ G (GQ v) bs:=
 let ⟨bs,h1,h2,h3⟩:=A3E a h b
 ⟨bs,⟨h1.1,h1.2.own λ_ _=>trivial⟩,h2,h3⟩
def A3G{f:Nat}{v:SV}{x:Unit}(h:Y4 f v=some x)(d:CR P w G v cs):cs=[.func (.func f) #[] #[]]:=by
 unfold Y4 at h;split at h
 .split at h
  .rename_i b;have:=A5 b;subst this;obtain⟨vs,e,a⟩:=d;have a:vs.toList=[]:=a;simp_all
  .cases h
 .cases h
def A3H{v:SV}{x:KX e.T}(h:dM e v=some x)(a:CR P w G v cs):Rel w G.im (.slice e) x cs/\∃b len cap,cs=[.slice (some b) len cap]:=by cases v<;>first|exact⟨Rel.cast h a.1,a.2⟩|cases h
def A3I{x:X1 (KX u.T)}{y:X1 (KX e.T)}(h:dN u e x=some y):∃h:u=e,h▸x=y:=by grind[dN,Ty.Z7,Option.some.inj]
def A3J{v:SV}{x:X1 (KX e.T)}(h:dO e v=some x)(b:CR P w G v cs):
 Rel w G.im (.slice e) (x.getD []) cs/\∃d len cap,cs=[.slice d len cap]/\(x=none->d=none):=by
 cases v with
 |nilS=>have h:none=x:=A2 h;subst h;have b:cs=[.slice none 0 0]:=b;subst b;exact⟨⟨none,0,rfl,⟨AD _,AT _⟩,λ_=>⟨rfl,rfl⟩,λd h=>om⟩,none,0,0,rfl,λ_=>rfl⟩
 |nns u y=>have⟨j,l⟩:=A3I h;subst j;subst l;obtain⟨A,d,n,m,B⟩:=b;exact⟨A,some d,n,m,B,λh=>om⟩
 |mns u y=>have⟨j,l⟩:=A3I h;subst j;subst l;exact b
 |val u y=>
  have h:(Ty.cast? u (.slice e) y).map some=some x:=h;cases p:Ty.cast? u (.slice e) y with
  |none=>rw[p]at h;cases h
  |some z=>rw[p]at h;have h:some z=x:=A2 h;subst h;have s:=Rel.cast p (show Rel w G.im u y cs from b);refine⟨s,?_⟩;obtain⟨a,cap,j,_⟩:=s;exact⟨a,_,cap,j,λh=>om⟩
 |_=>cases h
def AHW{x:t.T}(h:SR P w G (.rf0 t x) v):SR P w G (.ref t x) v:=by obtain⟨d,hd,b,c,a,e,j⟩:=h;exact⟨d,hd,⟨b,0,none⟩,c,a,rfl,e,j⟩
def A3K{v:SV}{x:Unit}(h:Y5 v=some x)(a:CR P w G v cs):cs=[.slice none 0 0]:=by
 unfold Y5 at h;split at h
 .exact a
 .cases h
theorem A3L(p:Z2 P fr free σ w G):∀{s:Sh} {v:SV} {x:s.T} {cs:KX X2} {t:Ty},PX σ s v=some x->CR P w G v cs->
 (TF s v).Nodup->Fit v t->∃bs,RF P w G.im s x cs bs/\bs.Nodup/\W7 σ G (TF s v) bs:=by
 intro s;induction s with
 |val t=>intro v x cs _ h j _ _;exact⟨[],⟨YY (λk o h=>p.objs k o h) h j,rfl⟩,AW,λb l=>by cases l⟩
 |own el t wr=>intro v x cs _ h j _ _;exact W0 p h j
 |io el t=>intro v x cs _ h j _ _;exact W0 (wr:=true) p h j
 |omap a b=>intro v x cs _ h j _ _;exact A3C p h j
 |og id a b=>intro v x cs _ h j _ _;exact A3D p h j
 |dp T t=>intro v x cs _ h j _ _;exact A3F p h j
 |pr a b B C=>
  intro v x cs t h j A R;simp only[PX]at h;split at h
  .rename_i y z H;split at h
   .rename_i x1 x2 O Q;have h:=A2 h;subst h;simp only[TF,H]at A ⊢;obtain⟨tx,ty,I,J,e1,K,L,rfl,M,N,_⟩:=tJ R j H;have m:=B2.1 A;have⟨D,U,V,W⟩:=B O M m.1 K;have⟨E,X,Y,Z⟩:=C Q N m.2.1 L;have⟨r1,r2⟩:=W.append p Z V Y A;exact⟨D++E,⟨I,J,D,E,rfl,rfl,U,X⟩,r1,r2⟩
   .cases h
  .cases h
 |fn f=>intro v x cs _ h j _ _;exact⟨[],⟨rfl,A3G h j⟩,AW,λb l=>by cases l⟩
 |nilS=>intro v x cs _ h j _ _;exact⟨[],⟨rfl,A3K h j⟩,AW,λb l=>by cases l⟩
 |nns e=>intro v x cs _ h j _ _;exact⟨[],⟨rfl,A3H h j⟩,AW,λb l=>by cases l⟩
 |mns e=>intro v x cs _ h j _ _;exact⟨[],⟨rfl,A3J h j⟩,AW,λb l=>by cases l⟩
 |box c ih=>intro v x cs _ h;cases h
 |hof d c=>intro v x cs _ h;cases h
 |any=>intro v x cs _ h;cases h
 |R9 el c=>intro v x cs _ h;cases h
 |tr s _=>intro v x cs _ h;cases h
 |fz t=>intro v x cs _ h;cases h
 |it a b=>intro v x cs _ h;cases h
def BF.one{d:Ty}{x:d.T}{l:KX X2}(hd:∀a b,d≠.prod a b)(h:BF w I d x l):∃v,l=[v]/\Z4 w I d x v:=by cases d<;>first|exact h|grind
def BF.mk_one{d:Ty}{x:d.T}(hd:N0 d=false)(h:Z4 w I d x v):BF w I d x [v]:=by cases d<;>first|exact⟨v,rfl,h⟩|cases hd
def AHX:∀{rs:KX Sh} {c:Ty} {y:Z5 rs} {z:c.T} {vs:KX X2} {bs:KX Nat},TD rs c y=some z->R2 P w I rs y vs bs->
 BF w I c z vs/\(N0 c=true->2<=vs.length)/\(N0 c=false->vs.length=1):=by
 intro rs;induction rs with
 |nil=>intro c y z vs bs h;cases h
 |cons a rs s=>
  intro c y z vs bs h l;cases a<;>first|(cases rs<;>cases h;done)|skip
  rename_i t;cases rs with
  |nil=>
   obtain⟨v,rfl,d,_⟩:=l;simp only[TD]at h;cases j:N0 c with
   |true=>grind
   |false=>rw[j]at h;simp only[A8]at h;exact⟨BF.mk_one j (Z4.cast h d),⟨λh=>absurd h oh,λ_=>rfl⟩⟩
  |cons b rs=>
   cases c<;>first|(cases h;done)|skip
   rename_i p q;obtain⟨v,e,B,C,rfl,rfl,⟨k1,G⟩,A⟩:=l;simp only[TD]at h;split at h
   .rename_i u r d m;have h:=A2 h;subst h;have⟨x,D,E⟩:=s m A;refine⟨⟨v,e,rfl,Z4.cast d k1,x⟩,λ_=>?_,λh=>om⟩;grind
   .cases h
def A3M{rs:KX Sh}{c:Ty}{y:Z5 rs}{z:c.T}{m:X2}(h:TD rs c y=some z)(B:R2 P w I rs y vs bs)(d:MK vs m):RetV w I c z m:=by
 have⟨p,s,x⟩:=AHX h B;cases l:N0 c with
 |true=>
  have j:=s l;have e:m=.tuple vs.toArray:=by
   rcases vs with _|⟨v,_|⟨C,vs⟩⟩
   .simp at j
   .simp at j
   .exact d
  cases c<;>first|(cases l;done)|skip
  exact⟨vs.toArray,e,p⟩
 |false=>
  have j:=x l;rcases vs with _|⟨v,_|⟨C,vs⟩⟩<;>first|(simp at j;done)|skip
  have e:m=v:=d;subst e;have A:∀a b,c≠.prod a b:=by intro a b e;subst e;cases l
  have⟨u,D,E⟩:=p.one A;grind[RetV.one]
def A3N:∀{ps:KX Sh},V9 ps=true->ps.filter EX=[]/\∀b,IF ps b=[]:=by
 intro ps;induction ps with
 |nil=>intro _;exact⟨rfl,λb=>by cases b<;>rfl⟩
 |cons a ps e=>
  intro h;cases a<;>first|(cases h;done)|skip
  have⟨j,d⟩:=e h;refine⟨?_,λb=>?_⟩
  .assumption
  .cases b with
   |nil=>rfl
   |cons v b=>exact d b
def u7(d:∀k o,σ k=some o->V1 P fr w G k o){x:t.T}(h:VA σ t s=some x)(a:SR P w G s v):Z4 w G.im t x v:=by
 have a:=tR d a;unfold VA at h;generalize RT σ s=s at h a;have key:∀{u:Ty} {y:u.T},SR P w G (.ref u y) v->dK u y t=some x->Z4 w G.im t x v:=by
  intro u y a h;unfold dK at h;split at h
  .rename_i e _;cases b:rV e u y with
   |none=>grind
   |some z=>
    rw[b]at h;have h:=A2 h;subst h;obtain⟨l,c,rfl,p,A,B⟩:=TO a;have j:u.sz=e.sz/\Rel w G.im e z c:=by
     unfold rV at b;split at b
     .grind[Ty.cast?_some,Rel.cast]
     .obtain⟨m,_⟩:=Ty.cast?_some b;exact⟨by rw[<-m];rfl,Rel.cast (t:=.agg u) b B⟩
    exact⟨_,rfl,l,rfl,p,c,j.1▸A,j.2⟩
  .cases h
 unfold A2C at h;split at h
 .exact key a h
 .exact key (AHW a) h
 .exact KD d h a
def WA{a:Sh}{r:KX Sh}{x:a.T}{y:Z5 r}(h:ShV P w I a x v [])(d:R2 P w I r y vs []):R2 P w I (a::r) (TE a r x y) (v::vs) []:=by
 cases r with
 |nil=>obtain⟨rfl,_⟩:=d;exact⟨v,rfl,h⟩
 |cons b r=>exact⟨v,vs,[],[],rfl,rfl,h,d⟩
def AHY(C:∀k o,σ k=some o->V1 P fr w G k o):∀{l:KX Sh} {ss:KX SV} {x:Z5 l} {vs:KX X2},X_ σ l ss=some x->ss.length=vs.length->
 (∀(j:Nat) (s:SV) (v:X2),ss[j]?=some s->vs[j]?=some v->SR P w G s v)->∀w' I',Ext w G.im w' I'->R2 P w' I' l x vs []:=by
 intro l;induction l with
 |nil=>
  intro ss x vs h b _ w' I' _;cases ss with
  |nil=>exact⟨AK b.symm,rfl⟩
  |cons _ _=>cases h
 |cons a l D=>
  intro ss x vs h b e w' I' d;cases ss with
  |nil=>cases a<;>cases h
  |cons s ss=>
   cases vs with
   |nil=>cases b
   |cons v vs=>
    cases a<;>first|(cases h;done)|skip
    rename_i t;simp only[X_]at h;split at h
    .rename_i y z m p;have h:=A2 h;subst h;refine WA ⟨(u7 C m (e 0 s v rfl rfl)).ext d,rfl⟩ (D p (by simpa using b) (λj s v A B=>e (j+1) s v (by simpa using A) (by simpa using B)) w' I' d)
    .cases h
def AHZ(H:∀k o,σ k=some o->V1 P fr w G k o){cs:KX SV}(E:cs.length=vs.length)(J:∀(j:Nat) (s:SV) (v:X2),cs[j]?=some s->vs[j]?=some v->SR P w G s v)
 {w':X4}(D:Ext w G.im w' I'):∀{n:Nat} {ps:KX Sh} {d:Ty} {x:d.T} {v:Z5 ps} {l:KX X2},Y0 σ cs n ps d x=some v->BF w' I' d x l->R2 P w' I' ps v (l++vs) []:=by
 intro n;induction n with
 |zero=>
  intro ps d x v l h B;cases ps with
  |nil=>cases h
  |cons a ps=>
   cases a<;>first|(cases h;done)|skip
   rename_i t;simp only[Y0]at h;cases C:N0 d with
   |true=>grind
   |false=>
    rw[C]at h;simp only[A8]at h;split at h
    .rename_i y z m A;have h:=A2 h;subst h;obtain⟨u,rfl,K⟩:=B.one (λa b e=>by subst e;cases C);exact WA ⟨Z4.cast m K,rfl⟩ (AHY H A E J w' I' D)
    .cases h
 |succ n L=>
  intro ps d x v l h B;cases ps with
  |nil=>cases h
  |cons a ps=>
   cases a<;>first|(cases h;done)|skip
   rename_i t;cases d<;>first|(cases h;done)|skip
   rename_i p q;simp only[Y0]at h;split at h
   .rename_i y z m A;have h:=A2 h;subst h;obtain⟨u,r,rfl,k1,M⟩:=B;exact WA ⟨Z4.cast m k1,rfl⟩ (L A M)
   .cases h
def A3O:∀{l:SV} {vs:KX X2},CR P w G l vs->l.list.length<=vs.length->∀(j:Nat) (s:SV) (v:X2),l.list[j]?=some s->vs[j]?=some v->SR P w G s v:=by
 intro l;induction l with
 |scons a b A B=>
  intro vs h y j s v d z;obtain⟨C,r,rfl,⟨c,p,x⟩,D⟩:=h;cases j with
  |zero=>
   have e:a=s:=by simpa[SV.list]using d
   have m:C=v:=by simpa using z
   subst e m;exact⟨c,p,x⟩
  |succ j=>grind[SV.list]
 |_=>intro vs h y j s v d;simp[SV.list]at d
def A3P:∀{l:SV} {vs:KX X2},CR P w G l vs->PT l=true->l.list.length=vs.length:=by
 intro l;induction l with
 |snil=>intro vs h _;have h:vs=[]:=h;rw[h];rfl
 |scons a b j d=>intro vs h hk;obtain⟨m,r,rfl,_,e⟩:=h;simp[SV.list,d e hk]
 |_=>intro vs h hk;cases hk
def fK(ho:∀k o,σ k=some o->V1 P fr w G k o)(hE:∀f s,fs f=some s->FJ P f/\Z9 P f s){d c:Ty}{v:SV}{F:d.T->X1 c.T}{nd:X5}{D:Prop}(V:D->nd=true\/((∀f s,fs f=some s->s.dr=true)/\∀p U T F',v≠.hof p U T F'))(h:PU nd fs σ d c v=some F)(H:CR P w G v cs):
 ∃f vs,cs=[.func (.func f) #[] vs]/\HofD P D w G.im d c F f vs:=by
 unfold PU at h;split at h
 .rename_i p U T F';cases C:(!nd||p)with
  |false=>grind
  |true=>
  rw[C]at h;simp only[A4]at h;unfold A2B at h;split at h
  .rename_i K;split at h
   .rename_i L;have e1:=Ty.Z7 K;have e2:=Ty.Z7 L;subst e1 e2;have h:=A2 h;subst h;obtain⟨f,vs,J,E,h3⟩:=H;refine⟨f,vs,J,E,λw' I' M N x l O y m=>(h3 w' I' M N x l O y m).mono λe R ⟨Q,I'',k1,k2,k3,k4⟩=>⟨Q,I'',k1,k2,k3,λhd=>k4 ((V hd).elim (λe=>oc) λhh=>absurd rfl (hh.2 _ _ _ _))⟩⟩
   .cases h
  .cases h
 .rename_i f j;split at h
  .rename_i s X;cases a:(PT j&&V9 s.ps&&(!nd||s.dr)&&A2D σ (Y1 d) s.ps j.list)with
   |false=>grind
   |true=>rw[a]at h;have h:=A2 h;subst h;simp only[A7]at a;obtain⟨vs,J,E⟩:=H;obtain⟨⟨a,C⟩,_⟩:=a;have⟨M,A⟩:=hE _ _ X;have B:=A3P E a.1;refine⟨f,vs,J,M,λw' I' z N x l O y m=>?_⟩;have⟨v,hv,m⟩:=B8.1 m;have⟨r,H,m⟩:=B8.1 m;have⟨a1,Z⟩:=A3N a.2;have W:=A w' I' v (l++vs.toList) [] N (AHZ ho B (A3O E oa) z hv O) AW r H;rw[show(l++vs.toList).toArray=(l.toArray++vs:Array X2) by simp]at W;refine Calls.mono W λe R hq=>?_;obtain⟨Q,h5,I',h4,q1,q2,q3,q4,Y,_,_,qd⟩:=hq;rw[Z,CX]at Y;exact⟨Q,I',q1,q4.mono (λb K=>by cases K),A3M m Y q3,λhd=>qd ((V hd).elim (λe=>oc) λh=>h.1 _ _ X)⟩
  .cases h
 .cases h
def SR.cell(h:SR P w G s v)(a:∀t x,s≠.val t x):CR P w G s [v]:=SR.one h a
def AH_(s:Z2 P fr free σ w G){c:Sh}{v:SV}{x:c.T}(h:VC σ c v=some x)(z:CR P w G v cs)(d:(dR σ c v).Nodup):
 ∃bs,RF P w G.im (.box c) x cs bs/\bs.Nodup/\W7 σ G (dR σ c v) bs:=by
 unfold VC at h;split at h
 .rename_i k u;split at h
  .rename_i t cv hk;cases A:t.same c.ty with
   |false=>grind
   |true=>
    rw[A]at h;have h:PX σ c cv=some x:=h;have H:=Ty.Z7 A;subst H;have⟨b,cells,el,k1,N,O,Q,R,T,U,V⟩:=s.objs _ _ hk;obtain⟨Y,t',o,B,L,_,M⟩:=z;rw[k1]at B;cases B;have K:o=0:=by have:Ty.off c.ty []=some o:=L;cases J:c.ty<;>rw[J]at this<;>exact(A2 this).symm
    subst K;simp only[dR,hk]at d ⊢;have j:=AY.1 d;have⟨a,W,X,D⟩:=A3L s h R j.2 Q;refine⟨b::a,⟨b,cells,el,a,M,rfl,N,O,W,T.1 rfl,U,V.2⟩,AY.2 ⟨λI=>?_,X⟩,λE l=>?_⟩
    .obtain⟨C,p,Z,y,m⟩:=D b I;have:=s.sep k C _ _ b hk y (by simp[Bk,k1]) m;grind
    .rcases B1.1 l with e|e
     .grind[List.mem_cons_self,Bk]
     .obtain⟨C,p,z⟩:=D E e;grind
  .cases h
 .cases h
def AHa{k:Nat}{x:SV}(hk:G.box k=some (b,t))(h:dQ k x=true)(d:CR P w G x cs):cs=[.pointer none]\/cs=[.pointer (some ⟨b,0,none⟩)]:=by
 unfold dQ at h;split at h
 .rename_i u y;have:=Ty.Z7 h;subst this;exact .inl d
 .have:=A5 h;subst this;obtain⟨j,l,a,e⟩:=d;grind
 .have:=A5 h;subst this;obtain⟨j,l,o,a,e,_,m⟩:=d;rw[hk]at a;cases a;have p:o=0:=by cases t<;>exact(A2 e).symm
  grind
 .cases h
def AHb(I:Z2 P fr free σ w G){c:X5}{v:SV}{x:KX Int}(h:VB σ el v=some x)(M:CR P w G v cs)(l:(dS σ v).Nodup):
 ∃bs,RF P w G.im (.R9 el c) x cs bs/\bs.Nodup/\W7 σ G (dS σ v) bs:=by
 unfold VB at h;split at h
 .rename_i k u;split at h
  .rename_i t cv hk;cases N:t.same GT with
   |false=>grind
   |true=>
    rw[N]at h;simp only[A4]at h;have et:=Ty.Z7 N;subst et;split at h
    .rename_i y z;cases d:dQ k y with
     |false=>rw[d]at h;cases h
     |true=>
      rw[d]at h;have h:LR σ el (.int .u8) true z=some x:=h;have⟨b,cells,s,k1,k2,k3,k4,k5,k6,k7,k8⟩:=I.objs _ _ hk;obtain⟨b',t',o,O,j2,_,j4⟩:=M;rw[k1]at O;cases O;have ho:o=0:=(A2 j2).symm;subst ho;obtain⟨V,W,X,Y,Z⟩:=k5;have E:=AHa k1 d Y;simp only[dS,hk]at l ⊢;have L:=AY.1 l;have⟨j,R,p2,T⟩:=W0 I h Z;have a:∃q,W=[q]:=by
       rcases R with⟨a,_⟩|⟨g,cap,K,a,_⟩
       .grind
       .grind
      obtain⟨q,rfl⟩:=a;have m:∃p,V=[p]/\(p=.pointer none\/p=.pointer (some ⟨b,0,none⟩)):=by
       rcases E with m|m
       .grind
       .grind
      obtain⟨p,rfl,m⟩:=m;refine⟨b::j,⟨b,cells,s,p,q,j,j4,rfl,k2,k8.2 rfl,X,m,k6.1 rfl,k7,?_⟩,AY.2 ⟨λhb=>?_,p2⟩,λU C=>?_⟩
      .rcases R with⟨a,A,B⟩|⟨g,cap,K,a,A,B,h3,h4,h5,h6,_,h8⟩
       .exact .inl ⟨AB.1 a,A,B⟩
       .exact .inr ⟨g,cap,K,AB.1 a,A,B,h3,h4,h5,h6 rfl,h8⟩
      .obtain⟨Q,H,o',J,D⟩:=T b hb;have:=I.sep k Q _ _ b hk J (by simp[Bk,k1]) D;grind
      .rcases B1.1 C with e|e
       .grind[List.mem_cons_self,Bk]
       .obtain⟨Q,H,M⟩:=T U e;grind
    .cases h
  .cases h
 .cases h
theorem A3Q(e:Ty):e.off []=some 0:=by cases e<;>rfl
theorem A3R(m:Z2 P fr free σ w G)(O:∀f K,fs f=some K->FJ P f/\Z9 P f K){s:Sh}{v:SV}{x:s.T}{val:X2}(h:VD fs σ s v=some x)(l:SR P w G v val)
 (p:(RV σ s v).Nodup):∃bs,ShV P w G.im s x val bs/\bs.Nodup/\W7 σ G (RV σ s v) bs:=by
 have j:W7 σ G (RV σ s v) []:=λb A=>by cases A
 cases s with
 |val t=>exact⟨[],⟨KD (λk o h=>m.objs k o h) h l,rfl⟩,AW,j⟩
 |own el t wr=>have h:LR σ el t wr v=some x:=h;refine W0 m h (l.cell λt y e=>?_);subst e;cases h
 |io el t=>have h:LR σ el t true v=some x:=h;refine W0 (wr:=true) m h (l.cell λt y e=>?_);subst e;cases h
 |omap a b=>have h:Y2 σ a b v=some x:=h;refine A3C m h (l.cell λt y e=>?_);subst e;cases h
 |og id a b=>have h:Y3 σ id a b v=some x:=h;refine A3D m h (l.cell λt y e=>?_);subst e;cases h
 |fz t=>have h:VA σ t v=some x:=h;exact⟨[],⟨u7 (λk o h=>m.objs k o h) h l,rfl⟩,AW,j⟩
 |it a b=>have h:dL σ a b v=some x:=h;exact AHT m h l
 |dp I t=>have h:RU σ I t v=some x:=h;refine A3F m h (l.cell λt y e=>?_);subst e;cases h
 |box c=>have h:VC σ c v=some x:=h;refine AH_ m h (l.cell λt y e=>?_) p;subst e;cases h
 |pr a b=>cases h
 |hof nd d c=>have h:PU nd fs σ d c v=some x:=h;exact⟨[],⟨rfl,fK (D:=nd=true) (λk o h=>m.objs k o h) O (λh=>.inl h) h (l.cell λt y e=>by subst e;cases h)⟩,AW,j⟩
 |fn f=>have h:Y4 f v=some x:=h;exact⟨[],⟨rfl,A3G h (l.cell λt y e=>by subst e;cases h)⟩,AW,j⟩
 |nilS=>have h:Y5 v=some x:=h;exact⟨[],⟨rfl,A3K h (l.cell λt y e=>by subst e;cases h)⟩,AW,j⟩
 |any=>exact⟨[],rfl,AW,j⟩
 |tr s=>
  have h:A2E σ s v=some x:=h;cases v with
  |bt u c=>
   have h:(bif dP s&&u.same (.agg s.ty)then PX σ s c else none)=some x:=h;cases A:(dP s&&u.same (.agg s.ty))with
   |false=>rw[A]at h;cases h
   |true=>rw[A]at h;have H:PX σ s c=some x:=h;simp only[A7]at A;obtain⟨cc,E,B,C,⟨a,b,Q,D⟩,M,N⟩:=l;have R:val=.agg B.toArray:=AB.1 ((show cc=[val]from E).symm.trans C);have⟨bs,T,U,V⟩:=A3L m H N p D;exact⟨bs,⟨A.1,B,R,M,T⟩,U,V⟩
  |_=>cases h
 |R9 el c=>have h:VB σ el v=some x:=h;refine AHb (c:=c) m h (l.cell λt y e=>?_) p;subst e;cases h
 |nns e=>have h:dM e v=some x:=h;exact⟨[],⟨rfl,A3H h (l.cell λt y e=>by subst e;cases h)⟩,AW,j⟩
 |mns e=>
  have h:dO e v=some x:=h;refine⟨[],⟨rfl,A3J (P:=P) h ?_⟩,AW,j⟩;cases v with
  |val t y=>
   have h:(Ty.cast? t (.slice e) y).map some=some x:=h;cases J:Ty.cast? t (.slice e) y with
   |none=>rw[J]at h;cases h
   |some z=>obtain⟨L,W⟩:=Ty.cast?_some J;subst L;obtain⟨c,C,D⟩:=l;have C:c=[_]:=C;subst C;exact D
  |_=>exact l.cell λt y e=>by cases e
theorem fL{a b:Sh}{r:KX Sh}{v:SV}{vs:KX SV}:RW fs σ (a::b::r) (v::vs)=(match VD fs σ a v,RW fs σ (b::r) vs with
 |some x,some y=>some (x,y)
 |_,_=>none):=rfl
theorem AHc(A:Z2 P fr free σ w G)(I:∀f K,fs f=some K->FJ P f/\Z9 P f K):∀{l:KX Sh} {d:KX SV} {x:Z5 l} {vs:KX X2},RW fs σ l d=some x->
 d.length=vs.length→(∀(j:Nat) (s:SV) (v:X2),d[j]?=some s→vs[j]?=some v→SR P w G s v)→(GL σ l d).Nodup→∃bs,R2 P w G.im l x vs bs∧bs.Nodup∧W7 σ G (GL σ l d) bs:=by
 intro l;induction l with
 |nil=>
  intro d x vs h p _ _;cases d with
  |nil=>exact⟨[],⟨AK p.symm,rfl⟩,AW,λb L=>by cases L⟩
  |cons _ _=>cases h
 |cons a l M=>
  intro d x vs h p J e;cases d with
  |nil=>cases l<;>cases h
  |cons s d=>
   cases vs with
   |nil=>cases p
   |cons v vs=>
    have h0:=J 0 s v rfl rfl;cases l with
    |nil=>
     cases d with
     |cons _ _=>cases h
     |nil=>have h:VD fs σ a s=some x:=h;simp only[GL,CX]at e ⊢;obtain⟨bs,B,C,D⟩:=A3R A I h h0 e;have:vs=[]:=AK oc;subst this;exact⟨bs,⟨v,rfl,B⟩,C,D⟩
    |cons b l=>
     rw[fL]at h;split at h
     .rename_i U V y z;have h:=A2 h;subst h;rw[GL]at e ⊢;have m:=B2.1 e;obtain⟨E,B,C,D⟩:=A3R A I y h0 m.1;obtain⟨H,N,O,Q⟩:=M z (by simpa using p) (λj s v y z=>J (j+1) s v (by simpa using y) (by simpa using z)) m.2.1;obtain⟨R,T⟩:=D.append A Q C O e;exact⟨E++H,⟨v,vs,E,H,rfl,rfl,B,N⟩,R,T⟩
     .cases h
theorem OU{k:Nat}:∀{l:KX Nat},F4 k l=true<->k∈l:=by intro l;induction l<;>simp_all[F4,CD,B1,A5,id,CS]
theorem A3S:∀{l:KX Nat},LT l=true->l.Nodup:=by
 intro l;induction l with
 |nil=>simp
 |cons k r a=>intro h;simp only[LT,A7]at h;grind[List.nodup_cons,hk,OU]
def fM(m:Z2 P fr free σ w G)(d:∀f b,fs f=some b->FJ P f/\Z9 P f b){l:KX Sh}{a:KX SV}{x:Z5 l}(h:RX fs σ l a=some x)
 (e:a.length=vs.length)(p:∀(j:Nat) (s:SV) (v:X2),a[j]?=some s->vs[j]?=some v->SR P w G s v):∃bs,R2 P w G.im l x vs bs/\bs.Nodup/\W7 σ G (GL σ l a) bs:=by
 grind[RX,LT,GL,AHc,A3S]
end
end Go.Ev
