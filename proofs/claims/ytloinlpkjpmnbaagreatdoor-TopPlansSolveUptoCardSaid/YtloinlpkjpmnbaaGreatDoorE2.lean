/-
  The evaluator's operations, second part: slices, maps, contracts and calls.
-/
import Derived.Test.YtloinlpkjpmnbaaGreatDoorE1
import Derived.Laws.Cells
import Derived.Laws.CopyRow
import Derived.Deep.AppendSrc
import Derived.Laws.MakeOwn
import Derived.Laws.Tables
import Derived.Great.BuildSlice
import Derived.Laws.BytesString
import Derived.MapKept
import Derived.Lib.ConvBytes
set_option linter.unusedVariables false
set_option linter.unusedSimpArgs false
set_option linter.unusedSectionVars false
set_option maxRecDepth 100000
namespace Go.Ev
variable{b o el id k i n cap ty id2 src:Nat}{t u e:Ty}{wr ke:Bool}{I I':Im}{v cv vx vk vm:Value}{c us cs ds vs:List Value}{bss:List (List Nat)}{ow:Nat->Prop}{r:OpRes}{h:Option (List Nat)}{bs ks ids:List Nat}{s:SV}{α:Type}{fs:Nat->Option FSpec}{places:List (Nat×Nat)}{ps:List (Nat×SV)}
variable [Pins]
section
variable{P:Program}{fr:Fr}{free free':Nat->Prop}{self:Nat}{σ:SSo}{w w':World}{G G':Gh}
theorem UC{o:Go.Obj}(h:w.heap[b]?=some o):b<w.heap.size:=(BO.1 h).1
theorem SlOK.slice{xs:List t.T}(h:SlOK fr w I el t xs wr v){c:Nat}(hc:HO v=.map (some c)):
 c<w.heap.size/\fr.owned c/\∃cap cs,v=.slice (some ⟨c,0,none⟩) xs.length cap/\RowAt w c cs el:=by
 rcases h with⟨rfl,_⟩|⟨b,cap,cs,rfl,e,a,i,j,d,_⟩
 .cases hc
 .injection hc with hc;injection hc with hc;have hc:b=c:=hc;subst hc;exact⟨a.lt,d,cap,cs,rfl,a⟩
theorem MgOK.own{k:Ty}{j:List (k.T×List t.T)}{tk:Option k.T}(h:MgOK fr w I id k t j tk us cv){c:Nat}(hc:Value.map (some c)∈us):
 ∃(x:List t.T) (v:Value),SlOK fr w I id t x false v/\HO v=.map (some c):=by
 obtain⟨b,a,d,rfl,q,⟨r,_⟩,s,y,_⟩:=h;obtain⟨i,l⟩:=C6 hc;have o:i<us.length:=(A9.1 l).1;obtain⟨x,A⟩:∃x,j[i]?=some x:=⟨_,A1 oa⟩;obtain⟨e,z⟩:∃e,a[i]?=some e:=⟨_,B7 oa⟩;grind
theorem SlOK.keep{xs:List t.T}(h:SlOK fr w I el t xs wr v)(e:Ext w I w' I')
 (C:∀c,HO v=.map (some c)->w'.heap[c]?=w.heap[c]? /\(∀b,I'.cell c b->I.cell c b)/\(I'.obj c->I.obj c)):SlOK fr w' I' el t xs wr v:=by
 rcases h with⟨rfl,rfl⟩|⟨k,cap,cs,rfl,r,s,y,z,A,B,l,j⟩
 .exact .inl ⟨rfl,rfl⟩
 .obtain⟨k1,q,E⟩:=C k rfl;exact .inr ⟨k,cap,cs,rfl,r,s.keep k1,y,λi x D=>(z i x D).ext e,A,λd o a=>B d o (q o a),λd o=>⟨λa=>(e.cell _ _ ((l d o).1 a)).1,λa=>(l d o).2 (q o a)⟩,λa=>j (E a)⟩
theorem X_(h:b∈bss.getD i []):b∈bss.flatten:=by
 rw[AD]at h;grind[List.mem_flatten,List.mem_of_getElem?]
theorem DV.keep(e:Ext w I w' I'):∀{ids:List Nat} {x:(E7 ids t).T} {h:Option (List Nat)} {cs:List Value} {bs:List Nat},DV ow w I t ids x h cs bs->
 (∀b∈bs,w'.heap[b]?=w.heap[b]? /\(∀j,I'.cell b j->I.cell b j)/\(I'.obj b->I.obj b))->DV ow w' I' t ids x h cs bs:=by
 intro ids;induction ids with
 |nil=>intro x h cs bs k _;exact⟨k.1,Rel.ext e k.2⟩
 |cons id r C=>
  intro x h cs bs k q;obtain⟨v,rfl,y,d⟩:=k;refine⟨v,rfl,y,?_⟩;rcases d with d|d|⟨d,b,o,cap,a,bss,rfl,G,H,J,K,L,M,N,rfl,O⟩
  .exact .inl d
  .grind
  .obtain⟨k1,D,E⟩:=q b AL
   exact .inr (.inr ⟨d,b,o,cap,a,bss,rfl,G,H.keep k1,J,K,λc z=>L c (D c z),λA=>M (E A),N,rfl,λi x B =>
    C (O i x B) λs l=>q s (AP _ (X_ l))⟩)
theorem DV.blk:∀{ids:List Nat} {x:(E7 ids t).T} {h:Option (List Nat)} {cs:List Value} {bs:List Nat},DV ow w I t ids x h cs bs->
 ∀b∈bs,b<w.heap.size/\ow b/\(∀c,¬I.cell b c)/\¬I.obj b:=by
 intro ids;induction ids with
 |nil=>intro x h cs bs e b a;rw[e.1]at a;cases a
 |cons id r z=>
  intro x h cs bs e b a;obtain⟨v,rfl,J,k⟩:=e;rcases k with⟨_,rfl,_⟩|⟨_,_,_,rfl⟩|⟨k,H,o,cap,d,bss,rfl,K,A,L,B,C,D,E,rfl,G⟩
  .cases a
  .cases a
  .rcases B2.1 a with rfl|a
   .exact⟨A.lt,B,C,D⟩
   .obtain⟨l,y,q⟩:=List.mem_flatten.1 a;obtain⟨i,s⟩:=C6 y;have j:i<List.length (show List (E7 r t).T from x):=by rw[<-E];exact(A9.1 s).1
    refine z (G i _ (A1 j)) b ?_;grind
theorem DV.head{r:List Nat}{x:List (E7 r t).T}(j:DV ow w I t (id::r) x h cs bs):
 ∃a cap,cs=[.slice a x.length cap]∧x.length≤281474976710656:=by
 obtain⟨v,rfl,k,e⟩:=j;rcases e with⟨_,_,a,cap,rfl,i⟩|⟨_,rfl,i,_⟩|⟨_,b,o,cap,d,bss,rfl,q,_⟩
 .grind
 .grind
 .exact⟨_,cap,rfl,q.2⟩
theorem DV.own{ow':Nat->Prop}:∀{ids:List Nat} {x:(E7 ids t).T} {h:Option (List Nat)} {cs:List Value} {bs:List Nat},DV ow w I t ids x h cs bs->(∀b∈bs,ow' b)->
 DV ow' w I t ids x h cs bs:=by
 intro ids;induction ids with
 |nil=>intro x h cs bs j _;exact j
 |cons id r y=>
  intro x h cs bs j k;obtain⟨v,rfl,q,d⟩:=j;refine⟨v,rfl,q,?_⟩;rcases d with d|d|⟨d,b,o,cap,a,bss,rfl,z,A,B,H,C,D,E,rfl,G⟩
  .exact .inl d
  .grind
  .exact .inr (.inr ⟨d,b,o,cap,a,bss,rfl,z,A,B,k b AL,C,D,E,rfl,λi x s =>
    y (G i x s) λl e=>k l (AP _ (X_ e))⟩)
theorem AE3{a:Nat}(h:I8 a=I8 b):a=b:=by
 injection h with h;injection h
theorem M3(h:us=List.map I8 bs):I8 b∈us<->b∈bs:=by
 rw[h,B1];exact⟨λ⟨a,d,e⟩=>AE3 e▸d,λh=>⟨b,h,rfl⟩⟩
theorem DpOK.inv{r:List Nat}{x:(E7 (id::r) t).T}{a:Nat}(b:DpOK fr w G k (id::r) t x a h true):
 h≠some []/\G.ety k=some (E7 r t)/\∃v us bs,G.val k 0=some v/\G.val a 0=some (.tuple us)/\us.toList=List.map I8 bs/\bs.Nodup/\DV fr.owned w G.im t (id::r) x h [v] bs:=
 let ⟨h0,h1,v,us,bs,h2,h3,h4,h5,h6,_⟩:=b
 ⟨h0,h1,v,us,bs,h2,h3,h4,h5,h6⟩
theorem DpOK.hole{r:List Nat}{x:(E7 (id::r) t).T}{a:Nat}(b:DpOK fr w G k (id::r) t x a h true)(i:G.val k 0=some v):pD w G a h v:=by
 obtain⟨_,_,j,_,_,d,_,_,_,_,e⟩:=b;grind
theorem IN{o:Obj}(h:ObjOK P fr w G k o)(d:Bk G k o b):b<w.heap.size:=by
 cases o with
 |box t c wr=>
  obtain⟨y,cs,el,q,j,_⟩:=h;simp_all[Bk,BH,AO,UC]
 |sl el t K g wr=>
  obtain⟨_,v,q,j⟩:=h;simp only[Bk,q]at d;rcases j with⟨rfl,_⟩|⟨y,cap,cs,rfl,_,i,_⟩
  .cases d
  .cases d;exact i.lt
 |mp a y B wr=>
  obtain⟨v,q,A,l,e,rfl,i,_⟩:=h;grind[Bk,Option.some.injEq,UC]
 |mg id a t B tk C=>
  obtain⟨v,us,q,j,i⟩:=h;rcases d with d|⟨z,s,d⟩
  .obtain⟨y,l,e,rfl,D,_⟩:=i;grind
  .rw[j]at s;cases s;obtain⟨x,J,k1,H⟩:=i.own d;exact(k1.slice H).1
 |dp ids t x C I wr=>
  obtain⟨rfl,z,s,d⟩:=d;cases ids with
  |nil=>exact absurd h id
  |cons id r=>
   obtain⟨_,_,v,us,bs,q,j,i,D,E⟩:=DpOK.inv h;rw[j]at s;cases s;exact(E.blk b ((M3 i).1 d)).1
 |kn f c=>exact d.elim
 |kv t x=>exact d.elim
theorem GT{o:Obj}(h:ObjOK P fr w G k o)(d:GLe w G w' G'):Bk G' k o b<->Bk G k o b:=by
 cases o with
 |box t c wr=>obtain⟨j,cs,el,e,_⟩:=h;simp[Bk,e,d.box _ _ e]
 |sl el t B g wr=>obtain⟨_,v,e,i⟩:=h;simp[Bk,e,d.val _ _ _ e]
 |mp a j l wr=>obtain⟨v,e,_⟩:=h;simp[Bk,e,d.val _ _ _ e]
 |mg id a t l tk q=>obtain⟨v,us,e,i,_⟩:=h;simp[Bk,e,d.val _ _ _ e,i,d.val _ _ _ i]
 |dp ids t x q s wr=>
  cases wr with
  |false=>simp[Bk]
  |true=>
   cases ids with
   |nil=>exact absurd h id
   |cons id r=>
    obtain⟨_,_,v,us,bs,e,i,y,z,A⟩:=DpOK.inv h;simp[Bk,i,d.val _ _ _ i]
 |kn f c=>exact Iff.rfl
 |kv t x=>exact Iff.rfl
theorem ObjOK.keep{o:Obj}(h:ObjOK P fr w G k o)(d:GLe w G w' G')
 (M:∀b,Bk G k o b->w'.heap[b]?=w.heap[b]? /\(∀T,G'.im.cell b T->G.im.cell b T)/\(G'.im.obj b->G.im.obj b)):ObjOK P fr w' G' k o:=by
 cases o with
 |box t c wr=>
  obtain⟨z,cs,el,l,q,y,C,D,H,K,L⟩:=h;obtain⟨k1,I,N⟩:=M z (by simp[Bk,l]);exact⟨z,cs,el,d.box _ _ l,k1.trans q,y,C,D.mono d,⟨λA o j=>H.1 A o (I o j),λA o j=>(d.ext.cell _ _ (H.2 A o j)).1⟩,λj=>K (N j),L⟩
 |sl el t xs g wr=>
  obtain⟨h0,v,l,q⟩:=h;refine⟨d.ety _ _ h0,v,d.val _ _ _ l,?_⟩;rcases q with⟨rfl,rfl⟩|⟨z,cap,cs,rfl,y,C,D,H,K,L,U,J⟩
  .exact .inl ⟨rfl,rfl⟩
  .obtain⟨k1,I,N⟩:=M z (by simp[Bk,l]);refine .inr ⟨z,cap,cs,rfl,y,C.keep k1,D,λi x Q=>(H i x Q).ext d.ext,K,λA o j=>L A o (I o j),λA o=>⟨λj=>(d.ext.cell _ _ ((U A o).1 j)).1,λj=>(U A o).2 (I o j)⟩,λj=>J (N j)⟩
 |mp a b es wr=>
  obtain⟨v,l,z,B,s,rfl,y,C,D,H,K,L⟩:=h;obtain⟨k1,I,N⟩:=M z (by simp[Bk,l]);exact⟨_,d.val _ _ _ l,z,B,s,rfl,k1.trans y,C,λi x e Q V=>⟨(D i x e Q V).1.ext d.ext,(D i x e Q V).2.ext d.ext⟩,⟨λA j=>H.1 A (N j),λA=>(d.ext.obj _ (H.2 A)).1⟩,λo j=>K o (I o j),L⟩
 |mg id a t es tk gk=>
  obtain⟨v,us,l,q,z,B,s,rfl,y,C,D,H,K,L,U,J,x0⟩:=h;obtain⟨k1,I,N⟩:=M z (.inl l);refine⟨_,us,d.val _ _ _ l,d.val _ _ _ q,z,B,s,rfl,k1.trans y,C,D,λi x e u Q V hu=>?_,K,L,λj=>U (N j),λo j=>J o (I o j),x0⟩;obtain⟨q1,q2⟩:=H i x e u Q V hu;refine⟨q1.ext d.ext,q2.imp (λ⟨W,X,a3⟩=>⟨W,X,a3.ext d.ext⟩) λ⟨W,X⟩=>⟨W.keep d.ext λc hc=>?_,X⟩⟩;exact M c (.inr ⟨us,q,oc⟩)
 |dp ids t x gk h' wr=>
  cases ids with
  |nil=>exact absurd h id
  |cons id r=>
   cases wr with
   |false=>
    obtain⟨v,l,q⟩:=h;exact⟨v,d.val _ _ _ l,Rel.ext d.ext q⟩
   |true=>
    obtain⟨h0,R,v,us,bs,l,q,y,C,D⟩:=DpOK.inv h;have E:=DpOK.hole h l;refine⟨h0,d.ety _ _ R,v,us,bs,d.val _ _ _ l,d.val _ _ _ q,y,C,D.keep d.ext λb x1=>M b ⟨rfl,us,q,(M3 y).2 x1⟩,?_⟩;unfold pD at E ⊢;split at E
    .rename_i i;obtain⟨hv,b,o,len,cap,e1,rfl,e0,e2⟩:=E;refine⟨hv,b,o,len,cap,d.val _ _ _ e1,rfl,e0,?_⟩;obtain⟨v',Z,_,O⟩:=D;have Z:=AB.1 Z;subst Z
     have x2:b∈bs:=by
      rcases O with⟨O,_⟩|⟨_,O,_⟩|⟨_,z,o',y0,Y,bss,O,_,_,_,_,_,_,_,e5,_⟩
      .cases O
      .cases O
      .grind
     have:=(M b ⟨rfl,us,q,(M3 y).2 x2⟩).1;grind[World.cell?]
    .trivial
 |kn f c=>
  obtain⟨b,vs,l,q,y,C⟩:=h;exact⟨b,vs,d.box _ _ l,(d.ext.cell _ _ q).1,(d.ext.cell _ _ q).2.trans y,C.mono d⟩
 |kv t x=>
  obtain⟨b,c,l,q,y⟩:=h;exact⟨b,c,d.box _ _ l,q.ext d.ext,Rel.ext d.ext y⟩
theorem MemS.change(v:MemS P fr free σ w G){o':Option Obj}
 (s:GLe w G w' G')(V:∀j o,j≠k->σ j=some o->¬Bk G j o b)
 (O:∀a,a<w.heap.size->a≠b->w'.heap[a]?=w.heap[a]?)(z:w.heap.size<=w'.heap.size)(Y:b<w'.heap.size)(E:fr.owned b)
 (I:∀a d,G'.im.cell a d->G.im.cell a d\/a=b)(J:∀a,G'.im.obj a->G.im.obj a\/a=b)
 (M:w'.os=w.os)(A:w'.tape=w.tape)(D:w'.output=w.output)
 (hk:∀o,o'=some o->ObjOK P fr w' G' k o/\∀a,Bk G' k o a->a=b\/∀j Q,j≠k->σ j=some Q->¬Bk G j Q a)
 (r:∀j,free' j->j≠k/\free j/\G'.ety j=none/\G'.box j=none/\∀g,G'.val j g=none):
 MemS P fr free' (EN σ [(k,o')]) w' G':=by
 have x:∀j,EN σ [(k,o')] j=if j=k then o' else σ j:=by
  intro j;simp only[EN];by_cases h:j=k
  .simp
  .simp
 have old:∀j o,j≠k->σ j=some o->ObjOK P fr w' G' j o:=by
  intro j o t B;have l:=v.objs j o B;refine l.keep s λa q=>?_;have y:a≠b:=λe=>V j o t B (e▸q);exact⟨O a (IN l q) y,λd C=>(I a d C).resolve_right y,λL=>(J a L).resolve_right y⟩
 have N:∀j o,j≠k->σ j=some o->∀{b},Bk G' j o b<->Bk G j o b:=λj o t B=>GT (v.objs j o B) s;refine⟨λj o B=>?_,λi j o o2 a K t W X=>?_,?_,λj t=>?_⟩
 .grind
 .rw[x]at K t;by_cases l:i=k<;>by_cases H:j=k
  .rw[l,H]
  .grind
  .grind
  .rw[if_neg l]at K;rw[if_neg H]at t;exact v.sep i j o o2 a K t oc oc
 .refine v.after.trans (gv':=λa=>a=b) ⟨s.ext,λa q Z=>O a q Z,z,λa d h=>(I a d h).imp id .inr,λa h=>(J a h).imp id .inr,?_,?_,M,A,D,v.after.pins.ext s.ext⟩ ?_
  .intro a d h;rcases I a d h with l|l
   .exact BC (v.after.inC _ _ l) z
   omega
  .intro a h;rcases J a h with l|l
   .exact BC (v.after.inO _ l) z
   omega
  .intro a h;subst h;exact E.symm
 .obtain⟨l,H,R,T,U⟩:=r j t;exact⟨by rw[x,if_neg l];exact(v.fresh j H).1,R,T,U⟩
theorem A1l(a:c.length=n)(h:∀j,j<n->w.cell? ⟨b,o+j,none⟩=c[j]?):
 (loadCells ⟨b,o,none⟩ n).run P w=.ok c.toArray w:=by
 grind[run_loadCells_list,LG,List.getElem?_eq_some_iff]
theorem dY(h:w.cell? ⟨b,o,none⟩=some v):(load ⟨b,o,none⟩).run P w=.ok v w:=by
 simp_all
theorem UD(b:Lay P t id):(isAgg id).run P w=.ok t.isAgg w:=by
 obtain⟨d,a,h⟩:=b.isAgg;simp only[isAgg,Sem.run_bind,run_underlying a,Result.andThen_ok];cases d<;>simp at h<;>simp[h]
theorem Lay.sz_one(a:Lay P t id)(h:t.isAgg=false):t.sz=1:=by
 cases t<;>first|rfl|(exfalso;simp[Ty.isAgg]at h;done)|(exfalso;simp[Lay,layB]at a;done)
theorem AE4(h:t.isAgg=false):K7 t v [v]:=by
 cases t<;>first|rfl|(exfalso;simp[Ty.isAgg]at h;done)
theorem AE5(h:t.isAgg=true):K7 t (.agg c.toArray) c:=by
 cases t<;>first|rfl|(exfalso;simp[Ty.isAgg]at h;done)
theorem RQ(e:Lay P t id){x:t.T}(hc:∀j,j<t.sz->w.cell? ⟨b,o+j,none⟩=c[j]?)(a:Rel w I t x c):
 ∃v,(loadVar id ⟨b,o,none⟩).run P w=.ok v w/\VRel w I t x v:=by
 obtain⟨i,q,d⟩:=e.cells;simp only[loadVar,Sem.run_bind,UD e,Result.andThen_ok];cases h:t.isAgg with
 |true=>
  refine⟨.agg c.toArray,?_,c,AE5 h,a⟩;simp only[if_true,Sem.run_bind,run_sizeOf w q,d,Result.andThen_ok,A1l a.length hc,Sem.run_pure]
 |false=>
  have l:=e.sz_one h;have k:c.length=1:=by rw[a.length,l]
  match c,k,hc,a with
  |[v],_,hc,a=>
   refine⟨v,?_,[v],AE4 h,a⟩;simp_all
theorem AE6{cs:Array Value}{el:TypeId}{f:Nat×Nat}(h:w.heap[b]?=some (.cells cs el f))(o:Nat):w.cell? ⟨b,o,none⟩=cs.toList[o]?:=by
 simp[World.cell?,h]
theorem dZ{cs:Array Value}{el:TypeId}(h:RowAt w b cs el):∀j,j<n->w.cell? ⟨b,o+j,none⟩=((cs.toList.drop o).take n)[j]?:=by
 intro j a;rw[h.cell,B4,if_pos a,B5]
theorem d_{cs:Array Value}{el:TypeId}{f:Nat×Nat}(h:w.heap[b]?=some (.cells cs el f)):∀j,j<n->w.cell? ⟨b,o+j,none⟩=((cs.toList.drop o).take n)[j]?:=by
 intro j a;rw[AE6 h,B4,if_pos a,B5]
theorem e9{p m:Nat}(h:p+m<=n):((((c.drop o).take n).drop p).take m)=(c.drop (o+p)).take m:=by
 rw[DJ,List.take_take,DK,DH oa]
theorem AE7(l:Lay P t id){x:t.T}(h:SR P w G (.ref t x) v):∃z,(Instr.loadAt id v).run P w=.ok z w/\SR P w G (.val t x) z:=by
 obtain⟨b,c,rfl,a,e,i⟩:=RP h;obtain⟨d,q,sp⟩:=b;simp only at a;subst a;obtain⟨z,r,o⟩:=RQ l (b:=d) (o:=q) (λj k=>(e.at_ j k).2) i;exact⟨z,by assumption,o⟩
theorem A1m(hl:Lay P t id)(ho:∀k o,σ k=some o->ObjOK P fr w G k o){s':SV}(d:loadAt σ t s=some s')(h:SR P w G s v):
 ∃z,(Instr.loadAt id v).run P w=.ok z w/\SR P w G s' z:=by
 have A:∀{a:Addr} {z:Value},(loadVar id a).run P w=.ok z w->(Instr.loadAt id (.pointer (some a))).run P w=.ok z w:=by
  intro a z r;simp only[Instr.loadAt,Sem.run_bind,Instr.sureAddr,Sem.run_pure,Result.andThen_ok];exact r
 unfold loadAt at d;split at d
 .rename_i u x;cases hc:LZ u t x with
  |none=>grind
  |some y=>
   rw[hc]at d;cases d;obtain⟨ad,c,rfl,J,I,R⟩:=RP h;obtain⟨bb,oo,sp⟩:=ad;simp only at J;subst J;have X:=XU hc R;obtain⟨z,r,L⟩:=RQ hl (b:=bb) (o:=oo) (λj hj=>(I.at_ j (by rw[<-R.length,X.length];exact hj)).2) X;exact⟨z,A r,L⟩
 .rename_i k p u;split at d
  .rename_i u' c wr hk;obtain⟨b,t',o,J,I,R,rfl⟩:=JD h;obtain⟨b',cs,el,k1,U,N,k4,k5,_⟩:=ho _ _ hk;rw[J]at k1;cases k1;cases T:c.getAt p with
   |none=>grind
   |some s0=>
    rw[T]at d;obtain⟨o',u1,m1,m2,m3,m4,m5⟩:=XV k4 k5 T;rw[I]at m1;cases m1
    have H:∀{v1:Value},u1.sz=1->(cs.toList.drop o).take u1.sz=[v1]->t.isAgg=false->(loadVar id ⟨b,o,none⟩).run P w=.ok v1 w:=by
     intro v1 y1 y3 y5;simp only[loadVar,Sem.run_bind,UD hl,Result.andThen_ok,y5,D1,CL];refine dY ?_;have:=d_ (n:=1) (o:=o) U 0 oa;rw[y1]at y3;rw[y3]at this;simpa using this
    split at d
    .rename_i j g E;cases E;obtain⟨v1,q1,q0,q2⟩:=m5
     have r:t.isAgg=false/\s'=.obj j g:=by
      split at d
      .exact⟨rfl,(A2 d).symm⟩
      .exact⟨rfl,(A2 d).symm⟩
      .cases d
     obtain⟨r,rfl⟩:=r;exact⟨v1,A (H m3 q2 r),ADk q1 q0⟩
    .rename_i j q V E;cases E;have z3:=m5;obtain⟨b2,t2,Z,q1,q2,q3,q4⟩:=m5
     have r:t.isAgg=false/\s'=.ptr j q V:=by
      split at d
      .exact⟨rfl,(A2 d).symm⟩
      .cases d
     obtain⟨r,rfl⟩:=r;exact⟨_,A (H m3 q4 r),_,rfl,b2,t2,Z,q1,q2,q3,rfl⟩
    .rename_i e2 x2 E;cases E;obtain⟨q1,ad,n2,y6,q2,q3⟩:=m5
     have r:t.isAgg=false/\s'=.mns e2 x2:=by
      split at d
      .exact⟨rfl,(A2 d).symm⟩
      .cases d
     obtain⟨r,rfl⟩:=r;exact⟨_,A (H m3 q2 r),_,rfl,q2▸q1,ad,n2,y6,rfl,q3⟩
    .rename_i f2 W E;cases E;obtain⟨h8,q1,q2⟩:=m5
     have r:t.isAgg=false/\s'=.fn f2 W:=by
      split at d
      .exact⟨rfl,(A2 d).symm⟩
      .cases d
     obtain⟨r,rfl⟩:=r;exact⟨_,A (H m3 q1 r),_,rfl,h8,rfl,q2⟩
    .rename_i s1 _ _ _ _ E;cases E;cases O:s0.asC σ t with
     |none=>grind
     |some x=>
      rw[O]at d;cases d;have l:=U9 ho O m5;have y1:t.sz=u1.sz:=by rw[<-l.length,m3.len m5]
      obtain⟨z,r,L⟩:=RQ hl (b:=b) (o:=o) (λj hj=>d_ U j oa) l;exact⟨z,A r,L⟩
    grind
  .rename_i f2 W hk;obtain⟨b,t',o,J,I,R,rfl⟩:=JD h;obtain⟨b',h8,k1,U,N,k4⟩:=ho _ _ hk;rw[J]at k1;cases k1;split at d
   .cases I;cases d
    have r:(loadVar id ⟨b,0,none⟩).run P w=.ok (.func (.func f2) #[] h8) w:=by
     simp only[loadVar,Sem.run_bind,UD hl,Result.andThen_ok,Ty.isAgg,D1,CL];exact dY N
    exact⟨_,A r,_,rfl,h8,rfl,k4⟩
   .cases d
  .rename_i e x hk;obtain⟨b,t',o,J,I,R,rfl⟩:=JD h;obtain⟨b',c,k1,U,N⟩:=ho _ _ hk;rw[J]at k1;cases k1;split at d
   .rename_i V y hy;cases O:LZ V t y with
    |none=>grind
    |some z0=>
     rw[O]at d;cases d;obtain⟨oo,Y,n2,n3,K⟩:=UA N hy;rw[I]at Y;cases Y;have l:=XU O K;have y7:t.sz=V.sz:=l.length.symm.trans K.length
     obtain ⟨z,r,L⟩:=RQ hl (b:=b) (o:=o) (λj hj=>by
      have hq:=(U.at_ (o+j) oa).2;grind) l
     exact⟨z,A r,L⟩
   .cases d
  .cases d
 .rename_i k p i q u;split at d
  .rename_i u' c wr hk;obtain⟨b,t',o,n,e,Z,J,I,⟨u0,R,X⟩,h4,h5,h6,rfl⟩:=dX h;obtain⟨b',cs,el,k1,U,N,k4,k5,_⟩:=ho _ _ hk;rw[J]at k1;cases k1;split at d
   .rename_i n' e' Q T;obtain⟨o',u1,m1,m2,m3,m4,m5⟩:=XV k4 k5 T;rw[I]at m1;cases m1;rw[R]at m2;cases m2;have he:Ty.arr n' e'=Ty.arr n e:=(show(Ty.arr n' e').bare=u0.bare from m3).trans X;cases he;split at d
    .rename_i V y hy;cases O:LZ V t y with
     |none=>grind
     |some x=>
      rw[O]at d;cases d;obtain⟨r1,r2,r3⟩:=m5;have hi:i<List.length (show List e.T from Q):=by rw[r1];exact h4
      have D:(show List e.T from Q)[i]?=some ((show List e.T from Q).getD i e.dflt):=by
       rw[AD,A1 hi];rfl
      obtain⟨oo,Y,n2,n3,K⟩:=UA (r3 i _ D) hy;rw[h5]at Y;cases Y;have y0:(i+1)*e.sz<=n*e.sz:=AZ _ h4;rw[CK]at y0;have y2:u0.sz=n*e.sz:=by rw[<-Ty.sz_bare,X];rfl
      rw[e9 n3,e9 (by rw[y2];omega),<-C_]at K;have l:=XU O K;obtain⟨z,r,L⟩:=RQ hl (b:=b) (o:=o+i*e.sz+Z) (λj hj=>d_ U j (by have:=l.length.symm.trans K.length;omega)) l;exact⟨z,A r,L⟩
    .cases d
   .cases d
  .cases d
 .rename_i k g i q u;split at d
  .rename_i el e Q g' hk;cases T:Nat.beq g g' with
   |false=>grind
   |true=>
    rw[T]at d;simp only[A8]at d;have:=A3 T;subst this;obtain⟨b,o1,len,cap,e',Z,J,I,R,h4,h5,rfl⟩:=O_ h;obtain⟨C,v',k1,U⟩:=ho _ _ hk;rw[J]at k1;cases k1;rw[C]at I;cases I;rcases U with⟨M,_⟩|⟨b',h9,cs,M,r1,r2,r3,r4,_⟩
    .cases M
    .cases M;rw[C4];split at d
     .rename_i V y hy;cases O:LZ V t y with
      |none=>grind
      |some x=>
       rw[O]at d;cases d
       have D:Q[i]?=some (Q.getD i e.dflt):=by
        rw[AD,A1 R];rfl
       obtain⟨oo,Y,n2,n3,K⟩:=UA (r4 i _ D) hy;rw[h4]at Y;cases Y;rw[e9 n3]at K;have l:=XU O K;obtain⟨z,r,L⟩:=RQ hl (b:=b) (o:=i*e.sz+Z) (λj hj=>dZ r2 j (by have:=l.length.symm.trans K.length;omega)) l;exact⟨z,A r,L⟩
     .cases d
  .rename_i z1 e Q gk hk;cases T:Nat.beq g 0 with
   |false=>grind
   |true=>
    rw[T]at d;simp only[A8]at d;have:=A3 T;subst this;obtain⟨b,o1,len,cap,e',Z,J,I,R,h4,h5,rfl⟩:=O_ h;obtain⟨h0,C,v',us,bs,k1,_,_,_,v2,U,_,N⟩:=DpOK.inv (ho _ _ hk);have L:v'=v2:=(AB.1 U);subst L;rw[J]at k1;cases k1;have C:G.ety k=some e:=C;rw[C]at I;cases I;rcases N with⟨N,_⟩|⟨_,N,_⟩|⟨_,b',o',h9,B,bss,M,r1,r2,r3,r4,r5,r6,r7,r8,r9⟩
    .grind
    .cases N
    .cases M;split at d
     .rename_i V y hy;cases O:LZ V t y with
      |none=>grind
      |some x=>
       rw[O]at d;cases d
       have D:∀(ys:List e.T),i<ys.length->ys[i]?=some (ys.getD i e.dflt):=λys h=>by
        grind
       obtain⟨oo,Y,n2,n3,K⟩:=UA (r9 i _ (D Q R)).2 hy;rw[h4]at Y;cases Y;have n3:Z+V.sz<=e.sz:=n3;have K:Rel w G.im V y ((((B.toList.drop (o1+i*e.sz)).take e.sz).drop Z).take V.sz):=K;rw[e9 n3]at K;have l:=XU O K;obtain⟨z,r,L⟩:=RQ hl (b:=b) (o:=o1+i*e.sz+Z) (λj hj=>dZ r2 j (by have:=l.length.symm.trans K.length;omega)) l;exact⟨z,A r,L⟩
     .cases d
  .rename_i z2 id2 rr e Q gk hh hk;split at d
   .rename_i y8;cases T:Nat.beq g 0 with
    |false=>grind
    |true=>
     rw[T]at d;cases d;have:=A3 T;subst this;obtain⟨b,o1,len,cap,e',Z,J,I,R,h4,h5,rfl⟩:=O_ h;obtain⟨h0,C,v',us,bs,k1,_,_,_,v2,U,_,N⟩:=DpOK.inv (ho _ _ hk);have L:v'=v2:=(AB.1 U);subst L;rw[J]at k1;cases k1;rw[C]at I;cases I;have y4:(E7 (id2::rr) e).off []=some 0:=rfl;rw[y4]at h4;cases h4;rcases N with⟨N,_⟩|⟨_,N,_⟩|⟨_,b',o',h9,B,bss,M,r1,r2,r3,r4,r5,r6,r7,r8,r9⟩
     .grind
     .cases N
     .cases M
      have x1:∀(ys:List (List (E7 rr e).T)),i<ys.length->ys[i]?=some (ys.getD i []):=λys h=>by
       grind
      have D:(show List (List (E7 rr e).T)from Q)[i]?=some ((show List (List (E7 rr e).T)from Q).getD i []):=x1 Q R;obtain⟨a,cp,q1,q2⟩:=DV.head (r9 i _ D)
      have x0:w.cell? ⟨b,o1+i*1+0,none⟩=some (.slice a ((show List (List (E7 rr e).T)from Q).getD i []).length cp):=by
       have hq:(B.toList.drop (o1+i*1)).take 1=[.slice a ((show List (List (E7 rr e).T)from Q).getD i []).length cp]:=q1
       have h7:o1+i*1<B.toList.length:=by
        rcases CU (o1+i*1) B.toList.length with h7|y9
        .exact h7
        .grind[List.drop_eq_nil_of_le]
       rw[C5 h7]at hq;simp only[List.take_succ_cons,CE,List.cons.injEq,and_true]at hq;rw[r2.cell,CT,A1 h7,hq]
      refine⟨_,A ?_,_,rfl,a,cp,rfl,q2⟩;simp only[loadVar,Sem.run_bind,UD hl,Result.andThen_ok,Ty.isAgg,D1,CL];exact dY x0
   .cases d
  .cases d
 .cases d
end
theorem M4(h:o+ds.length<=cs.length)(q:Nat):(FA cs o ds)[q]?=if o<=q/\q<o+ds.length then ds[q-o]? else cs[q]?:=by
 unfold FA;grind
theorem A1n{a:Nat}(h:a+n<=cs.length)(e:o+ds.length<=n):
 ((FA cs (a+o) ds).drop a).take n=FA ((cs.drop a).take n) o ds:=by
 apply BI;intro q;have d:((cs.drop a).take n).length=n:=om
 rw[M4 oa,B4];by_cases b:q<n
 .rw[if_pos b,B5,M4 oa];grind
 grind
theorem A1o{a:Nat}(h:o+ds.length<=cs.length)(d:a+n<=o\/o+ds.length<=a):
 ((FA cs o ds).drop a).take n=(cs.drop a).take n:=by
 apply BI;intro q;rw[B4,B4];by_cases b:q<n
 .rw[if_pos b,if_pos b,B5,B5,M4 h,if_neg oa]
 grind
theorem AE8{p m:Nat}(h:o+m<=cs.length)(e:p+ds.length<=m):
 FA cs o (FA ((cs.drop o).take m) p ds)=FA cs (o+p) ds:=by
 have d:((cs.drop o).take m).length=m:=om
 have a:(FA ((cs.drop o).take m) p ds).length=m:=by rw[KZ oa,d]
 apply BI;intro q;rw[M4 oa,a];by_cases b:o<=q/\q<o+m
 .rw[if_pos b,M4 oa,M4 oa];grind
 .rw[if_neg b,M4 oa,if_neg oa]
section
variable{P:Program}{fr:Fr}{free free':Nat->Prop}{self:Nat}{σ σ':SSo}{w w':World}{G G':Gh}
theorem Rel.oneCell:∀{t:Ty} {x:t.T} {cs:List Value},Rel w I t x cs->∀v∈cs,v.oneCell'=true:=by
 intro t;induction t with
 |unit=>intro x cs h v i;rw[show cs=[]from h]at i;cases i
 |bool=>intro x cs h v i;rw[show cs=[_]from h]at i;simp at i;subst i;rfl
 |int k=>intro x cs h v i;rw[show cs=[_]from h.1]at i;simp at i;subst i;rfl
 |str=>intro x cs h v i;rw[show cs=[_]from h.1]at i;simp at i;subst i;rfl
 |slice s l=>intro x cs h v i;obtain⟨a,cap,j,_⟩:=h;rw[j]at i;simp at i;subst i;rfl
 |agg s l=>assumption
 |prod a b L M=>
  intro x cs h v i;obtain⟨c,d,j,C,D⟩:=h;grind
 |arr n s l=>
  intro x cs h v i;obtain⟨j,C,D⟩:=h;obtain⟨q,E⟩:=C6 i;have J:q<cs.length:=(A9.1 E).1
  have A:0<s.sz:=by
   rcases DR s.sz with h|h
   .grind
   .exact h
  have G:q / s.sz<List.length (show List s.T from x):=by
   rw[j];exact Nat.div_lt_of_lt_mul oc
  have K:=D (q / s.sz) _ (A1 G);refine l K v ?_;have o:=Nat.div_add_mod q s.sz;have H:=Nat.mod_lt q A
  have:((cs.drop (q / s.sz*s.sz)).take s.sz)[q % s.sz]?=some v:=by
   rw[B4,if_pos H,B5,DL,o];exact E
  grind
 |ptr s l=>
  intro x cs h v i;cases x with
  |none=>rw[show cs=[_]from h]at i;simp at i;subst i;rfl
  |some y=>obtain⟨T,j,_⟩:=h;rw[j]at i;simp at i;subst i;rfl
 |map k e N Q=>intro x cs h v i;obtain⟨r,j,_⟩:=h;rw[j]at i;simp at i;subst i;rfl
 |inil=>intro x cs h v i;rw[show cs=[_]from h]at i;simp at i;subst i;rfl
 |self=>intro x cs h v i;rw[show cs=[_]from h]at i;simp at i;subst i;rfl
 |opq=>intro x cs h v i;obtain⟨R,j,C⟩:=h;grind
 |fnc d c _ _=>
  intro x cs h v i;cases x with
  |none=>rw[show cs=[_]from h]at i;simp at i;subst i;rfl
  |some F=>obtain⟨f,vs,j,_⟩:=h;rw[j]at i;simp at i;subst i;rfl
 |ialt id t r O B=>
  intro x cs h v i;cases x with
  |inl y=>obtain⟨R,c,j,_⟩:=h;rw[j]at i;simp at i;subst i;rfl
  |inr z=>exact B h.2 v i
theorem Y0(h:v.oneCell'=true):v.cells= #[v]:=by
 cases v<;>first|rfl|(simp[Value.oneCell']at h)
theorem VRel.cells{x:t.T}(h:VRel w I t x v):Rel w I t x v.cells.toList:=by
 obtain⟨c,b,a⟩:=h;have d:v=.agg c.toArray->Rel w I t x v.cells.toList:=by intro e;rw[e];exact a
 have i:c=[v]->Rel w I t x v.cells.toList:=by
  intro e;subst e;rw[Y0 (a.oneCell v oe)];exact a
 cases t<;>first|exact d b|exact i b
theorem SR.one(h:SR P w G s v)(d:∀u y,s≠.val u y):CR P w G s [v]:=by
 obtain⟨c,a,b⟩:=h;have:c=[v]:=by cases s<;>first|exact a|grind
 grind
theorem Fit.of_bare0(h:Fit s t)(e:u.bare=t.bare):Fit s u:=by
 have d:u.sz=t.sz:=by rw[<-Ty.sz_bare,e,Ty.sz_bare]
 cases s<;>first|exact(show _=_ from h).trans e.symm|exact d.trans h|(obtain⟨x,y,a,b⟩:=h;exact⟨x,y,e.trans a,b⟩)|exact absurd h id
theorem AE9{k:SV}(d:TW t s=some k)(h:SR P w G s v):
 Fit k t/\CR P w G k v.cells.toList/\∀x∈v.cells.toList,x.oneCell'=true:=by
 have e:∀{s:SV},(t.sz=1->Fit s t)->t.sz=1->CR P w G s [v]->v.oneCell'=true->Fit s t/\CR P w G s v.cells.toList/\∀x∈v.cells.toList,x.oneCell'=true:=by
  intro s a E b c;rw[Y0 c];exact⟨a E,b,by simpa using c⟩
 have K:∀{s:SV},(SV.as t s).map (SV.val t ·)=some k->SR P w G s v->Fit k t/\CR P w G k v.cells.toList/\∀x∈v.cells.toList,x.oneCell'=true:=by
  intro s q l;cases D:SV.as t s with
  |none=>grind
  |some x=>
   rw[D]at q;cases q;have:=(K8 D l).cells;exact⟨rfl,this,this.oneCell⟩
 unfold TW at d;split at d
 .have i:=h.one oe;have C:=pL h;split at d
  .cases d;exact e (λh=>h) rfl i C
  .cases d;exact e (λh=>h) rfl i C
  .cases d
 .have i:=h.one oe;obtain⟨b,L,o,_,_,_,j⟩:=JD h;split at d
  .cases d;exact e (λh=>h) rfl i (by rw[j];rfl)
  .cases d
 .rename_i u c;cases B:u.same t with
  |false=>grind
  |true=>
   rw[B]at d;have d:=A2 d;subst d;have:=Ty.same_eq B;subst this;obtain⟨cc,A,z,q,l,I,J⟩:=h;have j:v=.agg z.toArray:=AB.1 ((show cc=[v]from A).symm.trans q);subst j;obtain⟨a,b,rfl,l⟩:=l;exact⟨l.of_bare0 rfl,J,I⟩
 .have i:=h.one oe;obtain⟨vs,r,y⟩:=i;have j:v=_:=AB.1 r;split at d
  .cases d;exact e (λh=>h) rfl ⟨vs,r,y⟩ (by rw[j];rfl)
  .cases d
 .have i:=h.one oe;obtain⟨r,H,n,m,y⟩:=i;have j:v=_:=AB.1 y;split at d
  .cases d;exact e (λh=>h) rfl ⟨r,H,n,m,y⟩ (by rw[j];rfl)
  .cases d
 .have i:=h.one oe;have j:v=.slice none 0 0:=AB.1 (show [v]=[Value.slice none 0 0]from i);split at d
  .cases d;exact e (λh=>h) rfl i (by rw[j];rfl)
  .cases d
 .exact K d h
theorem Fit.of_bare(h:Fit s t)(e:u.bare=t.bare):Fit s u:=by
 have d:u.sz=t.sz:=by rw[<-Ty.sz_bare,e,Ty.sz_bare]
 cases s<;>first|exact(show _=_ from h).trans e.symm|exact d.trans h|(obtain⟨x,y,a,b⟩:=h;exact⟨x,y,e.trans a,b⟩)|exact absurd h id
theorem AEA:∀{c:SV} {t:Ty} {cs:List Value},Fit c t->CR P w G c cs->∀x∈cs,x.oneCell'=true:=by
 intro c;induction c with
 |val u y=>intro t cs _ j;exact(show Rel w G.im u y cs from j).oneCell
 |pr a b r s=>
  intro t cs l j x i;obtain⟨_,_,_,B,C⟩:=l;obtain⟨c,d,rfl,D,E⟩:=j;grind
 |obj k g=>intro t cs _ j x i;obtain⟨v,_,A,rfl⟩:=j;grind
 |ptr k p u=>intro t cs _ j x i;obtain⟨b,z,o,_,_,_,rfl⟩:=j;simp at i;rw[i];rfl
 |nilS=>intro t cs _ j x i;rw[show cs=_ from j]at i;simp at i;rw[i];rfl
 |slf k=>intro t cs _ j x i;obtain⟨b,z,_,h⟩:=j;rcases h with rfl|rfl<;>(simp at i;rw[i];rfl)
 |fn f c=>intro t cs _ j x i;obtain⟨vs,rfl,_⟩:=j;simp at i;rw[i];rfl
 |hof d c F=>intro t cs _ j x i;obtain⟨f,vs,rfl,_⟩:=j;simp at i;rw[i];rfl
 |nns e y=>intro t cs _ j x i;obtain⟨_,q,n,m,rfl⟩:=j;simp at i;rw[i];rfl
 |mns e y=>intro t cs _ j x i;obtain⟨_,q,n,m,rfl,_⟩:=j;simp at i;rw[i];rfl
 |_=>intro t cs l;exact absurd l (by simp[Fit])
theorem A1p(E:Lay P t id)(U:∀k o,σ k=some o->ObjOK P fr w G k o){K:SV}(d:TX σ t s=some K)(h:SR P w G s v):
 ∃z,(Instr.loadAt id v).run P w=.ok z w/\SR P w G K z:=by
 unfold TX at d;split at d
 .rename_i k p u;split at d
  .rename_i a b;cases D:u.bare.same (.prod a b)with
   |false=>grind
   |true=>
    rw[D]at d;simp only[A8]at d;have C:=Ty.same_eq D;split at d
    .rename_i u' c wr hk;split at d
     .rename_i Y R;have d:=A2 d;subst d;obtain⟨L,t',o,M,N,⟨q,O,e⟩,rfl⟩:=JD h;obtain⟨Z,cs,el,k1,V,k3,W,X,_⟩:=U _ _ hk;rw[M]at k1;cases k1;obtain⟨o',u1,I,J,A,m4,B⟩:=XV W X R;rw[N]at I;cases I;rw[O]at J;cases J;have Q:Fit Y (.prod a b):=A.of_bare0 (C.symm.trans e.symm)
      have y:q.sz=(Ty.agg (.prod a b)).sz:=by
       rw[<-Ty.sz_bare q,e,C];rfl
      obtain⟨i,T,x⟩:=E.cells;have l:((cs.toList.drop o).take q.sz).length=(Ty.agg (.prod a b)).sz:=by rw[A.len B,y]
      have H:(loadVar id ⟨L,o,none⟩).run P w=.ok (.agg ((cs.toList.drop o).take q.sz).toArray) w:=by
       have r:(Ty.agg (.prod a b)).isAgg=true:=rfl
       simp only [loadVar,Sem.run_bind,UD E,Result.andThen_ok,r,if_true,run_sizeOf w T,x,
        A1l l (λj hj=>d_ V j oa),Sem.run_pure]
      refine⟨_,?_,_,rfl,_,rfl,⟨a,b,rfl,Q⟩,AEA A B,B⟩;assumption
     .cases d
    .cases d
  .cases d
 .cases d
theorem Ext.of_heap(i:∀a,a≠b->w'.heap[a]?=w.heap[a]?)(j:∀o,¬I.cell b o)(d:¬I.obj b):Ext w I w' I:=
 ⟨λa o h=>⟨h,by
  grind[World.cell?]⟩,λa h=>⟨h,i a (λe=>d (e▸h))⟩⟩
theorem GLe.of_heap(i:∀a,a≠b->w'.heap[a]?=w.heap[a]?)(d:∀o,¬G.im.cell b o)(e:¬G.im.obj b):GLe w G w' G:=
 ⟨Ext.of_heap i d e,λ_ _ _ h=>h,λ_ _ h=>h,λ_ _ h=>h⟩
theorem Y1(P:Program)(g o:Nat)(t:TypeId)(fz:Nat×Nat):∀(vs:List Value) (i:Nat) (a:Array Value) (w:World),w.heap[g]?=some (.cells a t fz)->(fz.2<=fz.1\/a.size<=fz.1)->o+i+vs.length<=a.size->(∀v∈vs,v.oneCell'=true)->
 (storeCells ⟨g,o,none⟩ vs i).run P w=.ok () (w.setRow g (a.toList.take (o+i)++vs++a.toList.drop (o+i+vs.length)).toArray)
 |[],i,a,w,hg,_,_,_=>by
  simp only[storeCells,CG,BR,CT,List.take_append_drop,Array.toArray_toList];rw[setRow_self w g a t fz hg];rfl
 |v::rest,i,a,w,hg,hfz,hl,h1=>by
  have k:o+i<a.size:=by simp at hl;omega
  have b:(⟨g,o,none⟩:Addr).add i=⟨g,o+i,none⟩:=by unfold Addr.add;split<;>simp_all
  have h:w.cell? ⟨g,o+i,none⟩=some a[o+i]:=by simp[World.cell?,hg,k]
  have d:w.frozen? ⟨g,o+i,none⟩=false:=by
   obtain⟨s,l⟩:=fz;simp only[World.frozen?,hg,DI,DU];simp only at hfz;omega
  have j:(store ((⟨g,o,none⟩:Addr).add i) v).run P w=.ok () (w.setRow g (a.setIfInBounds (o+i) v)):=by
   rw[b,run_store P w _ v _ (h1 v oe),h];simp[d,setCell_eq_setRow w g (o+i) a t fz v hg]
  have r:=Y1 P g o t fz rest (i+1) (a.setIfInBounds (o+i) v) (w.setRow g (a.setIfInBounds (o+i) v)) (setRow_heap w g a _ t _ hg) (by simpa using hfz) oc (λx q=>h1 x (by simp[q]));simp only[storeCells,Sem.run_bind,j,Result.andThen_ok,r,setRow_setRow]
  congr 3
  have e:=list_seg_step a.toList (o+i) v rest oa;grind
theorem RowAt.set{cs new:Array Value}{el:TypeId}(h:RowAt w b cs el)(e:new.size=cs.size):RowAt (w.setRow b new) b new el:=by
 obtain⟨fz,a,d⟩:=h;exact⟨fz,setRow_heap w b cs new el fz a,oa⟩
theorem pO(l:Lay P t id){cs:Array Value}{el:TypeId}(a:RowAt w b cs el)
 (h:v.cells.toList.length=t.sz)(r:∀x∈v.cells.toList,x.oneCell'=true)(d:o+t.sz<=cs.size):
 (storeVar id ⟨b,o,none⟩ v).run P w=.ok () (w.setRow b (FA cs.toList o v.cells.toList).toArray):=by
 obtain⟨i,k,e⟩:=l.cells;obtain⟨fz,a,j⟩:=a;have q:v.cells.size=t.sz:=by rw[<-h];simp
 simp only[storeVar,Sem.run_bind,run_sizeOf w k,e,Result.andThen_ok];rw[if_neg (by simp[q])];grind[Y1,FA]
theorem A1q(j:Lay P t id){cs:Array Value}{el:TypeId}(q:w.heap[b]?=some (.cells cs el (0,0)))
 (h:v.cells.toList.length=t.sz)(l:∀x∈v.cells.toList,x.oneCell'=true)(a:o+t.sz<=cs.size):
 (storeVar id ⟨b,o,none⟩ v).run P w=.ok () (w.setRow b (FA cs.toList o v.cells.toList).toArray):=by
 obtain⟨i,e,d⟩:=j.cells;have k:v.cells.size=t.sz:=by rw[<-h];simp
 simp only[storeVar,Sem.run_bind,run_sizeOf w e,d,Result.andThen_ok];rw[if_neg (by simp[k])];grind[run_storeCells_at,FA]
theorem MemS.set(v:MemS P fr free σ w G){o o':Obj}{cs new:Array Value}{el:TypeId}(hk:σ k=some o)(s:Bk G k o b)
 {fz:Nat×Nat}(y:w.heap[b]?=some (.cells cs el fz))(A:∀o,¬G.im.cell b o)(B:¬G.im.obj b)(l:fr.owned b)
 (i:(w.setRow b new).heap[b]?=some (.cells new el fz)->GLe w G (w.setRow b new) G->ObjOK P fr (w.setRow b new) G k o'/\∀a,Bk G k o' a->a=b):
 GLe w G (w.setRow b new) G/\MemS P fr (J1 free self) (EN σ [(k,some o')]) (w.setRow b new) G:=by
 have z:∀a,a≠b->(w.setRow b new).heap[a]?=w.heap[a]?:=λa h=>setRow_other w b a new h;have d:GLe w G (w.setRow b new) G:=GLe.of_heap z A B;obtain⟨D,E⟩:=i (setRow_heap w b cs new el fz y) d;refine⟨d,v.change (b:=b) d ?_ (λa _ h=>z a h) oe (by simpa using UC y) l (λ_ _ h=>.inl h) (λ_ h=>.inl h) rfl rfl rfl ?_ ?_⟩
 .intro j C q x r;exact q (v.sep j k C o b x hk r s)
 .grind
 .intro j q;have t:=v.fresh j q.1;refine⟨λe=>?_,q.1,t.2.1,t.2.2.1,t.2.2.2⟩;grind
theorem eA{xs:List e.T}{o2:Nat}{z:e.T}(hc:xs.length*e.sz<=c.length)
 (h:∀j y,xs[j]?=some y->Rel w I e y ((c.drop (j*e.sz)).take e.sz))(hi:i<xs.length)
 (o:Rel w I e z (FA ((c.drop (i*e.sz)).take e.sz) o2 ds))(l:o2+ds.length<=e.sz):
 ∀j y,(xs.set i z)[j]?=some y->Rel w I e y (((FA c (i*e.sz+o2) ds).drop (j*e.sz)).take e.sz):=by
 intro j y k;have d:(i+1)*e.sz<=xs.length*e.sz:=AZ _ hi;rw[CK]at d;by_cases a:j=i
 .subst a;rw[CJ hi]at k;cases k;rw[A1n oa l];exact o
 .rw[CM (λe=>a e.symm)]at k;rw[A1o oa]
  .exact h j y k
  .rcases Nat.lt_or_gt_of_ne a with b|b
   .left;have:(j+1)*e.sz<=i*e.sz:=AZ _ b;grind
   .right;have:(i+1)*e.sz<=j*e.sz:=AZ _ b;grind
theorem getD_some{xs:List α}{d:α}(h:i<xs.length):xs[i]?=some (xs.getD i d):=by
 grind
theorem pP{a:Nat}(h:a+o+ds.length<=cs.length):(FA cs (a+o) ds).drop a=FA (cs.drop a) o ds:=by
 apply BI;intro q;rw[B5,M4 oa,M4 om,B5];grind
theorem flatten_nil(h:∀i,i<bss.length->bss.getD i []=[]):bss.flatten=[]:=by
 apply List.flatten_eq_nil_iff.2;intro l a;obtain⟨i,b⟩:=C6 a;grind
theorem DV.leaf{xs:List t.T}(h:DV ow w I t [id] xs none [v] bs){len:Nat}(s:v=.slice (some ⟨b,o,none⟩) len cap):
 ∃a,len=xs.length/\HS xs.length cap/\RowAt w b a id/\o+cap*t.sz<=a.size/\ow b/\(∀c,¬I.cell b c)/\¬I.obj b/\bs=[b]/\
  ∀i x,xs[i]?=some x->Rel w I t x ((a.toList.drop (o+i*t.sz)).take t.sz):=by
 obtain⟨H,r,K,d⟩:=h;have e:v=H:=AB.1 r;subst e;rcases d with⟨d,_⟩|⟨_,d,_⟩|⟨_,J,M,k,a,bss,l,z,A,B,C,D,E,N,G,q⟩
 .cases d
 .grind
 .rw[s]at l;cases l;have j:bss.flatten=[]:=flatten_nil λi L=>(q i _ (A1 oa)).1;exact⟨a,rfl,z,A,B,C,D,E,by rw[G,j],λi x y=>(q i x y).2⟩
theorem A1r(n:Nat):(List.replicate n ([]:List Nat)).flatten=[]:=by
 simp
theorem DV.mkleaf{xs:List t.T}{cells:Array Value}(q:HS xs.length cap)(d:RowAt w b cells id)(e:o+cap*t.sz<=cells.size)(j:ow b)
 (k:∀c,¬I.cell b c)(l:¬I.obj b)(r:∀i x,xs[i]?=some x->Rel w I t x ((cells.toList.drop (o+i*t.sz)).take t.sz)):DV ow w I t [id] xs none [.slice (some ⟨b,o,none⟩) xs.length cap] [b]:=by
 refine⟨_,rfl,rfl,.inr (.inr ⟨oq,b,o,cap,cells,List.replicate xs.length [],rfl,q,d,e,j,k,l,BN,by rw[A1r],λi x a=>⟨?_,r i x a⟩⟩)⟩;grind
theorem AEB{xs:List e.T}{o1 o2:Nat}{z:e.T}(hc:o1+xs.length*e.sz<=c.length)
 (h:∀j y,xs[j]?=some y->Rel w I e y ((c.drop (o1+j*e.sz)).take e.sz))(hi:i<xs.length)
 (k:Rel w I e z (FA ((c.drop (o1+i*e.sz)).take e.sz) o2 ds))(d:o2+ds.length<=e.sz):
 ∀j y,(xs.set i z)[j]?=some y->Rel w I e y (((FA c (o1+i*e.sz+o2) ds).drop (o1+j*e.sz)).take e.sz):=by
 intro j y b;have a:(i+1)*e.sz<=xs.length*e.sz:=AZ _ hi;rw[CK]at a;have:=eA (c:=c.drop o1) (ds:=ds) (i:=i) (o2:=o2) (z:=z) (w:=w) (I:=I) (xs:=xs) om (λj y b=>by simp_all) hi (by simp_all) d j y b;rw[<-pP oa,DK,<-C_]at this;exact this
theorem AEC(hl:Lay P t id)(N:MemS P fr free σ w G)(Q:∀k o,σ' k=some o->σ k=some o){d H:Nat}{xs:List e.T}{q:List Bool}{vp:Value}{y:t.T}{z:e.T}
 (hk:σ k=some (.dp [d] e xs H none true))(hy:s.asV σ' t=some y)(hz:Ty.put e q (xs.getD i e.dflt) t y=some z)(hp:SR P w G (.elem k 0 i q u) vp)(hv:SR P w G s v):
 ∃w',(Instr.storeAt id vp v).run P w=.ok () w'/\GLe w G w' G/\MemS P fr (J1 free self) (EN σ [(k,some (.dp [d] e (xs.set i z) H none true))]) w' G:=by
 have X:∀{a:Addr} {w':World},(storeVar id a v).run P w=.ok () w'->(Instr.storeAt id (.pointer (some a)) v).run P w=.ok () w':=by
  intro a w' h;simp only[Instr.storeAt,Sem.run_bind,Instr.sureAddr,Sem.run_pure,Result.andThen_ok];exact h
 have ho:∀k o,σ' k=some o->ObjOK P fr w G k o:=λk o h=>N.objs k o (Q k o h);obtain⟨b,r,len,cap,e',I,Y,Z,K,h4,h5,rfl⟩:=O_ hp;obtain⟨h0,j,v',us,bs,k1,T,U,k6,R⟩:=DpOK.inv (N.objs _ _ hk);have E:=k1;rw[Y]at E;cases E;have j:G.ety k=some e:=j;rw[j]at Z;cases Z;have R:DV fr.owned w G.im e [d] xs none [.slice (some ⟨b,r,none⟩) len cap] bs:=R;obtain⟨cs,rfl,r1,V,r3,r4,r5,r6,rfl,r9⟩:=R.leaf rfl;have x:=(K9 ho hy hv).cells;obtain⟨z1,z2,z3⟩:=dU (r9 i _ (getD_some K)) hz h4 x;have l:=x.length;have D:(i+1)*e.sz<=xs.length*e.sz:=AZ _ K;rw[CK]at D;have h6:xs.length*e.sz<=cap*e.sz:=AZ _ r1.1;have h7:cs.toList.length=cs.size:=BF;have L:r+xs.length*e.sz<=cs.toList.length:=oa
 have C:r+i*e.sz+I+v.cells.toList.length<=cs.toList.length:=by rw[l];omega
 obtain⟨fz,W,_⟩:=(show RowAt w b cs d from V)
 have B:∀J,Bk G k (.dp [d] e (xs.set i z) H none true) J->J=b:=by
  rintro J ⟨_,h8,hu,A⟩;rw[T]at hu;cases hu;rw[M3 U]at A;simpa using A
 obtain ⟨q1,q2⟩:=N.set (self:=self) (new:=(FA cs.toList (r+i*e.sz+I) v.cells.toList).toArray) (o':=.dp [d] e (xs.set i z) H none true) (b:=b) hk ⟨rfl,us,T,(M3 U).2 AL⟩ W r5 r6 r4 (λhh M =>
  ⟨⟨h0,j,_,us,_,Y,T,U,k6,by
   have:=DV.mkleaf (ow:=fr.owned) (w:=w.setRow b (FA cs.toList (r+i*e.sz+I) v.cells.toList).toArray) (I:=G.im) (id:=d) (b:=b) (o:=r) (cap:=cap) (xs:=xs.set i z) (cells:=(FA cs.toList (r+i*e.sz+I) v.cells.toList).toArray)
    oc (V.set (by rw[BQ,KZ C];simp)) (by grind[List.size_toArray,KZ]) r4 r5 r6
    (λj' y' O=>by
     have:=AEB (o1:=r) L r9 K z3 oa j' y' O;simpa using Rel.ext M.ext this)
   rw[AQ]at this;exact⟨this,trivial⟩⟩,B⟩)
 exact⟨_,X (pO hl V l x.oneCell oa),q1,q2⟩
theorem AED(hl:Lay P t id)(Y:MemS P fr free σ w G)(x:∀k o,σ' k=some o->σ k=some o){sp:SV}{vp:Value}{o':Obj}
 (d:storeAt σ' t s sp=some (k,o'))(hp:SR P w G sp vp)(hv:SR P w G s v):
 ∃w',(Instr.storeAt id vp v).run P w=.ok () w'/\GLe w G w' G/\MemS P fr (J1 free self) (EN σ [(k,some o')]) w' G:=by
 have h8:∀{a:Addr} {w':World},(storeVar id a v).run P w=.ok () w'->(Instr.storeAt id (.pointer (some a)) v).run P w=.ok () w':=by
  intro a w' h;simp only[Instr.storeAt,Sem.run_bind,Instr.sureAddr,Sem.run_pure,Result.andThen_ok];exact h
 have ho:∀k o,σ' k=some o->ObjOK P fr w G k o:=λk o h=>Y.objs k o (x k o h);unfold storeAt at d;split at d
 .rename_i j p u;split at d
  .rename_i x2;split at d
   .rename_i bt c hk;split at d
    .rename_i s1 x1;cases C:c.setAt p s1 with
     |none=>grind
     |some c'=>
      rw[C]at d;cases d;obtain⟨b,t',o,B,K,⟨u1,I,R⟩,rfl⟩:=JD hp;have Z:=ho _ _ hk;obtain⟨b',cs,el,k1,T,k3,k4,k5,k6,k7,k8⟩:=Z;rw[B]at k1;cases k1;obtain⟨f1,f2,f3⟩:=AE9 x1 hv;have h0:u1.bare=t.bare:=R.trans (Ty.same_eq x2);have h9:=f1.of_bare h0;obtain⟨m1,m2,m3⟩:=pH k4 k5 C K I h9 f2;have l:v.cells.toList.length=t.sz:=f1.len f2;have y3:u1.sz=t.sz:=by rw[<-Ty.sz_bare,h0,Ty.sz_bare]
      obtain ⟨q1,q2⟩:=Y.set (self:=self) (new:=(FA cs.toList o v.cells.toList).toArray) (o':=.box bt c' true) (x _ _ hk) (by simp [Bk,B]) T (k6.1 rfl) k7 k8.1 (λhh D =>
       ⟨⟨b,_,el,B,hh,by grind[KZ],m1,by simpa using m3.mono D,k6,k7,k8⟩,by grind[Bk]⟩)
      grind[A1q]
    .cases d
   .cases d
  .cases d
 .rename_i j p i q u;split at d
  .rename_i bt c hk;split at d
   .rename_i n' U A M;split at d
    .rename_i y hy;split at d
     .rename_i z hz;cases C:A1K c p n' U A i z with
      |none=>grind
      |some c'=>
       rw[C]at d;cases d;obtain⟨b,t',o,n,e,o2,B,K,⟨Q,I,L⟩,R,h5,h6,rfl⟩:=dX hp;obtain⟨b',cs,el,k1,T,k3,k4,k5,k6,k7,k8⟩:=ho _ _ hk;rw[B]at k1;cases k1;obtain⟨o',u1,m1,m2,m3,m4,m5⟩:=XV k4 k5 M;rw[K]at m1;cases m1;rw[I]at m2;cases m2;have he:Ty.arr n' U=Ty.arr n e:=(show(Ty.arr n' U).bare=Q.bare from m3).trans L;have x0:n=n'/\e=U:=by injection he with a b;exact⟨a.symm,b.symm⟩
       obtain⟨rfl,rfl⟩:=x0;have y4:Q.sz=n*e.sz:=by rw[<-Ty.sz_bare,L];rfl
       obtain⟨r1,r2,r3⟩:=m5;have h7:A.length=n:=r1;have hi:i<A.length:=by rw[h7];exact R
       have r:=(K8 hy hv).cells;obtain⟨z1,z2,z3⟩:=dU (r3 i _ (getD_some hi)) hz h5 r;have l:=r.length;have E:(i+1)*e.sz<=n*e.sz:=AZ _ R;rw[CK]at E;have X:((cs.toList.drop o).take Q.sz).length=n*e.sz:=r2;have V:o+Q.sz<=cs.toList.length:=om
       have H:CR P w G (.val (.arr n e) (A.set i z)) (FA ((cs.toList.drop o).take Q.sz) (i*e.sz+o2) v.cells.toList):=by
        refine⟨Eq.trans (AQ (as:=(show List e.T from A)) (i:=i) (a:=z)) h7,by grind[KZ],?_⟩;exact eA oc r3 hi z3 oa
       obtain⟨w1,w2,w3⟩:=pH (u:=Q) k4 k5 C K I (show(Ty.arr n e).bare=Q.bare from L.symm) H;rw[AE8 V (by rw[l];omega),<-C_]at w3
       obtain ⟨q1,q2⟩:=Y.set (self:=self) (new:=(FA cs.toList (o+i*e.sz+o2) v.cells.toList).toArray) (o':=.box bt c' true) (x _ _ hk) (by simp [Bk,B]) T (k6.1 rfl) k7 k8.1 (λhh D =>
        ⟨⟨b,_,el,B,hh,by grind[List.size_toArray,KZ],w1,by simpa using w3.mono D,k6,k7,k8⟩,by grind[Bk]⟩)
       exact⟨_,h8 (A1q hl T l r.oneCell oa),q1,q2⟩
     .cases d
    .cases d
   .cases d
  .cases d
 .rename_i j g i q u;split at d
  .rename_i O e A g' hk;cases M:Nat.beq g g' with
   |false=>grind
   |true=>
    rw[M]at d;simp only[A8]at d;have:=A3 M;subst this;split at d
    .rename_i y hy;split at d
     .rename_i z hz;cases d;obtain⟨b,o1,len,cap,U,o2,B,K,I,R,h5,rfl⟩:=O_ hp;obtain⟨J,v',k1,T⟩:=ho _ _ hk;rw[B]at k1;cases k1;rw[J]at K;cases K;rcases T with⟨N,_⟩|⟨b',y2,cs,N,r1,r2,r3,r4,r5,r6,r7,r8⟩
      .cases N
      .cases N;rw[C4];have r:=(K9 ho hy hv).cells;obtain⟨z1,z2,z3⟩:=dU (r4 i _ (getD_some I)) hz R r;have l:=r.length;have E:(i+1)*e.sz<=A.length*e.sz:=AZ _ I;rw[CK]at E;have W:A.length*e.sz<=cap*e.sz:=AZ _ r1.1;have X:A.length*e.sz<=cs.toList.length:=by simp[r3];exact W
       obtain⟨fz,y1,_⟩:=(show RowAt w b cs O from r2)
       obtain ⟨q1,q2⟩:=Y.set (self:=self) (new:=(FA cs.toList (i*e.sz+o2) v.cells.toList).toArray) (o':=.sl O e (A.set i z) g true) (x _ _ hk) (by simp [Bk,B]) y1 (r6 rfl) r8 r5 (λhh D =>
        ⟨⟨J,_,B,.inr ⟨b,cap,_,by rw [AQ],oc,r2.set (by grind [List.size_toArray,KZ]),
          by grind[List.size_toArray,KZ],
          λj' y' y0=>by
           have:=eA X r4 I z3 oa j' y' y0;simpa using this.ext D.ext,r5,r6,λh=>(ol),r8⟩⟩,by grind[Bk]⟩)
       exact⟨_,h8 (pO hl r2 l r.oneCell oa),q1,q2⟩
     .cases d
    .cases d
  .rename_i O e A gk hk;cases M:Nat.beq g 0 with
   |false=>grind
   |true=>
    rw[M]at d;simp only[A8]at d;have:=A3 M;subst this;split at d
    .rename_i y hy;split at d
     .rename_i z hz;cases d;exact AEC (xs:=A) hl Y x (x _ _ hk) hy hz hp hv
     .cases d
    .cases d
  .cases d
 .cases d
end
def Gh.addBox(G:Gh)(k b:Nat)(t:Ty):Gh:={G with box:=λj=>if j=k then some (b,t)else G.box j}
def Gh.addVal(G:Gh)(k g:Nat)(v:Value):Gh:={G with val:=λj h=>if j=k/\h=g then some v else G.val j h}
def Gh.addEty(G:Gh)(k:Nat)(t:Ty):Gh:={G with ety:=λj=>if j=k then some t else G.ety j}
def Gh.addIm(G:Gh)(b lo hi:Nat):Gh:={G with im:=⟨λb' o=>G.im.cell b' o\/(b'=b/\lo<=o/\o<hi),G.im.obj⟩}
theorem eB(k:Nat):JO k k=true:=by
 simp_all[JO,Nat.blt,A6,CS,AH]
section
variable{P:Program}{fr:Fr}{free free':Nat->Prop}{self:Nat}{σ σ':SSo}{w w':World}{G G':Gh}
theorem MemS.owned_new(h:MemS P fr free σ w G):fr.owned w.heap.size:=.inl h.after.size
theorem MemS.new(q:MemS P fr free σ w G)(r:free self){H:Go.Obj}{o':Obj}
 (C:w'.heap=w.heap.push H)(E:w'.os=w.os)(s:w'.tape=w.tape)(A:w'.output=w.output)
 (K:∀b d,G.im.cell b d->G'.im.cell b d)(J:∀b d,G'.im.cell b d->G.im.cell b d\/b=w.heap.size)(I:G'.im.obj=G.im.obj)
 (M:∀j,j≠self->G'.box j=G.box j/\G'.ety j=G.ety j/\∀g,G'.val j g=G.val j g)
 (hk:w'.heap[w.heap.size]?=some H->GLe w G w' G'->ObjOK P fr w' G' self o'/\∀x,Bk G' self o' x->x=w.heap.size):
 GLe w G w' G'/\MemS P fr (J1 free self) (EN σ [(self,some o')]) w' G':=by
 have U:=q.fresh self r;have a:∀b,b<w.heap.size->w'.heap[b]?=w.heap[b]?:=λb B=>by rw[C,Array.getElem?_push_lt B,B7 B]
 have z:w'.heap[w.heap.size]?=some H:=by rw[C,DQ]
 have l:GLe w G w' G':=by
  refine⟨⟨λb o h=>⟨K b o h,?_⟩,λb h=>⟨I▸h,a b (q.after.inO b h)⟩⟩,λk g v h=>?_,λk t h=>?_,λk b h=>?_⟩
  .simp only[World.cell?,a b (q.after.inC b o h)]
  .grind
  .grind
  .grind
 obtain⟨R,T⟩:=hk z l;refine⟨l,q.change (b:=w.heap.size) l ?_ (λx h _=>a x h) (by rw[C];simp) (by rw[C];simp) q.owned_new J (λx h=>.inl (I▸h)) E s A ?_ ?_⟩
 .intro j o _ L B;exact absurd (IN (q.objs j o L) B) (AC _)
 .grind
 .intro j D
  have y:j≠self:=λe=>by
   subst e;have:=D.2;grind[eB]
  have i:=q.fresh j D.1;obtain⟨N,O,Q⟩:=M j y;exact⟨y,D.1,O.trans i.2.1,N.trans i.2.2.1,λg=>(Q g).trans (i.2.2.2 g)⟩
theorem AEE{x:t.T}(h:Rel w G.im t x c):Fit (SV.unagg (.val t x)) t.bare/\CR P w G (SV.unagg (.val t x)) c:=by
 cases t with
 |agg p=>
  refine⟨?_,h⟩;rfl
 |_=>exact⟨rfl,h⟩
theorem AEF:∀{t:Ty} {l r:List Value},zc t l=some r->∃c,l=c++r/\CR P w G (H7 t) c/\Fit (H7 t) t/\c.length=t.sz:=by
 intro t
 have base:∀{t:Ty} {l r:List Value},H7 t=.val t t.dflt->zc t l=some r->∃c,l=c++r/\CR P w G (H7 t) c/\Fit (H7 t) t/\c.length=t.sz:=by
  intro t l r C h;obtain⟨c,j,d⟩:=A1g (w:=w) (I:=G.im) h;rw[C];exact⟨c,j,d,rfl,d.length⟩
 have i:∀{a b:Ty} (_:∀{l r:List Value},zc a l=some r->∃c,l=c++r/\CR P w G (H7 a) c/\Fit (H7 a) a/\c.length=a.sz)
  (_:∀{l r:List Value},zc b l=some r->∃c,l=c++r/\CR P w G (H7 b) c/\Fit (H7 b) b/\c.length=b.sz) {l r:List Value},zc (.prod a b) l=some r->
  ∃c,l=c++r/\CR P w G (.pr (H7 a) (H7 b)) c/\(Fit (H7 a) a/\Fit (H7 b) b)/\c.length=a.sz+b.sz:=by
  intro a b z A l r h;simp only[zc]at h;split at h
  .rename_i I B;obtain⟨v,rfl,d,k,o⟩:=z B;obtain⟨x,rfl,D,E,H⟩:=A h;exact⟨v++x,oe,⟨v,x,rfl,d,D⟩,⟨k,E⟩,by simp[o,H]⟩
  .cases h
 have s:∀{e:Ty} {l r:List Value},zc (.slice e) l=some r->∃c,l=c++r/\c=[Value.slice none 0 0]:=by
  intro e l r h;simp only[zc]at h;split at h
  .grind
  .cases h
 have key:∀(n:Nat) (t:Ty),SizeOf.sizeOf t<n->∀{l r:List Value},zc t l=some r->∃c,l=c++r/\CR P w G (H7 t) c/\Fit (H7 t) t/\c.length=t.sz:=by
  intro n;induction n with
  |zero=>intro t h;omega
  |succ n q=>
   intro t y l r h;cases t with
   |prod a b=>
    simp only[Ty.prod.sizeOf_spec]at y;obtain⟨c,j,d,k,o⟩:=i (q a oa) (q b oa) h;exact⟨c,j,d,⟨a,b,rfl,k.1,k.2⟩,o⟩
   |slice e=>
    obtain⟨c,j,rfl⟩:=s h;exact⟨_,j,rfl,rfl,rfl⟩
   |agg p=>
    cases p with
    |prod a b=>
     simp only[Ty.agg.sizeOf_spec,Ty.prod.sizeOf_spec]at y;obtain⟨c,j,d,k,o⟩:=i (q a oa) (q b oa) (show zc (.prod a b) l=some r from h);exact⟨c,j,d,⟨a,b,rfl,k.1,k.2⟩,o⟩
    |_=>exact base rfl h
   |_=>exact base rfl h
 intro l r h;exact key (SizeOf.sizeOf t+1) t oa h
theorem A1s(b:MemS P fr free σ w G)(a:free self){c:SV}{cs:Array Value}(hc:CR P w G c cs.toList)(q:Fit c t)(s:cs.size=t.sz)(d:t=GS->Lay P (.agg GS) id):
 ∃G',GLe w G (w.alloc (.cells cs id)) G'/\MemS P fr (J1 free self) (EN σ [(self,some (.box t c true))]) (w.alloc (.cells cs id)) G'/\
  SR P (w.alloc (.cells cs id)) G' (.ptr self [] t) (.pointer (some ⟨w.heap.size,0,none⟩)):=by
 obtain⟨k,l⟩:=b.new (w':=w.alloc (.cells cs id)) (G':=G.addBox self w.heap.size t) (o':=.box t c true) a rfl rfl rfl rfl
  (λ_ _ h=>h) (λ_ _ h=>.inl h) rfl (λj r=>⟨by simp [Gh.addBox,r],rfl,λ_=>rfl⟩) (λv e =>
   ⟨⟨w.heap.size,cs,id,by simp[Gh.addBox],v,s,q,hc.mono e,⟨λ_ o i=>absurd (b.after.inC _ _ i) (AC _),λh=>ol⟩,λi=>absurd (b.after.inO _ i) (AC _),b.owned_new,d⟩,by grind[Bk,Gh.addBox]⟩)
 refine⟨_,k,l,_,rfl,w.heap.size,t,0,by simp[Gh.addBox],by cases t<;>rfl,⟨t,by cases t<;>rfl,rfl⟩,rfl⟩
theorem Lay.bld(d:Lay P t id)(h:t.bare=GS):Lay P (.agg GS) id:=by
 cases t with
 |agg p=>have h:p=GS:=h;grind
 |prod a b=>cases d
 |_=>cases h
theorem A1t(h:Lay P t id):∃v,(zeroValue id).run P w=.ok v w/\VRel w G.im t t.dflt v:=by
 obtain⟨i,v,a,b,d,e,j⟩:=JP h.inf;simp_all[pI,zeroValue,typeInfo]
theorem AEG(t:Nat)(v:Value):(newVar t v).run P w=.ok ⟨w.heap.size,0,none⟩ (w.alloc (.cells v.cells t)):=by
 rfl
theorem A1u(h:zv t v=true):CR P w G (H7 t.bare) v.cells.toList/\Fit (H7 t.bare) t.bare/\v.cells.size=t.bare.sz:=by
 have i:∀{t:Ty} {l:List Value},OY t l=true->CR P w G (H7 t) l/\Fit (H7 t) t/\l.length=t.sz:=by
  intro t l h;unfold OY at h;split at h
  .rename_i k;obtain⟨c,a,b,d,o⟩:=AEF (P:=P) (w:=w) (G:=G) k;grind
  .cases h
 cases t with
 |agg t=>
  simp only[zv]at h;split at h
  .rename_i cs;obtain⟨a,b,d⟩:=i h;exact⟨a,b,(BF (xs:=cs)).symm.trans d⟩
  .cases h
 |arr n e=>
  simp only[zv]at h;split at h
  .rename_i cs;obtain⟨a,b,d⟩:=i h;exact⟨a,b,(BF (xs:=cs)).symm.trans d⟩
  .cases h
 |_=>
  simp only[zv]at h;split at h
  .cases h
  .rename_i j;obtain⟨a,b,d⟩:=i h;rw[Value.cells_of_not_agg j];exact⟨a,b,d⟩
theorem AEH(a:Lay P t id)(s:MemS P fr free σ w G)(h:free self):
 ∃v w',(Instr.alloc id true (.tuple #[])).run P w=.ok v w'/\
  Res P fr free self σ w G ⟨.ptr self [] t.bare,[(self,some (.box t.bare (H7 t.bare) true))]⟩ v w':=by
 obtain⟨i,z,o,y,A,q,r⟩:=JP a.inf;have x:(zeroValue id).run P w=.ok z w:=by simp[zeroValue,typeInfo,o,q]
 obtain⟨b,d,e⟩:=A1u (P:=P) (w:=w) (G:=G) r;obtain⟨G',j,k,l⟩:=A1s (id:=id) s h b d e a.bld;refine⟨_,_,?_,G',j,k,l⟩;simp only[Instr.alloc,Sem.run_bind,x,Result.andThen_ok,AEG];rfl
theorem AEI(hl:Lay P t id)(hm:MemS P fr free σ w G)(C:free self){c:SV}(d:TW t s=some c)(h:SR P w G s v):
 ∃z w',(Instr.box id v).run P w=.ok z w'/\
  Res P fr free self σ w G ⟨.ptr self [] t.bare,[(self,some (.box t.bare c.unagg true))]⟩ z w':=by
 have hc:CR P w G c.unagg v.cells.toList/\Fit c.unagg t.bare/\v.cells.size=t.bare.sz:=by
  have hd:∀{x:t.T},c=.val t x->VRel w G.im t x v->CR P w G c.unagg v.cells.toList/\Fit c.unagg t.bare/\v.cells.size=t.bare.sz:=by
   intro x J l;subst J;have B:=l.cells;obtain⟨Y,Z⟩:=AEE (P:=P) B;have A:=B.length;exact⟨Z,Y,by grind[Ty.sz_bare]⟩
  have N:∀{a b:Ty} {c0:SV} {i:List Value},t=.agg (.prod a b)->Fit c0 (.prod a b)->CR P w G c0 i->CR P w G c0.unagg i/\Fit c0.unagg t.bare/\i.toArray.size=t.bare.sz:=by
   intro a b c0 i ht I B;have A:=I.len B;subst ht;have D:i.toArray.size=(Ty.prod a b).sz:=by simpa using A
   cases c0 with
   |val u y=>
    cases u with
    |agg q=>
     have hq:q=.prod a b:=I;subst hq;exact⟨B,rfl,D⟩
    |_=>exact⟨B,I,D⟩
   |_=>exact⟨B,I,D⟩
  have E:∀{s:SV},(∀u x,s≠.val u x)->SR P w G s v->v.cells= #[v]->CR P w G s v.cells.toList:=by
   intro s hn d l;rw[l];exact SR.one d hn
  unfold TW at d;split at d
  .rename_i k g;have H:=pL h;have l:v.cells= #[v]:=by cases v<;>first|rfl|cases H
   cases t<;>first|(cases d;done)|skip
   all_goals
    cases d;exact⟨E (λ_ _ e=>by cases e) h l,rfl,by rw[l];rfl⟩
  .rename_i k p u;obtain⟨b,t',o,_,_,_,rfl⟩:=JD h;cases t<;>first|(cases d;done)|skip
   cases d;exact⟨E (λ_ _ e=>by cases e) h rfl,rfl,rfl⟩
  .rename_i u c0;cases O:u.same t with
   |false=>grind
   |true=>
    rw[O]at d;have d:=A2 d;subst d;have:=Ty.same_eq O;subst this;obtain⟨cc,j,i,V,W,e3,X⟩:=h;have l:v=.agg i.toArray:=AB.1 ((show cc=[v]from j).symm.trans V);subst l;obtain⟨a,b,L,M⟩:=W;exact N L M X
  .have r:=h;obtain⟨cc,j,vs,K,Q⟩:=h;have l:v=_:=AB.1 ((show cc=[v]from j).symm.trans K);subst l;cases t<;>first|(cases d;done)|skip
   cases d;exact⟨E (λ_ _ e=>by cases e) r rfl,rfl,rfl⟩
  .have r:=h;obtain⟨cc,j,K,ad,n,m,Q⟩:=h;have l:v=_:=AB.1 ((show cc=[v]from j).symm.trans Q);subst l;cases t<;>first|(cases d;done)|skip
   cases d;exact⟨E (λ_ _ e=>by cases e) r rfl,rfl,rfl⟩
  .have r:=h;obtain⟨cc,j,K⟩:=h;have l:v=.slice none 0 0:=AB.1 ((show cc=[v]from j).symm.trans K);subst l;cases t<;>first|(cases d;done)|skip
   cases d;exact⟨E (λ_ _ e=>by cases e) r rfl,rfl,rfl⟩
  .cases J:SV.as t s with
   |none=>grind
   |some x=>
    rw[J]at d;cases d;exact hd rfl (K8 J h)
 obtain⟨R,T,U⟩:=hc;obtain⟨G',g1,g2,g3⟩:=A1s (id:=id) hm C R T U hl.bld;refine⟨_,_,?_,G',g1,g2,g3⟩;rfl
end
def RowsOK(w:World)(I:Im)(t:Ty)(xs:List t.T)(cs:List Value):Prop:=∀(i:Nat) (x:t.T),xs[i]?=some x->Rel w I t x ((cs.drop (i*t.sz)).take t.sz)
section
variable{P:Program}{fr:Fr}{free free':Nat->Prop}{self:Nat}{σ σ':SSo}{w w':World}{G G':Gh}{I:Im}
theorem RowsOK.ext{xs:List t.T}(h:RowsOK w I t xs cs)(e:Ext w I w' I'):RowsOK w' I' t xs cs:=λi x a=>(h i x a).ext e
theorem lt_of_getElem? {l:List α}{x:α}(h:l[i]?=some x):i<l.length:=(A9.1 h).1
theorem RR{s:Nat}(h:i<n):i*s+s<=n*s:=by
 have:=AZ s h;grind
theorem RowsOK.append{xs ys:List t.T}{r:List Value}(hx:RowsOK w I t xs cs)(k:RowsOK w I t ys ds)(hc:cs.length=xs.length*t.sz)(j:ds.length=ys.length*t.sz):
 RowsOK w I t (xs++ys) (cs++(ds++r)):=by
 intro i x a;by_cases h:i<xs.length
 .rw[C1 h]at a;rw[pF (by rw[hc];exact RR h)];exact hx i x a
 .have d:xs.length<=i:=DE h;rw[BG d]at a;have b:=lt_of_getElem? a
  have e:i*t.sz=cs.length+(i-xs.length)*t.sz:=by
   rw[hc,<-CV];congr 1;omega
  rw[e,pG,pF (by rw[j];exact RR b)];exact k _ x a
theorem AEJ{s:Nat}(h:o+s<=n):((cs.take n).drop o).take s=(cs.drop o).take s:=by
 rw[DJ,List.take_take]
 congr 1
 omega
theorem RowsOK.take{xs:List t.T}(hx:RowsOK w I t xs cs)(a:xs.length*t.sz<=n):RowsOK w I t xs (cs.take n):=by
 intro i x h;rw[AEJ (AT (RR (lt_of_getElem? h)) a)];exact hx i x h
theorem RowsOK.set{xs:List t.T}{z:t.T}(h:RowsOK w I t xs cs)(hc:xs.length*t.sz<=cs.length)(hi:i<xs.length)(a:Rel w I t z ds):
 RowsOK w I t (xs.set i z) (FA cs (i*t.sz) ds):=by
 have b:=a.length
 have:=eA (o2:=0) (ds:=ds) hc h hi (z:=z) (by
  simp_all[take,RR,FA,CE,DO,C4,List.drop_eq_nil_of_le,CG]) oa
 exact this
theorem A1v{ys:List e.T}(h:VRel w I (.slice e) ys v):
 ∃a cap news,v=.slice a ys.length cap/\(a=none->ys=[])/\news.length=ys.length*e.sz/\RowsOK w I e ys news/\(∀u∈news,u.oneCell'=true)/\
  ∀ad,a=some ad->∀j u,news[j]?=some u->ad.spot=none/\w.cell? ⟨ad.block,ad.off+j,none⟩=some u:=by
 obtain⟨c,hc,a,cap,rfl,hcap,hnil0,had⟩:=h;have hnil:a=none->ys=[]:=λh=>(hnil0 h).1;have hv:[v]=[.slice a ys.length cap]:=(show _=[v]from hc).symm;injection hv with hv _;cases a with
 |none=>
  have:=hnil rfl;refine⟨none,cap,[],hv,hnil,?_,?_,oe,oe⟩
  .grind
  .rw[show ys=[]from this];intro i x hx;simp at hx
 |some ad=>
  obtain⟨hs,hr⟩:=had ad rfl
  have hcell:∀j,j<ys.length*e.sz->∃u,w.cell? ⟨ad.block,ad.off+j,none⟩=some u:=by
   intro j hj
   have hpos : 0 < e.sz := by rcases DR e.sz with h | h; · grind
                              .exact h
   have hi:j / e.sz<ys.length:=Nat.div_lt_of_lt_mul oc;obtain⟨c,hrow,_⟩:=hr (j / e.sz) _ (A1 hi);have hm:=Nat.mod_lt j hpos;have:=(hrow.at_ (j % e.sz) hm).2;rw[C_,Nat.div_add_mod']at this;rw[this];exact⟨_,A1 (by rw[hrow.len];exact hm)⟩
  have hnews:∀j,((List.range (ys.length*e.sz)).map λj=>(w.cell? ⟨ad.block,ad.off+j,none⟩).getD undef)[j]?=if j<ys.length*e.sz then w.cell? ⟨ad.block,ad.off+j,none⟩else none:=by
   intro j;by_cases hj:j<ys.length*e.sz
   .grind
   .simp[hj]
  have hrows:RowsOK w I e ys ((List.range (ys.length*e.sz)).map λj=>(w.cell? ⟨ad.block,ad.off+j,none⟩).getD undef):=by
   intro i x hx;obtain⟨c,hrow,hrel⟩:=hr i x hx;have hb:=RR (s:=e.sz) (lt_of_getElem? hx)
   have:c=(((List.range (ys.length*e.sz)).map λj=>(w.cell? ⟨ad.block,ad.off+j,none⟩).getD undef).drop (i*e.sz)).take e.sz:=by
    apply BI;intro j;by_cases hj:j<e.sz
    .rw[B4,if_pos hj,B5,hnews,if_pos (BC (Nat.add_lt_add_left hj _) hb),<-C_];exact(hrow.at_ j hj).2.symm
    .rw[B4,if_neg hj,BY (by rw[hrow.len];omega)]
   rw[<-this];exact hrel
  refine⟨some ad,cap,_,hv,hnil,oe,hrows,?_,?_⟩
  .intro u hu;obtain⟨j,hj,hju⟩:=List.mem_iff_getElem.1 hu;have hj':j<ys.length*e.sz:=by simpa using hj
   have hpos : 0 < e.sz := by rcases DR e.sz with h | h; · grind
                              .exact h
   have hi:j / e.sz<ys.length:=Nat.div_lt_of_lt_mul oc;refine Rel.oneCell (hrows (j / e.sz) _ (A1 hi)) u ?_;refine List.mem_iff_getElem?.2 ⟨j % e.sz,?_⟩;rw[B4,if_pos (Nat.mod_lt j hpos),B5,Nat.div_add_mod',A1 hj,hju]
  .intro ad' had';cases had';intro j u hj;rw[hnews]at hj;split at hj
   .rename_i hlt;refine⟨hs λh0=>?_,hj⟩;have h1:=hcap.1;grind
   .cases hj
theorem MemS.drop(d:MemS P fr free σ w G)(k:Nat):MemS P fr free (EN σ [(k,none)]) w G:=by
 have a:∀j o,EN σ [(k,none)] j=some o->σ j=some o:=by
  intro j o h;simp only[EN]at h;cases t:Nat.beq j k with
  |true=>grind
  |false=>grind
 refine⟨λj o h=>d.objs j o (a j o h),λi j o l b q e=>d.sep i j o l b (a i o q) (a j l e),d.after,λj e=>?_⟩;obtain⟨r,s⟩:=d.fresh j e;simp_all[EN]
theorem MemS.take_sl(D:MemS P fr free σ w G)(x:free self){xs:List t.T}{cs:Array Value}
 (V:∀j o,σ j=some o->¬Bk G j o b)(d:fr.owned b)
 (O:∀a,a<w.heap.size->a≠b->w'.heap[a]?=w.heap[a]?)(N:w.heap.size<=w'.heap.size)
 (M:w'.os=w.os)(z:w'.tape=w.tape)(E:w'.output=w.output)
 (A:HS xs.length cap)(B:RowAt w' b cs el)(y:cs.size=cap*t.sz)
 (s:RowsOK w G.im t xs cs.toList)
 (X:wr=true->∀o,¬G.im.cell b o)(W:∀o,G.im.cell b o->o<xs.length*t.sz/\w'.cell? ⟨b,o,none⟩=w.cell? ⟨b,o,none⟩)(R:¬G.im.obj b):
 ∃G',GLe w G w' G'/\MemS P fr (J1 free self) (EN σ [(self,some (.sl el t xs 0 wr))]) w' G'/\SR P w' G' (.obj self 0) (.slice (some ⟨b,0,none⟩) xs.length cap):=by
 have Y:=D.fresh self x;let I':Im:=bif wr then G.im else⟨λa o=>G.im.cell a o\/(a=b/\o<xs.length*t.sz),G.im.obj⟩
 let G':Gh:={((G.addVal self 0 (.slice (some ⟨b,0,none⟩) xs.length cap)).addEty self t)with im:=I'}
 have T:∀a o,G.im.cell a o->I'.cell a o:=by
  intro a o h;cases wr with
  |true=>exact h
  |false=>exact .inl h
 have U:∀a o,I'.cell a o->G.im.cell a o\/(wr=false/\a=b/\o<xs.length*t.sz):=by
  intro a o h;cases wr with
  |true=>exact .inl h
  |false=>grind
 have l:I'.obj=G.im.obj:=by cases wr<;>rfl
 have J:b<w'.heap.size:=B.lt
 have q:GLe w G w' G':=by
  refine⟨⟨λa o h=>⟨T a o h,?_⟩,λa h=>⟨l▸h,?_⟩⟩,λk g v h=>?_,λk t h=>?_,λk b h=>h⟩
  .by_cases H:a=b
   .grind
   .simp only[World.cell?,O a (D.after.inC a o h) H]
  .exact O a (D.after.inO a h) (λe=>R (e▸h))
  .have:k≠self:=λe=>oc
   simp only[G',Gh.addVal,Gh.addEty,this,DM,CL];exact h
  .have:k≠self:=λe=>oc
   simp only[G',Gh.addVal,Gh.addEty,this,CL];exact h
 have i:G'.val self 0=some (.slice (some ⟨b,0,none⟩) xs.length cap):=by simp[G',Gh.addVal,Gh.addEty]
 refine⟨G',q,D.change (b:=b) q (λj o _ L=>V j o L) O N J d ?_ (λa h=>.inl (l▸h)) M z E ?_ ?_,⟨_,rfl,_,i,rfl,rfl⟩⟩
 .grind
 .intro o L;cases L;refine⟨⟨by simp[G',Gh.addVal,Gh.addEty],_,i,.inr ⟨b,cap,cs,rfl,A,B,y,s.ext q.ext,d,?_,?_,λh=>R (l▸h)⟩⟩,by grind[Bk]⟩
  .grind
  .intro Q o;refine⟨λh=>?_,λh=>?_⟩
   .show I'.cell b o;simp only[I',Q,AA];grind
   grind
 .intro j K
  have r:j≠self:=λe=>by
   subst e;have:=K.2;grind[eB]
  have C:=D.fresh j K.1;refine⟨r,K.1,?_,C.2.2.1,λg=>?_⟩
  .simp only[G',Gh.addVal,Gh.addEty,r,CL];exact C.2.1
  .simp only[G',Gh.addVal,Gh.addEty,r,DM,CL];grind
theorem MemS.nil_sl(r:MemS P fr free σ w G)(s:free self):
 ∃G',GLe w G w G'/\MemS P fr (J1 free self) (EN σ [(self,some (.sl el t [] 0 wr))]) w G'/\SR P w G' (.obj self 0) (.slice none 0 0):=by
 have J:=r.fresh self s;let G':Gh:=(G.addVal self 0 (.slice none 0 0)).addEty self t
 have d:GLe w G w G':=by
  refine⟨Ext.refl _ _,λk g v h=>?_,λk t h=>?_,λk b h=>h⟩
  .have:k≠self:=λe=>oc
   simp only[G',Gh.addVal,Gh.addEty,this,DM,CL];exact h
  .have:k≠self:=λe=>oc
   simp only[G',Gh.addVal,Gh.addEty,this,CL];exact h
 have a:G'.val self 0=some (.slice none 0 0):=by simp[G',Gh.addVal,Gh.addEty]
 have l:∀j,EN σ [(self,some (.sl el t [] 0 wr))] j=if j=self then some (.sl el t [] 0 wr)else σ j:=by
  intro j;simp only[EN];by_cases h:j=self
  .simp
  .simp
 have D:∀b,¬Bk G' self (.sl el t [] 0 wr) b:=by intro b;simp[Bk,a]
 refine⟨G',d,⟨λj o z=>?_,λi j o E b A q B C=>?_,r.after,λj q=>?_⟩,⟨_,rfl,_,a,rfl,rfl⟩⟩
 .rw[l]at z;by_cases h:j=self
  .rw[if_pos h]at z;cases z;subst h;exact⟨by simp[G',Gh.addVal,Gh.addEty],_,a,.inl ⟨rfl,rfl⟩⟩
  .rw[if_neg h]at z;exact(r.objs j o z).keep d λb _=>⟨rfl,λ_ h=>h,λh=>h⟩
 .rw[l]at A q;by_cases H:i=self
  .grind
  .by_cases I:j=self
   .grind
   .rw[if_neg H]at A;rw[if_neg I]at q;exact r.sep i j o E b A q (by rw[<-GT (r.objs i o A) d];exact B) (by rw[<-GT (r.objs j E q) d];exact C)
 .have y:j≠self:=λe=>by
   subst e;have:=q.2;grind[eB]
  have x:=r.fresh j q.1;refine⟨oc,?_,x.2.2.1,λg=>?_⟩
  .simp only[G',Gh.addVal,Gh.addEty,y,CL];exact x.2.1
  .simp only[G',Gh.addVal,Gh.addEty,y,DM,CL];grind
theorem MemS.new_sl(i:MemS P fr free σ w G)(b:free self){xs:List t.T}{cs:Array Value}
 {fz:Nat×Nat}(q:fz.2<=fz.1\/cs.size<=fz.1)(s:w'.heap=w.heap.push (.cells cs el fz))(r:w'.os=w.os)(e:w'.tape=w.tape)(l:w'.output=w.output)
 (k:HS xs.length cap)(d:cs.size=cap*t.sz)(a:RowsOK w G.im t xs cs.toList):
 ∃G',GLe w G w' G'/\MemS P fr (J1 free self) (EN σ [(self,some (.sl el t xs 0 wr))]) w' G'/\SR P w' G' (.obj self 0) (.slice (some ⟨w.heap.size,0,none⟩) xs.length cap):=
 i.take_sl b (λj o v h=>absurd (IN (i.objs j o v) h) (AC _)) i.owned_new
  (λx h _=>by rw[s,Array.getElem?_push_lt h,B7 h]) (by rw[s];simp) r e l k ⟨fz,by rw[s,DQ],q⟩ d a
  (λ_ o h=>absurd (i.after.inC _ _ h) (AC _)) (λo h=>absurd (i.after.inC _ _ h) (AC _)) (λh=>absurd (i.after.inO _ h) (AC _))
theorem RowsOK.made{z:List Value}{x:t.T}(l:Rel w I t x z){m:Nat}(e:m<=n):RowsOK w I t (List.replicate m x) (madeCells z.toArray (n*t.sz)).toList:=by
 intro i y b;have h:=lt_of_getElem? b;rw[BN]at h
 have k:x=y:=by
  rw[DW,if_pos h]at b;exact A2 b
 subst k;have a:=l.length;have r:=RR (s:=t.sz) (BC h e)
 have:((madeCells z.toArray (n*t.sz)).toList.drop (i*t.sz)).take t.sz=z:=by
  apply BI;intro j;by_cases d:j<t.sz
  .rw[B4,if_pos d,B5];have o:i*t.sz+j<n*t.sz:=oa
   have q:(i*t.sz+j) % z.length=j:=by
    rw[a,DL,Nat.mul_add_mod];exact Nat.mod_eq_of_lt d
   simp_all[madeCells,Array.toList_map,Array.toList_range,AV,CY,BH,BQ,A1]
  .rw[B4,if_neg d,BY oa]
 grind
theorem N6(h:Lay P t id):∃i z,P.info? id=some i/\i.size=t.sz/\i.bytes<=24*t.sz/\i.zero=some z/\VRel w I t t.dflt z/\Rel w I t t.dflt z.cells.toList:=by
 obtain⟨i,v,a,b,d,e,j⟩:=JP h.inf;grind[pI]
theorem A1w{B:Nat}{l c:Int}{z:α}{xs:List α}(h:mks? B l c z=some xs):0<=l/\l<=c/\c.toNat*B<=70368744177664/\xs=List.replicate l.toNat z:=by
 unfold mks? at h;grind
theorem AEK(Q:Lay P (.slice e) id)(R:MemS P fr free σ w G)(j:free self){a b:Int}{D:List e.T}(s:GK .i64 b)
 (h:mks? (24*e.sz) a b e.dflt=some D)(r:∀x,P.underlying id=some (.slice x)->el=x):
 ∃v w',(Instr.makeSlice id (.int .i64 a) (.int .i64 b)).run P w=.ok v w'/\Res P fr free self σ w G ⟨.obj self 0,[(self,some (.sl el e D 0 wr))]⟩ v w':=by
 obtain⟨E,C,t,B⟩:=Q.slice;have:=r _ C;subst this;obtain⟨J,k,W,rfl⟩:=A1w h;obtain⟨i,z,K,L,M,N,U,V⟩:=N6 (P:=P) (w:=w) (I:=G.im) t
 have o:(i.bytes:Int)*b<=281474976710656:=by
  have l:b=(b.toNat:Int):=oa
  have O:i.bytes*b.toNat<=281474976710656:=by
   have:i.bytes*b.toNat<=b.toNat*(24*e.sz):=by rw[DL];exact CC _ M
   omega
  rw[l,←Int.natCast_mul];exact Int.ofNat_le.2 O
 have q:b≤9223372036854775807:=s.2;have d:=run_make (P:=P) w id el i z C K N .i64 .i64 a b J k o q;rw[L]at d;have T:madeCells z.cells (b.toNat*e.sz)=madeCells z.cells.toList.toArray (b.toNat*e.sz):=oe
 obtain⟨G',H,I,A⟩:=R.new_sl (w':=w.alloc (.cells (madeCells z.cells (b.toNat*e.sz)) el)) (el:=el) (wr:=wr) j (cap:=b.toNat) (xs:=List.replicate a.toNat e.dflt) (cs:=madeCells z.cells (b.toNat*e.sz)) (fz:=(0,0)) (.inl (AH _)) rfl rfl rfl rfl
  (by
   rw[BN];have y:b.toNat*1≤b.toNat*(24*e.sz):=CC _ oa;exact⟨oa,oa⟩) (size_madeCells _ _) (by rw[T];grind[RowsOK.made])
 rw[BN]at A;exact⟨_,_,d,G',H,I,A⟩
theorem AEL:∀(ds:List Value) (k off:Nat) (cs:Array Value),off+k+ds.length<=cs.size->
 (ds.zipIdx k).foldl (λ(cs:Array Value) (p:Value×Nat)=>cs.setIfInBounds (off+p.2) p.1) cs=(FA cs.toList (off+k) ds).toArray:=by
 intro ds;induction ds with
 |nil=>simp_all[FA]
 |cons d ds i=>
  intro k off cs h;simp only[AX]at h;rw[List.zipIdx_cons,List.foldl_cons,i (k+1) off _ om]
  congr 1
  apply BI;intro j;rw[M4 om,M4 om];grind
theorem pQ{a:Nat->Option (Nat×Nat)}{cells:Array Value}{off size:Nat}{r:List (Nat×Value)}(b:a i=some (off,size))(d:v.cells.size=size)(h:off+size<=cells.size):
 Instr.fill a cells ((i,v)::r)=Instr.fill a (FA cells.toList off v.cells.toList).toArray r:=by
 have e:v.cells.zipIdx.foldl (λ(cs:Array Value) (p:Value×Nat)=>cs.setIfInBounds (off+p.2) p.1) cells=(FA cells.toList off v.cells.toList).toArray:=by
  have:=AEL v.cells.toList 0 off cells om;rw[<-Array.foldl_toList,Array.toList_zipIdx];simpa using this
 simp_all[Instr.fill,if_neg]
theorem AEM{p:Ty}{fs:Array Field}(O:(layB P p).2 fs.toList 0=true)
 (C:∀(f:Nat) (F:Field),fs[f]?=some F->∃s,places[f]?=some (F.offset,s)/\∃i,P.info? F.type=some i/\i.size=s)
 (R:MemS P fr free σ w G)(E:∀k o,σ' k=some o->σ k=some o):
 ∀{ps:List (Nat×SV)} {vs:List (Nat×Value)} {x y:p.T} {cells:Array Value},XA σ' p ps x=some y->ps.length=vs.length->
  (∀(j:Nat) (q:Nat×SV) (u:Nat×Value),ps[j]?=some q->vs[j]?=some u->q.1=u.1/\SR P w G q.2 u.2)->Rel w G.im p x cells.toList->
  ∃a,Instr.fill (places.toArray[·]?) cells vs=some a/\Rel w G.im p y a.toList:=by
 obtain⟨k1,Y⟩:=XX O;intro ps;induction ps with
 |nil=>
  intro vs x y cells h b _ z;cases vs with
  |nil=>cases h;exact⟨cells,rfl,z⟩
  |cons _ _=>simp at b
 |cons q r W=>
  intro vs x y cells h b I z;cases vs with
  |nil=>simp at b
  |cons u vs=>
   obtain⟨i,s⟩:=q;obtain⟨V,v⟩:=u;obtain⟨A,l⟩:=I 0 _ _ rfl rfl;have A:i=V:=A;subst A;have l:SR P w G s v:=l;simp only[XA]at h;cases d:o7 σ' p i s x with
   |none=>grind
   |some x'=>
    rw[d]at h;unfold o7 at d;cases e:Nat.blt i p.fields with
    |false=>grind
    |true=>
     rw[e]at d;simp only[A8]at d;rw[B_]at e;split at d
     .rename_i u T;split at d
      .rename_i yv U;have J:=(K9 (λk o h=>R.objs k o (E k o h)) U l).cells;have t:i<fs.toList.length:=by rw[k1];exact e
       obtain⟨u',o,L,q2,q3,q4⟩:=Y i _ (A1 t);rw[T]at L;cases L;obtain⟨sz,K,X,Z,p3⟩:=C i _ (by rw[←BT];exact A1 t)
       have D:sz=u.sz:=by
        obtain⟨i2,_,H,M,_⟩:=JP q4.inf;rw[Z]at H;cases H;rw[<-p3,M]
       subst D;obtain⟨z1,z2,z3⟩:=dU z d q2 J;have B:=J.length;have Q:=z.length;rw[q3,C4]at K;rw[pQ (off:=o) (size:=u.sz) (by simpa using K) oa oc];exact W h (by simpa using b) (λj q u d N=>I (j+1) q u (by simpa using d) (by simpa using N)) (by simpa using z3)
      .cases d
     .cases d
theorem A1x(D:MemS P fr free σ w G)(y:∀k o,σ' k=some o->σ k=some o):
 ∀{ps:List (Nat×SV)} {vs:List (Nat×Value)} {xs ys:List e.T} {cells:Array Value},PS σ' e ps xs=some ys->ps.length=vs.length->
  (∀(j:Nat) (q:Nat×SV) (u:Nat×Value),ps[j]?=some q->vs[j]?=some u->q.1=u.1/\SR P w G q.2 u.2)->cells.size=xs.length*e.sz->RowsOK w G.im e xs cells.toList->
  ∃a,Instr.fill (λi=>some (i*e.sz,e.sz)) cells vs=some a/\ys.length=xs.length/\a.size=cells.size/\RowsOK w G.im e ys a.toList:=by
 intro ps;induction ps with
 |nil=>
  intro vs xs ys cells h b _ _ A;cases vs with
  |nil=>cases h;exact⟨cells,rfl,rfl,rfl,A⟩
  |cons _ _=>simp at b
 |cons q r K=>
  intro vs xs ys cells h b z E A;cases vs with
  |nil=>simp at b
  |cons u vs=>
   obtain⟨i,s⟩:=q;obtain⟨J,v⟩:=u;obtain⟨t,l⟩:=z 0 _ _ rfl rfl;have t:i=J:=t;subst t;have l:SR P w G s v:=l;simp only[PS]at h;cases d:Nat.blt i xs.length with
   |false=>grind
   |true=>
    rw[d]at h;simp only[A8]at h;rw[B_]at d;split at h
    .rename_i R I;have H:=(K9 (λk o h=>D.objs k o (y k o h)) I l).cells;have x:=H.length;have Q:=RR (s:=e.sz) d;rw[pQ (off:=i*e.sz) (size:=e.sz) rfl oa oa]
     obtain⟨a,L,M,N,O⟩:=K (cells:=(FA cells.toList (i*e.sz) v.cells.toList).toArray) h (by simpa using b) (λj q u B C=>z (j+1) q u (by simpa using B) (by simpa using C))
      (by grind[List.size_toArray,KZ]) (by grind[RowsOK.set])
     grind[List.length_set,List.size_toArray,KZ]
    .cases h
theorem A1y:∀(fs:List Field),(∀(f:Nat) (F:Field),fs[f]?=some F->∃i,P.info? F.type=some i)->
 ∃places:List (Nat×Nat),fs.mapM (λf=>(P.info? f.type).map λi=>(f.offset,i.size))=some places/\
  ∀(f:Nat) (F:Field),fs[f]?=some F->∃s,places[f]?=some (F.offset,s)/\∃i,P.info? F.type=some i/\i.size=s:=by
 intro fs;induction fs with
 |nil=>simp
 |cons g fs e=>
  intro h;obtain⟨i,d⟩:=h 0 g rfl;obtain⟨places,b,j⟩:=e (λf F a=>h (f+1) F (by simpa using a));refine⟨(g.offset,i.size)::places,by simp[d,b],λf F a=>?_⟩;grind
theorem AEN(v:Lay P t id)(I:MemS P fr free σ w G)(s:∀k o,σ' k=some o->σ k=some o){vs:Array (Nat×Value)}{u:Upd}
 (h:c_ σ' t ps=some r)(K:Gives r u)(b:ps.length=vs.toList.length)
 (J:∀(j:Nat) (q:Nat×SV) (u:Nat×Value),ps[j]?=some q->vs.toList[j]?=some u->q.1=u.1/\SR P w G q.2 u.2):
 u.wr=[]/\∃z,(Instr.build id vs).run P w=.ok z w/\SR P w G u.sv z:=by
 obtain⟨it,zv,h1,h2,h3,h4,h5,D⟩:=N6 (P:=P) (w:=w) (I:=G.im) v;unfold c_ at h;split at h
 .rename_i p;cases d:XA σ' p ps p.dflt with
  |none=>rw[d]at h;cases h
  |some x=>
   rw[d]at h;have h:=A2 h;subst h;rw[K.v_inv];obtain⟨fs,B,E,l⟩:=v.agg;obtain⟨k1,Q⟩:=XX E
   obtain ⟨places,p1,U⟩:=A1y (P:=P) fs.toList (λf F H=>by
    obtain⟨u,o,_,_,_,V⟩:=Q f F H;obtain⟨i,_,e,_⟩:=JP V.inf;exact⟨i,e⟩)
   obtain⟨a,L,C⟩:=AEM (x:=p.dflt) (cells:=zv.cells) E (λf F H=>U f F oc) I s d b J D;refine⟨rfl,.agg a,run_build w id vs a ?_,a.toList,by rfl,C⟩;grind[Program.built]
 .rename_i n e;cases d:PS σ' e ps (List.replicate n e.dflt)with
  |none=>rw[d]at h;cases h
  |some x=>
   rw[d]at h;have h:=A2 h;subst h;rw[K.v_inv];obtain⟨el,B,A,l,hn⟩:=v.arr;obtain⟨ie,ze,X,Y,Z,e4,e5,e6⟩:=N6 (P:=P) (w:=w) (I:=G.im) A;obtain⟨l1,R,T⟩:=D;have N:zv.cells.size=n*e.sz:=by simpa using R
   obtain⟨a,L,C,W,M⟩:=A1x (cells:=zv.cells) I s d b J oc (λi y O=>T i y O);refine⟨rfl,.agg a,run_build w id vs a ?_,a.toList,by rfl,?_,?_,M⟩
   .grind[Program.built]
   .grind
   grind
 .cases h
theorem AEO(y:MemS P fr free σ w G)(j:∀k o,σ' k=some o->σ k=some o){l:SV}(h:o8 σ' u s=some l)(d:SR P w G s v):
 Fit l u/\CR P w G l v.cells.toList/\∀x∈v.cells.toList,x.oneCell'=true:=by
 have r:∀{s:SV},(SV.asV σ' u s).map (SV.val u ·)=some l->SR P w G s v->Fit l u/\CR P w G l v.cells.toList/\∀x∈v.cells.toList,x.oneCell'=true:=by
  intro s e a;cases i:SV.asV σ' u s with
  |none=>grind
  |some x=>
   rw[i]at e;cases e;have:=(K9 (λk o h=>y.objs k o (j k o h)) i a).cells;exact⟨rfl,this,this.oneCell⟩
 unfold o8 at h;split at h
 .split at h
  .cases h;obtain⟨c,e,a⟩:=d;have a:c=[.slice none 0 0]:=a;have A:v=.slice none 0 0:=AB.1 ((show c=[v]from e).symm.trans a);subst A;exact⟨rfl,rfl,by simp[Value.cells,Value.oneCell']⟩
  .cases h
 .rename_i k g
  have b:∀{u:Ty},u.sz=1->Fit (.obj k g) u/\CR P w G (.obj k g) v.cells.toList/\∀x∈v.cells.toList,x.oneCell'=true:=by
   intro u z;have t:=d.one oe;have q:=pL d;rw[Y0 q];exact⟨z,t,by simpa using q⟩
  split at h
  .rename_i x i;cases h;exact r (s:=.obj k g) (by show(PQ σ' k g u).map _=_;rw[i];rfl) d
  .split at h
   .cases h;exact b rfl
   .cases h;exact b rfl
   .cases h
 .exact r h d
theorem AEP{p:Ty}{fs:Array Field}(X:(layB P p).2 fs.toList 0=true)
 (H:∀(f:Nat) (F:Field),fs[f]?=some F->∃s,places[f]?=some (F.offset,s)/\∃i,P.info? F.type=some i/\i.size=s)
 (hm:MemS P fr free σ w G)(J:∀k o,σ' k=some o->σ k=some o):
 ∀{ps:List (Nat×SV)} {vs:List (Nat×Value)} {x y:SV} {cells:Array Value},TV σ' p ps x=some y->ps.length=vs.length->
  (∀(j:Nat) (q:Nat×SV) (u:Nat×Value),ps[j]?=some q->vs[j]?=some u->q.1=u.1/\SR P w G q.2 u.2)->Fit x p->CR P w G x cells.toList->(∀c∈cells.toList,c.oneCell'=true)->
  ∃a,Instr.fill (places.toArray[·]?) cells vs=some a∧Fit y p∧CR P w G y a.toList∧∀c∈a.toList,c.oneCell'=true:=by
 obtain⟨k1,k2⟩:=XX X;intro ps;induction ps with
 |nil=>
  intro vs x y cells h b _ A B d;cases vs with
  |nil=>cases h;exact⟨cells,rfl,A,B,d⟩
  |cons _ _=>simp at b
 |cons q r ih=>
  intro vs x y cells h b M A B L;cases vs with
  |nil=>simp at b
  |cons u vs=>
   obtain⟨i,s⟩:=q;obtain⟨i',v⟩:=u;obtain⟨D,t⟩:=M 0 _ _ rfl rfl;have D:i=i':=D;subst D;have t:SR P w G s v:=t;simp only[TV]at h;cases d:o9 σ' p i s x with
   |none=>grind
   |some x'=>
    rw[d]at h;unfold o9 at d;cases e:Nat.blt i p.fields with
    |false=>grind
    |true=>
     rw[e]at d;simp only[A8]at d;rw[B_]at e;split at d
     .rename_i u N;split at d
      .rename_i l Z;obtain⟨O,R,Q⟩:=AEO hm J Z t;have z:i<fs.toList.length:=by rw[k1];exact e
       obtain⟨u',o,U,q2,q3,q4⟩:=k2 i _ (A1 z);rw[N]at U;cases U;obtain⟨sz,T,h0,p2,p3⟩:=H i _ (by rw[<-BT];exact A1 z)
       have I:sz=u.sz:=by
        obtain⟨i2,_,K,V,_⟩:=JP q4.inf;rw[p2]at K;cases K;rw[<-p3,V]
       subst I;obtain⟨z1,z2,z3⟩:=pH A B d q2 N O R;have E:=O.len R;have Y:=A.len B;rw[q3,C4]at T;rw[pQ (off:=o) (size:=u.sz) (by simpa using T) oa oc]
       exact ih h (by simpa using b) (λj q u d W=>M (j+1) q u (by simpa using d) (by simpa using W)) z1 (by simpa using z3) (λc C=>by
        have C:c∈FA cells.toList o v.cells.toList:=by simpa using C
        unfold FA at C;grind)
      .cases d
     .cases d
theorem AEQ(C:Lay P t id)(K:MemS P fr free σ w G)(v:∀k o,σ' k=some o->σ k=some o){vs:Array (Nat×Value)}{u:Upd}
 (h:XB σ' t ps=some r)(M:Gives r u)(l:ps.length=vs.toList.length)
 (L:∀(j:Nat) (q:Nat×SV) (u:Nat×Value),ps[j]?=some q->vs.toList[j]?=some u->q.1=u.1/\SR P w G q.2 u.2):
 u.wr=[]/\∃z,(Instr.build id vs).run P w=.ok z w/\SR P w G u.sv z:=by
 obtain⟨it,zv,W,X,Y,Z,y⟩:=JP C.inf;cases t<;>first|(simp[XB]at h;done)|skip
 rename_i p;cases p<;>first|(simp[XB]at h;done)|skip
 rename_i a b;have h:(TV σ' (.prod a b) ps (H7 (.prod a b))).map (λc=>OpRes.v (.bt (.agg (.prod a b)) c))=some r:=h;cases E:TV σ' (.prod a b) ps (H7 (.prod a b))with
 |none=>grind
 |some x=>
  rw[E]at h;have h:=A2 h;subst h;rw[M.v_inv];obtain⟨fs,N,A,D⟩:=C.agg;obtain⟨k1,O⟩:=XX A
  obtain ⟨places,p1,Q⟩:=A1y (P:=P) fs.toList (λf F B=>by
   obtain⟨u,o,_,_,_,R⟩:=O f F B;obtain⟨i,_,e,_⟩:=JP R.inf;exact⟨i,e⟩)
  obtain⟨T,U,z3⟩:=A1u (P:=P) (w:=w) (G:=G) y;have s:∀c∈zv.cells.toList,c.oneCell'=true:=((pI (w:=w) (I:=G.im) y).2).oneCell;obtain⟨d,V,H,I,J⟩:=AEP (x:=H7 (.prod a b)) (cells:=zv.cells) A (λf F B=>Q f F oc) K v E l L U T s;refine⟨rfl,.agg d,run_build w id vs d ?_,_,rfl,d.toList,oe,⟨a,b,rfl,H⟩,J,I⟩;grind[Program.built]
theorem AER{len:Nat}(U:Lay P (.slice e) id)(H:MemS P fr free σ w G)(B:∀k o,σ' k=some o->σ k=some o)(b:free self){vs:Array (Nat×Value)}{xs:List e.T}
 (A:(bif Nat.blt 0 len&&Nat.ble (len*e.sz) 16777216 then PS σ' e ps (List.replicate len e.dflt)else none)=some xs)(d:ps.length=vs.toList.length)(t:∀x,P.underlying id=some (.slice x)->el=x)
 (V:∀(j:Nat) (q:Nat×SV) (u:Nat×Value),ps[j]?=some q->vs.toList[j]?=some u->q.1=u.1/\SR P w G q.2 u.2):
 ∃v w',(Instr.buildSlice id len vs).run P w=.ok v w'/\Res P fr free self σ w G ⟨.obj self 0,[(self,some (.sl el e xs 0 wr))]⟩ v w':=by
 obtain⟨M,J,y,h⟩:=U.slice;have:=t _ J;subst this;cases s:(Nat.blt 0 len&&Nat.ble (len*e.sz) 16777216)with
 |false=>grind
 |true=>
  rw[s]at A;simp only[A8]at A;simp only[A6,B_,Nat.ble_eq]at s;obtain⟨i,z,Q,r,X,R,Y,T⟩:=N6 (P:=P) (w:=w) (I:=G.im) y;have W:madeCells z.cells (len*e.sz)=madeCells z.cells.toList.toArray (len*e.sz):=oe
  obtain⟨a,K,C,D,L⟩:=A1x (cells:=madeCells z.cells (len*e.sz)) H B A d V (by rw[size_madeCells,BN])
   (by rw[W];exact RowsOK.made T (AH _))
  rw[BN]at C;rw[size_madeCells]at D;have I:0<len*e.sz:=Nat.mul_pos s.1 h;have l:=run_buildSlice w id el len vs a i z J Q R (by rw[r];omega) (by rw[r];omega) (by rw[r];exact K)
  obtain ⟨G',N,O,E⟩:=H.new_sl (w':=w.alloc (.cells a el)) (el:=el) (wr:=wr) b (cap:=len) (xs:=xs) (cs:=a) (fz:=(0,0)) (.inl (AH _)) rfl rfl rfl rfl ⟨oa,by
   have:len*1<=len*e.sz:=CC _ h;omega⟩ D L
  rw[C]at E;exact⟨_,_,l,G',N,O,E⟩
theorem A1z(t:Lay P (.slice e) id)(y:MemS P fr free σ w G)(h:free self)(b:∀x,P.underlying id=some (.slice x)->el=x):
 ∃v w',(Instr.buildSlice id 0 #[]).run P w=.ok v w'/\Res P fr free self σ w G ⟨.obj self 0,[(self,some (.sl el e [] 0 wr))]⟩ v w':=by
 obtain⟨l,k,d,j⟩:=t.slice;have:=b _ k;subst this;obtain⟨i,z,s,B,C,D,E,H⟩:=N6 (P:=P) (w:=w) (I:=G.im) d
 have a:(Instr.buildSlice id 0 #[]).run P w=.ok (.slice (some ⟨w.heap.size,0,none⟩) 0 0) (w.alloc (.cells #[] el)):=by
  simp[Instr.buildSlice,run_underlying k,sizeOf,typeInfo,s,newRow,Instr.fill];rw[show(Array.range 0).map (λ_=>(default:Value))= #[]from Array.eq_empty_of_size_eq_zero oe]
 obtain⟨G',o,q,r⟩:=y.new_sl (w':=w.alloc (.cells #[] el)) (el:=el) (wr:=wr) h (cap:=0) (xs:=([]:List e.T)) (cs:=#[]) (fz:=(0,0)) (.inl (AH _)) rfl rfl rfl rfl ⟨oe,oe⟩ oe (λi x A=>by simp at A);exact⟨_,_,a,G',o,q,r⟩
theorem AES(k:Lay P (.slice e) id)(t:MemS P fr free σ w G)(a:free self)(d:∀x,P.underlying id=some (.slice x)->el=x):
 ∃v w',(Instr.buildSlice id 0 #[]).run P w=.ok v w'/\Res P fr free self σ w G ⟨.em e,[(self,some (.sl el e [] 0 wr))]⟩ v w':=by
 obtain⟨b,y,j,l⟩:=k.slice;obtain⟨i,z,s,B,C,D,E,H⟩:=N6 (P:=P) (w:=w) (I:=G.im) j
 have h:(Instr.buildSlice id 0 #[]).run P w=.ok (.slice (some ⟨w.heap.size,0,none⟩) 0 0) (w.alloc (.cells #[] b)):=by
  simp[Instr.buildSlice,run_underlying y,sizeOf,typeInfo,s,newRow,Instr.fill];rw[show(Array.range 0).map (λ_=>(default:Value))= #[]from Array.eq_empty_of_size_eq_zero oe]
 obtain⟨v,w',o,G',q,r,A⟩:=A1z (wr:=wr) k t a d;rw[h]at o;cases o;exact⟨_,_,h,G',q,r,_,rfl,_,rfl⟩
theorem AET{k v:Ty}(D:Lay P (.map k v) id)(s:MemS P fr free σ w G)(l:free self){r:Option Value}(t:∀x,r=some x->∃y n,x=.int y n):
 ∃z w',(Instr.makeMap id r).run P w=.ok z w'/\Res P fr free self σ w G ⟨.obj self 0,[(self,some (.mp k v [] true))]⟩ z w':=by
 obtain⟨a,b,I,_,_⟩:=D.map
 have q:(Instr.makeMap id r).run P w=.ok (.map (some w.heap.size)) (w.alloc (.map #[] 0)):=by
  cases r with
  |none=>rfl
  |some x=>
   obtain⟨y,n,rfl⟩:=t x rfl;simp[Instr.makeMap,run_underlying I,asInt,asIntOf]
 let G':Gh:=G.addVal self 0 (.map (some w.heap.size))
 have d:G'.val self 0=some (.map (some w.heap.size)):=by simp[G',Gh.addVal]
 obtain⟨A,B⟩:=s.new (w':=w.alloc (.map #[] 0)) (G':=G') (o':=.mp k v [] true) l rfl rfl rfl rfl (λ_ _ h=>h) (λ_ _ h=>.inl h) rfl
  (λj C=>⟨rfl,rfl,λg=>by simp [G',Gh.addVal,C]⟩) (λH E=>⟨⟨_,d,w.heap.size,#[],0,rfl,H,⟨rfl,MapKept.stamped_empty 0⟩,λi x e h=>by simp at h,
   ⟨λ_ h=>absurd (s.after.inO _ h) (AC _),λh=>ol⟩,λo h=>absurd (s.after.inC _ _ h) (AC _),s.owned_new⟩,by grind[Bk]⟩)
 exact⟨_,_,q,G',A,B,_,rfl,_,d,rfl,rfl⟩
theorem Y2{B:Nat}{xs ys z:List α}(h:app? B xs ys=some z):(xs.length+ys.length)*B<=70368744177664/\z=xs++ys:=by
 unfold app? at h;grind
theorem AEU{i:TypeInfo}(y:P.underlying id=some (.slice el))(hi:P.info? el=some i)(z:i.size=e.sz){ys:List e.T}(h:VRel w I (.slice e) ys v):
 ∃b,Src P i.size id v ys.length b w/\b.length=ys.length*e.sz/\RowsOK w I e ys b:=by
 obtain⟨a,cap,b,rfl,k,o,q,r,s⟩:=A1v h;cases a with
 |none=>
  have:=k rfl;subst this;have:b=[]:=AM (by simpa using o);grind[Src.ofNil]
 |some d=>
  have t:=s d rfl;refine⟨b,Src.ofSlice w y d _ _ b oc (λj u x=>?_) r,o,q⟩;have l:=(t j u x).1
  have:d.add j=⟨d.block,d.off+j,none⟩:=by
   cases d;cases l;exact LG
  grind
def RS(P:Program)(w:World)(I:Im)(e:Ty)(id:Nat)(ys:List e.T)(v:Value):Prop:=
 ∃news,Src P e.sz id v ys.length news w/\news.length=ys.length*e.sz/\RowsOK w I e ys news
theorem eC(o:Lay P (.slice e) id){ys:List e.T}(h:VRel w I (.slice e) ys v):RS P w I e id ys v:=by
 obtain⟨j,q,b,d⟩:=o.slice;obtain⟨i,z,k,l,_⟩:=JP b.inf;obtain⟨a,t,s,r⟩:=AEU q k l h;exact⟨a,oc,s,r⟩
theorem AEV{ys:DX}{x:Int}(hx:(FL ys)[i]?=some x):GK .u8 x/\(((FL ys).map (Value.int .u8)).drop (i*1)).take 1=[Value.int .u8 x]:=by
 have h:i<(FL ys).length:=(A9.1 hx).1;refine⟨?_,?_⟩
 .unfold FL at hx;rw[AV]at hx;grind[Option.some.inj,pK]
 simp_all[CW,C5,List.getElem_map,List.take_succ_cons,CE,A1,A2]
theorem AEW(q:Lay P .str id){ys:DX}(h:SR P w G (.val .str ys) v):RS P w G.im (.int .u8) id (FL ys) v:=by
 obtain⟨rfl,_⟩:=h.str;have b:(FL ys).length=(⟨ys.toArray⟩:ByteArray).size:=by simp[FL,ByteArray.size]
 have a:byteCells ⟨ys.toArray⟩=(FL ys).map (Value.int .u8):=by simp[byteCells,FL]
 have d:Src P 1 id (.string ⟨ys.toArray⟩) (FL ys).length (byteCells ⟨ys.toArray⟩) w:=by rw[b];exact Src.ofString w q.str _
 have j:(byteCells ⟨ys.toArray⟩).length=(FL ys).length*1:=by rw[a];simp
 refine⟨byteCells ⟨ys.toArray⟩,d,j,λi x k=>?_⟩;have k:(FL ys)[i]?=some (show Int from x):=k;obtain⟨l,o⟩:=AEV k;rw[a];have e:(((FL ys).map (Value.int .u8)).drop (i*(Ty.int .u8).sz)).take (Ty.int .u8).sz=[Value.int .u8 x]:=o;rw[e];exact⟨rfl,l⟩
theorem pR(J:Lay P (.slice e) id)(N:P.underlying id=some (.slice el))(l:Lay P e el)(K:MemS P fr free σ w G)(b:free self){xs ys:List e.T}{base:Option Addr}{olds:List Value}
 (U:(xs.length+ys.length)*(24*e.sz)<=70368744177664)(h:cap<xs.length+ys.length)(Q:RS P w G.im e id2 ys v)
 (s:(Builtin.firstCells e.sz xs.length (.slice base xs.length cap)).run P w.drew=.ok olds.toArray w.drew)(o:olds.length=xs.length*e.sz)(L:RowsOK w G.im e xs olds):
 ∃z w',(Builtin.append_ #[id,id2] ty #[.slice base xs.length cap,v]).run P w=.ok z w'/\Res P fr free self σ w G ⟨.obj self 0,[(self,some (.sl el e (xs++ys) 0 wr))]⟩ z w':=by
 obtain⟨i,z,B,C,D,E,T,H⟩:=N6 (P:=P) (w:=w) (I:=G.im) l;obtain⟨a,x,R,V⟩:=Q;rw[<-C]at x
 have t:0<e.sz:=by
  obtain⟨_,O,_,M⟩:=J.slice;exact M
 have d:(xs.length+ys.length)*i.bytes<=140737488355328:=by
  have:(xs.length+ys.length)*i.bytes<=(xs.length+ys.length)*(24*e.sz):=CC _ D;omega
 have I:xs.length+ys.length<=70368744177664:=by
  have:(xs.length+ys.length)*1<=(xs.length+ys.length)*(24*e.sz):=CC _ oa;omega
 have j:=run_append_grow_src w id id2 ty el i z N B E base xs.length cap olds oc v ys.length a x h oa (growslice_fits h d);have k:=grownCap_ge w (xs.length+ys.length) cap el;have q:z.cells.size=e.sz:=by have:=H.length;simpa using this
 obtain⟨G',y,A,r⟩:=K.new_sl (w':=w.drew.alloc (.cells ((olds++a).toArray++Builtin.zeroCells z.cells (grownCap w (xs.length+ys.length) cap el-(xs.length+ys.length))) el)) (el:=el) (wr:=wr) b
  (cap:=grownCap w (xs.length+ys.length) cap el) (xs:=xs++ys) (fz:=(0,0)) (.inl (AH _)) rfl rfl rfl rfl (by rw[AE];exact⟨k,oa⟩)
  (by
   rw[Array.size_append,size_zeroCells,q,BQ,AE,o,R,<-CV,<-CV];grind)
  (by
   grind[Array.toList_append,List.append_assoc,RowsOK.append])
 rw[AE]at r;exact⟨_,_,j,G',y,A,r⟩
theorem pS(t:Lay P (.slice e) id)(k:∀x,P.underlying id=some (.slice x)->el=x)(y:MemS P fr free σ w G)(a:free self){ys r:List e.T}
 (B:RS P w G.im e id2 ys v)(h:app? (24*e.sz) [] ys=some r):
 ∃z w',(Builtin.append_ #[id,id2] ty #[.slice none 0 0,v]).run P w=.ok z w'/\Res P fr free self σ w G ⟨.obj self 0,[(self,some (.sl el e r 0 wr))]⟩ z w':=by
 obtain⟨C,o,d,A⟩:=t.slice;have:=k _ o;subst this;obtain⟨L,q⟩:=Y2 h;have q:r=ys:=q;rw[q];by_cases I:ys.length=0
 .have O:ys=[]:=AM I;subst O;obtain⟨i,z,J,K,T,U,V,W⟩:=N6 (P:=P) (w:=w) (I:=G.im) d;obtain⟨j,s,Q,X⟩:=B;rw[<-K]at s;have M:j=[]:=AM (by simpa using Q);subst M;obtain⟨G',D,E,H⟩:=y.nil_sl (el:=el) (t:=e) (wr:=wr) a;refine⟨.slice none 0 0,w,?_,G',D,E,H⟩;have l:=s.len w;have b:=s.cells;simp at b;rcases s.kind with⟨R,hk⟩|hk<;>simp[Builtin.append_,run_underlying o,run_underlying hk,sizeOf,typeInfo,J,l,b]
 .have:=pR (xs:=([]:List e.T)) (ys:=ys) (ty:=ty) (self:=self) (wr:=wr) (base:=none) (cap:=0) (olds:=[]) t o d y a L om B (run_firstCells_none _ _ _ _ _) oe (λi x N=>by simp at N);simpa using this
theorem A20(J:Lay P (.slice e) id)(B:∀x,P.underlying id=some (.slice x)->el=x)(K:MemS P fr free σ w G)(d:free self){ys t:List e.T}{j:Addr}
 (M:RS P w G.im e id2 ys v)(h:app? (24*e.sz) [] ys=some t):
 ∃z w',(Builtin.append_ #[id,id2] ty #[.slice (some j) 0 0,v]).run P w=.ok z w'/\Res P fr free self σ w G ⟨.nns e t,[(self,some (.sl el e t 0 false))]⟩ z w':=by
 obtain⟨Q,D,o,L⟩:=J.slice;have:=B _ D;subst this;obtain⟨W,I⟩:=Y2 h;have I:t=ys:=I;rw[I];by_cases T:ys.length=0
 .have N:ys=[]:=AM T;subst N;obtain⟨i,z,U,V,h3,h4,h5,h6⟩:=N6 (P:=P) (w:=w) (I:=G.im) o;obtain⟨q,s,s2,s3⟩:=M;rw[<-V]at s;have Y:q=[]:=AM (by simpa using s2);subst Y;obtain⟨G',k,y,A⟩:=K.nil_sl (el:=el) (t:=e) (wr:=false) d;refine⟨.slice (some j) 0 0,w,?_,G',k,y,_,rfl,⟨some j,0,rfl,⟨AH _,BJ _⟩,(λh=>ol),λa ha=>⟨λh=>absurd rfl h,λi x H=>by simp at H⟩⟩,j,0,0,rfl⟩;have C:=s.len w;have l:=s.cells;simp at l;rcases s.kind with⟨e',hk⟩|hk<;>simp[Builtin.append_,run_underlying D,run_underlying hk,sizeOf,typeInfo,U,C,l,storeCells,Result.andThen]
 .obtain⟨z,w',k,G',y,A,R⟩:=pR (xs:=([]:List e.T)) (ys:=ys) (ty:=ty) (self:=self) (wr:=false) (base:=some j) (cap:=0) (olds:=[]) J D o K d W om M (by simp[Builtin.firstCells,loadCells,loadCellsFrom]) oe (λi x H=>by simp at H);have k:(Builtin.append_ #[id,id2] ty #[.slice (some j) 0 0,v]).run P w=.ok z w':=k;refine⟨z,w',k,G',y,A,?_⟩;have Z:=A.objs self (.sl el e ([]++ys) 0 false) (by simp[EN]);obtain⟨_,v',k1,r⟩:=Z;obtain⟨c,X,v2,O,k4,k5⟩:=R;have E:v2=z:=(AB.1 ((show c=[z]from X).symm.trans k5)).symm;subst E;rw[k1]at O;cases O;have r:SlOK fr w' G'.im el e ys false _:=r;refine⟨_,rfl,RO r,?_⟩;rcases r with⟨_,N⟩|⟨b,cap,cs,rfl,_⟩<;>grind
theorem A21(W:Lay P (.slice e) id)(E:∀x,P.underlying id=some (.slice x)->el=x)(Z:MemS P fr free σ w G)(d:free self){xs ys zs:List e.T}
 (hk:σ k=some (.sl el e xs 0 wr))(hs:SR P w G (.obj k 0) v)(hv:RS P w G.im e id2 ys vx)(h:app? (24*e.sz) xs ys=some zs):
 ∃z w',(Builtin.append_ #[id,id2] ty #[v,vx]).run P w=.ok z w'/\Res P fr free self σ w G ⟨.obj self 0,[(self,some (.sl el e zs 0 wr)),(k,none)]⟩ z w':=by
 obtain⟨h9,v',k1,k2⟩:=Z.objs _ _ hk;obtain⟨c,hc,v2,k3,k4,k5⟩:=hs
 have h8:v2=v:=by
  have:[v]=[v2]:=(show c=[v]from hc).symm.trans k5;exact(AB.1 this).symm
 subst h8;rw[k1]at k3;cases k3;have y:=Z.drop k;have O:free self:=d;rcases k2 with⟨rfl,rfl⟩|⟨b,cap,cs,rfl,D,B,A,r,K,hW,hA,hO⟩
 .exact pS W E y d hv h
 .obtain⟨x1,hu,I,x0⟩:=W.slice;have:=E _ hu;subst this;obtain⟨hB,rfl⟩:=Y2 h;obtain⟨i,z,h1,Q,h3,h4,h5,h6⟩:=N6 (P:=P) (w:=w) (I:=G.im) I;have h7:=hv;obtain⟨a,N,s2,s3⟩:=hv;rw[<-Q]at N;have T:xs.length*e.sz<=cs.size:=by rw[A];exact AZ _ D.1
  by_cases l:xs.length+ys.length<=cap
  .have t:xs.length*e.sz+a.length<=cs.size:=by
    rw[s2,A,<-CV];exact AZ _ l
   have q:∀o,w.cell? ⟨b,o,none⟩=cs.toList[o]?:=B.cell;obtain⟨fz,R,U⟩:=(show RowAt w b cs el from B);have M:=Y1 P b (xs.length*e.sz) el fz a 0 cs w R U oa N.one
   have L:(Builtin.append_ #[id,id2] ty #[.slice (some ⟨b,0,none⟩) xs.length cap,vx]).run P w=
    .ok (.slice (some ⟨b,0,none⟩) (xs.length+ys.length) cap) (w.setRow b (FA cs.toList (xs.length*e.sz) a).toArray):=by
    have X:=N.len w;have C:=N.cells;rw[Q]at C;simp only[CT]at M;rcases N.kind with⟨e',H⟩|H<;>simp[Builtin.append_,run_underlying hu,run_underlying H,sizeOf,typeInfo,h1,Q,X,l,C,Addr.add_lit,M,FA]
   have s:(FA cs.toList (xs.length*e.sz) a).length=cs.size:=by rw[KZ (by simpa using t)];simp
   obtain⟨G',g1,g2,g3⟩:=y.take_sl (w':=w.setRow b (FA cs.toList (xs.length*e.sz) a).toArray) (el:=el) (wr:=wr) (cap:=cap) (xs:=xs++ys) (b:=b) (cs:=(FA cs.toList (xs.length*e.sz) a).toArray) d
    (λj o J hj=>by
     simp only[EN]at J;cases V:Nat.beq j k with
     |true=>grind
     |false=>
      rw[V]at J;have:j=k:=Z.sep j k o _ b J hk hj (by simp[Bk,k1]);simp_all)
    K (λb' _ h0=>setRow_other w b b' _ h0) oe rfl rfl rfl (by
     rw[AE];have x2:(xs.length+ys.length)*1<=(xs.length+ys.length)*(24*e.sz):=CC _ oa;exact⟨l,oa⟩) (B.set (by rw[BQ,s])) (by rw[BQ,s,A])
    (by
     show RowsOK w G.im e (xs++ys) (FA cs.toList (xs.length*e.sz) a);exact RowsOK.append (RowsOK.take r (AH _)) s3 om s2)
    (λhw=>hW hw)
    (λo J=>by
     cases wr with
     |true=>grind
     |false=>
      have Y:=(hA rfl o).2 J;refine⟨BC Y (by rw[AE,CV];omega),?_⟩;rw[(B.set (new:=(FA cs.toList (xs.length*e.sz) a).toArray) (by rw[BQ,s])).cell,q];show(FA cs.toList (xs.length*e.sz) a)[o]?=_;rw[M4 (by simpa using t),if_neg oa])
    hO
   rw[AE]at g3;exact⟨_,_,L,G',g1,g2,g3⟩
  .have q:∀o,w.cell? ⟨b,o,none⟩=cs.toList[o]?:=B.cell
   exact pR (xs:=xs) (ys:=ys) (ty:=ty) (self:=self) (wr:=wr) (base:=some ⟨b,0,none⟩) (cap:=cap) (olds:=cs.toList.take (xs.length*e.sz)) W hu I y d hB oa h7
    (run_firstCells_some _ _ _ _ _ _ _ (by simp; omega) (λj u hj=>by
     simp_all[World.cell?_drew,Addr.add_lit,C4,B4])) om (RowsOK.take r (AH _))
theorem MemS.new_im(a:MemS P fr free σ w G){J:Go.Obj}(s:∀b,b<w.heap.size->w'.heap[b]?=w.heap[b]?)(H:w'.heap.size=w.heap.size+1)(A:w'.heap[w.heap.size]?=some J)
 (z:w'.os=w.os)(e:w'.tape=w.tape)(r:w'.output=w.output):
 GLe w G w' (G.addIm w.heap.size 0 n)/\MemS P fr free σ w' (G.addIm w.heap.size 0 n):=by
 have d:GLe w G w' (G.addIm w.heap.size 0 n):=by
  refine⟨⟨λb o h=>⟨.inl h,?_⟩,λb h=>⟨h,s b (a.after.inO b h)⟩⟩,λk g v h=>h,λk t h=>h,λk b h=>h⟩;simp only[World.cell?,s b (a.after.inC b o h)]
 have q:∀j o,σ j=some o->ObjOK P fr w' (G.addIm w.heap.size 0 n) j o:=by
  intro j o B;refine(a.objs j o B).keep d λb x=>?_;have l:=IN (a.objs j o B) x;exact⟨s b l,λK h=>h.resolve_right (λh=>Nat.ne_of_lt l h.1),λh=>h⟩
 refine⟨d,q,λi j o I b E y C D=>?_,?_,λj y=>a.fresh j y⟩
 .exact a.sep i j o I b E y (by assumption) (by assumption)
 .refine a.after.trans (gv':=U6) ⟨d.ext,λb x _=>s b x,oa,λb o h=>h.imp id (λh=>.inl (Nat.le_of_eq h.1.symm)),λb h=>.inl h,?_,?_,z,e,r,a.after.pins.ext d.ext⟩ (λb h=>absurd h id)
  .intro b o h;rcases h with h|⟨h,_⟩
   .exact BC (a.after.inC b o h) oa
   .omega
  .intro b h;exact BC (a.after.inO b h) oa
theorem AEX(K:Lay P (.slice (.int .u8)) id)(l:∃d,P.underlying src=some d)(L:MemS P fr free σ w G){s:DX}(M:SR P w G (.val .str s) v):
 ∃z w',(convert src id v).run P w=.ok z w'/\Res P fr free self σ w G ⟨.val (.slice (.int .u8)) (FL s),[]⟩ z w':=by
 obtain⟨rfl,e⟩:=M.str;obtain⟨el,N,y,_⟩:=K.slice;obtain⟨d,J⟩:=l;have k:=Lib.run_convert_string_bytes w src id el ⟨s.toArray⟩ J N y.int;have A:(⟨s.toArray⟩:ByteArray).size=s.length:=N5 s
 obtain⟨E,H⟩:=L.new_im (w':=Lib.bytesWorld w el ⟨s.toArray⟩) (n:=s.length) (λb I=>Lib.bytesWorld_at_old w el _ b I) (Lib.bytesWorld_size w el _) (Lib.bytesWorld_at_new w el _)
  rfl rfl rfl
 refine⟨_,_,k,_,E,H.shrink λ_ h=>h.1,?_⟩;have a:(FL s).length=s.length:=by simp[FL]
 refine⟨_,rfl,some ⟨w.heap.size,0,none⟩,grownCap w s.length 0 el,?_,?_,oe,?_⟩
 .rw[A];show _=[Value.slice _ (FL s).length _];rw[a]
 .show HS (FL s).length _;rw[a];exact⟨grownCap_ge _ _ _ _,e⟩
 .intro O r;cases r;refine⟨λ_=>rfl,λi x q=>?_⟩;have q:(FL s)[i]?=some x:=q;have C:i<s.length:=by rw[<-a];exact lt_of_getElem? q
  have B:x=((s[i]).toNat:Int):=by
   simp only[FL,AV,A1 C,BH]at q;exact(A2 q).symm
  refine⟨[.int .u8 x],⟨rfl,λj D=>?_⟩,rfl,?_⟩
  .have t:j=0:=by simp[Ty.sz]at D;exact D
   subst t;have o:0+i*(Ty.int .u8).sz+0=i:=by simp[Ty.sz]
   rw[o];refine⟨.inr ⟨rfl,oa,C⟩,?_⟩;grind[Lib.bytesWorld_cell,List.getD]
  .rw[B];have:=(s[i]).toNat_lt;constructor<;>simp[IntKind.min,IntKind.max,IntKind.signed,IntKind.bits]<;>omega
theorem AEY(Y:Lay P (.slice (.int .u8)) id)(J:∀x,P.underlying id=some (.slice x)->el=x)(A:∃d,P.underlying src=some d)(k:MemS P fr free σ w G)(b:free self){s:DX}(hs:SR P w G (.val .str s) v):
 ∃z w',(convert src id v).run P w=.ok z w'/\Res P fr free self σ w G ⟨.obj self 0,[(self,some (.sl el (.int .u8) (FL s) 0 wr))]⟩ z w':=by
 obtain⟨rfl,q⟩:=hs.str;obtain⟨Q,O,L,_⟩:=Y.slice;have:=J _ O;subst this;obtain⟨d,X⟩:=A;have y:=Lib.run_convert_string_bytes w src id el ⟨s.toArray⟩ X O L.int;have B:(⟨s.toArray⟩:ByteArray).size=s.length:=N5 s;have l:(FL s).length=s.length:=by simp[FL]
 have K:=grownCap_ge w s.length 0 el
 have H:(Lib.bytesCells w el ⟨s.toArray⟩).size=grownCap w s.length 0 el:=by
  unfold Lib.bytesCells;rw[B];simp;omega
 have a:∀i,i<s.length->(Lib.bytesCells w el ⟨s.toArray⟩).toList[i]?=some (.int .u8 ((s.getD i 0).toNat:Int)):=by
  intro i D;have U:=Lib.bytesWorld_cell w el ⟨s.toArray⟩ i oa;have V:=Lib.bytesWorld_at_new w el ⟨s.toArray⟩;have W:(Lib.bytesWorld w el ⟨s.toArray⟩).cell? ⟨w.heap.size,i,none⟩=(Lib.bytesCells w el ⟨s.toArray⟩).toList[i]?:=by simp[World.cell?,V]
  rw[<-W,U]
 have t:∀e,e<w.heap.size->e≠w.heap.size->(Lib.bytesWorld w el ⟨s.toArray⟩).heap[e]?=w.heap[e]?:=λe h _=>Lib.bytesWorld_at_old w el _ e h
 obtain⟨G',R,T,N⟩:=k.take_sl (w':=Lib.bytesWorld w el ⟨s.toArray⟩) (b:=w.heap.size) (el:=el) (wr:=wr) (cap:=grownCap w s.length 0 el) (t:=.int .u8) (xs:=FL s) (cs:=Lib.bytesCells w el ⟨s.toArray⟩) b
  (λj o Z h=>absurd (IN (k.objs j o Z) h) (AC _)) k.owned_new t oc rfl rfl rfl
  (by show HS (FL s).length _;rw[l];exact⟨K,q⟩) ⟨_,Lib.bytesWorld_at_new w el _,.inr (AH _)⟩ (by rw[H];simp[Ty.sz])
  (by
   intro i x C;have C:(FL s)[i]?=some x:=C;have D:i<s.length:=by rw[<-l];exact lt_of_getElem? C
   have M:x=((s.getD i 0).toNat:Int):=by
    simp only[FL,AV,A1 D,BH]at C;rw[AD,A1 D];exact(A2 C).symm
   have E:=a i D;have r:i<(Lib.bytesCells w el ⟨s.toArray⟩).toList.length:=(A9.1 E).1
   have I:((Lib.bytesCells w el ⟨s.toArray⟩).toList.drop (i*(Ty.int .u8).sz)).take (Ty.int .u8).sz=[.int .u8 ((s.getD i 0).toNat:Int)]:=by
    show((Lib.bytesCells w el ⟨s.toArray⟩).toList.drop (i*1)).take 1=_;rw[CW,C5 r];rw[A1 r]at E;rw[A2 E];rfl
   rw[I,M];exact⟨rfl,pK _⟩)
  (λ_ o h=>absurd (k.after.inC _ _ h) (AC _)) (λo h=>absurd (k.after.inC _ _ h) (AC _)) (λh=>absurd (k.after.inO _ h) (AC _))
 refine⟨_,_,y,G',R,T,?_⟩;rw[B];have N:SR P _ G' (.obj self 0) (.slice (some ⟨w.heap.size,0,none⟩) (FL s).length (grownCap w s.length 0 el)):=N;grind
theorem AEZ{k:IntKind}:∀{xs:List Int} {a:List Value},RowsOK w I (.int k) xs a->a.length=xs.length->a=xs.map (Value.int k):=by
 intro xs a h j;apply BI;intro i;by_cases b:i<xs.length
 .have:=(h i xs[i] (A1 b)).1;have e:i*(Ty.int k).sz=i:=by simp[Ty.sz]
  rw[e]at this;have d:=congrArg (·[0]?) this;grind
 grind
theorem AE_(l:List Int):∀(r:ByteArray),l.foldl (λr n=>r.push (UInt8.ofNat n.toNat)) r=⟨r.data++(HA l).toArray⟩:=by
 induction l<;>simp_all[HA,List.foldl_cons,ByteArray.push]
theorem AEa(A:Lay P .str id)(q:Lay P (.slice (.int .u8)) src){xs:List Int}{s:DX}(J:VRel w I (.slice (.int .u8)) xs v)(o:cat? [] (HA xs)=some s):
 ∃z,(convert src id v).run P w=.ok z w/\SR P w G (.val .str s) z:=by
 obtain⟨el,B,i,_⟩:=q.slice;unfold cat? at o;cases y:decide ((([]:DX).length+(HA xs).length)<=281474976710656)with
 |false=>grind
 |true=>
  rw[y]at o;have o:HA xs=s:=A2 o;subst o;have k:=A5 y;obtain⟨a,cap,b,h,l,r,C,L,D⟩:=A1v J;have h:v=.slice a (List.length (α:=Int) xs) cap:=h;have r:b.length=List.length (α:=Int) xs*1:=r;subst h;have t:b=xs.map (Value.int .u8):=AEZ C (by rw[r,CW]);cases a with
  |none=>
   have K:xs=[]:=l rfl;subst K;refine⟨.string .empty,?_,SR.mk_str (s:=[]) oe⟩;rw[run_convert_bytes_string w src id el _ _ _ B i.int A.str];rfl
  |some d=>
   have E:=D d rfl;refine⟨_,?_,SR.mk_str (s:=HA xs) (by simpa using k)⟩;rw[run_convert_bytes_string w src id el _ _ _ B i.int A.str,run_bytesToString w d xs.length cap xs ?_,AE_]
   .simp
   .have:(loadCells d b.length).run P w=.ok b.toArray w:=run_loadCells_list w d b λj u H=>by
     have x:=(E j u H).1
     have e:d.add j=⟨d.block,d.off+j,none⟩:=by
      cases d;cases x;exact LG
     grind
    grind
end
open Go.MapKept
section
variable{P:Program}{fr:Fr}{free free':Nat->Prop}{self:Nat}{σ σ':SSo}{w w':World}{G G':Gh}{I:Im}
theorem AEb(a b:DX):((⟨a.toArray⟩:ByteArray)==⟨b.toArray⟩)=E5 a b:=by
 rw[Bool.eq_iff_iff,bytes_beq];simp[E5]
structure KeyAt(P:Program)(w:World)(I:Im)(t:Ty)(eq:t.T->t.T->Bool)(d:TypeDesc):Prop where
 key:∀x v,VRel w I t x v->IsKey d v
 same:∀x v y u,VRel w I t x v->VRel w I t y u->Instr.sameNow d v u=some (eq x y)/\(eq x y=true->Instr.sameBits 10000 u v=true/\u=v)/\(eq x y=false->u≠v)
theorem AEc(x y:Bool):Instr.sameNow .bool (.bool x) (.bool y)=some (KK x y)/\(KK x y=true->Instr.sameBits 10000 (.bool y) (.bool x)=true/\Value.bool y=.bool x)/\(KK x y=false->Value.bool y≠.bool x):=by
 refine⟨rfl,λh=>?_,λh e=>by grind[KK]⟩;grind[KK,Instr.sameBits]
theorem AEd(k:IntKind)(x y:Int):Instr.sameNow (.int k) (.int k x) (.int k y)=some (E1 x y)/\(E1 x y=true->Instr.sameBits 10000 (.int k y) (.int k x)=true/\Value.int k y=.int k x)/\(E1 x y=false->Value.int k y≠.int k x):=by
 grind[Instr.sameNow,E1,Instr.sameBits]
theorem AEe(x y:DX):Instr.sameNow .string (.string ⟨x.toArray⟩) (.string ⟨y.toArray⟩)=some (E5 x y)/\(E5 x y=true->Instr.sameBits 10000 (.string ⟨y.toArray⟩) (.string ⟨x.toArray⟩)=true/\Value.string ⟨y.toArray⟩=.string ⟨x.toArray⟩)/\(E5 x y=false->Value.string ⟨y.toArray⟩≠.string ⟨x.toArray⟩):=by
 refine ⟨by simp only [Instr.sameNow]; rw [AEb],λh=>?_,λh e=>by
  simp_all[Value.string.inj,congrArg,ByteArray.data,E5]⟩
 have:x=y:=by simpa[E5]using h
 subst this;exact⟨by simp only[Instr.sameBits];rw[bytes_beq],rfl⟩
theorem pT(e:Lay P t id){eq:t.T->t.T->Bool}(h:N1 t=some eq):∃d,P.underlying id=some d/\KeyAt P w I t eq d:=by
 cases t<;>simp only[N1]at h<;>first|(cases h;done)|skip
 .have h:=A2 h;subst h;refine⟨_,e.bool,⟨λx v a=>?_,λx v y u a b=>?_⟩⟩
  .rw[SR.bool (P:=P) (G:=⟨I,λ_ _=>none,λ_=>none,λ_=>none⟩) a];trivial
  .rw[SR.bool (P:=P) (G:=⟨I,λ_ _=>none,λ_=>none,λ_=>none⟩) a,SR.bool (P:=P) (G:=⟨I,λ_ _=>none,λ_=>none,λ_=>none⟩) b];exact AEc x y
 .rename_i k;have h:=A2 h;subst h;refine⟨_,e.int,⟨λx v a=>?_,λx v y u a b=>?_⟩⟩
  .rw[(SR.int (P:=P) (G:=⟨I,λ_ _=>none,λ_=>none,λ_=>none⟩) a).1];rfl
  .rw[(SR.int (P:=P) (G:=⟨I,λ_ _=>none,λ_=>none,λ_=>none⟩) a).1,(SR.int (P:=P) (G:=⟨I,λ_ _=>none,λ_=>none,λ_=>none⟩) b).1];exact AEd k x y
 .have h:=A2 h;subst h;refine⟨_,e.str,⟨λx v a=>?_,λx v y u a b=>?_⟩⟩
  .rw[(SR.str (P:=P) (G:=⟨I,λ_ _=>none,λ_=>none,λ_=>none⟩) a).1];trivial
  .rw[(SR.str (P:=P) (G:=⟨I,λ_ _=>none,λ_=>none,λ_=>none⟩) a).1,(SR.str (P:=P) (G:=⟨I,λ_ _=>none,λ_=>none,λ_=>none⟩) b).1];exact AEe x y
def EntsOK(w:World)(I:Im)(k v:Ty)(es:List (k.T×v.T))(ents:List MapEntry):Prop:=
 ents.length=es.length/\∀(i:Nat) (x:k.T×v.T) (e:MapEntry),es[i]?=some x->ents[i]?=some e->VRel w I k x.1 e.key/\VRel w I v x.2 e.val
theorem AEf{k v:Ty}{eq:k.T->k.T->Bool}{d:TypeDesc}(hk:KeyAt P w I k eq d){x:k.T}(hx:VRel w I k x vx):∀(b:List (k.T×v.T)) (a:List MapEntry) (i:Nat),EntsOK w I k v b a->
 (Instr.findNow d vx a i=some none/\FM eq x b=none/\(∀z,FK eq x z b=b++[(x,z)])/\∀e∈a,e.key≠vx)\/
 (∃j e y,Instr.findNow d vx a i=some (some (i+j,e.val))/\a[j]?=some e/\FM eq x b=some y/\VRel w I v y e.val/\Instr.sameBits 10000 e.key vx=true/\j<b.length/\(∀z,FK eq x z b=b.set j (x,z))/\e.key=vx):=by
 intro b;induction b with
 |nil=>
  intro a i h;have:a=[]:=AM h.1;subst this;exact .inl ⟨rfl,rfl,λz=>rfl,λ_ h=>ol⟩
 |cons q b A=>
  intro a i h;cases a with
  |nil=>cases h.1
  |cons e a=>
   obtain⟨o,r⟩:=h.2 0 q e rfl rfl;obtain⟨s,t,B⟩:=hk.same _ _ _ _ hx o;cases l:eq x q.1 with
   |true=>
    rw[l]at s;refine .inr ⟨0,e,q.2,by simp[Instr.findNow,s],rfl,by simp[FM,l],r,(t l).1,oe,λz=>by simp[FK,l],(t l).2⟩
   |false=>
    rw[l]at s;rcases A a (i+1) ⟨by simpa using h.1,λj y e o r=>h.2 (j+1) y e (by simpa using o) (by simpa using r)⟩with⟨a1,a2,a3,a8⟩|⟨j,e',y,a1,a2,a3,a4,a5,a6,a7,a8⟩
    .simp_all[Instr.findNow,FM,FK,B2]
    .exact .inr ⟨j+1,e',y,by grind[Instr.findNow],by simpa using a2,by simp[FM,l,a3],a4,a5,om,λz=>by simp[FK,l,a7],a8⟩
structure KeyRun(P:Program)(w:World)(I:Im)(t:Ty)(eq:t.T->t.T->Bool)(ka:TypeId):Prop where
 check:∀x v,VRel w I t x v->∀e,(Instr.checkKey e 10000 ka v).run P w=.ok () w
 find:∀{v:Ty} {x:t.T} {vx:Value},VRel w I t x vx->∀(es:List (t.T×v.T)) (ents:List MapEntry),EntsOK w I t v es ents->
  ((Instr.findKey ka vx ents).run P w=.ok none w/\FM eq x es=none/\(∀z,FK eq x z es=es++[(x,z)])/\∀e∈ents,e.key≠vx)\/
  (∃j e y,(Instr.findKey ka vx ents).run P w=.ok (some (j,e.val)) w/\ents[j]?=some e/\FM eq x es=some y/\VRel w I v y e.val/\Instr.sameBits 10000 e.key vx=true/\j<es.length/\(∀z,FK eq x z es=es.set j (x,z))/\e.key=vx)
theorem pU{k:Nat}(C:Lay P t k){eq:t.T->t.T->Bool}(h:N1 t=some eq):KeyRun P w I t eq k:=by
 obtain⟨d,A,hk⟩:=pT (P:=P) (w:=w) (I:=I) C h;refine⟨λx v D e=>run_checkKey A (hk.key _ _ D) e 9999,λ{v x vx} E z a B=>?_⟩;rcases AEf (P:=P) hk E z a 0 B with⟨l,b,i⟩|⟨j,e,y,l,b,i,o,q,r,s⟩
 .grind[run_findKey]
 .refine .inr ⟨j,e,y,?_,b,i,o,q,r,s⟩;simp_all[run_findKey,C4]
theorem A22{b:Nat}(a:Lay P t b){eq:t.T->t.T->Bool}(h:nX ke t=some eq)(hk:ke=true->P0 P t b=true):KeyRun P w I t eq b:=by
 cases t with
 |bool=>exact pU a (show N1 .bool=some eq from h)
 |int k=>exact pU a (show N1 (.int k)=some eq from h)
 |str=>exact pU a (show N1 .str=some eq from h)
 |_=>cases h
theorem pV{k v:Ty}(U:Lay P (.map k v) id)(J:ke=true->∀x y,P.underlying id=some (.map x y)->P0 P k x=true){ok:Bool}{E:List (k.T×v.T)}{u:Upd}{d:Array MapEntry}
 (C:XF ke k v ok s E=some r)(X:Gives r u)(W:SR P w G s vk)(T:EntsOK w G.im k v E d.toList)
 (V:(vm=.map none/\d= #[])\/∃b i,vm=.map (some b)/\w.heap[b]?=some (.map d i)):
 u.wr=[]/\∃z,(Instr.lookup id vm vk ok).run P w=.ok z w/\SR P w G u.sv z:=by
 obtain⟨ka,va,q,K,L⟩:=U.map;unfold XF at C;split at C
 .rename_i eq x H Y;cases C;rw[X.v_inv];have A:VRel w G.im k x vk:=K8 Y W;have l:=A22 (P:=P) (w:=w) (I:=G.im) K H (λh=>J h _ _ q);have t:=l.check _ _ A d.isEmpty;obtain⟨zv,Z,B⟩:=A1t (P:=P) (w:=w) (G:=G) L
  have o:∀a:Option (Nat×Value),(Instr.findKey ka vk d.toList).run P w=.ok a w->
   (Instr.lookup id vm vk ok).run P w=.ok (match a with|some p=>if ok then .tuple #[p.2,.bool true]else p.2|none=>if ok then .tuple #[zv,.bool false]else zv) w:=by
   intro a O;rcases V with⟨rfl,rfl⟩|⟨b,i,rfl,Q⟩
   .cases a<;>simp_all[Instr.lookup,run_underlying]
   .cases a with
    |none=>simp[Instr.lookup,run_underlying q,run_getObj_map Q,t,O,Z]
    |some p=>simp[Instr.lookup,run_underlying q,run_getObj_map Q,t,O]
  refine⟨rfl,?_⟩;rcases l.find A E d.toList T with⟨D,M,_⟩|⟨j,e,y,D,M,R,N,_⟩
  .have I:=o _ D;rw[I,M];cases ok with
   |true=>
    refine⟨_,rfl,_,rfl,_,rfl,_,_,rfl,B,_,_,rfl,?_,rfl⟩;exact⟨_,rfl,rfl⟩
   |false=>exact⟨_,rfl,B⟩
  .have I:=o _ D;rw[I,R];cases ok with
   |true=>
    refine⟨_,rfl,_,rfl,_,rfl,_,_,rfl,N,_,_,rfl,?_,rfl⟩;exact⟨_,rfl,rfl⟩
   |false=>exact⟨_,rfl,N⟩
 .cases C
theorem AEg{k v:Ty}{l:List (k.T×v.T)}(h:VRel w I (.map k v) l cv):
 ∃a:Array MapEntry,EntsOK w I k v l a.toList/\((cv=.map none/\a= #[])\/∃b d,cv=.map (some b)/\w.heap[b]?=some (.map a d)):=by
 obtain⟨c,z,r,rfl,j,y⟩:=h
 have o:cv=.map r:=by
  have:[Value.map r]=[cv]:=z;exact(AB.1 this).symm
 subst o;cases r with
 |none=>
  have:l=[]:=j rfl;subst this;exact⟨#[],⟨rfl,λi x e h=>by simp at h⟩,.inl ⟨rfl,rfl⟩⟩
 |some b=>
  obtain⟨_,a,d,q,s,t⟩:=y b rfl;exact⟨a,⟨by simpa using s.1,λi x e A B=>t i x e A oc⟩,.inr ⟨b,d,rfl,q⟩⟩
theorem MgOK.ents{k:Ty}{j:List (k.T×List t.T)}{tk:Option k.T}(h:MgOK fr w I id k t j tk us cv):
 ∃b a d,cv=.map (some b)/\w.heap[b]?=some (.map a d)/\EntsOK w I k (.slice t) j a.toList:=by
 obtain⟨b,a,d,rfl,q,r,z,s,_⟩:=h;refine⟨b,a,d,rfl,q,(BF (xs:=a)).trans r.1,λi x e o A=>?_⟩;have v:i<j.length:=(A9.1 o).1;obtain⟨k1,y⟩:=s i x e _ o oc (A1 oa);refine⟨k1,?_⟩;rcases y with⟨_,_,l⟩|⟨l,_⟩
 .exact l
 .exact⟨_,rfl,RO l⟩
theorem AEh(M:Lay P t id)(B:ke=true->∀k v,t=.map k v->∀x y,P.underlying id=some (.map x y)->P0 P k x=true)(Z:∀k o,σ k=some o->ObjOK P fr w G k o){ok:Bool}{m:SV}{u:Upd}
 (a:dB σ ke t ok m s=some r)(Q:Gives r u)(N:SR P w G m vm)(O:SR P w G s vk):
 u.wr=[]/\∃z,(Instr.lookup id vm vk ok).run P w=.ok z w/\SR P w G u.sv z:=by
 unfold dB at a;split at a
 .rename_i k v;split at a
  .rename_i q Y;split at a
   .rename_i h0 K;obtain⟨A,D,E⟩:=AEg (VRel.cast K N);exact pV M (λh=>B h _ _ rfl) a Q O D E
   .cases a
  .rename_i j g;split at a
   .rename_i R v' Y wr hk;cases l:(Nat.beq g 0&&(R.same k&&v'.same v))with
    |false=>grind
    |true=>
     rw[l]at a;simp only[A8]at a;simp only[A6]at l;have L:=A3 l.1;have D:=Ty.same_eq l.2.1;have E:=Ty.same_eq l.2.2;subst L D E;obtain⟨cv,U,b,A,d,rfl,V,W,X,_⟩:=Z _ _ hk;obtain⟨c,J,I,H,_,T⟩:=N
     have C:I=vm:=by
      have:[vm]=[I]:=(show c=[vm]from J).symm.trans T;exact(AB.1 this).symm
     subst C;rw[U]at H;cases H;exact pV M (λh=>B h _ _ rfl) a Q O ⟨by simpa using W.1,λi x e hx he=>X i x e hx oc⟩ (.inr ⟨b,d,rfl,V⟩)
   .rename_i h1 R t' Y tk gk hk;cases l:(Nat.beq g 0&&(R.same k&&(Ty.slice t').same v))with
    |false=>grind
    |true=>
     rw[l]at a;simp only[A8]at a;simp only[A6]at l;have L:=A3 l.1;have D:=Ty.same_eq l.2.1;have E:=Ty.same_eq l.2.2;subst L D E;obtain⟨cv,us,U,_,V⟩:=Z _ _ hk;obtain⟨b,A,d,rfl,W,X⟩:=V.ents;obtain⟨c,J,I,H,_,T⟩:=N
     have C:I=vm:=by
      have:[vm]=[I]:=(show c=[vm]from J).symm.trans T;exact(AB.1 this).symm
     subst C;rw[U]at H;cases H;exact pV M (λh=>B h _ _ rfl) a Q O X (.inr ⟨b,d,rfl,W⟩)
   .cases a
  .cases a
 .cases a
end
open Go.MapKept
section
variable{P:Program}{fr:Fr}{free free':Nat->Prop}{self:Nat}{σ σ':SSo}{w w':World}{G G':Gh}{I:Im}
theorem EntsOK.set{k v:Ty}{d:List (k.T×v.T)}{a:List MapEntry}(h:EntsOK w I k v d a){j:Nat}{x:k.T}{y:v.T}{e:MapEntry}(hx:VRel w I k x e.key)(s:VRel w I v y e.val):
 EntsOK w I k v (d.set j (x,y)) (a.set j e):=by
 refine⟨by simpa using h.1,λi q r o l=>?_⟩;by_cases b:j=i
 .grind
 .rw[CM b]at o l;exact h.2 i q r o l
theorem EntsOK.push{k v:Ty}{j:List (k.T×v.T)}{a:List MapEntry}(h:EntsOK w I k v j a){x:k.T}{y:v.T}{e:MapEntry}(hx:VRel w I k x e.key)(s:VRel w I v y e.val):
 EntsOK w I k v (j++[(x,y)]) (a++[e]):=by
 refine⟨by simp[h.1],λi q r o l=>?_⟩;by_cases b:i<j.length
 .rw[C1 b]at o;rw[C1 (by rw[h.1];exact b)]at l;exact h.2 i q r o l
 .have d:j.length<=i:=DE b;rw[BG d]at o;rw[BG (by rw[h.1];exact d),h.1]at l;grind
theorem EntsOK.ext{k v:Ty}{d:List (k.T×v.T)}{a:List MapEntry}(h:EntsOK w I k v d a)(e:Ext w I w' I'):EntsOK w' I' k v d a:=
 ⟨h.1,λi q b l j=>⟨(h.2 i q b l j).1.ext e,(h.2 i q b l j).2.ext e⟩⟩
theorem A23(hl:Lay P t id)(h6:ke=true->∀k v,t=.map k v->∀x y,P.underlying id=some (.map x y)->P0 P k x=true)(Z:MemS P fr free σ w G)(U:∀k o,σ' k=some o->σ k=some o){m sx:SV}{u:Upd}
 (B:dD σ' ke t m s sx=some r)(hu:Gives r u)(x0:SR P w G m vm)(hs:SR P w G s vk)(x2:SR P w G sx vx):
 ∃w',(Instr.mapUpdate id vm vk vx).run P w=.ok () w'/\Res P fr free self σ w G u undef w':=by
 have ho:∀k o,σ' k=some o->ObjOK P fr w G k o:=λk o h=>Z.objs k o (U k o h);unfold dD at B;split at B
 .rename_i k v;split at B
  .rename_i j g;split at B
   .rename_i V M X hk;cases O:(Nat.beq g 0&&(V.same k&&M.same v))with
    |false=>grind
    |true=>
     rw[O]at B;simp only[A8]at B;simp only[A6]at O;have hg:=A3 O.1;have e1:=Ty.same_eq O.2.1;have e2:=Ty.same_eq O.2.2;subst hg e1 e2;split at B
     .rename_i eq a b h5 ha h4;cases B;rw[hu.pure_inv];obtain⟨ka,va,K,h7,y2⟩:=hl.map;obtain⟨cv,q1,L,q,z,rfl,W,q3,q4,q5,q6,q7⟩:=ho _ _ hk;obtain⟨c,hc,v2,k3,_,k5⟩:=x0
      have y0:v2=vm:=by
       have:[vm]=[v2]:=(show c=[vm]from hc).symm.trans k5;exact(AB.1 this).symm
      subst y0;rw[q1]at k3;cases k3;have C:VRel w G.im V a vk:=K8 ha hs;have E:VRel w G.im M b vx:=K9 ho h4 x2;have D:=A22 (P:=P) (w:=w) (I:=G.im) h7 h5 (λh=>h6 h _ _ rfl _ _ K);have Q:=D.check _ _ C false;have A:EntsOK w G.im V M X q.toList:=⟨by simpa using q3.1,λi x e hx he=>q4 i x e hx oc⟩;have T:=λo'=>heap_set (o':=o') W;have y1:VRel w G.im M b vx:=E
      have N:∀(l:Array MapEntry) (d:Nat),EntsOK w G.im V M (FK eq a b X) l.toList->Stamped l d->
       Res P fr free self σ w G ⟨.undef,[(j,some (.mp V M (FK eq a b X) true))]⟩ undef {w with heap:=w.heap.setIfInBounds L (.map l d)}:=by
       intro l d he x1;obtain⟨s1,s2⟩:=T (.map l d);have I:GLe w G {w with heap:=w.heap.setIfInBounds L (.map l d)} G:=GLe.of_heap (b:=L) (λb' J=>s2 b' J) q6 (q5.1 rfl);refine⟨G,I,Z.change (b:=L) I ?_ (λb' _ J=>s2 b' J) oe oc q7 (λ_ _ h=>.inl h) (λ_ h=>.inl h) rfl rfl rfl ?_ ?_,⟨_,rfl,trivial⟩⟩
       .intro i o Y h9 h3;exact Y (Z.sep i j o _ L h9 (U _ _ hk) h3 (by simp[Bk,q1]))
       .intro o h8;cases h8;have hx:=he.ext I.ext;exact⟨⟨_,q1,L,l,d,rfl,s1,⟨by simpa using he.1,x1⟩,λi x e h1 h2=>hx.2 i x e h1 oc,q5,q6,q7⟩,by grind[Bk]⟩
       .intro i Y;have H:=Z.fresh i Y.1;refine⟨λe=>?_,Y.1,H.2.1,H.2.2.1,H.2.2.2⟩;grind
      rcases D.find C X q.toList A with⟨a1,a2,a3,a8⟩|⟨i,e,y,a1,a2,a3,a4,a5,a6,a7,a8⟩
      .have H:=a1;refine⟨_,?_,N (q.push {key:=vk,val:=vx,born:=z}) (z+1) ?_ (stamped_push q3.2 a8)⟩
       .simp[Instr.mapUpdate,run_underlying K,run_getObj_map W,Q,H,run_setObj_map _ W]
       .rw[a3,Array.toList_push];exact A.push C E
      .have H:=a1;have h0:q[i]?=some e:=by rw[<-BT];exact a2
       refine⟨_,?_,N (q.modify i λe=>{e with key:=vk,val:=vx}) z ?_ (stamped_modify q3.2 i _ (λ_ _=>rfl) (λe' _ h=>oc))⟩
       .simp[Instr.mapUpdate,run_underlying K,run_getObj_map W,Q,H,h0,Instr.keyThatStays,a5,run_setObj_map _ W]
       .rw[a7]
        have:(q.modify i λe=>{e with key:=vk,val:=vx}).toList=q.toList.set i {e with key:=vk,val:=vx}:=by
         apply BI;intro n;rw[BT,Array.getElem?_modify];by_cases R:i=n
         .grind
         .rw[if_neg R,CM R,BT]
        rw[this];exact A.set C E
     .cases B
   .cases B
  .cases B
 .cases B
theorem AEi{x:t.T}(h:VRel w I t x v):∀{u:Ty} {y:u.T},O1 id t x u=some y->Rel w I u y [.iface id v]:=by
 intro u;induction u with
 |ialt j a r o i=>
  intro y b;simp only[O1]at b;cases e:Nat.beq id j with
  |true=>
   rw[e]at b;simp only[A8]at b;have:=A3 e;subst this;cases d:Ty.cast? t a x with
   |none=>grind
   |some z=>
    rw[d]at b;have b:=A2 b;subst b;obtain⟨c,k,l⟩:=VRel.cast d h;exact⟨v,c,rfl,k,l⟩
  |false=>
   rw[e]at b;simp only[AA]at b;cases d:O1 id t x r with
   |none=>grind
   |some z=>
    rw[d]at b;have b:=A2 b;subst b;exact⟨rfl,i d⟩
 |_=>intro y b;simp[O1]at b
theorem AEj{x:t.T}:∀{u:Ty} {y:u.T},O1 id t x u=some y->∀v:Value,pC (.val u y) v [v]:=by
 intro u y h v;cases u<;>first|exact rfl|(simp[O1]at h;done)
theorem AEk(j:Lay P t id)(A:t.isIface=false){x:t.T}{y:u.T}(h:VRel w G.im t x v)(q:O1 id t x u=some y):
 ∃z,(Instr.makeInterface id v).run P w=.ok z w/\SR P w G (.val u y) z:=by
 have l:(Instr.makeInterface id v).run P w=.ok (.iface id v) w:=by
  have key:∃d,P.underlying id=some d/\∀ms,d≠.interface ms:=by
   cases t with
   |bool=>exact⟨_,j.bool,λ_ h=>ol⟩
   |int k=>exact⟨_,j.int,λ_ h=>ol⟩
   |str=>exact⟨_,j.str,λ_ h=>ol⟩
   |slice e=>obtain⟨_,h,_⟩:=j.slice;grind
   |agg p=>obtain⟨_,h,_⟩:=j.agg;grind
   |arr n e=>obtain⟨_,h,_⟩:=j.arr;grind
   |ptr e=>obtain⟨_,h,_⟩:=j.ptr;grind
   |map a b=>obtain⟨_,_,h,_⟩:=j.map;grind
   |self=>obtain⟨_,h⟩:=j.self;grind
   |opq=>exact j.opq
   |fnc a b=>exact j.fnc
   |unit=>simp[Lay,layB]at j
   |prod a b=>simp[Lay,layB]at j
   |inil=>simp[Ty.isIface]at A
   |ialt i a r=>
    obtain⟨_,d,o,B⟩:=IV j;grind
  obtain⟨d,o,s⟩:=key;simp only[Instr.makeInterface,Sem.run_bind,run_underlying o,Result.andThen_ok];cases d<;>first|rfl|exact absurd rfl (s _)
 exact⟨_,l,_,AEj q _,AEi h q⟩
theorem AEl{k:IntKind}{a b:Int}(t:Array TypeId)(ty:Nat)(d:GK k a)(e:GK k b):
 ∃z,(Builtin.min_ t ty #[.int k a,.int k b]).run P w=.ok z w/\SR P w G (.val (.int k) (OW a b)) z:=by
 refine⟨.int k (if b<a then b else a),by rfl,?_⟩;unfold OW;by_cases h:b<a<;>simp_all[if_pos,A4,A8,SR.mk_int,if_neg,A7,AA]
theorem AEm{k:IntKind}{a b:Int}(t:Array TypeId)(ty:Nat)(d:GK k a)(e:GK k b):
 ∃z,(Builtin.max_ t ty #[.int k a,.int k b]).run P w=.ok z w/\SR P w G (.val (.int k) (XJ a b)) z:=by
 refine⟨.int k (if b > a then b else a),by rfl,?_⟩;unfold XJ;by_cases h:a<b<;>simp_all[gt_iff_lt,if_pos,A4,A8,SR.mk_int,if_neg,A7,AA]
theorem pW:∀{ss:List SV} {vs:List Value},ss.length=vs.length->(∀(j:Nat) (s:SV) (v:Value),ss[j]?=some s->vs[j]?=some v->SR P w G s v)->CR P w G (SV.ofList ss) vs:=by
 intro ss;induction ss with
 |nil=>intro vs a _;exact AM a.symm
 |cons s ss i=>
  intro vs a h;cases vs with
  |nil=>cases a
  |cons v vs=>exact⟨v,vs,rfl,h 0 s v rfl rfl,i (by simpa using a) (λj s v b d=>h (j+1) s v (by simpa using b) (by simpa using d))⟩
theorem A24(i:Lay P t id)(b:∃d,P.underlying src=some d){u:Upd}(a:oS t s=some r)(j:Gives r u)(h:SR P w G s v):
 u.wr=[]/\∃z,(convert src id v).run P w=.ok z w/\SR P w G u.sv z:=by
 obtain⟨d,e⟩:=b;unfold oS at a;split at a
 .rename_i k n;split at a
  .rename_i o;cases a;rw[j.v_inv];obtain⟨rfl,_⟩:=h.int;exact⟨rfl,_,by simp[convert,run_underlying e,run_underlying i.int,Conv.intToInt],SR.mk_int (N4 _ _)⟩
  .cases a
 .rename_i x;split at a
  .cases a;rw[j.v_inv];obtain⟨rfl,l⟩:=h.str;exact⟨rfl,_,by simp[convert,run_underlying e,run_underlying i.str],SR.mk_str l⟩
  .cases a
 .cases a
theorem AEn(n:Int):(PU n).length<=4:=by
 grind[PU,Utf8.encode]
theorem AEo(e:Lay P .str id)(a:∃d,P.underlying src=some d){k:IntKind}{n:Int}(h:SR P w G (.val (.int k) n) v):
 ∃z,(convert src id v).run P w=.ok z w/\SR P w G (.val .str (PU n)) z:=by
 obtain⟨d,b⟩:=a;obtain⟨rfl,_⟩:=h.int;exact⟨.string ⟨(PU n).toArray⟩,by simp[convert,run_underlying b,run_underlying e.str,Conv.intToString,PU],SR.mk_str (AT (AEn n) oi)⟩
end
def O4:Value->Option Nat
 | .map r=>r
 |_=>none
def SlG(w:World)(I:Im)(el:Nat)(t:Ty)(xs:List t.T)(v:Value):Prop:=
 (v=.slice none 0 0/\xs=[])\/
 ∃b cap cs,v=.slice (some ⟨b,0,none⟩) xs.length cap/\HS xs.length cap/\RowAt w b cs el/\cs.size=cap*t.sz/\
  (∀i x,xs[i]?=some x->Rel w I t x ((cs.toList.drop (i*t.sz)).take t.sz))/\(∀o,o<xs.length*t.sz<->I.cell b o)/\¬I.obj b
theorem SlG.of{fr:Fr}{w:World}{xs:List t.T}(h:SlOK fr w I el t xs false v):SlG w I el t xs v:=
 h.imp id λ⟨b,cap,cs,a,d,e,i,j,_,_,k,l⟩=>⟨b,cap,cs,a,d,e,i,j,k rfl,l⟩
theorem SlG.own{fr:Fr}{w:World}{xs:List t.T}(h:SlG w I el t xs v)(l:∀c,HO v=.map (some c)->fr.owned c):SlOK fr w I el t xs false v:=by
 rcases h with h|⟨b,cap,cs,rfl,a,d,e,i,j,k⟩
 .exact .inl h
 .exact .inr ⟨b,cap,cs,rfl,a,d,e,i,l b rfl,λh=>(ol),λ_=>j,k⟩
theorem A25{c:Nat}(h:O4 (HO v)=some c):HO v=.map (some c):=by
 unfold HO at h ⊢;grind[O4]
theorem UE{c:Nat}(b:∀u∈us,∃v,u=HO v):c∈us.filterMap O4<->Value.map (some c)∈us:=by
 rw[List.mem_filterMap];constructor
 .rintro⟨u,a,d⟩;obtain⟨v,rfl⟩:=b u a;grind[A25]
 .intro h;exact⟨_,h,rfl⟩
def GE(P:Program)(w:World)(I:Im):(s:Sh)->s.T->List Value->List Nat->Prop
 | .val t,x,cs,bs=>Rel w I t x cs/\bs=[]
 | .own el t wr,xs,cs,bs=>(cs=[.slice none 0 0]/\(show List t.T from xs)=[]/\bs=[])\/
  ∃b cap cells,cs=[.slice (some ⟨b,0,none⟩) (show List t.T from xs).length cap]/\bs=[b]/\HS (show List t.T from xs).length cap/\RowAt w b cells el/\cells.size=cap*t.sz/\
   RowsOK w I t (show List t.T from xs) cells.toList/\(wr=true->∀o,¬I.cell b o)/\(wr=false->∀o,o<(show List t.T from xs).length*t.sz<->I.cell b o)/\¬I.obj b
 | .io el t,xs,cs,bs=>(cs=[.slice none 0 0]/\(show List t.T from xs)=[]/\bs=[])\/
  ∃b cap cells,cs=[.slice (some ⟨b,0,none⟩) (show List t.T from xs).length cap]/\bs=[b]/\HS (show List t.T from xs).length cap/\RowAt w b cells el/\cells.size=cap*t.sz/\
   RowsOK w I t (show List t.T from xs) cells.toList/\(true=true->∀o,¬I.cell b o)/\(true=false->∀o,o<(show List t.T from xs).length*t.sz<->I.cell b o)/\¬I.obj b
 | .omap k v,es,cs,bs=>∃b ents clock,cs=[.map (some b)]/\bs=[b]/\w.heap[b]?=some (.map ents clock)/\(ents.size=(show List (k.T×v.T)from es).length/\Go.MapKept.Stamped ents clock)/\
  (∀(i:Nat) (x:k.T×v.T) (e:MapEntry),(show List (k.T×v.T)from es)[i]?=some x->ents[i]?=some e->VRel w I k x.1 e.key/\VRel w I v x.2 e.val)/\¬I.obj b/\∀o,¬I.cell b o
 | .box c,x,cs,bs=>∃b cells el bs',cs=[.pointer (some ⟨b,0,none⟩)]/\bs=b::bs'/\w.heap[b]?=some (.cells cells el (0,0))/\cells.size=c.ty.sz/\GE P w I c x cells.toList bs'/\(∀o,¬I.cell b o)/\¬I.obj b/\(c.ty=GS->Lay P (.agg GS) el)
 | .pr a b,x,cs,bs=>∃c d bs1 bs2,cs=c++d/\bs=bs1++bs2/\GE P w I a x.1 c bs1/\GE P w I b x.2 d bs2
 | .hof nd d c,F,cs,bs=>bs=[]/\∃f vs,cs=[.func (.func f) #[] vs]/\HofD P (nd=true) w I d c F f vs
 | .fn f,_,cs,bs=>bs=[]/\cs=[.func (.func f) #[] #[]]
 | .nilS,_,cs,bs=>bs=[]/\cs=[.slice none 0 0]
 | .nns e,x,cs,bs=>bs=[]/\Rel w I (.slice e) x cs/\∃ad len cap,cs=[.slice (some ad) len cap]
 | .mns e,x,cs,bs=>bs=[]/\Rel w I (.slice e) ((show Option (List e.T)from x).getD []) cs/\∃ad len cap,cs=[.slice ad len cap]/\ad.isNone=(show Option (List e.T)from x).isNone
 | .fz t,x,cs,bs=>Rel w I t x cs/\bs=[]
 | .kz t,x,cs,bs=>bs=[]/\∃b c,cs=[.pointer (some ⟨b,0,none⟩)]/\Row w I b 0 t.sz c/\Rel w I t x c
 | .dp ids t,x,cs,bs=>ids≠[]/\DV (λ_=>True) w I t ids x none cs bs
 | .any,_,_,_=>False
 | .tr _,_,_,_=>False
 | .bld el _,xs,cs,bs=>∃b cells el' p q bs',cs=[.pointer (some ⟨b,0,none⟩)]/\bs=b::bs'/\w.heap[b]?=some (.cells cells el' (0,0))/\Lay P (.agg GS) el'/\cells.toList=[p,q]/\
  (p=.pointer none\/p=.pointer (some ⟨b,0,none⟩))/\(∀o,¬I.cell b o)/\¬I.obj b/\
  ((q=.slice none 0 0/\(show List Int from xs)=[]/\bs'=[]) \/
  ∃g cap gcells,q=.slice (some ⟨g,0,none⟩) (show List Int from xs).length cap/\bs'=[g]/\HS (show List Int from xs).length cap/\RowAt w g gcells el/\gcells.size=cap*(Ty.int .u8).sz/\
   RowsOK w I (.int .u8) (show List Int from xs) gcells.toList/\(∀o,¬I.cell g o)/\¬I.obj g)
 | .og id k t,es,cs,bs=>∃b ents clock,∃us:List Value,cs=[.map (some b)]/\bs=b::us.filterMap O4/\w.heap[b]?=some (.map ents clock)/\(ents.size=(show List (k.T×List t.T)from es).length/\Go.MapKept.Stamped ents clock)/\us.length=(show List (k.T×List t.T)from es).length/\
  (∀(i:Nat) (x:k.T×List t.T) (e:MapEntry) (u:Value),(show List (k.T×List t.T)from es)[i]?=some x->ents[i]?=some e->us[i]?=some u->VRel w I k x.1 e.key/\SlG w I id t x.2 e.val/\u=HO e.val)/\
  ((show List (k.T×List t.T)from es).map (·.1)).Nodup/\¬I.obj b/\∀o,¬I.cell b o
def UF(P:Program)(w:World)(I:Im):(s:Sh)->s.T->Value->List Nat->Prop
 | .val t,x,v,bs=>VRel w I t x v/\bs=[]
 | .own el t wr,x,v,bs=>GE P w I (.own el t wr) x [v] bs
 | .io el t,x,v,bs=>GE P w I (.io el t) x [v] bs
 | .omap a b,x,v,bs=>GE P w I (.omap a b) x [v] bs
 | .og id a b,x,v,bs=>GE P w I (.og id a b) x [v] bs
 | .box c,x,v,bs=>GE P w I (.box c) x [v] bs
 | .pr _ _,_,_,_=>False
 | .hof nd d c,x,v,bs=>GE P w I (.hof nd d c) x [v] bs
 | .fn f,x,v,bs=>GE P w I (.fn f) x [v] bs
 | .nilS,x,v,bs=>GE P w I .nilS x [v] bs
 | .nns e,x,v,bs=>GE P w I (.nns e) x [v] bs
 | .mns e,x,v,bs=>GE P w I (.mns e) x [v] bs
 | .dp ids t,x,v,bs=>GE P w I (.dp ids t) x [v] bs
 | .fz t,x,v,bs=>VRel w I t x v/\bs=[]
 | .kz t,x,v,bs=>GE P w I (.kz t) x [v] bs
 | .any,_,_,bs=>bs=[]
 | .bld el c,x,v,bs=>GE P w I (.bld el c) x [v] bs
 | .tr s,x,v,bs=>cM s=true/\∃cs,v=.agg cs.toArray/\(∀y∈cs,y.oneCell'=true)/\GE P w I s x cs bs
def ShL(P:Program)(w:World)(I:Im):(l:List Sh)->TupR l->List Value->List Nat->Prop
 |[],_,vs,bs=>vs=[]/\bs=[]
 |[a],x,vs,bs=>∃v,vs=[v]/\UF P w I a x v bs
 |a::b::r,x,vs,bs=>∃v vs' bs1 bs2,vs=v::vs'/\bs=bs1++bs2/\UF P w I a x.1 v bs1/\ShL P w I (b::r) x.2 vs' bs2
def GD:List Sh->List Value->List Value
 | .box _::ps,v::vs=>v::GD ps vs
 | .io _ _::ps,v::vs=>v::GD ps vs
 | .bld _ false::ps,v::vs=>v::GD ps vs
 |_::ps,_::vs=>GD ps vs
 |_,_=>[]
def KN:List Value->Value->Prop
 |[v],rv=>rv=v
 |vs,rv=>rv=.tuple vs.toArray
def FunOK(P:Program)(f:Nat)(sp:FSpec):Prop:=
 ∀(w:World) (I:Im) (v:TupR sp.ps) (args:List Value) (bs:List Nat),HY w I->ShL P w I sp.ps v args bs->bs.Nodup->∀r,sp.F v=some r->
  Calls P f args.toArray w λe w'=>∃rv vs I' bs',e=.returned rv/\vs.length=sp.rs.length/\KN vs rv/\After (·∈bs) w I w' I'/\
   ShL P w' I' (sp.rs++sp.ps.filter F3) r (vs++GD sp.ps args) bs'/\bs'.Nodup/\(∀b∈bs',b∈bs\/w.heap.size<=b)/\(sp.dr=true->w.drawn<=w'.drawn)
def JE(tv:Nat->Value)(pv:List Value)(c:Nat):Value:=if c<1000000 then tv c else pv.getD (c-1000000) undef
def O5(tv:Nat->Value)(pv:List Value)(q:Kn):Value:=.func (.func q.f) #[] (q.caps.map (JE tv pv)).toArray
def KO(w:World)(I:Im)(tv:Nat->Value)(pv:List Value)(q:Kn):Prop:=match q.bx with
 |true=>∃b,tv q.p=.pointer (some ⟨b,0,none⟩)/\I.cell b 0/\w.cell? ⟨b,0,none⟩=some (O5 tv pv q)
 |false=>tv q.p=O5 tv pv q
def KxOK(w:World)(I:Im)(tv:Nat->Value)(pv:List Value)(x:KX):Prop:=pv.length=x.m/\∀q∈x.kn,KO w I tv pv q
theorem KxOK.ext{w w':World}{tv t:Nat->Value}{pv:List Value}{x:KX}(h:KxOK w I tv pv x)(e:Ext w I w' I')(o:∀q∈x.kn,t q.p=tv q.p/\∀c∈q.caps,c<1000000->t c=tv c):KxOK w' I' t pv x:=by
 refine⟨h.1,λq i=>?_⟩;have a:=h.2 q i;obtain⟨s,y⟩:=o q i
 have r:O5 t pv q=O5 tv pv q:=by
  have:q.caps.map (JE t pv)=q.caps.map (JE tv pv):=List.map_congr_left λc v=>by
   simp_all[JE,if_pos,if_neg]
  unfold O5;rw[this]
 unfold KO at a ⊢;cases l:q.bx with
 |true=>
  rw[l]at a;obtain⟨b,j,d,k⟩:=a;exact⟨b,s.trans j,(e.cell _ _ d).1,(e.cell _ _ d).2.trans (k.trans (by rw[r]))⟩
 |false=>
  grind
def L0(P:Program)(f:Nat)(s:KSpec):Prop:=
 ∀(w:World) (I:Im) (v:TupR s.sp.ps) (args pv:List Value) (bs:List Nat),args.length=s.n->HY w I->KxOK w I (λt=>args.getD t undef) pv s.kx->ShL P w I s.sp.ps v (args++pv) bs->bs.Nodup->∀r,s.sp.F v=some r->
  Calls P f args.toArray w λe w'=>∃rv vs I' bs',e=.returned rv/\vs.length=s.sp.rs.length/\KN vs rv/\After (·∈bs) w I w' I'/\
   ShL P w' I' (s.sp.rs++s.sp.ps.filter F3) r (vs++GD s.sp.ps (args++pv)) bs'/\bs'.Nodup/\(∀b∈bs',b∈bs\/w.heap.size<=b)/\(s.sp.dr=true->w.drawn<=w'.drawn)
structure EnvOK(P:Program)(dr:Bool)(E:Env):Prop where
 pin:Pins.P=P
 drE:dr=true->E.dr=true
 drs:dr=true->∀f sp,E.fs f=some sp->sp.dr=true
 ty:∀id t,E.ty id=some t->Lay P t id
 el:∀id x,P.underlying id=some (.slice x)->E.el id=x
 fs:∀f sp,E.fs f=some sp->FI P f/\FunOK P f sp
 mt:∀m id f,E.mt m id=some f->∀(v:Value) (w:World),(method (P.types.size+Made.depth) id v m).run P w=.ok (f,v) w
 eq:∀id t,E.eq id=true->E.ty id=some t->P0 P t id=true
 ky:∀id x y,P.underlying id=some (.map x y)->E.ky id=x
 ks:∀f s,E.ks f=some s->(FI P f/\L0 P f s)/\(dr=true->s.sp.dr=true)
section
variable{P:Program}{fr:Fr}{free free':Nat->Prop}{self:Nat}{σ σ':SSo}{w w':World}{G G':Gh}{I:Im}
def BlksOf(σ:SSo)(G:Gh)(ks bs:List Nat):Prop:=∀b∈bs,∃k∈ks,∃o,σ k=some o/\Bk G k o b
theorem BlksOf.mono{a:List Nat}(h:BlksOf σ G ks bs)(hk:∀k∈ks,k∈a):BlksOf σ G a bs:=λb d=>let ⟨k,h1,h2⟩:=h b d;⟨k,hk k h1,h2⟩
theorem BlksOf.append(A:MemS P fr free σ w G){k1 s i j:List Nat}(t:BlksOf σ G k1 i)(v:BlksOf σ G s j)(H:i.Nodup)(I:j.Nodup)(hk:(k1++s).Nodup):
 (i++j).Nodup/\BlksOf σ G (k1++s) (i++j):=by
 refine⟨BD.2 ⟨H,I,λa z b l e=>?_⟩,λb l=>?_⟩
 .subst e;obtain⟨x,D,o,B,q⟩:=t a z;obtain⟨y,E,J,r,d⟩:=v a l;exact(BD.1 hk).2.2 x D y E (A.sep x y o J a B r q d)
 .rcases AS.1 l with h|h
  .obtain⟨k,hk,C⟩:=t b h;grind
  .obtain⟨k,hk,C⟩:=v b h;grind
theorem Y3(hm:MemS P fr free σ w G){v:SV}{x:List t.T}(h:L_ σ el t wr v=some x)(hr:CR P w G v cs):
 ∃bs,GE P w G.im (.own el t wr) x cs bs/\bs.Nodup/\BlksOf σ G (FR v) bs:=by
 unfold L_ at h;split at h
 .rename_i k g;split at h
  .rename_i id' t' xs g' w1 hk;cases hb:(Nat.beq g 0&&Nat.beq g g'&&(Nat.beq el id'&&(bif wr then w1 else !w1)))with
   |false=>grind
   |true=>
    rw[hb]at h;have h:Ty.cast? (.slice t') (.slice t) xs=some x:=h;simp only[A6]at hb;have e1:=A3 hb.1.2;have e2:=A3 hb.2.1
    have e3:wr=w1:=by
     have:=hb.2.2;cases wr<;>cases w1<;>first|rfl|cases this
    subst e1 e2 e3;obtain⟨et,ex⟩:=Ty.cast?_some h;have et':t'=t:=by injection et
    subst et';cases ex;obtain⟨_,v',k1,k2⟩:=hm.objs _ _ hk;obtain⟨v2,k3,_,k5⟩:=hr;rw[k1]at k3;cases k3;rcases k2 with⟨rfl,hx⟩|⟨b,cap,cells,rfl,q1,q2,q3,q4,q5,q6,q7,q8⟩
    .exact⟨[],.inl ⟨k5,hx,rfl⟩,B3,λb hb=>by cases hb⟩
    .refine⟨[b],.inr ⟨b,cap,cells,k5,rfl,q1,q2,q3,q4,q6,q7,q8⟩,oe,λb' hb'=>?_⟩;simp_all[FR,Bk]
  .cases h
 .cases h;exact⟨[],.inl ⟨hr,rfl,rfl⟩,B3,λb hb=>by cases hb⟩
 .cases h
theorem A26(A:MemS P fr free σ w G){k v:Ty}{x:List (k.T×v.T)}(h:WQ σ k v s=some x)(B:CR P w G s cs):
 ∃bs,GE P w G.im (.omap k v) x cs bs/\bs.Nodup/\BlksOf σ G (FR s) bs:=by
 unfold WQ at h;split at h
 .rename_i j g;split at h
  .rename_i C l r wr hk;cases d:(Nat.beq g 0&&wr)with
   |false=>grind
   |true=>
    rw[d]at h;have h:Ty.cast? (.map C l) (.map k v) r=some x:=h;simp only[A6]at d;have o:=A3 d.1;have q:wr=true:=d.2;subst o q;obtain⟨t,y⟩:=Ty.cast?_some h;injection t with e3 e4;subst e3 e4;cases y;obtain⟨l,k1,b,e,a,rfl,E,H,I,J,K,M⟩:=A.objs _ _ hk;obtain⟨N,i,_,D⟩:=B;rw[k1]at i;cases i;refine⟨[b],⟨b,e,a,D,rfl,E,H,I,J.1 rfl,K⟩,oe,λL z=>?_⟩;simp_all[FR,Bk]
  .cases h
 .cases h
theorem MgOK.bks{k:Ty}{j:List (k.T×List t.T)}(h:MgOK fr w I id k t j none us cv):∀u∈us,∃v,u=HO v:=by
 intro u q;obtain⟨b,a,d,rfl,r,⟨s,_⟩,y,z,_⟩:=h;obtain⟨i,l⟩:=C6 q;have o:i<us.length:=(A9.1 l).1;obtain⟨x,B⟩:∃x,j[i]?=some x:=⟨_,A1 oa⟩;obtain⟨e,A⟩:∃e,a[i]?=some e:=⟨_,B7 oa⟩;grind
theorem AEp:∀{us:List Value},(∀u∈us,∃v,u=HO v)->(∀(i j c:Nat),us[i]?=some (.map (some c))->us[j]?=some (.map (some c))->i=j)->(us.filterMap O4).Nodup:=by
 intro us;induction us with
 |nil=>simp
 |cons u us t=>
  intro a e;have d:=t (λx b=>a x (AP _ b)) (λi j c o q=>by simpa using e (i+1) (j+1) c (by simpa using o) (by simpa using q));cases h:O4 u with
  |none=>grind
  |some c=>
   rw[DP h];refine B9.2 ⟨λk=>?_,d⟩;obtain⟨v,s⟩:=a u AL;rw[UE λx b=>a x (AP _ b)]at k;obtain⟨j,r⟩:=C6 k;have l:u=.map (some c):=by rw[s]at h ⊢;exact A25 h
   have:=e 0 (j+1) c (by simp[l]) (by simpa using r);omega
theorem AEq:∀{us:List Value},(∀u∈us,∃v,u=HO v)->(us.filterMap O4).Nodup->∀{i j c:Nat},us[i]?=some (.map (some c))->us[j]?=some (.map (some c))->i=j:=by
 intro us;induction us with
 |nil=>simp
 |cons u us r=>
  intro k a i j c o q;have h:∀x∈us,∃v,x=HO v:=λx l=>k x (AP _ l)
  have key:∀j:Nat,u=Value.map (some c)→us[j]?=some (Value.map (some c))→False:=by
   intro j b d;subst b;have e:O4 (Value.map (some c))=some c:=rfl;rw[DP e]at a;exact(B9.1 a).1 ((UE h).2 (AI d))
  grind
theorem A27(R:MemS P fr free σ w G){k:Ty}{x:List (k.T×List t.T)}(h:WR σ id k t s=some x)(T:CR P w G s cs):
 ∃bs,GE P w G.im (.og id k t) x cs bs/\bs.Nodup/\BlksOf σ G (FR s) bs:=by
 unfold WR at h;split at h
 .rename_i j g;split at h
  .rename_i D U t' K gk hk;cases y:(Nat.beq g 0&&Nat.beq id D)with
   |false=>rw[y]at h;cases h
   |true=>
    rw[y]at h;have h:Ty.cast? (.map U (.slice t')) (.map k (.slice t)) K=some x:=h;simp only[A6]at y;have I:=A3 y.1;have J:=A3 y.2;subst I J;obtain⟨L,M⟩:=Ty.cast?_some h;injection L with e3 e4;injection e4 with e4;subst e3 e4;cases M;obtain⟨v',us,k1,V,q⟩:=R.objs _ _ hk;have o:=q.bks;have A:=q;obtain⟨b,r,d,rfl,X,Y,Z,q4,q5,q6,q7,q8,q9⟩:=q;obtain⟨v2,E,_,W⟩:=T;rw[k1]at E;cases E;refine⟨b::us.toList.filterMap O4,⟨b,r,d,us.toList,W,rfl,X,Y,Z,λi x e u N O Q=>?_,q6,q7,q8⟩,B9.2 ⟨λz=>?_,AEp o q5⟩,λb' l=>?_⟩
    .obtain⟨B,a⟩:=q4 i x e u N O Q;rcases a with⟨a,_⟩|⟨a,H⟩
     .cases a
     .exact⟨B,.of a,H⟩
    .rw[UE o]at z;obtain⟨x,v,B,a⟩:=A.own z;obtain⟨_,_,cap,C,_,fz,a5,_⟩:=B.slice a;grind
    .refine⟨j,by simp[FR],_,hk,?_⟩;rcases B2.1 l with e|l
     .subst e;exact .inl k1
     .exact .inr ⟨us,V,(UE o).1 l⟩
  .cases h
 .cases h
theorem pX:∀{a b:List Nat},OT a b=true->a=b:=by
 intro a;induction a with
 |nil=>intro b h;cases b<;>first|rfl|cases h
 |cons x a i=>
  intro b h;cases b with
  |nil=>cases h
  |cons y b=>
   simp only[OT,A6]at h;rw[A3 h.1,i h.2]
theorem SlOK.dv{xs:List t.T}(h:SlOK fr w I id t xs true v):
 ∃bs,DV fr.owned w I t [id] xs none [v] bs/\bs.Nodup/\∀b∈bs,HO v=.map (some b):=by
 rcases h with⟨rfl,rfl⟩|⟨b,cap,a,rfl,q,k,y,z,l,o,A,r⟩
 .exact⟨[],⟨_,rfl,rfl,.inr (.inl ⟨oq,rfl,rfl,rfl⟩)⟩,B3,λb j=>by cases j⟩
 .refine⟨[b],DV.mkleaf q k oa l (o rfl) r (λi x s=>oc),oe,λe d=>?_⟩
  .have:e=b:=by simpa using d
   rw[this];rfl
theorem eD(C:MemS P fr free σ w G){v:SV}{x:(E7 ids t).T}(h:LD σ ids t v=some x)(D:CR P w G v cs):
 ∃bs,(ids≠[]/\DV fr.owned w G.im t ids x none cs bs)/\bs.Nodup/\BlksOf σ G (FR v) bs:=by
 unfold LD at h;split at h
 .rename_i k g;split at h
  .rename_i i j X Z hk;cases d:(Nat.beq g 0&&OT i ids)with
   |false=>grind
   |true=>
    rw[d]at h;have h:Ty.cast? (E7 i j) (E7 ids t) X=some x:=h;simp only[A6]at d;have o:=A3 d.1;have z:=pX d.2;subst o z;obtain⟨e,B⟩:=Ty.cast?_some h
    have A:j=t:=by
     have:∀(l:List Nat),E7 l j=E7 l t->j=t:=by
      intro l;induction l with
      |nil=>intro h;exact h
      |cons a l Q=>intro h;injection h with h;exact Q h
     exact this _ e
    subst A;cases B;cases i with
    |nil=>exact absurd (C.objs _ _ hk) id
    |cons id r=>
     obtain⟨h0,I,V,us,bs,k1,s,R,T,U⟩:=DpOK.inv (C.objs _ _ hk);obtain⟨W,q,_,H⟩:=D;rw[k1]at q;cases q;rw[H];exact⟨bs,⟨oq,U⟩,T,λb d=>⟨k,by simp[FR],_,hk,rfl,us,s,(M3 R).2 d⟩⟩
  .rename_i E j Y N hk;cases d:(Nat.beq g 0&&(Nat.beq N 0&&OT [E] ids))with
   |false=>grind
   |true=>
    rw[d]at h;have h:Ty.cast? (.slice j) (E7 ids t) Y=some x:=h;simp only[A6]at d;have o:=A3 d.1;have z:=A3 d.2.1;have M:=pX d.2.2;subst o z M;obtain⟨e,B⟩:=Ty.cast?_some h;have e:Ty.slice j=.slice t:=e;injection e with e;subst e;cases B;obtain⟨_,V,k1,s⟩:=C.objs _ _ hk;obtain⟨W,q,_,H⟩:=D;rw[k1]at q;cases q;rw[H];obtain⟨bs,J,K,L⟩:=SlOK.dv s;refine⟨bs,⟨oq,J⟩,K,λb d=>⟨k,by simp[FR],_,hk,?_⟩⟩;obtain⟨_,_,cap,y,o,_⟩:=s.slice (L b d);grind[Bk]
  .cases h
 .split at h
  .cases h
  .rename_i id r;have O:x=([]:List (E7 r t).T):=(A2 h).symm;refine⟨[],⟨oq,⟨_,D,rfl,.inr (.inl ⟨oq,rfl,O,rfl⟩)⟩⟩,B3,λb d=>by cases d⟩
 .cases h
theorem A28(a:MemS P fr free σ w G){v:SV}{x:(E7 ids t).T}(h:LD σ ids t v=some x)(b:CR P w G v cs):
 ∃bs,GE P w G.im (.dp ids t) x cs bs/\bs.Nodup/\BlksOf σ G (FR v) bs:=
 let ⟨bs,h1,h2,h3⟩:=eD a h b
 ⟨bs,⟨h1.1,h1.2.own λ_ _=>trivial⟩,h2,h3⟩
theorem A29{f:Nat}{v:SV}{x:Unit}(h:WS f v=some x)(d:CR P w G v cs):cs=[.func (.func f) #[] #[]]:=by
 unfold WS at h;split at h
 .split at h
  .rename_i b;have:=A3 b;subst this;obtain⟨vs,e,a⟩:=d;have a:vs.toList=[]:=a;simp_all
  .cases h
 .cases h
theorem A2A{v:SV}{x:List e.T}(h:cJ e v=some x)(a:CR P w G v cs):Rel w G.im (.slice e) x cs/\∃b len cap,cs=[.slice (some b) len cap]:=by
 cases v<;>first|exact⟨Rel.cast h a.1,a.2⟩|cases h
theorem A2B{x:Option (List u.T)}{y:Option (List e.T)}(h:cK u e x=some y):∃h:u=e,h▸x=y:=by
 grind[cK,Ty.same_eq,Option.some.inj]
theorem A2C{v:SV}{x:Option (List e.T)}(h:cL e v=some x)(a:CR P w G v cs):
 Rel w G.im (.slice e) (x.getD []) cs/\∃b len cap,cs=[.slice b len cap]/\b.isNone=x.isNone:=by
 cases v with
 |nilS=>
  have h:none=x:=A2 h;subst h;have a:cs=[.slice none 0 0]:=a;subst a;exact⟨⟨none,0,rfl,⟨AH _,BJ _⟩,λ_=>⟨rfl,rfl⟩,λb h=>ol⟩,none,0,0,rfl,rfl⟩
 |nns u y=>
  obtain⟨d,i⟩:=A2B h;subst d;subst i;obtain⟨j,b,n,m,k⟩:=a;grind
 |mns u y=>
  obtain⟨d,i⟩:=A2B h;subst d;subst i;exact a
 |_=>cases h
theorem AEr{x:t.T}(h:SR P w G (.rf0 t x) v):SR P w G (.ref t x) v:=by
 obtain⟨d,j,b,c,a,e,i⟩:=h;exact⟨d,j,⟨b,0,none⟩,c,a,rfl,e,i⟩
theorem A2D{v:SV}{x:Unit}(h:WU v=some x)(a:CR P w G v cs):cs=[.slice none 0 0]:=by
 unfold WU at h;split at h
 .exact a
 .cases h
theorem A2E(q:MemS P fr free σ w G):∀{s:Sh} {v:SV} {x:s.T} {cs:List Value} {t:Ty},OU σ s v=some x->CR P w G v cs->
 (RG s v).Nodup->Fit v t->∃bs,GE P w G.im s x cs bs/\bs.Nodup/\BlksOf σ G (RG s v) bs:=by
 intro s;induction s with
 |val t=>
  intro v x cs _ h i _ _;exact⟨[],⟨U9 (λk o h=>q.objs k o h) h i,rfl⟩,B3,λb j=>by cases j⟩
 |own el t wr=>intro v x cs _ h i _ _;exact Y3 q h i
 |io el t=>intro v x cs _ h i _ _;exact Y3 (wr:=true) q h i
 |omap a b=>intro v x cs _ h i _ _;exact A26 q h i
 |og id a b=>intro v x cs _ h i _ _;exact A27 q h i
 |dp ids t=>intro v x cs _ h i _ _;exact A28 q h i
 |pr a b A B=>
  intro v x cs t h i r Q;simp only[OU]at h;split at h
  .rename_i y z E;split at h
   .rename_i x1 x2 N O;have h:=A2 h;subst h;simp only[RG,E]at r ⊢;obtain⟨tx,ty,H,I,e1,J,K,rfl,L,M,_⟩:=pE Q i E;have l:=BD.1 r;obtain⟨C,R,T,U⟩:=A N L l.1 J;obtain⟨D,V,W,X⟩:=B O M l.2.1 K;obtain⟨Y,Z⟩:=U.append q X T W r;exact⟨C++D,⟨H,I,C,D,rfl,rfl,R,V⟩,Y,Z⟩
   .cases h
  .cases h
 |fn f=>
  intro v x cs _ h i _ _;exact⟨[],⟨rfl,A29 h i⟩,B3,λb j=>by cases j⟩
 |nilS=>
  intro v x cs _ h i _ _;exact⟨[],⟨rfl,A2D h i⟩,B3,λb j=>by cases j⟩
 |nns e=>
  intro v x cs _ h i _ _;exact⟨[],⟨rfl,A2A h i⟩,B3,λb j=>by cases j⟩
 |mns e=>
  intro v x cs _ h i _ _;exact⟨[],⟨rfl,A2C h i⟩,B3,λb j=>by cases j⟩
 |box c ih=>intro v x cs _ h;cases h
 |hof d c=>intro v x cs _ h;cases h
 |any=>intro v x cs _ h;cases h
 |bld el c=>intro v x cs _ h;cases h
 |tr s _=>intro v x cs _ h;cases h
 |fz t=>intro v x cs _ h;cases h
 |kz t=>intro v x cs _ h;cases h
theorem ArgsV.one{d:Ty}{x:d.T}{l:List Value}(e:∀a b,d≠.prod a b)(h:ArgsV w I d x l):∃v,l=[v]/\VRel w I d x v:=by
 cases d<;>first|exact h|grind
theorem ArgsV.mk_one{d:Ty}{x:d.T}(a:NW d=false)(h:VRel w I d x v):ArgsV w I d x [v]:=by
 cases d<;>first|exact⟨v,rfl,h⟩|cases a
theorem AEs:∀{rs:List Sh} {c:Ty} {y:TupR rs} {z:c.T} {vs:List Value} {bs:List Nat},TI rs c y=some z->ShL P w I rs y vs bs->
 ArgsV w I c z vs/\(NW c=true->2<=vs.length)/\(NW c=false->vs.length=1):=by
 intro rs;induction rs with
 |nil=>intro c y z vs bs h;cases h
 |cons a rs l=>
  intro c y z vs bs h j;cases a<;>first|(cases rs<;>cases h;done)|skip
  rename_i t;cases rs with
  |nil=>
   obtain⟨v,rfl,d,_⟩:=j;simp only[TI]at h;cases i:NW c with
   |true=>grind
   |false=>
    rw[i]at h;simp only[AA]at h;exact⟨ArgsV.mk_one i (VRel.cast h d),⟨λh=>absurd h oe,λ_=>rfl⟩⟩
  |cons b rs=>
   cases c<;>first|(cases h;done)|skip
   rename_i p q;obtain⟨v,e,x,A,rfl,rfl,⟨k1,D⟩,s⟩:=j;simp only[TI]at h;split at h
   .rename_i u r d k;have h:=A2 h;subst h;obtain⟨o,B,C⟩:=l k s;refine⟨⟨v,e,rfl,VRel.cast d k1,o⟩,λ_=>?_,λh=>ol⟩;grind
   .cases h
theorem AEt{rs:List Sh}{c:Ty}{y:TupR rs}{z:c.T}{r:Value}(h:TI rs c y=some z)(s:ShL P w I rs y vs bs)(d:KN vs r):RetV w I c z r:=by
 obtain⟨k,l,o⟩:=AEs h s;cases j:NW c with
 |true=>
  have i:=l j
  have e:r=.tuple vs.toArray:=by
   rcases vs with _|⟨v,_|⟨t,vs⟩⟩
   .simp at i
   .simp at i
   .exact d
  cases c<;>first|(cases j;done)|skip
  exact⟨vs.toArray,e,k⟩
 |false=>
  have i:=o j;rcases vs with _|⟨v,_|⟨t,vs⟩⟩<;>first|(simp at i;done)|skip
  have e:r=v:=d;subst e;have q:∀a b,c≠.prod a b:=by intro a b e;subst e;cases j
  obtain⟨u,x,A⟩:=k.one q;grind[RetV.one]
theorem AEu:∀{ps:List Sh},cE ps=true->ps.filter F3=[]/\∀b,GD ps b=[]:=by
 intro ps;induction ps with
 |nil=>intro _;exact⟨rfl,λb=>by cases b<;>rfl⟩
 |cons a ps i=>
  intro h;cases a<;>first|(cases h;done)|skip
  obtain⟨e,d⟩:=i h;refine⟨?_,λb=>?_⟩
  .assumption
  .cases b with
   |nil=>rfl
   |cons v b=>exact d b
theorem A2F(d:∀k o,σ k=some o->ObjOK P fr w G k o){x:t.T}(h:WN σ t s=some x)(a:SR P w G s v):VRel w G.im t x v:=by
 have a:=pN d a;unfold WN at h;generalize PR σ s=s at h a
 have key:∀{u:Ty} {y:u.T},SR P w G (.ref u y) v->cG u y t=some x->VRel w G.im t x v:=by
  intro u y a h;unfold cG at h;split at h
  .rename_i e _;cases b:nP e u y with
   |none=>grind
   |some z=>
    rw[b]at h;have h:=A2 h;subst h;obtain⟨j,c,rfl,q,r,A⟩:=RP a
    have i:u.sz=e.sz/\Rel w G.im e z c:=by
     unfold nP at b;split at b
     .grind[Ty.cast?_some,Rel.cast]
     .obtain⟨l,_⟩:=Ty.cast?_some b;exact⟨by rw[<-l];rfl,Rel.cast (t:=.agg u) b A⟩
    exact⟨_,rfl,j,rfl,q,c,i.1▸r,i.2⟩
  .cases h
 unfold A1B at h;split at h
 .exact key a h
 .exact key (AEr a) h
 .exact K9 d h a
theorem pY{a:Sh}{r:List Sh}{x:a.T}{y:TupR r}(h:UF P w I a x v [])(d:ShL P w I r y vs []):ShL P w I (a::r) (cH a r x y) (v::vs) []:=by
 cases r with
 |nil=>
  obtain⟨rfl,_⟩:=d;exact⟨v,rfl,h⟩
 |cons b r=>exact⟨v,vs,[],[],rfl,rfl,h,d⟩
theorem AEv(B:∀k o,σ k=some o->ObjOK P fr w G k o):∀{l:List Sh} {ss:List SV} {x:TupR l} {vs:List Value},WO σ l ss=some x->ss.length=vs.length->
 (∀(j:Nat) (s:SV) (v:Value),ss[j]?=some s->vs[j]?=some v->SR P w G s v)->∀w' I',Ext w G.im w' I'->ShL P w' I' l x vs []:=by
 intro l;induction l with
 |nil=>
  intro ss x vs h b _ w' I' _;cases ss with
  |nil=>exact⟨AM b.symm,rfl⟩
  |cons _ _=>cases h
 |cons a l C=>
  intro ss x vs h b e w' I' d;cases ss with
  |nil=>cases a<;>cases h
  |cons s ss=>
   cases vs with
   |nil=>cases b
   |cons v vs=>
    cases a<;>first|(cases h;done)|skip
    rename_i t;simp only[WO]at h;split at h
    .rename_i y z i q;have h:=A2 h;subst h;refine pY ⟨(A2F B i (e 0 s v rfl rfl)).ext d,rfl⟩ (C q (by simpa using b) (λj s v r A=>e (j+1) s v (by simpa using r) (by simpa using A)) w' I' d)
    .cases h
theorem AEw(H:∀k o,σ k=some o->ObjOK P fr w G k o){cs:List SV}(E:cs.length=vs.length)(J:∀(j:Nat) (s:SV) (v:Value),cs[j]?=some s->vs[j]?=some v->SR P w G s v)
 {w':World}(D:Ext w G.im w' I'):∀{n:Nat} {ps:List Sh} {d:Ty} {x:d.T} {v:TupR ps} {l:List Value},WP σ cs n ps d x=some v→ArgsV w' I' d x l→ShL P w' I' ps v (l++vs) []:=by
 intro n;induction n with
 |zero=>
  intro ps d x v l h B;cases ps with
  |nil=>cases h
  |cons a ps=>
   cases a<;>first|(cases h;done)|skip
   rename_i t;simp only[WP]at h;cases C:NW d with
   |true=>grind
   |false=>
    rw[C]at h;simp only[AA]at h;split at h
    .rename_i y z i A;have h:=A2 h;subst h;obtain⟨u,rfl,K⟩:=B.one (λa b e=>by subst e;cases C);exact pY ⟨VRel.cast i K,rfl⟩ (AEv H A E J w' I' D)
    .cases h
 |succ n L=>
  intro ps d x v l h B;cases ps with
  |nil=>cases h
  |cons a ps=>
   cases a<;>first|(cases h;done)|skip
   rename_i t;cases d<;>first|(cases h;done)|skip
   rename_i p q;simp only[WP]at h;split at h
   .rename_i y z i A;have h:=A2 h;subst h;obtain⟨u,r,rfl,k1,M⟩:=B;exact pY ⟨VRel.cast i k1,rfl⟩ (L A M)
   .cases h
theorem pZ:∀{l:SV} {vs:List Value},CR P w G l vs->l.list.length<=vs.length->∀(j:Nat) (s:SV) (v:Value),l.list[j]?=some s->vs[j]?=some v->SR P w G s v:=by
 intro l;induction l with
 |scons a b x y=>
  intro vs h q j s v d t;obtain⟨z,r,rfl,⟨c,k,o⟩,A⟩:=h;cases j with
  |zero=>
   have e:a=s:=by simpa[SV.list]using d
   have i:z=v:=by simpa using t
   subst e i;exact⟨c,k,o⟩
  |succ j=>grind[SV.list]
 |_=>intro vs h q j s v d;simp[SV.list]at d
theorem p_:∀{l:SV} {vs:List Value},CR P w G l vs->MX l=true->l.list.length=vs.length:=by
 intro l;induction l with
 |snil=>intro vs h _;have h:vs=[]:=h;rw[h];rfl
 |scons a b e i=>
  intro vs h hk;obtain⟨v,r,rfl,_,d⟩:=h;simp[SV.list,i d hk]
 |_=>intro vs h hk;cases hk
theorem eE(ho:∀k o,σ k=some o->ObjOK P fr w G k o)(hE:∀f sp,fs f=some sp->FI P f/\FunOK P f sp){d c:Ty}{v:SV}{F:d.T->Option c.T}{nd:Bool}{D:Prop}(T:D->nd=true\/((∀f sp,fs f=some sp->sp.dr=true)/\∀j R Q F',v≠.hof j R Q F'))(h:OS nd fs σ d c v=some F)(B:CR P w G v cs):
 ∃f vs,cs=[.func (.func f) #[] vs]/\HofD P D w G.im d c F f vs:=by
 unfold OS at h;split at h
 .rename_i j R Q F';cases z:(!nd||j)with
  |false=>grind
  |true=>
  rw[z]at h;simp only[A8]at h;unfold A1A at h;split at h
  .rename_i E;split at h
   .rename_i H;have Z:=Ty.same_eq E;have e2:=Ty.same_eq H;subst Z e2;have h:=A2 h;subst h;obtain⟨f,vs,C,A,h3⟩:=B;refine⟨f,vs,C,A,λw' I' K L x l M y i=>(h3 w' I' K L x l M y i).mono λe O ⟨N,I'',k1,k2,k3,k4⟩=>⟨N,I'',k1,k2,k3,λJ=>k4 ((T J).elim (λe=>oc) λhh=>absurd rfl (hh.2 _ _ _ _))⟩⟩
   .cases h
  .cases h
 .rename_i f caps;split at h
  .rename_i sp V;cases a:(MX caps&&cE sp.ps&&(!nd||sp.dr)&&A1C σ (cI d) sp.ps caps.list)with
   |false=>grind
   |true=>
    rw[a]at h;have h:=A2 h;subst h;simp only[A6]at a;obtain⟨vs,C,A⟩:=B;obtain⟨⟨a,z⟩,_⟩:=a;obtain⟨K,s⟩:=hE _ _ V;have t:=p_ A a.1;refine⟨f,vs,C,K,λw' I' q L x l M y i=>?_⟩;obtain⟨v,hv,i⟩:=A_.1 i;obtain⟨r,B,i⟩:=A_.1 i;obtain⟨a1,X⟩:=AEu a.2;have U:=s w' I' v (l++vs.toList) [] L (AEw ho t (pZ A oa) q hv M) B3 r B;rw[show(l++vs.toList).toArray=(l.toArray++vs:Array Value) by simp]at U;refine Calls.mono U λe O hq=>?_;obtain⟨N,h0,I',Y,q1,q2,q3,q4,W,_,_,qd⟩:=hq;rw[X,CG]at W;exact⟨N,I',q1,q4.mono (λb E=>by cases E),AEt i W q3,λJ=>qd ((T J).elim (λe=>oc) λh=>h.1 _ _ V)⟩
  .cases h
 .cases h
theorem SR.cell(h:SR P w G s v)(a:∀t x,s≠.val t x):CR P w G s [v]:=SR.one h a
theorem AEx(s:MemS P fr free σ w G){c:Sh}{v:SV}{x:c.T}(h:TK σ c v=some x)(z:CR P w G v cs)(i:(cQ σ c v).Nodup):
 ∃bs,GE P w G.im (.box c) x cs bs/\bs.Nodup/\BlksOf σ G (cQ σ c v) bs:=by
 unfold TK at h;split at h
 .rename_i k u;split at h
  .rename_i t cv hk;cases A:t.same c.ty with
   |false=>grind
   |true=>
    rw[A]at h;have h:OU σ c cv=some x:=h;have H:=Ty.same_eq A;subst H;obtain⟨b,a,el,k1,N,O,Q,R,T,U,V⟩:=s.objs _ _ hk;obtain⟨Y,t',o,B,L,_,M⟩:=z;rw[k1]at B;cases B
    have K:o=0:=by
     have:Ty.off c.ty []=some o:=L;cases J:c.ty<;>rw[J]at this<;>exact(A2 this).symm
    subst K;simp only[cQ,hk]at i ⊢;have j:=B9.1 i;obtain⟨d,W,X,D⟩:=A2E s h R j.2 Q;refine⟨b::d,⟨b,a,el,d,M,rfl,N,O,W,T.1 rfl,U,V.2⟩,B9.2 ⟨λI=>?_,X⟩,λE l=>?_⟩
    .obtain⟨C,r,Z,y,q⟩:=D b I;have:=s.sep k C _ _ b hk y (by simp[Bk,k1]) q;grind
    .rcases B2.1 l with e|e
     .grind[List.mem_cons_self,Bk]
     .obtain⟨C,r,z⟩:=D E e;grind
  .cases h
 .cases h
theorem AEy{x:SV}(hk:G.box k=some (b,t))(h:cN k x=true)(d:CR P w G x cs):cs=[.pointer none]\/cs=[.pointer (some ⟨b,0,none⟩)]:=by
 unfold cN at h;split at h
 .rename_i u y;have:=Ty.same_eq h;subst this;exact .inl d
 .have:=A3 h;subst this;obtain⟨i,j,a,e⟩:=d;grind
 .have:=A3 h;subst this;obtain⟨i,j,o,a,e,_,l⟩:=d;rw[hk]at a;cases a
  have q:o=0:=by
   cases t<;>exact(A2 e).symm
  grind
 .cases h
theorem AEz(I:MemS P fr free σ w G){c:Bool}{v:SV}{x:List Int}(h:TJ σ el v=some x)(M:CR P w G v cs)(l:(cR σ v).Nodup):
 ∃bs,GE P w G.im (.bld el c) x cs bs/\bs.Nodup/\BlksOf σ G (cR σ v) bs:=by
 unfold TJ at h;split at h
 .rename_i k u;split at h
  .rename_i t cv hk;cases N:t.same GS with
   |false=>grind
   |true=>
    rw[N]at h;simp only[A8]at h;have et:=Ty.same_eq N;subst et;split at h
    .rename_i y z;cases i:cN k y with
     |false=>rw[i]at h;cases h
     |true=>
      rw[i]at h;have h:L_ σ el (.int .u8) true z=some x:=h;obtain⟨b,a,s,k1,k2,k3,k4,k5,k6,k7,k8⟩:=I.objs _ _ hk;obtain⟨b',t',o,O,j2,_,j4⟩:=M;rw[k1]at O;cases O;have ho:o=0:=(A2 j2).symm;subst ho;obtain⟨V,W,X,Y,Z⟩:=k5;have E:=AEy k1 i Y;simp only[cR,hk]at l ⊢;have L:=B9.1 l;obtain⟨j,R,p2,T⟩:=Y3 I h Z
      have d:∃q,W=[q]:=by
       rcases R with⟨d,_⟩|⟨g,cap,K,d,_⟩
       .grind
       .grind
      obtain⟨q,rfl⟩:=d
      have r:∃p,V=[p]/\(p=.pointer none\/p=.pointer (some ⟨b,0,none⟩)):=by
       rcases E with r|r
       .grind
       .grind
      obtain⟨p,rfl,r⟩:=r;refine⟨b::j,⟨b,a,s,p,q,j,j4,rfl,k2,k8.2 rfl,X,r,k6.1 rfl,k7,?_⟩,B9.2 ⟨λhb=>?_,p2⟩,λU C=>?_⟩
      .rcases R with⟨d,A,B⟩|⟨g,cap,K,d,A,B,h3,h4,h5,h6,_,h8⟩
       .exact .inl ⟨AB.1 d,A,B⟩
       .exact .inr ⟨g,cap,K,AB.1 d,A,B,h3,h4,h5,h6 rfl,h8⟩
      .obtain⟨Q,H,o',J,D⟩:=T b hb;have:=I.sep k Q _ _ b hk J (by simp[Bk,k1]) D;grind
      .rcases B2.1 C with e|e
       .grind[List.mem_cons_self,Bk]
       .obtain⟨Q,H,M⟩:=T U e;grind
    .cases h
  .cases h
 .cases h
theorem eF(e:Ty):e.off []=some 0:=by cases e<;>rfl
theorem AF0(d:∀k o,σ k=some o->ObjOK P fr w G k o){x:t.T}(h:cO σ t s=some x)(A:SR P w G s v):
 ∃b c,v=.pointer (some ⟨b,0,none⟩)/\Row w G.im b 0 t.sz c/\Rel w G.im t x c:=by
 unfold cO at h;split at h
 .rename_i k K;obtain⟨b,J,o,i,l,_,rfl⟩:=JD A;rw[eF]at l;cases l;split at h
  .rename_i u y hk;obtain⟨z,c,k1,r,B⟩:=d _ _ hk;rw[i]at k1;cases k1;obtain⟨e,D⟩:=Ty.cast?_some h;grind
  .rename_i u c hk;cases q:u.same t with
   |false=>grind
   |true=>
    rw[q]at h;have h:c.asC σ t=some x:=h;have:=Ty.same_eq q;subst this;obtain⟨z,cs,el,k1,r,B,H,C,I,_⟩:=d _ _ hk;rw[i]at k1;cases k1;have a:=U9 d h C;refine⟨b,cs.toList,rfl,⟨a.length,λj E=>⟨oc,?_⟩⟩,a⟩;simp[World.cell?,r]
  .cases h
 .cases h
theorem A2G(l:MemS P fr free σ w G)(I:∀f sp,fs f=some sp->FI P f/\FunOK P f sp){s:Sh}{v:SV}{x:s.T}{val:Value}(h:TL fs σ s v=some x)(j:SR P w G v val)
 (q:(cS σ s v).Nodup):∃bs,UF P w G.im s x val bs/\bs.Nodup/\BlksOf σ G (cS σ s v) bs:=by
 have i:BlksOf σ G (cS σ s v) []:=λb z=>by cases z
 cases s with
 |val t=>exact⟨[],⟨K9 (λk o h=>l.objs k o h) h j,rfl⟩,B3,i⟩
 |own el t wr=>
  have h:L_ σ el t wr v=some x:=h;refine Y3 l h (j.cell λt y e=>?_);subst e;cases h
 |io el t=>
  have h:L_ σ el t true v=some x:=h;refine Y3 (wr:=true) l h (j.cell λt y e=>?_);subst e;cases h
 |omap a b=>
  have h:WQ σ a b v=some x:=h;refine A26 l h (j.cell λt y e=>?_);subst e;cases h
 |og id a b=>
  have h:WR σ id a b v=some x:=h;refine A27 l h (j.cell λt y e=>?_);subst e;cases h
 |fz t=>
  have h:WN σ t v=some x:=h;exact⟨[],⟨A2F (λk o h=>l.objs k o h) h j,rfl⟩,B3,i⟩
 |kz t=>
  have h:cO σ t v=some x:=h;obtain⟨b,c,rfl,A,B⟩:=AF0 (λk o h=>l.objs k o h) h j;exact⟨[],⟨rfl,b,c,rfl,A,B⟩,B3,i⟩
 |dp ids t=>
  have h:LD σ ids t v=some x:=h;refine A28 l h (j.cell λt y e=>?_);subst e;cases h
 |box c=>
  have h:TK σ c v=some x:=h;refine AEx l h (j.cell λt y e=>?_) q;subst e;cases h
 |pr a b=>cases h
 |hof nd d c=>
  have h:OS nd fs σ d c v=some x:=h;exact⟨[],⟨rfl,eE (D:=nd=true) (λk o h=>l.objs k o h) I (λh=>.inl h) h (j.cell λt y e=>by subst e;cases h)⟩,B3,i⟩
 |fn f=>
  have h:WS f v=some x:=h;exact⟨[],⟨rfl,A29 h (j.cell λt y e=>by subst e;cases h)⟩,B3,i⟩
 |nilS=>
  have h:WU v=some x:=h;exact⟨[],⟨rfl,A2D h (j.cell λt y e=>by subst e;cases h)⟩,B3,i⟩
 |any=>exact⟨[],rfl,B3,i⟩
 |tr s=>
  have h:A1D σ s v=some x:=h;cases v with
  |bt u c=>
   have h:(bif cM s&&u.same (.agg s.ty)then OU σ s c else none)=some x:=h;cases z:(cM s&&u.same (.agg s.ty))with
   |false=>grind
   |true=>
    rw[z]at h;have D:OU σ s c=some x:=h;simp only[A6]at z;obtain⟨cc,C,r,E,⟨a,b,J,A⟩,B,H⟩:=j;have K:val=.agg r.toArray:=AB.1 ((show cc=[val]from C).symm.trans E);obtain⟨bs,L,M,N⟩:=A2E l D H q A;exact⟨bs,⟨z.1,r,K,B,L⟩,M,N⟩
  |_=>cases h
 |bld el c=>
  have h:TJ σ el v=some x:=h;refine AEz (c:=c) l h (j.cell λt y e=>?_) q;subst e;cases h
 |nns e=>
  have h:cJ e v=some x:=h;exact⟨[],⟨rfl,A2A h (j.cell λt y e=>by subst e;cases h)⟩,B3,i⟩
 |mns e=>
  have h:cL e v=some x:=h;exact⟨[],⟨rfl,A2C h (j.cell λt y e=>by subst e;cases h)⟩,B3,i⟩
theorem Y4{a b:Sh}{r:List Sh}{v:SV}{vs:List SV}:NX fs σ (a::b::r) (v::vs)=(match TL fs σ a v,NX fs σ (b::r) vs with
 |some x,some y=>some (x,y)
 |_,_=>none):=rfl
theorem AF1(r:MemS P fr free σ w G)(D:∀f sp,fs f=some sp->FI P f/\FunOK P f sp):∀{l:List Sh} {d:List SV} {x:TupR l} {vs:List Value},NX fs σ l d=some x->
 d.length=vs.length->(∀(j:Nat) (s:SV) (v:Value),d[j]?=some s->vs[j]?=some v->SR P w G s v)->(IH σ l d).Nodup->∃bs,ShL P w G.im l x vs bs/\bs.Nodup/\BlksOf σ G (IH σ l d) bs:=by
 intro l;induction l with
 |nil=>
  intro d x vs h k _ _;cases d with
  |nil=>exact⟨[],⟨AM k.symm,rfl⟩,B3,λb H=>by cases H⟩
  |cons _ _=>cases h
 |cons a l I=>
  intro d x vs h k E e;cases d with
  |nil=>cases l<;>cases h
  |cons s d=>
   cases vs with
   |nil=>cases k
   |cons v vs=>
    have C:=E 0 s v rfl rfl;cases l with
    |nil=>
     cases d with
     |cons _ _=>cases h
     |nil=>
      have h:TL fs σ a s=some x:=h;simp only[IH,CG]at e ⊢;obtain⟨bs,t,y,z⟩:=A2G r D h C e;have:vs=[]:=AM oc;subst this;exact⟨bs,⟨v,rfl,t⟩,y,z⟩
    |cons b l=>
     rw[Y4]at h;split at h
     .rename_i O Q o q;have h:=A2 h;subst h;rw[IH]at e ⊢;have i:=BD.1 e;obtain⟨A,t,y,z⟩:=A2G r D o C i.1;obtain⟨B,J,K,L⟩:=I q (by simpa using k) (λj s v o q=>E (j+1) s v (by simpa using o) (by simpa using q)) i.2.1;obtain⟨M,N⟩:=z.append r L y K e;exact⟨A++B,⟨v,vs,A,B,rfl,rfl,t,J⟩,M,N⟩
     .cases h
theorem PZ:∀{l:List Nat},FE k l=true↔k∈l:=by
 intro l;induction l<;>simp_all[FE,BK,B2,A3,id,DC]
theorem A2H:∀{l:List Nat},MY l=true->l.Nodup:=by
 intro l;induction l with
 |nil=>simp
 |cons k r i=>
  intro h;simp only[MY,A6]at h;grind[List.nodup_cons,hk,PZ]
theorem P_(e:MemS P fr free σ w G)(b:∀f sp,fs f=some sp->FI P f/\FunOK P f sp){l:List Sh}{a:List SV}{x:TupR l}(h:KJ fs σ l a=some x)
 (d:a.length=vs.length)(i:∀(j:Nat) (s:SV) (v:Value),a[j]?=some s->vs[j]?=some v->SR P w G s v):∃bs,ShL P w G.im l x vs bs/\bs.Nodup/\BlksOf σ G (IH σ l a) bs:=by
 grind[KJ,MY,IH,AF1,A2H]
theorem GI(σ:SSo)(a b:List (Nat×Option Obj)):EN σ (a++b)=EN (EN σ b) a:=by
 induction a<;>simp_all[List.cons_append,EN]
theorem FP(σ:Nat→Option Obj)(k:Nat)(o:Option Obj)(j:Nat):EN σ [(k,o)] j=if j=k then o else σ j:=by
 simp_all[EN,DC,if_neg,Nat.beq,BX,A3]
theorem RT:∀(s:Sh) (x:s.T) (n:Nat),(FG s x n).nx=n+s.cnt:=by
 intro s;induction s<;>grind[FG,Sh.cnt]
theorem MemS.add(s:MemS P fr free σ w G)(hk:free k){o:Obj}(l:G'.im=G.im)
 (H:∀j,j≠k->G'.box j=G.box j/\G'.ety j=G.ety j/\∀g,G'.val j g=G.val j g)
 (K:GLe w G w G'->ObjOK P fr w G' k o)(I:∀b,Bk G' k o b->∀j d,σ j=some d->¬Bk G j d b):
 GLe w G w G'/\MemS P fr (λj=>free j/\j≠k) (EN σ [(k,some o)]) w G':=by
 have J:=s.fresh k hk
 have q:GLe w G w G':=by
  refine⟨l▸Ext.refl _ _,λj g v h=>?_,λj t h=>?_,λj b h=>?_⟩
  .grind
  .grind
  .grind
 have a:∀j d,σ j=some d->∀{b},Bk G' j d b<->Bk G j d b:=λj d h=>GT (s.objs j d h) q;refine⟨q,λj d h=>?_,λi j C D b z r x y=>?_,l▸s.after,λj r=>?_⟩
 .rw[FP]at h;by_cases e:j=k
  .grind
  .rw[if_neg e]at h;exact(s.objs j d h).keep q λb _=>⟨rfl,λ_ h=>l▸h,λh=>l▸h⟩
 .rw[FP]at z r;by_cases A:i=k<;>by_cases B:j=k
  .rw[A,B]
  .grind
  .grind
  .rw[if_neg A]at z;rw[if_neg B]at r;rw[a i C z]at x;rw[a j D r]at y;exact s.sep i j C D b z r x y
 .have E:=s.fresh j r.1;simp_all[FP,if_neg,trans]
theorem MemS.ghost(d:MemS P fr free σ w G)(hk:free k)(v:Value):
 GLe w G w (G.addVal k 0 v)/\MemS P fr (λj=>free j/\j≠k) σ w (G.addVal k 0 v):=by
 have A:=d.fresh k hk
 have a:GLe w G w (G.addVal k 0 v):=by
  refine⟨Ext.refl _ _,λj g u h=>?_,λj t h=>h,λj b h=>h⟩;have:j≠k:=λe=>oc
  simp only[Gh.addVal,this,DM,CL];exact h
 refine⟨a,λj o h=>(d.objs j o h).keep a λb _=>⟨rfl,λ_ h=>h,λh=>h⟩,λi j x y b s r l q=>?_,d.after,λj r=>?_⟩
 .rw[GT (d.objs i x s) a]at l;rw[GT (d.objs j y r) a]at q;exact d.sep i j x y b s r l q
 .have z:=d.fresh j r.1;simp_all[Gh.addVal,DM,CL]
structure Made(P:Program)(fr:Fr)(free:Nat->Prop)(σ:SSo)(w:World)(G:Gh)(n m:Nat)(obs:List (Nat×Option Obj))(bs:List Nat)(G':Gh):Prop where
 le:GLe w G w G'
 im:G'.im=G.im
 mem:MemS P fr (λj=>free j/\¬(n<=j/\j<m)) (EN σ obs) w G'
 own:∀j o b,EN σ obs j=some o->Bk G' j o b->b∈bs\/∃j' o',σ j'=some o'/\Bk G j' o' b
theorem Made.none(e:MemS P fr free σ w G):Made P fr free σ w G n n [] bs G:=
 ⟨GLe.refl _ _,rfl,e.shrink λ_ h=>h.1,λj o b a d=>.inr ⟨j,o,a,d⟩⟩
theorem eG{x:List t.T}(C:MemS P fr free σ w G)(h:GE P w G.im (.own el t wr) x cs bs)
 (y:∀b∈bs,fr.owned b/\∀j o,σ j=some o->¬Bk G j o b)(l:∀k,n<=k->k<n+(Sh.own el t wr).cnt->free k):
 ∃G',Made P fr free σ w G n (n+(Sh.own el t wr).cnt) (FG (.own el t wr) x n).obs bs G'/\CR P w G' (FG (.own el t wr) x n).sv cs/\Fit (FG (.own el t wr) x n).sv (Sh.own el t wr).ty:=by
 have M:=l n (AH _) (by simp[Sh.cnt])
 have O:∃v,cs=[v]/\v.oneCell'=true/\SlOK fr w G.im el t x wr v/\∀b cap len,v=.slice (some ⟨b,0,none⟩) len cap->b∈bs:=by
  rcases h with⟨rfl,q,A⟩|⟨b,cap,d,rfl,rfl,q,A,E,H,I,J,K⟩
  .exact⟨_,rfl,rfl,.inl ⟨rfl,q⟩,λb cap len e=>by cases e⟩
  .exact⟨_,rfl,rfl,.inr ⟨b,cap,d,rfl,q,A,E,H,(y b oe).1,I,J,K⟩,λD cap len e=>by cases e;simp⟩
 obtain⟨v,rfl,B,z,Q⟩:=O;let G':Gh:=(G.addVal n 0 v).addEty n t
 have i:G'.val n 0=some v:=by simp[G',Gh.addVal,Gh.addEty]
 have s:∀b,Bk G' n (.sl el t x 0 wr) b->b∈bs:=by
  intro b r;simp only[Bk,i]at r;rcases z with⟨rfl,_⟩|⟨D,cap,d,rfl,_⟩
  .cases r
  .grind
 obtain⟨q,A⟩:=C.add (G':=G') (o:=.sl el t x 0 wr) M rfl (λj a=>⟨rfl,by simp[G',Gh.addVal,Gh.addEty,a],λg=>by simp[G',Gh.addVal,Gh.addEty,a]⟩)
  (λL=>⟨by simp[G',Gh.addVal,Gh.addEty],v,i,z⟩) (λb r j o N=>(y b (s b r)).2 j o N)
 refine⟨G',⟨q,rfl,A.shrink λj a=>⟨a.1,λe=>a.2 (by subst e;simp[Sh.cnt])⟩,λj o b a r=>?_⟩,⟨v,i,B,rfl⟩,rfl⟩;have a:EN σ [(n,some (.sl el t x 0 wr))] j=some o:=a;rw[FP]at a;by_cases e:j=n
 .grind
 .rw[if_neg e]at a;exact .inr ⟨j,o,a,by rw[<-GT (C.objs j o a) q];exact r⟩
theorem AF2{a b:Ty}{x:List (a.T×b.T)}(B:MemS P fr free σ w G)(h:GE P w G.im (.omap a b) x cs bs)
 (y:∀b∈bs,fr.owned b/\∀j o,σ j=some o->¬Bk G j o b)(q:∀k,n<=k->k<n+1->free k):
 ∃G',Made P fr free σ w G n (n+1) (FG (.omap a b) x n).obs bs G'/\CR P w G' (FG (.omap a b) x n).sv cs/\Fit (FG (.omap a b) x n).sv (Sh.omap a b).ty:=by
 have L:=q n (AH _) oa;obtain⟨r,s,l,rfl,rfl,C,D,E,H,I⟩:=h;let G':Gh:=G.addVal n 0 (.map (some r))
 have i:G'.val n 0=some (.map (some r)):=by simp[G',Gh.addVal]
 have A:∀c,Bk G' n (.mp a b x true) c->c=r:=by
  intro c t;simp only[Bk,i,AO]at t;exact t.symm
 have v:=y r oe
 obtain⟨z,J⟩:=B.add (G':=G') (o:=.mp a b x true) L rfl (λj d=>⟨rfl,rfl,λg=>by simp[G',Gh.addVal,d]⟩)
  (λK=>⟨_,i,r,s,l,rfl,C,D,E,⟨λ_=>H,λh=>ol⟩,I,v.1⟩) (λc t j o M=>oc)
 refine⟨G',⟨z,rfl,J.shrink λj d=>⟨d.1,λe=>d.2 (by subst e;omega)⟩,λj o c d t=>?_⟩,⟨_,i,rfl,rfl⟩,rfl⟩;have d:EN σ [(n,some (.mp a b x true))] j=some o:=d;rw[FP]at d;by_cases e:j=n
 .grind
 .rw[if_neg e]at d;exact .inr ⟨j,o,d,by rw[<-GT (B.objs j o d) z];exact t⟩
theorem AF3{a b:Ty}{x:List (a.T×List b.T)}(H:MemS P fr free σ w G)(h:GE P w G.im (.og id a b) x cs bs)(I:bs.Nodup)
 (z:∀b∈bs,fr.owned b/\∀j o,σ j=some o->¬Bk G j o b)(l:∀k,n<=k->k<n+2->free k):
 ∃G',Made P fr free σ w G n (n+2) (FG (.og id a b) x n).obs bs G'/\CR P w G' (FG (.og id a b) x n).sv cs/\Fit (FG (.og id a b) x n).sv (Sh.og id a b).ty:=by
 obtain⟨A,q,t,us,rfl,rfl,R,T,U,N,V,W,X⟩:=h
 have C:∀u∈us,∃v,u=HO v:=by
  intro u hu;obtain⟨i,O⟩:=C6 hu;have x1:i<us.length:=(A9.1 O).1;obtain⟨y,hy⟩:∃y,(show List (a.T×List b.T)from x)[i]?=some y:=⟨_,A1 oa⟩;obtain⟨e,he⟩:∃e,q[i]?=some e:=⟨_,B7 oa⟩;exact⟨_,(N i y e u hy he O).2.2⟩
 obtain⟨B,K⟩:=H.ghost (l (n+1) oa oa) (.tuple us.toArray);let G1:Gh:=G.addVal (n+1) 0 (.tuple us.toArray)
 have K:MemS P fr (λj=>free j/\j≠n+1) σ w G1:=K;have B:GLe w G w G1:=B;let G':Gh:=G1.addVal n 0 (.map (some A))
 have s:G'.val n 0=some (.map (some A)):=by simp[G',Gh.addVal]
 have J:G'.val (n+1) 0=some (.tuple us.toArray):=by simp[G',G1,Gh.addVal]
 have h0:G'.im=G.im:=rfl
 have D:∀c,Bk G' n (.mg id a b x none (n+1)) c->c∈A::us.filterMap O4:=by
  intro c r;rcases r with r|⟨x2,E,r⟩
  .grind
  .grind[List.mem_cons_of_mem,UE]
 obtain⟨E,Y⟩:=K.add (G':=G') (o:=.mg id a b x none (n+1)) (k:=n) ⟨l n (AH _) oa,oa⟩ rfl (λj d=>⟨rfl,rfl,λg=>by simp[G',Gh.addVal,d]⟩)
  (λx0=>⟨_,us.toArray,s,J,A,q,t,rfl,R,T,by simpa using U,λi y e u L M q3=>by
   obtain⟨r1,r2,r3⟩:=N i y e u L M (by simpa using q3);refine⟨r1,.inr ⟨r2.own λc r=>(z c (AP _ ((UE C).2 ?_))).1,r3⟩⟩;grind,λi j c L M=>AEq C (B9.1 I).2 (by simpa using L) (by simpa using M),V,W,X,(z A AL).1⟩)
  (λc r j o Q Z=>(z c (D c r)).2 j o Q (by rw[<-GT (H.objs j o Q) B];exact Z))
 refine⟨G',⟨B.trans E,rfl,Y.shrink λj d=>⟨⟨d.1,λe=>d.2 (by subst e;omega)⟩,λe=>d.2 (by subst e;omega)⟩,λj o c d r=>?_⟩,⟨_,s,rfl,rfl⟩,rfl⟩;have d:EN σ [(n,some (.mg id a b x none (n+1)))] j=some o:=d;rw[FP]at d;by_cases e:j=n
 .grind
 .rw[if_neg e]at d;exact .inr ⟨j,o,d,by rw[<-GT (H.objs j o d) (B.trans E)];exact r⟩
theorem A2I{x:(E7 ids t).T}(E:MemS P fr free σ w G)(h:GE P w G.im (.dp ids t) x cs bs)(H:bs.Nodup)
 (y:∀b∈bs,fr.owned b/\∀j o,σ j=some o->¬Bk G j o b)(d:∀k,n<=k->k<n+2->free k):
 ∃G',Made P fr free σ w G n (n+2) (FG (.dp ids t) x n).obs bs G'/\CR P w G' (FG (.dp ids t) x n).sv cs/\Fit (FG (.dp ids t) x n).sv (Sh.dp ids t).ty:=by
 obtain⟨O,B⟩:=h;cases ids with
 |nil=>grind
 |cons id r=>
  have B:=B.own (ow':=fr.owned) λb C=>(y b C).1;have D:=B;obtain⟨v,rfl,I,_⟩:=D;obtain⟨l,J⟩:=E.ghost (d (n+1) oa oa) (.tuple (List.map I8 bs).toArray);let G1:Gh:=G.addVal (n+1) 0 (.tuple (List.map I8 bs).toArray)
  have J:MemS P fr (λj=>free j/\j≠n+1) σ w G1:=J;have l:GLe w G w G1:=l;let G':Gh:=(G1.addVal n 0 v).addEty n (E7 r t)
  have i:G'.val n 0=some v:=by simp[G',Gh.addVal,Gh.addEty]
  have A:G'.val (n+1) 0=some (.tuple (List.map I8 bs).toArray):=by simp[G',G1,Gh.addVal,Gh.addEty]
  have M:G'.im=G.im:=rfl
  have s:∀c,Bk G' n (.dp (id::r) t x (n+1) none true) c->c∈bs:=by
   rintro c ⟨_,Q,q,z⟩;rw[A]at q;cases q;exact(M3 (bs:=bs) oe).1 z
  obtain⟨q,L⟩:=J.add (G':=G') (o:=.dp (id::r) t x (n+1) none true) (k:=n) ⟨d n (AH _) oa,oa⟩ rfl (λj a=>⟨rfl,by simp[G',Gh.addVal,Gh.addEty,a],λg=>by simp[G',Gh.addVal,Gh.addEty,a]⟩)
   (λN=>⟨oq,by simp[G',Gh.addVal,Gh.addEty],v,_,bs,i,A,oe,H,B,trivial⟩)
   (λc z j o K C=>(y c (s c z)).2 j o K (by rw[<-GT (E.objs j o K) l];exact C))
  refine⟨G',⟨l.trans q,rfl,L.shrink λj a=>⟨⟨a.1,λe=>a.2 (by subst e;omega)⟩,λe=>a.2 (by subst e;omega)⟩,λj o c a z=>?_⟩,⟨_,i,I,rfl⟩,rfl⟩;have a:EN σ [(n,some (.dp (id::r) t x (n+1) none true))] j=some o:=a;rw[FP]at a;by_cases e:j=n
  .grind
  .rw[if_neg e]at a;exact .inr ⟨j,o,a,by rw[<-GT (E.objs j o a) (l.trans q)];exact z⟩
theorem KP:∀{s:Sh} {x:s.T} {n:Nat} {free:Nat->Prop} {σ:SSo} {G:Gh} {cs:List Value} {bs:List Nat},MemS P fr free σ w G->GE P w G.im s x cs bs->bs.Nodup->
 (∀b∈bs,fr.owned b/\∀j o,σ j=some o->¬Bk G j o b)->(∀k,n<=k->k<n+s.cnt->free k)->
 ∃G',Made P fr free σ w G n (n+s.cnt) (FG s x n).obs bs G'/\CR P w G' (FG s x n).sv cs/\Fit (FG s x n).sv s.ty:=by
 intro s;induction s with
 |val t=>
  intro x n free σ G cs bs y h _ _ _;exact⟨G,Made.none y,h.1,rfl⟩
 |hof d c=>
  intro x n free σ G cs bs y h _ _ _;exact⟨G,Made.none y,h.2,rfl⟩
 |fn f=>
  intro x n free σ G cs bs y h _ _ _;exact⟨G,Made.none y,⟨#[],h.2,rfl⟩,rfl⟩
 |nilS=>
  intro x n free σ G cs bs y h _ _ _;exact⟨G,Made.none y,h.2,rfl⟩
 |nns e=>
  intro x n free σ G cs bs y h _ _ _;exact⟨G,Made.none y,h.2,rfl⟩
 |mns e=>
  intro x n free σ G cs bs y h _ _ _;exact⟨G,Made.none y,h.2,rfl⟩
 |any=>
  intro x n free σ G cs bs y h _ _ _;exact absurd h id
 |tr s _=>
  intro x n free σ G cs bs y h _ _ _;exact absurd h id
 |bld el c=>
  intro x n free σ G cs bs y h C l i;obtain⟨b,B,h0,p,q,W,rfl,rfl,E,J,H,hp,V,h5,h6⟩:=h;have D:=B9.1 C
  have Z:GE P w G.im (.own el (.int .u8) true) x [q] W:=by
   rcases h6 with⟨rfl,k1,k2⟩|⟨g,cap,gc,rfl,k1,k2,k3,k4,k5,k6,k7⟩
   .exact .inl ⟨rfl,k1,k2⟩
   .exact .inr ⟨g,cap,gc,rfl,k1,k2,k3,k4,k5,(λ_=>k6),(λh=>ol),k7⟩
  obtain⟨G1,z,r1,X⟩:=eG (n:=n+1) y Z (λb A=>l b (AP _ A)) (λk E H=>i k oa (by assumption));let G2:Gh:=G1.addBox n b GS
  have v:G2.box n=some (b,GS):=by simp[G2,Gh.addBox]
  have N:=l b AL;have Q:G2.im=G.im:=z.im;have h8:B.size=2:=by rw[<-BF,H];rfl
  obtain⟨M,q2⟩:=z.mem.add (G':=G2) (o:=.box GS (.pr (.slf n) (.obj (n+1) 0)) true) (k:=n) ⟨i n (AH _) (by simp[Sh.cnt]),oa⟩ rfl
   (λj r=>⟨by simp[G2,Gh.addBox,r],rfl,λ_=>rfl⟩)
   (λR=>⟨b,B,h0,v,E,h8,⟨_,_,rfl,rfl,X⟩,⟨[p],[q],H,⟨b,GS,v,by rcases hp with rfl|rfl<;>simp⟩,r1.mono R⟩,⟨λ_ o=>oc,λh=>ol⟩,oc,N.1,λ_=>J⟩)
   (λK I j o Y O=>by
    simp only[Bk,v,BH,AO]at I;subst I;rcases z.own j o b Y O with h|⟨j',o',U,V⟩<;>grind)
  have T:(FG (.bld el c) x n).obs=[(n,some (.box GS (.pr (.slf n) (.obj (n+1) 0)) true))]++(FG (.own el (.int .u8) true) x (n+1)).obs:=rfl;have L:(Sh.own el (.int .u8) true).cnt=1:=rfl;rw[L]at z;rw[L]at q2;refine⟨G2,⟨z.le.trans M,Q,?_,?_⟩,⟨b,GS,0,v,rfl,⟨GS,rfl,rfl⟩,rfl⟩,rfl⟩
  .grind[GI,Sh.cnt]
  .intro j o K r A;rw[T,GI,FP]at r;by_cases e:j=n
   .rw[if_pos e]at r;cases r;simp_all[Bk,BH,AO,AL]
   .rw[if_neg e]at r;rw[GT (z.mem.objs j o r) M]at A;rcases z.own j o K r A with h|h<;>grind
 |own el t wr=>
  intro x n free σ G cs bs y h _ l i;exact eG y h l i
 |io el t=>
  intro x n free σ G cs bs y h _ l i;exact eG (wr:=true) y h l i
 |omap a b=>
  intro x n free σ G cs bs y h _ l i;exact AF2 y h l i
 |og id a b=>
  intro x n free σ G cs bs y h C l i;exact AF3 y h C l i
 |fz t=>
  intro x n free σ G cs bs y h _ _ _;exact⟨G,Made.none y,h.1,rfl⟩
 |kz t=>
  intro x n free σ G cs bs y h _ l i;obtain⟨rfl,b,c,rfl,E,H⟩:=h;let G':Gh:=G.addBox n b t
  have v:G'.box n=some (b,t):=by simp[G',Gh.addBox]
  obtain⟨M,q2⟩:=y.add (G':=G') (k:=n) (o:=.kv t x) (i n (AH _) (by simp[Sh.cnt])) rfl
   (λj r=>⟨by simp[G',Gh.addBox,r],rfl,λg=>rfl⟩) (λ_=>⟨b,c,v,E,H⟩) (λb A=>A.elim)
  refine⟨G',⟨M,rfl,q2.shrink λj r=>⟨r.1,λe=>r.2 (by subst e;simp[Sh.cnt])⟩,λj o K r A=>?_⟩,⟨b,t,0,v,by cases t<;>rfl,⟨t,by cases t<;>rfl,rfl⟩,rfl⟩,rfl⟩;have r:EN σ [(n,some (.kv t x))] j=some o:=r;rw[FP]at r;by_cases e:j=n
  .rw[if_pos e]at r;cases r;subst e;exact A.elim
  .rw[if_neg e]at r;exact .inr ⟨j,o,r,by rw[<-GT (y.objs j o r) M];exact A⟩
 |dp ids t=>
  intro x n free σ G cs bs y h C l i;exact A2I y h C l i
 |pr a b h9 x0=>
  intro x n free σ G cs bs y h C l i;obtain⟨c,d,x1,x2,rfl,rfl,E,H⟩:=h;have D:=BD.1 C;obtain⟨G1,z,r1,X⟩:=x0 (n:=n+a.cnt) y H D.2.1 (λb A=>l b (BZ _ A)) (λk E H=>i k oa (by simp only[Sh.cnt];omega))
  obtain ⟨G2,m2,r2,f2⟩:=h9 (n:=n) (cs:=c) z.mem (by rw [z.im]; exact E) D.1 (λb A=>⟨(l b (CH _ A)).1,λj o Y h7=>by
   rcases z.own j o b Y h7 with h|⟨j',o',U,V⟩<;>grind⟩) (λk E H=>⟨i k E (by simp only[Sh.cnt];omega),oa⟩)
  have T:(FG (.pr a b) x n).obs=(FG a x.1 n).obs++(FG b x.2 (n+a.cnt)).obs:=by
   show(FG a x.1 n).obs++(FG b x.2 (FG a x.1 n).nx).obs=_;rw[RT]
  have e2:(FG (.pr a b) x n).sv=.pr (FG a x.1 n).sv (FG b x.2 (n+a.cnt)).sv:=by
   show SV.pr (FG a x.1 n).sv (FG b x.2 (FG a x.1 n).nx).sv=_;rw[RT]
  refine⟨G2,⟨z.le.trans m2.le,m2.im.trans z.im,?_,?_⟩,?_,?_⟩
  .rw[T,GI];refine m2.mem.shrink λj r=>⟨⟨r.1,λe=>r.2 ⟨oa,by simp only[Sh.cnt];omega⟩⟩,λe=>r.2 ⟨e.1,by simp only[Sh.cnt];omega⟩⟩
  .intro j o K r A;rw[T,GI]at r;rcases m2.own j o K r A with h|⟨j',o',U,V⟩
   .grind
   .rcases z.own j' o' K U V with h|h<;>grind
  .rw[e2];exact⟨c,d,rfl,r2,r1.mono m2.le⟩
  .rw[e2];exact⟨a.ty,b.ty,rfl,f2,X⟩
 |box c ih=>
  intro x n free σ G cs bs y h C l i;obtain⟨b,B,el,W,rfl,rfl,E,H,U,V,h5,J⟩:=h;have D:=B9.1 C;obtain⟨G1,z,r1,X⟩:=ih (n:=n+1) y U D.2 (λb A=>l b (AP _ A)) (λk E H=>i k oa (by simp only[Sh.cnt];omega));let G2:Gh:=G1.addBox n b c.ty
  have v:G2.box n=some (b,c.ty):=by simp[G2,Gh.addBox]
  have N:=l b AL;have Q:G2.im=G.im:=z.im
  obtain⟨M,q2⟩:=z.mem.add (G':=G2) (o:=.box c.ty (FG c x (n+1)).sv true) (k:=n) ⟨i n (AH _) (by simp[Sh.cnt]),oa⟩ rfl
   (λj r=>⟨by simp[G2,Gh.addBox,r],rfl,λ_=>rfl⟩)
   (λR=>⟨b,B,el,v,E,H,X,r1.mono R,⟨λ_ o=>oc,λh=>ol⟩,oc,N.1,J⟩)
   (λK I j o Y O=>by
    simp only[Bk,v,BH,AO]at I;subst I;rcases z.own j o b Y O with h|⟨j',o',U,V⟩<;>grind)
  have T:(FG (.box c) x n).obs=[(n,some (.box c.ty (FG c x (n+1)).sv true))]++(FG c x (n+1)).obs:=rfl;refine⟨G2,⟨z.le.trans M,Q,?_,?_⟩,⟨b,c.ty,0,v,by cases c.ty<;>rfl,⟨c.ty,by cases c.ty<;>rfl,rfl⟩,rfl⟩,rfl⟩
  .grind[GI,Sh.cnt]
  .intro j o K r A;rw[T,GI,FP]at r;by_cases e:j=n
   .rw[if_pos e]at r;cases r;simp_all[Bk,BH,AO,AL]
   .rw[if_neg e]at r;rw[GT (z.mem.objs j o r) M]at A;rcases z.own j o K r A with h|h<;>grind
theorem A2J{s:Sh}{x:s.T}(z:MemS P fr free σ w G)(h:UF P w G.im s x v bs)(r:bs.Nodup)
 (q:∀b∈bs,fr.owned b/\∀j o,σ j=some o->¬Bk G j o b)(i:∀k,n<=k->k<n+s.cnt->free k):
 ∃G',Made P fr free σ w G n (n+s.cnt) (FG s x n).obs bs G'/\SR P w G' (FG s x n).sv v:=by
 cases s with
 |val t=>
  obtain⟨l,rfl⟩:=h;exact⟨G,Made.none z,l⟩
 |fz t=>
  obtain⟨l,rfl⟩:=h;exact⟨G,Made.none z,l⟩
 |kz t=>
  obtain⟨G',l,y,_⟩:=KP (s:=.kz t) z h r q i;exact⟨G',l,[v],rfl,y⟩
 |pr a b=>exact absurd h id
 |own el t wr=>
  obtain⟨G',l,y,_⟩:=KP (s:=.own el t wr) z h r q i;exact⟨G',l,[v],rfl,y⟩
 |io el t=>
  obtain⟨G',l,y,_⟩:=KP (s:=.io el t) z h r q i;exact⟨G',l,[v],rfl,y⟩
 |omap a b=>
  obtain⟨G',l,y,_⟩:=KP (s:=.omap a b) z h r q i;exact⟨G',l,[v],rfl,y⟩
 |og id a b=>
  obtain⟨G',l,y,_⟩:=KP (s:=.og id a b) z h r q i;exact⟨G',l,[v],rfl,y⟩
 |dp ids t=>
  obtain⟨G',l,y,_⟩:=KP (s:=.dp ids t) z h r q i;exact⟨G',l,[v],rfl,y⟩
 |box c=>
  obtain⟨G',l,y,_⟩:=KP (s:=.box c) z h r q i;exact⟨G',l,[v],rfl,y⟩
 |hof nd d c=>
  obtain⟨G',l,y,_⟩:=KP (s:=.hof nd d c) z h r q i;exact⟨G',l,[v],rfl,y⟩
 |fn f=>
  obtain⟨G',l,y,_⟩:=KP (s:=.fn f) z h r q i;exact⟨G',l,[v],rfl,y⟩
 |nilS=>
  obtain⟨G',l,y,_⟩:=KP (s:=.nilS) z h r q i;exact⟨G',l,[v],rfl,y⟩
 |nns e=>
  obtain⟨G',l,y,_⟩:=KP (s:=.nns e) z h r q i;exact⟨G',l,[v],rfl,y⟩
 |mns e=>
  obtain⟨G',l,y,_⟩:=KP (s:=.mns e) z h r q i;exact⟨G',l,[v],rfl,y⟩
 |any=>exact⟨G,Made.none z,[v],rfl,trivial⟩
 |tr s=>
  obtain⟨C,cs,rfl,A,h⟩:=h;obtain⟨G',l,y,B⟩:=KP (s:=s) (x:=x) (n:=n) z h r q i;cases s<;>first|(cases C;done)|skip
  rename_i a b;exact⟨G',l,_,rfl,cs,rfl,⟨a.ty,b.ty,rfl,B⟩,A,y⟩
 |bld el c=>
  obtain⟨G',l,y,_⟩:=KP (s:=.bld el c) z h r q i;exact⟨G',l,[v],rfl,y⟩
theorem Y5:∀{l:List Sh} {x:TupR l} {n:Nat} {free:Nat->Prop} {vs:List Value} {bs:List Nat},MemS P fr free σ w G->ShL P w G.im l x vs bs->bs.Nodup->
 (∀b∈bs,fr.owned b/\∀j o,σ j=some o->¬Bk G j o b)->(∀k,n<=k->k<n+GF l->free k)->
 ∃G',Made P fr free σ w G n (n+GF l) ((FB l x n).flatMap (·.obs)) bs G'/\vs.length=l.length/\(FB l x n).length=l.length/\
  ∀(j:Nat) (m:Mk) (v:Value),(FB l x n)[j]?=some m->vs[j]?=some v->SR P w G' m.sv v:=by
 intro l;induction l with
 |nil=>
  intro x n free vs bs D h _ _ _;obtain⟨rfl,rfl⟩:=h;exact⟨G,Made.none D,rfl,rfl,λj m v h=>by simp[FB]at h⟩
 |cons a l U=>
  intro x n free vs bs D h A s d;cases l with
  |nil=>
   obtain⟨v,rfl,q⟩:=h;obtain⟨G',t,E⟩:=A2J (n:=n) D q A s (λk q t=>d k q (by assumption));refine⟨G',?_,rfl,rfl,λj m O i L=>?_⟩
   .have C:(FB [a] x n).flatMap (·.obs)=(FG a x n).obs:=by
     show([FG a x n]:List Mk).flatMap (·.obs)=_;simp
    rw[C];exact t
   .cases j with
    |zero=>cases i;grind
    |succ j=>cases i
  |cons b l=>
   obtain⟨v,X,Q,R,rfl,rfl,q,t⟩:=h;have r:=BD.1 A;obtain⟨G1,y,V,Y,W⟩:=U (x:=x.2) (n:=n+a.cnt) D t r.2.1 (λb z=>s b (BZ _ z)) (λk q t=>d k oa (by grind[GF]))
   obtain ⟨G2,B,Z⟩:=A2J (s:=a) (x:=x.1) (n:=n) (v:=v) y.mem (by rw [y.im]; exact q) r.1 (λb z=>⟨(s b (CH _ z)).1,λj o T H=>by
    rcases y.own j o b T H with h|⟨M,N,E,K⟩<;>grind⟩) (λk q t=>⟨d k q (by simp only[GF];omega),oa⟩)
   have J:FB (a::b::l) x n=FG a x.1 n::FB (b::l) x.2 (n+a.cnt):=by
    show FG a x.1 n::FB (b::l) x.2 (FG a x.1 n).nx=_;rw[RT]
   have C:(FB (a::b::l) x n).flatMap (·.obs)=(FG a x.1 n).obs++(FB (b::l) x.2 (n+a.cnt)).flatMap (·.obs):=by
    rw[J,List.flatMap_cons]
   refine⟨G2,⟨y.le.trans B.le,B.im.trans y.im,?_,?_⟩,by simp[V],oc,λj m O i L=>?_⟩
   .rw[C,GI];exact B.mem.shrink λj i=>⟨⟨i.1,λe=>i.2 ⟨oa,by grind[GF]⟩⟩,λe=>i.2 ⟨e.1,by simp only[GF];omega⟩⟩
   .intro j o I i z;rw[C,GI]at i;rcases B.own j o I i z with h|⟨M,N,E,K⟩
    .grind
    .rcases y.own M N I E K with h|h<;>grind
   .rw[J]at i;cases j with
    |zero=>grind
    |succ j=>exact(W j m O (by simpa using i) (by simpa using L)).mono B.le
end
def N7:(a b:List Sh)->TupR (a++b)->TupR a×TupR b
 |[],_,x=>((),x)
 |[_],[],x=>(x,())
 |[_],_::_,x=>(x.1,x.2)
 |_::s::a,b,x=>((x.1,(N7 (s::a) b x.2).1),(N7 (s::a) b x.2).2)
section
variable{P:Program}{fr:Fr}{free free':Nat->Prop}{self:Nat}{σ σ':SSo}{w w':World}{G G':Gh}{I:Im}
theorem ShL.split:∀{a b:List Sh} {x:TupR (a++b)} {vs us:List Value} {bs:List Nat},vs.length=a.length->ShL P w I (a++b) x (vs++us) bs->
 ∃k l,bs=k++l/\ShL P w I a (N7 a b x).1 vs k/\ShL P w I b (N7 a b x).2 us l:=by
 intro a;induction a with
 |nil=>
  intro b x vs us bs o h;have:vs=[]:=AM o;subst this;exact⟨[],bs,rfl,⟨rfl,rfl⟩,h⟩
 |cons s a D=>
  intro b x vs us bs o h;cases vs with
  |nil=>cases o
  |cons v vs=>
   cases a with
   |nil=>
    have:vs=[]:=AM (by simpa using o);subst this;cases b with
    |nil=>
     obtain⟨j,d,e⟩:=h
     have q:us=[]/\v=j:=by
      have:v::us=[j]:=d;injection this with d e;exact⟨e,d⟩
     obtain⟨rfl,rfl⟩:=q;exact⟨bs,[],oe,⟨v,rfl,e⟩,⟨rfl,rfl⟩⟩
    |cons c b=>
     obtain⟨j,i,k,l,d,e,r,t⟩:=h
     have q:us=i/\v=j:=by
      have:v::us=j::i:=d;injection this with d e;exact⟨e,d⟩
     obtain⟨rfl,rfl⟩:=q;exact⟨k,l,e,⟨v,rfl,r⟩,t⟩
   |cons E a=>
    obtain⟨j,i,k,l,d,e,r,t⟩:=h
    have q:vs++us=i/\v=j:=by
     have:v::(vs++us)=j::i:=d;injection this with d e;exact⟨e,d⟩
    obtain⟨rfl,rfl⟩:=q;obtain⟨y,z,A,B,C⟩:=D (by simpa using o) t;exact⟨k++y,z,by rw[e,A,CF],⟨v,vs,k,y,rfl,rfl,r,B⟩,C⟩
theorem Y6:∀{a b:List Sh} {x:TupR (a++b)} {n:Nat},FB (a++b) x n=FB a (N7 a b x).1 n++FB b (N7 a b x).2 (n+GF a):=by
 intro a;induction a with
 |nil=>intro b x n;rfl
 |cons s a i=>
  intro b x n;cases a with
  |nil=>
   cases b with
   |nil=>rfl
   |cons c b=>
    show FG s x.1 n::FB (c::b) x.2 (FG s x.1 n).nx=[FG s x.1 n]++FB (c::b) x.2 (n+(s.cnt+0));rw[RT];rfl
  |cons d a=>
   show FG s x.1 n::FB (d::a++b) x.2 (FG s x.1 n).nx=(FG s x.1 n::FB (d::a) _ (FG s x.1 n).nx)++FB b _ (n+(s.cnt+GF (d::a)));rw[RT,i,<-C_];rfl
theorem LH{j:Nat}:EN σ (gone ks) j=if j∈ks then none else σ j:=by
 induction ks with
 |nil=>rfl
 |cons k ks i=>
  simp only[gone,EN,B2];by_cases h:j=k<;>simp_all
theorem O6{o:Obj}(h:ObjOK P fr w G k o)(d:Bk G k o b):fr.owned b:=by
 cases o with
 |box t c wr=>
  obtain⟨y,cs,el,l,_,_,_,_,_,_,J⟩:=h;simp_all[Bk,BH,AO]
 |sl el t L g wr=>
  obtain⟨_,v,l,q⟩:=h;simp only[Bk,l]at d;rcases q with⟨rfl,_⟩|⟨y,cap,cs,rfl,_,_,_,_,i,_⟩
  .cases d
  grind
 |mp a y B wr=>
  obtain⟨v,l,A,j,e,rfl,_,_,_,_,_,i⟩:=h;grind[Bk,Option.some.injEq]
 |mg id a t B tk C=>
  obtain⟨v,us,l,q,i⟩:=h;rcases d with d|⟨z,s,d⟩
  .obtain⟨y,j,e,rfl,_,_,_,_,_,_,_,_,D⟩:=i;grind
  .rw[q]at s;cases s;obtain⟨x,K,k1,H⟩:=i.own d;exact(k1.slice H).2.1
 |dp ids t x C I wr=>
  obtain⟨rfl,z,s,d⟩:=d;cases ids with
  |nil=>exact absurd h id
  |cons id r=>
   obtain⟨_,_,v,us,bs,l,q,i,D,E⟩:=DpOK.inv h;rw[q]at s;cases s;exact(E.blk b ((M3 i).1 d)).2.1
 |kn f c=>exact d.elim
 |kv t x=>exact d.elim
theorem MemS.sub(d:MemS P fr free σ w G)(a:∀k o,σ' k=some o->σ k=some o):MemS P fr free σ' w G:=
 ⟨λk o h=>d.objs k o (a k o h),λi j o q b l e=>d.sep i j o q b (a i o l) (a j q e),d.after,λk hk=>by
  obtain⟨l,e⟩:=d.fresh k hk;refine⟨?_,e⟩;cases h:σ' k<;>grind⟩
theorem MemS.called(r:MemS P fr free σ w G)(H:BlksOf σ G ks bs)(t:After (·∈bs) w G.im w' I'):
 GLe w G w' {G with im:=I'}/\MemS P fr free (EN σ (gone ks)) w' {G with im:=I'}:=by
 have x:GLe w G w' {G with im:=I'}:=⟨t.ext,λ_ _ _ h=>h,λ_ _ h=>h,λ_ _ h=>h⟩
 have e:∀j o,EN σ (gone ks) j=some o->j ∉ ks/\σ j=some o:=by
  intro j o h;rw[LH]at h;by_cases B:j∈ks
  .grind
  .grind
 refine⟨x,λj o h=>?_,λi j o s b J K z A=>?_,?_,λj B=>?_⟩
 .obtain⟨B,y⟩:=e j o h;refine(r.objs j o y).keep x λb v=>?_;have C:=IN (r.objs j o y) v
  have D:b ∉ bs:=λl=>by
   obtain⟨k,hk,s,a,q⟩:=H b l;have:=r.sep j k o s b y a v q;grind
  refine⟨t.heap b C D,λE d=>?_,λd=>?_⟩
  .rcases t.newC b E d with h|h|h<;>grind
  .rcases t.newO b d with h|h|h<;>grind
 .obtain⟨_,y⟩:=e i o J;obtain⟨_,a⟩:=e j s K;exact r.sep i j o s b y a z A
 .refine r.after.trans t λb l=>?_;obtain⟨k,hk,s,a,q⟩:=H b l;exact(O6 (r.objs k s a) q).symm
 .have L:=r.fresh j B;grind[LH]
end
end Go.Ev
