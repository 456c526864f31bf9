/-
  The evaluator's operations, second part: slices, maps, contracts and calls.
-/
import Derived.Test.YtlljgbmoloklgaaGreatDoorE1
import Derived.Laws.Cells
import Derived.Laws.CopyRow
import Derived.Deep.AppendSrc
import Derived.Laws.MakeOwn
import Derived.Laws.Tables
import Derived.Great.BuildSlice
import Derived.Laws.BytesString
import Derived.MapKept
import Derived.Lib.ConvBytes
set_option linter.unusedVariables false
set_option linter.unusedSimpArgs false
set_option linter.unusedSectionVars false
set_option maxRecDepth 100000
namespace Go.Ev
variable [Pins]
section
variable{P:Program}{fr:Fr}{free free':Nat->Prop}{self:Nat}{σ:SSo}{w w':World}{G G':Gh}
theorem NL{b:Nat}{o:Go.Obj}(h:w.heap[b]?=some o):b<w.heap.size:=(BC.1 h).1
theorem SlOK.slice{el:Nat}{t:Ty}{xs:List t.T}{wr:Bool}{I:Im}{v:Value}(h:SlOK fr w I el t xs wr v){c:Nat}(hc:XL v=.map (some c)):
 c<w.heap.size/\fr.owned c/\∃cap cs,v=.slice (some ⟨c,0,none⟩) xs.length cap/\RowAt w c cs el:=by
 rcases h with⟨rfl,_⟩|⟨b,cap,cs,rfl,h1,h2,h3,h4,h5,_⟩
 .cases hc
 .injection hc with hc;injection hc with hc;have hc:b=c:=hc;subst hc;exact⟨h2.lt,h5,cap,cs,rfl,h2⟩
theorem SlOK.keep{el:Nat}{t:Ty}{xs:List t.T}{wr:Bool}{I I':Im}{v:Value}(h:SlOK fr w I el t xs wr v)(e:Ext w I w' I')
 (hb:∀c,XL v=.map (some c)->w'.heap[c]?=w.heap[c]? /\(∀off,I'.cell c off->I.cell c off)/\(I'.obj c->I.obj c)):SlOK fr w' I' el t xs wr v:=by
 rcases h with⟨rfl,rfl⟩|⟨b',cap,cs,rfl,h3,h4,h5,h6,h7,h8,h9,h10⟩
 .exact .inl ⟨rfl,rfl⟩
 .obtain⟨k1,k2,k3⟩:=hb b' rfl;exact .inr ⟨b',cap,cs,rfl,h3,h4.keep k1,h5,λi x hx=>(h6 i x hx).ext e,h7,λhw o ho=>h8 hw o (k2 o ho),λhw o=>⟨λho=>(e.cell _ _ ((h9 hw o).1 ho)).1,λho=>(h9 hw o).2 (k2 o ho)⟩,λho=>h10 (k3 ho)⟩
theorem TP{bss:List (List Nat)}{i b:Nat}(h:b∈bss.getD i []):b∈bss.flatten:=by
 rw[AG]at h;cases hi:bss[i]? with
 |none=>rw[hi]at h;simp at h
 |some l=>rw[hi]at h;exact List.mem_flatten.2 ⟨l,B5 hi,h⟩
theorem DV.keep{ow:Nat->Prop}{I I':Im}{t:Ty}(e:Ext w I w' I'):∀{ids:List Nat} {x:(E4 ids t).T} {h:Option (List Nat)} {cs:List Value} {bs:List Nat},DV ow w I t ids x h cs bs->
 (∀b∈bs,w'.heap[b]?=w.heap[b]? /\(∀off,I'.cell b off->I.cell b off)/\(I'.obj b->I.obj b))->DV ow w' I' t ids x h cs bs:=by
 intro ids;induction ids with
 |nil=>intro x h cs bs hd _;exact⟨hd.1,Rel.ext e hd.2⟩
 |cons id r ih=>
  intro x h cs bs hd hb;obtain⟨v,rfl,h1,h2⟩:=hd;refine⟨v,rfl,h1,?_⟩;rcases h2 with h2|h2|⟨h2,b,o,cap,cells,bss,rfl,q1,q2,q3,q4,q5,q6,q7,rfl,q9⟩
  .exact .inl h2
  .exact .inr (.inl h2)
  .obtain⟨k1,k2,k3⟩:=hb b AI
   exact .inr (.inr ⟨h2,b,o,cap,cells,bss,rfl,q1,q2.keep k1,q3,q4,λc hc=>q5 c (k2 c hc),λho=>q6 (k3 ho),q7,rfl,λi x hx =>
    ih (q9 i x hx) λb' hb'=>hb b' (AD _ (TP hb'))⟩)
theorem DV.blk{ow:Nat->Prop}{I:Im}{t:Ty}:∀{ids:List Nat} {x:(E4 ids t).T} {h:Option (List Nat)} {cs:List Value} {bs:List Nat},DV ow w I t ids x h cs bs->
 ∀b∈bs,b<w.heap.size/\ow b/\(∀c,¬I.cell b c)/\¬I.obj b:=by
 intro ids;induction ids with
 |nil=>intro x h cs bs hd b hb;rw[hd.1]at hb;cases hb
 |cons id r ih=>
  intro x h cs bs hd b hb;obtain⟨v,rfl,h1,h2⟩:=hd;rcases h2 with⟨_,rfl,_⟩|⟨_,_,_,rfl⟩|⟨h2,b0,o,cap,cells,bss,rfl,q1,q2,q3,q4,q5,q6,q7,rfl,q9⟩
  .cases hb
  .cases hb
  .rcases A_.1 hb with rfl|hb
   .exact⟨q2.lt,q4,q5,q6⟩
   .obtain⟨l,hl,hbl⟩:=List.mem_flatten.1 hb;obtain⟨i,hi⟩:=C9 hl;have hlt:i<List.length (show List (E4 r t).T from x):=by rw[<-q7];exact(A8.1 hi).1
    refine ih (q9 i _ (A0 hlt)) b ?_;rw[AG,hi];exact hbl
theorem DV.head{ow:Nat->Prop}{I:Im}{t:Ty}{id:Nat}{r:List Nat}{x:List (E4 r t).T}{h:Option (List Nat)}{cs:List Value}{bs:List Nat}(hd:DV ow w I t (id::r) x h cs bs):
 ∃a cap,cs=[.slice a x.length cap]/\x.length<=281474976710656:=by
 obtain⟨v,rfl,h1,h2⟩:=hd;rcases h2 with⟨_,_,a,cap,rfl,h3⟩|⟨_,rfl,h3,_⟩|⟨_,b,o,cap,cells,bss,rfl,q1,_⟩
 .exact⟨a,cap,rfl,h3⟩
 .have h3:x=[]:=h3;subst h3;exact⟨none,0,rfl,BQ _⟩
 .exact⟨_,cap,rfl,q1.2⟩
theorem DV.own{ow ow':Nat->Prop}{I:Im}{t:Ty}:∀{ids:List Nat} {x:(E4 ids t).T} {h:Option (List Nat)} {cs:List Value} {bs:List Nat},DV ow w I t ids x h cs bs->(∀b∈bs,ow' b)->
 DV ow' w I t ids x h cs bs:=by
 intro ids;induction ids with
 |nil=>intro x h cs bs hd _;exact hd
 |cons id r ih=>
  intro x h cs bs hd hb;obtain⟨v,rfl,h1,h2⟩:=hd;refine⟨v,rfl,h1,?_⟩;rcases h2 with h2|h2|⟨h2,b,o,cap,cells,bss,rfl,q1,q2,q3,q4,q5,q6,q7,rfl,q9⟩
  .exact .inl h2
  .exact .inr (.inl h2)
  .exact .inr (.inr ⟨h2,b,o,cap,cells,bss,rfl,q1,q2,q3,hb b AI,q5,q6,q7,rfl,λi x hx =>
    ih (q9 i x hx) λb' hb'=>hb b' (AD _ (TP hb'))⟩)
theorem A8i{a b:Nat}(h:HJ a=HJ b):a=b:=by
 injection h with h;injection h
theorem KR{bs:List Nat}{us:List Value}(h:us=List.map HJ bs){b:Nat}:HJ b∈us<->b∈bs:=by
 rw[h,C2];exact⟨λ⟨a,h1,h2⟩=>A8i h2▸h1,λh=>⟨b,h,rfl⟩⟩
theorem DpOK.inv{k id:Nat}{r:List Nat}{t:Ty}{x:(E4 (id::r) t).T}{gk:Nat}{h:Option (List Nat)}(hd:DpOK fr w G k (id::r) t x gk h true):
 h≠some []/\G.ety k=some (E4 r t)/\∃v us bs,G.val k 0=some v/\G.val gk 0=some (.tuple us)/\us.toList=List.map HJ bs/\bs.Nodup/\DV fr.owned w G.im t (id::r) x h [v] bs:=
 let ⟨h0,h1,v,us,bs,h2,h3,h4,h5,h6,_⟩:=hd
 ⟨h0,h1,v,us,bs,h2,h3,h4,h5,h6⟩
theorem DpOK.hole{k id:Nat}{r:List Nat}{t:Ty}{x:(E4 (id::r) t).T}{gk:Nat}{h:Option (List Nat)}(hd:DpOK fr w G k (id::r) t x gk h true){v:Value}(hv:G.val k 0=some v):gY w G gk h v:=by
 obtain⟨_,_,v',_,_,h2,_,_,_,_,h6⟩:=hd;rw[h2]at hv;cases hv;exact h6
theorem HP{k b:Nat}{o:Obj}(h:ObjOK P fr w G k o)(hb:Bk G k o b):b<w.heap.size:=by
 cases o with
 |box t c wr=>
  obtain⟨b',cs,el,h1,h2,_⟩:=h;simp only[Bk,h1,BD,AM]at hb;subst hb;exact NL h2
 |sl el t xs g wr=>
  obtain⟨_,v,h1,h2⟩:=h;simp only[Bk,h1]at hb;rcases h2 with⟨rfl,_⟩|⟨b',cap,cs,rfl,_,h3,_⟩
  .cases hb
  .cases hb;exact h3.lt
 |mp a b' es wr=>
  obtain⟨v,h1,b'',ents,clock,rfl,h3,_⟩:=h;simp only[Bk,h1,AM]at hb;subst hb;exact NL h3
 |dp ids t x gk h' wr=>
  obtain⟨rfl,us',hu,hb⟩:=hb;cases ids with
  |nil=>exact absurd h id
  |cons id r=>
   obtain⟨_,_,v,us,bs,h1,h2,h3,h4,h5⟩:=DpOK.inv h;rw[h2]at hu;cases hu;exact(h5.blk b ((KR h3).1 hb)).1
 |kn f c=>exact hb.elim
 |kv t x=>exact hb.elim
 |it a b' es=>
  obtain⟨r,o,h1,h2,_⟩:=h;simp only[Bk,h1,AM]at hb;subst hb;exact NL h2
theorem GH{k:Nat}{o:Obj}(h:ObjOK P fr w G k o)(hle:GLe w G w' G'){b:Nat}:Bk G' k o b<->Bk G k o b:=by
 cases o with
 |box t c wr=>obtain⟨b',cs,el,h1,_⟩:=h;simp[Bk,h1,hle.box _ _ h1]
 |sl el t xs g wr=>obtain⟨_,v,h1,h2⟩:=h;simp[Bk,h1,hle.val _ _ _ h1]
 |mp a b' es wr=>obtain⟨v,h1,_⟩:=h;simp[Bk,h1,hle.val _ _ _ h1]
 |dp ids t x gk h' wr=>
  cases wr with
  |false=>simp[Bk]
  |true=>
   cases ids with
   |nil=>exact absurd h id
   |cons id r=>
    obtain⟨_,_,v,us,bs,h1,h2,h3,h4,h5⟩:=DpOK.inv h;simp[Bk,h2,hle.val _ _ _ h2]
 |kn f c=>exact Iff.rfl
 |kv t x=>exact Iff.rfl
 |it a b' es=>obtain⟨r,o,h1,_⟩:=h;simp[Bk,h1,hle.val _ _ _ h1]
theorem ItAt.ext{I I':Im}{a b:Ty}{es:List (a.T×b.T)}{o:Go.Obj}(h:ItAt w I a b es o)(e:Ext w I w' I'):ItAt w' I' a b es o:=by
 obtain⟨m,h1,h2⟩:=h;refine⟨m,h1.ext e,h2.imp id ?_⟩;rintro⟨mb,ents,clock,rfl,rfl,h3⟩;obtain⟨c,hc,r',rfl,_,hsome⟩:=h1;have e1:[Value.map r']=[Value.map (some mb)]:=hc;have e2:=A5.1 e1;cases e2;obtain⟨hI,_⟩:=hsome mb rfl;exact⟨mb,ents,clock,rfl,rfl,(e.obj mb hI).2.trans h3⟩
theorem ObjOK.keep{k:Nat}{o:Obj}(h:ObjOK P fr w G k o)(hle:GLe w G w' G')
 (hb:∀b,Bk G k o b->w'.heap[b]?=w.heap[b]? /\(∀off,G'.im.cell b off->G.im.cell b off)/\(G'.im.obj b->G.im.obj b)):ObjOK P fr w' G' k o:=by
 cases o with
 |box t c wr=>
  obtain⟨b',cs,el,h1,h2,h3,h4,h5,h6,h7,h8⟩:=h;obtain⟨k1,k2,k3⟩:=hb b' (by simp[Bk,h1]);exact⟨b',cs,el,hle.box _ _ h1,k1.trans h2,h3,h4,h5.mono hle,⟨λhw o ho=>h6.1 hw o (k2 o ho),λhw o ho=>(hle.ext.cell _ _ (h6.2 hw o ho)).1⟩,λho=>h7 (k3 ho),h8⟩
 |sl el t xs g wr=>
  obtain⟨h0,v,h1,h2⟩:=h;refine⟨hle.ety _ _ h0,v,hle.val _ _ _ h1,?_⟩;rcases h2 with⟨rfl,rfl⟩|⟨b',cap,cs,rfl,h3,h4,h5,h6,h7,h8,h9,h10⟩
  .exact .inl ⟨rfl,rfl⟩
  .obtain⟨k1,k2,k3⟩:=hb b' (by simp[Bk,h1]);refine .inr ⟨b',cap,cs,rfl,h3,h4.keep k1,h5,λi x hx=>(h6 i x hx).ext hle.ext,h7,λhw o ho=>h8 hw o (k2 o ho),λhw o=>⟨λho=>(hle.ext.cell _ _ ((h9 hw o).1 ho)).1,λho=>(h9 hw o).2 (k2 o ho)⟩,λho=>h10 (k3 ho)⟩
 |mp a b es wr=>
  obtain⟨v,h1,b',ents,clock,rfl,h3,h4,h5,h6,h7,h8⟩:=h;obtain⟨k1,k2,k3⟩:=hb b' (by simp[Bk,h1]);exact⟨_,hle.val _ _ _ h1,b',ents,clock,rfl,k1.trans h3,h4,λi x e hx he=>⟨(h5 i x e hx he).1.ext hle.ext,(h5 i x e hx he).2.ext hle.ext⟩,⟨λhw ho=>h6.1 hw (k3 ho),λhw=>(hle.ext.obj _ (h6.2 hw)).1⟩,λo ho=>h7 o (k2 o ho),h8⟩
 |dp ids t x gk h' wr=>
  cases ids with
  |nil=>exact absurd h id
  |cons id r=>
   cases wr with
   |false=>
    obtain⟨v,h1,h2⟩:=h;exact⟨v,hle.val _ _ _ h1,Rel.ext hle.ext h2⟩
   |true=>
    obtain⟨h0,hety,v,us,bs,h1,h2,h3,h4,h5⟩:=DpOK.inv h;have hole:=DpOK.hole h h1;refine⟨h0,hle.ety _ _ hety,v,us,bs,hle.val _ _ _ h1,hle.val _ _ _ h2,h3,h4,h5.keep hle.ext λb hb'=>hb b ⟨rfl,us,h2,(KR h3).2 hb'⟩,?_⟩;unfold gY at hole ⊢;split at hole
    .rename_i i;obtain⟨hv,b,o,len,cap,e1,rfl,e0,e2⟩:=hole;refine⟨hv,b,o,len,cap,hle.val _ _ _ e1,rfl,e0,?_⟩;obtain⟨v',e3,_,e4⟩:=h5;have e3:=A5.1 e3;subst e3
     have hbb:b∈bs:=by
      rcases e4 with⟨e4,_⟩|⟨_,e4,_⟩|⟨_,b',o',cap',cells,bss,e4,_,_,_,_,_,_,_,e5,_⟩
      .cases e4
      .cases e4
      .cases e4;rw[e5];exact AI
     have:=(hb b ⟨rfl,us,h2,(KR h3).2 hbb⟩).1;unfold World.cell? at e2 ⊢;simp only at e2 ⊢;rw[this];exact e2
    .trivial
 |kn f c=>
  obtain⟨b,vs,h1,h2,h3,h4⟩:=h;exact⟨b,vs,hle.box _ _ h1,(hle.ext.cell _ _ h2).1,(hle.ext.cell _ _ h2).2.trans h3,h4.mono hle⟩
 |kv t x=>
  obtain⟨b,c,h1,h2,h3⟩:=h;exact⟨b,c,hle.box _ _ h1,h2.ext hle.ext,Rel.ext hle.ext h3⟩
 |it a b es=>
  obtain⟨r,o,h1,h2,h3,h4,h5,h6⟩:=h;obtain⟨k1,k2,k3⟩:=hb r (by simp[Bk,h1]);exact⟨r,o,hle.val _ _ _ h1,k1.trans h2,h3.ext hle.ext,λho=>h4 (k3 ho),λj ho=>h5 j (k2 j ho),h6⟩
theorem MemS.change(hm:MemS P fr free σ w G){k b:Nat}{o':Option Obj}
 (hle:GLe w G w' G')(hb:∀j o,j≠k->σ j=some o->¬Bk G j o b)
 (hw:∀b',b'<w.heap.size->b'≠b->w'.heap[b']?=w.heap[b']?)(hsz:w.heap.size<=w'.heap.size)(hbs:b<w'.heap.size)(hown:fr.owned b)
 (hC:∀b' off,G'.im.cell b' off->G.im.cell b' off\/b'=b)(hO:∀b',G'.im.obj b'->G.im.obj b'\/b'=b)
 (hos:w'.os=w.os)(htape:w'.tape=w.tape)(hout:w'.output=w.output)
 (hk:∀o,o'=some o->ObjOK P fr w' G' k o/\∀b',Bk G' k o b'->b'=b\/∀j oj,j≠k->σ j=some oj->¬Bk G j oj b')
 (hfresh:∀j,free' j->j≠k/\free j/\G'.ety j=none/\G'.box j=none/\∀g,G'.val j g=none):
 MemS P fr free' (EK σ [(k,o')]) w' G':=by
 have hput:∀j,EK σ [(k,o')] j=if j=k then o' else σ j:=by
  intro j;simp only[EK];by_cases h:j=k
  .subst h;simp[CH]
  .rw[if_neg h,show Nat.beq j k=false by rw[<-BO];exact λhh=>h (A2 hh)];rfl
 have old:∀j o,j≠k->σ j=some o->ObjOK P fr w' G' j o:=by
  intro j o hj ho;have h1:=hm.objs j o ho;refine h1.keep hle λb' hb'=>?_;have hne:b'≠b:=λe=>hb j o hj ho (e▸hb');exact⟨hw b' (HP h1 hb') hne,λoff hoff=>(hC b' off hoff).resolve_right hne,λho'=>(hO b' ho').resolve_right hne⟩
 have blkO:∀j o,j≠k->σ j=some o->∀{b},Bk G' j o b<->Bk G j o b:=λj o hj ho=>GH (hm.objs j o ho) hle;refine⟨λj o ho=>?_,λi j o o2 b' hi hj hbi hbj=>?_,?_,λj hj=>?_⟩
 .rw[hput]at ho;by_cases h:j=k
  .subst h;rw[if_pos rfl]at ho;exact(hk o ho).1
  .rw[if_neg h]at ho;exact old j o h ho
 .rw[hput]at hi hj;by_cases h1:i=k<;>by_cases h2:j=k
  .rw[h1,h2]
  .exfalso;rw[if_pos h1]at hi;rw[if_neg h2]at hj;subst h1;rcases(hk o hi).2 _ hbi with h3|h3
   .subst h3;exact hb j o2 h2 hj (by rw[<-blkO j o2 h2 hj];exact hbj)
   .exact h3 j o2 h2 hj (by rw[<-blkO j o2 h2 hj];exact hbj)
  .exfalso;rw[if_neg h1]at hi;rw[if_pos h2]at hj;subst h2;rcases(hk o2 hj).2 _ hbj with h3|h3
   .subst h3;exact hb i o h1 hi (by rw[<-blkO i o h1 hi];exact hbi)
   .exact h3 i o h1 hi (by rw[<-blkO i o h1 hi];exact hbi)
  .rw[if_neg h1]at hi;rw[if_neg h2]at hj;exact hm.sep i j o o2 b' hi hj (by rw[<-blkO i o h1 hi];exact hbi) (by rw[<-blkO j o2 h2 hj];exact hbj)
 .refine hm.after.trans (gv':=λb'=>b'=b) ⟨hle.ext,λb' hb' hn=>hw b' hb' hn,hsz,λb' off h=>(hC b' off h).imp id .inr,λb' h=>(hO b' h).imp id .inr,?_,?_,hos,htape,hout,hm.after.pins.ext hle.ext⟩ ?_
  .intro b' off h;rcases hC b' off h with h1|h1
   .exact B0 (hm.after.inC _ _ h1) hsz
   .rw[h1];exact hbs
  .intro b' h;rcases hO b' h with h1|h1
   .exact B0 (hm.after.inO _ h1) hsz
   .rw[h1];exact hbs
  .intro b' h;subst h;exact hown.symm
 .obtain⟨h1,h2,h3,h4,h5⟩:=hfresh j hj;exact⟨by rw[hput,if_neg h1];exact(hm.fresh j h2).1,h3,h4,h5⟩
theorem tZ{b o n:Nat}{c:List Value}(hlen:c.length=n)(h:∀j,j<n->w.cell? ⟨b,o+j,none⟩=c[j]?):
 (loadCells ⟨b,o,none⟩ n).run P w=.ok c.toArray w:=by
 rw[<-hlen];refine run_loadCells_list w _ _ λj v hj=>?_;rw[K6,h j (by rw[<-hlen];exact(A8.1 hj).1),hj]
theorem TQ{b o:Nat}{v:Value}(h:w.cell? ⟨b,o,none⟩=some v):(load ⟨b,o,none⟩).run P w=.ok v w:=by
 rw[run_load];simp[h]
theorem QT{t:Ty}{id:Nat}(hl:Lay P t id):(isAgg id).run P w=.ok t.isAgg w:=by
 obtain⟨d,hd,ha⟩:=hl.isAgg;simp only[isAgg,Sem.run_bind,run_underlying hd,Result.andThen_ok];cases d<;>simp at ha<;>simp[ha]
theorem Lay.sz_one{t:Ty}{id:Nat}(hl:Lay P t id)(h:t.isAgg=false):t.sz=1:=by
 cases t<;>first|rfl|(exfalso;simp[Ty.isAgg]at h;done)|(exfalso;simp[Lay,layB]at hl;done)
theorem A8j{t:Ty}{v:Value}(h:t.isAgg=false):I9 t v [v]:=by
 cases t<;>first|rfl|(exfalso;simp[Ty.isAgg]at h;done)
theorem A8k{t:Ty}{c:List Value}(h:t.isAgg=true):I9 t (.agg c.toArray) c:=by
 cases t<;>first|rfl|(exfalso;simp[Ty.isAgg]at h;done)
theorem OD{I:Im}{t:Ty}{id:Nat}(hl:Lay P t id){b o:Nat}{x:t.T}{c:List Value}(hc:∀j,j<t.sz->w.cell? ⟨b,o+j,none⟩=c[j]?)(hr:Rel w I t x c):
 ∃v,(loadVar id ⟨b,o,none⟩).run P w=.ok v w/\VRel w I t x v:=by
 obtain⟨i,hi,hcs⟩:=hl.cells;simp only[loadVar,Sem.run_bind,QT hl,Result.andThen_ok];cases hag:t.isAgg with
 |true=>
  refine⟨.agg c.toArray,?_,c,A8k hag,hr⟩;simp only[if_true,Sem.run_bind,run_sizeOf w hi,hcs,Result.andThen_ok,tZ hr.length hc,Sem.run_pure]
 |false=>
  have h1:=hl.sz_one hag;have hl1:c.length=1:=by rw[hr.length,h1]
  match c,hl1,hc,hr with
  |[v],_,hc,hr=>
   refine⟨v,?_,[v],A8j hag,hr⟩;have:=hc 0 o5;simp only[CI]at this;simp only[CT,CK];exact TQ this
theorem A8l{b:Nat}{cs:Array Value}{el:TypeId}{f:Nat×Nat}(h:w.heap[b]?=some (.cells cs el f))(o:Nat):w.cell? ⟨b,o,none⟩=cs.toList[o]?:=by
 simp[World.cell?,h]
theorem XV{b o n:Nat}{cs:Array Value}{el:TypeId}(h:RowAt w b cs el):∀j,j<n->w.cell? ⟨b,o+j,none⟩=((cs.toList.drop o).take n)[j]?:=by
 intro j hj;rw[h.cell,AK,if_pos hj,AR]
theorem XW{b o n:Nat}{cs:Array Value}{el:TypeId}{f:Nat×Nat}(h:w.heap[b]?=some (.cells cs el f)):∀j,j<n->w.cell? ⟨b,o+j,none⟩=((cs.toList.drop o).take n)[j]?:=by
 intro j hj;rw[A8l h,AK,if_pos hj,AR]
theorem XX{c:List Value}{o n p m:Nat}(h:p+m<=n):((((c.drop o).take n).drop p).take m)=(c.drop (o+p)).take m:=by
 rw[DI,DQ,CM,DO o5]
theorem A8m{t:Ty}{id:Nat}(hl:Lay P t id){x:t.T}{v:Value}(h:SR P w G (.ref t x) v):∃z,(Instr.loadAt id v).run P w=.ok z w/\SR P w G (.val t x) z:=by
 obtain⟨ad,c,rfl,h1,h2,h3⟩:=OC h;obtain⟨bb,oo,sp⟩:=ad;simp only at h1;subst h1;obtain⟨z,hz,hv⟩:=OD hl (b:=bb) (o:=oo) (λj hj=>(h2.at_ j hj).2) h3;exact⟨z,by simp only[Instr.loadAt,Sem.run_bind,Instr.sureAddr,Sem.run_pure,Result.andThen_ok];exact hz,hv⟩
theorem t_{t:Ty}{id:Nat}(hl:Lay P t id)(ho:∀k o,σ k=some o->ObjOK P fr w G k o){s s':SV}{v:Value}(hr:loadAt σ t s=some s')(h:SR P w G s v):
 ∃z,(Instr.loadAt id v).run P w=.ok z w/\SR P w G s' z:=by
 have run:∀{a:Addr} {z:Value},(loadVar id a).run P w=.ok z w->(Instr.loadAt id (.pointer (some a))).run P w=.ok z w:=by
  intro a z hz;simp only[Instr.loadAt,Sem.run_bind,Instr.sureAddr,Sem.run_pure,Result.andThen_ok];exact hz
 unfold loadAt at hr;split at hr
 .rename_i u x;cases hc:KN u t x with
  |none=>rw[hc]at hr;cases hr
  |some y=>
   rw[hc]at hr;cases hr;obtain⟨ad,c,rfl,h1,h2,h3⟩:=OC h;obtain⟨bb,oo,sp⟩:=ad;simp only at h1;subst h1;have h3':=TJ hc h3;obtain⟨z,hz,hv⟩:=OD hl (b:=bb) (o:=oo) (λj hj=>(h2.at_ j (by rw[<-h3.length,h3'.length];exact hj)).2) h3';exact⟨z,run hz,hv⟩
 .rename_i k p u;split at hr
  .rename_i u' c wr hk;obtain⟨b,t',o,h1,h2,h3,rfl⟩:=IA h;obtain⟨b',cs,el,k1,k2,k3,k4,k5,_⟩:=ho _ _ hk;rw[h1]at k1;cases k1;cases hg:c.getAt p with
   |none=>rw[hg]at hr;cases hr
   |some s0=>
    rw[hg]at hr;obtain⟨o',u1,m1,m2,m3,m4,m5⟩:=TK k4 k5 hg;rw[h2]at m1;cases m1
    have leaf1:∀{v1:Value},u1.sz=1->(cs.toList.drop o).take u1.sz=[v1]->t.isAgg=false->(loadVar id ⟨b,o,none⟩).run P w=.ok v1 w:=by
     intro v1 hsz hv1 hag;simp only[loadVar,Sem.run_bind,QT hl,Result.andThen_ok,hag,CT,CK];refine TQ ?_;have:=XW (n:=1) (o:=o) k2 0 o5;rw[hsz]at hv1;rw[hv1]at this;simpa using this
    split at hr
    .rename_i j g hs0;cases hs0;obtain⟨v1,q1,q0,q2⟩:=m5
     have hz:t.isAgg=false/\s'=.obj j g:=by
      split at hr
      .exact⟨rfl,(A3 hr).symm⟩
      .exact⟨rfl,(A3 hr).symm⟩
      .cases hr
     obtain⟨hz,rfl⟩:=hz;exact⟨v1,run (leaf1 m3 q2 hz),A8Q q1 q0⟩
    .rename_i j q u2 hs0;cases hs0;have m5':=m5;obtain⟨b2,t2,o2,q1,q2,q3,q4⟩:=m5
     have hz:t.isAgg=false/\s'=.ptr j q u2:=by
      split at hr
      .exact⟨rfl,(A3 hr).symm⟩
      .cases hr
     obtain⟨hz,rfl⟩:=hz;exact⟨_,run (leaf1 m3 q4 hz),_,rfl,b2,t2,o2,q1,q2,q3,rfl⟩
    .rename_i f2 caps2 hs0;cases hs0;obtain⟨vs2,q1,q2⟩:=m5
     have hz:t.isAgg=false/\s'=.fn f2 caps2:=by
      split at hr
      .exact⟨rfl,(A3 hr).symm⟩
      .cases hr
     obtain⟨hz,rfl⟩:=hz;exact⟨_,run (leaf1 m3 q1 hz),_,rfl,vs2,rfl,q2⟩
    .rename_i s1 _ _ _ hs0;cases hs0;cases hx:s0.asC σ t with
     |none=>rw[hx]at hr;cases hr
     |some x=>
      rw[hx]at hr;cases hr;have hrel:=QS ho hx m5;have hsz:t.sz=u1.sz:=by rw[<-hrel.length,m3.len m5]
      obtain⟨z,hz,hv⟩:=OD hl (b:=b) (o:=o) (λj hj=>XW k2 j o5) hrel;exact⟨z,run hz,hv⟩
    .rename_i hs0;cases hs0
  .rename_i f2 caps2 hk;obtain⟨b,t',o,h1,h2,h3,rfl⟩:=IA h;obtain⟨b',vs2,k1,k2,k3,k4⟩:=ho _ _ hk;rw[h1]at k1;cases k1;split at hr
   .cases h2;cases hr
    have hz:(loadVar id ⟨b,0,none⟩).run P w=.ok (.func (.func f2) #[] vs2) w:=by
     simp only[loadVar,Sem.run_bind,QT hl,Result.andThen_ok,Ty.isAgg,CT,CK];exact TQ k3
    exact⟨_,run hz,_,rfl,vs2,rfl,k4⟩
   .cases hr
  .rename_i e x hk;obtain⟨b,t',o,h1,h2,h3,rfl⟩:=IA h;obtain⟨b',c,k1,k2,k3⟩:=ho _ _ hk;rw[h1]at k1;cases k1;split at hr
   .rename_i u2 y hy;cases hx:KN u2 t y with
    |none=>rw[hx]at hr;cases hr
    |some z0=>
     rw[hx]at hr;cases hr;obtain⟨oo,n1,n2,n3,n4⟩:=TL k3 hy;rw[h2]at n1;cases n1;have hrel:=TJ hx n4;have hlen:t.sz=u2.sz:=hrel.length.symm.trans n4.length
     obtain ⟨z,hz,hv⟩:=OD hl (b:=b) (o:=o) (λj hj=>by
      have hq:=(k2.at_ (o+j) o5).2;rw[B8]at hq;rw[hq,AK,AR,if_pos o5]) hrel
     exact⟨z,run hz,hv⟩
   .cases hr
  .cases hr
 .rename_i k p i q u;split at hr
  .rename_i u' c wr hk;obtain⟨b,t',o,n,e,o2,h1,h2,⟨u0,h3,h3'⟩,h4,h5,h6,rfl⟩:=XT h;obtain⟨b',cs,el,k1,k2,k3,k4,k5,_⟩:=ho _ _ hk;rw[h1]at k1;cases k1;split at hr
   .rename_i n' e' xs hg;obtain⟨o',u1,m1,m2,m3,m4,m5⟩:=TK k4 k5 hg;rw[h2]at m1;cases m1;rw[h3]at m2;cases m2;have he:Ty.arr n' e'=Ty.arr n e:=(show(Ty.arr n' e').bare=u0.bare from m3).trans h3';cases he;split at hr
    .rename_i u2 y hy;cases hx:KN u2 t y with
     |none=>rw[hx]at hr;cases hr
     |some x=>
      rw[hx]at hr;cases hr;obtain⟨r1,r2,r3⟩:=m5;have hi:i<List.length (show List e.T from xs):=by rw[r1];exact h4
      have hget:(show List e.T from xs)[i]?=some ((show List e.T from xs).getD i e.dflt):=by
       rw[AG,A0 hi];rfl
      obtain⟨oo,n1,n2,n3,n4⟩:=TL (r3 i _ hget) hy;rw[h5]at n1;cases n1;have hmul:(i+1)*e.sz<=n*e.sz:=B1 _ h4;rw[C8]at hmul;have husz:u0.sz=n*e.sz:=by rw[<-Ty.sz_bare,h3'];rfl
      rw[XX n3,XX (by rw[husz];omega),<-C7]at n4;have hrel:=TJ hx n4;obtain⟨z,hz,hv⟩:=OD hl (b:=b) (o:=o+i*e.sz+o2) (λj hj=>XW k2 j (by have:=hrel.length.symm.trans n4.length;omega)) hrel;exact⟨z,run hz,hv⟩
    .cases hr
   .cases hr
  .cases hr
 .rename_i k g i q u;split at hr
  .rename_i el e xs g' hk;cases hg:Nat.beq g g' with
   |false=>rw[hg]at hr;cases hr
   |true=>
    rw[hg]at hr;simp only[AA]at hr;have:=A2 hg;subst this;obtain⟨b,o1,len,cap,e',o2,h1,h2,h3,h4,h5,rfl⟩:=MM h;obtain⟨hety,v',k1,k2⟩:=ho _ _ hk;rw[h1]at k1;cases k1;rw[hety]at h2;cases h2;rcases k2 with⟨hv',_⟩|⟨b',cap',cs,hv',r1,r2,r3,r4,_⟩
    .cases hv'
    .cases hv';rw[B8];split at hr
     .rename_i u2 y hy;cases hx:KN u2 t y with
      |none=>rw[hx]at hr;cases hr
      |some x=>
       rw[hx]at hr;cases hr
       have hget:xs[i]?=some (xs.getD i e.dflt):=by
        rw[AG,A0 h3];rfl
       obtain⟨oo,n1,n2,n3,n4⟩:=TL (r4 i _ hget) hy;rw[h4]at n1;cases n1;rw[XX n3]at n4;have hrel:=TJ hx n4;obtain⟨z,hz,hv⟩:=OD hl (b:=b) (o:=i*e.sz+o2) (λj hj=>XV r2 j (by have:=hrel.length.symm.trans n4.length;omega)) hrel;exact⟨z,run hz,hv⟩
     .cases hr
  .rename_i id' e xs gk hk;cases hg:Nat.beq g 0 with
   |false=>rw[hg]at hr;cases hr
   |true=>
    rw[hg]at hr;simp only[AA]at hr;have:=A2 hg;subst this;obtain⟨b,o1,len,cap,e',o2,h1,h2,h3,h4,h5,rfl⟩:=MM h;obtain⟨h0,hety,v',us,bs,k1,_,_,_,v2,k2,_,k3⟩:=DpOK.inv (ho _ _ hk);have hv:v'=v2:=(A5.1 k2);subst hv;rw[h1]at k1;cases k1;have hety:G.ety k=some e:=hety;rw[hety]at h2;cases h2;rcases k3 with⟨k3,_⟩|⟨_,k3,_⟩|⟨_,b',o',cap',cells,bss,hv',r1,r2,r3,r4,r5,r6,r7,r8,r9⟩
    .exact absurd k3 h0
    .cases k3
    .cases hv';split at hr
     .rename_i u2 y hy;cases hx:KN u2 t y with
      |none=>rw[hx]at hr;cases hr
      |some x=>
       rw[hx]at hr;cases hr
       have hget:∀(ys:List e.T),i<ys.length->ys[i]?=some (ys.getD i e.dflt):=λys h=>by
        rw[AG,A0 h];rfl
       obtain⟨oo,n1,n2,n3,n4⟩:=TL (r9 i _ (hget xs h3)).2 hy;rw[h4]at n1;cases n1;have n3:o2+u2.sz<=e.sz:=n3;have n4:Rel w G.im u2 y ((((cells.toList.drop (o1+i*e.sz)).take e.sz).drop o2).take u2.sz):=n4;rw[XX n3]at n4;have hrel:=TJ hx n4;obtain⟨z,hz,hv⟩:=OD hl (b:=b) (o:=o1+i*e.sz+o2) (λj hj=>XV r2 j (by have:=hrel.length.symm.trans n4.length;omega)) hrel;exact⟨z,run hz,hv⟩
     .cases hr
  .rename_i id1 id2 rr e xs gk hh hk;split at hr
   .rename_i e'';cases hg:Nat.beq g 0 with
    |false=>rw[hg]at hr;cases hr
    |true=>
     rw[hg]at hr;cases hr;have:=A2 hg;subst this;obtain⟨b,o1,len,cap,e',o2,h1,h2,h3,h4,h5,rfl⟩:=MM h;obtain⟨h0,hety,v',us,bs,k1,_,_,_,v2,k2,_,k3⟩:=DpOK.inv (ho _ _ hk);have hv:v'=v2:=(A5.1 k2);subst hv;rw[h1]at k1;cases k1;rw[hety]at h2;cases h2;have h4':(E4 (id2::rr) e).off []=some 0:=rfl;rw[h4']at h4;cases h4;rcases k3 with⟨k3,_⟩|⟨_,k3,_⟩|⟨_,b',o',cap',cells,bss,hv',r1,r2,r3,r4,r5,r6,r7,r8,r9⟩
     .exact absurd k3 h0
     .cases k3
     .cases hv'
      have hget0:∀(ys:List (List (E4 rr e).T)),i<ys.length->ys[i]?=some (ys.getD i []):=λys h=>by
       rw[AG,A0 h];rfl
      have hget:(show List (List (E4 rr e).T)from xs)[i]?=some ((show List (List (E4 rr e).T)from xs).getD i []):=hget0 xs h3;obtain⟨a,cp,q1,q2⟩:=DV.head (r9 i _ hget)
      have hcell:w.cell? ⟨b,o1+i*1+0,none⟩=some (.slice a ((show List (List (E4 rr e).T)from xs).getD i []).length cp):=by
       have hq:(cells.toList.drop (o1+i*1)).take 1=[.slice a ((show List (List (E4 rr e).T)from xs).getD i []).length cp]:=q1
       have hlt:o1+i*1<cells.toList.length:=by
        rcases CL (o1+i*1) cells.toList.length with hlt|hge
        .exact hlt
        .rw[List.drop_eq_nil_of_le hge]at hq;cases hq
       rw[CS hlt]at hq;simp only[List.take_succ_cons,DR,List.cons.injEq,and_true]at hq;rw[r2.cell,CI,A0 hlt,hq]
      refine⟨_,run ?_,_,rfl,a,cp,rfl,q2⟩;simp only[loadVar,Sem.run_bind,QT hl,Result.andThen_ok,Ty.isAgg,CT,CK];exact TQ hcell
   .cases hr
  .cases hr
 .cases hr
end
theorem KS{cs ds:List Value}{o:Nat}(h:o+ds.length<=cs.length)(q:Nat):(F4 cs o ds)[q]?=if o<=q/\q<o+ds.length then ds[q-o]? else cs[q]?:=by
 unfold F4;by_cases h1:q<o
 .rw[AQ og,AK,if_pos h1,if_neg o5]
 .rw[AZ og];have hl:(cs.take o).length=o:=og
  rw[hl];by_cases h2:q<o+ds.length
  .rw[AQ o5,if_pos ⟨o5,h2⟩]
  .rw[AZ o5,if_neg o5,AR]
   congr 1;omega
theorem u6{cs ds:List Value}{a n o:Nat}(h:a+n<=cs.length)(ho:o+ds.length<=n):
 ((F4 cs (a+o) ds).drop a).take n=F4 ((cs.drop a).take n) o ds:=by
 apply BV;intro q;have hl:((cs.drop a).take n).length=n:=og
 rw[KS o5,AK];by_cases hq:q<n
 .rw[if_pos hq,AR,KS o5];by_cases h1:o<=q/\q<o+ds.length
  .rw[if_pos ⟨o5,o5⟩,if_pos h1];congr 1;omega
  .rw[if_neg o5,if_neg h1,AK,if_pos hq,AR]
 .rw[if_neg hq,if_neg o5,AK,if_neg hq]
theorem u7{cs ds:List Value}{a n o:Nat}(h:o+ds.length<=cs.length)(ho:a+n<=o\/o+ds.length<=a):
 ((F4 cs o ds).drop a).take n=(cs.drop a).take n:=by
 apply BV;intro q;rw[AK,AK];by_cases hq:q<n
 .rw[if_pos hq,if_pos hq,AR,AR,KS h,if_neg o5]
 .rw[if_neg hq,if_neg hq]
theorem A8n{cs ds:List Value}{o p m:Nat}(h:o+m<=cs.length)(hp:p+ds.length<=m):
 F4 cs o (F4 ((cs.drop o).take m) p ds)=F4 cs (o+p) ds:=by
 have hl:((cs.drop o).take m).length=m:=og
 have hl2:(F4 ((cs.drop o).take m) p ds).length=m:=by rw[JM o5,hl]
 apply BV;intro q;rw[KS o5,hl2];by_cases h1:o<=q/\q<o+m
 .rw[if_pos h1,KS o5,KS o5];by_cases h2:p<=q-o/\q-o<p+ds.length
  .rw[if_pos h2,if_pos o5];congr 1;omega
  .rw[if_neg h2,if_neg o5,AK,if_pos o5,AR];congr 1;omega
 .rw[if_neg h1,KS o5,if_neg o5]
section
variable{P:Program}{fr:Fr}{free free':Nat->Prop}{self:Nat}{σ σ':SSo}{w w':World}{G G':Gh}
theorem Rel.oneCell{I:Im}:∀{t:Ty} {x:t.T} {cs:List Value},Rel w I t x cs->∀v∈cs,v.oneCell'=true:=by
 intro t;induction t with
 |unit=>intro x cs h v hv;rw[show cs=[]from h]at hv;cases hv
 |bool=>intro x cs h v hv;rw[show cs=[_]from h]at hv;simp at hv;subst hv;rfl
 |int k=>intro x cs h v hv;rw[show cs=[_]from h.1]at hv;simp at hv;subst hv;rfl
 |str=>intro x cs h v hv;rw[show cs=[_]from h.1]at hv;simp at hv;subst hv;rfl
 |slice s ih=>intro x cs h v hv;obtain⟨a,cap,h1,_⟩:=h;rw[h1]at hv;simp at hv;subst hv;rfl
 |agg s ih=>intro x cs h;exact ih (show Rel w I s x cs from h)
 |prod a b iha ihb=>
  intro x cs h v hv;obtain⟨c,d,h1,h2,h3⟩:=h;rw[h1]at hv;rcases AL.1 hv with h|h
  .exact iha h2 v h
  .exact ihb h3 v h
 |arr n s ih=>
  intro x cs h v hv;obtain⟨h1,h2,h3⟩:=h;obtain⟨q,hq⟩:=C9 hv;have hql:q<cs.length:=(A8.1 hq).1
  have hs0:0<s.sz:=by
   rcases D0 s.sz with h|h
   .rw[h2,h,Nat.mul_zero]at hql;omega
   .exact h
  have hi:q / s.sz<List.length (show List s.T from x):=by
   rw[h1];exact Nat.div_lt_of_lt_mul (by rw[CU,<-h2];exact hql)
  have hr:=h3 (q / s.sz) _ (A0 hi);refine ih hr v ?_;have hdm:=Nat.div_add_mod q s.sz;have hm:=Nat.mod_lt q hs0
  have:((cs.drop (q / s.sz*s.sz)).take s.sz)[q % s.sz]?=some v:=by
   rw[AK,if_pos hm,AR,CU,hdm];exact hq
  exact B5 this
 |ptr s ih=>
  intro x cs h v hv;cases x with
  |none=>rw[show cs=[_]from h]at hv;simp at hv;subst hv;rfl
  |some y=>obtain⟨ad,h1,_⟩:=h;rw[h1]at hv;simp at hv;subst hv;rfl
 |map k e ihk ihv=>intro x cs h v hv;obtain⟨r,h1,_⟩:=h;rw[h1]at hv;simp at hv;subst hv;rfl
 |inil=>intro x cs h v hv;rw[show cs=[_]from h]at hv;simp at hv;subst hv;rfl
 |self=>intro x cs h v hv;rw[show cs=[_]from h]at hv;simp at hv;subst hv;rfl
 |opq=>intro x cs h v hv;obtain⟨v',h1,h2⟩:=h;rw[h1]at hv;simp at hv;subst hv;exact h2
 |fnc d c _ _=>
  intro x cs h v hv;cases x with
  |none=>rw[show cs=[_]from h]at hv;simp at hv;subst hv;rfl
  |some F=>obtain⟨f,vs,h1,_⟩:=h;rw[h1]at hv;simp at hv;subst hv;rfl
 |ialt id t r iht ihr=>
  intro x cs h v hv;cases x with
  |inl y=>obtain⟨v',c,h1,_⟩:=h;rw[h1]at hv;simp at hv;subst hv;rfl
  |inr z=>exact ihr h.2 v hv
theorem TR{v:Value}(h:v.oneCell'=true):v.cells= #[v]:=by
 cases v<;>first|rfl|(simp[Value.oneCell']at h)
theorem VRel.cells{I:Im}{t:Ty}{x:t.T}{v:Value}(h:VRel w I t x v):Rel w I t x v.cells.toList:=by
 obtain⟨c,h1,h2⟩:=h;have ag:v=.agg c.toArray->Rel w I t x v.cells.toList:=by intro e;rw[e];exact h2
 have pl:c=[v]->Rel w I t x v.cells.toList:=by
  intro e;subst e;rw[TR (h2.oneCell v oc)];exact h2
 cases t<;>first|exact ag h1|exact pl h1
theorem SR.one{s:SV}{v:Value}(h:SR P w G s v)(hn:∀u y,s≠.val u y):CR P w G s [v]:=by
 obtain⟨c,h1,h2⟩:=h;have:c=[v]:=by cases s<;>first|exact h1|exact absurd rfl (hn _ _)
 rw[this]at h2;exact h2
theorem Fit.of_bare0{s:SV}{t u:Ty}(h:Fit s t)(e:u.bare=t.bare):Fit s u:=by
 have hz:u.sz=t.sz:=by rw[<-Ty.sz_bare,e,Ty.sz_bare]
 cases s<;>first|exact(show _=_ from h).trans e.symm|exact hz.trans h|(obtain⟨x,y,h1,h2⟩:=h;exact⟨x,y,e.trans h1,h2⟩)|exact absurd h id
theorem A8o{t:Ty}{s s':SV}{v:Value}(hs:QE t s=some s')(h:SR P w G s v):
 Fit s' t/\CR P w G s' v.cells.toList/\∀x∈v.cells.toList,x.oneCell'=true:=by
 have one:∀{s:SV},(t.sz=1->Fit s t)->t.sz=1->CR P w G s [v]->v.oneCell'=true->Fit s t/\CR P w G s v.cells.toList/\∀x∈v.cells.toList,x.oneCell'=true:=by
  intro s a a' b c;rw[TR c];exact⟨a a',b,by simpa using c⟩
 have vl:∀{s:SV},(SV.as t s).map (SV.val t ·)=some s'->SR P w G s v->Fit s' t/\CR P w G s' v.cells.toList/\∀x∈v.cells.toList,x.oneCell'=true:=by
  intro s h1 h2;cases hx:SV.as t s with
  |none=>rw[hx]at h1;cases h1
  |some x=>
   rw[hx]at h1;cases h1;have:=(JL hx h2).cells;exact⟨rfl,this,this.oneCell⟩
 unfold QE at hs;split at hs
 .have hc:=h.one (by intro u y h;cases h);have ho:=hZ h;split at hs
  .cases hs;exact one (λh=>h) rfl hc ho
  .cases hs;exact one (λh=>h) rfl hc ho
  .cases hs
 .have hc:=h.one (by intro u y h;cases h);obtain⟨b,t',o,_,_,_,hv⟩:=IA h;split at hs
  .cases hs;exact one (λh=>h) rfl hc (by rw[hv];rfl)
  .cases hs
 .rename_i u c;cases hb:u.same t with
  |false=>rw[hb]at hs;cases hs
  |true=>
   rw[hb]at hs;have hs:=A3 hs;subst hs;have:=Ty.same_eq hb;subst this;obtain⟨cc,hcc,cs',h1,h2,h3,h4⟩:=h;have hv:v=.agg cs'.toArray:=A5.1 ((show cc=[v]from hcc).symm.trans h1);subst hv;obtain⟨a,b,rfl,h2⟩:=h2;exact⟨h2.of_bare0 rfl,h4,h3⟩
 .have hc:=h.one (by intro u y h;cases h);obtain⟨vs,q1,q2⟩:=hc;have hv:v=_:=A5.1 q1;split at hs
  .cases hs;exact one (λh=>h) rfl ⟨vs,q1,q2⟩ (by rw[hv];rfl)
  .cases hs
 .exact vl hs h
theorem Fit.of_bare{s:SV}{t u:Ty}(h:Fit s t)(e:u.bare=t.bare):Fit s u:=by
 have hz:u.sz=t.sz:=by rw[<-Ty.sz_bare,e,Ty.sz_bare]
 cases s<;>first|exact(show _=_ from h).trans e.symm|exact hz.trans h|(obtain⟨x,y,h1,h2⟩:=h;exact⟨x,y,e.trans h1,h2⟩)|exact absurd h id
theorem A8p:∀{c:SV} {t:Ty} {cs:List Value},Fit c t->CR P w G c cs->∀x∈cs,x.oneCell'=true:=by
 intro c;induction c with
 |val u y=>intro t cs _ hr;exact(show Rel w G.im u y cs from hr).oneCell
 |pr a b iha ihb=>
  intro t cs hf hr x hx;obtain⟨_,_,_,h2,h3⟩:=hf;obtain⟨c,d,rfl,h5,h6⟩:=hr;rcases AL.1 hx with h|h
  .exact iha h2 h5 x h
  .exact ihb h3 h6 x h
 |obj k g=>intro t cs _ hr x hx;obtain⟨v,_,h1,rfl⟩:=hr;simp at hx;rw[hx];exact h1
 |ptr k p u=>intro t cs _ hr x hx;obtain⟨b,t',o,_,_,_,rfl⟩:=hr;simp at hx;rw[hx];rfl
 |nilS=>intro t cs _ hr x hx;rw[show cs=_ from hr]at hx;simp at hx;rw[hx];rfl
 |slf k=>intro t cs _ hr x hx;obtain⟨b,t',_,h⟩:=hr;rcases h with rfl|rfl<;>(simp at hx;rw[hx];rfl)
 |fn f c=>intro t cs _ hr x hx;obtain⟨vs,rfl,_⟩:=hr;simp at hx;rw[hx];rfl
 |hof d c F=>intro t cs _ hr x hx;obtain⟨f,vs,rfl,_⟩:=hr;simp at hx;rw[hx];rfl
 |nns e y=>intro t cs _ hr x hx;obtain⟨_,ad,n,m,rfl⟩:=hr;simp at hx;rw[hx];rfl
 |_=>intro t cs hf;exact absurd hf (by simp[Fit])
theorem uA{t:Ty}{id:Nat}(hl:Lay P t id)(ho:∀k o,σ k=some o->ObjOK P fr w G k o){s s':SV}{v:Value}(hr:QF σ t s=some s')(h:SR P w G s v):
 ∃z,(Instr.loadAt id v).run P w=.ok z w/\SR P w G s' z:=by
 unfold QF at hr;split at hr
 .rename_i k p u;split at hr
  .rename_i a b;cases hb:u.bare.same (.prod a b)with
   |false=>rw[hb]at hr;cases hr
   |true=>
    rw[hb]at hr;simp only[AA]at hr;have eu:=Ty.same_eq hb;split at hr
    .rename_i u' c wr hk;split at hr
     .rename_i s0 hg;have hr:=A3 hr;subst hr;obtain⟨bl,t',o,h1,h2,⟨u0,h3,h3'⟩,rfl⟩:=IA h;obtain⟨b',cs,el,k1,k2,k3,k4,k5,_⟩:=ho _ _ hk;rw[h1]at k1;cases k1;obtain⟨o',u1,m1,m2,m3,m4,m5⟩:=TK k4 k5 hg;rw[h2]at m1;cases m1;rw[h3]at m2;cases m2;have hf:Fit s0 (.prod a b):=m3.of_bare0 (eu.symm.trans h3'.symm)
      have hsz:u0.sz=(Ty.agg (.prod a b)).sz:=by
       rw[<-Ty.sz_bare u0,h3',eu];rfl
      obtain⟨i,hi,hcs⟩:=hl.cells;have hlen:((cs.toList.drop o).take u0.sz).length=(Ty.agg (.prod a b)).sz:=by rw[m3.len m5,hsz]
      have hrun:(loadVar id ⟨bl,o,none⟩).run P w=.ok (.agg ((cs.toList.drop o).take u0.sz).toArray) w:=by
       have hag:(Ty.agg (.prod a b)).isAgg=true:=rfl
       simp only [loadVar,Sem.run_bind,QT hl,Result.andThen_ok,hag,if_true,run_sizeOf w hi,hcs,
        tZ hlen (λj hj=>XW k2 j o5),Sem.run_pure]
      refine⟨_,?_,_,rfl,_,rfl,⟨a,b,rfl,hf⟩,A8p m3 m5,m5⟩;simp only[Instr.loadAt,Sem.run_bind,Instr.sureAddr,Sem.run_pure,Result.andThen_ok];exact hrun
     .cases hr
    .cases hr
  .cases hr
 .cases hr
theorem Ext.of_heap{I:Im}{b:Nat}(hw:∀b',b'≠b->w'.heap[b']?=w.heap[b']?)(hC:∀o,¬I.cell b o)(hO:¬I.obj b):Ext w I w' I:=
 ⟨λb' o h=>⟨h,by
  have:b'≠b:=λe=>hC o (e▸h);simp only[World.cell?,hw b' this]⟩,λb' h=>⟨h,hw b' (λe=>hO (e▸h))⟩⟩
theorem GLe.of_heap{b:Nat}(hw:∀b',b'≠b->w'.heap[b']?=w.heap[b']?)(hC:∀o,¬G.im.cell b o)(hO:¬G.im.obj b):GLe w G w' G:=
 ⟨Ext.of_heap hw hC hO,λ_ _ _ h=>h,λ_ _ h=>h,λ_ _ h=>h⟩
theorem TT(P:Program)(g o:Nat)(t:TypeId)(fz:Nat×Nat):∀(vs:List Value) (i:Nat) (cur:Array Value) (w:World),w.heap[g]?=some (.cells cur t fz)->(fz.2<=fz.1\/cur.size<=fz.1)->o+i+vs.length<=cur.size->(∀v∈vs,v.oneCell'=true)->
 (storeCells ⟨g,o,none⟩ vs i).run P w=.ok () (w.setRow g (cur.toList.take (o+i)++vs++cur.toList.drop (o+i+vs.length)).toArray)
 |[],i,cur,w,hg,_,_,_=>by
  simp only[storeCells,C3,AW,CI,List.take_append_drop,Array.toArray_toList];rw[setRow_self w g cur t fz hg];rfl
 |v::rest,i,cur,w,hg,hfz,hl,h1=>by
  have hi:o+i<cur.size:=by simp at hl;omega
  have hadd:(⟨g,o,none⟩:Addr).add i=⟨g,o+i,none⟩:=by unfold Addr.add;split<;>simp_all
  have hcell:w.cell? ⟨g,o+i,none⟩=some cur[o+i]:=by simp[World.cell?,hg,hi]
  have hfro:w.frozen? ⟨g,o+i,none⟩=false:=by
   obtain⟨lo,hi'⟩:=fz;simp only[World.frozen?,hg,DH,D4];simp only at hfz;omega
  have hst:(store ((⟨g,o,none⟩:Addr).add i) v).run P w=.ok () (w.setRow g (cur.setIfInBounds (o+i) v)):=by
   rw[hadd,run_store P w _ v _ (h1 v oc),hcell];simp[hfro,setCell_eq_setRow w g (o+i) cur t fz v hg]
  have ih:=TT P g o t fz rest (i+1) (cur.setIfInBounds (o+i) v) (w.setRow g (cur.setIfInBounds (o+i) v)) (setRow_heap w g cur _ t _ hg) (by simpa using hfz) (by simp at hl ⊢;omega) (λx hx=>h1 x (by simp[hx]));simp only[storeCells,Sem.run_bind,hst,Result.andThen_ok,ih,setRow_setRow]
  congr 3
  have e:=list_seg_step cur.toList (o+i) v rest (by simp at hl ⊢;omega);simpa[Array.toList_setIfInBounds,C7]using e
theorem RowAt.set{b:Nat}{cs new:Array Value}{el:TypeId}(h:RowAt w b cs el)(hs:new.size=cs.size):RowAt (w.setRow b new) b new el:=by
 obtain⟨fz,h1,h2⟩:=h;exact⟨fz,setRow_heap w b cs new el fz h1,by rw[hs];exact h2⟩
theorem iC{t:Ty}{id:Nat}(hl:Lay P t id){b o:Nat}{cs:Array Value}{el:TypeId}(hb:RowAt w b cs el){v:Value}
 (hlen:v.cells.toList.length=t.sz)(h1:∀x∈v.cells.toList,x.oneCell'=true)(hfit:o+t.sz<=cs.size):
 (storeVar id ⟨b,o,none⟩ v).run P w=.ok () (w.setRow b (F4 cs.toList o v.cells.toList).toArray):=by
 obtain⟨i,hi,hc⟩:=hl.cells;obtain⟨fz,hb,hfz⟩:=hb;have hs:v.cells.size=t.sz:=by rw[<-hlen];simp
 simp only[storeVar,Sem.run_bind,run_sizeOf w hi,hc,Result.andThen_ok];rw[if_neg (by simp[hs])];rw[TT P b o el fz v.cells.toList 0 cs w hb (hfz.imp (λh=>h) And.left) o5 h1];simp[F4]
theorem uB{t:Ty}{id:Nat}(hl:Lay P t id){b o:Nat}{cs:Array Value}{el:TypeId}(hb:w.heap[b]?=some (.cells cs el (0,0))){v:Value}
 (hlen:v.cells.toList.length=t.sz)(h1:∀x∈v.cells.toList,x.oneCell'=true)(hfit:o+t.sz<=cs.size):
 (storeVar id ⟨b,o,none⟩ v).run P w=.ok () (w.setRow b (F4 cs.toList o v.cells.toList).toArray):=by
 obtain⟨i,hi,hc⟩:=hl.cells;have hs:v.cells.size=t.sz:=by rw[<-hlen];simp
 simp only[storeVar,Sem.run_bind,run_sizeOf w hi,hc,Result.andThen_ok];rw[if_neg (by simp[hs])];rw[run_storeCells_at P b o el v.cells.toList 0 cs w hb o5 h1];simp[F4]
theorem MemS.set(hm:MemS P fr free σ w G){k b:Nat}{o o':Obj}{cs new:Array Value}{el:TypeId}(hk:σ k=some o)(hbk:Bk G k o b)
 {fz:Nat×Nat}(hb:w.heap[b]?=some (.cells cs el fz))(hC:∀o,¬G.im.cell b o)(hO:¬G.im.obj b)(hown:fr.owned b)
 (hnew:(w.setRow b new).heap[b]?=some (.cells new el fz)->GLe w G (w.setRow b new) G->ObjOK P fr (w.setRow b new) G k o'/\∀b',Bk G k o' b'->b'=b):
 GLe w G (w.setRow b new) G/\MemS P fr (HO free self) (EK σ [(k,some o')]) (w.setRow b new) G:=by
 have hw:∀b',b'≠b->(w.setRow b new).heap[b']?=w.heap[b']?:=λb' h=>setRow_other w b b' new h;have hle:GLe w G (w.setRow b new) G:=GLe.of_heap hw hC hO;obtain⟨h1,h2⟩:=hnew (setRow_heap w b cs new el fz hb) hle;refine⟨hle,hm.change (b:=b) hle ?_ (λb' _ h=>hw b' h) oc (by simpa using NL hb) hown (λ_ _ h=>.inl h) (λ_ h=>.inl h) rfl rfl rfl ?_ ?_⟩
 .intro j oj hj hoj hbj;exact hj (hm.sep j k oj o b hoj hk hbj hbk)
 .intro o2 ho2;cases ho2;exact⟨h1,λb' hb'=>.inl (h2 b' hb')⟩
 .intro j hj;have hf:=hm.fresh j hj.1;refine⟨λe=>?_,hj.1,hf.2.1,hf.2.2.1,hf.2.2.2⟩;subst e;rw[hf.1]at hk;cases hk
theorem XY{I:Im}{e:Ty}{xs:List e.T}{c ds:List Value}{i o2:Nat}{z:e.T}(hc:xs.length*e.sz<=c.length)
 (h:∀j y,xs[j]?=some y->Rel w I e y ((c.drop (j*e.sz)).take e.sz))(hi:i<xs.length)
 (hz:Rel w I e z (F4 ((c.drop (i*e.sz)).take e.sz) o2 ds))(ho:o2+ds.length<=e.sz):
 ∀j y,(xs.set i z)[j]?=some y->Rel w I e y (((F4 c (i*e.sz+o2) ds).drop (j*e.sz)).take e.sz):=by
 intro j y hy;have hmul:(i+1)*e.sz<=xs.length*e.sz:=B1 _ hi;rw[C8]at hmul;by_cases hji:j=i
 .subst hji;rw[CN hi]at hy;cases hy;rw[u6 o5 ho];exact hz
 .rw[CW (λe=>hji e.symm)]at hy;rw[u7 o5]
  .exact h j y hy
  .rcases Nat.lt_or_gt_of_ne hji with hlt|hlt
   .left;have:(j+1)*e.sz<=i*e.sz:=B1 _ hlt;rw[C8]at this;omega
   .right;have:(i+1)*e.sz<=j*e.sz:=B1 _ hlt;rw[C8]at this;omega
theorem getD_some{α:Type}{xs:List α}{i:Nat}{d:α}(h:i<xs.length):xs[i]?=some (xs.getD i d):=by
 rw[AG,A0 h];rfl
theorem iD{cs ds:List Value}{a o:Nat}(h:a+o+ds.length<=cs.length):(F4 cs (a+o) ds).drop a=F4 (cs.drop a) o ds:=by
 apply BV;intro q;rw[AR,KS o5,KS og,AR];by_cases h1:o<=q/\q<o+ds.length
 .rw[if_pos ⟨o5,o5⟩,if_pos h1];congr 1;omega
 .rw[if_neg o5,if_neg h1]
theorem flatten_nil{bss:List (List Nat)}(h:∀i,i<bss.length->bss.getD i []=[]):bss.flatten=[]:=by
 apply List.flatten_eq_nil_iff.2;intro l hl;obtain⟨i,hi⟩:=C9 hl;have h1:=h i (A8.1 hi).1;rw[AG,hi]at h1;exact h1
theorem DV.leaf{ow:Nat->Prop}{I:Im}{id:Nat}{t:Ty}{xs:List t.T}{v:Value}{bs:List Nat}(h:DV ow w I t [id] xs none [v] bs){b o len cap:Nat}(hv:v=.slice (some ⟨b,o,none⟩) len cap):
 ∃cells,len=xs.length/\GL xs.length cap/\RowAt w b cells id/\o+cap*t.sz<=cells.size/\ow b/\(∀c,¬I.cell b c)/\¬I.obj b/\bs=[b]/\
  ∀i x,xs[i]?=some x->Rel w I t x ((cells.toList.drop (o+i*t.sz)).take t.sz):=by
 obtain⟨v',h0,h1,h2⟩:=h;have e:v=v':=A5.1 h0;subst e;rcases h2 with⟨h2,_⟩|⟨_,h2,_⟩|⟨_,b',o',cap',cells,bss,h3,q1,q2,q3,q4,q5,q6,q7,q8,q9⟩
 .cases h2
 .rw[hv]at h2;cases h2
 .rw[hv]at h3;cases h3;have hfl:bss.flatten=[]:=flatten_nil λi hi=>(q9 i _ (A0 (by rw[<-q7];exact hi))).1;exact⟨cells,rfl,q1,q2,q3,q4,q5,q6,by rw[q8,hfl],λi x hx=>(q9 i x hx).2⟩
theorem uC(n:Nat):(List.replicate n ([]:List Nat)).flatten=[]:=by
 apply List.flatten_eq_nil_iff.2;intro l hl;exact(List.mem_replicate.1 hl).2
theorem DV.mkleaf{ow:Nat->Prop}{I:Im}{id b o cap:Nat}{t:Ty}{xs:List t.T}{cells:Array Value}(q1:GL xs.length cap)(q2:RowAt w b cells id)(q3:o+cap*t.sz<=cells.size)(q4:ow b)
 (q5:∀c,¬I.cell b c)(q6:¬I.obj b)(q9:∀i x,xs[i]?=some x->Rel w I t x ((cells.toList.drop (o+i*t.sz)).take t.sz)):DV ow w I t [id] xs none [.slice (some ⟨b,o,none⟩) xs.length cap] [b]:=by
 refine⟨_,rfl,rfl,.inr (.inr ⟨ou,b,o,cap,cells,List.replicate xs.length [],rfl,q1,q2,q3,q4,q5,q6,BU,by rw[uC],λi x hx=>⟨?_,q9 i x hx⟩⟩)⟩;rw[AG,DD];split<;>rfl
theorem A8q{I:Im}{e:Ty}{xs:List e.T}{c ds:List Value}{o1 i o2:Nat}{z:e.T}(hc:o1+xs.length*e.sz<=c.length)
 (h:∀j y,xs[j]?=some y->Rel w I e y ((c.drop (o1+j*e.sz)).take e.sz))(hi:i<xs.length)
 (hz:Rel w I e z (F4 ((c.drop (o1+i*e.sz)).take e.sz) o2 ds))(ho:o2+ds.length<=e.sz):
 ∀j y,(xs.set i z)[j]?=some y->Rel w I e y (((F4 c (o1+i*e.sz+o2) ds).drop (o1+j*e.sz)).take e.sz):=by
 intro j y hy;have hmul:(i+1)*e.sz<=xs.length*e.sz:=B1 _ hi;rw[C8]at hmul;have:=XY (c:=c.drop o1) (ds:=ds) (i:=i) (o2:=o2) (z:=z) (w:=w) (I:=I) (xs:=xs) og (λj y hy=>by rw[CM];exact h j y hy) hi (by rw[CM];exact hz) ho j y hy;rw[<-iD o5,CM,<-C7]at this;exact this
theorem A8r{t:Ty}{id:Nat}(hl:Lay P t id)(hm:MemS P fr free σ w G)(hσ:∀k o,σ' k=some o->σ k=some o){k id' i gk:Nat}{e u:Ty}{xs:List e.T}{q:List Bool}{s:SV}{v vp:Value}{y:t.T}{z:e.T}
 (hk:σ k=some (.dp [id'] e xs gk none true))(hy:s.asV σ' t=some y)(hz:Ty.put e q (xs.getD i e.dflt) t y=some z)(hp:SR P w G (.elem k 0 i q u) vp)(hv:SR P w G s v):
 ∃w',(Instr.storeAt id vp v).run P w=.ok () w'/\GLe w G w' G/\MemS P fr (HO free self) (EK σ [(k,some (.dp [id'] e (xs.set i z) gk none true))]) w' G:=by
 have run:∀{a:Addr} {w':World},(storeVar id a v).run P w=.ok () w'->(Instr.storeAt id (.pointer (some a)) v).run P w=.ok () w':=by
  intro a w' h;simp only[Instr.storeAt,Sem.run_bind,Instr.sureAddr,Sem.run_pure,Result.andThen_ok];exact h
 have ho:∀k o,σ' k=some o->ObjOK P fr w G k o:=λk o h=>hm.objs k o (hσ k o h);obtain⟨b,o1,len,cap,e',o2,h1,h2,h3,h4,h5,rfl⟩:=MM hp;obtain⟨h0,hety,v',us,bs,k1,k4,k5,k6,k3⟩:=DpOK.inv (hm.objs _ _ hk);have k1':=k1;rw[h1]at k1';cases k1';have hety:G.ety k=some e:=hety;rw[hety]at h2;cases h2;have k3:DV fr.owned w G.im e [id'] xs none [.slice (some ⟨b,o1,none⟩) len cap] bs:=k3;obtain⟨cs,rfl,r1,r2,r3,r4,r5,r6,rfl,r9⟩:=k3.leaf rfl;have hvr:=(II ho hy hv).cells;obtain⟨z1,z2,z3⟩:=XP (r9 i _ (getD_some h3)) hz h4 hvr;have hlen:=hvr.length;have hmul:(i+1)*e.sz<=xs.length*e.sz:=B1 _ h3;rw[C8]at hmul;have hcap:xs.length*e.sz<=cap*e.sz:=B1 _ r1.1;have hcs:cs.toList.length=cs.size:=BR;have hcl:o1+xs.length*e.sz<=cs.toList.length:=o5
 have hcl2:o1+i*e.sz+o2+v.cells.toList.length<=cs.toList.length:=by rw[hlen];omega
 obtain⟨fz,r2a,_⟩:=(show RowAt w b cs id' from r2)
 have hblk:∀b',Bk G k (.dp [id'] e (xs.set i z) gk none true) b'->b'=b:=by
  rintro b' ⟨_,us',hu,hb'⟩;rw[k4]at hu;cases hu;rw[KR k5]at hb';simpa using hb'
 obtain ⟨q1,q2⟩:=hm.set (self:=self) (new:=(F4 cs.toList (o1+i*e.sz+o2) v.cells.toList).toArray) (o':=.dp [id'] e (xs.set i z) gk none true) (b:=b) hk ⟨rfl,us,k4,(KR k5).2 AI⟩ r2a r5 r6 r4 (λhh hle =>
  ⟨⟨h0,hety,_,us,_,h1,k4,k5,k6,by
   have:=DV.mkleaf (ow:=fr.owned) (w:=w.setRow b (F4 cs.toList (o1+i*e.sz+o2) v.cells.toList).toArray) (I:=G.im) (id:=id') (b:=b) (o:=o1) (cap:=cap) (xs:=xs.set i z) (cells:=(F4 cs.toList (o1+i*e.sz+o2) v.cells.toList).toArray)
    (by rw[AP];exact r1) (r2.set (by rw[BJ,JM hcl2];simp)) (by rw[BJ,JM hcl2];simpa using r3) r4 r5 r6
    (λj' y' hy'=>by
     have:=A8q (o1:=o1) hcl r9 h3 z3 (by rw[hlen];exact z2) j' y' hy';simpa using Rel.ext hle.ext this)
   rw[AP]at this;exact⟨this,trivial⟩⟩,hblk⟩)
 exact⟨_,run (iC hl r2 hlen hvr.oneCell (by rw[<-hcs,<-hlen];exact hcl2)),q1,q2⟩
theorem A8s{t:Ty}{id:Nat}(hl:Lay P t id)(hm:MemS P fr free σ w G)(hσ:∀k o,σ' k=some o->σ k=some o){s sp:SV}{v vp:Value}{k:Nat}{o':Obj}
 (hr:storeAt σ' t s sp=some (k,o'))(hp:SR P w G sp vp)(hv:SR P w G s v):
 ∃w',(Instr.storeAt id vp v).run P w=.ok () w'/\GLe w G w' G/\MemS P fr (HO free self) (EK σ [(k,some o')]) w' G:=by
 have run:∀{a:Addr} {w':World},(storeVar id a v).run P w=.ok () w'->(Instr.storeAt id (.pointer (some a)) v).run P w=.ok () w':=by
  intro a w' h;simp only[Instr.storeAt,Sem.run_bind,Instr.sureAddr,Sem.run_pure,Result.andThen_ok];exact h
 have ho:∀k o,σ' k=some o->ObjOK P fr w G k o:=λk o h=>hm.objs k o (hσ k o h);unfold storeAt at hr;split at hr
 .rename_i j p u;split at hr
  .rename_i hub;split at hr
   .rename_i bt c hk;split at hr
    .rename_i s1 hs1;cases hc':c.setAt p s1 with
     |none=>rw[hc']at hr;cases hr
     |some c'=>
      rw[hc']at hr;cases hr;obtain⟨b,t',o,h1,h2,⟨u1,h3,h4⟩,rfl⟩:=IA hp;have hobj:=ho _ _ hk;obtain⟨b',cs,el,k1,k2,k3,k4,k5,k6,k7,k8⟩:=hobj;rw[h1]at k1;cases k1;obtain⟨f1,f2,f3⟩:=A8o hs1 hv;have hu1:u1.bare=t.bare:=h4.trans (Ty.same_eq hub);have f1':=f1.of_bare hu1;obtain⟨m1,m2,m3⟩:=hJ k4 k5 hc' h2 h3 f1' f2;have hlen:v.cells.toList.length=t.sz:=f1.len f2;have hsz:u1.sz=t.sz:=by rw[<-Ty.sz_bare,hu1,Ty.sz_bare]
      obtain ⟨q1,q2⟩:=hm.set (self:=self) (new:=(F4 cs.toList o v.cells.toList).toArray) (o':=.box bt c' true) (hσ _ _ hk) (by simp [Bk,h1]) k2 (k6.1 rfl) k7 k8.1 (λhh hle =>
       ⟨⟨b,_,el,h1,hh,by simp[JM (cs:=cs.toList) (ds:=v.cells.toList) (o:=o) (by rw[hlen];simp;omega),k3],m1,by simpa using m3.mono hle,k6,k7,k8⟩,by intro b' hb';simp[Bk,h1]at hb';exact hb'.symm⟩)
      exact⟨_,run (uB hl k2 hlen f3 o5),q1,q2⟩
    .cases hr
   .cases hr
  .cases hr
 .rename_i j p i q u;split at hr
  .rename_i bt c hk;split at hr
   .rename_i n' e' xs hg;split at hr
    .rename_i y hy;split at hr
     .rename_i z hz;cases hc':sY c p n' e' xs i z with
      |none=>rw[hc']at hr;cases hr
      |some c'=>
       rw[hc']at hr;cases hr;obtain⟨b,t',o,n,e,o2,h1,h2,⟨u0,h3,h3'⟩,h4,h5,h6,rfl⟩:=XT hp;obtain⟨b',cs,el,k1,k2,k3,k4,k5,k6,k7,k8⟩:=ho _ _ hk;rw[h1]at k1;cases k1;obtain⟨o',u1,m1,m2,m3,m4,m5⟩:=TK k4 k5 hg;rw[h2]at m1;cases m1;rw[h3]at m2;cases m2;have he:Ty.arr n' e'=Ty.arr n e:=(show(Ty.arr n' e').bare=u0.bare from m3).trans h3';have hne:n=n'/\e=e':=by injection he with a b;exact⟨a.symm,b.symm⟩
       obtain⟨rfl,rfl⟩:=hne;have hu0:u0.sz=n*e.sz:=by rw[<-Ty.sz_bare,h3'];rfl
       obtain⟨r1,r2,r3⟩:=m5;have r1':xs.length=n:=r1;have hi:i<xs.length:=by rw[r1'];exact h4
       have hvr:=(JL hy hv).cells;obtain⟨z1,z2,z3⟩:=XP (r3 i _ (getD_some hi)) hz h5 hvr;have hlen:=hvr.length;have hmul:(i+1)*e.sz<=n*e.sz:=B1 _ h4;rw[C8]at hmul;have hcl:((cs.toList.drop o).take u0.sz).length=n*e.sz:=r2;have hbig:o+u0.sz<=cs.toList.length:=og
       have hnewrel:CR P w G (.val (.arr n e) (xs.set i z)) (F4 ((cs.toList.drop o).take u0.sz) (i*e.sz+o2) v.cells.toList):=by
        refine⟨Eq.trans (AP (as:=(show List e.T from xs)) (i:=i) (a:=z)) r1',by rw[JM (by rw[hcl,hlen];omega)];exact r2,?_⟩;exact XY (by rw[hcl,r1'];exact AB _) r3 hi z3 (by rw[hlen];exact z2)
       obtain⟨w1,w2,w3⟩:=hJ (u:=u0) k4 k5 hc' h2 h3 (show(Ty.arr n e).bare=u0.bare from h3'.symm) hnewrel;rw[A8n hbig (by rw[hlen];omega),<-C7]at w3
       obtain ⟨q1,q2⟩:=hm.set (self:=self) (new:=(F4 cs.toList (o+i*e.sz+o2) v.cells.toList).toArray) (o':=.box bt c' true) (hσ _ _ hk) (by simp [Bk,h1]) k2 (k6.1 rfl) k7 k8.1 (λhh hle =>
        ⟨⟨b,_,el,h1,hh,by rw[BJ,JM (by rw[hlen];omega)];simpa using k3,w1,by simpa using w3.mono hle,k6,k7,k8⟩,by intro b' hb';simp[Bk,h1]at hb';exact hb'.symm⟩)
       exact⟨_,run (uB hl k2 hlen hvr.oneCell (by simp at hbig;omega)),q1,q2⟩
     .cases hr
    .cases hr
   .cases hr
  .cases hr
 .rename_i j g i q u;split at hr
  .rename_i id' e xs g' hk;cases hg:Nat.beq g g' with
   |false=>rw[hg]at hr;cases hr
   |true=>
    rw[hg]at hr;simp only[AA]at hr;have:=A2 hg;subst this;split at hr
    .rename_i y hy;split at hr
     .rename_i z hz;cases hr;obtain⟨b,o1,len,cap,e',o2,h1,h2,h3,h4,h5,rfl⟩:=MM hp;obtain⟨hety,v',k1,k2⟩:=ho _ _ hk;rw[h1]at k1;cases k1;rw[hety]at h2;cases h2;rcases k2 with⟨hv',_⟩|⟨b',cap',cs,hv',r1,r2,r3,r4,r5,r6,r7,r8⟩
      .cases hv'
      .cases hv';rw[B8];have hvr:=(II ho hy hv).cells;obtain⟨z1,z2,z3⟩:=XP (r4 i _ (getD_some h3)) hz h4 hvr;have hlen:=hvr.length;have hmul:(i+1)*e.sz<=xs.length*e.sz:=B1 _ h3;rw[C8]at hmul;have hcap:xs.length*e.sz<=cap*e.sz:=B1 _ r1.1;have hcl:xs.length*e.sz<=cs.toList.length:=by simp[r3];exact hcap
       obtain⟨fz,r2a,_⟩:=(show RowAt w b cs id' from r2)
       obtain ⟨q1,q2⟩:=hm.set (self:=self) (new:=(F4 cs.toList (i*e.sz+o2) v.cells.toList).toArray) (o':=.sl id' e (xs.set i z) g true) (hσ _ _ hk) (by simp [Bk,h1]) r2a (r6 rfl) r8 r5 (λhh hle =>
        ⟨⟨hety,_,h1,.inr ⟨b,cap,_,by rw [AP],by rw [AP]; exact r1,r2.set (by rw [BJ,JM (by rw [hlen]; simp at hcl; simp; omega)]; simp),
          by rw[BJ,JM (by rw[hlen];omega)];simpa using r3,
          λj' y' hy'=>by
           have:=XY hcl r4 h3 z3 (by rw[hlen];exact z2) j' y' hy';simpa using this.ext hle.ext,r5,r6,λh=>(oe),r8⟩⟩,by intro b' hb';simp[Bk,h1]at hb';exact hb'.symm⟩)
       exact⟨_,run (iC hl r2 hlen hvr.oneCell (by simp at hcl;omega)),q1,q2⟩
     .cases hr
    .cases hr
  .rename_i id' e xs gk hk;cases hg:Nat.beq g 0 with
   |false=>rw[hg]at hr;cases hr
   |true=>
    rw[hg]at hr;simp only[AA]at hr;have:=A2 hg;subst this;split at hr
    .rename_i y hy;split at hr
     .rename_i z hz;cases hr;exact A8r (xs:=xs) hl hm hσ (hσ _ _ hk) hy hz hp hv
     .cases hr
    .cases hr
  .cases hr
 .cases hr
end
def Gh.addBox(G:Gh)(k b:Nat)(t:Ty):Gh:={G with box:=λj=>if j=k then some (b,t)else G.box j}
def Gh.addVal(G:Gh)(k g:Nat)(v:Value):Gh:={G with val:=λj h=>if j=k/\h=g then some v else G.val j h}
def Gh.addEty(G:Gh)(k:Nat)(t:Ty):Gh:={G with ety:=λj=>if j=k then some t else G.ety j}
def Gh.addIm(G:Gh)(b lo hi:Nat):Gh:={G with im:=⟨λb' o=>G.im.cell b' o\/(b'=b/\lo<=o/\o<hi),G.im.obj⟩}
theorem iE(k:Nat):IH k k=true:=by
 simp only[IH,Nat.blt,A4];exact⟨C5 (AB k),C5 o5⟩
section
variable{P:Program}{fr:Fr}{free free':Nat->Prop}{self:Nat}{σ σ':SSo}{w w':World}{G G':Gh}
theorem MemS.owned_new(hm:MemS P fr free σ w G):fr.owned w.heap.size:=.inl hm.after.size
theorem MemS.new(hm:MemS P fr free σ w G)(hself:free self){ob:Go.Obj}{o':Obj}
 (hw:w'.heap=w.heap.push ob)(hos:w'.os=w.os)(htape:w'.tape=w.tape)(hout:w'.output=w.output)
 (hI:∀b off,G.im.cell b off->G'.im.cell b off)(hC:∀b off,G'.im.cell b off->G.im.cell b off\/b=w.heap.size)(hO:G'.im.obj=G.im.obj)
 (hv:∀j,j≠self->G'.box j=G.box j/\G'.ety j=G.ety j/\∀g,G'.val j g=G.val j g)
 (hk:w'.heap[w.heap.size]?=some ob->GLe w G w' G'->ObjOK P fr w' G' self o'/\∀b',Bk G' self o' b'->b'=w.heap.size):
 GLe w G w' G'/\MemS P fr (HO free self) (EK σ [(self,some o')]) w' G':=by
 have hf:=hm.fresh self hself;have hold:∀b,b<w.heap.size->w'.heap[b]?=w.heap[b]?:=λb hb=>by rw[hw,CP hb,AY hb]
 have hnew:w'.heap[w.heap.size]?=some ob:=by rw[hw,CJ]
 have hle:GLe w G w' G':=by
  refine⟨⟨λb o h=>⟨hI b o h,?_⟩,λb h=>⟨hO▸h,hold b (hm.after.inO b h)⟩⟩,λk g v h=>?_,λk t h=>?_,λk b h=>?_⟩
  .simp only[World.cell?,hold b (hm.after.inC b o h)]
  .have:k≠self:=λe=>by rw[e,hf.2.2.2 g]at h;cases h
   rw[(hv k this).2.2 g];exact h
  .have:k≠self:=λe=>by rw[e,hf.2.1]at h;cases h
   rw[(hv k this).2.1];exact h
  .have:k≠self:=λe=>by rw[e,hf.2.2.1]at h;cases h
   rw[(hv k this).1];exact h
 obtain⟨h1,h2⟩:=hk hnew hle;refine⟨hle,hm.change (b:=w.heap.size) hle ?_ (λb' h _=>hold b' h) (by rw[hw];simp) (by rw[hw];simp) hm.owned_new hC (λb' h=>.inl (hO▸h)) hos htape hout ?_ ?_⟩
 .intro j o _ ho hb;exact absurd (HP (hm.objs j o ho) hb) (AH _)
 .intro o ho;cases ho;exact⟨h1,λb' hb'=>.inl (h2 b' hb')⟩
 .intro j hj
  have hne:j≠self:=λe=>by
   subst e;have:=hj.2;rw[iE]at this;cases this
  have hfj:=hm.fresh j hj.1;obtain⟨q1,q2,q3⟩:=hv j hne;exact⟨hne,hj.1,q2.trans hfj.2.1,q1.trans hfj.2.2.1,λg=>(q3 g).trans (hfj.2.2.2 g)⟩
theorem A8t{t:Ty}{x:t.T}{c:List Value}(h:Rel w G.im t x c):Fit (SV.unagg (.val t x)) t.bare/\CR P w G (SV.unagg (.val t x)) c:=by
 cases t with
 |agg p=>
  refine⟨?_,h⟩;show p.bare=p.bare;rfl
 |_=>exact⟨rfl,h⟩
theorem A8u:∀{t:Ty} {l r:List Value},zc t l=some r->∃c,l=c++r/\CR P w G (GT t) c/\Fit (GT t) t/\c.length=t.sz:=by
 intro t
 have base:∀{t:Ty} {l r:List Value},GT t=.val t t.dflt->zc t l=some r->∃c,l=c++r/\CR P w G (GT t) c/\Fit (GT t) t/\c.length=t.sz:=by
  intro t l r hz h;obtain⟨c,h1,h2⟩:=tU (w:=w) (I:=G.im) h;rw[hz];exact⟨c,h1,h2,rfl,h2.length⟩
 have pair:∀{a b:Ty} (_:∀{l r:List Value},zc a l=some r->∃c,l=c++r/\CR P w G (GT a) c/\Fit (GT a) a/\c.length=a.sz)
  (_:∀{l r:List Value},zc b l=some r->∃c,l=c++r/\CR P w G (GT b) c/\Fit (GT b) b/\c.length=b.sz) {l r:List Value},zc (.prod a b) l=some r->
  ∃c,l=c++r/\CR P w G (.pr (GT a) (GT b)) c/\(Fit (GT a) a/\Fit (GT b) b)/\c.length=a.sz+b.sz:=by
  intro a b ha hb l r h;simp only[zc]at h;split at h
  .rename_i r' hr;obtain⟨c1,rfl,h2,h3,h4⟩:=ha hr;obtain⟨c2,rfl,k2,k3,k4⟩:=hb h;exact⟨c1++c2,oc,⟨c1,c2,rfl,h2,k2⟩,⟨h3,k3⟩,by simp[h4,k4]⟩
  .cases h
 have slc:∀{e:Ty} {l r:List Value},zc (.slice e) l=some r->∃c,l=c++r/\c=[Value.slice none 0 0]:=by
  intro e l r h;simp only[zc]at h;split at h
  .cases h;exact⟨[_],rfl,rfl⟩
  .cases h
 have key:∀(n:Nat) (t:Ty),SizeOf.sizeOf t<n->∀{l r:List Value},zc t l=some r->∃c,l=c++r/\CR P w G (GT t) c/\Fit (GT t) t/\c.length=t.sz:=by
  intro n;induction n with
  |zero=>intro t h;omega
  |succ n ih=>
   intro t hn l r h;cases t with
   |prod a b=>
    simp only[Ty.prod.sizeOf_spec]at hn;obtain⟨c,h1,h2,h3,h4⟩:=pair (ih a o5) (ih b o5) h;exact⟨c,h1,h2,⟨a,b,rfl,h3.1,h3.2⟩,h4⟩
   |slice e=>
    obtain⟨c,h1,rfl⟩:=slc h;exact⟨_,h1,rfl,rfl,rfl⟩
   |agg p=>
    cases p with
    |prod a b=>
     simp only[Ty.agg.sizeOf_spec,Ty.prod.sizeOf_spec]at hn;obtain⟨c,h1,h2,h3,h4⟩:=pair (ih a o5) (ih b o5) (show zc (.prod a b) l=some r from h);exact⟨c,h1,h2,⟨a,b,rfl,h3.1,h3.2⟩,h4⟩
    |_=>exact base rfl h
   |_=>exact base rfl h
 intro l r h;exact key (SizeOf.sizeOf t+1) t o5 h
theorem uD{t:Ty}{id:Nat}(hm:MemS P fr free σ w G)(hself:free self){c:SV}{cs:Array Value}(hc:CR P w G c cs.toList)(hf:Fit c t)(hl:cs.size=t.sz)(hbl:t=GG->Lay P (.agg GG) id):
 ∃G',GLe w G (w.alloc (.cells cs id)) G'/\MemS P fr (HO free self) (EK σ [(self,some (.box t c true))]) (w.alloc (.cells cs id)) G'/\
  SR P (w.alloc (.cells cs id)) G' (.ptr self [] t) (.pointer (some ⟨w.heap.size,0,none⟩)):=by
 obtain⟨h1,h2⟩:=hm.new (w':=w.alloc (.cells cs id)) (G':=G.addBox self w.heap.size t) (o':=.box t c true) hself rfl rfl rfl rfl
  (λ_ _ h=>h) (λ_ _ h=>.inl h) rfl (λj hj=>⟨by simp [Gh.addBox,hj],rfl,λ_=>rfl⟩) (λhn hle =>
   ⟨⟨w.heap.size,cs,id,by simp[Gh.addBox],hn,hl,hf,hc.mono hle,⟨λ_ o ho=>absurd (hm.after.inC _ _ ho) (AH _),λh=>oe⟩,λho=>absurd (hm.after.inO _ ho) (AH _),hm.owned_new,hbl⟩,by intro b' hb';simp[Bk,Gh.addBox]at hb';exact hb'.symm⟩)
 refine⟨_,h1,h2,_,rfl,w.heap.size,t,0,by simp[Gh.addBox],by cases t<;>rfl,⟨t,by cases t<;>rfl,rfl⟩,rfl⟩
theorem Lay.bld{t:Ty}{id:Nat}(hl:Lay P t id)(h:t.bare=GG):Lay P (.agg GG) id:=by
 cases t with
 |agg p=>have h:p=GG:=h;subst h;exact hl
 |prod a b=>cases hl
 |_=>cases h
theorem A8v{t:Ty}{id:Nat}(hl:Lay P t id):∃v,(zeroValue id).run P w=.ok v w/\VRel w G.im t t.dflt v:=by
 obtain⟨i,v,h1,h2,h3,h4,h5⟩:=IU hl.inf;refine⟨v,?_,(XQ h5).1⟩;simp[zeroValue,typeInfo,h1,h4]
theorem uE(t:Nat)(v:Value):(newVar t v).run P w=.ok ⟨w.heap.size,0,none⟩ (w.alloc (.cells v.cells t)):=by
 simp[newVar,newRow]
theorem uF{t:Ty}{v:Value}(h:zv t v=true):CR P w G (GT t.bare) v.cells.toList/\Fit (GT t.bare) t.bare/\v.cells.size=t.bare.sz:=by
 have ag:∀{t:Ty} {l:List Value},NK t l=true->CR P w G (GT t) l/\Fit (GT t) t/\l.length=t.sz:=by
  intro t l h;unfold NK at h;split at h
  .rename_i hz;obtain⟨c,h1,h2,h3,h4⟩:=A8u (P:=P) (w:=w) (G:=G) hz;rw[C3]at h1;rw[h1];exact⟨h2,h3,h4⟩
  .cases h
 cases t with
 |agg t=>
  simp only[zv]at h;split at h
  .rename_i cs;obtain⟨h1,h2,h3⟩:=ag h;exact⟨h1,h2,(BR (xs:=cs)).symm.trans h3⟩
  .cases h
 |arr n e=>
  simp only[zv]at h;split at h
  .rename_i cs;obtain⟨h1,h2,h3⟩:=ag h;exact⟨h1,h2,(BR (xs:=cs)).symm.trans h3⟩
  .cases h
 |_=>
  simp only[zv]at h;split at h
  .cases h
  .rename_i hv;obtain⟨h1,h2,h3⟩:=ag h;rw[Value.cells_of_not_agg hv];exact⟨h1,h2,h3⟩
theorem A8w{t:Ty}{id:Nat}(hl:Lay P t id)(hm:MemS P fr free σ w G)(hself:free self):
 ∃v w',(Instr.alloc id true (.tuple #[])).run P w=.ok v w'/\
  Res P fr free self σ w G ⟨.ptr self [] t.bare,[(self,some (.box t.bare (GT t.bare) true))]⟩ v w':=by
 obtain⟨i,z,h1,h2,h3,h4,h5⟩:=IU hl.inf;have hz:(zeroValue id).run P w=.ok z w:=by simp[zeroValue,typeInfo,h1,h4]
 obtain⟨c1,c2,c3⟩:=uF (P:=P) (w:=w) (G:=G) h5;obtain⟨G',g1,g2,g3⟩:=uD (id:=id) hm hself c1 c2 c3 hl.bld;refine⟨_,_,?_,G',g1,g2,g3⟩;simp only[Instr.alloc,Sem.run_bind,hz,Result.andThen_ok,uE];rfl
theorem A8x{t:Ty}{id:Nat}(hl:Lay P t id)(hm:MemS P fr free σ w G)(hself:free self){s c:SV}{v:Value}(hs:QE t s=some c)(h:SR P w G s v):
 ∃z w',(Instr.box id v).run P w=.ok z w'/\
  Res P fr free self σ w G ⟨.ptr self [] t.bare,[(self,some (.box t.bare c.unagg true))]⟩ z w':=by
 have hc:CR P w G c.unagg v.cells.toList/\Fit c.unagg t.bare/\v.cells.size=t.bare.sz:=by
  have hd:∀{x:t.T},c=.val t x->VRel w G.im t x v->CR P w G c.unagg v.cells.toList/\Fit c.unagg t.bare/\v.cells.size=t.bare.sz:=by
   intro x hx hv;subst hx;have hr:=hv.cells;obtain⟨f1,f2⟩:=A8t (P:=P) hr;have hlen:=hr.length;exact⟨f2,f1,by rw[Ty.sz_bare];simpa using hlen⟩
  have hbt:∀{a b:Ty} {c0:SV} {cs':List Value},t=.agg (.prod a b)->Fit c0 (.prod a b)->CR P w G c0 cs'->CR P w G c0.unagg cs'/\Fit c0.unagg t.bare/\cs'.toArray.size=t.bare.sz:=by
   intro a b c0 cs' ht hf hr;have hlen:=hf.len hr;subst ht;have hsz:cs'.toArray.size=(Ty.prod a b).sz:=by simpa using hlen
   cases c0 with
   |val u y=>
    cases u with
    |agg q=>
     have hq:q=.prod a b:=hf;subst hq;exact⟨hr,rfl,hsz⟩
    |_=>exact⟨hr,hf,hsz⟩
   |_=>exact⟨hr,hf,hsz⟩
  have h1:∀{s:SV},(∀u x,s≠.val u x)->SR P w G s v->v.cells= #[v]->CR P w G s v.cells.toList:=by
   intro s hn hs hv;rw[hv];exact SR.one hs hn
  unfold QE at hs;split at hs
  .rename_i k g;have hone:=hZ h;have hv:v.cells= #[v]:=by cases v<;>first|rfl|cases hone
   cases t<;>first|(cases hs;done)|skip
   all_goals
    cases hs;exact⟨h1 (λ_ _ e=>by cases e) h hv,rfl,by rw[hv];rfl⟩
  .rename_i k p u;obtain⟨b,t',o,_,_,_,rfl⟩:=IA h;cases t<;>first|(cases hs;done)|skip
   cases hs;exact⟨h1 (λ_ _ e=>by cases e) h rfl,rfl,rfl⟩
  .rename_i u c0;cases hb:u.same t with
   |false=>rw[hb]at hs;cases hs
   |true=>
    rw[hb]at hs;have hs:=A3 hs;subst hs;have:=Ty.same_eq hb;subst this;obtain⟨cc,hcc,cs',e1,e2,e3,e4⟩:=h;have hv:v=.agg cs'.toArray:=A5.1 ((show cc=[v]from hcc).symm.trans e1);subst hv;obtain⟨a,b,e2a,e2b⟩:=e2;exact hbt e2a e2b e4
  .have hcr:=h;obtain⟨cc,hcc,vs,q1,q2⟩:=h;have hv:v=_:=A5.1 ((show cc=[v]from hcc).symm.trans q1);subst hv;cases t<;>first|(cases hs;done)|skip
   cases hs;exact⟨h1 (λ_ _ e=>by cases e) hcr rfl,rfl,rfl⟩
  .cases hx:SV.as t s with
   |none=>rw[hx]at hs;cases hs
   |some x=>
    rw[hx]at hs;cases hs;exact hd rfl (JL hx h)
 obtain⟨c1,c2,c3⟩:=hc;obtain⟨G',g1,g2,g3⟩:=uD (id:=id) hm hself c1 c2 c3 hl.bld;refine⟨_,_,?_,G',g1,g2,g3⟩;simp only[Instr.box,Sem.run_bind,uE,Result.andThen_ok];rfl
end
def RowsOK(w:World)(I:Im)(t:Ty)(xs:List t.T)(cs:List Value):Prop:=∀(i:Nat) (x:t.T),xs[i]?=some x->Rel w I t x ((cs.drop (i*t.sz)).take t.sz)
section
variable{P:Program}{fr:Fr}{free free':Nat->Prop}{self:Nat}{σ σ':SSo}{w w':World}{G G':Gh}{I:Im}
theorem RowsOK.ext{I':Im}{t:Ty}{xs:List t.T}{cs:List Value}(h:RowsOK w I t xs cs)(e:Ext w I w' I'):RowsOK w' I' t xs cs:=λi x hx=>(h i x hx).ext e
theorem lt_of_getElem? {α:Type}{l:List α}{i:Nat}{x:α}(h:l[i]?=some x):i<l.length:=(A8.1 h).1
theorem NM{i n s:Nat}(h:i<n):i*s+s<=n*s:=by
 have:=B1 s h;rwa[C8]at this
theorem RowsOK.append{t:Ty}{xs ys:List t.T}{cs ds rest:List Value}(hx:RowsOK w I t xs cs)(hy:RowsOK w I t ys ds)(hc:cs.length=xs.length*t.sz)(hd:ds.length=ys.length*t.sz):
 RowsOK w I t (xs++ys) (cs++(ds++rest)):=by
 intro i x hi;by_cases h:i<xs.length
 .rw[AQ h]at hi;rw[XN (by rw[hc];exact NM h)];exact hx i x hi
 .have h':xs.length<=i:=DJ h;rw[AZ h']at hi;have hlt:=lt_of_getElem? hi
  have e:i*t.sz=cs.length+(i-xs.length)*t.sz:=by
   rw[hc,<-CF];congr 1;omega
  rw[e,XO,XN (by rw[hd];exact NM hlt)];exact hy _ x hi
theorem uG{cs:List Value}{n o s:Nat}(h:o+s<=n):((cs.take n).drop o).take s=(cs.drop o).take s:=by
 rw[DI,DQ]
 congr 1
 omega
theorem RowsOK.take{t:Ty}{xs:List t.T}{cs:List Value}{n:Nat}(hx:RowsOK w I t xs cs)(hn:xs.length*t.sz<=n):RowsOK w I t xs (cs.take n):=by
 intro i x hi;rw[uG (AU (NM (lt_of_getElem? hi)) hn)];exact hx i x hi
theorem RowsOK.untake{t:Ty}{xs:List t.T}{cs:List Value}{n:Nat}(hx:RowsOK w I t xs (cs.take n))(hn:xs.length*t.sz<=n):RowsOK w I t xs cs:=by
 intro i x hi;have:=hx i x hi;rwa[uG (AU (NM (lt_of_getElem? hi)) hn)]at this
theorem RowsOK.set{t:Ty}{xs:List t.T}{cs ds:List Value}{i:Nat}{z:t.T}(h:RowsOK w I t xs cs)(hc:xs.length*t.sz<=cs.length)(hi:i<xs.length)(hz:Rel w I t z ds):
 RowsOK w I t (xs.set i z) (F4 cs (i*t.sz) ds):=by
 have hl:=hz.length
 have:=XY (o2:=0) (ds:=ds) hc h hi (z:=z) (by
  have hlen:((cs.drop (i*t.sz)).take t.sz).length=t.sz:=by
   have:=NM (s:=t.sz) hi;simp;omega
  have e:F4 ((cs.drop (i*t.sz)).take t.sz) 0 ds=ds:=by
   simp only[F4,DR,List.nil_append,B8];rw[List.drop_eq_nil_of_le o5,C3]
  rw[e];exact hz) o5
 exact this
theorem uH{e:Ty}{ys:List e.T}{v:Value}(h:VRel w I (.slice e) ys v):
 ∃a cap news,v=.slice a ys.length cap/\(a=none->ys=[])/\news.length=ys.length*e.sz/\RowsOK w I e ys news/\(∀u∈news,u.oneCell'=true)/\
  ∀ad,a=some ad->∀j u,news[j]?=some u->ad.spot=none/\w.cell? ⟨ad.block,ad.off+j,none⟩=some u:=by
 obtain⟨c,hc,a,cap,rfl,hcap,hnil0,had⟩:=h;have hnil:a=none->ys=[]:=λh=>(hnil0 h).1;have hv:[v]=[.slice a ys.length cap]:=(show _=[v]from hc).symm;injection hv with hv _;cases a with
 |none=>
  have:=hnil rfl;refine⟨none,cap,[],hv,hnil,?_,?_,oc,oc⟩
  .rw[show ys=[]from this];simp
  .rw[show ys=[]from this];intro i x hx;simp at hx
 |some ad=>
  obtain⟨hs,hr⟩:=had ad rfl
  have hcell:∀j,j<ys.length*e.sz→∃u,w.cell? ⟨ad.block,ad.off+j,none⟩=some u:=by
   intro j hj
   have hpos : 0 < e.sz := by rcases D0 e.sz with h | h; · rw [h] at hj; simp at hj
                              .exact h
   have hi:j / e.sz<ys.length:=Nat.div_lt_of_lt_mul (by rw[CU];exact hj);obtain⟨c,hrow,_⟩:=hr (j / e.sz) _ (A0 hi);have hm:=Nat.mod_lt j hpos;have:=(hrow.at_ (j % e.sz) hm).2;rw[C7,Nat.div_add_mod']at this;rw[this];exact⟨_,A0 (by rw[hrow.len];exact hm)⟩
  have hnews:∀j,((List.range (ys.length*e.sz)).map λj=>(w.cell? ⟨ad.block,ad.off+j,none⟩).getD undef)[j]?=if j<ys.length*e.sz then w.cell? ⟨ad.block,ad.off+j,none⟩else none:=by
   intro j;by_cases hj:j<ys.length*e.sz
   .obtain⟨u,hu⟩:=hcell j hj;simp[hj,hu]
   .simp[hj]
  have hrows:RowsOK w I e ys ((List.range (ys.length*e.sz)).map λj=>(w.cell? ⟨ad.block,ad.off+j,none⟩).getD undef):=by
   intro i x hx;obtain⟨c,hrow,hrel⟩:=hr i x hx;have hb:=NM (s:=e.sz) (lt_of_getElem? hx)
   have:c=(((List.range (ys.length*e.sz)).map λj=>(w.cell? ⟨ad.block,ad.off+j,none⟩).getD undef).drop (i*e.sz)).take e.sz:=by
    apply BV;intro j;by_cases hj:j<e.sz
    .rw[AK,if_pos hj,AR,hnews,if_pos (B0 (Nat.add_lt_add_left hj _) hb),<-C7];exact(hrow.at_ j hj).2.symm
    .rw[AK,if_neg hj,B9 (by rw[hrow.len];omega)]
   rw[<-this];exact hrel
  refine⟨some ad,cap,_,hv,hnil,oc,hrows,?_,?_⟩
  .intro u hu;obtain⟨j,hj,hju⟩:=List.mem_iff_getElem.1 hu;have hj':j<ys.length*e.sz:=om
   have hpos : 0 < e.sz := by rcases D0 e.sz with h | h; · rw [h] at hj'; simp at hj'
                              .exact h
   have hi:j / e.sz<ys.length:=Nat.div_lt_of_lt_mul (by rw[CU];exact hj');refine Rel.oneCell (hrows (j / e.sz) _ (A0 hi)) u ?_;refine List.mem_iff_getElem?.2 ⟨j % e.sz,?_⟩;rw[AK,if_pos (Nat.mod_lt j hpos),AR,Nat.div_add_mod',A0 hj,hju]
  .intro ad' had';cases had';intro j u hj;rw[hnews]at hj;split at hj
   .rename_i hlt;refine⟨hs λh0=>?_,hj⟩;have h1:=hcap.1;rw[h0]at h1;rw[Nat.le_zero.1 h1,Nat.zero_mul]at hlt;exact absurd hlt (Nat.not_lt_zero _)
   .cases hj
theorem MemS.drop(hm:MemS P fr free σ w G)(k:Nat):MemS P fr free (EK σ [(k,none)]) w G:=by
 have hput:∀j o,EK σ [(k,none)] j=some o->σ j=some o:=by
  intro j o h;simp only[EK]at h;cases hb:Nat.beq j k with
  |true=>rw[hb]at h;cases h
  |false=>rw[hb]at h;exact h
 refine⟨λj o h=>hm.objs j o (hput j o h),λi j o o' b hi hj=>hm.sep i j o o' b (hput i o hi) (hput j o' hj),hm.after,λj hj=>?_⟩;obtain⟨h1,h2⟩:=hm.fresh j hj;refine⟨?_,h2⟩;cases h:EK σ [(k,none)] j with
 |none=>rfl
 |some o=>rw[hput j o h]at h1;cases h1
theorem MemS.take_sl(hm:MemS P fr free σ w G)(hself:free self){b el cap:Nat}{t:Ty}{xs:List t.T}{wr:Bool}{cs:Array Value}
 (hb:∀j o,σ j=some o->¬Bk G j o b)(hown:fr.owned b)
 (hw:∀b',b'<w.heap.size->b'≠b->w'.heap[b']?=w.heap[b']?)(hsz:w.heap.size<=w'.heap.size)
 (hos:w'.os=w.os)(htape:w'.tape=w.tape)(hout:w'.output=w.output)
 (hcap:GL xs.length cap)(hcs:RowAt w' b cs el)(hsize:cs.size=cap*t.sz)
 (hrows:RowsOK w G.im t xs cs.toList)
 (hW:wr=true->∀o,¬G.im.cell b o)(hA:∀o,G.im.cell b o->o<xs.length*t.sz/\w'.cell? ⟨b,o,none⟩=w.cell? ⟨b,o,none⟩)(hO:¬G.im.obj b):
 ∃G',GLe w G w' G'/\MemS P fr (HO free self) (EK σ [(self,some (.sl el t xs 0 wr))]) w' G'/\SR P w' G' (.obj self 0) (.slice (some ⟨b,0,none⟩) xs.length cap):=by
 have hf:=hm.fresh self hself;let I':Im:=bif wr then G.im else⟨λb' o=>G.im.cell b' o\/(b'=b/\o<xs.length*t.sz),G.im.obj⟩
 let G':Gh:={((G.addVal self 0 (.slice (some ⟨b,0,none⟩) xs.length cap)).addEty self t)with im:=I'}
 have hI:∀b' o,G.im.cell b' o->I'.cell b' o:=by
  intro b' o h;cases wr with
  |true=>exact h
  |false=>exact .inl h
 have hI2:∀b' o,I'.cell b' o->G.im.cell b' o\/(wr=false/\b'=b/\o<xs.length*t.sz):=by
  intro b' o h;cases wr with
  |true=>exact .inl h
  |false=>exact h.imp id (λh=>⟨rfl,h⟩)
 have hIO:I'.obj=G.im.obj:=by cases wr<;>rfl
 have hbs:b<w'.heap.size:=hcs.lt
 have hle:GLe w G w' G':=by
  refine⟨⟨λb' o h=>⟨hI b' o h,?_⟩,λb' h=>⟨hIO▸h,?_⟩⟩,λk g v h=>?_,λk t h=>?_,λk b h=>h⟩
  .by_cases hbb:b'=b
   .subst hbb;exact(hA o h).2
   .simp only[World.cell?,hw b' (hm.after.inC b' o h) hbb]
  .exact hw b' (hm.after.inO b' h) (λe=>hO (e▸h))
  .have:k≠self:=λe=>by rw[e,hf.2.2.2 g]at h;cases h
   simp only[G',Gh.addVal,Gh.addEty,this,DP,CK];exact h
  .have:k≠self:=λe=>by rw[e,hf.2.1]at h;cases h
   simp only[G',Gh.addVal,Gh.addEty,this,CK];exact h
 have hval:G'.val self 0=some (.slice (some ⟨b,0,none⟩) xs.length cap):=by simp[G',Gh.addVal,Gh.addEty]
 refine⟨G',hle,hm.change (b:=b) hle (λj o _ ho=>hb j o ho) hw hsz hbs hown ?_ (λb' h=>.inl (hIO▸h)) hos htape hout ?_ ?_,⟨_,rfl,_,hval,rfl,rfl⟩⟩
 .intro b' o h;exact(hI2 b' o h).imp id (λh=>h.2.1)
 .intro o ho;cases ho;refine⟨⟨by simp[G',Gh.addVal,Gh.addEty],_,hval,.inr ⟨b,cap,cs,rfl,hcap,hcs,hsize,hrows.ext hle.ext,hown,?_,?_,λh=>hO (hIO▸h)⟩⟩,by intro b' hb';simp[Bk,hval]at hb';exact .inl hb'.symm⟩
  .intro hwr o h;rcases hI2 b o h with h1|⟨h1,_⟩
   .exact hW hwr o h1
   .rw[hwr]at h1;cases h1
  .intro hwr o;refine⟨λh=>?_,λh=>?_⟩
   .show I'.cell b o;simp only[I',hwr,AC];exact .inr ⟨by first|rfl|trivial,h⟩
   .rcases hI2 b o h with h1|⟨_,_,h1⟩
    .exact(hA o h1).1
    .exact h1
 .intro j hj
  have hne:j≠self:=λe=>by
   subst e;have:=hj.2;rw[iE]at this;cases this
  have hfj:=hm.fresh j hj.1;refine⟨hne,hj.1,?_,hfj.2.2.1,λg=>?_⟩
  .simp only[G',Gh.addVal,Gh.addEty,hne,CK];exact hfj.2.1
  .simp only[G',Gh.addVal,Gh.addEty,hne,DP,CK];exact hfj.2.2.2 g
theorem MemS.nil_sl(hm:MemS P fr free σ w G)(hself:free self){el:Nat}{t:Ty}{wr:Bool}:
 ∃G',GLe w G w G'/\MemS P fr (HO free self) (EK σ [(self,some (.sl el t [] 0 wr))]) w G'/\SR P w G' (.obj self 0) (.slice none 0 0):=by
 have hf:=hm.fresh self hself;let G':Gh:=(G.addVal self 0 (.slice none 0 0)).addEty self t
 have hle:GLe w G w G':=by
  refine⟨Ext.refl _ _,λk g v h=>?_,λk t h=>?_,λk b h=>h⟩
  .have:k≠self:=λe=>by rw[e,hf.2.2.2 g]at h;cases h
   simp only[G',Gh.addVal,Gh.addEty,this,DP,CK];exact h
  .have:k≠self:=λe=>by rw[e,hf.2.1]at h;cases h
   simp only[G',Gh.addVal,Gh.addEty,this,CK];exact h
 have hval:G'.val self 0=some (.slice none 0 0):=by simp[G',Gh.addVal,Gh.addEty]
 have hput:∀j,EK σ [(self,some (.sl el t [] 0 wr))] j=if j=self then some (.sl el t [] 0 wr)else σ j:=by
  intro j;simp only[EK];by_cases h:j=self
  .subst h;simp[CH]
  .rw[if_neg h,show Nat.beq j self=false by rw[<-BO];exact λhh=>h (A2 hh)];rfl
 have hblk:∀b,¬Bk G' self (.sl el t [] 0 wr) b:=by intro b;simp[Bk,hval]
 refine⟨G',hle,⟨λj o ho=>?_,λi j o o' b hi hj hbi hbj=>?_,hm.after,λj hj=>?_⟩,⟨_,rfl,_,hval,rfl,rfl⟩⟩
 .rw[hput]at ho;by_cases h:j=self
  .rw[if_pos h]at ho;cases ho;subst h;exact⟨by simp[G',Gh.addVal,Gh.addEty],_,hval,.inl ⟨rfl,rfl⟩⟩
  .rw[if_neg h]at ho;exact(hm.objs j o ho).keep hle λb _=>⟨rfl,λ_ h=>h,λh=>h⟩
 .rw[hput]at hi hj;by_cases h1:i=self
  .rw[if_pos h1]at hi;cases hi;subst h1;exact absurd hbi (hblk _)
  .by_cases h2:j=self
   .rw[if_pos h2]at hj;cases hj;subst h2;exact absurd hbj (hblk _)
   .rw[if_neg h1]at hi;rw[if_neg h2]at hj;exact hm.sep i j o o' b hi hj (by rw[<-GH (hm.objs i o hi) hle];exact hbi) (by rw[<-GH (hm.objs j o' hj) hle];exact hbj)
 .have hne:j≠self:=λe=>by
   subst e;have:=hj.2;rw[iE]at this;cases this
  have hfj:=hm.fresh j hj.1;refine⟨by rw[hput,if_neg hne];exact hfj.1,?_,hfj.2.2.1,λg=>?_⟩
  .simp only[G',Gh.addVal,Gh.addEty,hne,CK];exact hfj.2.1
  .simp only[G',Gh.addVal,Gh.addEty,hne,DP,CK];exact hfj.2.2.2 g
theorem MemS.new_sl(hm:MemS P fr free σ w G)(hself:free self){el cap:Nat}{t:Ty}{xs:List t.T}{wr:Bool}{cs:Array Value}
 {fz:Nat×Nat}(hfz:fz.2<=fz.1\/cs.size<=fz.1/\Pins.P.underlying el=some (.int .u8))(hw:w'.heap=w.heap.push (.cells cs el fz))(hos:w'.os=w.os)(htape:w'.tape=w.tape)(hout:w'.output=w.output)
 (hcap:GL xs.length cap)(hsize:cs.size=cap*t.sz)(hrows:RowsOK w G.im t xs cs.toList):
 ∃G',GLe w G w' G'/\MemS P fr (HO free self) (EK σ [(self,some (.sl el t xs 0 wr))]) w' G'/\SR P w' G' (.obj self 0) (.slice (some ⟨w.heap.size,0,none⟩) xs.length cap):=
 hm.take_sl hself (λj o ho h=>absurd (HP (hm.objs j o ho) h) (AH _)) hm.owned_new
  (λb' h _=>by rw[hw,CP h,AY h]) (by rw[hw];simp) hos htape hout hcap ⟨fz,by rw[hw,CJ],hfz⟩ hsize hrows
  (λ_ o h=>absurd (hm.after.inC _ _ h) (AH _)) (λo h=>absurd (hm.after.inC _ _ h) (AH _)) (λh=>absurd (hm.after.inO _ h) (AH _))
theorem RowsOK.made{t:Ty}{z:List Value}{x:t.T}(hz:Rel w I t x z){n m:Nat}(hm:m<=n):RowsOK w I t (List.replicate m x) (madeCells z.toArray (n*t.sz)).toList:=by
 intro i y hi;have hlt:=lt_of_getElem? hi;rw[BU]at hlt
 have hy:x=y:=by
  rw[DD,if_pos hlt]at hi;exact A3 hi
 subst hy;have hlen:=hz.length;have hb:=NM (s:=t.sz) (B0 hlt hm)
 have:((madeCells z.toArray (n*t.sz)).toList.drop (i*t.sz)).take t.sz=z:=by
  apply BV;intro j;by_cases hj:j<t.sz
  .rw[AK,if_pos hj,AR];have h1:i*t.sz+j<n*t.sz:=o5
   have h2:(i*t.sz+j) % z.length=j:=by
    rw[hlen,CU,Nat.mul_add_mod];exact Nat.mod_eq_of_lt hj
   simp only[madeCells,Array.toList_map,Array.toList_range,AV,CG h1,BD,BJ,h2];rw[A0 o5];simp[hlen,hj]
  .rw[AK,if_neg hj,B9 o5]
 rw[this];exact hz
theorem MN{t:Ty}{id:Nat}(hl:Lay P t id):∃i z,P.info? id=some i/\i.size=t.sz/\i.bytes<=24*t.sz/\i.zero=some z/\VRel w I t t.dflt z/\Rel w I t t.dflt z.cells.toList:=by
 obtain⟨i,v,h1,h2,h3,h4,h5⟩:=IU hl.inf;exact⟨i,v,h1,h2,h3,h4,(XQ h5).1,(XQ h5).2⟩
theorem uI{α:Type}{B:Nat}{l c:Int}{z:α}{xs:List α}(h:mks? B l c z=some xs):0<=l/\l<=c/\c.toNat*B<=70368744177664/\xs=List.replicate l.toNat z:=by
 unfold mks? at h;cases hb:(decide (0<=l)&&(decide (l<=c)&&decide (c.toNat*B<=70368744177664)))with
 |false=>rw[hb]at h;cases h
 |true=>
  rw[hb]at h;simp only[A4,AX]at hb;exact⟨hb.1,hb.2.1,hb.2.2,(A3 h).symm⟩
theorem A8y{e:Ty}{id el:Nat}(hl:Lay P (.slice e) id)(hm:MemS P fr free σ w G)(hself:free self){a b:Int}{wr:Bool}{zs:List e.T}(hin:G6 .i64 b)
 (h:mks? (24*e.sz) a b e.dflt=some zs)(hel:∀x,P.underlying id=some (.slice x)->el=x):
 ∃v w',(Instr.makeSlice id (.int .i64 a) (.int .i64 b)).run P w=.ok v w'/\Res P fr free self σ w G ⟨.obj self 0,[(self,some (.sl el e zs 0 wr))]⟩ v w':=by
 obtain⟨el',hu,hle,hpos⟩:=hl.slice;have:=hel _ hu;subst this;obtain⟨h0,hab,hB,rfl⟩:=uI h;obtain⟨i,z,h1,h2,h3,h4,h5,h6⟩:=MN (P:=P) (w:=w) (I:=G.im) hle
 have hb3:(i.bytes:Int)*b<=281474976710656:=by
  have hb0:b=(b.toNat:Int):=o5
  have hh:i.bytes*b.toNat<=281474976710656:=by
   have:i.bytes*b.toNat<=b.toNat*(24*e.sz):=by rw[CU];exact C6 _ h3
   omega
  rw[hb0,<-Int.natCast_mul];exact Int.ofNat_le.2 hh
 have hb4:b<=9223372036854775807:=hin.2;have hrun:=run_make (P:=P) w id el i z hu h1 h4 .i64 .i64 a b h0 hab hb3 hb4;rw[h2]at hrun;have hz:madeCells z.cells (b.toNat*e.sz)=madeCells z.cells.toList.toArray (b.toNat*e.sz):=oc
 obtain⟨G',g1,g2,g3⟩:=hm.new_sl (w':=w.alloc (.cells (madeCells z.cells (b.toNat*e.sz)) el)) (el:=el) (wr:=wr) hself (cap:=b.toNat) (xs:=List.replicate a.toNat e.dflt) (cs:=madeCells z.cells (b.toNat*e.sz)) (fz:=(0,0)) (.inl (AB _)) rfl rfl rfl rfl
  (by
   rw[BU];have hpos':b.toNat*1<=b.toNat*(24*e.sz):=C6 _ o5;exact⟨o5,o5⟩) (size_madeCells _ _) (by rw[hz];exact RowsOK.made h6 o5)
 rw[BU]at g3;exact⟨_,_,hrun,G',g1,g2,g3⟩
theorem A8z:∀(ds:List Value) (k off:Nat) (cs:Array Value),off+k+ds.length<=cs.size->
 (ds.zipIdx k).foldl (λ(cs:Array Value) (p:Value×Nat)=>cs.setIfInBounds (off+p.2) p.1) cs=(F4 cs.toList (off+k) ds).toArray:=by
 intro ds;induction ds with
 |nil=>intro k off cs _;simp[F4]
 |cons d ds ih=>
  intro k off cs h;simp only[AF]at h;rw[List.zipIdx_cons,List.foldl_cons,ih (k+1) off _ og]
  congr 1
  apply BV;intro j;rw[KS og,KS og];simp only[AF,Array.toList_setIfInBounds];by_cases h1:j=off+k
  .subst h1;rw[if_neg o5,if_pos o5];simp only[DU,List.getElem?_cons_zero];rw[CN og]
  .rw[CW o5];by_cases h2:off+(k+1)<=j/\j<off+(k+1)+ds.length
   .rw[if_pos h2,if_pos o5];have:j-(off+k)=(j-(off+(k+1)))+1:=o5
    rw[this,List.getElem?_cons_succ]
   .rw[if_neg h2,if_neg o5]
theorem iF{place:Nat->Option (Nat×Nat)}{cells:Array Value}{i off size:Nat}{v:Value}{rest:List (Nat×Value)}(hp:place i=some (off,size))(hs:v.cells.size=size)(hfit:off+size<=cells.size):
 Instr.fill place cells ((i,v)::rest)=Instr.fill place (F4 cells.toList off v.cells.toList).toArray rest:=by
 have e:v.cells.zipIdx.foldl (λ(cs:Array Value) (p:Value×Nat)=>cs.setIfInBounds (off+p.2) p.1) cells=(F4 cells.toList off v.cells.toList).toArray:=by
  have:=A8z v.cells.toList 0 off cells og;rw[<-Array.foldl_toList,Array.toList_zipIdx];simpa using this
 simp only[Instr.fill,hp];rw[if_neg og];rw[<-e]
theorem A90{p:Ty}{fs:Array Field}{places:List (Nat×Nat)}(hb:(layB P p).2 fs.toList 0=true)
 (hpl:∀(f:Nat) (F:Field),fs[f]?=some F->∃s,places[f]?=some (F.offset,s)/\∃i,P.info? F.type=some i/\i.size=s)
 (hm:MemS P fr free σ w G)(hσ:∀k o,σ' k=some o->σ k=some o):
 ∀{ps:List (Nat×SV)} {vs:List (Nat×Value)} {x y:p.T} {cells:Array Value},SY σ' p ps x=some y->ps.length=vs.length->
  (∀(j:Nat) (q:Nat×SV) (u:Nat×Value),ps[j]?=some q->vs[j]?=some u->q.1=u.1/\SR P w G q.2 u.2)->Rel w G.im p x cells.toList->
  ∃cells',Instr.fill (places.toArray[·]?) cells vs=some cells'/\Rel w G.im p y cells'.toList:=by
 obtain⟨k1,k2⟩:=TN hb;intro ps;induction ps with
 |nil=>
  intro vs x y cells h hlen _ hr;cases vs with
  |nil=>cases h;exact⟨cells,rfl,hr⟩
  |cons _ _=>simp at hlen
 |cons q r ih=>
  intro vs x y cells h hlen hq hr;cases vs with
  |nil=>simp at hlen
  |cons u vs=>
   obtain⟨i,s⟩:=q;obtain⟨i',v⟩:=u;obtain⟨hi,hsr⟩:=hq 0 _ _ rfl rfl;have hi:i=i':=hi;subst hi;have hsr:SR P w G s v:=hsr;simp only[SY]at h;cases h1:fY σ' p i s x with
   |none=>rw[h1]at h;cases h
   |some x'=>
    rw[h1]at h;unfold fY at h1;cases hlt:Nat.blt i p.fields with
    |false=>rw[hlt]at h1;cases h1
    |true=>
     rw[hlt]at h1;simp only[AA]at h1;rw[BW]at hlt;split at h1
     .rename_i u hu;split at h1
      .rename_i yv hy;have hv:=(II (λk o h=>hm.objs k o (hσ k o h)) hy hsr).cells;have hif:i<fs.toList.length:=by rw[k1];exact hlt
       obtain⟨u',o,q1,q2,q3,q4⟩:=k2 i _ (A0 hif);rw[hu]at q1;cases q1;obtain⟨sz,p1,inf,p2,p3⟩:=hpl i _ (by rw[<-BE];exact A0 hif)
       have hsz:sz=u.sz:=by
        obtain⟨i2,_,e1,e2,_⟩:=IU q4.inf;rw[p2]at e1;cases e1;rw[<-p3,e2]
       subst hsz;obtain⟨z1,z2,z3⟩:=XP hr h1 q2 hv;have hlen2:=hv.length;have hcl:=hr.length;rw[q3,B8]at p1;rw[iF (off:=o) (size:=u.sz) (by simpa using p1) (by simpa using hlen2) (by simp at hcl;omega)];exact ih h (by simpa using hlen) (λj q u h1 h2=>hq (j+1) q u ot oq) (by simpa using z3)
      .cases h1
     .cases h1
theorem uJ{e:Ty}(hm:MemS P fr free σ w G)(hσ:∀k o,σ' k=some o->σ k=some o):
 ∀{ps:List (Nat×SV)} {vs:List (Nat×Value)} {xs ys:List e.T} {cells:Array Value},NF σ' e ps xs=some ys->ps.length=vs.length->
  (∀(j:Nat) (q:Nat×SV) (u:Nat×Value),ps[j]?=some q→vs[j]?=some u→q.1=u.1∧SR P w G q.2 u.2)→cells.size=xs.length*e.sz→RowsOK w G.im e xs cells.toList→
  ∃cells',Instr.fill (λi=>some (i*e.sz,e.sz)) cells vs=some cells'/\ys.length=xs.length/\cells'.size=cells.size/\RowsOK w G.im e ys cells'.toList:=by
 intro ps;induction ps with
 |nil=>
  intro vs xs ys cells h hlen _ _ hr;cases vs with
  |nil=>cases h;exact⟨cells,rfl,rfl,rfl,hr⟩
  |cons _ _=>simp at hlen
 |cons q r ih=>
  intro vs xs ys cells h hlen hq hsz hr;cases vs with
  |nil=>simp at hlen
  |cons u vs=>
   obtain⟨i,s⟩:=q;obtain⟨i',v⟩:=u;obtain⟨hi,hsr⟩:=hq 0 _ _ rfl rfl;have hi:i=i':=hi;subst hi;have hsr:SR P w G s v:=hsr;simp only[NF]at h;cases hlt:Nat.blt i xs.length with
   |false=>rw[hlt]at h;cases h
   |true=>
    rw[hlt]at h;simp only[AA]at h;rw[BW]at hlt;split at h
    .rename_i yv hy;have hv:=(II (λk o h=>hm.objs k o (hσ k o h)) hy hsr).cells;have hlen2:=hv.length;have hb:=NM (s:=e.sz) hlt;rw[iF (off:=i*e.sz) (size:=e.sz) rfl (by simpa using hlen2) o5]
     obtain⟨cells',c1,c2,c3,c4⟩:=ih (cells:=(F4 cells.toList (i*e.sz) v.cells.toList).toArray) h (by simpa using hlen) (λj q u h1 h2=>hq (j+1) q u ot oq)
      (by rw[BJ,JM (by rw[hlen2];simp;omega)];simpa using hsz) (by simpa using RowsOK.set hr og hlt hv)
     refine⟨cells',c1,by rw[c2,AP],?_,c4⟩;rw[c3,BJ,JM (by rw[hlen2];simp;omega)];simp
    .cases h
theorem uK:∀(fs:List Field),(∀(f:Nat) (F:Field),fs[f]?=some F->∃i,P.info? F.type=some i)->
 ∃places:List (Nat×Nat),fs.mapM (λf=>(P.info? f.type).map λi=>(f.offset,i.size))=some places/\
  ∀(f:Nat) (F:Field),fs[f]?=some F->∃s,places[f]?=some (F.offset,s)/\∃i,P.info? F.type=some i/\i.size=s:=by
 intro fs;induction fs with
 |nil=>intro _;exact⟨[],rfl,λf F h=>by simp at h⟩
 |cons g fs ih=>
  intro h;obtain⟨i,hi⟩:=h 0 g rfl;obtain⟨places,h1,h2⟩:=ih (λf F hf=>h (f+1) F (by simpa using hf));refine⟨(g.offset,i.size)::places,by simp[hi,h1],λf F hf=>?_⟩;cases f with
  |zero=>
   have:g=F:=by simpa using hf
   subst this;exact⟨i.size,rfl,i,hi,rfl⟩
  |succ f=>simpa using h2 f F (by simpa using hf)
theorem A91{t:Ty}{id:Nat}(hl:Lay P t id)(hm:MemS P fr free σ w G)(hσ:∀k o,σ' k=some o->σ k=some o){ps:List (Nat×SV)}{vs:Array (Nat×Value)}{r:OpRes}{u:Upd}
 (hr:WX σ' t ps=some r)(hu:Gives r u)(hlen:ps.length=vs.toList.length)
 (hq:∀(j:Nat) (q:Nat×SV) (u:Nat×Value),ps[j]?=some q->vs.toList[j]?=some u->q.1=u.1/\SR P w G q.2 u.2):
 u.wr=[]/\∃z,(Instr.build id vs).run P w=.ok z w/\SR P w G u.sv z:=by
 obtain⟨it,zv,h1,h2,h3,h4,h5,h6⟩:=MN (P:=P) (w:=w) (I:=G.im) hl;unfold WX at hr;split at hr
 .rename_i p;cases hx:SY σ' p ps p.dflt with
  |none=>rw[hx]at hr;cases hr
  |some x=>
   rw[hx]at hr;have hr:=A3 hr;subst hr;rw[hu.v_inv];obtain⟨fs,hun,hb,hpos⟩:=hl.agg;obtain⟨k1,k2⟩:=TN hb
   obtain ⟨places,p1,p2⟩:=uK (P:=P) fs.toList (λf F hf=>by
    obtain⟨u,o,_,_,_,q4⟩:=k2 f F hf;obtain⟨i,_,e,_⟩:=IU q4.inf;exact⟨i,e⟩)
   obtain⟨cells,c1,c2⟩:=A90 (x:=p.dflt) (cells:=zv.cells) hb (λf F hf=>p2 f F (by rw[BE];exact hf)) hm hσ hx hlen hq h6;refine⟨rfl,.agg cells,run_build w id vs cells ?_,cells.toList,by simp[TI,I9],c2⟩;simp only[Program.built,h1,hun,h4,p1,c1]
 .rename_i n e;cases hx:NF σ' e ps (List.replicate n e.dflt)with
  |none=>rw[hx]at hr;cases hr
  |some x=>
   rw[hx]at hr;have hr:=A3 hr;subst hr;rw[hu.v_inv];obtain⟨el,hun,hle,hpos,hn⟩:=hl.arr;obtain⟨ie,ze,e1,e2,e3,e4,e5,e6⟩:=MN (P:=P) (w:=w) (I:=G.im) hle;obtain⟨l1,l2,l3⟩:=h6;have hsz:zv.cells.size=n*e.sz:=by simpa using l2
   obtain⟨cells,c1,c2,c3,c4⟩:=uJ (cells:=zv.cells) hm hσ hx hlen hq (by rw[BU];exact hsz) (λi y hy=>l3 i y hy);refine⟨rfl,.agg cells,run_build w id vs cells ?_,cells.toList,by simp[TI,I9],?_,?_,c4⟩
   .simp only[Program.built,h1,hun,h4,e1,e2,c1]
   .show x.length=n;rw[c2,BU]
   .simpa using c3.trans hsz
 .cases hr
theorem A92(hm:MemS P fr free σ w G)(hσ:∀k o,σ' k=some o->σ k=some o){u:Ty}{s l:SV}{v:Value}(h:fZ σ' u s=some l)(hr:SR P w G s v):
 Fit l u/\CR P w G l v.cells.toList/\∀x∈v.cells.toList,x.oneCell'=true:=by
 have vl:∀{s:SV},(SV.asV σ' u s).map (SV.val u ·)=some l->SR P w G s v->Fit l u/\CR P w G l v.cells.toList/\∀x∈v.cells.toList,x.oneCell'=true:=by
  intro s h1 h2;cases hx:SV.asV σ' u s with
  |none=>rw[hx]at h1;cases h1
  |some x=>
   rw[hx]at h1;cases h1;have:=(II (λk o h=>hm.objs k o (hσ k o h)) hx h2).cells;exact⟨rfl,this,this.oneCell⟩
 unfold fZ at h;split at h
 .split at h
  .cases h;obtain⟨c,h1,h2⟩:=hr;have h2:c=[.slice none 0 0]:=h2;have hv:v=.slice none 0 0:=A5.1 ((show c=[v]from h1).symm.trans h2);subst hv;exact⟨rfl,rfl,by simp[Value.cells,Value.oneCell']⟩
  .cases h
 .rename_i k g
  have hob:∀{u:Ty},u.sz=1->Fit (.obj k g) u/\CR P w G (.obj k g) v.cells.toList/\∀x∈v.cells.toList,x.oneCell'=true:=by
   intro u hu;have hc:=hr.one (by intro u y h;cases h);have ho:=hZ hr;rw[TR ho];exact⟨hu,hc,by simpa using ho⟩
  split at h
  .rename_i x hx;cases h;exact vl (s:=.obj k g) (by show(NA σ' k g u).map _=_;rw[hx];rfl) hr
  .split at h
   .cases h;exact hob rfl
   .cases h;exact hob rfl
   .cases h
 .exact vl h hr
theorem A93{p:Ty}{fs:Array Field}{places:List (Nat×Nat)}(hb:(layB P p).2 fs.toList 0=true)
 (hpl:∀(f:Nat) (F:Field),fs[f]?=some F->∃s,places[f]?=some (F.offset,s)/\∃i,P.info? F.type=some i/\i.size=s)
 (hm:MemS P fr free σ w G)(hσ:∀k o,σ' k=some o->σ k=some o):
 ∀{ps:List (Nat×SV)} {vs:List (Nat×Value)} {x y:SV} {cells:Array Value},QD σ' p ps x=some y->ps.length=vs.length->
  (∀(j:Nat) (q:Nat×SV) (u:Nat×Value),ps[j]?=some q->vs[j]?=some u->q.1=u.1/\SR P w G q.2 u.2)->Fit x p->CR P w G x cells.toList->(∀c∈cells.toList,c.oneCell'=true)->
  ∃cells',Instr.fill (places.toArray[·]?) cells vs=some cells'/\Fit y p/\CR P w G y cells'.toList/\∀c∈cells'.toList,c.oneCell'=true:=by
 obtain⟨k1,k2⟩:=TN hb;intro ps;induction ps with
 |nil=>
  intro vs x y cells h hlen _ hf hr h1;cases vs with
  |nil=>cases h;exact⟨cells,rfl,hf,hr,h1⟩
  |cons _ _=>simp at hlen
 |cons q r ih=>
  intro vs x y cells h hlen hq hf hr hone;cases vs with
  |nil=>simp at hlen
  |cons u vs=>
   obtain⟨i,s⟩:=q;obtain⟨i',v⟩:=u;obtain⟨hi,hsr⟩:=hq 0 _ _ rfl rfl;have hi:i=i':=hi;subst hi;have hsr:SR P w G s v:=hsr;simp only[QD]at h;cases h1:f_ σ' p i s x with
   |none=>rw[h1]at h;cases h
   |some x'=>
    rw[h1]at h;unfold f_ at h1;cases hlt:Nat.blt i p.fields with
    |false=>rw[hlt]at h1;cases h1
    |true=>
     rw[hlt]at h1;simp only[AA]at h1;rw[BW]at hlt;split at h1
     .rename_i u hu;split at h1
      .rename_i l hl;obtain⟨lf,lr,lone⟩:=A92 hm hσ hl hsr;have hif:i<fs.toList.length:=by rw[k1];exact hlt
       obtain⟨u',o,q1,q2,q3,q4⟩:=k2 i _ (A0 hif);rw[hu]at q1;cases q1;obtain⟨sz,p1,inf,p2,p3⟩:=hpl i _ (by rw[<-BE];exact A0 hif)
       have hsz:sz=u.sz:=by
        obtain⟨i2,_,e1,e2,_⟩:=IU q4.inf;rw[p2]at e1;cases e1;rw[<-p3,e2]
       subst hsz;obtain⟨z1,z2,z3⟩:=hJ hf hr h1 q2 hu lf lr;have hlen2:=lf.len lr;have hcl:=hf.len hr;rw[q3,B8]at p1;rw[iF (off:=o) (size:=u.sz) (by simpa using p1) (by simpa using hlen2) (by simp at hcl;omega)]
       exact ih h (by simpa using hlen) (λj q u h1 h2=>hq (j+1) q u ot oq) z1 (by simpa using z3) (λc hc=>by
        have hc:c∈F4 cells.toList o v.cells.toList:=by simpa using hc
        unfold F4 at hc;rcases AL.1 hc with hc|hc
        .exact hone c (DA hc)
        .rcases AL.1 hc with hc|hc
         .exact lone c hc
         .exact hone c (List.mem_of_mem_drop hc))
      .cases h1
     .cases h1
theorem A94{t:Ty}{id:Nat}(hl:Lay P t id)(hm:MemS P fr free σ w G)(hσ:∀k o,σ' k=some o->σ k=some o){ps:List (Nat×SV)}{vs:Array (Nat×Value)}{r:OpRes}{u:Upd}
 (hr:SZ σ' t ps=some r)(hu:Gives r u)(hlen:ps.length=vs.toList.length)
 (hq:∀(j:Nat) (q:Nat×SV) (u:Nat×Value),ps[j]?=some q->vs.toList[j]?=some u->q.1=u.1/\SR P w G q.2 u.2):
 u.wr=[]/\∃z,(Instr.build id vs).run P w=.ok z w/\SR P w G u.sv z:=by
 obtain⟨it,zv,h1,h2,h3,h4,h5⟩:=IU hl.inf;cases t<;>first|(simp[SZ]at hr;done)|skip
 rename_i p;cases p<;>first|(simp[SZ]at hr;done)|skip
 rename_i a b;have hr:(QD σ' (.prod a b) ps (GT (.prod a b))).map (λc=>OpRes.v (.bt (.agg (.prod a b)) c))=some r:=hr;cases hx:QD σ' (.prod a b) ps (GT (.prod a b))with
 |none=>rw[hx]at hr;cases hr
 |some x=>
  rw[hx]at hr;have hr:=A3 hr;subst hr;rw[hu.v_inv];obtain⟨fs,hun,hb,hpos⟩:=hl.agg;obtain⟨k1,k2⟩:=TN hb
  obtain ⟨places,p1,p2⟩:=uK (P:=P) fs.toList (λf F hf=>by
   obtain⟨u,o,_,_,_,q4⟩:=k2 f F hf;obtain⟨i,_,e,_⟩:=IU q4.inf;exact⟨i,e⟩)
  obtain⟨z1,z2,z3⟩:=uF (P:=P) (w:=w) (G:=G) h5;have hone:∀c∈zv.cells.toList,c.oneCell'=true:=((XQ (w:=w) (I:=G.im) h5).2).oneCell;obtain⟨cells,c1,c2,c3,c4⟩:=A93 (x:=GT (.prod a b)) (cells:=zv.cells) hb (λf F hf=>p2 f F (by rw[BE];exact hf)) hm hσ hx hlen hq z2 z1 hone;refine⟨rfl,.agg cells,run_build w id vs cells ?_,_,rfl,cells.toList,oc,⟨a,b,rfl,c2⟩,c4,c3⟩;simp only[Program.built,h1,hun,h4,p1,c1]
theorem A95{e:Ty}{id el len:Nat}(hl:Lay P (.slice e) id)(hm:MemS P fr free σ w G)(hσ:∀k o,σ' k=some o->σ k=some o)(hself:free self){ps:List (Nat×SV)}{vs:Array (Nat×Value)}{wr:Bool}{xs:List e.T}
 (hr:(bif Nat.blt 0 len&&Nat.ble (len*e.sz) 16777216 then NF σ' e ps (List.replicate len e.dflt)else none)=some xs)(hlen:ps.length=vs.toList.length)(hel:∀x,P.underlying id=some (.slice x)->el=x)
 (hq:∀(j:Nat) (q:Nat×SV) (u:Nat×Value),ps[j]?=some q->vs.toList[j]?=some u->q.1=u.1/\SR P w G q.2 u.2):
 ∃v w',(Instr.buildSlice id len vs).run P w=.ok v w'/\Res P fr free self σ w G ⟨.obj self 0,[(self,some (.sl el e xs 0 wr))]⟩ v w':=by
 obtain⟨el',hu,hle,hpos⟩:=hl.slice;have:=hel _ hu;subst this;cases hb:(Nat.blt 0 len&&Nat.ble (len*e.sz) 16777216)with
 |false=>rw[hb]at hr;cases hr
 |true=>
  rw[hb]at hr;simp only[AA]at hr;simp only[A4,BW,Nat.ble_eq]at hb;obtain⟨i,z,h1,h2,h3,h4,h5,h6⟩:=MN (P:=P) (w:=w) (I:=G.im) hle;have hz:madeCells z.cells (len*e.sz)=madeCells z.cells.toList.toArray (len*e.sz):=oc
  obtain⟨cells,c1,c2,c3,c4⟩:=uJ (cells:=madeCells z.cells (len*e.sz)) hm hσ hr hlen hq (by rw[size_madeCells,BU])
   (by rw[hz];exact RowsOK.made h6 (AB _))
  rw[BU]at c2;rw[size_madeCells]at c3;have hmul:0<len*e.sz:=Nat.mul_pos hb.1 hpos;have hrun:=run_buildSlice w id el len vs cells i z hu h1 h4 (by rw[h2];omega) (by rw[h2];omega) (by rw[h2];exact c1)
  obtain ⟨G',g1,g2,g3⟩:=hm.new_sl (w':=w.alloc (.cells cells el)) (el:=el) (wr:=wr) hself (cap:=len) (xs:=xs) (cs:=cells) (fz:=(0,0)) (.inl (AB _)) rfl rfl rfl rfl ⟨o5,by
   have:len*1<=len*e.sz:=C6 _ hpos;omega⟩ c3 c4
  rw[c2]at g3;exact⟨_,_,hrun,G',g1,g2,g3⟩
theorem A96{e:Ty}{id el:Nat}(hl:Lay P (.slice e) id)(hm:MemS P fr free σ w G)(hself:free self){wr:Bool}(hel:∀x,P.underlying id=some (.slice x)->el=x):
 ∃v w',(Instr.buildSlice id 0 #[]).run P w=.ok v w'/\Res P fr free self σ w G ⟨.obj self 0,[(self,some (.sl el e [] 0 wr))]⟩ v w':=by
 obtain⟨el',hu,hle,hpos⟩:=hl.slice;have:=hel _ hu;subst this;obtain⟨i,z,h1,h2,h3,h4,h5,h6⟩:=MN (P:=P) (w:=w) (I:=G.im) hle
 have hrun:(Instr.buildSlice id 0 #[]).run P w=.ok (.slice (some ⟨w.heap.size,0,none⟩) 0 0) (w.alloc (.cells #[] el)):=by
  simp[Instr.buildSlice,run_underlying hu,sizeOf,typeInfo,h1,newRow,Instr.fill];rw[show(Array.range 0).map (λ_=>(default:Value))= #[]from Array.eq_empty_of_size_eq_zero oc]
 obtain⟨G',g1,g2,g3⟩:=hm.new_sl (w':=w.alloc (.cells #[] el)) (el:=el) (wr:=wr) hself (cap:=0) (xs:=([]:List e.T)) (cs:=#[]) (fz:=(0,0)) (.inl (AB _)) rfl rfl rfl rfl ⟨oc,oc⟩ oc (λi x hx=>by simp at hx);exact⟨_,_,hrun,G',g1,g2,g3⟩
theorem A97{k v:Ty}{id:Nat}(hl:Lay P (.map k v) id)(hm:MemS P fr free σ w G)(hself:free self){r:Option Value}(hrn:∀x,r=some x->∃kd n,x=.int kd n):
 ∃z w',(Instr.makeMap id r).run P w=.ok z w'/\Res P fr free self σ w G ⟨.obj self 0,[(self,some (.mp k v [] true))]⟩ z w':=by
 obtain⟨a,b,hu,_,_⟩:=hl.map
 have hrun:(Instr.makeMap id r).run P w=.ok (.map (some w.heap.size)) (w.alloc (.map #[] 0)):=by
  cases r with
  |none=>simp[Instr.makeMap]
  |some x=>
   obtain⟨kd,n,rfl⟩:=hrn x rfl;simp[Instr.makeMap,run_underlying hu,asInt,asIntOf]
 let G':Gh:=G.addVal self 0 (.map (some w.heap.size))
 have hval:G'.val self 0=some (.map (some w.heap.size)):=by simp[G',Gh.addVal]
 obtain⟨g1,g2⟩:=hm.new (w':=w.alloc (.map #[] 0)) (G':=G') (o':=.mp k v [] true) hself rfl rfl rfl rfl (λ_ _ h=>h) (λ_ _ h=>.inl h) rfl
  (λj hj=>⟨rfl,rfl,λg=>by simp [G',Gh.addVal,hj]⟩) (λhn hle=>⟨⟨_,hval,w.heap.size,#[],0,rfl,hn,⟨rfl,MapKept.stamped_empty 0⟩,λi x e h=>by simp at h,
   ⟨λ_ h=>absurd (hm.after.inO _ h) (AH _),λh=>oe⟩,λo h=>absurd (hm.after.inC _ _ h) (AH _),hm.owned_new⟩,by intro b' hb';simp[Bk,hval]at hb';exact hb'.symm⟩)
 exact⟨_,_,hrun,G',g1,g2,_,rfl,_,hval,rfl,rfl⟩
theorem XZ{α:Type}{B:Nat}{xs ys zs:List α}(h:app? B xs ys=some zs):(xs.length+ys.length)*B<=70368744177664/\zs=xs++ys:=by
 unfold app? at h;cases hb:decide ((xs.length+ys.length)*B<=70368744177664)with
 |false=>rw[hb]at h;cases h
 |true=>rw[hb]at h;exact⟨A9 hb,(A3 h).symm⟩
theorem A98{e:Ty}{id el:Nat}{i:TypeInfo}(hu:P.underlying id=some (.slice el))(hi:P.info? el=some i)(hs:i.size=e.sz){ys:List e.T}{v:Value}(h:VRel w I (.slice e) ys v):
 ∃news,Src P i.size id v ys.length news w/\news.length=ys.length*e.sz/\RowsOK w I e ys news:=by
 obtain⟨a,cap,news,rfl,hnil,h1,h2,h3,h4⟩:=uH h;cases a with
 |none=>
  have:=hnil rfl;subst this;have:news=[]:=AJ ot;subst this;exact⟨[],Src.ofNil w hu cap,h1,h2⟩
 |some ad=>
  have hc:=h4 ad rfl;refine⟨news,Src.ofSlice w hu ad _ _ news (by rw[hs];exact h1) (λj u hj=>?_) h3,h1,h2⟩;have hsp:=(hc j u hj).1
  have:ad.add j=⟨ad.block,ad.off+j,none⟩:=by
   cases ad;cases hsp;exact K6
  rw[this];exact(hc j u hj).2
def QU(P:Program)(w:World)(I:Im)(e:Ty)(id:Nat)(ys:List e.T)(v:Value):Prop:=
 ∃news,Src P e.sz id v ys.length news w/\news.length=ys.length*e.sz/\RowsOK w I e ys news
theorem iG{e:Ty}{id:Nat}(hl:Lay P (.slice e) id){ys:List e.T}{v:Value}(h:VRel w I (.slice e) ys v):QU P w I e id ys v:=by
 obtain⟨el',hu,hle,hpos⟩:=hl.slice;obtain⟨i,z,h1,h2,_⟩:=IU hle.inf;obtain⟨news,s1,s2,s3⟩:=A98 hu h1 h2 h;exact⟨news,by rw[<-h2];exact s1,s2,s3⟩
theorem A99{ys:DW}{i:Nat}{x:Int}(hx:(FV ys)[i]?=some x):G6 .u8 x/\(((FV ys).map (Value.int .u8)).drop (i*1)).take 1=[Value.int .u8 x]:=by
 have hi:i<(FV ys).length:=(A8.1 hx).1;refine⟨?_,?_⟩
 .unfold FV at hx;rw[AV]at hx;cases hy:ys[i]? with
  |none=>rw[hy]at hx;cases hx
  |some b=>
   rw[hy]at hx;have hx:=A3 hx;subst hx;exact hY b
 .rw[CV,CS (by simpa using hi)];simp only[List.getElem_map,List.take_succ_cons,DR];rw[A0 hi]at hx;rw[A3 hx]
theorem A9A{id:Nat}(hl:Lay P .str id){ys:DW}{v:Value}(h:SR P w G (.val .str ys) v):QU P w G.im (.int .u8) id (FV ys) v:=by
 obtain⟨rfl,_⟩:=h.str;have hlen:(FV ys).length=(⟨ys.toArray⟩:ByteArray).size:=by simp[FV,ByteArray.size]
 have hcells:byteCells ⟨ys.toArray⟩=(FV ys).map (Value.int .u8):=by simp[byteCells,FV]
 have hsrc:Src P 1 id (.string ⟨ys.toArray⟩) (FV ys).length (byteCells ⟨ys.toArray⟩) w:=by rw[hlen];exact Src.ofString w hl.str _
 have hl2:(byteCells ⟨ys.toArray⟩).length=(FV ys).length*1:=by rw[hcells];simp
 refine⟨byteCells ⟨ys.toArray⟩,hsrc,hl2,λi x hx=>?_⟩;have hx:(FV ys)[i]?=some (show Int from x):=hx;obtain⟨h1,h2⟩:=A99 hx;rw[hcells];have h2':(((FV ys).map (Value.int .u8)).drop (i*(Ty.int .u8).sz)).take (Ty.int .u8).sz=[Value.int .u8 x]:=h2;rw[h2'];exact⟨rfl,h1⟩
theorem uL{e:Ty}{id el:Nat}(hl:Lay P (.slice e) id)(hu:P.underlying id=some (.slice el))(hle:Lay P e el)(hm:MemS P fr free σ w G)(hself:free self){wr:Bool}{xs ys:List e.T}{base:Option Addr}{cap:Nat}{olds:List Value}{v:Value}{ty id2:Nat}
 (hB:(xs.length+ys.length)*(24*e.sz)<=70368744177664)(hcap:cap<xs.length+ys.length)(hv:QU P w G.im e id2 ys v)
 (hold:(Builtin.firstCells e.sz xs.length (.slice base xs.length cap)).run P w.drew=.ok olds.toArray w.drew)(hol:olds.length=xs.length*e.sz)(hor:RowsOK w G.im e xs olds):
 ∃z w',(Builtin.append_ #[id,id2] ty #[.slice base xs.length cap,v]).run P w=.ok z w'/\Res P fr free self σ w G ⟨.obj self 0,[(self,some (.sl el e (xs++ys) 0 wr))]⟩ z w':=by
 obtain⟨i,z,h1,h2,h3,h4,h5,h6⟩:=MN (P:=P) (w:=w) (I:=G.im) hle;obtain⟨news,s1,s2,s3⟩:=hv;rw[<-h2]at s1
 have hpos:0<e.sz:=by
  obtain⟨_,hu',_,hp⟩:=hl.slice;exact hp
 have hbig:(xs.length+ys.length)*i.bytes<=140737488355328:=by
  have:(xs.length+ys.length)*i.bytes<=(xs.length+ys.length)*(24*e.sz):=C6 _ h3;omega
 have h63:xs.length+ys.length<=70368744177664:=by
  have:(xs.length+ys.length)*1<=(xs.length+ys.length)*(24*e.sz):=C6 _ o5;omega
 have hrun:=run_append_grow_src w id id2 ty el i z hu h1 h4 base xs.length cap olds (by rw[h2];exact hold) v ys.length news s1 hcap o5 (growslice_fits hcap hbig);have hge:=grownCap_ge w (xs.length+ys.length) cap el;have hzs:z.cells.size=e.sz:=by have:=h6.length;simpa using this
 obtain⟨G',g1,g2,g3⟩:=hm.new_sl (w':=w.drew.alloc (.cells ((olds++news).toArray++Builtin.zeroCells z.cells (grownCap w (xs.length+ys.length) cap el-(xs.length+ys.length))) el)) (el:=el) (wr:=wr) hself
  (cap:=grownCap w (xs.length+ys.length) cap el) (xs:=xs++ys) (fz:=(0,0)) (.inl (AB _)) rfl rfl rfl rfl (by rw[A6];exact⟨hge,o5⟩)
  (by
   rw[Array.size_append,size_zeroCells,hzs,BJ,A6,hol,s2,<-CF,<-CF]
   congr 1
   omega)
  (by
   rw[Array.toList_append,B_];exact RowsOK.append hor s3 hol s2)
 rw[A6]at g3;exact⟨_,_,hrun,G',g1,g2,g3⟩
theorem iH{e:Ty}{id el:Nat}(hl:Lay P (.slice e) id)(hel:∀x,P.underlying id=some (.slice x)->el=x)(hm:MemS P fr free σ w G)(hself:free self){wr:Bool}{ys zs:List e.T}{v:Value}{ty id2:Nat}
 (hv:QU P w G.im e id2 ys v)(h:app? (24*e.sz) [] ys=some zs):
 ∃z w',(Builtin.append_ #[id,id2] ty #[.slice none 0 0,v]).run P w=.ok z w'/\Res P fr free self σ w G ⟨.obj self 0,[(self,some (.sl el e zs 0 wr))]⟩ z w':=by
 obtain⟨el',hu,hle,hpos⟩:=hl.slice;have:=hel _ hu;subst this;obtain⟨hB,hz⟩:=XZ h;have hz:zs=ys:=hz;rw[hz];by_cases h0:ys.length=0
 .have hy:ys=[]:=AJ h0;subst hy;obtain⟨i,z,h1,h2,h3,h4,h5,h6⟩:=MN (P:=P) (w:=w) (I:=G.im) hle;obtain⟨news,s1,s2,s3⟩:=hv;rw[<-h2]at s1;have hn:news=[]:=AJ (by simpa using s2);subst hn;obtain⟨G',g1,g2,g3⟩:=hm.nil_sl (el:=el) (t:=e) (wr:=wr) hself;refine⟨.slice none 0 0,w,?_,G',g1,g2,g3⟩;have hl1:=s1.len w;have hc1:=s1.cells;simp at hc1;rcases s1.kind with⟨e',hk⟩|hk<;>simp[Builtin.append_,run_underlying hu,run_underlying hk,sizeOf,typeInfo,h1,hl1,hc1]
 .have:=uL (xs:=([]:List e.T)) (ys:=ys) (ty:=ty) (self:=self) (wr:=wr) (base:=none) (cap:=0) (olds:=[]) hl hu hle hm hself hB og hv (run_firstCells_none _ _ _ _ _) oc (λi x hx=>by simp at hx);simpa using this
theorem uM{e:Ty}{id el:Nat}(hl:Lay P (.slice e) id)(hel:∀x,P.underlying id=some (.slice x)->el=x)(hm:MemS P fr free σ w G)(hself:free self){k:Nat}{wr:Bool}{xs ys zs:List e.T}{v vx:Value}{ty id2:Nat}
 (hk:σ k=some (.sl el e xs 0 wr))(hs:SR P w G (.obj k 0) v)(hv:QU P w G.im e id2 ys vx)(h:app? (24*e.sz) xs ys=some zs):
 ∃z w',(Builtin.append_ #[id,id2] ty #[v,vx]).run P w=.ok z w'/\Res P fr free self σ w G ⟨.obj self 0,[(self,some (.sl el e zs 0 wr)),(k,none)]⟩ z w':=by
 obtain⟨hety,v',k1,k2⟩:=hm.objs _ _ hk;obtain⟨c,hc,v2,k3,k4,k5⟩:=hs
 have hv2:v2=v:=by
  have:[v]=[v2]:=(show c=[v]from hc).symm.trans k5;exact(A5.1 this).symm
 subst hv2;rw[k1]at k3;cases k3;have hm1:=hm.drop k;have hself1:free self:=hself;rcases k2 with⟨rfl,rfl⟩|⟨b,cap,cs,rfl,hcap,hb,hsz,hrows,hown,hW,hA,hO⟩
 .exact iH hl hel hm1 hself hv h
 .obtain⟨el',hu,hle,hpos⟩:=hl.slice;have:=hel _ hu;subst this;obtain⟨hB,rfl⟩:=XZ h;obtain⟨i,z,h1,h2,h3,h4,h5,h6⟩:=MN (P:=P) (w:=w) (I:=G.im) hle;have hv0:=hv;obtain⟨news,s1,s2,s3⟩:=hv;rw[<-h2]at s1;have hfull:xs.length*e.sz<=cs.size:=by rw[hsz];exact B1 _ hcap.1
  by_cases hroom:xs.length+ys.length<=cap
  .have hfit:xs.length*e.sz+news.length<=cs.size:=by
    rw[s2,hsz,<-CF];exact B1 _ hroom
   have hcell:∀o,w.cell? ⟨b,o,none⟩=cs.toList[o]?:=hb.cell;obtain⟨fz,hb0,hfz⟩:=(show RowAt w b cs el from hb);have hst:=TT P b (xs.length*e.sz) el fz news 0 cs w hb0 (hfz.imp (λh=>h) And.left) o5 s1.one
   have hrun:(Builtin.append_ #[id,id2] ty #[.slice (some ⟨b,0,none⟩) xs.length cap,vx]).run P w=
    .ok (.slice (some ⟨b,0,none⟩) (xs.length+ys.length) cap) (w.setRow b (F4 cs.toList (xs.length*e.sz) news).toArray):=by
    have hl1:=s1.len w;have hc1:=s1.cells;rw[h2]at hc1;simp only[CI]at hst;rcases s1.kind with⟨e',hk2⟩|hk2<;>simp[Builtin.append_,run_underlying hu,run_underlying hk2,sizeOf,typeInfo,h1,h2,hl1,hroom,hc1,Addr.add_lit,hst,F4]
   have hspl:(F4 cs.toList (xs.length*e.sz) news).length=cs.size:=by rw[JM (by simpa using hfit)];simp
   obtain⟨G',g1,g2,g3⟩:=hm1.take_sl (w':=w.setRow b (F4 cs.toList (xs.length*e.sz) news).toArray) (el:=el) (wr:=wr) (cap:=cap) (xs:=xs++ys) (b:=b) (cs:=(F4 cs.toList (xs.length*e.sz) news).toArray) hself
    (λj o ho hj=>by
     simp only[EK]at ho;cases hjk:Nat.beq j k with
     |true=>rw[hjk]at ho;cases ho
     |false=>
      rw[hjk]at ho;have:j=k:=hm.sep j k o _ b ho hk hj (by simp[Bk,k1]);rw[this,CH]at hjk;cases hjk)
    hown (λb' _ hne=>setRow_other w b b' _ hne) oc rfl rfl rfl (by
     rw[A6];have h63:(xs.length+ys.length)*1<=(xs.length+ys.length)*(24*e.sz):=C6 _ o5;exact⟨hroom,o5⟩) (hb.set (by rw[BJ,hspl])) (by rw[BJ,hspl,hsz])
    (by
     show RowsOK w G.im e (xs++ys) (F4 cs.toList (xs.length*e.sz) news);exact RowsOK.append (RowsOK.take hrows (AB _)) s3 og s2)
    (λhw=>hW hw)
    (λo ho=>by
     cases wr with
     |true=>exact absurd ho (hW rfl o)
     |false=>
      have hlt:=(hA rfl o).2 ho;refine⟨B0 hlt (by rw[A6,CF];omega),?_⟩;rw[(hb.set (new:=(F4 cs.toList (xs.length*e.sz) news).toArray) (by rw[BJ,hspl])).cell,hcell];show(F4 cs.toList (xs.length*e.sz) news)[o]?=_;rw[KS (by simpa using hfit),if_neg o5])
    hO
   rw[A6]at g3;exact⟨_,_,hrun,G',g1,g2,g3⟩
  .have hcell:∀o,w.cell? ⟨b,o,none⟩=cs.toList[o]?:=hb.cell
   exact uL (xs:=xs) (ys:=ys) (ty:=ty) (self:=self) (wr:=wr) (base:=some ⟨b,0,none⟩) (cap:=cap) (olds:=cs.toList.take (xs.length*e.sz)) hl hu hle hm1 hself hB o5 hv0
    (run_firstCells_some _ _ _ _ _ _ _ (by simp; omega) (λj u hj=>by
     rw[World.cell?_drew,Addr.add_lit,B8,hcell];rw[AK]at hj;split at hj
     .exact hj
     .cases hj)) og (RowsOK.take hrows (AB _))
theorem MemS.new_im(hm:MemS P fr free σ w G){ob:Go.Obj}{n:Nat}(hw:∀b,b<w.heap.size->w'.heap[b]?=w.heap[b]?)(hsz:w'.heap.size=w.heap.size+1)(hnew:w'.heap[w.heap.size]?=some ob)
 (hos:w'.os=w.os)(htape:w'.tape=w.tape)(hout:w'.output=w.output):
 GLe w G w' (G.addIm w.heap.size 0 n)/\MemS P fr free σ w' (G.addIm w.heap.size 0 n):=by
 have hle:GLe w G w' (G.addIm w.heap.size 0 n):=by
  refine⟨⟨λb o h=>⟨.inl h,?_⟩,λb h=>⟨h,hw b (hm.after.inO b h)⟩⟩,λk g v h=>h,λk t h=>h,λk b h=>h⟩;simp only[World.cell?,hw b (hm.after.inC b o h)]
 have hold:∀j o,σ j=some o->ObjOK P fr w' (G.addIm w.heap.size 0 n) j o:=by
  intro j o ho;refine(hm.objs j o ho).keep hle λb hb=>?_;have hlt:=HP (hm.objs j o ho) hb;exact⟨hw b hlt,λoff h=>h.resolve_right (λh=>Nat.ne_of_lt hlt h.1),λh=>h⟩
 refine⟨hle,hold,λi j o o' b hi hj hbi hbj=>?_,?_,λj hj=>hm.fresh j hj⟩
 .exact hm.sep i j o o' b hi hj (by rw[<-GH (hm.objs i o hi) hle];exact hbi) (by rw[<-GH (hm.objs j o' hj) hle];exact hbj)
 .refine hm.after.trans (gv':=QP) ⟨hle.ext,λb hb _=>hw b hb,o5,λb o h=>h.imp id (λh=>.inl (Nat.le_of_eq h.1.symm)),λb h=>.inl h,?_,?_,hos,htape,hout,hm.after.pins.ext hle.ext⟩ (λb h=>absurd h id)
  .intro b o h;rcases h with h|⟨h,_⟩
   .exact B0 (hm.after.inC b o h) o5
   .omega
  .intro b h;exact B0 (hm.after.inO b h) o5
theorem A9B{id src:Nat}(hl:Lay P (.slice (.int .u8)) id)(hsrc:∃d,P.underlying src=some d)(hm:MemS P fr free σ w G){s:DW}{v:Value}(hs:SR P w G (.val .str s) v):
 ∃z w',(convert src id v).run P w=.ok z w'/\Res P fr free self σ w G ⟨.val (.slice (.int .u8)) (FV s),[]⟩ z w':=by
 obtain⟨rfl,hlen⟩:=hs.str;obtain⟨el,hu,hle,_⟩:=hl.slice;obtain⟨d,hd⟩:=hsrc;have hrun:=Lib.run_convert_string_bytes w src id el ⟨s.toArray⟩ hd hu hle.int;have hss:(⟨s.toArray⟩:ByteArray).size=s.length:=K5 s
 obtain⟨g1,g2⟩:=hm.new_im (w':=Lib.bytesWorld w el ⟨s.toArray⟩) (n:=s.length) (λb hb=>Lib.bytesWorld_at_old w el _ b hb) (Lib.bytesWorld_size w el _) (Lib.bytesWorld_at_new w el _)
  rfl rfl rfl
 refine⟨_,_,hrun,_,g1,g2.shrink λ_ h=>h.1,?_⟩;have hbl:(FV s).length=s.length:=by simp[FV]
 refine⟨_,rfl,some ⟨w.heap.size,0,none⟩,grownCap w s.length 0 el,?_,?_,oc,?_⟩
 .rw[hss];show _=[Value.slice _ (FV s).length _];rw[hbl]
 .show GL (FV s).length _;rw[hbl];exact⟨grownCap_ge _ _ _ _,hlen⟩
 .intro ad had;cases had;refine⟨λ_=>rfl,λi x hx=>?_⟩;have hx:(FV s)[i]?=some x:=hx;have hi:i<s.length:=by rw[<-hbl];exact lt_of_getElem? hx
  have hxe:x=((s[i]).toNat:Int):=by
   simp only[FV,AV,A0 hi,BD]at hx;exact(A3 hx).symm
  refine⟨[.int .u8 x],⟨rfl,λj hj=>?_⟩,rfl,?_⟩
  .have hj0:j=0:=by simp[Ty.sz]at hj;exact hj
   subst hj0;have hsz1:0+i*(Ty.int .u8).sz+0=i:=by simp[Ty.sz]
   rw[hsz1];refine⟨.inr ⟨rfl,o5,hi⟩,?_⟩;rw[Lib.bytesWorld_cell w el _ i (by rw[hss];exact hi),hxe];simp[List.getD,hi]
  .rw[hxe];have:=(s[i]).toNat_lt;constructor<;>simp[IntKind.min,IntKind.max,IntKind.signed,IntKind.bits]<;>omega
theorem A9C(hpin:Pins.P=P){id src el:Nat}{wr:Bool}(hl:Lay P (.slice (.int .u8)) id)(hel:∀x,P.underlying id=some (.slice x)->el=x)(hsrc:∃d,P.underlying src=some d)(hm:MemS P fr free σ w G)(hself:free self){s:DW}{v:Value}(hs:SR P w G (.val .str s) v):
 ∃z w',(convert src id v).run P w=.ok z w'/\Res P fr free self σ w G ⟨.obj self 0,[(self,some (.sl el (.int .u8) (FV s) 0 wr))]⟩ z w':=by
 obtain⟨rfl,hlen⟩:=hs.str;obtain⟨el',hu,hle,_⟩:=hl.slice;have:=hel _ hu;subst this;obtain⟨d,hd⟩:=hsrc;have hrun:=Lib.run_convert_string_bytes w src id el ⟨s.toArray⟩ hd hu hle.int;have hss:(⟨s.toArray⟩:ByteArray).size=s.length:=K5 s;have hbl:(FV s).length=s.length:=by simp[FV]
 have hge:=grownCap_ge w s.length 0 el
 have hcs:(Lib.bytesCells w el ⟨s.toArray⟩).size=grownCap w s.length 0 el:=by
  unfold Lib.bytesCells;rw[hss];simp;omega
 have hcell:∀i,i<s.length->(Lib.bytesCells w el ⟨s.toArray⟩).toList[i]?=some (.int .u8 ((s.getD i 0).toNat:Int)):=by
  intro i hi;have h1:=Lib.bytesWorld_cell w el ⟨s.toArray⟩ i (by rw[hss];exact hi);have h2:=Lib.bytesWorld_at_new w el ⟨s.toArray⟩;have h3:(Lib.bytesWorld w el ⟨s.toArray⟩).cell? ⟨w.heap.size,i,none⟩=(Lib.bytesCells w el ⟨s.toArray⟩).toList[i]?:=by simp[World.cell?,h2]
  rw[<-h3,h1]
 have hold:∀b',b'<w.heap.size->b'≠w.heap.size->(Lib.bytesWorld w el ⟨s.toArray⟩).heap[b']?=w.heap[b']?:=λb' h _=>Lib.bytesWorld_at_old w el _ b' h
 obtain⟨G',g1,g2,g3⟩:=hm.take_sl (w':=Lib.bytesWorld w el ⟨s.toArray⟩) (b:=w.heap.size) (el:=el) (wr:=wr) (cap:=grownCap w s.length 0 el) (t:=.int .u8) (xs:=FV s) (cs:=Lib.bytesCells w el ⟨s.toArray⟩) hself
  (λj o ho h=>absurd (HP (hm.objs j o ho) h) (AH _)) hm.owned_new hold (by rw[Lib.bytesWorld_size];omega) rfl rfl rfl
  (by show GL (FV s).length _;rw[hbl];exact⟨hge,hlen⟩) ⟨_,Lib.bytesWorld_at_new w el _,.inr ⟨AB _,by rw[hpin];exact hle.int⟩⟩ (by rw[hcs];simp[Ty.sz])
  (by
   intro i x hx;have hx:(FV s)[i]?=some x:=hx;have hi:i<s.length:=by rw[<-hbl];exact lt_of_getElem? hx
   have hxe:x=((s.getD i 0).toNat:Int):=by
    simp only[FV,AV,A0 hi,BD]at hx;rw[AG,A0 hi];exact(A3 hx).symm
   have hc:=hcell i hi;have hlt:i<(Lib.bytesCells w el ⟨s.toArray⟩).toList.length:=(A8.1 hc).1
   have hd1:((Lib.bytesCells w el ⟨s.toArray⟩).toList.drop (i*(Ty.int .u8).sz)).take (Ty.int .u8).sz=[.int .u8 ((s.getD i 0).toNat:Int)]:=by
    show((Lib.bytesCells w el ⟨s.toArray⟩).toList.drop (i*1)).take 1=_;rw[CV,CS hlt];rw[A0 hlt]at hc;rw[A3 hc];rfl
   rw[hd1,hxe];exact⟨rfl,hY _⟩)
  (λ_ o h=>absurd (hm.after.inC _ _ h) (AH _)) (λo h=>absurd (hm.after.inC _ _ h) (AH _)) (λh=>absurd (hm.after.inO _ h) (AH _))
 refine⟨_,_,hrun,G',g1,g2,?_⟩;rw[hss];have g3:SR P _ G' (.obj self 0) (.slice (some ⟨w.heap.size,0,none⟩) (FV s).length (grownCap w s.length 0 el)):=g3;rw[hbl]at g3;exact g3
theorem A9D{k:IntKind}:∀{xs:List Int} {news:List Value},RowsOK w I (.int k) xs news->news.length=xs.length->news=xs.map (Value.int k):=by
 intro xs news h hl;apply BV;intro i;by_cases hi:i<xs.length
 .have:=(h i xs[i] (A0 hi)).1;have e:i*(Ty.int k).sz=i:=by simp[Ty.sz]
  rw[e]at this;have h2:=congrArg (·[0]?) this;simp only[AK,AR,Ty.sz]at h2;simp at h2;rw[h2];simp[hi]
 .rw[B9 o5,B9 og]
theorem A9E(l:List Int):∀(r:ByteArray),l.foldl (λr n=>r.push (UInt8.ofNat n.toNat)) r=⟨r.data++(HH l).toArray⟩:=by
 induction l with
 |nil=>intro r;simp[HH]
 |cons b l ih=>
  intro r;simp only[List.foldl_cons];rw[ih];simp[ByteArray.push,HH]
theorem A9F{id src:Nat}(hl:Lay P .str id)(hsrc:Lay P (.slice (.int .u8)) src){xs:List Int}{s:DW}{v:Value}(hv:VRel w I (.slice (.int .u8)) xs v)(hs:cat? [] (HH xs)=some s):
 ∃z,(convert src id v).run P w=.ok z w/\SR P w G (.val .str s) z:=by
 obtain⟨el,hu,hle,_⟩:=hsrc.slice;unfold cat? at hs;cases hb:decide ((([]:DW).length+(HH xs).length)<=281474976710656)with
 |false=>rw[hb]at hs;cases hs
 |true=>
  rw[hb]at hs;have hs:HH xs=s:=A3 hs;subst hs;have hlen:=A9 hb;obtain⟨a,cap,news,hve,hnil,h1,h2,h3,h4⟩:=uH hv;have hve:v=.slice a (List.length (α:=Int) xs) cap:=hve;have h1:news.length=List.length (α:=Int) xs*1:=h1;subst hve;have hnews:news=xs.map (Value.int .u8):=A9D h2 (by rw[h1,CV]);cases a with
  |none=>
   have hx:xs=[]:=hnil rfl;subst hx;refine⟨.string .empty,?_,SR.mk_str (s:=[]) oc⟩;rw[run_convert_bytes_string w src id el _ _ _ hu hle.int hl.str];simp[Conv.bytesToString]
  |some ad=>
   have hc:=h4 ad rfl;refine⟨_,?_,SR.mk_str (s:=HH xs) (by simpa using hlen)⟩;rw[run_convert_bytes_string w src id el _ _ _ hu hle.int hl.str,run_bytesToString w ad xs.length cap xs ?_,A9E]
   .simp
   .have:(loadCells ad news.length).run P w=.ok news.toArray w:=run_loadCells_list w ad news λj u hj=>by
     have hsp:=(hc j u hj).1
     have e:ad.add j=⟨ad.block,ad.off+j,none⟩:=by
      cases ad;cases hsp;exact K6
     rw[e];exact(hc j u hj).2
    rw[hnews]at this;simpa using this
end
open Go.MapKept
section
variable{P:Program}{fr:Fr}{free free':Nat->Prop}{self:Nat}{σ σ':SSo}{w w':World}{G G':Gh}{I:Im}
theorem A9G(a b:DW):((⟨a.toArray⟩:ByteArray)==⟨b.toArray⟩)=EG a b:=by
 rw[Bool.eq_iff_iff,bytes_beq];simp[EG]
structure KeyAt(P:Program)(w:World)(I:Im)(t:Ty)(eq:t.T->t.T->Bool)(d:TypeDesc):Prop where
 key:∀x v,VRel w I t x v->IsKey d v
 same:∀x v y u,VRel w I t x v->VRel w I t y u->Instr.sameNow d v u=some (eq x y)/\(eq x y=true->Instr.sameBits 10000 u v=true/\u=v)/\(eq x y=false->u≠v)
theorem A9H(x y:Bool):Instr.sameNow .bool (.bool x) (.bool y)=some (J7 x y)/\(J7 x y=true->Instr.sameBits 10000 (.bool y) (.bool x)=true/\Value.bool y=.bool x)/\(J7 x y=false->Value.bool y≠.bool x):=by
 refine⟨rfl,λh=>?_,λh e=>by cases e;simp[J7]at h⟩;have:x=y:=by simpa[J7]using h
 subst this;simp[Instr.sameBits]
theorem A9I(k:IntKind)(x y:Int):Instr.sameNow (.int k) (.int k x) (.int k y)=some (E1 x y)/\(E1 x y=true->Instr.sameBits 10000 (.int k y) (.int k x)=true/\Value.int k y=.int k x)/\(E1 x y=false->Value.int k y≠.int k x):=by
 refine⟨by simp[Instr.sameNow,E1],λh=>?_,λh e=>by cases e;simp[E1]at h⟩;have:x=y:=by simpa[E1]using h
 subst this;simp[Instr.sameBits]
theorem A9J(x y:DW):Instr.sameNow .string (.string ⟨x.toArray⟩) (.string ⟨y.toArray⟩)=some (EG x y)/\(EG x y=true->Instr.sameBits 10000 (.string ⟨y.toArray⟩) (.string ⟨x.toArray⟩)=true/\Value.string ⟨y.toArray⟩=.string ⟨x.toArray⟩)/\(EG x y=false->Value.string ⟨y.toArray⟩≠.string ⟨x.toArray⟩):=by
 refine ⟨by simp only [Instr.sameNow]; rw [A9G],λh=>?_,λh e=>by
  have e:(⟨y.toArray⟩:ByteArray)=⟨x.toArray⟩:=Value.string.inj e;have e:y.toArray=x.toArray:=congrArg ByteArray.data e;have e:y=x:=by simpa using e
  subst e;simp[EG]at h⟩
 have:x=y:=by simpa[EG]using h
 subst this;exact⟨by simp only[Instr.sameBits];rw[bytes_beq],rfl⟩
theorem A9K{t:Ty}{id:Nat}(hl:Lay P t id){eq:t.T->t.T->Bool}(h:QC t=some eq):∃d,P.underlying id=some d/\KeyAt P w I t eq d:=by
 cases t<;>simp only[QC]at h<;>first|(cases h;done)|skip
 .have h:=A3 h;subst h;refine⟨_,hl.bool,⟨λx v hv=>?_,λx v y u hv hu=>?_⟩⟩
  .rw[SR.bool (P:=P) (G:=⟨I,λ_ _=>none,λ_=>none,λ_=>none⟩) hv];trivial
  .rw[SR.bool (P:=P) (G:=⟨I,λ_ _=>none,λ_=>none,λ_=>none⟩) hv,SR.bool (P:=P) (G:=⟨I,λ_ _=>none,λ_=>none,λ_=>none⟩) hu];exact A9H x y
 .rename_i k;have h:=A3 h;subst h;refine⟨_,hl.int,⟨λx v hv=>?_,λx v y u hv hu=>?_⟩⟩
  .rw[(SR.int (P:=P) (G:=⟨I,λ_ _=>none,λ_=>none,λ_=>none⟩) hv).1];rfl
  .rw[(SR.int (P:=P) (G:=⟨I,λ_ _=>none,λ_=>none,λ_=>none⟩) hv).1,(SR.int (P:=P) (G:=⟨I,λ_ _=>none,λ_=>none,λ_=>none⟩) hu).1];exact A9I k x y
 .have h:=A3 h;subst h;refine⟨_,hl.str,⟨λx v hv=>?_,λx v y u hv hu=>?_⟩⟩
  .rw[(SR.str (P:=P) (G:=⟨I,λ_ _=>none,λ_=>none,λ_=>none⟩) hv).1];trivial
  .rw[(SR.str (P:=P) (G:=⟨I,λ_ _=>none,λ_=>none,λ_=>none⟩) hv).1,(SR.str (P:=P) (G:=⟨I,λ_ _=>none,λ_=>none,λ_=>none⟩) hu).1];exact A9J x y
def EntsOK(w:World)(I:Im)(k v:Ty)(es:List (k.T×v.T))(ents:List MapEntry):Prop:=
 ents.length=es.length/\∀(i:Nat) (x:k.T×v.T) (e:MapEntry),es[i]?=some x->ents[i]?=some e->VRel w I k x.1 e.key/\VRel w I v x.2 e.val
theorem A9L{k v:Ty}{eq:k.T→k.T→Bool}{d:TypeDesc}(hk:KeyAt P w I k eq d){x:k.T}{vx:Value}(hx:VRel w I k x vx):∀(es:List (k.T×v.T)) (ents:List MapEntry) (i:Nat),EntsOK w I k v es ents→
 (Instr.findNow d vx ents i=some none/\FQ eq x es=none/\(∀z,FH eq x z es=es++[(x,z)])/\∀e∈ents,e.key≠vx)\/
 (∃j e y,Instr.findNow d vx ents i=some (some (i+j,e.val))/\ents[j]?=some e/\FQ eq x es=some y/\VRel w I v y e.val/\Instr.sameBits 10000 e.key vx=true/\j<es.length/\(∀z,FH eq x z es=es.set j (x,z))/\e.key=vx):=by
 intro es;induction es with
 |nil=>
  intro ents i h;have:ents=[]:=AJ h.1;subst this;exact .inl ⟨rfl,rfl,λz=>rfl,λ_ h=>oe⟩
 |cons q es ih=>
  intro ents i h;cases ents with
  |nil=>cases h.1
  |cons e ents=>
   obtain⟨h1,h2⟩:=h.2 0 q e rfl rfl;obtain⟨s1,s2,s3⟩:=hk.same _ _ _ _ hx h1;cases hq:eq x q.1 with
   |true=>
    rw[hq]at s1;refine .inr ⟨0,e,q.2,by simp[Instr.findNow,s1],rfl,by simp[FQ,hq],h2,(s2 hq).1,oc,λz=>by simp[FH,hq],(s2 hq).2⟩
   |false=>
    rw[hq]at s1;rcases ih ents (i+1) ⟨by simpa using h.1,λj y e h1 h2=>h.2 (j+1) y e ot oq⟩with⟨a1,a2,a3,a8⟩|⟨j,e',y,a1,a2,a3,a4,a5,a6,a7,a8⟩
    .exact .inl ⟨by simp[Instr.findNow,s1,a1],by simp[FQ,hq,a2],λz=>by simp[FH,hq,a3],λe' he'=>(A_.1 he').elim (λh=>h▸s3 hq) (a8 e')⟩
    .exact .inr ⟨j+1,e',y,by simp[Instr.findNow,s1,a1];omega,by simpa using a2,by simp[FQ,hq,a3],a4,a5,og,λz=>by simp[FH,hq,a7],a8⟩
structure KeyRun(P:Program)(w:World)(I:Im)(t:Ty)(eq:t.T->t.T->Bool)(ka:TypeId):Prop where
 check:∀x v,VRel w I t x v->∀e,(Instr.checkKey e 10000 ka v).run P w=.ok () w
 find:∀{v:Ty} {x:t.T} {vx:Value},VRel w I t x vx->∀(es:List (t.T×v.T)) (ents:List MapEntry),EntsOK w I t v es ents->
  ((Instr.findKey ka vx ents).run P w=.ok none w/\FQ eq x es=none/\(∀z,FH eq x z es=es++[(x,z)])/\∀e∈ents,e.key≠vx)\/
  (∃j e y,(Instr.findKey ka vx ents).run P w=.ok (some (j,e.val)) w/\ents[j]?=some e/\FQ eq x es=some y/\VRel w I v y e.val/\Instr.sameBits 10000 e.key vx=true/\j<es.length/\(∀z,FH eq x z es=es.set j (x,z))/\e.key=vx)
theorem iI{t:Ty}{ka:Nat}(hl:Lay P t ka){eq:t.T->t.T->Bool}(h:QC t=some eq):KeyRun P w I t eq ka:=by
 obtain⟨d,hd,hk⟩:=A9K (P:=P) (w:=w) (I:=I) hl h;refine⟨λx v hv e=>run_checkKey hd (hk.key _ _ hv) e 9999,λ{v x vx} hx es ents he=>?_⟩;rcases A9L (P:=P) hk hx es ents 0 he with⟨a1,a2,a3⟩|⟨j,e,y,a1,a2,a3,a4,a5,a6,a7⟩
 .exact .inl ⟨run_findKey (P:=P) (w:=w) hd a1,a2,a3⟩
 .refine .inr ⟨j,e,y,?_,a2,a3,a4,a5,a6,a7⟩;have:=run_findKey (P:=P) (w:=w) hd a1;rw[B8]at this;exact this
theorem A9M(x y:Bool):J7 x y=true↔x=y:=DT
theorem A9N(x y:Int):E1 x y=true<->x=y:=DT
theorem A9O(x y:DW):EG x y=true<->x=y:=DT
theorem A9P(x:Bool)(n:Nat):Instr.sameBits n (.bool x) (.bool x)=true:=by simp[Instr.sameBits]
theorem A9Q(k:IntKind)(x:Int)(n:Nat):Instr.sameBits n (.int k x) (.int k x)=true:=by simp[Instr.sameBits]
theorem A9R(x:ByteArray)(n:Nat):Instr.sameBits n (.string x) (.string x)=true:=by simp only[Instr.sameBits];rw[bytes_beq]
theorem uN{a b:Ty}{eq:a.T×b.T->a.T×b.T->Bool}(h:J8 (.prod a b)=some eq):∃f g,J8 a=some f/\J8 b=some g/\eq=λx y=>f x.1 y.1&&g x.2 y.2:=by
 have h:(match J8 a,J8 b with
  |some f,some g=>some (λ(x y:a.T×b.T)=>f x.1 y.1&&g x.2 y.2)
  |_,_=>none)=some eq:=h
 cases hf:J8 a with
 |none=>rw[hf]at h;cases h
 |some f=>
  cases hg:J8 b with
  |none=>rw[hf,hg]at h;cases h
  |some g=>
   rw[hf,hg]at h;exact⟨f,g,rfl,rfl,(A3 h).symm⟩
theorem iJ:∀{t:Ty} {eq:t.T->t.T->Bool},J8 t=some eq->∀x y,Ty.beq t x y=some (eq x y)/\(eq x y=true<->x=y):=by
 intro t;induction t with
 |bool=>intro eq h x y;cases h;exact⟨rfl,A9M x y⟩
 |int k=>intro eq h x y;cases h;exact⟨rfl,A9N x y⟩
 |str=>intro eq h x y;cases h;exact⟨rfl,A9O x y⟩
 |agg p ih=>intro eq h x y;exact ih (eq:=eq) h x y
 |prod a b iha ihb=>
  intro eq h x y;obtain⟨f,g,hf,hg,rfl⟩:=uN h;obtain⟨p1,p2⟩:=iha hf x.1 y.1;obtain⟨q1,q2⟩:=ihb hg x.2 y.2;refine⟨by simp only[Ty.beq,p1,q1],?_⟩;rw[A4,p2,q2];exact⟨λh=>Prod.ext h.1 h.2,λh=>by rw[h];exact⟨rfl,rfl⟩⟩
 |_=>intro eq h;cases h
theorem A9S:∀{t:Ty} {eq:t.T->t.T->Bool},J8 t=some eq->∀{x:t.T} {cs ds:List Value},Rel w I t x cs->Rel w I t x ds->cs=ds/\∀v∈cs,∀n,Instr.sameBits n v v=true:=by
 intro t;induction t with
 |bool=>
  intro eq _ x cs ds h k;have h:cs=[.bool x]:=h;have k:ds=[.bool x]:=k;subst h k
  exact ⟨rfl,λv hv n=>by
   rw[AN.1 hv];exact A9P x n⟩
 |int kd=>
  intro eq _ x cs ds h k;have h:cs=[.int kd x]:=h.1;have k:ds=[.int kd x]:=k.1;subst h k
  exact ⟨rfl,λv hv n=>by
   rw[AN.1 hv];exact A9Q kd x n⟩
 |str=>
  intro eq _ x cs ds h k;have h:=h.1;have k:=k.1;subst h k
  exact ⟨rfl,λv hv n=>by
   rw[AN.1 hv];exact A9R _ n⟩
 |agg p ih=>intro eq h x cs ds h1 h2;exact ih (eq:=eq) h (x:=x) h1 h2
 |prod a b iha ihb=>
  intro eq h x cs ds h1 h2;obtain⟨f,g,hf,hg,rfl⟩:=uN h;obtain⟨c1,c2,rfl,p1,p2⟩:=h1;obtain⟨d1,d2,rfl,q1,q2⟩:=h2;obtain⟨e1,r1⟩:=iha hf p1 q1;obtain⟨e2,r2⟩:=ihb hg p2 q2;refine⟨by rw[e1,e2],λv hv n=>?_⟩;rcases AL.1 hv with h|h
  .exact r1 v h n
  .exact r2 v h n
 |_=>intro eq h;cases h
theorem A9T{l:List Value}{n:Nat}(h:∀v∈l,Instr.sameBits n v v=true):((l.zip l).all λ(x,y)=>Instr.sameBits n x y)=true:=by
 rw[BG];rintro⟨x,y⟩ hp;obtain⟨i,hi⟩:=C9 hp;rw[List.getElem?_zip_eq_some]at hi;obtain⟨h1,h2⟩:=hi;have e:x=y:=by rw[h1]at h2;exact A3 h2
 subst e;exact h x (B5 h1)
theorem A9U{p:Ty}{ka:Nat}(hl:Lay P (.agg p) ka){eq:p.T->p.T->Bool}(h:J8 p=some eq)(hk:LI P (.agg p) ka=true):KeyRun P w I (.agg p) eq ka:=by
 simp only[LI,A4,BI,BW]at hk;obtain⟨fs,hu,_⟩:=hl.agg
 have heq:∀{x y:p.T} {v u:Value},VRel w I (.agg p) x v->VRel w I (.agg p) y u->(Op.equal ka v u).run P w=.ok (eq x y) w:=λ{x y v u} hv hu=>
  (tY (t:=.agg p)).1 ka 10000 x y v u (eq x y) hl hk.1 hv hu ((iJ h x y).1) hk.2.2
 have hsame:∀{x:p.T} {v u:Value},VRel w I (.agg p) x v->VRel w I (.agg p) x u->Instr.sameBits 10000 u v=true/\u=v:=by
  intro x v u hv hu;obtain⟨c,h1,h2⟩:=hv;obtain⟨d,h3,h4⟩:=hu;have e1:v=.agg c.toArray:=h1;have e2:u=.agg d.toArray:=h3;subst e1 e2;obtain⟨e,hb⟩:=A9S h (show Rel w I p x c from h2) (show Rel w I p x d from h4);subst e;have hall:=A9T (n:=9999) λv hv=>hb v hv 9999;refine⟨?_,rfl⟩;simp only[Instr.sameBits,beq_self_eq_true,CE];exact hall
 have hnow:∀{v:Value} (e:MapEntry) (l:List MapEntry) (i:Nat),Instr.findNow (.struct fs) v (e::l) i=none:=by
  intro v e l i;simp[Instr.findNow,Instr.sameNow]
 have hask:∀{v:Ty} {x:p.T} {vx:Value},VRel w I (.agg p) x vx->∀(es:List (p.T×v.T)) (ents:List MapEntry) (i:Nat),EntsOK w I (.agg p) v es ents->
  ((Instr.findAsking ka vx ents i).run P w=.ok none w/\FQ eq x es=none/\(∀z,FH eq x z es=es++[(x,z)])/\∀e∈ents,e.key≠vx)\/
  (∃j e y,(Instr.findAsking ka vx ents i).run P w=.ok (some (i+j,e.val)) w/\ents[j]?=some e/\FQ eq x es=some y/\VRel w I v y e.val/\Instr.sameBits 10000 e.key vx=true/\j<es.length/\(∀z,FH eq x z es=es.set j (x,z))/\e.key=vx):=by
  intro v x vx hx es;induction es with
  |nil=>
   intro ents i he;have:ents=[]:=AJ he.1;subst this;exact .inl ⟨rfl,rfl,λz=>rfl,λ_ h=>oe⟩
  |cons q es ih=>
   intro ents i he;cases ents with
   |nil=>cases he.1
   |cons e ents=>
    obtain⟨h1,h2⟩:=he.2 0 q e rfl rfl;have s1:=heq hx h1;cases hq:eq x q.1 with
    |true=>
     rw[hq]at s1;have hxq:=(iJ h x q.1).2.1 hq;obtain⟨t1,t2⟩:=hsame hx (by rw[hxq];exact h1);refine .inr ⟨0,e,q.2,by simp[Instr.findAsking,s1],rfl,by simp[FQ,hq],h2,t1,oc,λz=>by simp[FH,hq],t2⟩
    |false=>
     rw[hq]at s1;rcases ih ents (i+1) ⟨Nat.succ.inj he.1,λj y e h1 h2=>he.2 (j+1) y e h1 h2⟩with⟨a1,a2,a3,a8⟩|⟨j,e',y,a1,a2,a3,a4,a5,a6,a7,a8⟩
     .refine .inl ⟨by simp[Instr.findAsking,s1,a1],by simp[FQ,hq,a2],λz=>by simp[FH,hq,a3],λe' he'=>?_⟩;rcases A_.1 he' with rfl|he'
      .intro hev;rw[hev]at s1;have:=(heq hx hx).symm.trans s1;rw[(iJ h x x).2.2 rfl]at this;cases this
      .exact a8 e' he'
     .refine .inr ⟨j+1,e',y,?_,by simpa using a2,by simp[FQ,hq,a3],a4,a5,og,λz=>by simp[FH,hq,a7],a8⟩;rw[show i+(j+1)=i+1+j by omega];simp[Instr.findAsking,s1,a1]
 refine⟨λx v hv e=>(A8g (t:=.agg p)).1 ka 10000 e x v hl hk.1 hv hk.2.2,λ{v x vx} hx es ents he=>?_⟩;cases ents with
 |nil=>
  have:es=[]:=AJ he.1.symm;subst this;exact .inl ⟨by simp[Instr.findKey,run_underlying hu,Instr.findNow],rfl,λz=>rfl,λ_ h=>oe⟩
 |cons e ents=>
  have hrun:(Instr.findKey ka vx (e::ents)).run P w=(Instr.findAsking ka vx (e::ents)).run P w:=by
   simp only[Instr.findKey,Sem.run_bind,run_underlying hu,Result.andThen_ok,hnow]
  rcases hask hx es (e::ents) 0 he with⟨a1,a2,a3⟩|⟨j,e',y,a1,a2,a3,a4,a5,a6,a7⟩
  .exact .inl ⟨hrun.trans a1,a2,a3⟩
  .rw[B8]at a1;exact .inr ⟨j,e',y,hrun.trans a1,a2,a3,a4,a5,a6,a7⟩
theorem uO{ke:Bool}{t:Ty}{ka:Nat}(hl:Lay P t ka){eq:t.T->t.T->Bool}(h:fR ke t=some eq)(hk:ke=true->LI P t ka=true):KeyRun P w I t eq ka:=by
 cases t with
 |agg p=>
  cases ke with
  |false=>cases h
  |true=>exact A9U hl (show J8 p=some eq from h) (hk rfl)
 |bool=>exact iI hl (show QC .bool=some eq from h)
 |int k=>exact iI hl (show QC (.int k)=some eq from h)
 |str=>exact iI hl (show QC .str=some eq from h)
 |_=>cases h
theorem uP{ke:Bool}{k v:Ty}{id:Nat}(hl:Lay P (.map k v) id)(hke:ke=true->∀x y,P.underlying id=some (.map x y)->LI P k x=true){ok:Bool}{s:SV}{vk vm:Value}{es:List (k.T×v.T)}{r:OpRes}{u:Upd}{ents:Array MapEntry}
 (hr:WZ ke k v ok s es=some r)(hu:Gives r u)(hs:SR P w G s vk)(he:EntsOK w G.im k v es ents.toList)
 (hm:(vm=.map none/\ents= #[])\/∃b clock,vm=.map (some b)/\w.heap[b]?=some (.map ents clock)):
 u.wr=[]/\∃z,(Instr.lookup id vm vk ok).run P w=.ok z w/\SR P w G u.sv z:=by
 obtain⟨ka,va,hun,hlk,hlv⟩:=hl.map;unfold WZ at hr;split at hr
 .rename_i eq x heq hx;cases hr;rw[hu.v_inv];have hxv:VRel w G.im k x vk:=JL hx hs;have hkey:=uO (P:=P) (w:=w) (I:=G.im) hlk heq (λh=>hke h _ _ hun);have hck:=hkey.check _ _ hxv ents.isEmpty;obtain⟨zv,hz,hzr⟩:=A8v (P:=P) (w:=w) (G:=G) hlv
  have hrun:∀a:Option (Nat×Value),(Instr.findKey ka vk ents.toList).run P w=.ok a w->
   (Instr.lookup id vm vk ok).run P w=.ok (match a with|some p=>if ok then .tuple #[p.2,.bool true]else p.2|none=>if ok then .tuple #[zv,.bool false]else zv) w:=by
   intro a ha;rcases hm with⟨rfl,rfl⟩|⟨b,clock,rfl,hb⟩
   .cases a with
    |none=>simp[Instr.lookup,run_underlying hun]at hck ha ⊢;simp[hck,ha,hz]
    |some p=>simp[Instr.lookup,run_underlying hun]at hck ha ⊢;simp[hck,ha]
   .cases a with
    |none=>simp[Instr.lookup,run_underlying hun,run_getObj_map hb,hck,ha,hz]
    |some p=>simp[Instr.lookup,run_underlying hun,run_getObj_map hb,hck,ha]
  refine⟨rfl,?_⟩;rcases hkey.find hxv es ents.toList he with⟨a1,a2,_⟩|⟨j,e,y,a1,a2,a3,a4,_⟩
  .have hf:=hrun _ a1;rw[hf,a2];cases ok with
   |true=>
    refine⟨_,rfl,_,rfl,_,rfl,_,_,rfl,hzr,_,_,rfl,?_,rfl⟩;exact⟨_,rfl,rfl⟩
   |false=>exact⟨_,rfl,hzr⟩
  .have hf:=hrun _ a1;rw[hf,a3];cases ok with
   |true=>
    refine⟨_,rfl,_,rfl,_,rfl,_,_,rfl,a4,_,_,rfl,?_,rfl⟩;exact⟨_,rfl,rfl⟩
   |false=>exact⟨_,rfl,a4⟩
 .cases hr
theorem A9V{k v:Ty}{es:List (k.T×v.T)}{cv:Value}(h:VRel w I (.map k v) es cv):
 ∃ents:Array MapEntry,EntsOK w I k v es ents.toList/\((cv=.map none/\ents= #[])\/∃b clock,cv=.map (some b)/\w.heap[b]?=some (.map ents clock)):=by
 obtain⟨c,hc,r,rfl,hnil,hb⟩:=h
 have hcv:cv=.map r:=by
  have:[Value.map r]=[cv]:=hc;exact(A5.1 this).symm
 subst hcv;cases r with
 |none=>
  have:es=[]:=hnil rfl;subst this;exact⟨#[],⟨rfl,λi x e h=>by simp at h⟩,.inl ⟨rfl,rfl⟩⟩
 |some b=>
  obtain⟨_,ents,clock,h1,h2,h3⟩:=hb b rfl;exact⟨ents,⟨by simpa using h2.1,λi x e hx he=>h3 i x e hx (by rw[<-BE];exact he)⟩,.inr ⟨b,clock,rfl,h1⟩⟩
theorem A9W{ke:Bool}{t:Ty}{id:Nat}(hl:Lay P t id)(hke:ke=true->∀k v,t=.map k v->∀x y,P.underlying id=some (.map x y)->LI P k x=true)(ho:∀k o,σ k=some o->ObjOK P fr w G k o){ok:Bool}{m s:SV}{vm vk:Value}{r:OpRes}{u:Upd}
 (hr:gG σ ke t ok m s=some r)(hu:Gives r u)(hm:SR P w G m vm)(hs:SR P w G s vk):
 u.wr=[]/\∃z,(Instr.lookup id vm vk ok).run P w=.ok z w/\SR P w G u.sv z:=by
 unfold gG at hr;split at hr
 .rename_i k v;split at hr
  .rename_i q es;split at hr
   .rename_i es' hes;obtain⟨ents,e1,e2⟩:=A9V (VRel.cast hes hm);exact uP hl (λh=>hke h _ _ rfl) hr hu hs e1 e2
   .cases hr
  .rename_i j g;split at hr
   .rename_i k' v' es wr hk;cases hb:(Nat.beq g 0&&(k'.same k&&v'.same v))with
    |false=>rw[hb]at hr;cases hr
    |true=>
     rw[hb]at hr;simp only[AA]at hr;simp only[A4]at hb;have hg:=A2 hb.1;have e1:=Ty.same_eq hb.2.1;have e2:=Ty.same_eq hb.2.2;subst hg e1 e2;obtain⟨cv,q1,b,ents,clock,rfl,q2,q3,q4,_⟩:=ho _ _ hk;obtain⟨c,hc,v2,k3,_,k5⟩:=hm
     have hv2:v2=vm:=by
      have:[vm]=[v2]:=(show c=[vm]from hc).symm.trans k5;exact(A5.1 this).symm
     subst hv2;rw[q1]at k3;cases k3;exact uP hl (λh=>hke h _ _ rfl) hr hu hs ⟨by simpa using q3.1,λi x e hx he=>q4 i x e hx (by rw[<-BE];exact he)⟩ (.inr ⟨b,clock,rfl,q2⟩)
   .cases hr
  .cases hr
 .cases hr
end
open Go.MapKept
section
variable{P:Program}{fr:Fr}{free free':Nat->Prop}{self:Nat}{σ σ':SSo}{w w':World}{G G':Gh}{I:Im}
theorem EntsOK.set{k v:Ty}{es:List (k.T×v.T)}{ents:List MapEntry}(h:EntsOK w I k v es ents){j:Nat}{x:k.T}{y:v.T}{e:MapEntry}(hx:VRel w I k x e.key)(hy:VRel w I v y e.val):
 EntsOK w I k v (es.set j (x,y)) (ents.set j e):=by
 refine⟨by simpa using h.1,λi q e' hq he=>?_⟩;by_cases hij:j=i
 .subst hij;by_cases hlt:j<es.length
  .rw[CN hlt]at hq;rw[CN (by rw[h.1];exact hlt)]at he;cases hq;cases he;exact⟨hx,hy⟩
  .rw[B9 og]at hq;cases hq
 .rw[CW hij]at hq he;exact h.2 i q e' hq he
theorem EntsOK.push{k v:Ty}{es:List (k.T×v.T)}{ents:List MapEntry}(h:EntsOK w I k v es ents){x:k.T}{y:v.T}{e:MapEntry}(hx:VRel w I k x e.key)(hy:VRel w I v y e.val):
 EntsOK w I k v (es++[(x,y)]) (ents++[e]):=by
 refine⟨by simp[h.1],λi q e' hq he=>?_⟩;by_cases hlt:i<es.length
 .rw[AQ hlt]at hq;rw[AQ (by rw[h.1];exact hlt)]at he;exact h.2 i q e' hq he
 .have hle:es.length<=i:=DJ hlt;rw[AZ hle]at hq;rw[AZ (by rw[h.1];exact hle),h.1]at he
  have h0:i-es.length=0:=by
   have:=lt_of_getElem? hq;simp at this;omega
  rw[h0]at hq he;cases hq;cases he;exact⟨hx,hy⟩
theorem EntsOK.ext{I':Im}{k v:Ty}{es:List (k.T×v.T)}{ents:List MapEntry}(h:EntsOK w I k v es ents)(e:Ext w I w' I'):EntsOK w' I' k v es ents:=
 ⟨h.1,λi q e' hq he=>⟨(h.2 i q e' hq he).1.ext e,(h.2 i q e' hq he).2.ext e⟩⟩
theorem uQ{ke:Bool}{t:Ty}{id:Nat}(hl:Lay P t id)(hke:ke=true->∀k v,t=.map k v->∀x y,P.underlying id=some (.map x y)->LI P k x=true)(hm:MemS P fr free σ w G)(hσ:∀k o,σ' k=some o->σ k=some o){m s sx:SV}{vm vk vx:Value}{r:OpRes}{u:Upd}
 (hr:W_ σ' ke t m s sx=some r)(hu:Gives r u)(hsm:SR P w G m vm)(hs:SR P w G s vk)(hsx:SR P w G sx vx):
 ∃w',(Instr.mapUpdate id vm vk vx).run P w=.ok () w'/\Res P fr free self σ w G u undef w':=by
 have ho:∀k o,σ' k=some o->ObjOK P fr w G k o:=λk o h=>hm.objs k o (hσ k o h);unfold W_ at hr;split at hr
 .rename_i k v;split at hr
  .rename_i j g;split at hr
   .rename_i k' v' es hk;cases hb:(Nat.beq g 0&&(k'.same k&&v'.same v))with
    |false=>rw[hb]at hr;cases hr
    |true=>
     rw[hb]at hr;simp only[AA]at hr;simp only[A4]at hb;have hg:=A2 hb.1;have e1:=Ty.same_eq hb.2.1;have e2:=Ty.same_eq hb.2.2;subst hg e1 e2;split at hr
     .rename_i eq a b heq ha hbx;cases hr;rw[hu.pure_inv];obtain⟨ka,va,hun,hlk,hlv⟩:=hl.map;obtain⟨cv,q1,bl,ents,clock,rfl,q2,q3,q4,q5,q6,q7⟩:=ho _ _ hk;obtain⟨c,hc,v2,k3,_,k5⟩:=hsm
      have hv2:v2=vm:=by
       have:[vm]=[v2]:=(show c=[vm]from hc).symm.trans k5;exact(A5.1 this).symm
      subst hv2;rw[q1]at k3;cases k3;have hav:VRel w G.im k' a vk:=JL ha hs;have hbv:VRel w G.im v' b vx:=II ho hbx hsx;have hkey:=uO (P:=P) (w:=w) (I:=G.im) hlk heq (λh=>hke h _ _ rfl _ _ hun);have hck:=hkey.check _ _ hav false;have hents:EntsOK w G.im k' v' es ents.toList:=⟨by simpa using q3.1,λi x e hx he=>q4 i x e hx (by rw[<-BE];exact he)⟩;have hset:=λo'=>heap_set (o':=o') q2;have hval0:VRel w G.im v' b vx:=hbv
      have fin:∀(ents':Array MapEntry) (clock':Nat),EntsOK w G.im k' v' (FH eq a b es) ents'.toList->Stamped ents' clock'->
       Res P fr free self σ w G ⟨.undef,[(j,some (.mp k' v' (FH eq a b es) true))]⟩ undef {w with heap:=w.heap.setIfInBounds bl (.map ents' clock')}:=by
       intro ents' clock' he hst;obtain⟨s1,s2⟩:=hset (.map ents' clock');have hle:GLe w G {w with heap:=w.heap.setIfInBounds bl (.map ents' clock')} G:=GLe.of_heap (b:=bl) (λb' hne=>s2 b' hne) q6 (q5.1 rfl);refine⟨G,hle,hm.change (b:=bl) hle ?_ (λb' _ hne=>s2 b' hne) oc (by simpa using NL q2) q7 (λ_ _ h=>.inl h) (λ_ h=>.inl h) rfl rfl rfl ?_ ?_,⟨_,rfl,trivial⟩⟩
       .intro i o hi hoi hbi;exact hi (hm.sep i j o _ bl hoi (hσ _ _ hk) hbi (by simp[Bk,q1]))
       .intro o ho';cases ho';have hx:=he.ext hle.ext;exact⟨⟨_,q1,bl,ents',clock',rfl,s1,⟨by simpa using he.1,hst⟩,λi x e h1 h2=>hx.2 i x e h1 (by rw[BE];exact h2),q5,q6,q7⟩,by intro b' hb';simp[Bk,q1]at hb';exact .inl hb'.symm⟩
       .intro i hi;have hf:=hm.fresh i hi.1;refine⟨λe=>?_,hi.1,hf.2.1,hf.2.2.1,hf.2.2.2⟩;subst e;rw[hσ _ _ hk]at hf;cases hf.1
      rcases hkey.find hav es ents.toList hents with⟨a1,a2,a3,a8⟩|⟨i,e,y,a1,a2,a3,a4,a5,a6,a7,a8⟩
      .have hf:=a1;refine⟨_,?_,fin (ents.push {key:=vk,val:=vx,born:=clock}) (clock+1) ?_ (stamped_push q3.2 a8)⟩
       .simp[Instr.mapUpdate,run_underlying hun,run_getObj_map q2,hck,hf,run_setObj_map _ q2]
       .rw[a3,Array.toList_push];exact hents.push hav hbv
      .have hf:=a1;have a2':ents[i]?=some e:=by rw[<-BE];exact a2
       refine⟨_,?_,fin (ents.modify i λe=>{e with key:=vk,val:=vx}) clock ?_ (stamped_modify q3.2 i _ (λ_ _=>rfl) (λe' _ h=>by rw[a2']at h;cases h;exact a8.symm))⟩
       .simp[Instr.mapUpdate,run_underlying hun,run_getObj_map q2,hck,hf,a2',Instr.keyThatStays,a5,run_setObj_map _ q2]
       .rw[a7]
        have:(ents.modify i λe=>{e with key:=vk,val:=vx}).toList=ents.toList.set i {e with key:=vk,val:=vx}:=by
         apply BV;intro n;rw[BE,Array.getElem?_modify];by_cases hin:i=n
         .subst hin;rw[if_pos rfl,a2',CN (by have:=lt_of_getElem? a2;simpa using this)];rfl
         .rw[if_neg hin,CW hin,BE]
        rw[this];exact hents.set hav hbv
     .cases hr
   .cases hr
  .cases hr
 .cases hr
theorem A9X{id:Nat}{t:Ty}{x:t.T}{v:Value}(h:VRel w I t x v):∀{u:Ty} {y:u.T},LZ id t x u=some y->Rel w I u y [.iface id v]:=by
 intro u;induction u with
 |ialt j a r iha ihr=>
  intro y hy;simp only[LZ]at hy;cases hb:Nat.beq id j with
  |true=>
   rw[hb]at hy;simp only[AA]at hy;have:=A2 hb;subst this;cases hc:Ty.cast? t a x with
   |none=>rw[hc]at hy;cases hy
   |some z=>
    rw[hc]at hy;have hy:=A3 hy;subst hy;obtain⟨c,h1,h2⟩:=VRel.cast hc h;exact⟨v,c,rfl,h1,h2⟩
  |false=>
   rw[hb]at hy;simp only[AC]at hy;cases hc:LZ id t x r with
   |none=>rw[hc]at hy;cases hy
   |some z=>
    rw[hc]at hy;have hy:=A3 hy;subst hy;exact⟨rfl,ihr hc⟩
 |_=>intro y hy;simp[LZ]at hy
theorem A9Y{id:Nat}{t:Ty}{x:t.T}:∀{u:Ty} {y:u.T},LZ id t x u=some y->∀v:Value,TI (.val u y) v [v]:=by
 intro u y h v;cases u<;>first|exact rfl|(simp[LZ]at h;done)
theorem A9Z{t u:Ty}{id:Nat}(hl:Lay P t id)(ht:t.isIface=false){x:t.T}{y:u.T}{v:Value}(h:VRel w G.im t x v)(hy:LZ id t x u=some y):
 ∃z,(Instr.makeInterface id v).run P w=.ok z w/\SR P w G (.val u y) z:=by
 have hrun:(Instr.makeInterface id v).run P w=.ok (.iface id v) w:=by
  have key:∃d,P.underlying id=some d/\∀ms,d≠.interface ms:=by
   cases t with
   |bool=>exact⟨_,hl.bool,λ_ h=>oe⟩
   |int k=>exact⟨_,hl.int,λ_ h=>oe⟩
   |str=>exact⟨_,hl.str,λ_ h=>oe⟩
   |slice e=>obtain⟨_,h,_⟩:=hl.slice;exact⟨_,h,λ_ h=>oe⟩
   |agg p=>obtain⟨_,h,_⟩:=hl.agg;exact⟨_,h,λ_ h=>oe⟩
   |arr n e=>obtain⟨_,h,_⟩:=hl.arr;exact⟨_,h,λ_ h=>oe⟩
   |ptr e=>obtain⟨_,h,_⟩:=hl.ptr;exact⟨_,h,λ_ h=>oe⟩
   |map a b=>obtain⟨_,_,h,_⟩:=hl.map;exact⟨_,h,λ_ h=>oe⟩
   |self=>obtain⟨_,h⟩:=hl.self;exact⟨_,h,λ_ h=>oe⟩
   |opq=>exact hl.opq
   |fnc a b=>exact hl.fnc
   |unit=>simp[Lay,layB]at hl
   |prod a b=>simp[Lay,layB]at hl
   |inil=>simp[Ty.isIface]at ht
   |ialt i a r=>
    obtain⟨_,d,hd,hc⟩:=I4 hl;split at hc
    .rw[hc]at ht;cases ht
    .cases hc
  obtain⟨d,hd,hn⟩:=key;simp only[Instr.makeInterface,Sem.run_bind,run_underlying hd,Result.andThen_ok];cases d<;>first|rfl|exact absurd rfl (hn _)
 exact⟨_,hrun,_,A9Y hy _,A9X h hy⟩
theorem A9_{k:IntKind}{a b:Int}(ts:Array TypeId)(ty:Nat)(ha:G6 k a)(hb:G6 k b):
 ∃z,(Builtin.min_ ts ty #[.int k a,.int k b]).run P w=.ok z w/\SR P w G (.val (.int k) (X4 a b)) z:=by
 refine⟨.int k (if b<a then b else a),by simp[Builtin.min_,Builtin.min2],?_⟩;unfold X4;by_cases h:b<a
 .simp only[if_pos h,A7 h,AA];exact SR.mk_int hb
 .simp only[if_neg h,AE h,AC];exact SR.mk_int ha
theorem A9a{k:IntKind}{a b:Int}(ts:Array TypeId)(ty:Nat)(ha:G6 k a)(hb:G6 k b):
 ∃z,(Builtin.max_ ts ty #[.int k a,.int k b]).run P w=.ok z w/\SR P w G (.val (.int k) (T5 a b)) z:=by
 refine⟨.int k (if b > a then b else a),by simp[Builtin.max_,Builtin.max2],?_⟩;unfold T5;by_cases h:a<b
 .simp only[gt_iff_lt,if_pos h,A7 h,AA];exact SR.mk_int hb
 .simp only[gt_iff_lt,if_neg h,AE h,AC];exact SR.mk_int ha
theorem uR:∀{ss:List SV} {vs:List Value},ss.length=vs.length->(∀(j:Nat) (s:SV) (v:Value),ss[j]?=some s->vs[j]?=some v->SR P w G s v)->CR P w G (SV.ofList ss) vs:=by
 intro ss;induction ss with
 |nil=>intro vs hl _;exact AJ hl.symm
 |cons s ss ih=>
  intro vs hl h;cases vs with
  |nil=>cases hl
  |cons v vs=>exact⟨v,vs,rfl,h 0 s v rfl rfl,ih (by simpa using hl) (λj s v h1 h2=>h (j+1) s v ot oq)⟩
theorem uS{t:Ty}{id src:Nat}(hl:Lay P t id)(hsrc:∃d,P.underlying src=some d){s:SV}{v:Value}{r:OpRes}{u:Upd}(hr:gO t s=some r)(hu:Gives r u)(h:SR P w G s v):
 u.wr=[]/\∃z,(convert src id v).run P w=.ok z w/\SR P w G u.sv z:=by
 obtain⟨d,hd⟩:=hsrc;unfold gO at hr;split at hr
 .rename_i k n;split at hr
  .rename_i k';cases hr;rw[hu.v_inv];obtain⟨rfl,_⟩:=h.int;exact⟨rfl,_,by simp[convert,run_underlying hd,run_underlying hl.int,Conv.intToInt],SR.mk_int (LH _ _)⟩
  .cases hr
 .rename_i x;split at hr
  .cases hr;rw[hu.v_inv];obtain⟨rfl,hx⟩:=h.str;exact⟨rfl,_,by simp[convert,run_underlying hd,run_underlying hl.str],SR.mk_str hx⟩
  .cases hr
 .cases hr
end
def SlG(w:World)(I:Im)(el:Nat)(t:Ty)(xs:List t.T)(v:Value):Prop:=
 (v=.slice none 0 0/\xs=[])\/
 ∃b cap cs,v=.slice (some ⟨b,0,none⟩) xs.length cap/\GL xs.length cap/\RowAt w b cs el/\cs.size=cap*t.sz/\
  (∀i x,xs[i]?=some x->Rel w I t x ((cs.toList.drop (i*t.sz)).take t.sz))/\(∀o,o<xs.length*t.sz<->I.cell b o)/\¬I.obj b
theorem SlG.of{fr:Fr}{w:World}{I:Im}{el:Nat}{t:Ty}{xs:List t.T}{v:Value}(h:SlOK fr w I el t xs false v):SlG w I el t xs v:=
 h.imp id λ⟨b,cap,cs,h1,h2,h3,h4,h5,_,_,h7,h8⟩=>⟨b,cap,cs,h1,h2,h3,h4,h5,h7 rfl,h8⟩
theorem SlG.own{fr:Fr}{w:World}{I:Im}{el:Nat}{t:Ty}{xs:List t.T}{v:Value}(h:SlG w I el t xs v)(ho:∀c,XL v=.map (some c)->fr.owned c):SlOK fr w I el t xs false v:=by
 rcases h with h|⟨b,cap,cs,rfl,h2,h3,h4,h5,h7,h8⟩
 .exact .inl h
 .exact .inr ⟨b,cap,cs,rfl,h2,h3,h4,h5,ho b rfl,λh=>(oe),λ_=>h7,h8⟩
def ShC(P:Program)(w:World)(I:Im):(s:Sh)->s.T->List Value->List Nat->Prop
 | .val t,x,cs,bs=>Rel w I t x cs/\bs=[]
 | .own el t wr,xs,cs,bs=>(cs=[.slice none 0 0]/\(show List t.T from xs)=[]/\bs=[])\/
  ∃b cap cells,cs=[.slice (some ⟨b,0,none⟩) (show List t.T from xs).length cap]/\bs=[b]/\GL (show List t.T from xs).length cap/\RowAt w b cells el/\cells.size=cap*t.sz/\
   RowsOK w I t (show List t.T from xs) cells.toList/\(wr=true->∀o,¬I.cell b o)/\(wr=false->∀o,o<(show List t.T from xs).length*t.sz<->I.cell b o)/\¬I.obj b
 | .io el t,xs,cs,bs=>(cs=[.slice none 0 0]/\(show List t.T from xs)=[]/\bs=[])\/
  ∃b cap cells,cs=[.slice (some ⟨b,0,none⟩) (show List t.T from xs).length cap]/\bs=[b]/\GL (show List t.T from xs).length cap/\RowAt w b cells el/\cells.size=cap*t.sz/\
   RowsOK w I t (show List t.T from xs) cells.toList/\(true=true->∀o,¬I.cell b o)/\(true=false->∀o,o<(show List t.T from xs).length*t.sz<->I.cell b o)/\¬I.obj b
 | .omap k v,es,cs,bs=>∃b ents clock,cs=[.map (some b)]/\bs=[b]/\w.heap[b]?=some (.map ents clock)/\(ents.size=(show List (k.T×v.T)from es).length/\Go.MapKept.Stamped ents clock)/\
  (∀(i:Nat) (x:k.T×v.T) (e:MapEntry),(show List (k.T×v.T)from es)[i]?=some x->ents[i]?=some e->VRel w I k x.1 e.key/\VRel w I v x.2 e.val)/\¬I.obj b/\∀o,¬I.cell b o
 | .box c,x,cs,bs=>∃b cells el bs',cs=[.pointer (some ⟨b,0,none⟩)]/\bs=b::bs'/\w.heap[b]?=some (.cells cells el (0,0))/\cells.size=c.ty.sz/\ShC P w I c x cells.toList bs'/\(∀o,¬I.cell b o)/\¬I.obj b/\(c.ty=GG->Lay P (.agg GG) el)
 | .pr a b,x,cs,bs=>∃c d bs1 bs2,cs=c++d/\bs=bs1++bs2/\ShC P w I a x.1 c bs1/\ShC P w I b x.2 d bs2
 | .hof nd d c,F,cs,bs=>bs=[]/\∃f vs,cs=[.func (.func f) #[] vs]/\HofD P (nd=true) w I d c F f vs
 | .fn f,_,cs,bs=>bs=[]/\cs=[.func (.func f) #[] #[]]
 | .nilS,_,cs,bs=>bs=[]/\cs=[.slice none 0 0]
 | .nns e,x,cs,bs=>bs=[]/\Rel w I (.slice e) x cs/\∃ad len cap,cs=[.slice (some ad) len cap]
 | .fz t,x,cs,bs=>Rel w I t x cs/\bs=[]
 | .kz t,x,cs,bs=>bs=[]/\∃b c,cs=[.pointer (some ⟨b,0,none⟩)]/\Row w I b 0 t.sz c/\Rel w I t x c
 | .it _ _,_,_,_=>False
 | .dp ids t,x,cs,bs=>ids≠[]/\DV (λ_=>True) w I t ids x none cs bs
 | .any,_,_,_=>False
 | .tr _,_,_,_=>False
 | .bld el _,xs,cs,bs=>∃b cells el' p q bs',cs=[.pointer (some ⟨b,0,none⟩)]/\bs=b::bs'/\w.heap[b]?=some (.cells cells el' (0,0))/\Lay P (.agg GG) el'/\cells.toList=[p,q]/\
  (p=.pointer none\/p=.pointer (some ⟨b,0,none⟩))/\(∀o,¬I.cell b o)/\¬I.obj b/\
  ((q=.slice none 0 0/\(show List Int from xs)=[]/\bs'=[]) \/
  ∃g cap gcells,q=.slice (some ⟨g,0,none⟩) (show List Int from xs).length cap/\bs'=[g]/\GL (show List Int from xs).length cap/\RowAt w g gcells el/\gcells.size=cap*(Ty.int .u8).sz/\
   RowsOK w I (.int .u8) (show List Int from xs) gcells.toList/\(∀o,¬I.cell g o)/\¬I.obj g)
def ShV(P:Program)(w:World)(I:Im):(s:Sh)->s.T->Value->List Nat->Prop
 | .val t,x,v,bs=>VRel w I t x v/\bs=[]
 | .own el t wr,x,v,bs=>ShC P w I (.own el t wr) x [v] bs
 | .io el t,x,v,bs=>ShC P w I (.io el t) x [v] bs
 | .omap a b,x,v,bs=>ShC P w I (.omap a b) x [v] bs
 | .box c,x,v,bs=>ShC P w I (.box c) x [v] bs
 | .pr _ _,_,_,_=>False
 | .hof nd d c,x,v,bs=>ShC P w I (.hof nd d c) x [v] bs
 | .fn f,x,v,bs=>ShC P w I (.fn f) x [v] bs
 | .nilS,x,v,bs=>ShC P w I .nilS x [v] bs
 | .nns e,x,v,bs=>ShC P w I (.nns e) x [v] bs
 | .dp ids t,x,v,bs=>ShC P w I (.dp ids t) x [v] bs
 | .fz t,x,v,bs=>VRel w I t x v/\bs=[]
 | .kz t,x,v,bs=>ShC P w I (.kz t) x [v] bs
 | .it a b,es,v,bs=>∃r o,v=.pointer (some ⟨r,0,none⟩)/\bs=[r]/\w.heap[r]?=some o/\ItAt w I a b (show List (a.T×b.T)from es) o/\¬I.obj r/\∀j,¬I.cell r j
 | .any,_,_,bs=>bs=[]
 | .bld el c,x,v,bs=>ShC P w I (.bld el c) x [v] bs
 | .tr s,x,v,bs=>WK s=true/\∃cs,v=.agg cs.toArray/\(∀y∈cs,y.oneCell'=true)/\ShC P w I s x cs bs
def ShL(P:Program)(w:World)(I:Im):(l:List Sh)->TupR l->List Value->List Nat->Prop
 |[],_,vs,bs=>vs=[]/\bs=[]
 |[a],x,vs,bs=>∃v,vs=[v]/\ShV P w I a x v bs
 |a::b::r,x,vs,bs=>∃v vs' bs1 bs2,vs=v::vs'/\bs=bs1++bs2/\ShV P w I a x.1 v bs1/\ShL P w I (b::r) x.2 vs' bs2
def FT:List Sh->List Value->List Value
 | .box _::ps,v::vs=>v::FT ps vs
 | .io _ _::ps,v::vs=>v::FT ps vs
 | .bld _ false::ps,v::vs=>v::FT ps vs
 |_::ps,_::vs=>FT ps vs
 |_,_=>[]
def IV:List Value->Value->Prop
 |[v],rv=>rv=v
 |vs,rv=>rv=.tuple vs.toArray
def FunOK(P:Program)(f:Nat)(sp:FSpec):Prop:=
 ∀(w:World) (I:Im) (v:TupR sp.ps) (args:List Value) (bs:List Nat),GM w I->ShL P w I sp.ps v args bs->bs.Nodup->∀r,sp.F v=some r->
  Calls P f args.toArray w λe w'=>∃rv vs I' bs',e=.returned rv/\vs.length=sp.rs.length/\IV vs rv/\After (·∈bs) w I w' I'/\
   ShL P w' I' (sp.rs++sp.ps.filter EU) r (vs++FT sp.ps args) bs'/\bs'.Nodup/\(∀b∈bs',b∈bs\/w.heap.size<=b)/\(sp.dr=true->w.drawn<=w'.drawn)
def IB(tv:Nat->Value)(pv:List Value)(c:Nat):Value:=if c<1000000 then tv c else pv.getD (c-1000000) undef
def LJ(tv:Nat->Value)(pv:List Value)(q:Kn):Value:=.func (.func q.f) #[] (q.caps.map (IB tv pv)).toArray
def JA(w:World)(I:Im)(tv:Nat->Value)(pv:List Value)(q:Kn):Prop:=match q.bx with
 |true=>∃b,tv q.p=.pointer (some ⟨b,0,none⟩)/\I.cell b 0/\w.cell? ⟨b,0,none⟩=some (LJ tv pv q)
 |false=>tv q.p=LJ tv pv q
def KxOK(w:World)(I:Im)(tv:Nat->Value)(pv:List Value)(x:KX):Prop:=pv.length=x.m/\∀q∈x.kn,JA w I tv pv q
theorem KxOK.ext{w w':World}{I I':Im}{tv tv':Nat->Value}{pv:List Value}{x:KX}(h:KxOK w I tv pv x)(e:Ext w I w' I')(ht:∀q∈x.kn,tv' q.p=tv q.p/\∀c∈q.caps,c<1000000->tv' c=tv c):KxOK w' I' tv' pv x:=by
 refine⟨h.1,λq hq=>?_⟩;have h1:=h.2 q hq;obtain⟨t1,t2⟩:=ht q hq
 have hv:LJ tv' pv q=LJ tv pv q:=by
  have:q.caps.map (IB tv' pv)=q.caps.map (IB tv pv):=List.map_congr_left λc hc=>by
   unfold IB;by_cases hlt:c<1000000
   .rw[if_pos hlt,if_pos hlt,t2 c hc hlt]
   .rw[if_neg hlt,if_neg hlt]
  unfold LJ;rw[this]
 unfold JA at h1 ⊢;cases hb:q.bx with
 |true=>
  rw[hb]at h1;obtain⟨b,h2,h3,h4⟩:=h1;exact⟨b,t1.trans h2,(e.cell _ _ h3).1,(e.cell _ _ h3).2.trans (h4.trans (by rw[hv]))⟩
 |false=>
  rw[hb]at h1;exact t1.trans (h1.trans hv.symm)
def HS(P:Program)(f:Nat)(s:KSpec):Prop:=
 ∀(w:World) (I:Im) (v:TupR s.sp.ps) (args pv:List Value) (bs:List Nat),args.length=s.n->GM w I->KxOK w I (λt=>args.getD t undef) pv s.kx->ShL P w I s.sp.ps v (args++pv) bs->bs.Nodup->∀r,s.sp.F v=some r->
  Calls P f args.toArray w λe w'=>∃rv vs I' bs',e=.returned rv/\vs.length=s.sp.rs.length/\IV vs rv/\After (·∈bs) w I w' I'/\
   ShL P w' I' (s.sp.rs++s.sp.ps.filter EU) r (vs++FT s.sp.ps (args++pv)) bs'/\bs'.Nodup/\(∀b∈bs',b∈bs\/w.heap.size<=b)/\(s.sp.dr=true->w.drawn<=w'.drawn)
structure EnvOK(P:Program)(dr:Bool)(E:Env):Prop where
 pin:Pins.P=P
 drE:dr=true->E.dr=true
 drs:dr=true->∀f sp,E.fs f=some sp->sp.dr=true
 ty:∀id t,E.ty id=some t->Lay P t id
 el:∀id x,P.underlying id=some (.slice x)->E.el id=x
 fs:∀f sp,E.fs f=some sp->F6 P f/\FunOK P f sp
 mt:∀m id f,E.mt m id=some f->∀(v:Value) (w:World),(method (P.types.size+Made.depth) id v m).run P w=.ok (f,v) w
 eq:∀id t,E.eq id=true->E.ty id=some t->LI P t id=true
 ky:∀id x y,P.underlying id=some (.map x y)->E.ky id=x
 ks:∀f s,E.ks f=some s->(F6 P f/\HS P f s)/\(dr=true->s.sp.dr=true)
section
variable{P:Program}{fr:Fr}{free free':Nat->Prop}{self:Nat}{σ σ':SSo}{w w':World}{G G':Gh}{I:Im}
def BlksOf(σ:SSo)(G:Gh)(ks bs:List Nat):Prop:=∀b∈bs,∃k∈ks,∃o,σ k=some o/\Bk G k o b
theorem BlksOf.mono{ks ks' bs:List Nat}(h:BlksOf σ G ks bs)(hk:∀k∈ks,k∈ks'):BlksOf σ G ks' bs:=λb hb=>let ⟨k,h1,h2⟩:=h b hb;⟨k,hk k h1,h2⟩
theorem BlksOf.append(hm:MemS P fr free σ w G){k1 k2 b1 b2:List Nat}(h1:BlksOf σ G k1 b1)(h2:BlksOf σ G k2 b2)(n1:b1.Nodup)(n2:b2.Nodup)(hk:(k1++k2).Nodup):
 (b1++b2).Nodup/\BlksOf σ G (k1++k2) (b1++b2):=by
 refine⟨BA.2 ⟨n1,n2,λa ha b hb e=>?_⟩,λb hb=>?_⟩
 .subst e;obtain⟨x,hx,o,ho,hbo⟩:=h1 a ha;obtain⟨y,hy,o',ho',hbo'⟩:=h2 a hb;exact(BA.1 hk).2.2 x hx y hy (hm.sep x y o o' a ho ho' hbo hbo')
 .rcases AL.1 hb with h|h
  .obtain⟨k,hk,hr⟩:=h1 b h;exact⟨k,AS _ hk,hr⟩
  .obtain⟨k,hk,hr⟩:=h2 b h;exact⟨k,AT _ hk,hr⟩
theorem QV(hm:MemS P fr free σ w G){el:Nat}{t:Ty}{wr:Bool}{v:SV}{x:List t.T}{cs:List Value}(h:JJ σ el t wr v=some x)(hr:CR P w G v cs):
 ∃bs,ShC P w G.im (.own el t wr) x cs bs/\bs.Nodup/\BlksOf σ G (FC v) bs:=by
 unfold JJ at h;split at h
 .rename_i k g;split at h
  .rename_i id' t' xs g' w1 hk;cases hb:(Nat.beq g 0&&Nat.beq g g'&&(Nat.beq el id'&&(bif wr then w1 else !w1)))with
   |false=>rw[hb]at h;cases h
   |true=>
    rw[hb]at h;have h:Ty.cast? (.slice t') (.slice t) xs=some x:=h;simp only[A4]at hb;have e1:=A2 hb.1.2;have e2:=A2 hb.2.1
    have e3:wr=w1:=by
     have:=hb.2.2;cases wr<;>cases w1<;>first|rfl|cases this
    subst e1 e2 e3;obtain⟨et,ex⟩:=Ty.cast?_some h;have et':t'=t:=by injection et
    subst et';cases ex;obtain⟨_,v',k1,k2⟩:=hm.objs _ _ hk;obtain⟨v2,k3,_,k5⟩:=hr;rw[k1]at k3;cases k3;rcases k2 with⟨rfl,hx⟩|⟨b,cap,cells,rfl,q1,q2,q3,q4,q5,q6,q7,q8⟩
    .exact⟨[],.inl ⟨k5,hx,rfl⟩,B6,λb hb=>by cases hb⟩
    .refine⟨[b],.inr ⟨b,cap,cells,k5,rfl,q1,q2,q3,q4,q6,q7,q8⟩,oc,λb' hb'=>?_⟩;have:b'=b:=by simpa using hb'
     subst this;exact⟨k,by simp[FC],_,hk,by simp[Bk,k1]⟩
  .cases h
 .cases h;exact⟨[],.inl ⟨hr,rfl,rfl⟩,B6,λb hb=>by cases hb⟩
 .cases h
theorem uT(hm:MemS P fr free σ w G){k v:Ty}{s:SV}{x:List (k.T×v.T)}{cs:List Value}(h:SI σ k v s=some x)(hr:CR P w G s cs):
 ∃bs,ShC P w G.im (.omap k v) x cs bs/\bs.Nodup/\BlksOf σ G (FC s) bs:=by
 unfold SI at h;split at h
 .rename_i j g;split at h
  .rename_i k' v' es wr hk;cases hb:(Nat.beq g 0&&wr)with
   |false=>rw[hb]at h;cases h
   |true=>
    rw[hb]at h;have h:Ty.cast? (.map k' v') (.map k v) es=some x:=h;simp only[A4]at hb;have e1:=A2 hb.1;have e2:wr=true:=hb.2;subst e1 e2;obtain⟨et,ex⟩:=Ty.cast?_some h;injection et with e3 e4;subst e3 e4;cases ex;obtain⟨v',k1,b,ents,clock,rfl,q1,q2,q3,q4,q5,q6⟩:=hm.objs _ _ hk;obtain⟨v2,k3,_,k5⟩:=hr;rw[k1]at k3;cases k3;refine⟨[b],⟨b,ents,clock,k5,rfl,q1,q2,q3,q4.1 rfl,q5⟩,oc,λb' hb'=>?_⟩;have:b'=b:=by simpa using hb'
    subst this;exact⟨j,by simp[FC],_,hk,by simp[Bk,k1]⟩
  .cases h
 .cases h
theorem A9b(hm:MemS P fr free σ w G){k v:Ty}{s:SV}{x:List (k.T×v.T)}{val:Value}(h:WI σ k v s=some x)(hr:SR P w G s val):
 ∃bs,ShV P w G.im (.it k v) x val bs/\bs.Nodup/\BlksOf σ G (FC s) bs:=by
 unfold WI at h;split at h
 .rename_i j g;split at h
  .rename_i k' v' es hk;cases hb:Nat.beq g 0 with
   |false=>rw[hb]at h;cases h
   |true=>
    rw[hb]at h;have h:Ty.cast? (.map k' v') (.map k v) es=some x:=h;have e1:=A2 hb;subst e1;obtain⟨et,ex⟩:=Ty.cast?_some h;injection et with e3 e4;subst e3 e4;cases ex;obtain⟨r,o,k1,q1,q2,q3,q4,_⟩:=hm.objs _ _ hk;obtain⟨_,rfl,v2,k3,_,k5⟩:=hr;rw[k1]at k3;cases k3;have k5:=A5.1 k5;subst k5;refine⟨[r],⟨r,o,rfl,rfl,q1,q2,q3,q4⟩,oc,λb' hb'=>?_⟩;have:b'=r:=by simpa using hb'
    subst this;exact⟨j,by simp[FC],_,hk,by simp[Bk,k1]⟩
  .cases h
 .cases h
theorem iK:∀{a b:List Nat},MH a b=true->a=b:=by
 intro a;induction a with
 |nil=>intro b h;cases b<;>first|rfl|cases h
 |cons x a ih=>
  intro b h;cases b with
  |nil=>cases h
  |cons y b=>
   simp only[MH,A4]at h;rw[A2 h.1,ih h.2]
theorem SlOK.dv{id:Nat}{t:Ty}{xs:List t.T}{v:Value}(h:SlOK fr w I id t xs true v):
 ∃bs,DV fr.owned w I t [id] xs none [v] bs/\bs.Nodup/\∀b∈bs,XL v=.map (some b):=by
 rcases h with⟨rfl,rfl⟩|⟨b,cap,cells,rfl,q1,q2,q3,q4,q5,q6,q7,q8⟩
 .exact⟨[],⟨_,rfl,rfl,.inr (.inl ⟨ou,rfl,rfl,rfl⟩)⟩,B6,λb hb=>by cases hb⟩
 .refine⟨[b],DV.mkleaf q1 q2 (by rw[B8,q3];exact AB _) q5 (q6 rfl) q8 (λi x hx=>by rw[B8];exact q4 i x hx),oc,λb' hb'=>?_⟩
  .have:b'=b:=by simpa using hb'
   rw[this];rfl
theorem X_(hm:MemS P fr free σ w G){ids:List Nat}{t:Ty}{v:SV}{x:(E4 ids t).T}{cs:List Value}(h:K1 σ ids t v=some x)(hr:CR P w G v cs):
 ∃bs,(ids≠[]/\DV fr.owned w G.im t ids x none cs bs)/\bs.Nodup/\BlksOf σ G (FC v) bs:=by
 unfold K1 at h;split at h
 .rename_i k g;split at h
  .rename_i ids' t' x' gk hk;cases hb:(Nat.beq g 0&&MH ids' ids)with
   |false=>rw[hb]at h;cases h
   |true=>
    rw[hb]at h;have h:Ty.cast? (E4 ids' t') (E4 ids t) x'=some x:=h;simp only[A4]at hb;have e1:=A2 hb.1;have e2:=iK hb.2;subst e1 e2;obtain⟨et,ex⟩:=Ty.cast?_some h
    have et':t'=t:=by
     have:∀(l:List Nat),E4 l t'=E4 l t->t'=t:=by
      intro l;induction l with
      |nil=>intro h;exact h
      |cons a l ih=>intro h;injection h with h;exact ih h
     exact this _ et
    subst et';cases ex;cases ids' with
    |nil=>exact absurd (hm.objs _ _ hk) id
    |cons id r=>
     obtain⟨h0,hety,v',us,bs,k1,k2,k3,k4,k5⟩:=DpOK.inv (hm.objs _ _ hk);obtain⟨v2,q3,_,q5⟩:=hr;rw[k1]at q3;cases q3;rw[q5];exact⟨bs,⟨ou,k5⟩,k4,λb hb=>⟨k,by simp[FC],_,hk,rfl,us,k2,(KR k3).2 hb⟩⟩
  .rename_i id' t' xs g' hk;cases hb:(Nat.beq g 0&&(Nat.beq g' 0&&MH [id'] ids))with
   |false=>rw[hb]at h;cases h
   |true=>
    rw[hb]at h;have h:Ty.cast? (.slice t') (E4 ids t) xs=some x:=h;simp only[A4]at hb;have e1:=A2 hb.1;have e2:=A2 hb.2.1;have e3:=iK hb.2.2;subst e1 e2 e3;obtain⟨et,ex⟩:=Ty.cast?_some h;have et:Ty.slice t'=.slice t:=et;injection et with et;subst et;cases ex;obtain⟨_,v',k1,k2⟩:=hm.objs _ _ hk;obtain⟨v2,q3,_,q5⟩:=hr;rw[k1]at q3;cases q3;rw[q5];obtain⟨bs,d1,d2,d3⟩:=SlOK.dv k2;refine⟨bs,⟨ou,d1⟩,d2,λb hb=>⟨k,by simp[FC],_,hk,?_⟩⟩;obtain⟨_,_,cap,cells,e1,_⟩:=k2.slice (d3 b hb);simp only[Bk,k1,e1]
  .cases h
 .split at h
  .cases h
  .rename_i id r;have hx:x=([]:List (E4 r t).T):=(A3 h).symm;refine⟨[],⟨ou,⟨_,hr,rfl,.inr (.inl ⟨ou,rfl,hx,rfl⟩)⟩⟩,B6,λb hb=>by cases hb⟩
 .cases h
theorem uU(hm:MemS P fr free σ w G){ids:List Nat}{t:Ty}{v:SV}{x:(E4 ids t).T}{cs:List Value}(h:K1 σ ids t v=some x)(hr:CR P w G v cs):
 ∃bs,ShC P w G.im (.dp ids t) x cs bs/\bs.Nodup/\BlksOf σ G (FC v) bs:=
 let ⟨bs,h1,h2,h3⟩:=X_ hm h hr
 ⟨bs,⟨h1.1,h1.2.own λ_ _=>trivial⟩,h2,h3⟩
theorem uV{f:Nat}{v:SV}{x:Unit}{cs:List Value}(h:SJ f v=some x)(hr:CR P w G v cs):cs=[.func (.func f) #[] #[]]:=by
 unfold SJ at h;split at h
 .split at h
  .rename_i hb;have:=A2 hb;subst this;obtain⟨vs,h1,h2⟩:=hr;have h2:vs.toList=[]:=h2;have:vs= #[]:=oq
   rw[h1,this]
  .cases h
 .cases h
theorem uW{e:Ty}{v:SV}{x:List e.T}{cs:List Value}(h:WJ e v=some x)(hr:CR P w G v cs):Rel w G.im (.slice e) x cs/\∃ad len cap,cs=[.slice (some ad) len cap]:=by
 cases v<;>first|exact⟨Rel.cast h hr.1,hr.2⟩|cases h
theorem A9c{t:Ty}{x:t.T}{v:Value}(h:SR P w G (.rf0 t x) v):SR P w G (.ref t x) v:=by
 obtain⟨d,hd,b,c,h1,h2,h3⟩:=h;exact⟨d,hd,⟨b,0,none⟩,c,h1,rfl,h2,h3⟩
theorem uX{v:SV}{x:Unit}{cs:List Value}(h:SK v=some x)(hr:CR P w G v cs):cs=[.slice none 0 0]:=by
 unfold SK at h;split at h
 .exact hr
 .cases h
theorem uY(hm:MemS P fr free σ w G):∀{s:Sh} {v:SV} {x:s.T} {cs:List Value} {t:Ty},MI σ s v=some x->CR P w G v cs->
 (O4 s v).Nodup->Fit v t->∃bs,ShC P w G.im s x cs bs/\bs.Nodup/\BlksOf σ G (O4 s v) bs:=by
 intro s;induction s with
 |val t=>
  intro v x cs _ h hr _ _;exact⟨[],⟨QS (λk o h=>hm.objs k o h) h hr,rfl⟩,B6,λb hb=>by cases hb⟩
 |own el t wr=>intro v x cs _ h hr _ _;exact QV hm h hr
 |io el t=>intro v x cs _ h hr _ _;exact QV (wr:=true) hm h hr
 |omap a b=>intro v x cs _ h hr _ _;exact uT hm h hr
 |dp ids t=>intro v x cs _ h hr _ _;exact uU hm h hr
 |pr a b iha ihb=>
  intro v x cs t h hr hnd hf;simp only[MI]at h;split at h
  .rename_i y z hh;split at h
   .rename_i x1 x2 h1 h2;have h:=A3 h;subst h;simp only[O4,hh]at hnd ⊢;obtain⟨tx,ty,c1,c2,e1,e2,e3,rfl,e5,e6,_⟩:=g_ hf hr hh;have hnd':=BA.1 hnd;obtain⟨b1,p1,p2,p3⟩:=iha h1 e5 hnd'.1 e2;obtain⟨b2,q1,q2,q3⟩:=ihb h2 e6 hnd'.2.1 e3;obtain⟨r1,r2⟩:=p3.append hm q3 p2 q2 hnd;exact⟨b1++b2,⟨c1,c2,b1,b2,rfl,rfl,p1,q1⟩,r1,r2⟩
   .cases h
  .cases h
 |fn f=>
  intro v x cs _ h hr _ _;exact⟨[],⟨rfl,uV h hr⟩,B6,λb hb=>by cases hb⟩
 |nilS=>
  intro v x cs _ h hr _ _;exact⟨[],⟨rfl,uX h hr⟩,B6,λb hb=>by cases hb⟩
 |nns e=>
  intro v x cs _ h hr _ _;exact⟨[],⟨rfl,uW h hr⟩,B6,λb hb=>by cases hb⟩
 |box c ih=>intro v x cs _ h;cases h
 |hof d c=>intro v x cs _ h;cases h
 |any=>intro v x cs _ h;cases h
 |bld el c=>intro v x cs _ h;cases h
 |tr s _=>intro v x cs _ h;cases h
 |fz t=>intro v x cs _ h;cases h
 |kz t=>intro v x cs _ h;cases h
 |it a b=>intro v x cs _ h;cases h
theorem ArgsV.one{d:Ty}{x:d.T}{l:List Value}(hd:∀a b,d≠.prod a b)(h:ArgsV w I d x l):∃v,l=[v]/\VRel w I d x v:=by
 cases d<;>first|exact h|exact absurd rfl (hd _ _)
theorem ArgsV.mk_one{d:Ty}{x:d.T}{v:Value}(hd:J_ d=false)(h:VRel w I d x v):ArgsV w I d x [v]:=by
 cases d<;>first|exact⟨v,rfl,h⟩|cases hd
theorem A9d:∀{rs:List Sh} {c:Ty} {y:TupR rs} {z:c.T} {vs:List Value} {bs:List Nat},O2 rs c y=some z->ShL P w I rs y vs bs->
 ArgsV w I c z vs/\(J_ c=true->2<=vs.length)/\(J_ c=false->vs.length=1):=by
 intro rs;induction rs with
 |nil=>intro c y z vs bs h;cases h
 |cons a rs ih=>
  intro c y z vs bs h hr;cases a<;>first|(cases rs<;>cases h;done)|skip
  rename_i t;cases rs with
  |nil=>
   obtain⟨v,rfl,h1,_⟩:=hr;simp only[O2]at h;cases hp:J_ c with
   |true=>rw[hp]at h;cases h
   |false=>
    rw[hp]at h;simp only[AC]at h;exact⟨ArgsV.mk_one hp (VRel.cast h h1),⟨λh=>absurd h oc,λ_=>rfl⟩⟩
  |cons b rs=>
   cases c<;>first|(cases h;done)|skip
   rename_i p q;obtain⟨v,vs',b1,b2,rfl,rfl,⟨k1,k2⟩,k3⟩:=hr;simp only[O2]at h;split at h
   .rename_i u r h1 h2;have h:=A3 h;subst h;obtain⟨j1,j2,j3⟩:=ih h2 k3;refine⟨⟨v,vs',rfl,VRel.cast h1 k1,j1⟩,λ_=>?_,λh=>oe⟩;cases hq:J_ q with
    |true=>have:=j2 hq;simp only[AF];omega
    |false=>have:=j3 hq;simp only[AF];omega
   .cases h
theorem uZ{rs:List Sh}{c:Ty}{y:TupR rs}{z:c.T}{vs:List Value}{bs:List Nat}{rv:Value}(h:O2 rs c y=some z)(hr:ShL P w I rs y vs bs)(hret:IV vs rv):RetV w I c z rv:=by
 obtain⟨h1,h2,h3⟩:=A9d h hr;cases hp:J_ c with
 |true=>
  have hl:=h2 hp
  have e:rv=.tuple vs.toArray:=by
   rcases vs with _|⟨v,_|⟨v',vs⟩⟩
   .simp at hl
   .simp at hl
   .exact hret
  cases c<;>first|(cases hp;done)|skip
  exact⟨vs.toArray,e,h1⟩
 |false=>
  have hl:=h3 hp;rcases vs with _|⟨v,_|⟨v',vs⟩⟩<;>first|(simp at hl;done)|skip
  have e:rv=v:=hret;subst e;have hn:∀a b,c≠.prod a b:=by intro a b e;subst e;cases hp
  obtain⟨u,hu,hv⟩:=h1.one hn;cases hu;exact(RetV.one hn).2 hv
theorem u_:∀{ps:List Sh},PR ps=true->ps.filter EU=[]/\∀vals,FT ps vals=[]:=by
 intro ps;induction ps with
 |nil=>intro _;exact⟨rfl,λvals=>by cases vals<;>rfl⟩
 |cons a ps ih=>
  intro h;cases a<;>first|(cases h;done)|skip
  obtain⟨h1,h2⟩:=ih h;refine⟨?_,λvals=>?_⟩
  .rw[List.filter_cons_of_neg (by simp[EU])];exact h1
  .cases vals with
   |nil=>rfl
   |cons v vals=>exact h2 vals
theorem iL(ho:∀k o,σ k=some o->ObjOK P fr w G k o){t:Ty}{s:SV}{x:t.T}{v:Value}(h:PS σ t s=some x)(hr:SR P w G s v):VRel w G.im t x v:=by
 have hr:=iB ho hr;unfold PS at h;generalize NC σ s=s at h hr
 have key:∀{u:Ty} {y:u.T},SR P w G (.ref u y) v->WH u y t=some x->VRel w G.im t x v:=by
  intro u y hr h;unfold WH at h;split at h
  .rename_i e _;cases hc:fJ e u y with
   |none=>rw[hc]at h;cases h
   |some z=>
    rw[hc]at h;have h:=A3 h;subst h;obtain⟨ad,c,rfl,h1,h2,h3⟩:=OC hr
    have hz:u.sz=e.sz/\Rel w G.im e z c:=by
     unfold fJ at hc;split at hc
     .rename_i z' hz;cases hc;obtain⟨ee,_⟩:=Ty.cast?_some hz;exact⟨by rw[ee],Rel.cast hz h3⟩
     .obtain⟨ee,_⟩:=Ty.cast?_some hc;exact⟨by rw[<-ee];rfl,Rel.cast (t:=.agg u) hc h3⟩
    exact⟨_,rfl,ad,rfl,h1,c,hz.1▸h2,hz.2⟩
  .cases h
 unfold sO at h;split at h
 .exact key hr h
 .exact key (A9c hr) h
 .exact II ho h hr
theorem QW{a:Sh}{r:List Sh}{x:a.T}{y:TupR r}{v:Value}{vs:List Value}(h1:ShV P w I a x v [])(h2:ShL P w I r y vs []):ShL P w I (a::r) (O3 a r x y) (v::vs) []:=by
 cases r with
 |nil=>
  obtain⟨rfl,_⟩:=h2;exact⟨v,rfl,h1⟩
 |cons b r=>exact⟨v,vs,[],[],rfl,rfl,h1,h2⟩
theorem A9e(ho:∀k o,σ k=some o->ObjOK P fr w G k o):∀{l:List Sh} {ss:List SV} {x:TupR l} {vs:List Value},SE σ l ss=some x->ss.length=vs.length->
 (∀(j:Nat) (s:SV) (v:Value),ss[j]?=some s->vs[j]?=some v->SR P w G s v)->∀w' I',Ext w G.im w' I'->ShL P w' I' l x vs []:=by
 intro l;induction l with
 |nil=>
  intro ss x vs h hl _ w' I' _;cases ss with
  |nil=>exact⟨AJ hl.symm,rfl⟩
  |cons _ _=>cases h
 |cons a l ih=>
  intro ss x vs h hl hs w' I' he;cases ss with
  |nil=>cases a<;>cases h
  |cons s ss=>
   cases vs with
   |nil=>cases hl
   |cons v vs=>
    cases a<;>first|(cases h;done)|skip
    rename_i t;simp only[SE]at h;split at h
    .rename_i y z h1 h2;have h:=A3 h;subst h;refine QW ⟨(iL ho h1 (hs 0 s v rfl rfl)).ext he,rfl⟩ (ih h2 (by simpa using hl) (λj s v h3 h4=>hs (j+1) s v (by simpa using h3) (by simpa using h4)) w' I' he)
    .cases h
theorem A9f(ho:∀k o,σ k=some o->ObjOK P fr w G k o){cs:List SV}{vs:List Value}(hl:cs.length=vs.length)(hs:∀(j:Nat) (s:SV) (v:Value),cs[j]?=some s->vs[j]?=some v->SR P w G s v)
 {w':World}{I':Im}(he:Ext w G.im w' I'):∀{n:Nat} {ps:List Sh} {d:Ty} {x:d.T} {v:TupR ps} {l:List Value},SF σ cs n ps d x=some v->ArgsV w' I' d x l->ShL P w' I' ps v (l++vs) []:=by
 intro n;induction n with
 |zero=>
  intro ps d x v l h hx;cases ps with
  |nil=>cases h
  |cons a ps=>
   cases a<;>first|(cases h;done)|skip
   rename_i t;simp only[SF]at h;cases hp:J_ d with
   |true=>rw[hp]at h;cases h
   |false=>
    rw[hp]at h;simp only[AC]at h;split at h
    .rename_i y z h1 h2;have h:=A3 h;subst h;obtain⟨u,rfl,hu⟩:=hx.one (λa b e=>by subst e;cases hp);exact QW ⟨VRel.cast h1 hu,rfl⟩ (A9e ho h2 hl hs w' I' he)
    .cases h
 |succ n ih=>
  intro ps d x v l h hx;cases ps with
  |nil=>cases h
  |cons a ps=>
   cases a<;>first|(cases h;done)|skip
   rename_i t;cases d<;>first|(cases h;done)|skip
   rename_i p q;simp only[SF]at h;split at h
   .rename_i y z h1 h2;have h:=A3 h;subst h;obtain⟨u,r,rfl,k1,k2⟩:=hx;exact QW ⟨VRel.cast h1 k1,rfl⟩ (ih h2 k2)
   .cases h
theorem Y0:∀{l:SV} {vs:List Value},CR P w G l vs->l.list.length<=vs.length->∀(j:Nat) (s:SV) (v:Value),l.list[j]?=some s->vs[j]?=some v->SR P w G s v:=by
 intro l;induction l with
 |scons a b iha ihb=>
  intro vs h hl j s v hj hv;obtain⟨v',r,rfl,⟨c,h2,h3⟩,h4⟩:=h;cases j with
  |zero=>
   have e1:a=s:=by simpa[SV.list]using hj
   have e2:v'=v:=oz
   subst e1 e2;exact⟨c,h2,h3⟩
  |succ j=>exact ihb h4 (by simpa[SV.list]using hl) j s v (by simpa[SV.list]using hj) oz
 |_=>intro vs h hl j s v hj;simp[SV.list]at hj
theorem YA:∀{l:SV} {vs:List Value},CR P w G l vs->K0 l=true->l.list.length=vs.length:=by
 intro l;induction l with
 |snil=>intro vs h _;have h:vs=[]:=h;rw[h];rfl
 |scons a b iha ihb=>
  intro vs h hk;obtain⟨v',r,rfl,_,h4⟩:=h;simp[SV.list,ihb h4 hk]
 |_=>intro vs h hk;cases hk
theorem vA(ho:∀k o,σ k=some o->ObjOK P fr w G k o){fs:Nat->Option FSpec}(hE:∀f sp,fs f=some sp->F6 P f/\FunOK P f sp){d c:Ty}{v:SV}{F:d.T->Option c.T}{cs:List Value}{nd:Bool}{D:Prop}(hD:D->nd=true\/((∀f sp,fs f=some sp->sp.dr=true)/\∀nd' d' c' F',v≠.hof nd' d' c' F'))(h:SH nd fs σ d c v=some F)(hr:CR P w G v cs):
 ∃f vs,cs=[.func (.func f) #[] vs]/\HofD P D w G.im d c F f vs:=by
 unfold SH at h;split at h
 .rename_i nd' d' c' F';cases hnd:(!nd||nd')with
  |false=>rw[hnd]at h;cases h
  |true=>
  rw[hnd]at h;simp only[AA]at h;unfold sN at h;split at h
  .rename_i hb;split at h
   .rename_i hb';have e1:=Ty.same_eq hb;have e2:=Ty.same_eq hb';subst e1 e2;have h:=A3 h;subst h;obtain⟨f,vs,h1,h2,h3⟩:=hr;refine⟨f,vs,h1,h2,λw' I' he hm x l hx y hy=>(h3 w' I' he hm x l hx y hy).mono λe w'' ⟨rv,I'',k1,k2,k3,k4⟩=>⟨rv,I'',k1,k2,k3,λhd=>k4 ((hD hd).elim (λe=>by subst e;simpa using hnd) λhh=>absurd rfl (hh.2 _ _ _ _))⟩⟩
   .cases h
  .cases h
 .rename_i f caps;split at h
  .rename_i sp hf;cases hav:(K0 caps&&PR sp.ps&&(!nd||sp.dr)&&sP σ (SG d) sp.ps caps.list)with
   |false=>rw[hav]at h;cases h
   |true=>
    rw[hav]at h;have h:=A3 h;subst h;simp only[A4]at hav;obtain⟨vs,h1,h2⟩:=hr;obtain⟨⟨hav,hnd⟩,_⟩:=hav;obtain⟨he,hfun⟩:=hE _ _ hf;have hlen:=YA h2 hav.1;refine⟨f,vs,h1,he,λw' I' hext hm x l hx y hy=>?_⟩;obtain⟨v,hv,hy⟩:=BT.1 hy;obtain⟨r,hr,hy⟩:=BT.1 hy;obtain⟨a1,a2⟩:=u_ hav.2;have hc:=hfun w' I' v (l++vs.toList) [] hm (A9f ho hlen (Y0 h2 o5) hext hv hx) B6 r hr;rw[show(l++vs.toList).toArray=(l.toArray++vs:Array Value) by apply C4;simp]at hc;refine Calls.mono hc λe w'' hq=>?_;obtain⟨rv,vs',I',bs',q1,q2,q3,q4,q5,_,_,qd⟩:=hq;rw[a2,C3]at q5;exact⟨rv,I',q1,q4.mono (λb hb=>by cases hb),uZ hy q5 q3,λhd=>qd ((hD hd).elim (λe=>by subst e;simpa using hnd) λh=>h.1 _ _ hf)⟩
  .cases h
 .cases h
theorem SR.cell{s:SV}{v:Value}(h:SR P w G s v)(hn:∀t x,s≠.val t x):CR P w G s [v]:=SR.one h hn
theorem A9g(hm:MemS P fr free σ w G){c:Sh}{v:SV}{x:c.T}{cs:List Value}(h:PU σ c v=some x)(hr:CR P w G v cs)(hnd:(WN σ c v).Nodup):
 ∃bs,ShC P w G.im (.box c) x cs bs/\bs.Nodup/\BlksOf σ G (WN σ c v) bs:=by
 unfold PU at h;split at h
 .rename_i k u;split at h
  .rename_i t cv hk;cases hs:t.same c.ty with
   |false=>rw[hs]at h;cases h
   |true=>
    rw[hs]at h;have h:MI σ c cv=some x:=h;have et:=Ty.same_eq hs;subst et;obtain⟨b,cells,el,k1,k2,k3,k4,k5,k6,k7,k8⟩:=hm.objs _ _ hk;obtain⟨b',t',o,j1,j2,_,j4⟩:=hr;rw[k1]at j1;cases j1
    have ho:o=0:=by
     have:Ty.off c.ty []=some o:=j2;cases hc:c.ty<;>rw[hc]at this<;>exact(A3 this).symm
    subst ho;simp only[WN,hk]at hnd ⊢;have hnd':=B7.1 hnd;obtain⟨bs',p1,p2,p3⟩:=uY hm h k5 hnd'.2 k4;refine⟨b::bs',⟨b,cells,el,bs',j4,rfl,k2,k3,p1,k6.1 rfl,k7,k8.2⟩,B7.2 ⟨λhb=>?_,p2⟩,λb2 hb2=>?_⟩
    .obtain⟨k',hk',o',ho',hbo⟩:=p3 b hb;have:=hm.sep k k' _ _ b hk ho' (by simp[Bk,k1]) hbo;subst this;exact hnd'.1 hk'
    .rcases A_.1 hb2 with e|e
     .subst e;exact⟨k,AI,_,hk,by simp[Bk,k1]⟩
     .obtain⟨k',hk',hr⟩:=p3 b2 e;exact⟨k',AD _ hk',hr⟩
  .cases h
 .cases h
theorem A9h{k b:Nat}{t:Ty}{x:SV}{cs:List Value}(hk:G.box k=some (b,t))(h:WL k x=true)(hr:CR P w G x cs):cs=[.pointer none]\/cs=[.pointer (some ⟨b,0,none⟩)]:=by
 unfold WL at h;split at h
 .rename_i u y;have:=Ty.same_eq h;subst this;exact .inl hr
 .have:=A2 h;subst this;obtain⟨b',t',h1,h2⟩:=hr;rw[hk]at h1;cases h1;exact h2
 .have:=A2 h;subst this;obtain⟨b',t',o,h1,h2,_,h4⟩:=hr;rw[hk]at h1;cases h1
  have ho:o=0:=by
   cases t<;>exact(A3 h2).symm
  subst ho;exact .inr h4
 .cases h
theorem A9i(hm:MemS P fr free σ w G){el:Nat}{c:Bool}{v:SV}{x:List Int}{cs:List Value}(h:PT σ el v=some x)(hr:CR P w G v cs)(hnd:(WO σ v).Nodup):
 ∃bs,ShC P w G.im (.bld el c) x cs bs/\bs.Nodup/\BlksOf σ G (WO σ v) bs:=by
 unfold PT at h;split at h
 .rename_i k u;split at h
  .rename_i t cv hk;cases hs:t.same GG with
   |false=>rw[hs]at h;cases h
   |true=>
    rw[hs]at h;simp only[AA]at h;have et:=Ty.same_eq hs;subst et;split at h
    .rename_i y z;cases hsl:WL k y with
     |false=>rw[hsl]at h;cases h
     |true=>
      rw[hsl]at h;have h:JJ σ el (.int .u8) true z=some x:=h;obtain⟨b,cells,el',k1,k2,k3,k4,k5,k6,k7,k8⟩:=hm.objs _ _ hk;obtain⟨b',t',o,j1,j2,_,j4⟩:=hr;rw[k1]at j1;cases j1;have ho:o=0:=(A3 j2).symm;subst ho;obtain⟨c1,c2,e1,e2,e3⟩:=k5;have hc1:=A9h k1 hsl e2;simp only[WO,hk]at hnd ⊢;have hnd':=B7.1 hnd;obtain⟨bs',p1,p2,p3⟩:=QV hm h e3
      have hq:∃q,c2=[q]:=by
       rcases p1 with⟨hq,_⟩|⟨g,cap,gc,hq,_⟩
       .exact⟨_,hq⟩
       .exact⟨_,hq⟩
      obtain⟨q,rfl⟩:=hq
      have hp:∃p,c1=[p]/\(p=.pointer none\/p=.pointer (some ⟨b,0,none⟩)):=by
       rcases hc1 with hp|hp
       .exact⟨_,hp,.inl rfl⟩
       .exact⟨_,hp,.inr rfl⟩
      obtain⟨p,rfl,hp⟩:=hp;refine⟨b::bs',⟨b,cells,el',p,q,bs',j4,rfl,k2,k8.2 rfl,e1,hp,k6.1 rfl,k7,?_⟩,B7.2 ⟨λhb=>?_,p2⟩,λb2 hb2=>?_⟩
      .rcases p1 with⟨hq,h1,h2⟩|⟨g,cap,gc,hq,h1,h2,h3,h4,h5,h6,_,h8⟩
       .exact .inl ⟨A5.1 hq,h1,h2⟩
       .exact .inr ⟨g,cap,gc,A5.1 hq,h1,h2,h3,h4,h5,h6 rfl,h8⟩
      .obtain⟨k',hk',o',ho',hbo⟩:=p3 b hb;have:=hm.sep k k' _ _ b hk ho' (by simp[Bk,k1]) hbo;subst this;exact hnd'.1 hk'
      .rcases A_.1 hb2 with e|e
       .subst e;exact⟨k,AI,_,hk,by simp[Bk,k1]⟩
       .obtain⟨k',hk',hr⟩:=p3 b2 e;exact⟨k',AD _ hk',hr⟩
    .cases h
  .cases h
 .cases h
theorem YB(e:Ty):e.off []=some 0:=by cases e<;>rfl
theorem A9j(ho:∀k o,σ k=some o->ObjOK P fr w G k o){t:Ty}{s:SV}{x:t.T}{v:Value}(h:WM σ t s=some x)(hr:SR P w G s v):
 ∃b c,v=.pointer (some ⟨b,0,none⟩)/\Row w G.im b 0 t.sz c/\Rel w G.im t x c:=by
 unfold WM at h;split at h
 .rename_i k u0;obtain⟨b,t',o,h1,h2,_,rfl⟩:=IA hr;rw[YB]at h2;cases h2;split at h
  .rename_i u y hk;obtain⟨b',c,k1,k2,k3⟩:=ho _ _ hk;rw[h1]at k1;cases k1;obtain⟨e,ex⟩:=Ty.cast?_some h;subst e;cases ex;exact⟨b,c,rfl,k2,k3⟩
  .rename_i u c hk;cases hb:u.same t with
   |false=>rw[hb]at h;cases h
   |true=>
    rw[hb]at h;have h:c.asC σ t=some x:=h;have:=Ty.same_eq hb;subst this;obtain⟨b',cs,el,k1,k2,k3,k4,k5,k6,_⟩:=ho _ _ hk;rw[h1]at k1;cases k1;have hrel:=QS ho h k5;refine⟨b,cs.toList,rfl,⟨hrel.length,λj hj=>⟨by rw[B8];exact k6.2 rfl j hj,?_⟩⟩,hrel⟩;simp[World.cell?,k2]
  .cases h
 .cases h
theorem vB(hm:MemS P fr free σ w G){fs:Nat->Option FSpec}(hE:∀f sp,fs f=some sp->F6 P f/\FunOK P f sp){s:Sh}{v:SV}{x:s.T}{val:Value}(h:PV fs σ s v=some x)(hr:SR P w G v val)
 (hnd:(ND σ s v).Nodup):∃bs,ShV P w G.im s x val bs/\bs.Nodup/\BlksOf σ G (ND σ s v) bs:=by
 have hnil:BlksOf σ G (ND σ s v) []:=λb hb=>by cases hb
 cases s with
 |val t=>exact⟨[],⟨II (λk o h=>hm.objs k o h) h hr,rfl⟩,B6,hnil⟩
 |own el t wr=>
  have h:JJ σ el t wr v=some x:=h;refine QV hm h (hr.cell λt y e=>?_);subst e;cases h
 |io el t=>
  have h:JJ σ el t true v=some x:=h;refine QV (wr:=true) hm h (hr.cell λt y e=>?_);subst e;cases h
 |omap a b=>
  have h:SI σ a b v=some x:=h;refine uT hm h (hr.cell λt y e=>?_);subst e;cases h
 |fz t=>
  have h:PS σ t v=some x:=h;exact⟨[],⟨iL (λk o h=>hm.objs k o h) h hr,rfl⟩,B6,hnil⟩
 |kz t=>
  have h:WM σ t v=some x:=h;obtain⟨b,c,rfl,h2,h3⟩:=A9j (λk o h=>hm.objs k o h) h hr;exact⟨[],⟨rfl,b,c,rfl,h2,h3⟩,B6,hnil⟩
 |it a b=>
  have h:WI σ a b v=some x:=h;exact A9b hm h hr
 |dp ids t=>
  have h:K1 σ ids t v=some x:=h;refine uU hm h (hr.cell λt y e=>?_);subst e;cases h
 |box c=>
  have h:PU σ c v=some x:=h;refine A9g hm h (hr.cell λt y e=>?_) hnd;subst e;cases h
 |pr a b=>cases h
 |hof nd d c=>
  have h:SH nd fs σ d c v=some x:=h;exact⟨[],⟨rfl,vA (D:=nd=true) (λk o h=>hm.objs k o h) hE (λh=>.inl h) h (hr.cell λt y e=>by subst e;cases h)⟩,B6,hnil⟩
 |fn f=>
  have h:SJ f v=some x:=h;exact⟨[],⟨rfl,uV h (hr.cell λt y e=>by subst e;cases h)⟩,B6,hnil⟩
 |nilS=>
  have h:SK v=some x:=h;exact⟨[],⟨rfl,uX h (hr.cell λt y e=>by subst e;cases h)⟩,B6,hnil⟩
 |any=>exact⟨[],rfl,B6,hnil⟩
 |tr s=>
  have h:sQ σ s v=some x:=h;cases v with
  |bt u c=>
   have h:(bif WK s&&u.same (.agg s.ty)then MI σ s c else none)=some x:=h;cases hb:(WK s&&u.same (.agg s.ty))with
   |false=>rw[hb]at h;cases h
   |true=>
    rw[hb]at h;have hpc:MI σ s c=some x:=h;simp only[A4]at hb;obtain⟨cc,hcc,cs',h1,⟨a,b,hab,h2⟩,h3,h4⟩:=hr;have hv:val=.agg cs'.toArray:=A5.1 ((show cc=[val]from hcc).symm.trans h1);obtain⟨bs,p1,p2,p3⟩:=uY hm hpc h4 hnd h2;exact⟨bs,⟨hb.1,cs',hv,h3,p1⟩,p2,p3⟩
  |_=>cases h
 |bld el c=>
  have h:PT σ el v=some x:=h;refine A9i (c:=c) hm h (hr.cell λt y e=>?_) hnd;subst e;cases h
 |nns e=>
  have h:WJ e v=some x:=h;exact⟨[],⟨rfl,uW h (hr.cell λt y e=>by subst e;cases h)⟩,B6,hnil⟩
theorem TU{fs:Nat→Option FSpec}{a b:Sh}{r:List Sh}{v:SV}{vs:List SV}:LW fs σ (a::b::r) (v::vs)=(match PV fs σ a v,LW fs σ (b::r) vs with
 |some x,some y=>some (x,y)
 |_,_=>none):=rfl
theorem A9k(hm:MemS P fr free σ w G){fs:Nat->Option FSpec}(hE:∀f sp,fs f=some sp->F6 P f/\FunOK P f sp):∀{l:List Sh} {svs:List SV} {x:TupR l} {vs:List Value},LW fs σ l svs=some x->
 svs.length=vs.length→(∀(j:Nat) (s:SV) (v:Value),svs[j]?=some s→vs[j]?=some v→SR P w G s v)→(G5 σ l svs).Nodup→∃bs,ShL P w G.im l x vs bs∧bs.Nodup∧BlksOf σ G (G5 σ l svs) bs:=by
 intro l;induction l with
 |nil=>
  intro svs x vs h hl _ _;cases svs with
  |nil=>exact⟨[],⟨AJ hl.symm,rfl⟩,B6,λb hb=>by cases hb⟩
  |cons _ _=>cases h
 |cons a l ih=>
  intro svs x vs h hl hs hnd;cases svs with
  |nil=>cases l<;>cases h
  |cons s svs=>
   cases vs with
   |nil=>cases hl
   |cons v vs=>
    have h0:=hs 0 s v rfl rfl;cases l with
    |nil=>
     cases svs with
     |cons _ _=>cases h
     |nil=>
      have h:PV fs σ a s=some x:=h;simp only[G5,C3]at hnd ⊢;obtain⟨bs,p1,p2,p3⟩:=vB hm hE h h0 hnd;have:vs=[]:=AJ (by simpa using hl.symm);subst this;exact⟨bs,⟨v,rfl,p1⟩,p2,p3⟩
    |cons b l=>
     rw[TU]at h;split at h
     .rename_i x1 x2 h1 h2;have h:=A3 h;subst h;rw[G5]at hnd ⊢;have hnd':=BA.1 hnd;obtain⟨b1,p1,p2,p3⟩:=vB hm hE h1 h0 hnd'.1;obtain⟨b2,q1,q2,q3⟩:=ih h2 (by simpa using hl) (λj s v h1 h2=>hs (j+1) s v ot oq) hnd'.2.1;obtain⟨r1,r2⟩:=p3.append hm q3 p2 q2 hnd;exact⟨b1++b2,⟨v,vs,b1,b2,rfl,rfl,p1,q1⟩,r1,r2⟩
     .cases h
theorem KT{k:Nat}:∀{l:List Nat},EV k l=true<->k∈l:=by
 intro l;induction l with
 |nil=>simp[EV]
 |cons j r ih=>
  simp only[EV,BH,ih,A_];exact⟨λh=>h.imp A2 id,λh=>h.imp (λe=>by rw[e];exact CH j) id⟩
theorem vC:∀{l:List Nat},J5 l=true->l.Nodup:=by
 intro l;induction l with
 |nil=>intro _;exact B6
 |cons k r ih=>
  intro h;simp only[J5,A4]at h;refine B7.2 ⟨λhk=>?_,ih h.2⟩;rw[KT.2 hk]at h;cases h.1
theorem NN(hm:MemS P fr free σ w G){fs:Nat->Option FSpec}(hE:∀f sp,fs f=some sp->F6 P f/\FunOK P f sp){l:List Sh}{svs:List SV}{x:TupR l}{vs:List Value}(h:J6 fs σ l svs=some x)
 (hl:svs.length=vs.length)(hs:∀(j:Nat) (s:SV) (v:Value),svs[j]?=some s->vs[j]?=some v->SR P w G s v):∃bs,ShL P w G.im l x vs bs/\bs.Nodup/\BlksOf σ G (G5 σ l svs) bs:=by
 unfold J6 at h;cases hd:J5 (G5 σ l svs)with
 |false=>rw[hd]at h;cases h
 |true=>rw[hd]at h;exact A9k hm hE h hl hs (vC hd)
theorem FW(σ:SSo)(a b:List (Nat×Option Obj)):EK σ (a++b)=EK (EK σ b) a:=by
 induction a with
 |nil=>rfl
 |cons p a ih=>
  obtain⟨k,o⟩:=p;funext i;simp only[List.cons_append,EK,ih]
theorem FK(σ:SSo)(k:Nat)(o:Option Obj)(j:Nat):EK σ [(k,o)] j=if j=k then o else σ j:=by
 simp only[EK];by_cases h:j=k
 .subst h;simp[CH]
 .rw[if_neg h,show Nat.beq j k=false by rw[<-BO];exact λhh=>h (A2 hh)];rfl
theorem OE:∀(s:Sh) (x:s.T) (n:Nat),(F7 s x n).nx=n+s.cnt:=by
 intro s;induction s with
 |pr a b iha ihb=>intro x n;simp only[F7,iha,ihb,Sh.cnt];omega
 |box c ih=>
  intro x n;have:=ih x (n+1);exact this.trans (by simp only[Sh.cnt];omega)
 |tr s ih=>intro x n;exact ih x n
 |_=>intro x n;rfl
theorem MemS.add(hm:MemS P fr free σ w G){k:Nat}(hk:free k){o:Obj}(him:G'.im=G.im)
 (hG:∀j,j≠k->G'.box j=G.box j/\G'.ety j=G.ety j/\∀g,G'.val j g=G.val j g)
 (ho:GLe w G w G'->ObjOK P fr w G' k o)(hb:∀b,Bk G' k o b->∀j o',σ j=some o'->¬Bk G j o' b):
 GLe w G w G'/\MemS P fr (λj=>free j/\j≠k) (EK σ [(k,some o)]) w G':=by
 have hf:=hm.fresh k hk
 have hle:GLe w G w G':=by
  refine⟨him▸Ext.refl _ _,λj g v h=>?_,λj t h=>?_,λj b h=>?_⟩
  .have:j≠k:=λe=>by rw[e,hf.2.2.2 g]at h;cases h
   rw[(hG j this).2.2 g];exact h
  .have:j≠k:=λe=>by rw[e,hf.2.1]at h;cases h
   rw[(hG j this).2.1];exact h
  .have:j≠k:=λe=>by rw[e,hf.2.2.1]at h;cases h
   rw[(hG j this).1];exact h
 have hmono:∀j o',σ j=some o'->∀{b},Bk G' j o' b<->Bk G j o' b:=λj o' h=>GH (hm.objs j o' h) hle;refine⟨hle,λj o' h=>?_,λi j o1 o2 b hi hj hbi hbj=>?_,him▸hm.after,λj hj=>?_⟩
 .rw[FK]at h;by_cases e:j=k
  .rw[if_pos e]at h;cases h;subst e;exact ho hle
  .rw[if_neg e]at h;exact(hm.objs j o' h).keep hle λb _=>⟨rfl,λ_ h=>him▸h,λh=>him▸h⟩
 .rw[FK]at hi hj;by_cases e1:i=k<;>by_cases e2:j=k
  .rw[e1,e2]
  .exfalso;rw[if_pos e1]at hi;rw[if_neg e2]at hj;cases hi;subst e1;rw[hmono j o2 hj]at hbj;exact hb b hbi j o2 hj hbj
  .exfalso;rw[if_neg e1]at hi;rw[if_pos e2]at hj;cases hj;subst e2;rw[hmono i o1 hi]at hbi;exact hb b hbj i o1 hi hbi
  .rw[if_neg e1]at hi;rw[if_neg e2]at hj;rw[hmono i o1 hi]at hbi;rw[hmono j o2 hj]at hbj;exact hm.sep i j o1 o2 b hi hj hbi hbj
 .have hfj:=hm.fresh j hj.1;obtain⟨q1,q2,q3⟩:=hG j hj.2;exact⟨by rw[FK,if_neg hj.2];exact hfj.1,q2.trans hfj.2.1,q1.trans hfj.2.2.1,λg=>(q3 g).trans (hfj.2.2.2 g)⟩
theorem MemS.ghost(hm:MemS P fr free σ w G){k:Nat}(hk:free k)(v:Value):
 GLe w G w (G.addVal k 0 v)/\MemS P fr (λj=>free j/\j≠k) σ w (G.addVal k 0 v):=by
 have hf:=hm.fresh k hk
 have hle:GLe w G w (G.addVal k 0 v):=by
  refine⟨Ext.refl _ _,λj g u h=>?_,λj t h=>h,λj b h=>h⟩;have:j≠k:=λe=>by rw[e,hf.2.2.2 g]at h;cases h
  simp only[Gh.addVal,this,DP,CK];exact h
 refine⟨hle,λj o h=>(hm.objs j o h).keep hle λb _=>⟨rfl,λ_ h=>h,λh=>h⟩,λi j o1 o2 b hi hj hbi hbj=>?_,hm.after,λj hj=>?_⟩
 .rw[GH (hm.objs i o1 hi) hle]at hbi;rw[GH (hm.objs j o2 hj) hle]at hbj;exact hm.sep i j o1 o2 b hi hj hbi hbj
 .have hfj:=hm.fresh j hj.1;exact⟨hfj.1,hfj.2.1,hfj.2.2.1,λg=>by simp only[Gh.addVal,hj.2,DP,CK];exact hfj.2.2.2 g⟩
structure Made(P:Program)(fr:Fr)(free:Nat->Prop)(σ:SSo)(w:World)(G:Gh)(n m:Nat)(obs:List (Nat×Option Obj))(bs:List Nat)(G':Gh):Prop where
 le:GLe w G w G'
 im:G'.im=G.im
 mem:MemS P fr (λj=>free j/\¬(n<=j/\j<m)) (EK σ obs) w G'
 own:∀j o b,EK σ obs j=some o->Bk G' j o b->b∈bs\/∃j' o',σ j'=some o'/\Bk G j' o' b
theorem Made.none(hm:MemS P fr free σ w G){n:Nat}{bs:List Nat}:Made P fr free σ w G n n [] bs G:=
 ⟨GLe.refl _ _,rfl,hm.shrink λ_ h=>h.1,λj o b h1 h2=>.inr ⟨j,o,h1,h2⟩⟩
theorem YC{el:Nat}{t:Ty}{wr:Bool}{x:List t.T}{n:Nat}{cs:List Value}{bs:List Nat}(hm:MemS P fr free σ w G)(h:ShC P w G.im (.own el t wr) x cs bs)
 (hbs:∀b∈bs,fr.owned b/\∀j o,σ j=some o->¬Bk G j o b)(hfree:∀k,n<=k->k<n+(Sh.own el t wr).cnt->free k):
 ∃G',Made P fr free σ w G n (n+(Sh.own el t wr).cnt) (F7 (.own el t wr) x n).obs bs G'/\CR P w G' (F7 (.own el t wr) x n).sv cs/\Fit (F7 (.own el t wr) x n).sv (Sh.own el t wr).ty:=by
 have hn:=hfree n (AB _) (by simp[Sh.cnt])
 have hv:∃v,cs=[v]/\v.oneCell'=true/\SlOK fr w G.im el t x wr v/\∀b cap len,v=.slice (some ⟨b,0,none⟩) len cap->b∈bs:=by
  rcases h with⟨rfl,h1,h2⟩|⟨b,cap,cells,rfl,rfl,h1,h2,h3,h4,h5,h6,h7⟩
  .exact⟨_,rfl,rfl,.inl ⟨rfl,h1⟩,λb cap len e=>by cases e⟩
  .exact⟨_,rfl,rfl,.inr ⟨b,cap,cells,rfl,h1,h2,h3,h4,(hbs b oc).1,h5,h6,h7⟩,λb' cap len e=>by cases e;simp⟩
 obtain⟨v,rfl,hv1,hv2,hv3⟩:=hv;let G':Gh:=(G.addVal n 0 v).addEty n t
 have hval:G'.val n 0=some v:=by simp[G',Gh.addVal,Gh.addEty]
 have hblk:∀b,Bk G' n (.sl el t x 0 wr) b->b∈bs:=by
  intro b hb;simp only[Bk,hval]at hb;rcases hv2 with⟨rfl,_⟩|⟨b',cap,cells,rfl,_⟩
  .cases hb
  .cases hb;exact hv3 _ _ _ rfl
 obtain⟨h1,h2⟩:=hm.add (G':=G') (o:=.sl el t x 0 wr) hn rfl (λj hj=>⟨rfl,by simp[G',Gh.addVal,Gh.addEty,hj],λg=>by simp[G',Gh.addVal,Gh.addEty,hj]⟩)
  (λhle=>⟨by simp[G',Gh.addVal,Gh.addEty],v,hval,hv2⟩) (λb hb j o ho=>(hbs b (hblk b hb)).2 j o ho)
 refine⟨G',⟨h1,rfl,h2.shrink λj hj=>⟨hj.1,λe=>hj.2 (by subst e;simp[Sh.cnt])⟩,λj o b hj hb=>?_⟩,⟨v,hval,hv1,rfl⟩,rfl⟩;have hj:EK σ [(n,some (.sl el t x 0 wr))] j=some o:=hj;rw[FK]at hj;by_cases e:j=n
 .rw[if_pos e]at hj;cases hj;subst e;exact .inl (hblk b hb)
 .rw[if_neg e]at hj;exact .inr ⟨j,o,hj,by rw[<-GH (hm.objs j o hj) h1];exact hb⟩
theorem A9l{a b:Ty}{x:List (a.T×b.T)}{n:Nat}{cs:List Value}{bs:List Nat}(hm:MemS P fr free σ w G)(h:ShC P w G.im (.omap a b) x cs bs)
 (hbs:∀b∈bs,fr.owned b/\∀j o,σ j=some o->¬Bk G j o b)(hfree:∀k,n<=k->k<n+1->free k):
 ∃G',Made P fr free σ w G n (n+1) (F7 (.omap a b) x n).obs bs G'/\CR P w G' (F7 (.omap a b) x n).sv cs/\Fit (F7 (.omap a b) x n).sv (Sh.omap a b).ty:=by
 have hn:=hfree n (AB _) o5;obtain⟨bl,ents,clock,rfl,rfl,h1,h2,h3,h4,h5⟩:=h;let G':Gh:=G.addVal n 0 (.map (some bl))
 have hval:G'.val n 0=some (.map (some bl)):=by simp[G',Gh.addVal]
 have hblk:∀c,Bk G' n (.mp a b x true) c->c=bl:=by
  intro c hc;simp only[Bk,hval,AM]at hc;exact hc.symm
 have hb0:=hbs bl oc
 obtain⟨h6,h7⟩:=hm.add (G':=G') (o:=.mp a b x true) hn rfl (λj hj=>⟨rfl,rfl,λg=>by simp[G',Gh.addVal,hj]⟩)
  (λhle=>⟨_,hval,bl,ents,clock,rfl,h1,h2,h3,⟨λ_=>h4,λh=>oe⟩,h5,hb0.1⟩) (λc hc j o ho=>by rw[hblk c hc];exact hb0.2 j o ho)
 refine⟨G',⟨h6,rfl,h7.shrink λj hj=>⟨hj.1,λe=>hj.2 (by subst e;omega)⟩,λj o c hj hc=>?_⟩,⟨_,hval,rfl,rfl⟩,rfl⟩;have hj:EK σ [(n,some (.mp a b x true))] j=some o:=hj;rw[FK]at hj;by_cases e:j=n
 .rw[if_pos e]at hj;cases hj;subst e;exact .inl (by rw[hblk c hc];simp)
 .rw[if_neg e]at hj;exact .inr ⟨j,o,hj,by rw[<-GH (hm.objs j o hj) h6];exact hc⟩
theorem vD{ids:List Nat}{t:Ty}{x:(E4 ids t).T}{n:Nat}{cs:List Value}{bs:List Nat}(hm:MemS P fr free σ w G)(h:ShC P w G.im (.dp ids t) x cs bs)(hnd:bs.Nodup)
 (hbs:∀b∈bs,fr.owned b/\∀j o,σ j=some o->¬Bk G j o b)(hfree:∀k,n<=k->k<n+2->free k):
 ∃G',Made P fr free σ w G n (n+2) (F7 (.dp ids t) x n).obs bs G'/\CR P w G' (F7 (.dp ids t) x n).sv cs/\Fit (F7 (.dp ids t) x n).sv (Sh.dp ids t).ty:=by
 obtain⟨hne,hd⟩:=h;cases ids with
 |nil=>exact absurd rfl hne
 |cons id r=>
  have hd:=hd.own (ow':=fr.owned) λb hb=>(hbs b hb).1;have hd0:=hd;obtain⟨v,rfl,hv1,_⟩:=hd0;obtain⟨g1,m1⟩:=hm.ghost (hfree (n+1) o5 o5) (.tuple (List.map HJ bs).toArray);let G1:Gh:=G.addVal (n+1) 0 (.tuple (List.map HJ bs).toArray)
  have m1:MemS P fr (λj=>free j/\j≠n+1) σ w G1:=m1;have g1:GLe w G w G1:=g1;let G':Gh:=(G1.addVal n 0 v).addEty n (E4 r t)
  have hval:G'.val n 0=some v:=by simp[G',Gh.addVal,Gh.addEty]
  have hus:G'.val (n+1) 0=some (.tuple (List.map HJ bs).toArray):=by simp[G',G1,Gh.addVal,Gh.addEty]
  have him:G'.im=G.im:=rfl
  have hblk:∀c,Bk G' n (.dp (id::r) t x (n+1) none true) c->c∈bs:=by
   rintro c ⟨_,us',h8,hc⟩;rw[hus]at h8;cases h8;exact(KR (bs:=bs) oc).1 hc
  obtain⟨h8,h9⟩:=m1.add (G':=G') (o:=.dp (id::r) t x (n+1) none true) (k:=n) ⟨hfree n (AB _) o5,o5⟩ rfl (λj hj=>⟨rfl,by simp[G',Gh.addVal,Gh.addEty,hj],λg=>by simp[G',Gh.addVal,Gh.addEty,hj]⟩)
   (λhle=>⟨ou,by simp[G',Gh.addVal,Gh.addEty],v,_,bs,hval,hus,oc,hnd,hd,trivial⟩)
   (λc hc j o ho hb=>(hbs c (hblk c hc)).2 j o ho (by rw[<-GH (hm.objs j o ho) g1];exact hb))
  refine⟨G',⟨g1.trans h8,rfl,h9.shrink λj hj=>⟨⟨hj.1,λe=>hj.2 (by subst e;omega)⟩,λe=>hj.2 (by subst e;omega)⟩,λj o c hj hc=>?_⟩,⟨_,hval,hv1,rfl⟩,rfl⟩;have hj:EK σ [(n,some (.dp (id::r) t x (n+1) none true))] j=some o:=hj;rw[FK]at hj;by_cases e:j=n
  .rw[if_pos e]at hj;cases hj;subst e;exact .inl (hblk c hc)
  .rw[if_neg e]at hj;exact .inr ⟨j,o,hj,by rw[<-GH (hm.objs j o hj) (g1.trans h8)];exact hc⟩
theorem K7:∀{s:Sh} {x:s.T} {n:Nat} {free:Nat->Prop} {σ:SSo} {G:Gh} {cs:List Value} {bs:List Nat},MemS P fr free σ w G->ShC P w G.im s x cs bs->bs.Nodup->
 (∀b∈bs,fr.owned b/\∀j o,σ j=some o->¬Bk G j o b)->(∀k,n<=k->k<n+s.cnt->free k)->
 ∃G',Made P fr free σ w G n (n+s.cnt) (F7 s x n).obs bs G'/\CR P w G' (F7 s x n).sv cs/\Fit (F7 s x n).sv s.ty:=by
 intro s;induction s with
 |val t=>
  intro x n free σ G cs bs hm h _ _ _;exact⟨G,Made.none hm,h.1,rfl⟩
 |hof d c=>
  intro x n free σ G cs bs hm h _ _ _;exact⟨G,Made.none hm,h.2,rfl⟩
 |fn f=>
  intro x n free σ G cs bs hm h _ _ _;exact⟨G,Made.none hm,⟨#[],h.2,rfl⟩,rfl⟩
 |nilS=>
  intro x n free σ G cs bs hm h _ _ _;exact⟨G,Made.none hm,h.2,rfl⟩
 |nns e=>
  intro x n free σ G cs bs hm h _ _ _;exact⟨G,Made.none hm,h.2,rfl⟩
 |any=>
  intro x n free σ G cs bs hm h _ _ _;exact absurd h id
 |it a b=>
  intro x n free σ G cs bs hm h _ _ _;exact absurd h id
 |tr s _=>
  intro x n free σ G cs bs hm h _ _ _;exact absurd h id
 |bld el c=>
  intro x n free σ G cs bs hm h hnd hbs hfree;obtain⟨b,cells,el',p,q,bs',rfl,rfl,h1,hlay,h2,hp,h4,h5,h6⟩:=h;have hnd':=B7.1 hnd
  have hown:ShC P w G.im (.own el (.int .u8) true) x [q] bs':=by
   rcases h6 with⟨rfl,k1,k2⟩|⟨g,cap,gc,rfl,k1,k2,k3,k4,k5,k6,k7⟩
   .exact .inl ⟨rfl,k1,k2⟩
   .exact .inr ⟨g,cap,gc,rfl,k1,k2,k3,k4,k5,(λ_=>k6),(λh=>oe),k7⟩
  obtain⟨G1,m1,r1,f1⟩:=YC (n:=n+1) hm hown (λb hb=>hbs b (AD _ hb)) (λk h1 h2=>hfree k o5 (by simp only[Sh.cnt]at h2 ⊢;omega));let G2:Gh:=G1.addBox n b GG
  have hbox:G2.box n=some (b,GG):=by simp[G2,Gh.addBox]
  have hb0:=hbs b AI;have him:G2.im=G.im:=m1.im;have hsz:cells.size=2:=by rw[<-BR,h2];rfl
  obtain⟨q1,q2⟩:=m1.mem.add (G':=G2) (o:=.box GG (.pr (.slf n) (.obj (n+1) 0)) true) (k:=n) ⟨hfree n (AB _) (by simp only[Sh.cnt];omega),by simp only[Sh.cnt];omega⟩ rfl
   (λj hj=>⟨by simp[G2,Gh.addBox,hj],rfl,λ_=>rfl⟩)
   (λhle=>⟨b,cells,el',hbox,h1,hsz,⟨_,_,rfl,rfl,f1⟩,⟨[p],[q],h2,⟨b,GG,hbox,by rcases hp with rfl|rfl<;>simp⟩,r1.mono hle⟩,⟨λ_ o=>by rw[him];exact h4 o,λh=>oe⟩,by rw[him];exact h5,hb0.1,λ_=>hlay⟩)
   (λb' hb' j o ho hbj=>by
    simp only[Bk,hbox,BD,AM]at hb';subst hb';rcases m1.own j o b ho hbj with h|⟨j',o',h3,h4⟩
    .exact hnd'.1 h
    .exact hb0.2 j' o' h3 h4)
  have e1:(F7 (.bld el c) x n).obs=[(n,some (.box GG (.pr (.slf n) (.obj (n+1) 0)) true))]++(F7 (.own el (.int .u8) true) x (n+1)).obs:=rfl;have hcnt:(Sh.own el (.int .u8) true).cnt=1:=rfl;rw[hcnt]at m1;rw[hcnt]at q2;refine⟨G2,⟨m1.le.trans q1,him,?_,?_⟩,⟨b,GG,0,hbox,rfl,⟨GG,rfl,rfl⟩,rfl⟩,rfl⟩
  .rw[e1,FW];exact q2.shrink λj hj=>⟨⟨hj.1,λe=>hj.2 ⟨o5,by simp only[Sh.cnt];omega⟩⟩,λe=>hj.2 ⟨o5,by simp only[Sh.cnt];omega⟩⟩
  .intro j o b' hj hb;rw[e1,FW,FK]at hj;by_cases e:j=n
   .rw[if_pos e]at hj;cases hj;subst e;simp only[Bk,hbox,BD,AM]at hb;subst hb;exact .inl AI
   .rw[if_neg e]at hj;rw[GH (m1.mem.objs j o hj) q1]at hb;rcases m1.own j o b' hj hb with h|h
    .exact .inl (AD _ h)
    .exact .inr h
 |own el t wr=>
  intro x n free σ G cs bs hm h _ hbs hfree;exact YC hm h hbs hfree
 |io el t=>
  intro x n free σ G cs bs hm h _ hbs hfree;exact YC (wr:=true) hm h hbs hfree
 |omap a b=>
  intro x n free σ G cs bs hm h _ hbs hfree;exact A9l hm h hbs hfree
 |fz t=>
  intro x n free σ G cs bs hm h _ _ _;exact⟨G,Made.none hm,h.1,rfl⟩
 |kz t=>
  intro x n free σ G cs bs hm h _ hbs hfree;obtain⟨rfl,b,c,rfl,h1,h2⟩:=h;let G':Gh:=G.addBox n b t
  have hbox:G'.box n=some (b,t):=by simp[G',Gh.addBox]
  obtain⟨q1,q2⟩:=hm.add (G':=G') (k:=n) (o:=.kv t x) (hfree n (AB _) (by simp[Sh.cnt])) rfl
   (λj hj=>⟨by simp[G',Gh.addBox,hj],rfl,λg=>rfl⟩) (λ_=>⟨b,c,hbox,h1,h2⟩) (λb hb=>hb.elim)
  refine⟨G',⟨q1,rfl,q2.shrink λj hj=>⟨hj.1,λe=>hj.2 (by subst e;simp[Sh.cnt])⟩,λj o b' hj hb=>?_⟩,⟨b,t,0,hbox,by cases t<;>rfl,⟨t,by cases t<;>rfl,rfl⟩,rfl⟩,rfl⟩;have hj:EK σ [(n,some (.kv t x))] j=some o:=hj;rw[FK]at hj;by_cases e:j=n
  .rw[if_pos e]at hj;cases hj;subst e;exact hb.elim
  .rw[if_neg e]at hj;exact .inr ⟨j,o,hj,by rw[<-GH (hm.objs j o hj) q1];exact hb⟩
 |dp ids t=>
  intro x n free σ G cs bs hm h hnd hbs hfree;exact vD hm h hnd hbs hfree
 |pr a b iha ihb=>
  intro x n free σ G cs bs hm h hnd hbs hfree;obtain⟨c,d,bs1,bs2,rfl,rfl,h1,h2⟩:=h;have hnd':=BA.1 hnd;obtain⟨G1,m1,r1,f1⟩:=ihb (n:=n+a.cnt) hm h2 hnd'.2.1 (λb hb=>hbs b (AT _ hb)) (λk h1 h2=>hfree k o5 (by simp only[Sh.cnt];omega))
  obtain ⟨G2,m2,r2,f2⟩:=iha (n:=n) (cs:=c) m1.mem (by rw [m1.im]; exact h1) hnd'.1 (λb hb=>⟨(hbs b (AS _ hb)).1,λj o ho hb2=>by
   rcases m1.own j o b ho hb2 with h|⟨j',o',h3,h4⟩
   .exact hnd'.2.2 b hb b h rfl
   .exact(hbs b (AS _ hb)).2 j' o' h3 h4⟩) (λk h1 h2=>⟨hfree k h1 (by simp only[Sh.cnt];omega),o5⟩)
  have e1:(F7 (.pr a b) x n).obs=(F7 a x.1 n).obs++(F7 b x.2 (n+a.cnt)).obs:=by
   show(F7 a x.1 n).obs++(F7 b x.2 (F7 a x.1 n).nx).obs=_;rw[OE]
  have e2:(F7 (.pr a b) x n).sv=.pr (F7 a x.1 n).sv (F7 b x.2 (n+a.cnt)).sv:=by
   show SV.pr (F7 a x.1 n).sv (F7 b x.2 (F7 a x.1 n).nx).sv=_;rw[OE]
  refine⟨G2,⟨m1.le.trans m2.le,m2.im.trans m1.im,?_,?_⟩,?_,?_⟩
  .rw[e1,FW];refine m2.mem.shrink λj hj=>⟨⟨hj.1,λe=>hj.2 ⟨o5,by simp only[Sh.cnt];omega⟩⟩,λe=>hj.2 ⟨e.1,by simp only[Sh.cnt];omega⟩⟩
  .intro j o b' hj hb;rw[e1,FW]at hj;rcases m2.own j o b' hj hb with h|⟨j',o',h3,h4⟩
   .exact .inl (AS _ h)
   .rcases m1.own j' o' b' h3 h4 with h|h
    .exact .inl (AT _ h)
    .exact .inr h
  .rw[e2];exact⟨c,d,rfl,r2,r1.mono m2.le⟩
  .rw[e2];exact⟨a.ty,b.ty,rfl,f2,f1⟩
 |box c ih=>
  intro x n free σ G cs bs hm h hnd hbs hfree;obtain⟨b,cells,el,bs',rfl,rfl,h1,h2,h3,h4,h5,hlay⟩:=h;have hnd':=B7.1 hnd;obtain⟨G1,m1,r1,f1⟩:=ih (n:=n+1) hm h3 hnd'.2 (λb hb=>hbs b (AD _ hb)) (λk h1 h2=>hfree k o5 (by simp only[Sh.cnt];omega));let G2:Gh:=G1.addBox n b c.ty
  have hbox:G2.box n=some (b,c.ty):=by simp[G2,Gh.addBox]
  have hb0:=hbs b AI;have him:G2.im=G.im:=m1.im
  obtain⟨q1,q2⟩:=m1.mem.add (G':=G2) (o:=.box c.ty (F7 c x (n+1)).sv true) (k:=n) ⟨hfree n (AB _) (by simp only[Sh.cnt];omega),o5⟩ rfl
   (λj hj=>⟨by simp[G2,Gh.addBox,hj],rfl,λ_=>rfl⟩)
   (λhle=>⟨b,cells,el,hbox,h1,h2,f1,r1.mono hle,⟨λ_ o=>by rw[him];exact h4 o,λh=>oe⟩,by rw[him];exact h5,hb0.1,hlay⟩)
   (λb' hb' j o ho hbj=>by
    simp only[Bk,hbox,BD,AM]at hb';subst hb';rcases m1.own j o b ho hbj with h|⟨j',o',h3,h4⟩
    .exact hnd'.1 h
    .exact hb0.2 j' o' h3 h4)
  have e1:(F7 (.box c) x n).obs=[(n,some (.box c.ty (F7 c x (n+1)).sv true))]++(F7 c x (n+1)).obs:=rfl;refine⟨G2,⟨m1.le.trans q1,him,?_,?_⟩,⟨b,c.ty,0,hbox,by cases c.ty<;>rfl,⟨c.ty,by cases c.ty<;>rfl,rfl⟩,rfl⟩,rfl⟩
  .rw[e1,FW];exact q2.shrink λj hj=>⟨⟨hj.1,λe=>hj.2 ⟨o5,by simp only[Sh.cnt];omega⟩⟩,λe=>hj.2 ⟨o5,by simp only[Sh.cnt];omega⟩⟩
  .intro j o b' hj hb;rw[e1,FW,FK]at hj;by_cases e:j=n
   .rw[if_pos e]at hj;cases hj;subst e;simp only[Bk,hbox,BD,AM]at hb;subst hb;exact .inl AI
   .rw[if_neg e]at hj;rw[GH (m1.mem.objs j o hj) q1]at hb;rcases m1.own j o b' hj hb with h|h
    .exact .inl (AD _ h)
    .exact .inr h
theorem vE{s:Sh}{x:s.T}{n:Nat}{v:Value}{bs:List Nat}(hm:MemS P fr free σ w G)(h:ShV P w G.im s x v bs)(hnd:bs.Nodup)
 (hbs:∀b∈bs,fr.owned b/\∀j o,σ j=some o->¬Bk G j o b)(hfree:∀k,n<=k->k<n+s.cnt->free k):
 ∃G',Made P fr free σ w G n (n+s.cnt) (F7 s x n).obs bs G'/\SR P w G' (F7 s x n).sv v:=by
 cases s with
 |val t=>
  obtain⟨h1,rfl⟩:=h;exact⟨G,Made.none hm,h1⟩
 |fz t=>
  obtain⟨h1,rfl⟩:=h;exact⟨G,Made.none hm,h1⟩
 |kz t=>
  obtain⟨G',h1,h2,_⟩:=K7 (s:=.kz t) hm h hnd hbs hfree;exact⟨G',h1,[v],rfl,h2⟩
 |pr a b=>exact absurd h id
 |own el t wr=>
  obtain⟨G',h1,h2,_⟩:=K7 (s:=.own el t wr) hm h hnd hbs hfree;exact⟨G',h1,[v],rfl,h2⟩
 |io el t=>
  obtain⟨G',h1,h2,_⟩:=K7 (s:=.io el t) hm h hnd hbs hfree;exact⟨G',h1,[v],rfl,h2⟩
 |omap a b=>
  obtain⟨G',h1,h2,_⟩:=K7 (s:=.omap a b) hm h hnd hbs hfree;exact⟨G',h1,[v],rfl,h2⟩
 |dp ids t=>
  obtain⟨G',h1,h2,_⟩:=K7 (s:=.dp ids t) hm h hnd hbs hfree;exact⟨G',h1,[v],rfl,h2⟩
 |box c=>
  obtain⟨G',h1,h2,_⟩:=K7 (s:=.box c) hm h hnd hbs hfree;exact⟨G',h1,[v],rfl,h2⟩
 |hof nd d c=>
  obtain⟨G',h1,h2,_⟩:=K7 (s:=.hof nd d c) hm h hnd hbs hfree;exact⟨G',h1,[v],rfl,h2⟩
 |fn f=>
  obtain⟨G',h1,h2,_⟩:=K7 (s:=.fn f) hm h hnd hbs hfree;exact⟨G',h1,[v],rfl,h2⟩
 |nilS=>
  obtain⟨G',h1,h2,_⟩:=K7 (s:=.nilS) hm h hnd hbs hfree;exact⟨G',h1,[v],rfl,h2⟩
 |nns e=>
  obtain⟨G',h1,h2,_⟩:=K7 (s:=.nns e) hm h hnd hbs hfree;exact⟨G',h1,[v],rfl,h2⟩
 |any=>exact⟨G,Made.none hm,[v],rfl,trivial⟩
 |it a b=>exact⟨G,Made.none hm,[v],rfl,trivial⟩
 |tr s=>
  obtain⟨hp,cs,rfl,hone,h⟩:=h;obtain⟨G',h1,h2,h3⟩:=K7 (s:=s) (x:=x) (n:=n) hm h hnd hbs hfree;cases s<;>first|(cases hp;done)|skip
  rename_i a b;exact⟨G',h1,_,rfl,cs,rfl,⟨a.ty,b.ty,rfl,h3⟩,hone,h2⟩
 |bld el c=>
  obtain⟨G',h1,h2,_⟩:=K7 (s:=.bld el c) hm h hnd hbs hfree;exact⟨G',h1,[v],rfl,h2⟩
theorem TV:∀{l:List Sh} {x:TupR l} {n:Nat} {free:Nat->Prop} {vs:List Value} {bs:List Nat},MemS P fr free σ w G->ShL P w G.im l x vs bs->bs.Nodup->
 (∀b∈bs,fr.owned b/\∀j o,σ j=some o->¬Bk G j o b)->(∀k,n<=k->k<n+FM l->free k)->
 ∃G',Made P fr free σ w G n (n+FM l) ((F5 l x n).flatMap (·.obs)) bs G'/\vs.length=l.length/\(F5 l x n).length=l.length/\
  ∀(j:Nat) (m:Mk) (v:Value),(F5 l x n)[j]?=some m->vs[j]?=some v->SR P w G' m.sv v:=by
 intro l;induction l with
 |nil=>
  intro x n free vs bs hm h _ _ _;obtain⟨rfl,rfl⟩:=h;exact⟨G,Made.none hm,rfl,rfl,λj m v h=>by simp[F5]at h⟩
 |cons a l ih=>
  intro x n free vs bs hm h hnd hbs hfree;cases l with
  |nil=>
   obtain⟨v,rfl,h1⟩:=h;obtain⟨G',h2,h3⟩:=vE (n:=n) hm h1 hnd hbs (λk h1 h2=>hfree k h1 (by simp only[FM];omega));refine⟨G',?_,rfl,rfl,λj m v' hj hv=>?_⟩
   .have e1:(F5 [a] x n).flatMap (·.obs)=(F7 a x n).obs:=by
     show([F7 a x n]:List Mk).flatMap (·.obs)=_;simp
    rw[e1];exact h2
   .cases j with
    |zero=>cases hj;cases hv;exact h3
    |succ j=>cases hj
  |cons b l=>
   obtain⟨v,vs',bs1,bs2,rfl,rfl,h1,h2⟩:=h;have hnd':=BA.1 hnd;obtain⟨G1,m1,l1,l2,r1⟩:=ih (x:=x.2) (n:=n+a.cnt) hm h2 hnd'.2.1 (λb hb=>hbs b (AT _ hb)) (λk h1 h2=>hfree k o5 (by simp only[FM]at h2 ⊢;omega))
   obtain ⟨G2,m2,r2⟩:=vE (s:=a) (x:=x.1) (n:=n) (v:=v) m1.mem (by rw [m1.im]; exact h1) hnd'.1 (λb hb=>⟨(hbs b (AS _ hb)).1,λj o ho hb2=>by
    rcases m1.own j o b ho hb2 with h|⟨j',o',h3,h4⟩
    .exact hnd'.2.2 b hb b h rfl
    .exact(hbs b (AS _ hb)).2 j' o' h3 h4⟩) (λk h1 h2=>⟨hfree k h1 (by simp only[FM];omega),o5⟩)
   have e0:F5 (a::b::l) x n=F7 a x.1 n::F5 (b::l) x.2 (n+a.cnt):=by
    show F7 a x.1 n::F5 (b::l) x.2 (F7 a x.1 n).nx=_;rw[OE]
   have e1:(F5 (a::b::l) x n).flatMap (·.obs)=(F7 a x.1 n).obs++(F5 (b::l) x.2 (n+a.cnt)).flatMap (·.obs):=by
    rw[e0,List.flatMap_cons]
   refine⟨G2,⟨m1.le.trans m2.le,m2.im.trans m1.im,?_,?_⟩,by simp[l1],by rw[e0];simp[l2],λj m v' hj hv=>?_⟩
   .rw[e1,FW];exact m2.mem.shrink λj hj=>⟨⟨hj.1,λe=>hj.2 ⟨o5,by simp only[FM]at e ⊢;omega⟩⟩,λe=>hj.2 ⟨e.1,by simp only[FM];omega⟩⟩
   .intro j o b' hj hb;rw[e1,FW]at hj;rcases m2.own j o b' hj hb with h|⟨j',o',h3,h4⟩
    .exact .inl (AS _ h)
    .rcases m1.own j' o' b' h3 h4 with h|h
     .exact .inl (AT _ h)
     .exact .inr h
   .rw[e0]at hj;cases j with
    |zero=>cases hj;cases hv;exact r2
    |succ j=>exact(r1 j m v' om oz).mono m2.le
end
def LK:(a b:List Sh)→TupR (a++b)→TupR a×TupR b
 |[],_,x=>((),x)
 |[_],[],x=>(x,())
 |[_],_::_,x=>(x.1,x.2)
 |_::s::a,b,x=>((x.1,(LK (s::a) b x.2).1),(LK (s::a) b x.2).2)
section
variable{P:Program}{fr:Fr}{free free':Nat->Prop}{self:Nat}{σ σ':SSo}{w w':World}{G G':Gh}{I:Im}
theorem ShL.split:∀{a b:List Sh} {x:TupR (a++b)} {vs us:List Value} {bs:List Nat},vs.length=a.length->ShL P w I (a++b) x (vs++us) bs->
 ∃b1 b2,bs=b1++b2∧ShL P w I a (LK a b x).1 vs b1∧ShL P w I b (LK a b x).2 us b2:=by
 intro a;induction a with
 |nil=>
  intro b x vs us bs hl h;have:vs=[]:=AJ hl;subst this;exact⟨[],bs,rfl,⟨rfl,rfl⟩,h⟩
 |cons s a ih=>
  intro b x vs us bs hl h;cases vs with
  |nil=>cases hl
  |cons v vs=>
   cases a with
   |nil=>
    have:vs=[]:=AJ (by simpa using hl);subst this;cases b with
    |nil=>
     obtain⟨v',h1,h2⟩:=h
     have hu:us=[]/\v=v':=by
      have:v::us=[v']:=h1;injection this with h1 h2;exact⟨h2,h1⟩
     obtain⟨rfl,rfl⟩:=hu;exact⟨bs,[],oc,⟨v,rfl,h2⟩,⟨rfl,rfl⟩⟩
    |cons c b=>
     obtain⟨v',vs',b1,b2,h1,h2,h3,h4⟩:=h
     have hu:us=vs'/\v=v':=by
      have:v::us=v'::vs':=h1;injection this with h1 h2;exact⟨h2,h1⟩
     obtain⟨rfl,rfl⟩:=hu;exact⟨b1,b2,h2,⟨v,rfl,h3⟩,h4⟩
   |cons s' a=>
    obtain⟨v',vs',b1,b2,h1,h2,h3,h4⟩:=h
    have hu:vs++us=vs'/\v=v':=by
     have:v::(vs++us)=v'::vs':=h1;injection this with h1 h2;exact⟨h2,h1⟩
    obtain⟨rfl,rfl⟩:=hu;obtain⟨c1,c2,e1,e2,e3⟩:=ih (by simpa using hl) h4;exact⟨b1++c1,c2,by rw[h2,e1,B_],⟨v,vs,b1,c1,rfl,rfl,h3,e2⟩,e3⟩
theorem TW:∀{a b:List Sh} {x:TupR (a++b)} {n:Nat},F5 (a++b) x n=F5 a (LK a b x).1 n++F5 b (LK a b x).2 (n+FM a):=by
 intro a;induction a with
 |nil=>intro b x n;rfl
 |cons s a ih=>
  intro b x n;cases a with
  |nil=>
   cases b with
   |nil=>rfl
   |cons c b=>
    show F7 s x.1 n::F5 (c::b) x.2 (F7 s x.1 n).nx=[F7 s x.1 n]++F5 (c::b) x.2 (n+(s.cnt+0));rw[OE];rfl
  |cons s' a=>
   show F7 s x.1 n::F5 (s'::a++b) x.2 (F7 s x.1 n).nx=(F7 s x.1 n::F5 (s'::a) _ (F7 s x.1 n).nx)++F5 b _ (n+(s.cnt+FM (s'::a)));rw[OE,ih,<-C7];rfl
theorem JB{ks:List Nat}{j:Nat}:EK σ (gone ks) j=if j∈ks then none else σ j:=by
 induction ks with
 |nil=>simp[gone,EK]
 |cons k ks ih=>
  simp only[gone,EK,A_];by_cases h:j=k
  .subst h;simp[CH]
  .rw[show Nat.beq j k=false by rw[<-BO];exact λhh=>h (A2 hh)];simp[h,ih]
theorem M1{k b:Nat}{o:Obj}(h:ObjOK P fr w G k o)(hb:Bk G k o b):fr.owned b:=by
 cases o with
 |box t c wr=>
  obtain⟨b',cs,el,h1,_,_,_,_,_,_,h8⟩:=h;simp only[Bk,h1,BD,AM]at hb;subst hb;exact h8.1
 |sl el t xs g wr=>
  obtain⟨_,v,h1,h2⟩:=h;simp only[Bk,h1]at hb;rcases h2 with⟨rfl,_⟩|⟨b',cap,cs,rfl,_,_,_,_,h3,_⟩
  .cases hb
  .cases hb;exact h3
 |mp a b' es wr=>
  obtain⟨v,h1,b'',ents,clock,rfl,_,_,_,_,_,h3⟩:=h;simp only[Bk,h1,AM]at hb;subst hb;exact h3
 |dp ids t x gk h' wr=>
  obtain⟨rfl,us',hu,hb⟩:=hb;cases ids with
  |nil=>exact absurd h id
  |cons id r=>
   obtain⟨_,_,v,us,bs,h1,h2,h3,h4,h5⟩:=DpOK.inv h;rw[h2]at hu;cases hu;exact(h5.blk b ((KR h3).1 hb)).2.1
 |kn f c=>exact hb.elim
 |kv t x=>exact hb.elim
 |it a b' es=>
  obtain⟨r,o,h1,_,_,_,_,h3⟩:=h;simp only[Bk,h1,AM]at hb;subst hb;exact h3
theorem MemS.sub(hm:MemS P fr free σ w G)(hσ:∀k o,σ' k=some o->σ k=some o):MemS P fr free σ' w G:=
 ⟨λk o h=>hm.objs k o (hσ k o h),λi j o o' b h1 h2=>hm.sep i j o o' b (hσ i o h1) (hσ j o' h2),hm.after,λk hk=>by
  obtain⟨h1,h2⟩:=hm.fresh k hk;refine⟨?_,h2⟩;cases h:σ' k with
  |none=>rfl
  |some o=>rw[hσ k o h]at h1;cases h1⟩
theorem MemS.called(hm:MemS P fr free σ w G){ks bs:List Nat}(hb:BlksOf σ G ks bs){I':Im}(ha:After (·∈bs) w G.im w' I'):
 GLe w G w' {G with im:=I'}/\MemS P fr free (EK σ (gone ks)) w' {G with im:=I'}:=by
 have hle:GLe w G w' {G with im:=I'}:=⟨ha.ext,λ_ _ _ h=>h,λ_ _ h=>h,λ_ _ h=>h⟩
 have hput:∀j o,EK σ (gone ks) j=some o->j ∉ ks/\σ j=some o:=by
  intro j o h;rw[JB]at h;by_cases hj:j∈ks
  .rw[if_pos hj]at h;cases h
  .rw[if_neg hj]at h;exact⟨hj,h⟩
 refine⟨hle,λj o h=>?_,λi j o o' b h1 h2 hb1 hb2=>?_,?_,λj hj=>?_⟩
 .obtain⟨hj,ho⟩:=hput j o h;refine(hm.objs j o ho).keep hle λb hbj=>?_;have hlt:=HP (hm.objs j o ho) hbj
  have hnb:b ∉ bs:=λhbb=>by
   obtain⟨k,hk,o',ho',hbk⟩:=hb b hbb;have:=hm.sep j k o o' b ho ho' hbj hbk;subst this;exact hj hk
  refine⟨ha.heap b hlt hnb,λoff hoff=>?_,λhoff=>?_⟩
  .rcases ha.newC b off hoff with h|h|h
   .exact h
   .omega
   .exact absurd h hnb
  .rcases ha.newO b hoff with h|h|h
   .exact h
   .omega
   .exact absurd h hnb
 .obtain⟨_,ho⟩:=hput i o h1;obtain⟨_,ho'⟩:=hput j o' h2;exact hm.sep i j o o' b ho ho' hb1 hb2
 .refine hm.after.trans ha λb hbb=>?_;obtain⟨k,hk,o',ho',hbk⟩:=hb b hbb;exact(M1 (hm.objs k o' ho') hbk).symm
 .have hf:=hm.fresh j hj;refine⟨?_,hf.2⟩;rw[JB];split
  .rfl
  .exact hf.1
end
end Go.Ev
