/-
  The evaluator's functions: a function of the program keeps what the evaluator says.
-/
import Derived.Test.YtlljgbmoloklgaaGreatDoorE2
import Derived.Maps.RangeRun
set_option linter.unusedVariables false
set_option linter.unusedSimpArgs false
set_option linter.unusedSectionVars false
set_option maxRecDepth 100000
namespace Go.Ev
variable [Pins]
section
variable{P:Program}{fr:Fr}{free free':Nat->Prop}{self:Nat}{σ σ':SSo}{w w':World}{G G':Gh}{I:Im}
theorem A9m{k v:Ty}{id:Nat}(hl:Lay P (.map k v) id)(hm:MemS P fr free σ w G)(hself:free self){x:List (k.T×v.T)}{mv:Value}(hx:VRel w G.im (.map k v) x mv):
 ∃z w',(Instr.range id mv).run P w=.ok z w'/\Res P fr free self σ w G ⟨.obj self 0,[(self,some (.it k v x))]⟩ z w':=by
 obtain⟨a,b,hu,_,_⟩:=hl.map
 obtain⟨m,rfl⟩:∃m,mv=.map m:=by
  obtain⟨c,hc,r',rfl,_⟩:=hx;have e1:[Value.map r']=[mv]:=hc;exact⟨r',(A5.1 e1).symm⟩
 obtain⟨it,hrun,hit⟩:∃it,(Instr.range id (.map m)).run P w=.ok (.pointer (some ⟨w.heap.size,0,none⟩)) (w.alloc it)/\ItAt w G.im k v x it:=by
  cases m with
  |none=>exact⟨_,run_range_nilMap w id a b hu,none,hx,.inl ⟨rfl,rfl⟩⟩
  |some mb=>
   have hx':=hx;obtain⟨c,hc,r',rfl,_,hsome⟩:=hx';have e1:[Value.map r']=[Value.map (some mb)]:=hc;have e2:=A5.1 e1;cases e2;obtain⟨_,ents,clock,h1,_⟩:=hsome mb rfl;exact⟨_,run_range_map w id a b mb ents clock hu h1,some mb,hx,.inr ⟨mb,ents,clock,rfl,rfl,h1⟩⟩
 let G':Gh:=G.addVal self 0 (.pointer (some ⟨w.heap.size,0,none⟩))
 have hval:G'.val self 0=some (.pointer (some ⟨w.heap.size,0,none⟩)):=by simp[G',Gh.addVal]
 obtain⟨g1,g2⟩:=hm.new (w':=w.alloc it) (G':=G') (o':=.it k v x) hself rfl rfl rfl rfl (λ_ _ h=>h) (λ_ _ h=>.inl h) rfl
  (λj hj=>⟨rfl,rfl,λg=>by simp [G',Gh.addVal,hj]⟩) (λhn hle=>⟨⟨w.heap.size,it,hval,hn,hit.ext hle.ext,
   λh=>absurd (hm.after.inO _ h) (AH _),λo h=>absurd (hm.after.inC _ _ h) (AH _),hm.owned_new⟩,by intro b' hb';simp[Bk,hval]at hb';exact hb'.symm⟩)
 exact⟨_,_,hrun,G',g1,g2,_,rfl,_,hval,rfl,rfl⟩
end
section
variable{P:Program}{fr:Fr}{free free':Nat→Prop}{self:Nat}{σ σ':Nat→Option Obj}{w w':World}{G G':Gh}{I:Im}
theorem MemS.back(hm:MemS P fr free σ w G){k b:Nat}{t:Ty}{c:SV}(hbox:G.box k=some (b,t)){wr:Bool}(ho:ObjOK P fr w G k (.box t c wr))(hb:∀j o',σ j=some o'->¬Bk G j o' b):
 MemS P fr free (EK σ [(k,some (.box t c wr))]) w G:=by
 have hblk:∀{b'},Bk G k (.box t c wr) b'->b=b':=by intro b' h;simpa[Bk,hbox]using h
 refine⟨λj o h=>?_,λi j o1 o2 b' hi hj hbi hbj=>?_,hm.after,λj hj=>?_⟩
 .rw[FK]at h;by_cases e:j=k
  .rw[if_pos e]at h;cases h;subst e;exact ho
  .rw[if_neg e]at h;exact hm.objs j o h
 .rw[FK]at hi hj;by_cases e1:i=k<;>by_cases e2:j=k
  .rw[e1,e2]
  .exfalso;rw[if_pos e1]at hi;rw[if_neg e2]at hj;cases hi;subst e1;have:=hblk hbi;subst this;exact hb j o2 hj hbj
  .exfalso;rw[if_neg e1]at hi;rw[if_pos e2]at hj;cases hj;subst e2;have:=hblk hbj;subst this;exact hb i o1 hi hbi
  .rw[if_neg e1]at hi;rw[if_neg e2]at hj;exact hm.sep i j o1 o2 b' hi hj hbi hbj
 .have hf:=hm.fresh j hj;refine⟨?_,hf.2⟩;rw[FK,if_neg (λe=>?_)]
  .exact hf.1
  .subst e;rw[hf.2.2.1]at hbox;cases hbox
theorem MemS.backO(hm:MemS P fr free σ w G){k:Nat}{o:Obj}(ho:ObjOK P fr w G k o)(hnf:¬free k)(hb:∀b,Bk G k o b->∀j o',σ j=some o'->¬Bk G j o' b):
 MemS P fr free (EK σ [(k,some o)]) w G:=by
 refine⟨λj o' h=>?_,λi j o1 o2 b' hi hj hbi hbj=>?_,hm.after,λj hj=>?_⟩
 .rw[FK]at h;by_cases e:j=k
  .rw[if_pos e]at h;cases h;subst e;exact ho
  .rw[if_neg e]at h;exact hm.objs j o' h
 .rw[FK]at hi hj;by_cases e1:i=k<;>by_cases e2:j=k
  .rw[e1,e2]
  .exfalso;rw[if_pos e1]at hi;rw[if_neg e2]at hj;cases hi;subst e1;exact hb _ hbi j o2 hj hbj
  .exfalso;rw[if_neg e1]at hi;rw[if_pos e2]at hj;cases hj;subst e2;exact hb _ hbj i o1 hi hbi
  .rw[if_neg e1]at hi;rw[if_neg e2]at hj;exact hm.sep i j o1 o2 b' hi hj hbi hbj
 .have hf:=hm.fresh j hj;refine⟨?_,hf.2⟩;rw[FK,if_neg (λe=>?_)]
  .exact hf.1
  .subst e;exact hnf hj
def BoxArgs(G:Gh):List Sh->List SV->List Value->Prop
 | .box c::ps,s::ss,v::vs=>(∃k u b,s=.ptr k [] u/\G.box k=some (b,c.ty)/\v=.pointer (some ⟨b,0,none⟩))/\BoxArgs G ps ss vs
 | .bld _ false::ps,s::ss,v::vs=>(∃k u b,s=.ptr k [] u/\G.box k=some (b,GG)/\v=.pointer (some ⟨b,0,none⟩))/\BoxArgs G ps ss vs
 | .io _ t::ps,s::ss,v::vs=>((∃k,s=.obj k 0/\G.val k 0=some v/\G.ety k=some t)\/(s=.nilS/\v=.slice none 0 0))/\BoxArgs G ps ss vs
 |_::ps,_::ss,_::vs=>BoxArgs G ps ss vs
 |_,_,_=>True
theorem A9n:∀{ps:List Sh} {ss:List SV} {vals:List Value} {r:TupR (ps.filter EU)} {n:Nat} {bs:List Nat} {free:Nat->Prop},MemS P fr free σ w G->ss.length=ps.length->vals.length=ps.length->
 BoxArgs G ps ss vals->ShL P w G.im (ps.filter EU) r (FT ps vals) bs->bs.Nodup->
 (∀b∈bs,fr.owned b/\∀j o,σ j=some o->¬Bk G j o b)->(∀k,n<=k->k<n+FM (ps.filter EU)->free k)->
 ∃G',Made P fr free σ w G n (n+FM (ps.filter EU)) (HI ps ss (F5 (ps.filter EU) r n)) bs G':=by
 intro ps;induction ps with
 |nil=>
  intro ss vals r n bs free hm _ _ _ h _ _ _;obtain⟨_,rfl⟩:=h;have:HI [] ss (F5 ([]:List Sh) r n)=[]:=by cases ss<;>rfl
  refine⟨G,?_⟩;show Made P fr free σ w G n n (HI [] ss (F5 ([]:List Sh) r n)) [] G;rw[this];exact Made.none hm
 |cons p ps ih=>
  intro ss vals r n bs free hm hls hlv hba h hnd hbs hfree;cases ss with
  |nil=>cases hls
  |cons s ss=>
   cases vals with
   |nil=>cases hlv
   |cons v vals=>
    cases p with
    |box c=>
     obtain⟨⟨k,u,b,rfl,hbox,rfl⟩,hba'⟩:=hba
     have hsplit:∃(x:c.T) (r':TupR (ps.filter EU)) (b1 b2:List Nat),bs=b1++b2/\ShC P w G.im (.box c) x [.pointer (some ⟨b,0,none⟩)] b1/\ShL P w G.im (ps.filter EU) r' (FT ps vals) b2/\
      F5 ((Sh.box c::ps).filter EU) r n=F7 (.box c) x n::F5 (ps.filter EU) r' (n+(c.cnt+1)):=by
      have h:ShL P w G.im ([Sh.box c]++ps.filter EU) r ([.pointer (some ⟨b,0,none⟩)]++FT ps vals) bs:=h;obtain⟨b1,b2,e1,h1,h2⟩:=h.split rfl;obtain⟨v',e2,h3⟩:=h1;have e2:Value.pointer (some ⟨b,0,none⟩)=v':=by injection e2
      subst e2;refine⟨_,_,b1,b2,e1,h3,h2,?_⟩;exact TW (a:=[Sh.box c]) (b:=ps.filter EU) (x:=r) (n:=n)
     obtain⟨x,r',b1,b2,rfl,h1,h2,h3⟩:=hsplit;have hnd':=BA.1 hnd;have hcnt:FM ((Sh.box c::ps).filter EU)=c.cnt+1+FM (ps.filter EU):=rfl;rw[hcnt]at hfree ⊢;obtain⟨G1,m1⟩:=ih (n:=n+(c.cnt+1)) hm (by simpa using hls) (by simpa using hlv) hba' h2 hnd'.2.1 (λb hb=>hbs b (AT _ hb)) (λk h1 h2=>hfree k o5 o5);obtain⟨b0,cells,el,bs',e1,rfl,q1,q2,q3,q4,q5,hlay⟩:=h1
     have hb0:b0=b:=by
      injection e1 with e1 _;injection e1 with e1;injection e1 with e1;injection e1 with e1 _ _;exact e1.symm
     subst hb0;have hndc:=B7.1 hnd'.1
     have hfr:∀b'∈b0::bs',fr.owned b'/\∀j o,EK σ (HI ps ss (F5 (ps.filter EU) r' (n+(c.cnt+1)))) j=some o->¬Bk G1 j o b':=λb' hb'=>
      ⟨(hbs b' (AS _ hb')).1,λj o ho hb2=>by
       rcases m1.own j o b' ho hb2 with h|⟨j',o',h3,h4⟩
       .exact hnd'.2.2 b' hb' b' h rfl
       .exact(hbs b' (AS _ hb')).2 j' o' h3 h4⟩
     obtain⟨G2,m2,r2,f2⟩:=K7 (s:=c) (x:=x) (n:=n+1) m1.mem (by rw[m1.im];exact q3) hndc.2 (λb' hb'=>hfr b' (AD _ hb')) (λk h1 h2=>⟨hfree k o5 o5,o5⟩);have him:G2.im=G.im:=m2.im.trans m1.im;have hle:=m1.le.trans m2.le;have hbox2:G2.box k=some (b0,c.ty):=hle.box _ _ hbox
     have hno:∀j o',EK (EK σ (HI ps ss (F5 (ps.filter EU) r' (n+(c.cnt+1))))) (F7 c x (n+1)).obs j=some o'->¬Bk G2 j o' b0:=by
      intro j o' ho hb2;rcases m2.own j o' b0 ho hb2 with h|⟨j',o2,h3,h4⟩
      .exact hndc.1 h
      .exact(hfr b0 AI).2 j' o2 h3 h4
     have hback:=m2.mem.back (wr:=true) (k:=k) (b:=b0) (t:=c.ty) (c:=(F7 c x (n+1)).sv) hbox2
      ⟨b0,cells,el,hbox2,q1,q2,f2,r2,⟨λ_ o=>by rw[him];exact q4 o,λh=>oe⟩,by rw[him];exact q5,(hfr b0 AI).1,hlay⟩ hno
     have eobs:HI (.box c::ps) (.ptr k [] u::ss) (F5 ((Sh.box c::ps).filter EU) r n)=
      ([(k,some (.box c.ty (F7 c x (n+1)).sv true))]++(F7 c x (n+1)).obs)++HI ps ss (F5 (ps.filter EU) r' (n+(c.cnt+1))):=by
      rw[h3];rfl
     refine⟨G2,hle,him,?_,?_⟩
     .rw[eobs,FW,FW];exact hback.shrink λj hj=>⟨⟨hj.1,λe=>hj.2 ⟨o5,o5⟩⟩,λe=>hj.2 ⟨o5,o5⟩⟩
     .intro j o b' hj hb';rw[eobs,FW,FW,FK]at hj;by_cases e:j=k
      .rw[if_pos e]at hj;cases hj;subst e;simp only[Bk,hbox2,BD,AM]at hb';subst hb';exact .inl (AS _ AI)
      .rw[if_neg e]at hj;rcases m2.own j o b' hj hb' with h|⟨j',o',h3,h4⟩
       .exact .inl (AS _ (AD _ h))
       .rcases m1.own j' o' b' h3 h4 with h|h
        .exact .inl (AT _ h)
        .exact .inr h
    |io el t=>
     obtain⟨hs,hba'⟩:=hba
     have hsplit:∃(x:List t.T) (r':TupR (ps.filter EU)) (b1 b2:List Nat),bs=b1++b2/\ShC P w G.im (.io el t) x [v] b1/\ShL P w G.im (ps.filter EU) r' (FT ps vals) b2/\
      F5 ((Sh.io el t::ps).filter EU) r n=F7 (.io el t) x n::F5 (ps.filter EU) r' (n+1):=by
      have h:ShL P w G.im ([Sh.io el t]++ps.filter EU) r ([v]++FT ps vals) bs:=h;obtain⟨b1,b2,e1,h1,h2⟩:=h.split rfl;obtain⟨v',e2,h3⟩:=h1;have e2:v=v':=by injection e2
      subst e2;exact⟨_,_,b1,b2,e1,h3,h2,TW (a:=[Sh.io el t]) (b:=ps.filter EU) (x:=r) (n:=n)⟩
     obtain⟨x,r',b1,b2,rfl,h1,h2,h3⟩:=hsplit;have hnd':=BA.1 hnd;have hcnt:FM ((Sh.io el t::ps).filter EU)=1+FM (ps.filter EU):=rfl;rw[hcnt]at hfree ⊢;obtain⟨G1,m1⟩:=ih (n:=n+1) hm (by simpa using hls) (by simpa using hlv) hba' h2 hnd'.2.1 (λb hb=>hbs b (AT _ hb)) (λk h1 h2=>hfree k o5 o5)
     have hfr:∀b'∈b1,fr.owned b'/\∀j o,EK σ (HI ps ss (F5 (ps.filter EU) r' (n+1))) j=some o->¬Bk G1 j o b':=λb' hb'=>
      ⟨(hbs b' (AS _ hb')).1,λj o ho hb2=>by
       rcases m1.own j o b' ho hb2 with h|⟨j',o',h3,h4⟩
       .exact hnd'.2.2 b' hb' b' h rfl
       .exact(hbs b' (AS _ hb')).2 j' o' h3 h4⟩
     rcases hs with⟨k,rfl,hval,hety⟩|⟨rfl,rfl⟩
     .have hval1:=m1.le.val _ _ _ hval;have hety1:=m1.le.ety _ _ hety
      have hsl:SlOK fr w G1.im el t x true v/\∀b',Bk G1 k (.sl el t x 0 true) b'->b'∈b1:=by
       rw[m1.im];rcases h1 with⟨e1,e2,rfl⟩|⟨b',cap,cells,e1,rfl,q1,q2,q3,q4,q5,q6,q7⟩
       .have e1:v=.slice none 0 0:=by injection e1
        subst e1;exact⟨.inl ⟨rfl,e2⟩,λb' hb'=>by simp[Bk,hval1]at hb'⟩
       .have e1:v=.slice (some ⟨b',0,none⟩) x.length cap:=by injection e1
        subst e1;refine⟨.inr ⟨b',cap,cells,rfl,q1,q2,q3,q4,(hfr b' oc).1,q5,q6,q7⟩,λb2' hb'=>?_⟩;simp only[Bk,hval1,AM]at hb';subst hb';simp
      have hback:=m1.mem.backO (k:=k) (o:=.sl el t x 0 true) ⟨hety1,v,hval1,hsl.1⟩ (λhf=>by
       have:=(hm.fresh k hf.1).2.1;rw[hety]at this;cases this) (λb' hb' j o' ho'=>(hfr b' (hsl.2 b' hb')).2 j o' ho')
      have eobs:HI (.io el t::ps) (.obj k 0::ss) (F5 ((Sh.io el t::ps).filter EU) r n)=[(k,some (.sl el t x 0 true))]++HI ps ss (F5 (ps.filter EU) r' (n+1)):=by
       rw[h3];rfl
      refine⟨G1,m1.le,m1.im,?_,?_⟩
      .rw[eobs,FW];exact hback.shrink λj hj=>⟨hj.1,λe=>hj.2 ⟨o5,o5⟩⟩
      .intro j o b' hj hb';rw[eobs,FW,FK]at hj;by_cases e:j=k
       .rw[if_pos e]at hj;cases hj;subst e;exact .inl (AS _ (hsl.2 b' hb'))
       .rw[if_neg e]at hj;rcases m1.own j o b' hj hb' with h|h
        .exact .inl (AT _ h)
        .exact .inr h
     .have eobs:HI (.io el t::ps) (.nilS::ss) (F5 ((Sh.io el t::ps).filter EU) r n)=HI ps ss (F5 (ps.filter EU) r' (n+1)):=by
       rw[h3];rfl
      refine⟨G1,m1.le,m1.im,?_,?_⟩
      .rw[eobs];exact m1.mem.shrink λj hj=>⟨hj.1,λe=>hj.2 ⟨o5,o5⟩⟩
      .intro j o b' hj hb';rw[eobs]at hj;rcases m1.own j o b' hj hb' with h|h
       .exact .inl (AT _ h)
       .exact .inr h
    |bld el c0=>
     cases c0 with
     |true=>exact ih hm (by simpa using hls) (by simpa using hlv) hba h hnd hbs hfree
     |false=>
     obtain⟨⟨k,u,b,rfl,hbox,rfl⟩,hba'⟩:=hba
     have hsplit:∃(x:List Int) (r':TupR (ps.filter EU)) (b1 b2:List Nat),bs=b1++b2/\ShC P w G.im (.bld el false) x [.pointer (some ⟨b,0,none⟩)] b1/\ShL P w G.im (ps.filter EU) r' (FT ps vals) b2/\
      F5 ((Sh.bld el false::ps).filter EU) r n=F7 (.bld el false) x n::F5 (ps.filter EU) r' (n+2):=by
      have h:ShL P w G.im ([Sh.bld el false]++ps.filter EU) r ([.pointer (some ⟨b,0,none⟩)]++FT ps vals) bs:=h;obtain⟨b1,b2,e1,h1,h2⟩:=h.split rfl;obtain⟨v',e2,h3⟩:=h1;have e2:Value.pointer (some ⟨b,0,none⟩)=v':=by injection e2
      subst e2;refine⟨_,_,b1,b2,e1,h3,h2,?_⟩;exact TW (a:=[Sh.bld el false]) (b:=ps.filter EU) (x:=r) (n:=n)
     obtain⟨x,r',b1,b2,rfl,h1,h2,h3⟩:=hsplit;have hnd':=BA.1 hnd;have hcnt:FM ((Sh.bld el false::ps).filter EU)=2+FM (ps.filter EU):=rfl;rw[hcnt]at hfree ⊢;obtain⟨G1,m1⟩:=ih (n:=n+2) hm (by simpa using hls) (by simpa using hlv) hba' h2 hnd'.2.1 (λb hb=>hbs b (AT _ hb)) (λk h1 h2=>hfree k o5 o5);obtain⟨b0,cells,el',p,q,bs',e1,rfl,q1,hlay,q2,hp,q4,q5,q6⟩:=h1
     have hb0:b0=b:=by
      injection e1 with e1 _;injection e1 with e1;injection e1 with e1;injection e1 with e1 _ _;exact e1.symm
     subst hb0;have hndc:=B7.1 hnd'.1
     have hfr:∀b'∈b0::bs',fr.owned b'/\∀j o,EK σ (HI ps ss (F5 (ps.filter EU) r' (n+2))) j=some o->¬Bk G1 j o b':=λb' hb'=>
      ⟨(hbs b' (AS _ hb')).1,λj o ho hb2=>by
       rcases m1.own j o b' ho hb2 with h|⟨j',o',h3,h4⟩
       .exact hnd'.2.2 b' hb' b' h rfl
       .exact(hbs b' (AS _ hb')).2 j' o' h3 h4⟩
     have hown:ShC P w G1.im (.own el (.int .u8) true) x [q] bs':=by
      rw[m1.im];rcases q6 with⟨rfl,k1,k2⟩|⟨g,cap,gc,rfl,k1,k2,k3,k4,k5,k6,k7⟩
      .exact .inl ⟨rfl,k1,k2⟩
      .exact .inr ⟨g,cap,gc,rfl,k1,k2,k3,k4,k5,(λ_=>k6),(λh=>oe),k7⟩
     obtain ⟨G2,m2,r2,f2⟩:=YC (n:=n+1) m1.mem hown (λb' hb'=>hfr b' (AD _ hb')) (λk h1 h2=>by
      have h2:k<n+1+1:=h2;exact⟨hfree k o5 o5,o5⟩)
     have hcnt2:(Sh.own el (.int .u8) true).cnt=1:=rfl;rw[hcnt2]at m2;have him:G2.im=G.im:=m2.im.trans m1.im;have hle:=m1.le.trans m2.le;have hbox2:G2.box k=some (b0,GG):=hle.box _ _ hbox
     have hno:∀j o',EK (EK σ (HI ps ss (F5 (ps.filter EU) r' (n+2)))) (F7 (.own el (.int .u8) true) x (n+1)).obs j=some o'->¬Bk G2 j o' b0:=by
      intro j o' ho hb2;rcases m2.own j o' b0 ho hb2 with h|⟨j',o2,h3,h4⟩
      .exact hndc.1 h
      .exact(hfr b0 AI).2 j' o2 h3 h4
     have hsz:cells.size=2:=by rw[<-BR,q2];rfl
     have hback:=m2.mem.back (wr:=true) (k:=k) (b:=b0) (t:=GG) (c:=.pr (.slf k) (.obj (n+1) 0)) hbox2
      ⟨b0,cells,el',hbox2,q1,hsz,⟨_,_,rfl,rfl,f2⟩,⟨[p],[q],q2,⟨b0,GG,hbox2,by rcases hp with rfl|rfl<;>simp⟩,r2⟩,⟨λ_ o=>by rw[him];exact q4 o,λh=>oe⟩,by rw[him];exact q5,(hfr b0 AI).1,λ_=>hlay⟩ hno
     have eobs:HI (.bld el false::ps) (.ptr k [] u::ss) (F5 ((Sh.bld el false::ps).filter EU) r n)=
      ([(k,some (.box GG (.pr (.slf k) (.obj (n+1) 0)) true))]++(F7 (.own el (.int .u8) true) x (n+1)).obs)++HI ps ss (F5 (ps.filter EU) r' (n+2)):=by
      rw[h3];rfl
     refine⟨G2,hle,him,?_,?_⟩
     .rw[eobs,FW,FW];exact hback.shrink λj hj=>⟨⟨hj.1,λe=>hj.2 ⟨o5,o5⟩⟩,λe=>hj.2 ⟨o5,o5⟩⟩
     .intro j o b' hj hb';rw[eobs,FW,FW,FK]at hj;by_cases e:j=k
      .rw[if_pos e]at hj;cases hj;subst e;simp only[Bk,hbox2,BD,AM]at hb';subst hb';exact .inl (AS _ AI)
      .rw[if_neg e]at hj;rcases m2.own j o b' hj hb' with h|⟨j',o',h3,h4⟩
       .exact .inl (AS _ (AD _ h))
       .rcases m1.own j' o' b' h3 h4 with h|h
        .exact .inl (AT _ h)
        .exact .inr h
    |_=>exact ih hm (by simpa using hls) (by simpa using hlv) hba h hnd hbs hfree
end
theorem DV.rel{w:World}{ow:Nat->Prop}{I I':Im}{t:Ty}(e:Ext w I w I'):∀{ids:List Nat} {x:(E4 ids t).T} {cs:List Value} {bs:List Nat},DV ow w I t ids x none cs bs->
 (∀b∈bs,∀off,I'.cell b off)->Rel w I' (E4 ids t) x cs:=by
 intro ids;induction ids with
 |nil=>intro x cs bs h _;exact Rel.ext e h.2
 |cons id r ih=>
  intro x cs bs h hb;obtain⟨v,rfl,h1,h2⟩:=h;rcases h2 with⟨h2,_⟩|⟨_,rfl,h3,_⟩|⟨h2,b,o,cap,cells,bss,rfl,q1,q2,q3,q4,q5,q6,q7,rfl,q9⟩
  .cases h2
  .have h3:(show List (E4 r t).T from x)=[]:=h3;refine⟨none,0,by rw[h3];rfl,by rw[h3];exact⟨AB _,BQ _⟩,λ_=>⟨h3,rfl⟩,λad h=>oe⟩
  .refine⟨some ⟨b,o,none⟩,cap,rfl,q1,(λh=>oe),λad had=>?_⟩;cases had;refine⟨λ_=>rfl,λi y hy=>?_⟩;have hr:=ih (q9 i y hy) λb' hb'=>hb b' (AD _ (TP hb'));exact⟨_,⟨hr.length,λj hj=>⟨hb b AI _,XV q2 j hj⟩⟩,hr⟩
theorem iM:∀(a b:List Sh),FM (a++b)=FM a+FM b:=by
 intro a b;induction a with
 |nil=>simp[FM]
 |cons s a ih=>simp only[List.cons_append,FM,ih];omega
section
variable{P:Program}{fr:Fr}{free free':Nat->Prop}{self:Nat}{σ σ':SSo}{w w':World}{G G':Gh}{I:Im}
theorem BoxArgs.mono:∀{l:List Sh} {ss:List SV} {vs:List Value},BoxArgs G l ss vs->(∀k b,G.box k=some b->G'.box k=some b)->(∀k g v,G.val k g=some v->G'.val k g=some v)->(∀k t,G.ety k=some t->G'.ety k=some t)->BoxArgs G' l ss vs:=by
 intro l;induction l with
 |nil=>intro ss vs _ _ _ _;cases ss<;>exact trivial
 |cons a l ih=>
  intro ss vs h hb hv he;cases ss with
  |nil=>cases a<;>first|exact trivial|(rename_i el0 c0;cases c0<;>exact trivial)
  |cons s ss=>
   cases vs with
   |nil=>cases a<;>first|exact trivial|(rename_i el0 c0;cases c0<;>exact trivial)
   |cons v vs=>
    cases a with
    |box c=>
     obtain⟨⟨k,u,b,h1,h2,h3⟩,h4⟩:=h;exact⟨⟨k,u,b,h1,hb _ _ h2,h3⟩,ih h4 hb hv he⟩
    |io el t=>
     obtain⟨h1,h2⟩:=h;refine⟨h1.imp (λ⟨k,e1,e2,e3⟩=>⟨k,e1,hv _ _ _ e2,he _ _ e3⟩) id,ih h2 hb hv he⟩
    |bld el c=>
     cases c with
     |true=>exact ih h hb hv he
     |false=>
      obtain⟨⟨k,u,b,h1,h2,h3⟩,h4⟩:=h;exact⟨⟨k,u,b,h1,hb _ _ h2,h3⟩,ih h4 hb hv he⟩
    |_=>exact ih h hb hv he
theorem vF(hm:MemS P fr free σ w G){fs:Nat->Option FSpec}:∀{l:List Sh} {svs:List SV} {x:TupR l} {vs:List Value},LW fs σ l svs=some x->
 (∀(j:Nat) (s:SV) (v:Value),svs[j]?=some s->vs[j]?=some v->SR P w G s v)->BoxArgs G l svs vs:=by
 intro l;induction l with
 |nil=>intro svs x vs _ _;cases svs<;>exact trivial
 |cons a l ih=>
  intro svs x vs h hs;cases svs with
  |nil=>cases a<;>first|exact trivial|(rename_i el0 c0;cases c0<;>exact trivial)
  |cons s svs=>
   cases vs with
   |nil=>cases a<;>first|exact trivial|(rename_i el0 c0;cases c0<;>exact trivial)
   |cons v vs=>
    have h0:=hs 0 s v rfl rfl
    have hrest:BoxArgs G l svs vs:=by
     cases l with
     |nil=>cases svs<;>exact trivial
     |cons b l=>
      rw[TU]at h;split at h
      .rename_i x1 x2 h1 h2;exact ih h2 (λj s v h1 h2=>hs (j+1) s v ot oq)
      .cases h
    have hfirst:∃y,PV fs σ a s=some y:=by
     cases l with
     |nil=>
      cases svs with
      |nil=>exact⟨x,h⟩
      |cons _ _=>cases h
     |cons b l=>
      rw[TU]at h;split at h
      .rename_i x1 x2 h1 h2;exact⟨x1,h1⟩
      .cases h
    cases a with
    |box c=>
     refine⟨?_,hrest⟩;obtain⟨y,hy⟩:=hfirst;have hy:PU σ c s=some y:=hy;unfold PU at hy;split at hy
     .rename_i k u;split at hy
      .rename_i t cv hk;cases hts:t.same c.ty with
       |false=>rw[hts]at hy;cases hy
       |true=>
        have et:=Ty.same_eq hts;subst et;obtain⟨b,cells,el,k1,k2,_⟩:=hm.objs _ _ hk;obtain⟨cc,hc,b',t',o,j1,j2,_,j4⟩:=h0;rw[k1]at j1;cases j1
        have ho:o=0:=by
         have:Ty.off c.ty []=some o:=j2;cases hc:c.ty<;>rw[hc]at this<;>exact(A3 this).symm
        subst ho;have hv:[v]=[Value.pointer (some ⟨b,0,none⟩)]:=(show cc=[v]from hc).symm.trans j4;exact⟨_,_,b,rfl,k1,A5.1 hv⟩
      .cases hy
     .cases hy
    |io el t=>
     refine⟨?_,hrest⟩;obtain⟨y,hy⟩:=hfirst
     replace hy:JJ σ el t true s=some y:=hy
     unfold JJ at hy;split at hy
     .rename_i k g;split at hy
      .rename_i id' t' xs g' w1 hk;cases hb:(Nat.beq g 0&&Nat.beq g g'&&(Nat.beq el id'&&(bif true then w1 else !w1)))with
       |false=>rw[hb]at hy;cases hy
       |true=>
        rw[hb]at hy;have hy:Ty.cast? (.slice t') (.slice t) xs=some y:=hy;simp only[A4]at hb;have e0:=A2 hb.1.1;have e1:=A2 hb.1.2;subst e0 e1;obtain⟨et,_⟩:=Ty.cast?_some hy;have et':t'=t:=by injection et
        subst et';obtain⟨k1,v',k2,_⟩:=hm.objs _ _ hk;have hv:=ML h0;exact .inl ⟨k,rfl,hv,k1⟩
      .cases hy
     .obtain⟨cc,hc,h1⟩:=h0;have h1:cc=[.slice none 0 0]:=h1;have hv:v=.slice none 0 0:=A5.1 ((show cc=[v]from hc).symm.trans h1);exact .inr ⟨rfl,hv⟩
     .cases hy
    |bld el c=>
     cases c with
     |true=>exact hrest
     |false=>
     refine⟨?_,hrest⟩;obtain⟨y,hy⟩:=hfirst
     replace hy:PT σ el s=some y:=hy
     unfold PT at hy;split at hy
     .rename_i k u;split at hy
      .rename_i t cv hk;cases hts:t.same GG with
       |false=>rw[hts]at hy;cases hy
       |true=>
        have et:=Ty.same_eq hts;subst et;obtain⟨b,cells,el,k1,k2,_⟩:=hm.objs _ _ hk;obtain⟨cc,hc,b',t',o,j1,j2,_,j4⟩:=h0;rw[k1]at j1;cases j1;have ho:o=0:=(A3 j2).symm;subst ho;have hv:[v]=[Value.pointer (some ⟨b,0,none⟩)]:=(show cc=[v]from hc).symm.trans j4;exact⟨_,_,b,rfl,k1,A5.1 hv⟩
      .cases hy
     .cases hy
    |_=>exact hrest
theorem A9o{m:Mk}{vs:List Value}{rv:Value}(h:IV vs rv)(hl:vs.length=1)(hs:∀(j:Nat) (m':Mk) (v:Value),[m][j]?=some m'->vs[j]?=some v->SR P w G m'.sv v):SR P w G m.sv rv:=by
 cases vs with
 |nil=>cases hl
 |cons v vs=>
  have:vs=[]:=AJ (by simpa using hl);subst this;have h:rv=v:=h;rw[h];exact hs 0 m v rfl rfl
theorem vG{ms:List Mk}{vs:List Value}{rv:Value}(h:IV vs rv)(hl:vs.length=ms.length)(hn:ms.length≠1)(hs:∀(j:Nat) (m':Mk) (v:Value),ms[j]?=some m'->vs[j]?=some v->SR P w G m'.sv v):
 SR P w G (.tup (SV.ofList (ms.map (·.sv)))) rv:=by
 have hrv:rv=.tuple vs.toArray:=by
  cases vs with
  |nil=>exact h
  |cons v vs=>
   cases vs with
   |nil=>exact absurd hl.symm hn
   |cons _ _=>exact h
 rw[hrv];refine⟨_,rfl,vs.toArray,rfl,?_⟩;refine uR (by simp[hl]) λj s v h1 h2=>?_;rw[AV]at h1;cases hm:ms[j]? with
 |none=>rw[hm]at h1;cases h1
 |some m=>
  rw[hm]at h1;cases h1;exact hs j m v hm h2
def iN(ms:List Mk):SV:=match ms with
 |[m]=>m.sv
 |_=>.tup (SV.ofList (ms.map (·.sv)))
theorem vH{ms:List Mk}{vs:List Value}{rv:Value}(h:IV vs rv)(hl:vs.length=ms.length)(hs:∀(j:Nat) (m':Mk) (v:Value),ms[j]?=some m'->vs[j]?=some v->SR P w G m'.sv v):SR P w G (iN ms) rv:=by
 cases ms with
 |nil=>exact vG h hl oc hs
 |cons m ms=>
  cases ms with
  |nil=>exact A9o h hl hs
  |cons m2 ms=>exact vG h hl oc hs
def HY(σ:SSo)(G:Gh):Im:=
 ⟨λb o=>G.im.cell b o\/(∃ k t c,σ k=some (.box t c true)/\G.box k=some (b,t)/\o<t.sz)\/(∃ k id t xs g,σ k=some (.sl id t xs g true)/\Bk G k (.sl id t xs g true) b/\o<xs.length*t.sz)\/∃ k ids t x gk,σ k=some (.dp ids t x gk none true)/\Bk G k (.dp ids t x gk none true) b,
  λb=>G.im.obj b\/∃k a c es,σ k=some (.mp a c es true)/\Bk G k (.mp a c es true) b⟩
theorem IW(w:World):Ext w G.im w (HY σ G):=⟨λ_ _ h=>⟨.inl h,rfl⟩,λ_ h=>⟨.inl h,rfl⟩⟩
theorem vI{b o:Nat}(h:(HY σ G).cell b o):G.im.cell b o\/∃k ob,σ k=some ob/\Bk G k ob b:=by
 rcases h with h|⟨k,t,c,h1,h2,_⟩|⟨k,id,t,xs,g,h1,h2,_⟩|⟨k,ids,t,x,gk,h1,h2⟩
 .exact .inl h
 .exact .inr ⟨k,_,h1,by simp[Bk,h2]⟩
 .exact .inr ⟨k,_,h1,h2⟩
 .exact .inr ⟨k,_,h1,h2⟩
theorem vJ{b:Nat}(h:(HY σ G).obj b):G.im.obj b\/∃k ob,σ k=some ob/\Bk G k ob b:=by
 rcases h with h|⟨k,a,c,es,h1,h2⟩
 .exact .inl h
 .exact .inr ⟨k,_,h1,h2⟩
theorem vK(hm:MemS P fr free σ w G):GM w (HY σ G):=by
 refine⟨λb o h=>?_,λb h=>?_,hm.after.pins.ext (IW w)⟩
 .rcases vI h with h|⟨k,ob,h1,h2⟩
  .exact hm.after.mem.1 b o h
  .exact HP (hm.objs _ _ h1) h2
 .rcases vJ h with h|⟨k,ob,h1,h2⟩
  .exact hm.after.mem.2.1 b h
  .exact HP (hm.objs _ _ h1) h2
theorem vL(hm:MemS P fr free σ w G){k g:Nat}{t:Ty}{x:t.T}{v:Value}(h:T7 σ k g t=some x)(hv:G.val k g=some v):Rel w (HY σ G) t x [v]:=by
 unfold T7 at h;split at h
 .rename_i id e xs g' wr hk;split at h
  .rename_i hg;have hgg:=A2 hg;subst hgg;obtain⟨_,v',h1,h2⟩:=hm.objs _ _ hk;rw[hv]at h1;cases h1;cases wr with
   |false=>exact Rel.cast h ((gZ h2).ext (IW w))
   |true=>
    refine Rel.cast h ?_;rcases h2 with⟨rfl,rfl⟩|⟨b,cap,cs,rfl,q1,q2,q3,q4,q5,q6,q7,q8⟩
    .exact⟨none,0,rfl,⟨AB _,BQ _⟩,λ_=>⟨rfl,rfl⟩,λad h=>oe⟩
    .refine⟨some ⟨b,0,none⟩,cap,rfl,q1,(λh=>oe),λad had=>?_⟩;cases had;refine⟨λ_=>rfl,λi y hy=>⟨_,⟨?_,λj hj=>?_⟩,(q4 i y hy).ext (IW w)⟩⟩
     .exact(q4 i y hy).length
     .have hi:i<xs.length:=(A8.1 hy).1
      have hb:i*e.sz+j<xs.length*e.sz:=by
       have:(i+1)*e.sz<=xs.length*e.sz:=B1 _ hi;rw[C8]at this;omega
      refine⟨.inr (.inr (.inl ⟨k,id,e,xs,g,hk,by simp[Bk,hv],by simpa using hb⟩)),?_⟩;rw[AK,if_pos hj,AR,<-q2.cell];simp only[B8]
  .cases h
 .rename_i a b es wr hk;split at h
  .rename_i hg;have hgg:=A2 hg;subst hgg;obtain⟨v',h1,b',ents,clock,rfl,q1,q2,q3,q4,_⟩:=hm.objs _ _ hk;rw[hv]at h1;cases h1;refine Rel.cast h ⟨some b',rfl,(λh=>oe),λb2 hb2=>?_⟩;cases hb2;refine⟨?_,ents,clock,q1,q2,λi x e hx he=>⟨(q3 i x e hx he).1.ext (IW w),(q3 i x e hx he).2.ext (IW w)⟩⟩;cases wr with
   |false=>exact .inl (q4.2 rfl)
   |true=>exact .inr ⟨k,a,b,es,hk,by simp[Bk,hv]⟩
  .cases h
 .rename_i id r e x' gk hh wr hk;split at h
  .rename_i hg;simp only[A4]at hg;have hgg:=A2 hg.1;subst hgg;cases wr with
   |false=>
    obtain⟨v',h1,h2⟩:=hm.objs _ _ hk;rw[hv]at h1;cases h1;exact Rel.cast h (Rel.ext (IW w) h2)
   |true=>
    cases hh with
    |some p=>cases hg.2
    |none=>
     obtain⟨_,_,v',us,bs,h1,h2,h3,h4,h5⟩:=DpOK.inv (hm.objs _ _ hk);rw[hv]at h1;cases h1;exact Rel.cast h (h5.rel (IW w) λb hb off=>Or.inr (Or.inr (Or.inr ⟨k,_,_,_,_,hk,rfl,us,h2,(KR h3).2 hb⟩)))
  .cases h
 .cases h
theorem A9p(hm:MemS P fr free σ w G){t:Ty}{s:SV}{x:t.T}{cs:List Value}(h:s.asLR σ t=some x)(hr:CR P w G s cs):Rel w (HY σ G) t x cs:=by
 unfold SV.asLR at h;split at h
 .obtain⟨v,h1,_,rfl⟩:=hr;exact vL hm h h1
 .exact(QS (λk o h=>hm.objs k o h) h hr).ext (IW w)
theorem vM(hm:MemS P fr free σ w G):∀{t:Ty} {s:SV} {x:t.T} {cs:List Value},s.asCR σ t=some x->CR P w G s cs->Rel w (HY σ G) t x cs:=by
 intro t;induction t with
 |prod a b iha ihb=>
  intro s x cs h hr;simp only[SV.asCR]at h;split at h
  .split at h
   .rename_i u v h1 h2;cases h;obtain⟨c,d,rfl,r1,r2⟩:=hr;exact⟨c,d,rfl,iha h1 r1,ihb h2 r2⟩
   .cases h
  .exact(QS (λk o h=>hm.objs k o h) h hr).ext (IW w)
 |agg p ih=>
  intro s x cs h hr;cases s with
  |val u y=>exact Rel.ext (IW w) (show Rel w G.im p x cs from QR (p:=p) h hr)
  |_=>exact ih h hr
 |_=>intro s x cs h hr;exact A9p hm h hr
theorem iO(hm:MemS P fr free σ w G){t:Ty}{s:SV}{x:t.T}{v:Value}(h:T8 σ t s=some x)(hr:SR P w G s v):VRel w (HY σ G) t x v:=by
 unfold T8 at h;split at h
 .rename_i e k u;split at h
  .rename_i t' c hk;cases hs:t'.same e.bare with
   |false=>rw[hs]at h;cases h
   |true=>
    rw[hs]at h;simp only[AA]at h;have et:=Ty.same_eq hs;cases hc:c.asCR σ e with
    |none=>rw[hc]at h;cases h
    |some y=>
     rw[hc]at h;cases h;obtain⟨b,cells,el,k1,k2,k3,k4,k5,_⟩:=hm.objs _ _ hk;obtain⟨cc,hcc,b',t2,o,j1,j2,_,j4⟩:=hr;rw[k1]at j1;cases j1
     have ho:o=0:=by
      have:Ty.off t' []=some o:=j2;cases hc:t'<;>rw[hc]at this<;>exact(A3 this).symm
     subst ho;have hsz:t'.sz=e.sz:=by rw[et,Ty.sz_bare]
     refine⟨cc,hcc,⟨b,0,none⟩,j4,rfl,cells.toList,⟨by rw[BR,k3,hsz],λj hj=>?_⟩,vM hm hc k5⟩;refine⟨.inr (.inl ⟨k,t',c,hk,k1,by rw[hsz];simpa using hj⟩),?_⟩;show World.cell? w ⟨b,0+j,none⟩=_;simp[World.cell?,k2]
  .cases h
 .rename_i k g;obtain⟨c,hc,v2,k3,k4,k5⟩:=hr;have:[v]=[v2]:=(show c=[v]from hc).symm.trans k5;have hv:=A5.1 this;subst hv;have hrel:=vL hm h k3;refine⟨[v],?_,hrel⟩;unfold T7 at h;split at h
  .split at h
   .exact XM h
   .cases h
  .split at h
   .exact tP h
   .cases h
  .rename_i id r e x' gk hh wr hk;split at h
   .exact XM (t:=E4 r e) h
   .cases h
  .cases h
 .rename_i u c;cases hb:u.same t with
  |false=>rw[hb]at h;cases h
  |true=>
   rw[hb]at h;have h:c.asCR σ t=some x:=h;have:=Ty.same_eq hb;subst this;obtain⟨cc,hcc,cs',h1,⟨a,b,rfl,h2⟩,h3,h4⟩:=hr;have hv:v=.agg cs'.toArray:=A5.1 ((show cc=[v]from hcc).symm.trans h1);subst hv;exact⟨cs',rfl,vM hm h h4⟩
 .obtain⟨c,h1,h2⟩:=II (λk o h=>hm.objs k o h) h hr;exact⟨c,h1,h2.ext (IW w)⟩
theorem vN(hm:MemS P fr free σ w G){s:Sh}{sv:SV}{x:s.T}{v:Value}(h:X5 σ s sv=some x)(hr:SR P w G sv v):ShV P w (HY σ G) s x v []:=by
 cases s with
 |val t=>exact⟨iO hm h hr,rfl⟩
 |_=>cases h
theorem A9q{a b:Sh}{r:List Sh}{v:SV}{vs:List SV}:QH σ (a::b::r) (v::vs)=(match X5 σ a v,QH σ (b::r) vs with
 |some x,some y=>some (x,y)
 |_,_=>none):=rfl
theorem A9r(hm:MemS P fr free σ w G):∀{l:List Sh} {svs:List SV} {x:TupR l} {vs:List Value},QH σ l svs=some x->svs.length=vs.length->
 (∀(j:Nat) (s:SV) (v:Value),svs[j]?=some s->vs[j]?=some v->SR P w G s v)->ShL P w (HY σ G) l x vs []:=by
 intro l;induction l with
 |nil=>
  intro svs x vs h hl hs;cases svs with
  |nil=>exact⟨AJ hl.symm,rfl⟩
  |cons _ _=>cases h
 |cons a l ih=>
  intro svs x vs h hl hs;cases svs with
  |nil=>cases l<;>cases h
  |cons s svs=>
   cases vs with
   |nil=>cases hl
   |cons v vs=>
    have h0:=hs 0 s v rfl rfl;cases l with
    |nil=>
     cases svs with
     |nil=>
      have:vs=[]:=AJ (by simpa using hl.symm);subst this;exact⟨v,rfl,vN hm h h0⟩
     |cons _ _=>cases h
    |cons b l=>
     rw[A9q]at h;split at h
     .rename_i x1 x2 h1 h2;cases h;exact⟨v,vs,[],[],rfl,rfl,vN hm h1 h0,ih h2 (by simpa using hl) λj s v h3 h4=>hs (j+1) s v (by simpa using h3) (by simpa using h4)⟩
     .cases h
theorem vO{I:Im}{t:Ty}{x:t.T}{v:Value}(hf:t.lit=true)(h:VRel w' I t x v):SR P w' G (.val t x) v:=by
 obtain⟨c,h1,h2⟩:=h;refine⟨c,h1,?_⟩;cases t with
 |bool=>exact h2
 |int k=>exact h2
 |str=>exact h2
 |_=>cases hf
theorem A9s{I:Im}:∀{l:List Sh} {x:TupR l} {vs:List Value} {bs:List Nat} {n:Nat},T6 l=true->ShL P w' I l x vs bs->
 (F5 l x n).length=l.length/\∀(j:Nat) (m:Mk) (v:Value),(F5 l x n)[j]?=some m->vs[j]?=some v->SR P w' G m.sv v:=by
 intro l;induction l with
 |nil=>intro x vs bs n _ _;exact⟨rfl,λj m v h=>oe⟩
 |cons a l ih=>
  intro x vs bs n hf h;cases a with
  |val t=>
   simp only[T6,A4]at hf;cases l with
   |nil=>
    obtain⟨v,rfl,h1,_⟩:=h;refine⟨rfl,λj m v' hj hv=>?_⟩;cases j with
    |zero=>cases hj;cases hv;exact vO hf.1 h1
    |succ j=>cases hj
   |cons b l=>
    obtain⟨v,vs',b1,b2,rfl,_,⟨h1,_⟩,h2⟩:=h;obtain⟨i1,i2⟩:=ih (n:=(F7 (.val t) x.1 n).nx) hf.2 h2;refine⟨by simp only[F5,AF,i1],λj m v' hj hv=>?_⟩;cases j with
    |zero=>cases hj;cases hv;exact vO hf.1 h1
    |succ j=>exact i2 j m v' (by simpa[F5]using hj) oz
  |_=>cases hf
theorem After.flat{I1 I2:Im}(ha:After (·∈([]:List Nat)) w I1 w' I2)(he:Ext w I w I1)(hm:GM w I):After (·∈([]:List Nat)) w I w' I:=
 have hx:Ext w I w' I:=⟨λb o h=>⟨h,(ha.ext.cell b o (he.cell b o h).1).2⟩,λb h=>⟨h,(ha.ext.obj b (he.obj b h).1).2⟩⟩
 ⟨hx,ha.heap,ha.size,λ_ _ h=>.inl h,λ_ h=>.inl h,
  λb o h=>B0 (hm.1 b o h) ha.size,λb h=>B0 (hm.2.1 b h) ha.size,ha.os,ha.tape,ha.output,
  hm.2.2.ext hx⟩
def YD(I I1 I2:Im):Im:=⟨λb o=>I.cell b o\/(I2.cell b o/\¬I1.cell b o),λb=>I.obj b\/(I2.obj b/\¬I1.obj b)⟩
theorem After.lend{bs:List Nat}{I1 I2:Im}(ha:After (·∈bs) w I1 w' I2)(he:Ext w I w I1)(hm:GM w I):After (·∈bs) w I w' (YD I I1 I2):=
 have hx:Ext w I w' (YD I I1 I2):=⟨λb o h=>⟨.inl h,(ha.ext.cell b o (he.cell b o h).1).2⟩,λb h=>⟨.inl h,(ha.ext.obj b (he.obj b h).1).2⟩⟩
 ⟨hx,ha.heap,ha.size,λb o h=>h.imp id λ⟨h1,h2⟩=>(ha.newC b o h1).resolve_left h2,λb h=>h.imp id λ⟨h1,h2⟩=>(ha.newO b h1).resolve_left h2,
  λb o h=>h.elim (λh=>B0 (hm.1 b o h) ha.size) λh=>ha.inC b o h.1,λb h=>h.elim (λh=>B0 (hm.2.1 b h) ha.size) λh=>ha.inO b h.1,ha.os,ha.tape,ha.output,
  hm.2.2.ext hx⟩
theorem vP{I I':Im}{t:Ty}{x:t.T}{cs:List Value}(hf:t.lit=true)(h:Rel w' I t x cs):Rel w' I' t x cs:=by
 cases t with
 |bool=>exact h
 |int k=>exact h
 |str=>exact h
 |_=>cases hf
theorem A9t{bs0:List Nat}{I I1 I2:Im}(ha:After (·∈bs0) w I1 w' I2)(he:Ext w I w I1):∀{l:List Sh} {x:TupR l} {vs:List Value} {bs:List Nat},LF l=true->ShL P w' I2 l x vs bs->ShL P w' (YD I I1 I2) l x vs bs:=by
 have one:∀{a:Sh} {x:a.T} {v:Value} {bs:List Nat},LF [a]=true->ShV P w' I2 a x v bs->ShV P w' (YD I I1 I2) a x v bs:=by
  intro a x v bs hf h;cases a with
  |val t=>
   simp only[LF,Bool.and_true]at hf;obtain⟨⟨c,h1,h2⟩,h3⟩:=h;exact⟨⟨c,h1,vP hf h2⟩,h3⟩
  |own el t wr=>
   simp only[LF,Bool.and_true,A4]at hf;obtain⟨rfl,hf⟩:=hf;rcases h with h|⟨b,cap,cells,h1,h2,h3,h4,h5,h6,h7,h8,h9⟩
   .exact .inl h
   .refine .inr ⟨b,cap,cells,h1,h2,h3,h4,h5,λi y hy=>vP hf (h6 i y hy),λ_ o ho=>?_,(λh=>oe),λho=>?_⟩
    .rcases ho with ho|ho
     .exact h7 rfl o (ha.ext.cell _ _ (he.cell _ _ ho).1).1
     .exact h7 rfl o ho.1
    .rcases ho with ho|ho
     .exact h9 (ha.ext.obj _ (he.obj _ ho).1).1
     .exact h9 ho.1
  |_=>cases hf
 intro l;induction l with
 |nil=>intro x vs bs _ h;exact h
 |cons a l ih=>
  intro x vs bs hf h
  have h1:LF [a]=true/\LF l=true:=by
   cases a<;>simp only[LF,A4,Bool.and_true]at hf ⊢<;>first|exact hf|exact⟨⟨hf.1,hf.2.1⟩,hf.2.2⟩|cases hf
  cases l with
  |nil=>
   obtain⟨v,h2,h3⟩:=h;exact⟨v,h2,one h1.1 h3⟩
  |cons b l=>
   obtain⟨v,vs',b1,b2,h2,h3,h4,h5⟩:=h;exact⟨v,vs',b1,b2,h2,h3,one h1.1 h4,ih h1.2 h5⟩
theorem A9u(hm:MemS P fr free σ w G){t:Ty}{s:SV}{x:t.T}{v:Value}(h:gJ σ t s=some x)(hr:SR P w G s v):VRel w (HY σ G) t x v:=by
 unfold gJ at h;split at h
 .rename_i y hy;cases h;exact iO hm hy hr
 .exact(iL (λk o h=>hm.objs k o h) h hr).ext (IW w)
theorem A9v(hm:MemS P fr free σ w G):∀{l:List Sh} {ss:List SV} {x:TupR l} {vs:List Value},X6 σ l ss=some x->ss.length=vs.length->
 (∀(j:Nat) (s:SV) (v:Value),ss[j]?=some s->vs[j]?=some v->SR P w G s v)->∀w' I',Ext w (HY σ G) w' I'->ShL P w' I' l x vs []:=by
 intro l;induction l with
 |nil=>
  intro ss x vs h hl _ w' I' _;cases ss with
  |nil=>exact⟨AJ hl.symm,rfl⟩
  |cons _ _=>cases h
 |cons a l ih=>
  intro ss x vs h hl hs w' I' he;cases ss with
  |nil=>cases a<;>cases h
  |cons s ss=>
   cases vs with
   |nil=>cases hl
   |cons v vs=>
    cases a<;>first|(cases h;done)|skip
    rename_i t;simp only[X6]at h;split at h
    .rename_i y z h1 h2;have h:=A3 h;subst h;refine QW ⟨(A9u hm h1 (hs 0 s v rfl rfl)).ext he,rfl⟩ (ih h2 (by simpa using hl) (λj s v h3 h4=>hs (j+1) s v (by simpa using h3) (by simpa using h4)) w' I' he)
    .cases h
theorem A9w(hm:MemS P fr free σ w G){cs:List SV}{vs:List Value}(hl:cs.length=vs.length)(hs:∀(j:Nat) (s:SV) (v:Value),cs[j]?=some s->vs[j]?=some v->SR P w G s v)
 {w':World}{I':Im}(he:Ext w (HY σ G) w' I'):∀{n:Nat} {ps:List Sh} {d:Ty} {x:d.T} {v:TupR ps} {l:List Value},T9 σ cs n ps d x=some v->ArgsV w' I' d x l->ShL P w' I' ps v (l++vs) []:=by
 intro n;induction n with
 |zero=>
  intro ps d x v l h hx;cases ps with
  |nil=>cases h
  |cons a ps=>
   cases a<;>first|(cases h;done)|skip
   rename_i t;simp only[T9]at h;cases hp:J_ d with
   |true=>rw[hp]at h;cases h
   |false=>
    rw[hp]at h;simp only[AC]at h;split at h
    .rename_i y z h1 h2;have h:=A3 h;subst h;obtain⟨u,rfl,hu⟩:=hx.one (λa b e=>by subst e;cases hp);exact QW ⟨VRel.cast h1 hu,rfl⟩ (A9v hm h2 hl hs w' I' he)
    .cases h
 |succ n ih=>
  intro ps d x v l h hx;cases ps with
  |nil=>cases h
  |cons a ps=>
   cases a<;>first|(cases h;done)|skip
   rename_i t;cases d<;>first|(cases h;done)|skip
   rename_i p q;simp only[T9]at h;split at h
   .rename_i y z h1 h2;have h:=A3 h;subst h;obtain⟨u,r,rfl,k1,k2⟩:=hx;exact QW ⟨VRel.cast h1 k1,rfl⟩ (ih h2 k2)
   .cases h
theorem A9x(hm:MemS P fr free σ w G){fs:Nat->Option FSpec}(hE:∀f sp,fs f=some sp->F6 P f/\FunOK P f sp){d c:Ty}{v:SV}{F:d.T->Option c.T}{cs:List Value}(h:X7 fs σ d c v=some F)(hr:CR P w G v cs):
 ∃f vs,cs=[.func (.func f) #[] vs]/\HofD P (false=true) w (HY σ G) d c F f vs:=by
 unfold X7 at h;split at h
 .rename_i f caps;split at h
  .rename_i sp hf;cases hav:(K0 caps&&PR sp.ps)with
   |false=>rw[hav]at h;cases h
   |true=>
    rw[hav]at h;have h:=A3 h;subst h;simp only[A4]at hav;obtain⟨vs,h1,h2⟩:=hr;obtain⟨he,hfun⟩:=hE _ _ hf;have hlen:=YA h2 hav.1;refine⟨f,vs,h1,he,λw' I' hext hm' x l hx y hy=>?_⟩;obtain⟨v,hv,hy⟩:=BT.1 hy;obtain⟨r,hr,hy⟩:=BT.1 hy;obtain⟨a1,a2⟩:=u_ hav.2;have hc:=hfun w' I' v (l++vs.toList) [] hm' (A9w hm hlen (Y0 h2 o5) hext hv hx) B6 r hr;rw[show(l++vs.toList).toArray=(l.toArray++vs:Array Value) by apply C4;simp]at hc;refine Calls.mono hc λe w'' hq=>?_;obtain⟨rv,vs',I',bs',q1,q2,q3,q4,q5,_,_,qd⟩:=hq;rw[a2,C3]at q5;exact⟨rv,I',q1,q4.mono (λb hb=>by cases hb),uZ hy q5 q3,λhd=>by cases hd⟩
  .cases h
 .cases h
theorem vQ(hm:MemS P fr free σ w G){σ0:SSo}(hσ0:∀k o,σ0 k=some o->σ k=some o){fs:Nat->Option FSpec}(hE:∀f sp,fs f=some sp->F6 P f/\FunOK P f sp){s:Sh}{sv:SV}{x:s.T}{v:Value}(h:X8 fs σ0 σ s sv=some x)(hr:SR P w G sv v)
 (hks:∀k∈ND σ s sv,σ0 k=none):∃bs,ShV P w (HY σ0 G) s x v bs/\bs.Nodup/\BlksOf σ G (ND σ s sv) bs:=by
 have hnil:BlksOf σ G (ND σ s sv) []:=λb hb=>by cases hb
 have hm0:=hm.sub hσ0;cases s with
 |val t=>exact⟨[],⟨iO hm0 h hr,rfl⟩,B6,hnil⟩
 |own el t wr=>
  have h:JJ σ el t wr sv=some x:=h
  have hcr:CR P w G sv [v]:=hr.cell λt y e=>by
   subst e;cases h
  obtain⟨bs,h1,h2,h3⟩:=QV hm h hcr;refine⟨bs,?_,h2,h3⟩
  have hbad:∀b∈bs,∀k ob,σ0 k=some ob->¬Bk G k ob b:=by
   intro b hb k ob hk hbk;obtain⟨k',hk',o',ho',hbo⟩:=h3 b hb;have:=hm.sep k' k o' ob b ho' (hσ0 _ _ hk) hbo hbk;subst this;rw[hks k' hk']at hk;cases hk
  have hno:∀b∈bs,∀o,(HY σ0 G).cell b o->G.im.cell b o:=by
   intro b hb o ho;rcases vI ho with ho|⟨k,ob,k1,k2⟩
   .exact ho
   .exact absurd k2 (hbad b hb k ob k1)
  have hnO:∀b∈bs,(HY σ0 G).obj b->G.im.obj b:=by
   intro b hb ho;rcases vJ ho with ho|⟨k,ob,k1,k2⟩
   .exact ho
   .exact absurd k2 (hbad b hb k ob k1)
  rcases h1 with h1|⟨b,cap,cells,e1,rfl,q1,q2,q3,q4,q5,q6,q7⟩
  .exact .inl h1
  .exact .inr ⟨b,cap,cells,e1,rfl,q1,q2,q3,λi y hy=>(q4 i y hy).ext (IW w),λhw o ho=>q5 hw o (hno b oc o ho),λhw o=>⟨λho=>.inl ((q6 hw o).1 ho),λho=>(q6 hw o).2 (hno b oc o ho)⟩,λho=>q7 (hnO b oc ho)⟩
 |hof nd d c=>
  cases nd with
  |true=>cases h
  |false=>
  have h:X7 fs σ0 d c sv=some x:=h
  have hcr:CR P w G sv [v]:=hr.cell λt y e=>by
   subst e;cases h
  exact⟨[],⟨rfl,A9x hm0 hE h hcr⟩,B6,hnil⟩
 |_=>cases h
theorem A9y{fs:Nat->Option FSpec}{σ0:SSo}{a b:Sh}{r:List Sh}{v:SV}{vs:List SV}:QI fs σ0 σ (a::b::r) (v::vs)=(match X8 fs σ0 σ a v,QI fs σ0 σ (b::r) vs with
 |some x,some y=>some (x,y)
 |_,_=>none):=rfl
theorem A9z(hm:MemS P fr free σ w G){σ0:SSo}(hσ0:∀k o,σ0 k=some o->σ k=some o){fs:Nat->Option FSpec}(hE:∀f sp,fs f=some sp->F6 P f/\FunOK P f sp):∀{l:List Sh} {svs:List SV} {x:TupR l} {vs:List Value},QI fs σ0 σ l svs=some x->svs.length=vs.length->
 (∀(j:Nat) (s:SV) (v:Value),svs[j]?=some s->vs[j]?=some v->SR P w G s v)->(G5 σ l svs).Nodup->(∀k∈G5 σ l svs,σ0 k=none)->
 svs.length=l.length/\∃bs,ShL P w (HY σ0 G) l x vs bs/\bs.Nodup/\BlksOf σ G (G5 σ l svs) bs:=by
 intro l;induction l with
 |nil=>
  intro svs x vs h hl hs _ _;cases svs with
  |nil=>exact⟨rfl,[],⟨AJ hl.symm,rfl⟩,B6,λb hb=>by cases hb⟩
  |cons _ _=>cases h
 |cons a l ih=>
  intro svs x vs h hl hs hnd hks;cases svs with
  |nil=>cases l<;>cases h
  |cons s svs=>
   cases vs with
   |nil=>cases hl
   |cons v vs=>
    have h0:=hs 0 s v rfl rfl;cases l with
    |nil=>
     cases svs with
     |nil=>
      have:vs=[]:=AJ (by simpa using hl.symm);subst this;obtain⟨bs,h1,h2,h3⟩:=vQ hm hσ0 hE h h0 (λk hk=>hks k (by simpa[G5]using hk));exact⟨rfl,bs,⟨v,rfl,h1⟩,h2,by simpa[G5]using h3⟩
     |cons _ _=>cases h
    |cons b l=>
     rw[A9y]at h;split at h
     .rename_i x1 x2 h1 h2;cases h;have hk:G5 σ (a::b::l) (s::svs)=ND σ a s++G5 σ (b::l) svs:=rfl;rw[hk]at hnd hks ⊢;have hnd':=BA.1 hnd;obtain⟨b1,p1,p2,p3⟩:=vQ hm hσ0 hE h1 h0 (λk hk=>hks k (AS _ hk));obtain⟨q0,b2,q1,q2,q3⟩:=ih h2 (by simpa using hl) (λj s v h3 h4=>hs (j+1) s v (by simpa using h3) (by simpa using h4)) hnd'.2.1 (λk hk=>hks k (AT _ hk));obtain⟨r1,r2⟩:=p3.append hm q3 p2 q2 hnd;exact⟨by simp[q0],b1++b2,⟨v,vs,b1,b2,rfl,rfl,p1,q1⟩,r1,r2⟩
     .cases h
theorem AA0:∀{l:List Sh},TA l=true->l.filter EU=[]/\(∀vs,FT l vs=[])/\∀ss vs,BoxArgs G l ss vs:=by
 intro l;induction l with
 |nil=>intro _;exact⟨rfl,λvs=>by cases vs<;>rfl,λss vs=>by cases ss<;>exact trivial⟩
 |cons a l ih=>
  intro h;simp only[TA,A4,BI]at h;obtain⟨h1,h2,h3⟩:=ih h.2;refine⟨by rw[List.filter_cons,if_neg (by rw[h.1];simp)];exact h1,λvs=>?_,λss vs=>?_⟩
  .cases vs with
   |nil=>cases a<;>first|rfl|(rename_i el0 c0;cases c0<;>rfl)
   |cons v vs=>cases a<;>first|exact h2 vs|(cases h.1;done)|(rename_i el0 c0;cases c0<;>first|exact h2 vs|(cases h.1;done))
  .cases ss with
   |nil=>cases a<;>first|exact trivial|(rename_i el0 c0;cases c0<;>exact trivial)
   |cons s ss=>
    cases vs with
    |nil=>cases a<;>first|exact trivial|(rename_i el0 c0;cases c0<;>exact trivial)
    |cons v vs=>cases a<;>first|exact h3 ss vs|(cases h.1;done)|(rename_i el0 c0;cases c0<;>first|exact h3 ss vs|(cases h.1;done))
theorem ShL.nil_any{I I':Im}{l:List Sh}(hl:l=[]){x:TupR l}{vs:List Value}{bs:List Nat}(h:ShL P w' I l x vs bs):ShL P w' I' l x vs bs:=by
 subst hl;exact h
theorem AA1:∀{l:List Nat},J5 l=true->l.Nodup:=by
 intro l;induction l with
 |nil=>intro _;exact B6
 |cons k r ih=>
  intro h;simp only[J5,A4,BI]at h;refine B7.2 ⟨λhm=>?_,ih h.2⟩;have:EV k r=true:=KT.2 hm;rw[h.1]at this;cases this
theorem iP(hm:MemS P fr free σ w G)(hσ:∀k o,σ' k=some o->σ k=some o)(hfree:∀k,self<=k->k<self+8->free k){sp:FSpec}{args:List SV}{vals:List Value}(hlen:args.length=vals.length)(hal:args.length=sp.ps.length)
 (hba:BoxArgs G sp.ps args vals){bs:List Nat}(p3:BlksOf σ' G (G5 σ' sp.ps args) bs)(hcnt:FM sp.rs+FM (sp.ps.filter EU)<=8){y:TupR (sp.rs++sp.ps.filter EU)}{rv:Value}{vs:List Value}{I':Im}{b1 b2:List Nat}
 (hvl:vs.length=sp.rs.length)(hret:IV vs rv)(haft:After (·∈bs) w G.im w' I')(r1:ShL P w' I' sp.rs (LK sp.rs (sp.ps.filter EU) y).1 vs b1)(r2:ShL P w' I' (sp.ps.filter EU) (LK sp.rs (sp.ps.filter EU) y).2 (FT sp.ps vals) b2)
 (hnd':(b1++b2).Nodup)(hown:∀b∈b1++b2,b∈bs\/w.heap.size<=b):Res P fr free self σ w G (X9 σ' self sp args y) rv w':=by
 have p3':BlksOf σ G (G5 σ' sp.ps args) bs:=λb hb=>let ⟨k,h1,o,h2,h3⟩:=p3 b hb;⟨k,h1,o,hσ k o h2,h3⟩
 obtain⟨g1,g2⟩:=hm.called p3' haft;have hndp:=BA.1 hnd'
 have hbk:∀b∈b1++b2,fr.owned b/\∀j o,EK σ (gone (G5 σ' sp.ps args)) j=some o->¬Bk {G with im:=I'} j o b:=by
  intro b hb;refine⟨?_,λj o ho hbj=>?_⟩
  .rcases hown b hb with h|h
   .obtain⟨k,_,o,ho,hbo⟩:=p3' b h;exact M1 (hm.objs k o ho) hbo
   .exact .inl (AU hm.after.size h)
  .have ho':j ∉ G5 σ' sp.ps args/\σ j=some o:=by
    rw[JB]at ho;by_cases hj:j∈G5 σ' sp.ps args
    .rw[if_pos hj]at ho;cases ho
    .rw[if_neg hj]at ho;exact⟨hj,ho⟩
   have hbj0:Bk G j o b:=by rw[<-GH (hm.objs j o ho'.2) g1];exact hbj
   rcases hown b hb with h|h
   .obtain⟨k,hk,o2,ho2,hbo⟩:=p3' b h;have:=hm.sep j k o o2 b ho'.2 ho2 hbj0 hbo;subst this;exact ho'.1 hk
   .have:=HP (hm.objs j o ho'.2) hbj0;omega
 obtain ⟨G2,m2⟩:=A9n (ps:=sp.ps) (ss:=args) (vals:=vals) (n:=self+FM sp.rs) g2 hal o5 (by
  exact hba.mono (λk b h=>h) (λk g v h=>h) (λk t h=>h)) r2 hndp.2.1 (λb hb=>hbk b (AT _ hb)) (λk h1 h2=>hfree k o5 o5)
 obtain ⟨G3,m3,e1,e2,e3⟩:=TV (l:=sp.rs) (n:=self) m2.mem (by rw [m2.im]; exact r1) hndp.1 (λb hb=>⟨(hbk b (AS _ hb)).1,λj o ho hb2=>by
  rcases m2.own j o b ho hb2 with h|⟨j',o',h3,h4⟩
  .exact hndp.2.2 b hb b h rfl
  .exact(hbk b (AS _ hb)).2 j' o' h3 h4⟩) (λk h1 h2=>⟨hfree k h1 o5,o5⟩)
 have hsplit:=TW (a:=sp.rs) (b:=sp.ps.filter EU) (x:=y) (n:=self)
 have htake:(F5 (sp.rs++sp.ps.filter EU) y self).take sp.rs.length=F5 sp.rs (LK sp.rs (sp.ps.filter EU) y).1 self:=by
  rw[hsplit,List.take_left' e2]
 have hdrop:(F5 (sp.rs++sp.ps.filter EU) y self).drop sp.rs.length=F5 (sp.ps.filter EU) (LK sp.rs (sp.ps.filter EU) y).2 (self+FM sp.rs):=by
  rw[hsplit,List.drop_left' e2]
 refine⟨G3,(g1.trans m2.le).trans m3.le,?_,?_⟩
 .show MemS P fr _ (EK σ ((((F5 (sp.rs++sp.ps.filter EU) y self).take sp.rs.length).flatMap (·.obs))++(HI sp.ps args ((F5 (sp.rs++sp.ps.filter EU) y self).drop sp.rs.length)++gone (G5 σ' sp.ps args)))) w' G3;rw[htake,hdrop,FW,FW];refine m3.mem.shrink λj hj=>?_
  have hns:¬(self<=j/\j<self+8):=λh=>by
   have:=hj.2;simp only[IH,DH]at this;rcases this with h1|h1
   .rw[C5 h.1]at h1;cases h1
   .rw[show Nat.blt j (self+8)=true from C5 h.2]at h1;cases h1
  exact⟨⟨hj.1,λe=>hns ⟨o5,o5⟩⟩,λe=>hns ⟨o5,o5⟩⟩
 .show SR P w' G3 (iN ((F5 (sp.rs++sp.ps.filter EU) y self).take sp.rs.length)) rv;rw[htake];exact vH hret (by rw[hvl,e2]) e3
theorem AA2{fs:Nat->Option FSpec}(hE:∀f sp,fs f=some sp->F6 P f/\FunOK P f sp)(hD:fr.dr=true->∀f sp,fs f=some sp->sp.dr=true)(hm:MemS P fr free σ w G)(hσ:∀k o,σ' k=some o->σ k=some o)(hfree:∀k,self<=k->k<self+8->free k)
 {f:Nat}{args:List SV}{vals:List Value}{r:OpRes}{u:Upd}(hlen:args.length=vals.length)(hs:∀(j:Nat) (s:SV) (v:Value),args[j]?=some s->vals[j]?=some v->SR P w G s v)
 (hr:gK fs σ' self f args=some r)(hu:Gives r u):
 F6 P f/\Calls P f vals.toArray w λe w'=>∃v,e=.returned v/\Res P fr free self σ w G u v w'/\(fr.dr=true->w.drawn<=w'.drawn):=by
 unfold gK at hr;split at hr
 .rename_i sp hsp;obtain⟨hent,hfun⟩:=hE _ _ hsp
  .split at hr
   .rename_i v hv0
    have hcv:Nat.ble (FM (sp.rs++sp.ps.filter EU)) 8=true/\J6 fs σ' sp.ps args=some v:=by
     cases hc:Nat.ble (FM (sp.rs++sp.ps.filter EU)) 8 with
     |false=>rw[hc]at hv0;cases hv0
     |true=>rw[hc]at hv0;exact⟨rfl,hv0⟩
    obtain⟨hc,hv⟩:=hcv;have hcnt:=BX hc;rw[iM]at hcnt;cases hr;obtain⟨y,hy,rfl⟩:=hu.may_inv;have hm':=hm.sub hσ;obtain⟨bs,p1,p2,p3⟩:=NN hm' hE hv hlen hs
    have hpl:LW fs σ' sp.ps args=some v:=by
     unfold J6 at hv;cases hd:J5 (G5 σ' sp.ps args)with
     |false=>rw[hd]at hv;cases hv
     |true=>rw[hd]at hv;exact hv
    have hba:=vF hm' hpl hs
    have hplen:∀{l:List Sh} {svs:List SV} {x:TupR l},LW fs σ' l svs=some x->svs.length=l.length:=by
     intro l;induction l with
     |nil=>intro svs x h;cases svs with
      |nil=>rfl
      |cons _ _=>cases h
     |cons a l ih=>
      intro svs x h;cases svs with
      |nil=>cases l<;>cases h
      |cons s svs=>
       cases l with
       |nil=>cases svs with
        |nil=>rfl
        |cons _ _=>cases h
       |cons b l=>
        rw[TU]at h;split at h
        .rename_i x1 x2 h1 h2;simp[ih h2]
        .cases h
    have hal:=hplen hpl;refine⟨hent,Calls.mono (hfun w G.im v vals bs hm.after.mem p1 p2 y hy) λe w' hq=>?_⟩;obtain⟨rv,vs,I',bs',rfl,hvl,hret,haft,hres,hnd',hown,qd⟩:=hq;refine⟨rv,rfl,?_,λh=>qd (hD h _ _ hsp)⟩;obtain⟨b1,b2,rfl,r1,r2⟩:=hres.split hvl;exact iP hm hσ hfree hlen hal hba p3 hcnt hvl hret haft r1 r2 hnd' hown
   .split at hr
    .rename_i v hv;cases hr;obtain⟨y,hy,rfl⟩:=hu.may_inv;cases hfl:T6 sp.rs with
     |false=>rw[hfl]at hv;cases hv
     |true=>
      rw[hfl]at hv;have hv:QH σ' sp.ps args=some v:=hv;have hm':=hm.sub hσ;have p1:=A9r hm' hv hlen hs;refine⟨hent,Calls.mono (hfun w (HY σ' G) v vals [] (vK hm') p1 .nil y hy) λe w' hq=>?_⟩;obtain⟨rv,vs,I',bs',rfl,hvl,hret,haft,hres,_,_,qd⟩:=hq;refine⟨rv,rfl,?_,λh=>qd (hD h _ _ hsp)⟩;have haft2:=haft.flat (IW w) hm.after.mem;obtain⟨g1,g2⟩:=hm.called (ks:=[]) (bs:=[]) (λb hb=>by cases hb) haft2;obtain⟨b1,b2,rfl,r1,r2⟩:=hres.split hvl;obtain⟨f1,f2⟩:=A9s (G:={G with im:=G.im}) (n:=self) hfl r1;have hsplit:=TW (a:=sp.rs) (b:=sp.ps.filter EU) (x:=y) (n:=self)
      have htake:(F5 (sp.rs++sp.ps.filter EU) y self).take sp.rs.length=F5 sp.rs (LK sp.rs (sp.ps.filter EU) y).1 self:=by
       rw[hsplit,List.take_left' f1]
      refine⟨_,g1,g2.shrink λj hj=>hj.1,?_⟩;show SR P w' {G with im:=G.im} (iN ((F5 (sp.rs++sp.ps.filter EU) y self).take sp.rs.length)) rv;rw[htake];exact vH hret (by rw[hvl,f1]) f2
    .split at hr
     .rename_i v hv;cases hr;obtain⟨y,hy,rfl⟩:=hu.may_inv;unfold tG at hv;cases hc:(LF sp.rs&&(TA sp.ps&&(Nat.ble (FM (sp.rs++sp.ps.filter EU)) 8&&J5 (G5 σ' sp.ps args))))with
      |false=>rw[hc]at hv;cases hv
      |true=>
       rw[hc]at hv;have hv:QI fs (EK σ' (gone (G5 σ' sp.ps args))) σ' sp.ps args=some v:=hv
       have hσ0:∀k o,EK σ' (gone (G5 σ' sp.ps args)) k=some o->σ' k=some o/\k ∉ G5 σ' sp.ps args:=by
        intro k o hk;rw[JB]at hk;by_cases e:k∈G5 σ' sp.ps args
        .rw[if_pos e]at hk;cases hk
        .rw[if_neg e]at hk;exact⟨hk,e⟩
       simp only[A4]at hc;obtain⟨c1,c2,c3,c4⟩:=hc;have hcnt:=BX c3;rw[iM]at hcnt;have hm':=hm.sub hσ;obtain⟨hal,bs,p1,p2,p3⟩:=A9z hm' (λk o h=>(hσ0 k o h).1) hE hv hlen hs (AA1 c4) (λk hk=>by rw[JB,if_pos hk]);obtain⟨n1,n2,n3⟩:=AA0 (G:=G) c2;refine⟨hent,Calls.mono (hfun w (HY (EK σ' (gone (G5 σ' sp.ps args))) G) v vals bs (vK (hm'.sub λk o h=>(hσ0 k o h).1)) p1 p2 y hy) λe w' hq=>?_⟩;obtain⟨rv,vs,I',bs',rfl,hvl,hret,haft,hres,hnd',hown,qd⟩:=hq;refine⟨rv,rfl,?_,λh=>qd (hD h _ _ hsp)⟩;have haft2:=haft.lend (IW w) hm.after.mem;obtain⟨b1,b2,rfl,r1,r2⟩:=hres.split hvl;exact iP hm hσ hfree hlen hal (n3 _ _) p3 hcnt hvl hret haft2 (A9t haft (IW w) c1 r1) (r2.nil_any n1) hnd' hown
     .cases hr
 .cases hr
theorem vR{s u:SV}{v v':Value}(h:NE s u=true)(h1:SR P w G s v)(h2:SR P w G u v'):v=v':=by
 unfold NE at h;split at h
 .rename_i k _ j _;have e:=A2 h;subst e;obtain⟨b,t,o,a1,a2,_,rfl⟩:=IA h1;obtain⟨b',t',o',b1,b2,_,rfl⟩:=IA h2;rw[a1]at b1;cases b1;rw[a2]at b2;cases b2;rfl
 .cases h
def iQ(w:World)(G:Gh)(bx:Bool)(v fv:Value):Prop:=match bx with
 |true=>∃b,v=.pointer (some ⟨b,0,none⟩)/\G.im.cell b 0/\w.cell? ⟨b,0,none⟩=some fv
 |false=>v=fv
theorem vS(ho:∀k o,σ k=some o->ObjOK P fr w G k o){bx:Bool}{s:SV}{f:Nat}{c:SV}{v:Value}(h:WR false σ bx s=some (f,c))(hr:SR P w G s v):
 ∃vs:Array Value,CR P w G c vs.toList/\iQ w G bx v (.func (.func f) #[] vs):=by
 unfold WR at h;split at h
 .split at h
  .cases h;obtain⟨cc,hcc,vs,h1,h2⟩:=hr;exact⟨vs,h2,A5.1 ((show cc=[v]from hcc).symm.trans h1)⟩
  .cases h
 .split at h
  .obtain⟨b,t,o,a1,a2,_,rfl⟩:=IA hr;rw[YB]at a2;cases a2;split at h
   .rename_i u f' c' wr hk;cases wr with
    |true=>cases h
    |false=>
     cases h;obtain⟨b',cs,el,k1,k2,k3,k4,k5,k6,_⟩:=ho _ _ hk;rw[a1]at k1;cases k1;obtain⟨vs,q1,q2⟩:=k5;refine⟨vs,q2,b,rfl,k6.2 rfl 0 (by have:t.sz=1:=k4;omega),?_⟩;simp[World.cell?,k2,<-BE,q1]
   .rename_i f' c' hk;cases h;obtain⟨b',vs,k1,k2,k3,k4⟩:=ho _ _ hk;rw[a1]at k1;cases k1;exact⟨vs,k4,b,rfl,k2,k3⟩
   .cases h
  .cases h
def TX(P:Program)(w:World)(G:Gh)(acc:List (Nat×SV))(am:List (Nat×Value)):Prop:=
 ∀j,(∀s,FG acc j=some s->∃v,FG am j=some v/\SR P w G s v)/\(FG acc j=none->FG am j=none)
theorem QX{α:Type}{j i:Nat}{x:α}{l:List (Nat×α)}:FG ((j,x)::l) i=if i=j then some x else FG l i:=by
 simp only[FG];by_cases h:i=j
 .subst h;simp[CH]
 .rw[if_neg h,show Nat.beq i j=false by rw[<-BO];exact λhh=>h (A2 hh)];rfl
theorem AA3{sl:Nat->SV}{tv:Nat->Value}(hs:∀t,SR P w G (sl t) (tv t)):
 ∀{caps:List Nat} {l:List SV} {acc acc':List (Nat×SV)} {am:List (Nat×Value)} {vs:List Value},PZ sl caps l acc=some acc'->l.length=vs.length->
 (∀(j:Nat) (s:SV) (v:Value),l[j]?=some s->vs[j]?=some v->SR P w G s v)->TX P w G acc am->
 ∃am',TX P w G acc' am'/\(∀j v,FG am j=some v->FG am' j=some v)/\caps.length=vs.length/\
  ∀(i c:Nat) (v:Value),caps[i]?=some c->vs[i]?=some v->(c<1000000->tv c=v)/\(1000000<=c->FG am' (c-1000000)=some v):=by
 intro caps;induction caps with
 |nil=>
  intro l acc acc' am vs h hl _ ha;cases l with
  |nil=>
   cases h;exact⟨am,ha,λ_ _ h=>h,by simpa using hl,λi c v h=>by simp at h⟩
  |cons _ _=>cases h
 |cons c caps ih=>
  intro l acc acc' am vs h hl hls ha;cases l with
  |nil=>cases h
  |cons s l=>
   cases vs with
   |nil=>cases hl
   |cons v0 vs=>
    have hs0:=hls 0 s v0 rfl rfl;have hls':∀(j:Nat) (s':SV) (v:Value),l[j]?=some s'->vs[j]?=some v->SR P w G s' v:=λj s' v h1 h2=>hls (j+1) s' v ot oq;have hl':l.length=vs.length:=by simpa using hl
    simp only[PZ]at h;cases hb:Nat.blt c 1000000 with
    |true=>
     rw[hb]at h;simp only[AA]at h;have hc:c<1000000:=by simpa using hb
     cases hp:NE (sl c) s with
     |false=>rw[hp]at h;cases h
     |true=>
      rw[hp]at h;obtain⟨am',a1,a2,a3,a4⟩:=ih h hl' hls' ha;refine⟨am',a1,a2,by simp[a3],λi c' v hi hv=>?_⟩;cases i with
      |zero=>
       cases hi;cases hv;exact⟨λ_=>vR hp (hs c) hs0,λh=>o5⟩
      |succ i=>exact a4 i c' v (by simpa using hi) oz
    |false=>
     rw[hb]at h;simp only[AC]at h
     have hc:1000000<=c:=by
      rcases CL c 1000000 with h1|h1
      .rw[show Nat.blt c 1000000=true by simpa using h1]at hb;cases hb
      .exact h1
     cases hlk:FG acc (c-1000000)with
     |some u=>
      rw[hlk]at h;simp only at h;cases hp:NE u s with
      |false=>rw[hp]at h;cases h
      |true=>
       rw[hp]at h;obtain⟨am',a1,a2,a3,a4⟩:=ih h hl' hls' ha;refine⟨am',a1,a2,by simp[a3],λi c' v hi hv=>?_⟩;cases i with
       |zero=>
        cases hi;cases hv;refine⟨λh=>o5,λ_=>?_⟩;obtain⟨v',q1,q2⟩:=(ha (c-1000000)).1 u hlk;rw[vR hp q2 hs0]at q1;exact a2 _ _ q1
       |succ i=>exact a4 i c' v (by simpa using hi) oz
     |none=>
      rw[hlk]at h;simp only at h
      have ha':TX P w G ((c-1000000,s)::acc) ((c-1000000,v0)::am):=by
       intro j;rw[QX,QX];by_cases e:j=c-1000000
       .simp only[if_pos e];exact⟨λs' h=>⟨v0,rfl,A3 h▸hs0⟩,λh=>oe⟩
       .simp only[if_neg e];exact ha j
      obtain⟨am',a1,a2,a3,a4⟩:=ih h hl' hls' ha';refine⟨am',a1,λj v hj=>a2 j v ?_,by simp[a3],λi c' v hi hv=>?_⟩
      .rw[QX];by_cases e:j=c-1000000
       .rw[e,(ha _).2 hlk]at hj;cases hj
       .rw[if_neg e];exact hj
      .cases i with
       |zero=>
        cases hi;cases hv;refine⟨λh=>o5,λ_=>a2 _ _ ?_⟩;rw[QX,if_pos rfl]
       |succ i=>exact a4 i c' v (by simpa using hi) oz
theorem AA4(ho:∀k o,σ k=some o->ObjOK P fr w G k o){sl:Nat->SV}{tv:Nat->Value}(hs:∀t,SR P w G (sl t) (tv t)):
 ∀{kn:List Kn} {acc acc':List (Nat×SV)} {am:List (Nat×Value)},ST false σ sl kn acc=some acc'->TX P w G acc am->
 ∃am',TX P w G acc' am'/\(∀j v,FG am j=some v->FG am' j=some v)/\
  ∀pv:List Value,(∀q∈kn,∀c∈q.caps,1000000<=c->∀v,FG am' (c-1000000)=some v->pv.getD (c-1000000) undef=v)->∀q∈kn,JA w G.im tv pv q:=by
 intro kn;induction kn with
 |nil=>
  intro acc acc' am h ha;cases h;exact⟨am,ha,λ_ _ h=>h,λ_ _ q hq=>by cases hq⟩
 |cons q kn ih=>
  intro acc acc' am h ha;simp only[ST]at h;split at h
  .rename_i f c hkn;cases hb:(Nat.beq f q.f&&K0 c)with
   |false=>rw[hb]at h;cases h
   |true=>
    rw[hb]at h;simp only[AA]at h;simp only[A4]at hb;have ef:=A2 hb.1;split at h
    .rename_i acc1 hest;obtain⟨vs,k1,k2⟩:=vS ho hkn (hs q.p);have hcl:=YA k1 hb.2;obtain⟨am1,a1,a2,a3,a4⟩:=AA3 hs hest hcl (Y0 k1 o5) ha;obtain⟨am2,b1,b2,b3⟩:=ih h a1;refine⟨am2,b1,λj v hj=>b2 j v (a2 j v hj),λpv hpv q' hq'=>?_⟩;rcases A_.1 hq' with rfl|hq'
     .have hval:LJ tv pv q'=.func (.func f) #[] vs:=by
       unfold LJ;rw[<-ef]
       have:q'.caps.map (IB tv pv)=vs.toList:=by
        apply BV;intro i;rw[AV];rcases CL i q'.caps.length with hlt|hge
        .rw[A0 hlt,A0 o5];simp only[BD,AM];obtain⟨c1,c2⟩:=a4 i _ _ (A0 hlt) (A0 o5);unfold IB;by_cases hc:q'.caps[i]<1000000
         .rw[if_pos hc];exact c1 hc
         .rw[if_neg hc];exact hpv q' AI _ (BM hlt) o5 _ (b2 _ _ (c2 o5))
        .rw[B9 hge,B9 o5];rfl
       rw[this]
      unfold JA;unfold iQ at k2;cases hbx:q'.bx with
      |true=>
       rw[hbx]at k2;obtain⟨b,e1,e2,e3⟩:=k2;exact⟨b,e1,e2,e3.trans (by rw[hval])⟩
      |false=>
       rw[hbx]at k2;exact k2.trans hval.symm
     .exact b3 pv (λq0 hq0=>hpv q0 (AD _ hq0)) q' hq'
    .cases h
  .cases h
theorem vT{acc:List (Nat×SV)}:∀{js:List Nat} {ps:List SV},SS acc js=some ps->ps.length=js.length/\∀(i j:Nat) (s:SV),js[i]?=some j->ps[i]?=some s->FG acc j=some s:=by
 intro js;induction js with
 |nil=>intro ps h;cases h;exact⟨rfl,λi j s h=>by simp at h⟩
 |cons j js ih=>
  intro ps h;simp only[SS]at h;split at h
  .rename_i s t h1 h2;cases h;obtain⟨i1,i2⟩:=ih h2;refine⟨by simp[i1],λi j' s' hi hs=>?_⟩;cases i with
   |zero=>cases hi;cases hs;exact h1
   |succ i=>exact i2 i j' s' (by simpa using hi) (by simpa using hs)
  .cases h
theorem vU(ho:∀k o,σ k=some o->ObjOK P fr w G k o){sl:Nat->SV}{tv:Nat->Value}(hs:∀t,SR P w G (sl t) (tv t))
 {x:KX}{ps:List SV}(h:SU false σ sl x=some ps):
 ∃pv,ps.length=pv.length/\KxOK w G.im tv pv x/\∀(j:Nat) (s:SV) (v:Value),ps[j]?=some s->pv[j]?=some v->SR P w G s v:=by
 unfold SU at h;split at h
 .rename_i acc hacc;cases hin:fN x with
  |false=>rw[hin]at hacc;cases hacc
  |true=>
   rw[hin]at hacc;have hacc:ST false σ sl x.kn []=some acc:=hacc;obtain⟨am,a1,_,a3⟩:=AA4 ho hs hacc (am:=[]) (λj=>⟨λs h=>(oe),λ_=>rfl⟩);obtain⟨p1,p2⟩:=vT h;rw[DF]at p1
   have key:∀j s,ps[j]?=some s->∃v,FG am j=some v/\SR P w G s v:=by
    intro j s hj;have hlt:j<ps.length:=(A8.1 hj).1;exact(a1 j).1 s (p2 j j s (by rw[CG o5]) hj)
   refine⟨(List.range x.m).map λj=>(FG am j).getD undef,by simp[p1],⟨oc,a3 _ λq hq c hc hge v hv=>?_⟩,λj s v hj hv=>?_⟩
   .have hlt:c-1000000<x.m:=by
     unfold fN at hin;rw[BG]at hin;have:=hin q hq;rw[BG]at this;have:=this c hc;simp only[BW]at this;omega
    rw[AG,AV,CG hlt];simp[hv]
   .obtain⟨v',h1,h2⟩:=key j s hj;have hlt:j<ps.length:=(A8.1 hj).1;rw[AV,CG o5]at hv;simp only[BD,h1,DC,AM]at hv;subst hv;exact h2
 .cases h
theorem AA5{fs:Nat->Option FSpec}:∀{l:List Sh} {svs:List SV} {x:TupR l},LW fs σ l svs=some x->svs.length=l.length:=by
 intro l;induction l with
 |nil=>intro svs x h;cases svs with
  |nil=>rfl
  |cons _ _=>cases h
 |cons a l ih=>
  intro svs x h;cases svs with
  |nil=>cases l<;>cases h
  |cons s svs=>
   cases l with
   |nil=>cases svs with
    |nil=>rfl
    |cons _ _=>cases h
   |cons b l=>
    rw[TU]at h;split at h
    .rename_i x1 x2 h1 h2;simp[ih h2]
    .cases h
theorem AA6{fs:Nat->Option FSpec}{l:List Sh}{svs:List SV}{x:TupR l}(h:J6 fs σ l svs=some x):LW fs σ l svs=some x:=by
 unfold J6 at h;cases hd:J5 (G5 σ l svs)with
 |false=>rw[hd]at h;cases h
 |true=>rw[hd]at h;exact h
theorem YE{l m:List SV}{a b:List Value}(h1:l.length=a.length)(k1:∀(j:Nat) (s:SV) (v:Value),l[j]?=some s->a[j]?=some v->SR P w G s v)
 (k2:∀(j:Nat) (s:SV) (v:Value),m[j]?=some s->b[j]?=some v->SR P w G s v):∀(j:Nat) (s:SV) (v:Value),(l++m)[j]?=some s->(a++b)[j]?=some v->SR P w G s v:=by
 intro j s v hj hv;rcases CL j l.length with hlt|hge
 .rw[AQ hlt]at hj;rw[AQ o5]at hv;exact k1 j s v hj hv
 .rw[AZ hge]at hj;rw[AZ o5,<-h1]at hv;exact k2 _ s v hj hv
theorem AA7{fs:Nat->Option FSpec}{ks:Nat->Option KSpec}(hE:∀f sp,fs f=some sp->F6 P f/\FunOK P f sp)(hK:∀f s,ks f=some s->(F6 P f/\HS P f s)/\(fr.dr=true->s.sp.dr=true))(hm:MemS P fr free σ w G)(hσ:∀k o,σ' k=some o->σ k=some o)(hfree:∀k,self<=k->k<self+8->free k)
 {f:Nat}{args:List SV}{vals:List Value}{r:OpRes}{u:Upd}(hlen:args.length=vals.length)(hs:∀(j:Nat) (s:SV) (v:Value),args[j]?=some s->vals[j]?=some v->SR P w G s v)
 (hr:gL ks fs σ' self f args=some r)(hu:Gives r u):
 F6 P f/\Calls P f vals.toArray w λe w'=>∃v,e=.returned v/\Res P fr free self σ w G u v w'/\(fr.dr=true->w.drawn<=w'.drawn):=by
 unfold gL at hr;split at hr
 .rename_i s hsp;obtain⟨⟨hent,hfun⟩,hD⟩:=hK _ _ hsp;cases hb:(Nat.beq args.length s.n&&Nat.ble (FM (s.sp.rs++s.sp.ps.filter EU)) 8)with
  |false=>rw[hb]at hr;cases hr
  |true=>
   rw[hb]at hr;simp only[AA]at hr;simp only[A4]at hb;have hn:=A2 hb.1;have hcnt:=BX hb.2;rw[iM]at hcnt;split at hr
   .rename_i ps hps;split at hr
    .rename_i v hv;cases hr;obtain⟨y,hy,rfl⟩:=hu.may_inv;have hm':=hm.sub hσ
     have hsl:∀t,SR P w G (args.getD t .undef) (vals.getD t undef):=by
      intro t;rcases CL t args.length with hlt|hge
      .exact hs t _ _ (by rw[AG,A0 hlt];rfl) (by rw[AG,A0 o5];rfl)
      .rw[AG,B9 hge];exact⟨[_],rfl,trivial⟩
     obtain⟨pv,e1,e2,e3⟩:=vU (tv:=λt=>vals.getD t undef) (λk o h=>hm'.objs k o h) hsl hps;have hall:=YE hlen hs e3;obtain⟨bs,p1,p2,p3⟩:=NN hm' hE hv (vs:=vals++pv) (by simp[hlen,e1]) hall;have hpl:=AA6 hv;have hba:=vF hm' hpl hall;have hal:=AA5 hpl;refine⟨hent,Calls.mono (hfun w G.im v vals pv bs o5 hm.after.mem e2 p1 p2 y hy) λe w' hq=>?_⟩;obtain⟨rv,vs,I',bs',rfl,hvl,hret,haft,hres,hnd',hown,qd⟩:=hq;refine⟨rv,rfl,?_,λh=>qd (hD h)⟩;obtain⟨b1,b2,rfl,r1,r2⟩:=hres.split hvl;exact iP hm hσ hfree (by simp[hlen,e1]) hal hba p3 hcnt hvl hret haft r1 r2 hnd' hown
    .cases hr
   .cases hr
 .cases hr
theorem vV{o:Oper}{a:Act}{fo:Operand}{as:Array Operand}{ts:Array TypeId}(ho:o.op=.call ⟨.value fo,as,ts⟩){f:Nat}{caps:Array Value}(hf:a.eval fo=.func (.func f) #[] caps)(he:F6 P f):
 (execOp a.eval o).run P w=.ok (.enter f (as.map a.eval++caps)) w:=by
 obtain⟨fn,c,h1,h2,h3⟩:=he;have h2':fn.name≠"runtime.NumGoroutine" :=oq
 have:(callFunc f (as.map a.eval++caps)).run P w=.ok (.enter f (as.map a.eval++caps)) w:=by simp[callFunc,h1,h2',h3]
 simp[execOp,ho,resolve,hf,Deferred.ofValue,invoke,this]
theorem AA8:∀{l:SV} {vs:List Value},CR P w G l vs->l.list.length<=vs.length->∀(j:Nat) (s:SV) (v:Value),l.list[j]?=some s->vs[j]?=some v->SR P w G s v:=by
 intro l;induction l with
 |scons a b iha ihb=>
  intro vs h hl j s v hj hv;obtain⟨v',r,rfl,⟨c,h2,h3⟩,h4⟩:=h;cases j with
  |zero=>
   have e1:a=s:=by simpa[SV.list]using hj
   have e2:v'=v:=oz
   subst e1 e2;exact⟨c,h2,h3⟩
  |succ j=>exact ihb h4 (by simpa[SV.list]using hl) j s v (by simpa[SV.list]using hj) oz
 |_=>intro vs h hl j s v hj;simp[SV.list]at hj
theorem AA9:∀{l:SV} {vs:List Value},CR P w G l vs->K0 l=true->l.list.length=vs.length:=by
 intro l;induction l with
 |snil=>intro vs h _;have h:vs=[]:=h;rw[h];rfl
 |scons a b iha ihb=>
  intro vs h hk;obtain⟨v',r,rfl,_,h4⟩:=h;simp[SV.list,ihb h4 hk]
 |_=>intro vs h hk;cases hk
theorem AAA{σ:SSo}(ho:∀k o,σ k=some o->ObjOK P fr w G k o):∀{d:Ty} {l:List SV} {x:d.T} {vs:List Value},XA σ d l=some x->l.length=vs.length->
 (∀(j:Nat) (s:SV) (v:Value),l[j]?=some s->vs[j]?=some v->SR P w G s v)->ArgsV w G.im d x vs:=by
 have one:∀{d:Ty} {l:List SV} {x:d.T} {vs:List Value},(match l with|[s]=>s.asV σ d|_=>none)=some x->l.length=vs.length->
  (∀(j:Nat) (s:SV) (v:Value),l[j]?=some s->vs[j]?=some v->SR P w G s v)->∃v,vs=[v]/\VRel w G.im d x v:=by
  intro d l x vs h hl hs;rcases l with _|⟨s,_|⟨_,_⟩⟩<;>first|(cases h;done)|skip
  rcases vs with _|⟨v,_|⟨_,_⟩⟩<;>first|(cases hl;done)|skip
  exact⟨v,rfl,II ho h (hs 0 s v rfl rfl)⟩
 intro d;induction d with
 |prod a b iha ihb=>
  intro l x vs h hl hs;cases l with
  |nil=>cases h
  |cons s r=>
   cases vs with
   |nil=>cases hl
   |cons v vs=>
    simp only[XA]at h;split at h
    .rename_i y z h1 h2;cases h;exact⟨v,vs,rfl,II ho h1 (hs 0 s v rfl rfl),ihb h2 (by simpa using hl) λj s v h1 h2=>hs (j+1) s v ot oq⟩
    .cases h
 |_=>
  intro l x vs h hl hs;refine one ?_ hl hs;rcases l with _|⟨s,_|⟨_,_⟩⟩<;>exact h
theorem AAB:∀{c:Ty} {y:c.T} {vs:List Value},ArgsV w G.im c y vs->CR P w G (fH c y) vs:=by
 intro c;induction c with
 |prod a b iha ihb=>
  intro y vs h;obtain⟨v,r,rfl,⟨cs,h1,h2⟩,h3⟩:=h;exact⟨v,r,rfl,⟨cs,h1,h2⟩,ihb h3⟩
 |_=>
  intro y vs h;obtain⟨v,rfl,cs,h1,h2⟩:=h;exact⟨v,[],rfl,⟨cs,h1,h2⟩,rfl⟩
theorem vW{c:Ty}{y:c.T}{rv:Value}(h:RetV w G.im c y rv):SR P w G (fI c y) rv:=by
 cases c<;>first|exact h|skip
 obtain⟨vs,rfl,h⟩:=h;exact⟨_,rfl,vs,rfl,AAB h⟩
theorem AAC(hpin:Pins.P=P){fs:Nat->Option FSpec}{ks:Nat->Option KSpec}(hE:∀f sp,fs f=some sp->F6 P f/\FunOK P f sp)(hK:∀f s,ks f=some s->(F6 P f/\HS P f s)/\(fr.dr=true->s.sp.dr=true))(hD:fr.dr=true->∀f sp,fs f=some sp->sp.dr=true){dr:Bool}(hdr:fr.dr=true->dr=true)(hm:MemS P fr free σ w G)(hσ:∀k o,σ' k=some o->σ k=some o)(hfree:∀k,self<=k->k<self+8->free k)
 {o:Oper}{a:Act}{fo:Operand}{as:Array Operand}{ts:Array TypeId}(ho:o.op=.call ⟨.value fo,as,ts⟩){sf:SV}(hsf:SR P w G sf (a.eval fo)){args:List SV}{r:OpRes}{u:Upd}
 (hlen:args.length=as.toList.length)(hs:∀(j:Nat) (s:SV) (x:Operand),args[j]?=some s->as.toList[j]?=some x->SR P w G s (a.eval x))(hr:gM dr fs ks σ' self sf args=some r)(hu:Gives r u):
 Done P fr.dr o a w (Res P fr free self σ w G u):=by
 unfold gM at hr;split at hr
 .rename_i f caps;cases hk:K0 caps with
  |false=>rw[hk]at hr;cases hr
  |true=>
   rw[hk]at hr;obtain⟨cc,hcc,vs,h1,h2⟩:=hsf;have hf:a.eval fo=.func (.func f) #[] vs:=A5.1 ((show cc=[a.eval fo]from hcc).symm.trans h1);have hcl:=AA9 h2 hk
   have hall:∀(j:Nat) (s:SV) (v:Value),(args++caps.list)[j]?=some s->(as.toList.map a.eval++vs.toList)[j]?=some v->SR P w G s v:=by
    intro j s v hj hv;by_cases hlt:j<args.length
    .rw[AQ hlt]at hj;rw[AQ (by rw[B2,<-hlen];exact hlt),AV]at hv;cases hx:as.toList[j]? with
     |none=>rw[hx]at hv;cases hv
     |some x=>
      rw[hx]at hv;cases hv;exact hs j s x hj hx
    .have hle:args.length<=j:=DJ hlt;rw[AZ hle]at hj;rw[AZ (by rw[B2,<-hlen];exact hle),B2,<-hlen]at hv;exact AA8 h2 o5 _ s v hj hv
   obtain⟨he,hcall⟩:F6 P f/\Calls P f (as.toList.map a.eval++vs.toList).toArray w λe w'=>∃v,e=.returned v/\Res P fr free self σ w G u v w'/\(fr.dr=true->w.drawn<=w'.drawn):=by
    simp only[AA]at hr;split at hr
    .rename_i r' hx;cases hr;exact AA7 hE hK hm hσ hfree (by simp[hlen,hcl]) hall hx hu
    .exact AA2 hE hD hm hσ hfree (vals:=as.toList.map a.eval++vs.toList) (by simp[hlen,hcl]) hall hr hu
   refine Done.enter (vV ho hf he) ?_
   have e:(as.toList.map a.eval++vs.toList).toArray=as.map a.eval++vs:=by
    apply C4;simp
   rw[e]at hcall;exact hcall
 .rename_i nd d c F;cases hnd:(!dr||nd)with
  |false=>rw[hnd]at hr;cases hr
  |true=>
  rw[hnd]at hr;simp only[AA]at hr;split at hr
  .rename_i x hx;cases hr;obtain⟨y,hy,rfl⟩:=hu.may_inv;obtain⟨cc,hcc,f,vs,h1,he,h2⟩:=hsf;have hf:a.eval fo=.func (.func f) #[] vs:=A5.1 ((show cc=[a.eval fo]from hcc).symm.trans h1)
   have hv:=AAA (λk o h=>hm.objs k o (hσ k o h)) hx (vs:=as.toList.map a.eval) (by simp [hlen]) (λj s v hj hv=>by
    rw[AV]at hv;cases hx:as.toList[j]? with
    |none=>rw[hx]at hv;cases hv
    |some x=>
     rw[hx]at hv;cases hv;exact hs j s x hj hx)
   refine Done.enter (vV ho hf he) ?_
   have hargs:as.map a.eval++vs=(as.toList.map a.eval).toArray++vs:=by
    apply C4;simp
   rw[hargs];refine Calls.mono (h2 w G.im (Ext.refl _ _) hm.after.mem x _ hv y hy) λe w' hq=>?_;obtain⟨rv,I',rfl,ha,hrv,qd⟩:=hq;obtain⟨g1,g2⟩:=hm.called (ks:=[]) (bs:=[]) (λb hb=>by cases hb) (ha.mono λb hb=>absurd hb id);exact⟨rv,rfl,⟨_,g1,g2.shrink λ_ h=>h.1,vW hrv⟩,λh=>qd (by have:=hdr h;subst this;simpa using hnd)⟩
  .cases hr
 .cases hr
theorem AAD{o:Oper}{a:Act}{r:Operand}{m:String}{as:Array Operand}{ts:Array TypeId}(ho:o.op=.call ⟨.invoke r m,as,ts⟩)(has:as.toList=[]){id:Nat}{v:Value}(hv:a.eval r=.iface id v)
 {f:Nat}(hm:(method (P.types.size+Made.depth) id v m).run P w=.ok (f,v) w)(he:F6 P f):(execOp a.eval o).run P w=.ok (.enter f #[v]) w:=by
 obtain⟨fn,c,h1,h2,h3⟩:=he;have h2':fn.name≠"runtime.NumGoroutine" :=oq
 have hc:(callFunc f #[v]).run P w=.ok (.enter f #[v]) w:=by simp[callFunc,h1,h2',h3]
 have has':as= #[]:=by apply C4;simpa using has
 subst has'
 have hcm:(callMethod (.iface id v) m #[]).run P w=.ok (.enter f #[v]) w:=by
  simp only[callMethod,Sem.run_bind,run_program,Result.andThen_ok,hm];exact hc
 simp[execOp,ho,resolve,hv,invoke,hcm]
theorem AAE{fs:Nat->Option FSpec}(hE:∀f sp,fs f=some sp->F6 P f/\FunOK P f sp){D:Prop}(hD:D->∀f sp,fs f=some sp->sp.dr=true){mt:Nat->Option Nat}{m:String}
 (hM:∀id f,mt id=some f->∀(v:Value) (w:World),(method (P.types.size+Made.depth) id v m).run P w=.ok (f,v) w){c:Ty}(hw:GM w G.im):
 ∀{u:Ty} {F:u.T->Option c.T} {x:u.T} {y:c.T} {v:Value},XB fs mt c u=some F->F x=some y->Rel w G.im u x [v]->
 ∃id v' f,v=.iface id v'/\(method (P.types.size+Made.depth) id v' m).run P w=.ok (f,v') w/\F6 P f/\
  Calls P f #[v'] w λe w'=>∃rv I',e=.returned rv/\After QP w G.im w' I'/\RetV w' I' c y rv/\(D->w.drawn<=w'.drawn):=by
 intro u;induction u with
 |inil=>intro F x y v h hy _;cases h;cases hy
 |ialt id t r _ ihr=>
  intro F x y v h hy hr;unfold XB at h;split at h
  .rename_i f hf;cases hip:J_ t with
   |true=>rw[hip]at h;cases h
   |false=>
   rw[hip]at h;simp only[AC]at h;split at h
   .rename_i F1 F2 h1 h2;cases h;cases x with
    |inl z=>
     obtain⟨v',cs,e1,e2,e3⟩:=hr;have hh:=vA (P:=P) (w:=w) (G:=G) (fr:=⟨QP,w,G.im,λ_=>none,false⟩) (σ:=λ_=>none) (D:=D) (λk o h=>oe) hE (λh=>.inr ⟨hD h,λ_ _ _ _ he=>by cases he⟩) h1 (cs:=[.func (.func f) #[] #[]]) ⟨#[],rfl,rfl⟩;obtain⟨f',vs',e4,hent,hcall⟩:=hh;cases e4
     have ha:ArgsV w G.im t z [v']:=by
      have:∃v,[v']=[v]/\VRel w G.im t z v:=⟨v',rfl,cs,e2,e3⟩;cases t with
      |prod a b=>cases hip
      |_=>exact this
     have:=hcall w G.im (Ext.refl _ _) hw z [v'] ha y hy;exact⟨id,v',f,A5.1 e1,hM id f hf v' w,hent,this⟩
    |inr z=>exact ihr h2 hy hr.2
   .cases h
  .cases h
 |_=>intro F x y v h;cases h
theorem AAF{fs:Nat->Option FSpec}(hE:∀f sp,fs f=some sp->F6 P f/\FunOK P f sp)(hD:fr.dr=true->∀f sp,fs f=some sp->sp.dr=true){mt:String->Nat->Option Nat}
 (hM:∀m id f,mt m id=some f->∀(v:Value) (w:World),(method (P.types.size+Made.depth) id v m).run P w=.ok (f,v) w)(hm:MemS P fr free σ w G)
 {o:Oper}{a:Act}{ro:Operand}{m:String}{as:Array Operand}{ts:Array TypeId}(ho:o.op=.call ⟨.invoke ro m,as,ts⟩)(has:as.toList=[]){s:SV}(hs:SR P w G s (a.eval ro)){c:Ty}{r:OpRes}{u:Upd}
 (hr:gN fs mt c m s=some r)(hu:Gives r u):Done P fr.dr o a w (Res P fr free self σ w G u):=by
 unfold gN at hr;split at hr
 .rename_i ut x;split at hr
  .rename_i F hF;cases hr;obtain⟨y,hy,rfl⟩:=hu.may_inv;obtain⟨cs,h1,h2⟩:=hs
   have hcs:cs=[a.eval ro]:=by
    cases ut with
    |ialt _ _ _=>exact h1
    |inil=>exact h1
    |_=>cases hF
   subst hcs;obtain⟨tid,v',f,hv,hmt,hent,hcall⟩:=AAE hE hD (hM m) hm.after.mem hF hy h2;refine Done.enter (AAD ho has hv hmt hent) ?_;refine Calls.mono hcall λe w' hq=>?_;obtain⟨rv,I',rfl,ha,hrv,qd⟩:=hq;obtain⟨g1,g2⟩:=hm.called (ks:=[]) (bs:=[]) (λb hb=>by cases hb) (ha.mono λb hb=>absurd hb id);exact⟨rv,rfl,⟨_,g1,g2.shrink λ_ h=>h.1,vW hrv⟩,qd⟩
  .cases hr
 .cases hr
theorem Done.calm{o:Oper}{a:Act}{u:Upd}(hm:MemS P fr free σ w G)(h:u.wr=[]/\∃z,(execOp a.eval o).run P w=.ok (.value z) w/\SR P w G u.sv z):Done P fr.dr o a w (Res P fr free self σ w G u):=by
 obtain⟨h1,z,h2,h3⟩:=h;obtain⟨sv,wr⟩:=u;have h1:wr=[]:=h1;subst h1;exact Done.value h2 (Res.same hm h3)
theorem Done.makes{o:Oper}{a:Act}{u:Upd}(h:∃z w',(execOp a.eval o).run P w=.ok (.value z) w'/\Res P fr free self σ w G u z w'):Done P fr.dr o a w (Res P fr free self σ w G u):=by
 obtain⟨z,w',h2,h3⟩:=h;exact Done.value h2 h3
theorem Done.writes{o:Oper}{a:Act}{u:Upd}(h:∃w',(execOp a.eval o).run P w=.ok .skip w'/\Res P fr free self σ w G u undef w'):Done P fr.dr o a w (Res P fr free self σ w G u):=by
 obtain⟨w',h2,h3⟩:=h;exact Done.skip h2 h3
end
open Go.MapKept
section
variable{P:Program}{fr:Fr}{free free':Nat->Prop}{self:Nat}{σ σ':SSo}{w w':World}{G G':Gh}{I:Im}
theorem AAG(k:Nat):IH k (k+1)=true:=by
 simp only[IH,Nat.blt,A4];exact⟨C5 o5,C5 o5⟩
theorem YF{m:Value}{j g:Nat}(hm:SR P w G (.obj j g) m):G.val j g=some m:=by
 obtain⟨c,hc,v2,k3,_,k5⟩:=hm;have:[m]=[v2]:=(show c=[m]from hc).symm.trans k5;rw[k3,A5.1 this]
theorem YG{bss:List (List Nat)}{i:Nat}{c:List Nat}(h:i<bss.length):(bss.set i c).flatten=(bss.take i).flatten++(c++(bss.drop (i+1)).flatten):=by
 rw[List.set_eq_take_append_cons_drop,if_pos h];simp
theorem iR{bss:List (List Nat)}{i:Nat}(h:i<bss.length):bss.flatten=(bss.take i).flatten++(bss.getD i []++(bss.drop (i+1)).flatten):=by
 have:=YG (c:=bss.getD i []) h;rw[<-this]
 congr 1
 rw[AG,A0 h];simp
theorem iS{bss:List (List Nat)}{i j:Nat}{c:List Nat}(h:i<bss.length):(bss.set i c).getD j []=if i=j then c else bss.getD j []:=by
 rw[AG,AG,List.getElem?_set];by_cases e:i=j
 .subst e;simp[h]
 .simp[e]
theorem TY{i:Nat}:QQ none i=none:=rfl
theorem iT{i j:Nat}:QQ (some [j]) i=if j=i then some []else none:=by
 simp only[QQ];by_cases h:j=i
 .subst h;simp[CH]
 .rw[if_neg h,show Nat.beq j i=false by rw[<-BO];exact λhh=>h (A2 hh)];rfl
theorem DV.inv1{ow:Nat->Prop}{id:Nat}{t:Ty}{xs:List t.T}{v:Value}{bs:List Nat}(h:DV ow w I t [id] xs none [v] bs):
 (v=.slice none 0 0/\xs=[]/\bs=[])\/∃b o cap cells,v=.slice (some ⟨b,o,none⟩) xs.length cap/\bs=[b]/\GL xs.length cap/\RowAt w b cells id/\o+cap*t.sz<=cells.size/\ow b/\
  (∀c,¬I.cell b c)/\¬I.obj b/\RowsOK w I t xs (cells.toList.drop o):=by
 have h0:=h;obtain⟨v',h1,_,h2⟩:=h0;have e:v=v':=A5.1 h1;subst e;rcases h2 with⟨h2,_⟩|⟨_,h3,h4,h5⟩|⟨_,b,o,cap,_,_,hv,_⟩
 .cases h2
 .exact .inl ⟨h3,h4,h5⟩
 .obtain⟨cells,h3,q1,q2,q3,q4,q5,q6,q7,q9⟩:=h.leaf hv;exact .inr ⟨b,o,cap,cells,hv,q7,q1,q2,q3,q4,q5,q6,λi x hx=>by rw[CM];exact q9 i x hx⟩
theorem DV.mk1{ow:Nat->Prop}{id b o cap:Nat}{t:Ty}{xs:List t.T}{cells:Array Value}(q1:GL xs.length cap)(q2:RowAt w b cells id)(q3:o+cap*t.sz<=cells.size)(q4:ow b)
 (q5:∀c,¬I.cell b c)(q6:¬I.obj b)(q9:RowsOK w I t xs (cells.toList.drop o)):DV ow w I t [id] xs none [.slice (some ⟨b,o,none⟩) xs.length cap] [b]:=
 DV.mkleaf q1 q2 q3 q4 q5 q6 λi x hx=>by
  have:=q9 i x hx;rw[CM]at this;exact this
theorem AAH{free:Nat->Prop}{self j:Nat}(h:HO free self j):free j/\¬(self<=j/\j<self+2):=by
 have h2:=h.2;refine⟨h.1,λhj=>?_⟩
 have:IH self j=true:=by
  simp only[IH,Nat.blt,A4];exact⟨C5 hj.1,C5 o5⟩
 rw[this]at h2;cases h2
theorem MemS.mk_dp(hm:MemS P fr free σ w G)(hself:free self)(hself1:free (self+1)){id:Nat}{r:List Nat}{t:Ty}{x:(E4 (id::r) t).T}{v:Value}{bs:List Nat}
 (hd:DV fr.owned w G.im t (id::r) x none [v] bs)(hnd:bs.Nodup)(hsep:∀b∈bs,∀j o,σ j=some o->¬Bk G j o b):
 ∃G',GLe w G w G'/\MemS P fr (HO free self) (EK σ [(self,some (.dp (id::r) t x (self+1) none true))]) w G'/\SR P w G' (.obj self 0) v:=by
 obtain ⟨G',h1,h2,_⟩:=vD (n:=self) hm (ids:=id::r) (t:=t) (x:=x) (cs:=[v]) ⟨(by intro h; cases h),hd.own λ_ _=>trivial⟩ hnd (λb hb=>⟨(hd.blk b hb).2.1,hsep b hb⟩) (λk h1 h2=>by
  rcases CL self k with h|h
  .have:k=self+1:=o5
   rw[this];exact hself1
  .have:k=self:=o5
   rw[this];exact hself)
 exact⟨G',h1.le,h1.mem.shrink λj hj=>AAH hj,[v],rfl,h2⟩
theorem LL{k:Nat}{id:Nat}{r:List Nat}{t:Ty}{x:(E4 (id::r) t).T}{gk:Nat}{h:Option (List Nat)}{us:Array Value}{bs:List Nat}(h2:G.val gk 0=some (.tuple us))(h3:us.toList=List.map HJ bs){b:Nat}:
 Bk G k (.dp (id::r) t x gk h true) b<->b∈bs:=by
 constructor
 .rintro⟨_,us',h4,h5⟩;rw[h2]at h4;cases h4;exact(KR h3).1 h5
 .intro h;exact⟨rfl,us,h2,(KR h3).2 h⟩
theorem MemS.touch(hm:MemS P fr free σ w G){k b:Nat}(hnk:¬free k)(hb:∀j o,j≠k->σ j=some o->¬Bk G j o b)(hC:∀o,¬G.im.cell b o)(hO:¬G.im.obj b)(hown:fr.owned b)
 (hw:∀b',b'<w.heap.size->b'≠b->w'.heap[b']?=w.heap[b']?)(hsz:w.heap.size<=w'.heap.size)(hbs:b<w'.heap.size)
 (hos:w'.os=w.os)(htape:w'.tape=w.tape)(hout:w'.output=w.output):
 GLe w G w' G/\MemS P fr free (EK σ [(k,none)]) w' G:=by
 have hle:GLe w G w' G:=by
  refine⟨⟨λb' o h=>⟨h,?_⟩,λb' h=>⟨h,?_⟩⟩,λ_ _ _ h=>h,λ_ _ h=>h,λ_ _ h=>h⟩
  .have:b'≠b:=λe=>hC o (e▸h);simp only[World.cell?,hw b' (hm.after.inC b' o h) this]
  .exact hw b' (hm.after.inO b' h) (λe=>hO (e▸h))
 refine⟨hle,hm.change (b:=b) (o':=none) hle hb hw hsz hbs hown (λ_ _ h=>.inl h) (λ_ h=>.inl h) hos htape hout (λo h=>oe) λj hj=>?_⟩;have hf:=hm.fresh j hj;exact⟨λe=>hnk (e▸hj),hj,hf.2⟩
theorem YH{k:Nat}{o:Obj}(hm:MemS P fr free σ w G)(hk:σ k=some o):¬free k:=λh=>by
 have:=(hm.fresh k h).1;rw[hk]at this;cases this
theorem AAI{e':Ty}{id el ty k gk:Nat}(hl:Lay P (.slice e') id)(hel:∀x,P.underlying id=some (.slice x)->el=x)(hm:MemS P fr free σ w G)(hself:free self)(hself1:free (self+1))
 {xs ys zs:List e'.T}{v vx:Value}(hkσ:σ k=some (.dp [el] e' xs gk none true))(hs:SR P w G (.obj k 0) v)(hv0:QU P w G.im e' id ys vx)(hz:app? (24*e'.sz) xs ys=some zs):
 ∃z w',(Builtin.append_ #[id,id] ty #[v,vx]).run P w=.ok z w'/\Res P fr free self σ w G ⟨.obj self 0,[(self,some (.dp [el] e' zs (self+1) none true)),(k,none)]⟩ z w':=by
 have hnk:=YH hm hkσ;obtain⟨_,hety,v',us,bs,k1,k2,k3,k4,k5⟩:=DpOK.inv (hm.objs _ _ hkσ);have hv:=YF hs;rw[k1]at hv;cases hv;have hbk:∀b,Bk G k (.dp [el] e' xs gk none true) b<->b∈bs:=λb=>LL k2 k3;obtain⟨el',hun,hle,hpos⟩:=hl.slice;have:=hel _ hun;subst this;obtain⟨hB,hzs⟩:=XZ hz;subst hzs;obtain⟨i,z,h1,h2',h3,h4,h5,h6⟩:=MN (P:=P) (w:=w) (I:=G.im) hle;have hvs:=hv0;obtain⟨news,s1,s2,s3⟩:=hvs;rw[<-h2']at s1
 have fin:∀{w':World} {b o cap:Nat} {cells:Array Value},(∀j ob,j≠k->σ j=some ob->¬Bk G j ob b)->(∀c,¬G.im.cell b c)->¬G.im.obj b->fr.owned b->
  (∀b',b'<w.heap.size->b'≠b->w'.heap[b']?=w.heap[b']?)->w.heap.size<=w'.heap.size->w'.os=w.os->w'.tape=w.tape->w'.output=w.output->
  GL (xs++ys).length cap->RowAt w' b cells el->o+cap*e'.sz<=cells.size->RowsOK w G.im e' (xs++ys) (cells.toList.drop o)->
  Res P fr free self σ w G ⟨.obj self 0,[(self,some (.dp [el] e' (xs++ys) (self+1) none true)),(k,none)]⟩ (.slice (some ⟨b,o,none⟩) (xs++ys).length cap) w':=by
  intro w' b o cap cells a1 a2 a3 a4 a5 a6 a7 a8 a9 a10 a11 a12 a13;obtain⟨g1,m1⟩:=hm.touch (w':=w') hnk a1 a2 a3 a4 a5 a6 a11.lt a7 a8 a9
  obtain ⟨G',g2,m2,m3⟩:=m1.mk_dp hself hself1 (id:=el) (r:=[]) (t:=e') (x:=(xs++ys:List e'.T)) (DV.mk1 (id:=el) (t:=e') a10 a11 a12 a4 a2 a3 (a13.ext g1.ext)) oc (λb' hb' j ob hj hbj=>by
   have:b'=b:=by simpa using hb'
   subst this;rw[FK]at hj;by_cases e:j=k
   .rw[if_pos e]at hj;cases hj
   .rw[if_neg e]at hj;exact a1 j ob e hj hbj)
  exact ⟨G',g1.trans g2,by
   show MemS P fr (HO free self) (EK σ ([(self,some (.dp [el] e' (xs++ys) (self+1) none true))]++[(k,none)])) w' G';rw[FW];exact m2,m3⟩
 have hnew:(∀j ob,j≠k->σ j=some ob->¬Bk G j ob w.heap.size)/\(∀c,¬G.im.cell w.heap.size c)/\¬G.im.obj w.heap.size:=
  ⟨λj ob _ hj hbj=>absurd (HP (hm.objs j ob hj) hbj) (AH _),λc h=>absurd (hm.after.inC _ _ h) (AH _),λh=>absurd (hm.after.inO _ h) (AH _)⟩
 have grow:∀{base:Option Addr} {cap:Nat} {olds:List Value},cap<xs.length+ys.length->(Builtin.firstCells e'.sz xs.length (.slice base xs.length cap)).run P w.drew=.ok olds.toArray w.drew->
  olds.length=xs.length*e'.sz->RowsOK w G.im e' xs olds->∃z w',(Builtin.append_ #[id,id] ty #[.slice base xs.length cap,vx]).run P w=.ok z w'/\
  Res P fr free self σ w G ⟨.obj self 0,[(self,some (.dp [el] e' (xs++ys) (self+1) none true)),(k,none)]⟩ z w':=by
  intro base cap olds hcap hold hol hor
  have hbig:(xs.length+ys.length)*i.bytes<=140737488355328:=by
   have:(xs.length+ys.length)*i.bytes<=(xs.length+ys.length)*(24*e'.sz):=C6 _ h3;have hB:(xs.length+ys.length)*(24*e'.sz)<=70368744177664:=hB;omega
  have hB:(xs.length+ys.length)*(24*e'.sz)<=70368744177664:=hB
  have h63:xs.length+ys.length<=70368744177664:=by
   have:(xs.length+ys.length)*1<=(xs.length+ys.length)*(24*e'.sz):=C6 _ o5;omega
  have hrun:=run_append_grow_src w id id ty el i z hun h1 h4 base xs.length cap olds (by rw[h2'];exact hold) vx ys.length news s1 hcap o5 (growslice_fits hcap hbig);have hge:=grownCap_ge w (xs.length+ys.length) cap el;have hzs:z.cells.size=e'.sz:=by have:=h6.length;simpa using this
  have:=fin (w':=w.drew.alloc (.cells ((olds++news).toArray++Builtin.zeroCells z.cells (grownCap w (xs.length+ys.length) cap el-(xs.length+ys.length))) el)) (b:=w.heap.size) (o:=0)
   (cap:=grownCap w (xs.length+ys.length) cap el) (cells:=((olds++news).toArray++Builtin.zeroCells z.cells (grownCap w (xs.length+ys.length) cap el-(xs.length+ys.length))))
   hnew.1 hnew.2.1 hnew.2.2 hm.owned_new (λb' h _=>by show(w.heap.push _)[b']?=_;rw[CP h,AY h]) (by show _<=(w.heap.push _).size;simp) rfl rfl rfl
   (by rw[A6];exact⟨hge,o5⟩) ⟨(0,0),by show(w.heap.push _)[_]?=_;rw[CJ],.inl (AB _)⟩
   (by
    rw[B8,Array.size_append,size_zeroCells,hzs,BJ,A6,hol,s2,<-CF,<-CF];refine B1 _ ?_;omega)
   (by
    rw[DG,Array.toList_append,B_];exact RowsOK.append hor s3 hol s2)
  rw[A6]at this;exact⟨_,_,hrun,this⟩
 rcases k5.inv1 with⟨rfl,hx0,hb0⟩|⟨b,o,cap,cells,rfl,hb0,hcap,hrow,hsz,hown,hC,hO,hrows⟩
 .have hx0:xs=([]:List e'.T):=hx0;subst hx0;by_cases h0:ys.length=0
  .have hy:ys=[]:=AJ h0;subst hy;have hn:news=[]:=AJ (by simpa using s2);subst hn;have m0:=hm.drop k;obtain⟨G',g2,m2,m3⟩:=m0.mk_dp hself hself1 (id:=el) (r:=[]) (t:=e') (x:=([]:List e'.T)) (v:=.slice none 0 0) (bs:=[]) ⟨_,rfl,rfl,.inr (.inl ⟨ou,rfl,rfl,rfl⟩)⟩ B6 (λb hb=>by cases hb);refine⟨.slice none 0 0,w,?_,G',g2,?_,m3⟩
   .have hl1:=s1.len w;have hc1:=s1.cells;simp at hc1;rcases s1.kind with⟨e',hk⟩|hk<;>simp[Builtin.append_,run_underlying hun,run_underlying hk,sizeOf,typeInfo,h1,hl1,hc1]
   .show MemS P fr (HO free self) (EK σ ([(self,some (.dp [el] e' [] (self+1) none true))]++[(k,none)])) w G';rw[FW];exact m2
  .exact grow (base:=none) (cap:=0) (olds:=[]) og (run_firstCells_none _ _ _ _ _) oc (λi x hx=>by simp at hx)
 .have hbin:∀j ob,j≠k->σ j=some ob->¬Bk G j ob b:=λj ob hj ho hbj=>hj (hm.sep j k ob _ b ho hkσ hbj ((hbk b).2 (by rw[hb0];simp)));have hle2:xs.length*e'.sz<=cap*e'.sz:=B1 _ hcap.1;have hfull:o+xs.length*e'.sz<=cells.size:=o5
  have hcell:∀o,w.cell? ⟨b,o,none⟩=cells.toList[o]?:=hrow.cell;have hB':(xs.length+ys.length)*(24*e'.sz)<=70368744177664:=hB;by_cases hroom:xs.length+ys.length<=cap
  .have hroom2:(xs.length+ys.length)*e'.sz<=cap*e'.sz:=B1 _ hroom;rw[CF]at hroom2;have hfit:o+xs.length*e'.sz+news.length<=cells.size:=by rw[s2];omega
   obtain⟨fz,hb1,hfz⟩:=(show RowAt w b cells el from hrow);have hst:=TT P b (o+xs.length*e'.sz) el fz news 0 cells w hb1 (hfz.imp (λh=>h) And.left) o5 s1.one
   have hrun:(Builtin.append_ #[id,id] ty #[.slice (some ⟨b,o,none⟩) xs.length cap,vx]).run P w=
    .ok (.slice (some ⟨b,o,none⟩) (xs.length+ys.length) cap) (w.setRow b (F4 cells.toList (o+xs.length*e'.sz) news).toArray):=by
    have hl1:=s1.len w;have hc1:=s1.cells;rw[h2']at hc1;simp only[CI]at hst;rcases s1.kind with⟨e',hk2⟩|hk2<;>simp[Builtin.append_,run_underlying hun,run_underlying hk2,sizeOf,typeInfo,h1,h2',hl1,hroom,hc1,Addr.add_lit,hst,F4]
   have hspl:(F4 cells.toList (o+xs.length*e'.sz) news).length=cells.size:=by rw[JM (by simpa using hfit)];simp
   have:=fin (w':=w.setRow b (F4 cells.toList (o+xs.length*e'.sz) news).toArray) (b:=b) (o:=o) (cap:=cap) (cells:=(F4 cells.toList (o+xs.length*e'.sz) news).toArray)
    hbin hC hO hown (λb' _ hne=>setRow_other w b b' _ hne) oc rfl rfl rfl
    (by
     rw[A6];have h63:(xs.length+ys.length)*1<=(xs.length+ys.length)*(24*e'.sz):=C6 _ o5;exact⟨hroom,o5⟩) (hrow.set (by rw[BJ,hspl])) (by rw[BJ,hspl];exact hsz)
    (by
     show RowsOK w G.im e' (xs++ys) ((F4 cells.toList (o+xs.length*e'.sz) news).drop o);rw[iD (by simpa using hfit)];exact RowsOK.append (RowsOK.take hrows (AB _)) s3 og s2)
   rw[A6]at this;exact⟨_,_,hrun,this⟩
  .exact grow (base:=some ⟨b,o,none⟩) (cap:=cap) (olds:=(cells.toList.drop o).take (xs.length*e'.sz)) o5
    (run_firstCells_some _ _ _ _ _ _ _ (by simp; omega) (λj u hj=>by
     rw[World.cell?_drew,Addr.add_lit,hcell];rw[AK]at hj;split at hj
     .rw[AR]at hj;exact hj
     .cases hj)) og (RowsOK.take hrows (AB _))
theorem AAJ{t:Ty}{id:Nat}(hl:Lay P t id)(hm:MemS P fr free σ w G)(hσ:∀k o,σ' k=some o->σ k=some o)(hself:free self)(hself1:free (self+1))
 {s:SV}{v:Value}{lo hi:Option SV}{vlo vhi:Option Value}{r:OpRes}{u:Upd}(hr:T3 σ' self t s lo hi=some r)(hu:Gives r u)(hs:SR P w G s v)(hlo:JN P w G lo vlo)(hhi:JN P w G hi vhi):
 ∃z,(Instr.sliceAt id v vlo vhi none).run P w=.ok z w/\Res P fr free self σ w G u z w:=by
 have key:∀{k el:Nat} {e:Ty} {xs:List e.T} {ob:Obj} {bs:List Nat},t=.slice e->σ k=some ob->G.val k 0=some v->DV fr.owned w G.im e [el] xs none [v] bs->(∀b∈bs,Bk G k ob b)->X2 self k el e xs lo hi=some r->
  ∃z,(Instr.sliceAt id v vlo vhi none).run P w=.ok z w/\Res P fr free self σ w G u z w:=by
  intro k el e xs ob bs ht hkσ hval hdv hbk hr2;subst ht;obtain⟨el',hun,hle,_⟩:=hl.slice;obtain⟨inf,z0,hinf,hisz,_,_,_⟩:=IU hle.inf;have hc2:P.cellsOf el'=e.sz:=by simp[Program.cellsOf,hinf,hisz]
  unfold X2 at hr2;split at hr2
  .rename_i l h' hbl hbh;cases hr2;obtain⟨y,hy,rfl⟩:=hu.may_inv;obtain⟨h1,h2,h3,h4⟩:=cut?_some hy;have hylen:y.length=h'.toNat-l.toNat:=by rw[h4];simp only[BP,B4];omega
   have m0:=hm.drop k
   have fin:∀{z:Value} {bs':List Nat},DV fr.owned w G.im e [el] y none [z] bs'->bs'.Nodup->(∀b∈bs',b∈bs)->
    Res P fr free self σ w G ⟨.obj self 0,[(self,some (.dp [el] e y (self+1) none true)),(k,none)]⟩ z w:=by
    intro z bs' d1 d2 d3
    obtain ⟨G',g2,m2,m3⟩:=m0.mk_dp hself hself1 (id:=el) (r:=[]) (t:=e) (x:=(y:List e.T)) d1 d2 (λb hb j o hj hbj=>by
     rw[FK]at hj;by_cases e:j=k
     .rw[if_pos e]at hj;cases hj
     .rw[if_neg e]at hj;exact e (hm.sep j k o ob b hj hkσ hbj (hbk b (d3 b hb))))
    exact ⟨G',g2,by
     show MemS P fr (HO free self) (EK σ ([(self,some (.dp [el] e y (self+1) none true))]++[(k,none)])) w G';rw[FW];exact m2,m3⟩
   rcases hdv.inv1 with⟨rfl,rfl,_⟩|⟨b,o,cap,cells,rfl,hb0,hcap,hrow,hsz,hown,hC,hO,hrows⟩
   .have hsb:=TO (P:=P) (w:=w) (isS:=true) (len:=0) (cap:=0) (M0 hbl hlo) (M0 hbh hhi) h1 h2 (by simpa using h3);have hh0:h'.toNat=0:=by simp at h3;omega
    have hl0:l.toNat=0:=o5
    have hy0:y=[]:=AJ o5;subst hy0;refine⟨.slice none 0 0,?_,fin (bs':=[]) ⟨_,rfl,rfl,.inr (.inl ⟨ou,rfl,rfl,rfl⟩)⟩ B6 (λb hb=>by cases hb)⟩;simp only[Instr.sliceAt,Sem.run_bind,run_underlying hun,Result.andThen_ok,Instr.slice,hsb,run_sizeOf w hinf,hc2,hh0,hl0];rfl
   .have hcap1:=hcap.1;have hsb:=TO (P:=P) (w:=w) (isS:=true) (len:=xs.length) (cap:=cap) (M0 hbl hlo) (M0 hbh hhi) h1 h2 o5
    have hrun:(Instr.sliceAt id (.slice (some ⟨b,o,none⟩) xs.length cap) vlo vhi none).run P w=
     .ok (.slice (if cap=l.toNat then some ⟨b,o,none⟩else some ⟨b,o+l.toNat*e.sz,none⟩) (h'.toNat-l.toNat) (cap-l.toNat)) w:=by
     simp only[Instr.sliceAt,Sem.run_bind,run_underlying hun,Result.andThen_ok,Instr.slice,hsb,run_sizeOf w hinf,hc2,BD,K6];rfl
    have hmul:l.toNat*e.sz<=cap*e.sz:=B1 _ o5;refine⟨_,hrun,?_⟩;rw[<-hylen];by_cases hcl:cap=l.toNat
    .rw[if_pos hcl];have hy0:y=[]:=AJ o5;subst hy0;exact fin (DV.mk1 (xs:=([]:List e.T)) ⟨BQ _,BQ _⟩ hrow (by rw[hcl,DU,Nat.zero_mul];omega) hown hC hO (λi x hx=>by simp at hx)) oc (λb' hb'=>by rw[hb0];exact hb')
    .rw[if_neg hcl];refine fin (DV.mk1 ⟨o5,by have:=hcap.2;omega⟩ hrow (by rw[Nat.sub_mul];omega) hown hC hO (λi x hx=>?_)) oc (λb' hb'=>by rw[hb0];exact hb')
     have hx':xs[l.toNat+i]?=some x:=by
      rw[h4,AR,AK]at hx;split at hx
      .exact hx
      .cases hx
     have:=hrows _ _ hx';rw[CM]at this ⊢;rw[CF,<-C7]at this;exact this
  .cases hr2
 unfold T3 at hr;split at hr
 .rename_i e k g;split at hr
  .rename_i el e' xs gk hk;cases hb:(Nat.beq g 0&&e'.same e)with
   |false=>rw[hb]at hr;cases hr
   |true=>
    rw[hb]at hr;simp only[A4]at hb;have e1:=A2 hb.1;have e3:=Ty.same_eq hb.2;subst e1 e3;have hkσ:=hσ _ _ hk;obtain⟨_,hety,v',us,bs,k1,k2,k3,k4,k5⟩:=DpOK.inv (hm.objs _ _ hkσ);have hv:=YF hs;rw[k1]at hv;cases hv;exact key rfl hkσ k1 k5 (λb hb=>(LL k2 k3).2 hb) hr
  .rename_i el e' xs g' hk;cases hb:(Nat.beq g 0&&(Nat.beq g' 0&&e'.same e))with
   |false=>rw[hb]at hr;cases hr
   |true=>
    rw[hb]at hr;simp only[A4]at hb;have e1:=A2 hb.1;have e2:=A2 hb.2.1;have e3:=Ty.same_eq hb.2.2;subst e1 e2 e3;have hkσ:=hσ _ _ hk;obtain⟨_,v',k1,k2⟩:=hm.objs _ _ hkσ;have hv:=YF hs;rw[k1]at hv;cases hv;obtain⟨bs,d1,d2,d3⟩:=SlOK.dv k2;refine key rfl hkσ k1 d1 (λb hb=>?_) hr;obtain⟨_,_,cap,cells,e1,_⟩:=k2.slice (d3 b hb);simp only[Bk,k1,e1]
  .cases hr
 .cases hr
theorem MemS.grow1(hm:MemS P fr free σ w G)(hold:∀b,b<w.heap.size->w'.heap[b]?=w.heap[b]?)(hsz:w.heap.size<=w'.heap.size)(hos:w'.os=w.os)(htape:w'.tape=w.tape)(hout:w'.output=w.output):
 GLe w G w' G/\MemS P fr free σ w' G:=by
 have hext:Ext w G.im w' G.im:=⟨λb o h=>⟨h,by simp only[World.cell?,hold b (hm.after.inC b o h)]⟩,λb h=>⟨h,hold b (hm.after.inO b h)⟩⟩;have hle:GLe w G w' G:=⟨hext,λ_ _ _ h=>h,λ_ _ h=>h,λ_ _ h=>h⟩;refine⟨hle,λj o h=>(hm.objs j o h).keep hle λb hb=>⟨hold b (HP (hm.objs j o h) hb),λ_ h=>h,λh=>h⟩,hm.sep,?_,hm.fresh⟩
 exact hm.after.trans (gv':=QP) ⟨hext,λb hb _=>hold b hb,hsz,λ_ _ h=>.inl h,λ_ h=>.inl h,λb o h=>B0 (hm.after.inC b o h) hsz,λb h=>B0 (hm.after.inO b h) hsz,
  hos,htape,hout,hm.after.pins.ext hext⟩ (λb h=>h.elim)
theorem AAK{z:Value}{n i:Nat}(h:i<n):((madeCells #[z] n).toList.drop i).take 1=[z]:=by
 rw[CS (by simpa[size_madeCells]using h)];simp[madeCells,Nat.mod_one]
theorem iU{e:Ty}{el:Nat}(hle:Lay P (.slice e) el):∃i,P.info? el=some i/\i.size=1/\i.bytes<=24/\i.zero=some (.slice none 0 0):=by
 obtain⟨i,v,h1,h2,h3,h4,h5⟩:=IU hle.inf
 have hv:v=.slice none 0 0:=by
  simp only[zv]at h5;split at h5
  .cases h5
  .unfold NK at h5;split at h5
   .rename_i hz;simp only[zc]at hz;split at hz
    .rename_i r' he;cases he;rfl
    .cases hz
   .cases h5
 subst hv;exact⟨i,h1,h2,h3,h4⟩
theorem AAL{t:Ty}{id n:Nat}{ids:List Nat}(hl:Lay P t id)(hm:MemS P fr free σ w G)(hself:free self)(hself1:free (self+1)){a b:Int}(hin:G6 .i64 b)
 {r:OpRes}{u:Upd}(hr:QJ self n ids t a b=some r)(hu:Gives r u)(hids:∃l,ids=(match P.underlying id with|some (.slice x)=>x|_=>0)::l):
 ∃v w',(Instr.makeSlice id (.int .i64 a) (.int .i64 b)).run P w=.ok v w'/\Res P fr free self σ w G u v w':=by
 unfold QJ at hr;split at hr
 .rename_i el id2 q;split at hr
  .rename_i lf _;cases hsm:(E4 (el::id2::q) lf).same t with
   |false=>rw[hsm]at hr;cases hr
   |true=>
    rw[hsm]at hr;have ht:=Ty.same_eq hsm;subst ht;cases hr;obtain⟨zs,hz,rfl⟩:=hu.may_inv;have hl:Lay P (.slice (E4 (id2::q) lf)) id:=hl;obtain⟨el',hun,hle,hpos⟩:=hl.slice;obtain⟨l,hids⟩:=hids;rw[hun]at hids;injection hids with hel _;have hel:el=el':=hel;subst hel;obtain⟨h0,hab,hB,rfl⟩:=uI hz;obtain⟨i,h1,h2,h3,h4⟩:=iU (P:=P) (e:=E4 q lf) hle
    have hb3:(i.bytes:Int)*b<=281474976710656:=by
     have hb0:b=(b.toNat:Int):=o5
     have hh:i.bytes*b.toNat<=281474976710656:=by
      have:i.bytes*b.toNat<=b.toNat*24:=by rw[CU];exact C6 _ h3
      omega
     rw[hb0,<-Int.natCast_mul];exact Int.ofNat_le.2 hh
    have hb4:b<=9223372036854775807:=hin.2;have hrun:=run_make (P:=P) w id el i _ hun h1 h4 .i64 .i64 a b h0 hab hb3 hb4;rw[h2,CV]at hrun;have hcells:(Value.slice none 0 0).cells= #[.slice none 0 0]:=rfl;rw[hcells]at hrun
    obtain ⟨hle1,m1⟩:=hm.grow1 (w':=w.alloc (.cells (madeCells #[.slice none 0 0] b.toNat) el)) (λb' h=>by
     show(w.heap.push _)[b']?=_;rw[CP h,AY h]) (by show _<=(w.heap.push _).size;simp) rfl rfl rfl
    have hrow:RowAt (w.alloc (.cells (madeCells #[.slice none 0 0] b.toNat) el)) w.heap.size (madeCells #[.slice none 0 0] b.toNat) el:=
     ⟨(0,0),by show(w.heap.push _)[_]?=_;rw[CJ],.inl (AB _)⟩
    have hab':a.toNat<=b.toNat:=o5
    obtain⟨G',g2,m2,m3⟩:=m1.mk_dp hself hself1 (id:=el) (r:=id2::q) (t:=lf) (x:=(List.replicate a.toNat (E4 (id2::q) lf).dflt:List (E4 (id2::q) lf).T)) (v:=.slice (some ⟨w.heap.size,0,none⟩) a.toNat b.toNat) (bs:=[w.heap.size])
     ⟨_,rfl,rfl,.inr (.inr ⟨(by intro h; cases h),w.heap.size,0,b.toNat,_,List.replicate a.toNat [],by rw [BU],by rw [BU]; exact ⟨hab',o5⟩,hrow,
      by rw[size_madeCells,B8];exact Nat.le_of_eq (CV _),hm.owned_new,λc h=>absurd (hm.after.inC _ _ h) (AH _),λh=>absurd (hm.after.inO _ h) (AH _),
      by rw[BU,BU],by rw[uC],λi x hx=>by
       have hlt:=lt_of_getElem? hx;rw[BU]at hlt
       have hx0:x=([]:List (E4 q lf).T):=by
        rw[DD,if_pos hlt]at hx;exact(A3 hx).symm
       subst hx0;refine⟨.slice none 0 0,?_,rfl,.inr (.inl ⟨ou,rfl,rfl,?_⟩)⟩
       .show((madeCells #[.slice none 0 0] b.toNat).toList.drop (0+i*1)).take 1=_;rw[B8,CV];exact AAK o5
       .rw[AG,DD];split<;>rfl⟩)⟩ oc
     (λb' hb' j o hj hbj=>by
      have:b'=w.heap.size:=by simpa using hb'
      subst this;exact absurd (HP (hm.objs j o hj) hbj) (AH _))
    exact⟨_,_,hrun,G',hle1.trans g2,m2,m3⟩
  .cases hr
 .cases hr
theorem MemS.ghostE(hm:MemS P fr free σ w G){k:Nat}(hk:free' k)(t:Ty)(hf:G.ety k=none)(hff:∀j,free j->j≠k:=by first|assumption|exact λj h=>h.2):
 GLe w G w (G.addEty k t)/\MemS P fr free σ w (G.addEty k t):=by
 have hle:GLe w G w (G.addEty k t):=by
  refine⟨Ext.refl _ _,λj g u h=>h,λj u h=>?_,λj b h=>h⟩;have:j≠k:=λe=>by rw[e,hf]at h;cases h
  simp only[Gh.addEty,if_neg this];exact h
 refine⟨hle,λj o h=>(hm.objs j o h).keep hle λb _=>⟨rfl,λ_ h=>h,λh=>h⟩,λi j o1 o2 b' hi hj hbi hbj=>?_,hm.after,λj hj=>?_⟩
 .rw[GH (hm.objs i o1 hi) hle]at hbi;rw[GH (hm.objs j o2 hj) hle]at hbj;exact hm.sep i j o1 o2 b' hi hj hbi hbj
 .have hfj:=hm.fresh j hj;exact⟨hfj.1,by simp only[Gh.addEty,if_neg (hff j hj)];exact hfj.2.1,hfj.2.2.1,hfj.2.2.2⟩
theorem DV.three{ow:Nat->Prop}{t:Ty}{id:Nat}{r:List Nat}{xs:List (E4 r t).T}{h:Option (List Nat)}{v:Value}{bs:List Nat}(hd:DV ow w I t (id::r) xs h [v] bs)(hne:h≠some []){b o len cap:Nat}
 (hv:v=.slice (some ⟨b,o,none⟩) len cap):∃cells bss,len=xs.length/\GL xs.length cap/\RowAt w b cells id/\o+cap*(E4 r t).sz<=cells.size/\ow b/\(∀c,¬I.cell b c)/\¬I.obj b/\List.length bss=xs.length/\bs=b::List.flatten bss/\
  ∀i x,xs[i]?=some x->DV ow w I t r x (QQ h i) ((cells.toList.drop (o+i*(E4 r t).sz)).take (E4 r t).sz) (bss.getD i []):=by
 obtain⟨v',h0,h1,h2⟩:=hd;have e:v=v':=A5.1 h0;subst e;rcases h2 with⟨h2,_⟩|⟨_,h2,_⟩|⟨_,b',o',cap',cells,bss,h3,q1,q2,q3,q4,q5,q6,q7,q8,q9⟩
 .exact absurd h2 hne
 .rw[hv]at h2;cases h2
 .rw[hv]at h3;cases h3;exact⟨cells,bss,rfl,q1,q2,q3,q4,q5,q6,q7,q8,q9⟩
theorem AAM{t:Ty}{id:Nat}(hl:Lay P t id)(hm:MemS P fr free σ w G)(hσ:∀k o,σ' k=some o->σ k=some o)(hself:free self)(hself1:free (self+1))(hself2:free (self+2)){s:SV}{v:Value}{r:OpRes}{u:Upd}
 (hr:T4 σ' self t s=some r)(hu:Gives r u)(hs:SR P w G s v):∃z,(Instr.loadAt id v).run P w=.ok z w/\Res P fr free self σ w G u z w:=by
 unfold T4 at hr;split at hr
 .rename_i k g i u0;split at hr
  .rename_i id1 id2 q lf xs gk hk;cases hb:(Nat.beq g 0&&(E4 (id2::q) lf).same t)with
   |false=>rw[hb]at hr;cases hr
   |true=>
    rw[hb]at hr;simp only[A4]at hb;have e1:=A2 hb.1;have e2:=Ty.same_eq hb.2;subst e1 e2;cases hr;rw[hu.pure_inv];have hkσ:=hσ _ _ hk;have hnk:=YH hm hkσ;obtain⟨h0,hety,v',us,bs,k1,k2,k3,k4,k5⟩:=DpOK.inv (hm.objs _ _ hkσ);obtain⟨b,o,len,cap,e',o2,p1,p2,p3,p4,p5,rfl⟩:=MM hs;rw[k1]at p1;cases p1;rw[hety]at p2;cases p2;rw[YB]at p4;cases p4;obtain⟨cells,bss,rfl,q1,q2,q3,q4,q5,q6,q7,rfl,q9⟩:=k5.three (xs:=xs) h0 rfl;have hsz:(E4 (id2::q) lf).sz=1:=rfl;have hget:=getD_some (d:=(E4 (id2::q) lf).dflt) (xs:=(show List (E4 (id2::q) lf).T from xs)) p3;have hch:=q9 i _ hget;rw[TY]at hch;have hch0:=hch;obtain⟨z,hz,hz1,_⟩:=hch0;rw[hz]at hch
    have hcell:w.cell? ⟨b,o+i*(E4 (id2::q) lf).sz,none⟩=some z:=by
     have:=XV (n:=1) (o:=o+i*(E4 (id2::q) lf).sz) q2 0 o5;rw[show(cells.toList.drop (o+i*(E4 (id2::q) lf).sz)).take 1=[z]from hz]at this;simpa using this
    have hrun:(Instr.loadAt id (.pointer (some ⟨b,o+i*(E4 (id2::q) lf).sz+0,none⟩))).run P w=.ok z w:=by
     have hag:(E4 (id2::q) lf).isAgg=false:=rfl;simp only[Instr.loadAt,Sem.run_bind,Instr.sureAddr,Sem.run_pure,Result.andThen_ok,loadVar,QT hl,hag,CT,CK,CI];exact TQ hcell
    refine⟨z,hrun,?_⟩;have hi:i<bss.length:=by rw[q7];exact p3
    have hfl:=iR hi;have hfs:(bss.set i []).flatten=(bss.take i).flatten++(bss.drop (i+1)).flatten:=by rw[YG hi];rfl
    have hnd:=B7.1 k4;rw[hfl]at hnd
    have hsub:∀c,c∈(bss.set i []).flatten->c∈bss.flatten:=by
     intro c hc;rw[hfs]at hc;rw[hfl];rcases AL.1 hc with h|h
     .exact AS _ h
     .exact AT _ (AT _ h)
    have hnd2:=BA.1 hnd.2;have hnd3:=BA.1 hnd2.2.1;have hndc:(bss.getD i []).Nodup:=hnd3.1
    have hnds:(b::(bss.set i []).flatten).Nodup:=by
     refine B7.2 ⟨λh=>(B7.1 k4).1 (hsub b h),?_⟩;rw[hfs];exact BA.2 ⟨hnd2.1,hnd3.2.1,λx hx y hy=>hnd2.2.2 x hx y (AT _ hy)⟩
    have hdisj:∀c,c∈bss.getD i []->c ∉ b::(bss.set i []).flatten:=by
     intro c hc h;rcases A_.1 h with rfl|h
     .exact hnd.1 (AT _ (AS _ hc))
     .rw[hfs]at h;rcases AL.1 h with h|h
      .exact hnd2.2.2 c h c (AS _ hc) rfl
      .exact hnd3.2.2 c hc c h rfl
    let G0:Gh:=((G.addVal (self+2) 0 (.tuple (List.map HJ (b::(bss.set i []).flatten)).toArray)).addVal (self+1) 0 (.tuple (List.map HJ (bss.getD i [])).toArray)).addVal self 0 z
    obtain⟨g01,m01⟩:=hm.ghost hself2 (.tuple (List.map HJ (b::(bss.set i []).flatten)).toArray);obtain⟨g02,m02⟩:=m01.ghost (k:=self+1) ⟨hself1,o5⟩ (.tuple (List.map HJ (bss.getD i [])).toArray);obtain⟨g03,m03⟩:=m02.ghost (k:=self) ⟨⟨hself,o5⟩,o5⟩ z
    obtain ⟨g04,m04⟩:=m03.ghostE (k:=self) hself (E4 q lf) (by
     have:=(hm.fresh self hself).2.1;exact this)
    have hle:GLe w G w (G0.addEty self (E4 q lf)):=((g01.trans g02).trans g03).trans g04;generalize hG1:G0.addEty self (E4 q lf)=G1 at hle;have m04:MemS P fr (λj=>(((free j/\j≠self+2)/\j≠self+1)/\j≠self)) σ w G1:=by rw[<-hG1];exact m04
    have him:G1.im=G.im:=by rw[<-hG1];rfl
    have hus:G1.val (self+2) 0=some (.tuple (List.map HJ (b::(bss.set i []).flatten)).toArray):=by
     rw[<-hG1];have n1:self+2≠self:=o5
     have n2:self+2≠self+1:=o5
     simp[G0,Gh.addVal,Gh.addEty]
    have hus1:G1.val (self+1) 0=some (.tuple (List.map HJ (bss.getD i [])).toArray):=by
     rw[<-hG1];simp[G0,Gh.addVal,Gh.addEty]
    have hv1:G1.val self 0=some z:=by
     rw[<-hG1];simp[G0,Gh.addVal,Gh.addEty]
    have hety1:G1.ety self=some (E4 q lf):=by
     rw[<-hG1];simp[Gh.addEty]
    have hbk:∀c,Bk G1 k (.dp (id1::id2::q) lf xs (self+2) (some [i]) true) c<->c∈b::(bss.set i []).flatten:=λc=>LL hus oc;have hbk1:∀c,Bk G1 self (.dp (id2::q) lf ((show List (E4 (id2::q) lf).T from xs).getD i (E4 (id2::q) lf).dflt) (self+1) none true) c<->c∈bss.getD i []:=λc=>LL hus1 oc
    have hbk0:∀c,Bk G1 k (.dp (id1::id2::q) lf xs gk none true) c<->c∈b::bss.flatten:=λc=>by
     rw[GH (hm.objs k _ hkσ) hle];exact LL k2 k3
    have m05:=m04.drop k
    have hdrop:∀j o,EK σ [(k,none)] j=some o->j≠k/\σ j=some o:=by
     intro j o h;rw[FK]at h;by_cases e:j=k
     .rw[if_pos e]at h;cases h
     .rw[if_neg e]at h;exact⟨e,h⟩
    have hpar:ObjOK P fr w G1 k (.dp (id1::id2::q) lf xs (self+2) (some [i]) true):=
     ⟨(by intro h; cases h),hle.ety _ _ hety,_,_,b::(bss.set i []).flatten,hle.val _ _ _ k1,hus,oc,hnds,⟨_,rfl,rfl,.inr (.inr ⟨(by intro h; cases h),b,o,cap,cells,bss.set i [],rfl,q1,q2,q3,q4,by rw [him]; exact q5,by rw [him]; exact q6,by rw [AP]; exact q7,rfl,λj x hx=>by
      rw[iS hi,iT];by_cases e:i=j
      .subst e;rw[if_pos rfl,if_pos rfl]
       exact ⟨z,hz,hz1,.inl ⟨rfl,rfl,by
        rw[hget]at hx;cases hx;obtain⟨a,cp,e1,e2⟩:=DV.head hch;exact⟨a,cp,A5.1 e1,e2⟩⟩⟩
      .rw[if_neg e,if_neg e];exact(q9 j x hx).keep hle.ext λ_ _=>⟨rfl,λ_ h=>him▸h,λh=>him▸h⟩⟩)⟩,z,b,o,_,cap,hv1,rfl,p3,by simpa[hsz]using hcell⟩
    have m06:=m05.backO (k:=k) hpar (λh=>hnk h.1.1.1) (λc hc j o' hj hbj=>by
     obtain⟨e,hj⟩:=hdrop j o' hj;rw[hbk]at hc;refine e (hm.sep j k o' _ c hj hkσ (by rw[<-GH (hm.objs j o' hj) hle];exact hbj) ?_);rw[<-GH (hm.objs k _ hkσ) hle,hbk0];rcases A_.1 hc with rfl|hc
     .exact AI
     .exact AD _ (hsub c hc))
    have hchild:ObjOK P fr w G1 self (.dp (id2::q) lf ((show List (E4 (id2::q) lf).T from xs).getD i (E4 (id2::q) lf).dflt) (self+1) none true):=
     ⟨ou,hety1,z,_,bss.getD i [],hv1,hus1,oc,hndc,hch.keep hle.ext (λ_ _=>⟨rfl,λ_ h=>him▸h,λh=>him▸h⟩),trivial⟩
    have m07:=m06.backO (k:=self) hchild (λh=>h.2 rfl) (λc hc j o' hj hbj=>by
     rw[hbk1]at hc;rw[FK]at hj;by_cases e:j=k
     .rw[if_pos e]at hj;cases hj;subst e;exact hdisj c hc ((hbk c).1 hbj)
     .rw[if_neg e]at hj;obtain⟨_,hj⟩:=hdrop j o' hj;refine e (hm.sep j k o' _ c hj hkσ (by rw[<-GH (hm.objs j o' hj) hle];exact hbj) ?_);rw[<-GH (hm.objs k _ hkσ) hle,hbk0,hfl];exact AD _ (AT _ (AS _ hc)))
    refine⟨G1,hle,?_,[z],rfl,z,hv1,hz1,rfl⟩;have e3:=FW (EK σ [(k,none)]) [(self,some (Obj.dp (id2::q) lf ((show List (E4 (id2::q) lf).T from xs).getD i (E4 (id2::q) lf).dflt) (self+1) none true))] [(k,some (Obj.dp (id1::id2::q) lf xs (self+2) (some [i]) true))]
    have e4:EK σ ([(self,some (Obj.dp (id2::q) lf ((show List (E4 (id2::q) lf).T from xs).getD i (E4 (id2::q) lf).dflt) (self+1) none true))]++[(k,some (Obj.dp (id1::id2::q) lf xs (self+2) (some [i]) true))])=
     EK (EK (EK σ [(k,none)]) [(k,some (Obj.dp (id1::id2::q) lf xs (self+2) (some [i]) true))]) [(self,some (Obj.dp (id2::q) lf ((show List (E4 (id2::q) lf).T from xs).getD i (E4 (id2::q) lf).dflt) (self+1) none true))]:=by
     rw[<-e3];funext j;rw[FW,FW,FK,FK,FK,FK,FK];by_cases e:j=self
     .rw[if_pos e,if_pos e]
     .rw[if_neg e,if_neg e];by_cases e':j=k
      .rw[if_pos e',if_pos e']
      .rw[if_neg e',if_neg e',if_neg e']
    show MemS P fr (HO free self) (EK σ ([(self,_)]++[(k,_)])) w G1;rw[e4];refine m07.shrink λj hj=>?_
    have hin:∀d,d<8->j≠self+d:=λd hd e=>by
     have h5:=hj.2;rw[e]at h5
     have:IH self (self+d)=true:=by
      simp only[IH,Nat.blt,A4];exact⟨C5 o5,C5 o5⟩
     rw[this]at h5;cases h5
    exact⟨⟨⟨hj.1,hin 2 o5⟩,hin 1 o5⟩,hin 0 o5⟩
  .cases hr
 .cases hr
theorem AAN{t:Ty}{id:Nat}(hl:Lay P t id)(hm:MemS P fr free σ w G)(hσ:∀k o,σ' k=some o->σ k=some o)(hself1:free (self+1)){s sv:SV}{v vx:Value}{r:OpRes}{u:Upd}
 (hr:X3 σ' self t sv s=some r)(hu:Gives r u)(hs:SR P w G s v)(hsv:SR P w G sv vx):∃w',(Instr.storeAt id v vx).run P w=.ok () w'/\Res P fr free self σ w G u undef w':=by
 unfold X3 at hr;split at hr
 .rename_i k g i u0;split at hr
  .rename_i id1 id2 q lf xs gk hh hk;cases hb:(Nat.beq g 0&&((E4 (id2::q) lf).same t && !(EV k (FC sv))))with
   |false=>rw[hb]at hr;cases hr
   |true=>
    rw[hb]at hr;simp only[A4,BI]at hb;have e1:=A2 hb.1;have e2:=Ty.same_eq hb.2.1;have hkk:k ∉ FC sv:=λh=>by rw[KT.2 h]at hb;exact absurd hb.2.2 oc
    subst e1 e2;simp only[AA]at hr;split at hr
    .rename_i y hy;cases hr;obtain⟨x0,hx0,rfl⟩:=hu.may_inv
     have hho:gH i hh=true:=by
      cases h:gH i hh with
      |true=>rfl
      |false=>rw[h]at hx0;cases hx0
     have hkσ:=hσ _ _ hk;obtain⟨h0,hety,v',us,bs,k1,k2,k3,k4,k5⟩:=DpOK.inv (hm.objs _ _ hkσ);obtain⟨b,o,len,cap,e',o2,p1,p2,p3,p4,p5,rfl⟩:=MM hs;rw[k1]at p1;cases p1;rw[hety]at p2;cases p2;rw[YB]at p4;cases p4;obtain⟨cells,bss,rfl,q1,q2,q3,q4,q5,q6,q7,rfl,q9⟩:=k5.three (xs:=xs) h0 rfl;have hsub:MemS P fr free σ' w G:=hm.sub hσ
     have hsv1:CR P w G sv [vx]:=hsv.one (by
      intro t y e;subst e;exact absurd hy (by simp[K1]))
     obtain⟨bc,⟨_,d1⟩,d2,d3⟩:=X_ hsub hy hsv1
     have d3:∀c∈bc,∃j∈FC sv,∃ob,σ j=some ob/\Bk G j ob c:=λc hc=>
      let ⟨j,h1,ob,h2,h3⟩:=d3 c hc
      ⟨j,h1,ob,hσ _ _ h2,h3⟩
     have hbk0:∀c,Bk G k (.dp (id1::id2::q) lf xs gk hh true) c<->c∈b::bss.flatten:=λc=>LL k2 k3
     have hbc:∀c∈bc,c ∉ b::bss.flatten:=λc hc h=>by
      obtain⟨j,j1,ob,j2,j3⟩:=d3 c hc;exact hkk ((hm.sep j k ob _ c j2 hkσ j3 ((hbk0 c).2 h))▸j1)
     have hsz:(E4 (id2::q) lf).sz=1:=rfl;have hd1:=d1;obtain⟨vx',hvx,hone,_⟩:=hd1;have hvx:vx=vx':=A5.1 hvx;subst hvx;have hmul:(i+1)*(E4 (id2::q) lf).sz<=cap*(E4 (id2::q) lf).sz:=B1 _ (by have:=q1.1;omega)
     have hpos:o+i*(E4 (id2::q) lf).sz+1<=cells.size:=by
      rw[C8]at hmul;omega
     obtain⟨fz,hb0,hfz⟩:=(show RowAt w b cells id1 from q2);have hcl:vx.cells.toList=[vx]:=by rw[TR hone]
     have hrun:(Instr.storeAt id (.pointer (some ⟨b,o+i*(E4 (id2::q) lf).sz+0,none⟩)) vx).run P w=.ok () (w.setRow b (F4 cells.toList (o+i*(E4 (id2::q) lf).sz) [vx]).toArray):=by
      simp only[Instr.storeAt,Sem.run_bind,Instr.sureAddr,Sem.run_pure,Result.andThen_ok,CI];have:=iC hl (b:=b) (o:=o+i*(E4 (id2::q) lf).sz) (v:=vx) q2 (by rw[hcl];rfl) (by rw[hcl];simpa using hone) (by rw[hsz]at hpos ⊢;exact hpos);rw[hcl]at this;exact this
     refine⟨_,hrun,?_⟩;have hi:i<bss.length:=by rw[q7];exact p3
     have hfl:=iR hi;have hfs:=YG (c:=bc) hi;have hnd:=B7.1 k4;have hnd1:=hnd.2;rw[hfl]at hnd1;have hnd2:=BA.1 hnd1;have hnd3:=BA.1 hnd2.2.1;have hinl:∀c,c∈(bss.take i).flatten->c∈bss.flatten:=λc hc=>by rw[hfl];exact AS _ hc
     have hinr:∀c,c∈(bss.drop (i+1)).flatten->c∈bss.flatten:=λc hc=>by rw[hfl];exact AT _ (AT _ hc)
     have hnds:(b::(bss.set i bc).flatten).Nodup:=by
      rw[hfs];refine B7.2 ⟨λh=>?_,BA.2 ⟨hnd2.1,BA.2 ⟨d2,hnd3.2.1,λx hx y hy e=>?_⟩,λx hx y hy e=>?_⟩⟩
      .rcases AL.1 h with h|h
       .exact hnd.1 (hinl b h)
       .rcases AL.1 h with h|h
        .exact hbc b h AI
        .exact hnd.1 (hinr b h)
      .subst e;exact hbc x hx (AD _ (hinr x hy))
      .subst e;rcases AL.1 hy with h|h
       .exact hbc x h (AD _ (hinl x hx))
       .exact hnd2.2.2 x hx x (AT _ h) rfl
     have hmem:∀c,c∈b::(bss.set i bc).flatten->c=b\/c∈bss.flatten\/c∈bc:=by
      intro c hc;rcases A_.1 hc with h|h
      .exact .inl h
      .rw[hfs]at h;rcases AL.1 h with h|h
       .exact .inr (.inl (hinl c h))
       .rcases AL.1 h with h|h
        .exact .inr (.inr h)
        .exact .inr (.inl (hinr c h))
     have m0:MemS P fr free (EK σ (gone (FC sv))) w G:=hm.sub λj o h=>by
      rw[JB]at h;by_cases e:j∈FC sv
      .rw[if_pos e]at h;cases h
      .rw[if_neg e]at h;exact h
     have hs0:∀j ob,EK σ (gone (FC sv)) j=some ob->j ∉ FC sv/\σ j=some ob:=by
      intro j ob h;rw[JB]at h;by_cases e:j∈FC sv
      .rw[if_pos e]at h;cases h
      .rw[if_neg e]at h;exact⟨e,h⟩
     obtain⟨g0,m1⟩:=m0.ghost hself1 (.tuple (List.map HJ (b::(bss.set i bc).flatten)).toArray);let G0:Gh:=G.addVal (self+1) 0 (.tuple (List.map HJ (b::(bss.set i bc).flatten)).toArray)
     have m1:MemS P fr (λj=>free j/\j≠self+1) (EK σ (gone (FC sv))) w G0:=m1;have g0:GLe w G w G0:=g0;have hus:G0.val (self+1) 0=some (.tuple (List.map HJ (b::(bss.set i bc).flatten)).toArray):=by simp[G0,Gh.addVal]
     let w1:World:=w.setRow b (F4 cells.toList (o+i*(E4 (id2::q) lf).sz) [vx]).toArray
     have hw1:∀b',b'≠b->w1.heap[b']?=w.heap[b']?:=λb' h=>setRow_other w b b' _ h;have hle:GLe w G0 w1 G0:=GLe.of_heap (b:=b) hw1 q5 q6;have hspl:(F4 cells.toList (o+i*(E4 (id2::q) lf).sz) [vx]).length=cells.size:=by rw[JM og];simp
     have hbin:∀c,c∈bss.flatten->c≠b:=λc hc e=>hnd.1 (e▸hc);have hext:Ext w G.im w1 G0.im:=g0.ext.trans hle.ext
     have hobj:DpOK fr w1 G0 k (id1::id2::q) lf ((show List (E4 (id2::q) lf).T from xs).set i y) (self+1) none true:=by
      refine ⟨(by intro h; cases h),g0.ety _ _ hety,_,_,b::(bss.set i bc).flatten,g0.val _ _ _ k1,hus,oc,hnds,⟨_,rfl,rfl,.inr (.inr ⟨(by intro h; cases h),b,o,cap,_,bss.set i bc,by rw [AP],
       by rw[AP];exact q1,q2.set (by rw[BJ,hspl]),by rw[BJ,hspl];exact q3,q4,q5,q6,by rw[AP,AP];exact q7,rfl,λj x hx=>?_⟩)⟩,trivial⟩
      rw[TY,iS hi];by_cases e:i=j
      .subst e;rw[if_pos rfl];rw[CN p3]at hx;cases hx
       have hcut:((F4 cells.toList (o+i*(E4 (id2::q) lf).sz) [vx]).drop (o+i*(E4 (id2::q) lf).sz)).take (E4 (id2::q) lf).sz=[vx]:=by
        rw[hsz];have:=u6 (cs:=cells.toList) (ds:=[vx]) (a:=o+i*1) (n:=1) (o:=0) (by simp;rw[hsz]at hpos;omega) oc;rw[CI]at this;rw[this];unfold F4;simp
       show DV fr.owned w1 G0.im lf (id2::q) y none (((F4 cells.toList (o+i*(E4 (id2::q) lf).sz) [vx]).toArray.toList.drop (o+i*(E4 (id2::q) lf).sz)).take (E4 (id2::q) lf).sz) bc;rw[DN,hcut];exact d1.keep hext λc hc=>⟨hw1 c λe=>hbc c hc (e▸AI),λ_ h=>h,λh=>h⟩
      .rw[if_neg e];rw[CW e]at hx;have hc:=q9 j x hx
       have hhole:QQ hh j=none:=by
        cases hh with
        |none=>rfl
        |some p=>
         cases p with
         |nil=>exact absurd rfl h0
         |cons a p=>
          cases p with
          |cons _ _=>cases hho
          |nil=>
           have ha:=A2 hho;subst ha;rw[iT,if_neg e]
       rw[hhole]at hc;show DV fr.owned w1 G0.im lf (id2::q) x none (((F4 cells.toList (o+i*(E4 (id2::q) lf).sz) [vx]).toArray.toList.drop (o+j*(E4 (id2::q) lf).sz)).take (E4 (id2::q) lf).sz) (bss.getD j []);rw[DN,u7 og (by rw[hsz];simp;omega)];exact hc.keep hext λc hc=>⟨hw1 c (hbin c (TP hc)),λ_ h=>h,λh=>h⟩
     have hbk1:∀c,Bk G0 k (.dp (id1::id2::q) lf ((show List (E4 (id2::q) lf).T from xs).set i y) (self+1) none true) c<->c∈b::(bss.set i bc).flatten:=λc=>LL hus oc
     have m2:=m1.change (w':=w1) (G':=G0) (b:=b) (k:=k) (o':=some (.dp (id1::id2::q) lf ((show List (E4 (id2::q) lf).T from xs).set i y) (self+1) none true)) (free':=HO free self) hle
      (λj ob hj hob hbj=>by
       obtain⟨_,hob⟩:=hs0 j ob hob;rw[GH (hm.objs j ob hob) g0]at hbj;exact hj (hm.sep j k ob _ b hob hkσ hbj ((hbk0 b).2 AI)))
      (λb' _ hne=>hw1 b' hne) (by simp[w1]) (by simpa[w1]using q2.lt) q4 (λ_ _ h=>.inl h) (λ_ h=>.inl h) rfl rfl rfl
      (λob hob=>by
       cases hob;refine⟨hobj,λc hc=>?_⟩;rw[hbk1]at hc;rcases hmem c hc with h|h|h
       .exact .inl h
       .refine .inr λj oj hj hoj hbj=>?_;obtain⟨_,hoj⟩:=hs0 j oj hoj;rw[GH (hm.objs j oj hoj) g0]at hbj;exact hj (hm.sep j k oj _ c hoj hkσ hbj ((hbk0 c).2 (AD _ h)))
       .refine .inr λj oj hj hoj hbj=>?_;obtain⟨hjn,hoj⟩:=hs0 j oj hoj;rw[GH (hm.objs j oj hoj) g0]at hbj;obtain⟨j',j1,ob',j2,j3⟩:=d3 c h;exact hjn ((hm.sep j j' oj ob' c hoj j2 hbj j3)▸j1))
      (λj hj=>by
       have hf:=hm.fresh j hj.1
       have hj1:j≠self+1:=λe=>by
        have:=hj.2;rw[e,AAG]at this;cases this
       exact⟨λe=>(by rw[e,hkσ]at hf;cases hf.1),⟨hj.1,hj1⟩,hf.2.1,hf.2.2.1,λg=>by simp only[G0,Gh.addVal,hj1,DP,CK];exact hf.2.2.2 g⟩)
     refine⟨G0,g0.trans hle,?_,_,rfl,trivial⟩;have e3:=FW σ [(k,some (Obj.dp (id1::id2::q) lf ((show List (E4 (id2::q) lf).T from xs).set i y) (self+1) none true))] (gone (FC sv));show MemS P fr (HO free self) (EK σ ([(k,_)]++gone (FC sv))) w1 G0;rw[e3];exact m2
    .cases hr
  .cases hr
 .cases hr
def Hds(ow:Nat->Prop)(w:World)(I:Im)(t:Ty)(r:List Nat)(xs:List (E4 r t).T)(bss:List (List Nat))(cs:List Value):Prop:=
 ∀(i:Nat) (x:(E4 r t).T),xs[i]?=some x->∃v,cs[i]?=some v/\v.oneCell'=true/\DV ow w I t r x none [v] (bss.getD i [])
theorem iV{l:List Value}{i:Nat}{v:Value}:(l.drop i).take 1=[v]<->l[i]?=some v:=by
 constructor
 .intro h;have:=congrArg (·[0]?) h;simpa[AK]using this
 .intro h;have hlt:i<l.length:=(A8.1 h).1;rw[CS hlt];rw[A0 hlt]at h;simp only[List.take_succ_cons,DR];rw[A3 h]
theorem DV.inv2{ow:Nat->Prop}{id id2:Nat}{q:List Nat}{t:Ty}{xs:List (E4 (id2::q) t).T}{v:Value}{bs:List Nat}(hd:DV ow w I t (id::id2::q) xs none [v] bs):
 (v=.slice none 0 0/\xs=[]/\bs=[])\/∃b o cap cells bss,v=.slice (some ⟨b,o,none⟩) xs.length cap/\GL xs.length cap/\RowAt w b cells id/\o+cap<=cells.size/\ow b/\(∀c,¬I.cell b c)/\¬I.obj b/\List.length bss=xs.length/\bs=b::List.flatten bss/\
  Hds ow w I t (id2::q) xs bss (cells.toList.drop o):=by
 obtain⟨v',h0,h1,h2⟩:=hd;have e:v=v':=A5.1 h0;subst e;rcases h2 with⟨h2,_⟩|⟨_,h2,h3,h4⟩|⟨_,b,o,cap,cells,bss,h3,q1,q2,q3,q4,q5,q6,q7,q8,q9⟩
 .cases h2
 .exact .inl ⟨h2,h3,h4⟩
 .refine .inr ⟨b,o,cap,cells,bss,h3,q1,q2,by have:(E4 (id2::q) t).sz=1:=rfl;rw[this]at q3;omega,q4,q5,q6,q7,q8,λi x hx=>?_⟩;have:=q9 i x hx;rw[TY]at this;have h5:=this;obtain⟨z,hz,hz1,_⟩:=h5;rw[hz]at this;refine⟨z,?_,hz1,this⟩;have hz:(cells.toList.drop (o+i*1)).take 1=[z]:=hz;rw[iV]at hz;rw[AR];simpa using hz
theorem DV.mk2{ow:Nat->Prop}{id id2 b o cap:Nat}{q:List Nat}{t:Ty}{xs:List (E4 (id2::q) t).T}{cells:Array Value}{bss:List (List Nat)}(q1:GL xs.length cap)(q2:RowAt w b cells id)(q3:o+cap<=cells.size)(q4:ow b)
 (q5:∀c,¬I.cell b c)(q6:¬I.obj b)(q7:List.length bss=xs.length)(q9:Hds ow w I t (id2::q) xs bss (cells.toList.drop o)):
 DV ow w I t (id::id2::q) xs none [.slice (some ⟨b,o,none⟩) xs.length cap] (b::List.flatten bss):=by
 refine⟨_,rfl,rfl,.inr (.inr ⟨ou,b,o,cap,cells,bss,rfl,q1,q2,?_,q4,q5,q6,q7,rfl,λi x hx=>?_⟩)⟩
 .have:(E4 (id2::q) t).sz=1:=rfl;rw[this];omega
 .obtain⟨v,h1,h2,h3⟩:=q9 i x hx;rw[TY];rw[AR]at h1
  have:(cells.toList.drop (o+i*(E4 (id2::q) t).sz)).take (E4 (id2::q) t).sz=[v]:=by
   show(cells.toList.drop (o+i*1)).take 1=[v];rw[iV,CV];exact h1
  rw[this];exact h3
theorem Hds.keep{ow:Nat->Prop}{I':Im}{t:Ty}{r:List Nat}{xs:List (E4 r t).T}{bss:List (List Nat)}{cs:List Value}(h:Hds ow w I t r xs bss cs)(e:Ext w I w' I')
 (hb:∀b∈bss.flatten,w'.heap[b]?=w.heap[b]? /\(∀off,I'.cell b off->I.cell b off)/\(I'.obj b->I.obj b)):Hds ow w' I' t r xs bss cs:=λi x hx=>by
 obtain⟨v,h1,h2,h3⟩:=h i x hx;exact⟨v,h1,h2,h3.keep e λb hb'=>hb b (TP hb')⟩
theorem Hds.cells{ow:Nat->Prop}{t:Ty}{r:List Nat}{xs:List (E4 r t).T}{bss:List (List Nat)}{cs ds:List Value}(h:Hds ow w I t r xs bss cs)(e:∀i,i<xs.length->ds[i]?=cs[i]?):Hds ow w I t r xs bss ds:=λi x hx=>by
 obtain⟨v,h1,h2,h3⟩:=h i x hx;exact⟨v,by rw[e i (A8.1 hx).1];exact h1,h2,h3⟩
theorem Hds.append{ow:Nat->Prop}{t:Ty}{r:List Nat}{xs ys:List (E4 r t).T}{bss css:List (List Nat)}{cs ds es:List Value}(h1:Hds ow w I t r xs bss cs)(h2:Hds ow w I t r ys css ds)(hl:bss.length=xs.length)
 (e1:∀i,i<xs.length->es[i]?=cs[i]?)(e2:∀i,i<ys.length->es[xs.length+i]?=ds[i]?):Hds ow w I t r (xs++ys) (bss++css) es:=λi x hx=>by
 rcases CL i xs.length with hlt|hge
 .rw[AQ hlt]at hx;obtain⟨v,a,b,c⟩:=h1 i x hx;refine⟨v,by rw[e1 i hlt];exact a,b,?_⟩;rw[AG,AQ o5,<-AG];exact c
 .rw[AZ hge]at hx;obtain⟨v,a,b,c⟩:=h2 _ x hx;have hlt:=(A8.1 hx).1;refine⟨v,?_,b,?_⟩
  .have:=e2 (i-xs.length) hlt;rw[show xs.length+(i-xs.length)=i by omega]at this;rw[this];exact a
  .rw[AG,AZ o5,hl,<-AG];exact c
theorem MemS.gone(hm:MemS P fr free σ w G)(ks:List Nat):MemS P fr free (EK σ (gone ks)) w G:=hm.sub λj o h=>by
 rw[JB]at h;by_cases e:j∈ks
 .rw[if_pos e]at h;cases h
 .rw[if_neg e]at h;exact h
theorem vX{ks:List Nat}{j:Nat}{o:Obj}(h:EK σ (gone ks) j=some o):j ∉ ks/\σ j=some o:=by
 rw[JB]at h;by_cases e:j∈ks
 .rw[if_pos e]at h;cases h
 .rw[if_neg e]at h;exact⟨e,h⟩
theorem AAO{t:Ty}{id n:Nat}{ids:List Nat}(hl:Lay P t id)(hm:MemS P fr free σ w G)(hσ:∀k o,σ' k=some o->σ k=some o)(hself:free self)(hself1:free (self+1)){s:SV}{vx:Value}
 {r:OpRes}{u:Upd}(hr:O7 σ' self n ids t s=some r)(hu:Gives r u)(hids:∃l,ids=(match P.underlying id with|some (.slice x)=>x|_=>0)::l)(hs:SR P w G s vx):
 ∃v w',(Instr.buildSlice id 1 #[(0,vx)]).run P w=.ok v w'/\Res P fr free self σ w G u v w':=by
 unfold O7 at hr;split at hr
 .rename_i el id2 q;split at hr
  .rename_i lf _;cases hsm:(E4 (el::id2::q) lf).same t with
   |false=>rw[hsm]at hr;cases hr
   |true=>
    rw[hsm]at hr;have ht:=Ty.same_eq hsm;subst ht;simp only[AA]at hr;split at hr
    .rename_i y hy;cases hr;rw[hu.pure_inv];have hl:Lay P (.slice (E4 (id2::q) lf)) id:=hl;obtain⟨el',hun,hle,hpos⟩:=hl.slice;obtain⟨l,hids⟩:=hids;rw[hun]at hids;injection hids with hel _;have hel:el=el':=hel;subst hel;obtain⟨i,h1,h2,h3,h4⟩:=iU (P:=P) (e:=E4 q lf) hle
     have hs1:CR P w G s [vx]:=hs.one (by
      intro t y e;subst e;exact absurd hy (by simp[K1]))
     obtain⟨bc,⟨_,d1⟩,d2,d3⟩:=X_ (hm.sub hσ) hy hs1
     have d3:∀c∈bc,∃j∈FC s,∃ob,σ j=some ob/\Bk G j ob c:=λc hc=>
      let ⟨j,h1,ob,h2,h3⟩:=d3 c hc
      ⟨j,h1,ob,hσ _ _ h2,h3⟩
     have hone:vx.oneCell'=true:=by
      obtain⟨v',e1,e2,_⟩:=d1;rw[A5.1 e1];exact e2
     have hcl:vx.cells= #[vx]:=TR hone
     have hrun:=run_buildSlice (P:=P) w id el 1 #[(0,vx)] #[vx] i _ hun h1 h4 (by rw [h2]; decide) (by rw [h2]; decide) (by
      rw[h2];simp[Instr.fill,hcl];apply C4;simp)
     obtain ⟨hle1,m1⟩:=hm.grow1 (w':=w.alloc (.cells #[vx] el)) (λb' h=>by
      show(w.heap.push _)[b']?=_;rw[CP h,AY h]) (by show _<=(w.heap.push _).size;simp) rfl rfl rfl
     have hrow:RowAt (w.alloc (.cells #[vx] el)) w.heap.size #[vx] el:=
      ⟨(0,0),by show(w.heap.push _)[_]?=_;rw[CJ],.inl (AB _)⟩
     have hnew:∀c∈bc,c≠w.heap.size:=λc hc e=>by
      obtain⟨j,_,ob,j2,j3⟩:=d3 c hc;have:=HP (hm.objs j ob j2) j3;omega
     have hdv:DV fr.owned (w.alloc (.cells #[vx] el)) G.im lf (el::id2::q) ([y]:List (E4 (id2::q) lf).T) none [.slice (some ⟨w.heap.size,0,none⟩) 1 1] (w.heap.size::List.flatten [bc]):=
      DV.mk2 (xs:=[y]) (cells:=#[vx]) (bss:=[bc]) ⟨AB _,by show 1<=281474976710656; decide⟩ hrow oc hm.owned_new (λc h=>absurd (hm.after.inC _ _ h) (AH _)) (λh=>absurd (hm.after.inO _ h) (AH _)) rfl (λi x hx=>by
       cases i with
       |zero=>
        cases hx
        exact ⟨vx,rfl,hone,d1.keep hle1.ext λb hb=>⟨by
         show(w.heap.push _)[b]?=_;have:=hnew b hb;obtain⟨j,_,ob,j2,j3⟩:=d3 b hb;have:=HP (hm.objs j ob j2) j3;rw[CP this,AY this],λ_ h=>h,λh=>h⟩⟩
       |succ i=>simp at hx)
     obtain ⟨G',g2,m2,m3⟩:=(m1.gone (FC s)).mk_dp hself hself1 (id:=el) (r:=id2::q) (t:=lf) (x:=([y]:List (E4 (id2::q) lf).T)) hdv (by
      simp only[List.flatten_cons,List.flatten_nil,C3];exact B7.2 ⟨λh=>hnew _ h rfl,d2⟩)
      (λb' hb' j o hj hbj=>by
       obtain⟨hjn,hj⟩:=vX hj;simp only[List.flatten_cons,List.flatten_nil,C3]at hb';rcases A_.1 hb' with rfl|hb'
       .exact absurd (HP (hm.objs j o hj) hbj) (AH _)
       .obtain⟨j',j1,ob',j2,j3⟩:=d3 b' hb';exact hjn ((hm.sep j j' o ob' b' hj j2 hbj j3)▸j1))
     refine⟨_,_,hrun,G',hle1.trans g2,?_,m3⟩;have e3:=FW σ [(self,some (Obj.dp (el::id2::q) lf ([y]:List (E4 (id2::q) lf).T) (self+1) none true))] (gone (FC s));show MemS P fr (HO free self) (EK σ ([(self,_)]++gone (FC s))) _ G';rw[e3];exact m2
    .cases hr
  .cases hr
 .cases hr
theorem AAP{e':Ty}{id id2 el ty k gk:Nat}{q:List Nat}(hl:Lay P (.slice (E4 (id2::q) e')) id)(hel:∀x,P.underlying id=some (.slice x)->el=x)(hm:MemS P fr free σ w G)(hσ:∀k o,σ' k=some o->σ k=some o)(hself:free self)(hself1:free (self+1))
 {xs ys zs:List (E4 (id2::q) e').T}{v vx:Value}{sx:SV}(hkσ:σ k=some (.dp (el::id2::q) e' xs gk none true))(hs:SR P w G (.obj k 0) v)(hsx:SR P w G sx vx)(hkk:k ∉ FC sx)
 (hy:K1 σ' (el::id2::q) e' sx=some ys)(hz:app? 24 xs ys=some zs):
 ∃z w',(Builtin.append_ #[id,id] ty #[v,vx]).run P w=.ok z w'/\Res P fr free self σ w G ⟨.obj self 0,(self,some (.dp (el::id2::q) e' zs (self+1) none true))::(k,none)::gone (FC sx)⟩ z w':=by
 have hnk:=YH hm hkσ;obtain⟨_,hety,v',us,bs,k1,k2,k3,k4,k5⟩:=DpOK.inv (hm.objs _ _ hkσ);have hv:=YF hs;rw[k1]at hv;cases hv;have hbk:∀b,Bk G k (.dp (el::id2::q) e' xs gk none true) b<->b∈bs:=λb=>LL k2 k3;obtain⟨el',hun,hle,hpos⟩:=hl.slice;have:=hel _ hun;subst this;obtain⟨hB,hzs⟩:=XZ hz;subst hzs;obtain⟨i,h1,h2',h3,h4⟩:=iU (P:=P) (e:=E4 q e') hle
 have hs1:CR P w G sx [vx]:=hsx.one (by
  intro t y e;subst e;exact absurd hy (by simp[K1]))
 obtain⟨bc,⟨_,d1⟩,d2,d3⟩:=X_ (hm.sub hσ) hy hs1
 have d3:∀c∈bc,∃j∈FC sx,∃ob,σ j=some ob/\Bk G j ob c:=λc hc=>
  let ⟨j,h1,ob,h2,h3⟩:=d3 c hc
  ⟨j,h1,ob,hσ _ _ h2,h3⟩
 have hbc:∀c∈bc,c ∉ bs:=λc hc h=>by
  obtain⟨j,j1,ob,j2,j3⟩:=d3 c hc;exact hkk ((hm.sep j k ob _ c j2 hkσ j3 ((hbk c).2 h))▸j1)
 have hblt:∀c∈bc,c<w.heap.size:=λc hc=>let ⟨j,_,ob,j2,j3⟩:=d3 c hc;HP (hm.objs j ob j2) j3
 obtain⟨news,css,s1,s2,s3,s4,s5,hcn⟩:∃(news:List Value) (css:List (List Nat)),Src P 1 id vx ys.length news w/\news.length=ys.length/\Hds fr.owned w G.im e' (id2::q) ys css news/\css.length=ys.length/\(∀c∈css.flatten,c∈bc)/\css.flatten.Nodup:=by
  rcases d1.inv2 with⟨rfl,hy0,_⟩|⟨b2,o2,cap2,cells2,css,rfl,p1,p2,p3,p4,p5,p6,p7,rfl,p9⟩
  .subst hy0;exact⟨[],[],Src.ofNil w hun 0,rfl,λi x hx=>by simp at hx,rfl,λc hc=>(by cases hc),B6⟩
  .have hlen:((cells2.toList.drop o2).take ys.length).length=ys.length:=by
    have:=p1.1;simp;omega
   refine⟨(cells2.toList.drop o2).take ys.length,css,?_,hlen,?_,p7,λc hc=>AD _ hc,(B7.1 d2).2⟩
   .refine Src.ofSlice w hun _ _ _ _ (by rw[hlen,CV]) (λj u hj=>?_) (λu hu=>?_)
    .rw[AK]at hj;split at hj
     .rw[AR]at hj;rw[Addr.add_lit,p2.cell];exact hj
     .cases hj
    .obtain⟨a,ha⟩:=C9 hu;have hlt:a<ys.length:=by have:=(A8.1 ha).1;omega
     obtain⟨v0,e1,e2,_⟩:=p9 a _ (A0 hlt);rw[AK,if_pos hlt,e1]at ha;cases ha;exact e2
   .exact p9.cells λa ha=>by rw[AK,if_pos ha]
 have fin:∀{w':World} {b o cap:Nat} {cells:Array Value} {bss:List (List Nat)},(∀j ob,j≠k->σ j=some ob->¬Bk G j ob b)->(∀c,¬G.im.cell b c)->¬G.im.obj b->fr.owned b->b ∉ bc->(b::bss.flatten).Nodup->(∀c∈bss.flatten,c∈bs)->
  (∀b',b'<w.heap.size->b'≠b->w'.heap[b']?=w.heap[b']?)->w.heap.size<=w'.heap.size->w'.os=w.os->w'.tape=w.tape->w'.output=w.output->
  GL (xs++ys).length cap->RowAt w' b cells el->o+cap<=cells.size->bss.length=xs.length->Hds fr.owned w G.im e' (id2::q) (xs++ys) (bss++css) (cells.toList.drop o)->
  Res P fr free self σ w G ⟨.obj self 0,(self,some (.dp (el::id2::q) e' (xs++ys) (self+1) none true))::(k,none)::gone (FC sx)⟩ (.slice (some ⟨b,o,none⟩) (xs++ys).length cap) w':=by
  intro w' b o cap cells bss a1 a2 a3 a4 a0 a01 a02 a5 a6 a7 a8 a9 a10 a11 a12 a14 a13;obtain⟨g1,m1⟩:=hm.touch (w':=w') hnk a1 a2 a3 a4 a5 a6 a11.lt a7 a8 a9;have hfl:(bss++css).flatten=bss.flatten++css.flatten:=List.flatten_append
  obtain ⟨G',g2,m2,m3⟩:=(m1.gone (FC sx)).mk_dp hself hself1 (id:=el) (r:=id2::q) (t:=e') (x:=(xs++ys:List (E4 (id2::q) e').T)) (DV.mk2 (xs:=xs++ys) (bss:=bss++css) a10 a11 a12 a4 a2 a3 (by rw [A6,A6,a14,s4]) (a13.keep g1.ext λc hc=>by
   rw[hfl]at hc
   have hne:c≠b/\c<w.heap.size:=by
    rcases AL.1 hc with h|h
    .exact⟨λe=>(B7.1 a01).1 (e▸h),HP (hm.objs k _ hkσ) ((hbk c).2 (a02 c h))⟩
    .exact⟨λe=>a0 (e▸s5 c h),hblt c (s5 c h)⟩
   exact⟨a5 c hne.2 hne.1,λ_ h=>h,λh=>h⟩)) (by
   rw[hfl];obtain⟨n1,n2⟩:=B7.1 a01;refine B7.2 ⟨λh=>?_,BA.2 ⟨n2,hcn,λx hx y hy e=>?_⟩⟩
   .rcases AL.1 h with h|h
    .exact n1 h
    .exact a0 (s5 _ h)
   .subst e;exact hbc x (s5 x hy) (a02 x hx)) (λb' hb' j ob hj hbj=>by
   obtain⟨hjn,hj⟩:=vX hj;rw[FK]at hj;by_cases e:j=k
   .rw[if_pos e]at hj;cases hj
   .rw[if_neg e]at hj;rcases A_.1 hb' with rfl|hb'
    .exact a1 j ob e hj hbj
    .rw[hfl]at hb';rcases AL.1 hb' with h|h
     .exact e (hm.sep j k ob _ b' hj hkσ hbj ((hbk b').2 (a02 b' h)))
     .obtain⟨j',j1,ob',j2,j3⟩:=d3 b' (s5 b' h);exact hjn ((hm.sep j j' ob ob' b' hj j2 hbj j3)▸j1))
  refine⟨G',g1.trans g2,?_,m3⟩
  have e4:EK σ ((self,some (Obj.dp (el::id2::q) e' (xs++ys:List (E4 (id2::q) e').T) (self+1) none true))::(k,none)::gone (FC sx))=
   EK (EK (EK σ [(k,none)]) (gone (FC sx))) [(self,some (Obj.dp (el::id2::q) e' (xs++ys:List (E4 (id2::q) e').T) (self+1) none true))]:=by
   funext a;rw[show(((self,some (Obj.dp (el::id2::q) e' (xs++ys:List (E4 (id2::q) e').T) (self+1) none true))::(k,none)::gone (FC sx)):List (Nat×Option Obj))=[(self,some (Obj.dp (el::id2::q) e' (xs++ys:List (E4 (id2::q) e').T) (self+1) none true))]++([(k,none)]++gone (FC sx))from rfl,FW,FW,FK,FK,FK,JB,JB,FK];by_cases e1:a=self
   .rw[if_pos e1,if_pos e1]
   .rw[if_neg e1,if_neg e1];by_cases e2:a=k
    .rw[if_pos e2,if_pos e2];split<;>rfl
    .rw[if_neg e2,if_neg e2]
  show MemS P fr (HO free self) (EK σ ((self,_)::(k,none)::gone (FC sx))) w' G';rw[e4];exact m2
 have hnew:(∀j ob,j≠k->σ j=some ob->¬Bk G j ob w.heap.size)/\(∀c,¬G.im.cell w.heap.size c)/\¬G.im.obj w.heap.size:=
  ⟨λj ob _ hj hbj=>absurd (HP (hm.objs j ob hj) hbj) (AH _),λc h=>absurd (hm.after.inC _ _ h) (AH _),λh=>absurd (hm.after.inO _ h) (AH _)⟩
 have hB':(xs.length+ys.length)*24<=70368744177664:=hB
 have grow:∀{base:Option Addr} {cap:Nat} {olds:List Value} {bss:List (List Nat)},cap<xs.length+ys.length->(Builtin.firstCells 1 xs.length (.slice base xs.length cap)).run P w.drew=.ok olds.toArray w.drew->
  olds.length=xs.length->Hds fr.owned w G.im e' (id2::q) xs bss olds->bss.length=xs.length->bss.flatten.Nodup->(∀c∈bss.flatten,c∈bs)->∃z w',(Builtin.append_ #[id,id] ty #[.slice base xs.length cap,vx]).run P w=.ok z w'/\
  Res P fr free self σ w G ⟨.obj self 0,(self,some (.dp (el::id2::q) e' (xs++ys) (self+1) none true))::(k,none)::gone (FC sx)⟩ z w':=by
  intro base cap olds bss hcap hold hol hor hbl hbn hbsub
  have hbig:(xs.length+ys.length)*i.bytes<=140737488355328:=by
   have:(xs.length+ys.length)*i.bytes<=(xs.length+ys.length)*24:=C6 _ h3;omega
  have hrun:=run_append_grow_src w id id ty el i _ hun h1 h4 base xs.length cap olds (by rw[h2'];exact hold) vx ys.length news (by rw[h2'];exact s1) hcap o5 (growslice_fits hcap hbig);have hge:=grownCap_ge w (xs.length+ys.length) cap el;have hbslt:∀c∈bss.flatten,c<w.heap.size:=λc hc=>HP (hm.objs k _ hkσ) ((hbk c).2 (hbsub c hc))
  have:=fin (w':=w.drew.alloc (.cells ((olds++news).toArray++Builtin.zeroCells (Value.slice none 0 0).cells (grownCap w (xs.length+ys.length) cap el-(xs.length+ys.length))) el)) (b:=w.heap.size) (o:=0)
   (cap:=grownCap w (xs.length+ys.length) cap el) (cells:=((olds++news).toArray++Builtin.zeroCells (Value.slice none 0 0).cells (grownCap w (xs.length+ys.length) cap el-(xs.length+ys.length)))) (bss:=bss)
   hnew.1 hnew.2.1 hnew.2.2 hm.owned_new (λh=>absurd (hblt _ h) (AH _)) (B7.2 ⟨λh=>absurd (hbslt _ h) (AH _),hbn⟩) hbsub
   (λb' h _=>by show(w.heap.push _)[b']?=_;rw[CP h,AY h]) (by show _<=(w.heap.push _).size;simp) rfl rfl rfl
   (by rw[A6];exact⟨hge,o5⟩) ⟨(0,0),by show(w.heap.push _)[_]?=_;rw[CJ],.inl (AB _)⟩
   (by
    rw[B8,Array.size_append,size_zeroCells,BJ,A6,hol,s2];have:(Value.slice none 0 0).cells.size=1:=rfl;rw[this];omega) hbl
   (by
    rw[DG,Array.toList_append];refine Hds.append hor s3 hbl (λa ha=>?_) (λa ha=>?_)
    .rw[AQ og];simp only[DN];rw[AQ o5]
    .rw[AQ og];simp only[DN];rw[AZ o5,hol];rw[show xs.length+a-xs.length=a by omega])
  rw[A6]at this;exact⟨_,_,hrun,this⟩
 rcases k5.inv2 with⟨rfl,hx0,hb0⟩|⟨b,o,cap,cells,bss,rfl,hcap,hrow,hsz,hown,hC,hO,hbl,hb0,hrows⟩
 .subst hx0;by_cases h0:ys.length=0
  .have hy0:ys=[]:=AJ h0;subst hy0;have hn:news=[]:=AJ s2;subst hn;have m0:=(hm.drop k).gone (FC sx);obtain⟨G',g2,m2,m3⟩:=m0.mk_dp hself hself1 (id:=el) (r:=id2::q) (t:=e') (x:=([]:List (E4 (id2::q) e').T)) (v:=.slice none 0 0) (bs:=[]) ⟨_,rfl,rfl,.inr (.inl ⟨ou,rfl,rfl,rfl⟩)⟩ B6 (λb hb=>by cases hb);refine⟨.slice none 0 0,w,?_,G',g2,?_,m3⟩
   .have hl1:=s1.len w;have hc1:=s1.cells;simp at hc1;rcases s1.kind with⟨e',hk⟩|hk<;>simp[Builtin.append_,run_underlying hun,run_underlying hk,sizeOf,typeInfo,h1,h2',hl1,hc1]
   .have e4:EK σ ((self,some (Obj.dp (el::id2::q) e' ([]:List (E4 (id2::q) e').T) (self+1) none true))::(k,none)::gone (FC sx))=
     EK (EK (EK σ [(k,none)]) (gone (FC sx))) [(self,some (Obj.dp (el::id2::q) e' ([]:List (E4 (id2::q) e').T) (self+1) none true))]:=by
     funext a;rw[show(((self,some (Obj.dp (el::id2::q) e' ([]:List (E4 (id2::q) e').T) (self+1) none true))::(k,none)::gone (FC sx)):List (Nat×Option Obj))=[(self,some (Obj.dp (el::id2::q) e' ([]:List (E4 (id2::q) e').T) (self+1) none true))]++([(k,none)]++gone (FC sx))from rfl,FW,FW,FK,FK,FK,JB,JB,FK];by_cases e1:a=self
     .rw[if_pos e1,if_pos e1]
     .rw[if_neg e1,if_neg e1];by_cases e2:a=k
      .rw[if_pos e2,if_pos e2];split<;>rfl
      .rw[if_neg e2,if_neg e2]
    show MemS P fr (HO free self) (EK σ ((self,_)::(k,none)::gone (FC sx))) w G';rw[show(([]:List (E4 (id2::q) e').T)++[])=[]from rfl,e4];exact m2
  .exact grow (base:=none) (cap:=0) (olds:=[]) (bss:=[]) og (run_firstCells_none _ _ _ _ _) oc (λi x hx=>by simp at hx) rfl B6 (λc hc=>by cases hc)
 .have hbin:∀j ob,j≠k->σ j=some ob->¬Bk G j ob b:=λj ob hj ho hbj=>hj (hm.sep j k ob _ b ho hkσ hbj ((hbk b).2 (by rw[hb0];exact AI)));have hxc:=hcap.1;have hfull:o+xs.length<=cells.size:=o5
  have hcell:∀o,w.cell? ⟨b,o,none⟩=cells.toList[o]?:=hrow.cell;have hnd0:=k4;rw[hb0]at hnd0;have hsubb:∀c∈bss.flatten,c∈bs:=λc hc=>by rw[hb0];exact AD _ hc
  by_cases hroom:xs.length+ys.length<=cap
  .have hfit:o+xs.length+news.length<=cells.size:=by rw[s2];omega
   obtain⟨fz,hb1,hfz⟩:=(show RowAt w b cells el from hrow);have hst:=TT P b (o+xs.length) el fz news 0 cells w hb1 (hfz.imp (λh=>h) And.left) o5 s1.one
   have hrun:(Builtin.append_ #[id,id] ty #[.slice (some ⟨b,o,none⟩) xs.length cap,vx]).run P w=
    .ok (.slice (some ⟨b,o,none⟩) (xs.length+ys.length) cap) (w.setRow b (F4 cells.toList (o+xs.length) news).toArray):=by
    have hl1:=s1.len w;have hc1:=s1.cells;simp only[CI]at hst;rcases s1.kind with⟨e',hk2⟩|hk2<;>simp[Builtin.append_,run_underlying hun,run_underlying hk2,sizeOf,typeInfo,h1,h2',hl1,hroom,hc1,Addr.add_lit,hst,F4]
   have hspl:(F4 cells.toList (o+xs.length) news).length=cells.size:=by rw[JM (by simpa using hfit)];simp
   have:=fin (w':=w.setRow b (F4 cells.toList (o+xs.length) news).toArray) (b:=b) (o:=o) (cap:=cap) (cells:=(F4 cells.toList (o+xs.length) news).toArray) (bss:=bss)
    hbin hC hO hown (λh=>hbc b h (by rw[hb0];exact AI)) hnd0 hsubb (λb' _ hne=>setRow_other w b b' _ hne) oc rfl rfl rfl
    (by rw[A6];exact⟨hroom,o5⟩) (hrow.set (by rw[BJ,hspl])) (by rw[BJ,hspl];exact hsz) hbl
    (by
     show Hds fr.owned w G.im e' (id2::q) (xs++ys) (bss++css) ((F4 cells.toList (o+xs.length) news).drop o);rw[iD (by simpa using hfit)];refine Hds.append hrows s3 hbl (λa ha=>?_) (λa ha=>?_)
     .unfold F4;rw[AQ og,AK,if_pos ha]
     .unfold F4;rw[AZ og,AQ og]
      congr 1
      simp;omega)
   rw[A6]at this;exact⟨_,_,hrun,this⟩
  .exact grow (base:=some ⟨b,o,none⟩) (cap:=cap) (olds:=(cells.toList.drop o).take xs.length) (bss:=bss) o5
    (run_firstCells_some _ _ _ _ _ _ _ (by simp; omega) (λj u hj=>by
     rw[World.cell?_drew,Addr.add_lit,hcell];rw[AK]at hj;split at hj
     .rw[AR]at hj;exact hj
     .cases hj)) og (hrows.cells λa ha=>by rw[AK,if_pos ha]) hbl (B7.1 hnd0).2 hsubb
theorem AAQ{t:Ty}{id el ty:Nat}(hl:Lay P t id)(hel:∀x,P.underlying id=some (.slice x)->el=x)(hm:MemS P fr free σ w G)(hσ:∀k o,σ' k=some o->σ k=some o)(hself:free self)(hself1:free (self+1))
 {s sx:SV}{v vx:Value}{r:OpRes}{u:Upd}(hr:X0 σ' self el t s sx=some r)(hu:Gives r u)(hs:SR P w G s v)(hsx:SR P w G sx vx):
 ∃z w',(Builtin.append_ #[id,id] ty #[v,vx]).run P w=.ok z w'/\Res P fr free self σ w G u z w':=by
 have ho:∀k o,σ' k=some o->ObjOK P fr w G k o:=λk o h=>hm.objs k o (hσ k o h);unfold X0 at hr;split at hr
 .rename_i e k g;split at hr
  .rename_i id' e' xs gk hk;cases hb:(Nat.beq g 0&&(Nat.beq el id'&&e'.same e))with
   |false=>rw[hb]at hr;cases hr
   |true=>
    rw[hb]at hr;simp only[AA]at hr;simp only[A4]at hb;have e1:=A2 hb.1;have e2:=A2 hb.2.1;have e3:=Ty.same_eq hb.2.2;subst e1 e2 e3;split at hr
    .rename_i ys hys;cases hr;obtain⟨zs,hz,rfl⟩:=hu.may_inv;exact AAI (xs:=xs) hl hel hm hself hself1 (hσ _ _ hk) hs (iG hl (II ho hys hsx)) hz
    .cases hr
  .rename_i id' id2 q e' xs gk hk;cases hb:(Nat.beq g 0&&(Nat.beq el id'&&((E4 (id2::q) e').same e && !(EV k (FC sx)))))with
   |false=>rw[hb]at hr;cases hr
   |true=>
    rw[hb]at hr;simp only[AA]at hr;simp only[A4,BI]at hb;have e1:=A2 hb.1;have e2:=A2 hb.2.1;have e3:=Ty.same_eq hb.2.2.1;have hkk:k ∉ FC sx:=λh=>by rw[KT.2 h]at hb;exact absurd hb.2.2.2 oc
    subst e1 e2 e3;split at hr
    .rename_i ys hys;cases hr;obtain⟨zs,hz,rfl⟩:=hu.may_inv;exact AAP (xs:=xs) hl hel hm hσ hself hself1 (hσ _ _ hk) hs hsx hkk hys hz
    .cases hr
  .cases hr
 .cases hr
theorem AAR(hm:MemS P fr free σ w G){n:Nat}(hn:free n){p c:SV}{upd:List (Nat×Option Obj)}(h:X1 σ n p c=some upd):
 ∃G',GLe w G w G'/\MemS P fr (λj=>free j/\j≠n) (EK σ upd) w G':=by
 unfold X1 at h;split at h
 .rename_i k _ _ _ _ j _;split at h
  .rename_i id id2 q e xs gk i hk;cases hb:Nat.beq gk (j+2)with
   |false=>rw[hb]at h;cases h
   |true=>
    rw[hb]at h;have eg:=A2 hb;subst eg;simp only[AA]at h;split at h
    .rename_i ids e' y0 gk' hj;cases hs:MH ids (id2::q)with
     |false=>rw[hs]at h;cases h
     |true=>
      rw[hs]at h;have eids:=iK hs;subst eids;simp only[AA]at h;split at h
      .rename_i y hy;cases h;obtain⟨et,ex⟩:=Ty.cast?_some hy
       have et':e'=e:=by
        have:∀(l:List Nat),E4 l e'=E4 l e->e'=e:=by
         intro l;induction l with
         |nil=>intro h;exact h
         |cons a l ih=>intro h;injection h with h;exact ih h
        exact this _ et
       subst et';cases ex;have hkj:k≠j:=λe=>by rw[e,hj]at hk;cases hk
       have hnk:=YH hm hk;obtain⟨h0,hety,v,us,bs,k1,k2,k3,k4,k5⟩:=DpOK.inv (hm.objs _ _ hk);obtain⟨hv,b,o,len,cap,a1,rfl,a2,a3⟩:=DpOK.hole (hm.objs _ _ hk) k1;obtain⟨_,_,v2,us2,bs2,c1,c2,c3,c4,c5⟩:=DpOK.inv (hm.objs _ _ hj);have a1:G.val j 0=some hv:=a1;rw[c1]at a1;cases a1;obtain⟨cells,bss,rfl,q1,q2,q3,q4,q5,q6,q7,rfl,q9⟩:=k5.three (xs:=xs) h0 rfl;have hsz:(E4 (id2::q) e').sz=1:=rfl;have hi:i<bss.length:=by rw[q7];exact a2
       have hbk0:∀c,Bk G k (.dp (id::id2::q) e' xs (j+2) (some [i]) true) c<->c∈b::bss.flatten:=λc=>LL k2 k3;have hbkj:∀c,Bk G j (.dp (id2::q) e' y0 gk' none true) c<->c∈bs2:=λc=>LL c2 c3;have hbc:∀c∈bs2,c ∉ b::bss.flatten:=λc hc h=>hkj (hm.sep k j _ _ c hk hj ((hbk0 c).2 h) ((hbkj c).2 hc));have hfl:=iR hi;have hfs:=YG (c:=bs2) hi;have hnd:=B7.1 k4;have hnd1:=hnd.2;rw[hfl]at hnd1;have hnd2:=BA.1 hnd1;have hnd3:=BA.1 hnd2.2.1;have hinl:∀c,c∈(bss.take i).flatten->c∈bss.flatten:=λc hc=>by rw[hfl];exact AS _ hc
       have hinr:∀c,c∈(bss.drop (i+1)).flatten->c∈bss.flatten:=λc hc=>by rw[hfl];exact AT _ (AT _ hc)
       have hnds:(b::(bss.set i bs2).flatten).Nodup:=by
        rw[hfs];refine B7.2 ⟨λh=>?_,BA.2 ⟨hnd2.1,BA.2 ⟨c4,hnd3.2.1,λx hx y hy e=>?_⟩,λx hx y hy e=>?_⟩⟩
        .rcases AL.1 h with h|h
         .exact hnd.1 (hinl b h)
         .rcases AL.1 h with h|h
          .exact hbc b h AI
          .exact hnd.1 (hinr b h)
        .subst e;exact hbc x hx (AD _ (hinr x hy))
        .subst e;rcases AL.1 hy with h|h
         .exact hbc x h (AD _ (hinl x hx))
         .exact hnd2.2.2 x hx x (AT _ h) rfl
       have hmem:∀c,c∈b::(bss.set i bs2).flatten->c∈b::bss.flatten\/c∈bs2:=by
        intro c hc;rcases A_.1 hc with h|h
        .exact .inl (by rw[h];exact AI)
        .rw[hfs]at h;rcases AL.1 h with h|h
         .exact .inl (AD _ (hinl c h))
         .rcases AL.1 h with h|h
          .exact .inr h
          .exact .inl (AD _ (hinr c h))
       obtain⟨g0,m0⟩:=hm.ghost hn (.tuple (List.map HJ (b::(bss.set i bs2).flatten)).toArray);let G0:Gh:=G.addVal n 0 (.tuple (List.map HJ (b::(bss.set i bs2).flatten)).toArray)
       have g0:GLe w G w G0:=g0;have m0:MemS P fr (λj=>free j/\j≠n) σ w G0:=m0;have hus:G0.val n 0=some (.tuple (List.map HJ (b::(bss.set i bs2).flatten)).toArray):=by simp[G0,Gh.addVal]
       have him:G0.im=G.im:=rfl
       have hobj:ObjOK P fr w G0 k (.dp (id::id2::q) e' ((show List (E4 (id2::q) e').T from xs).set i y0) n none true):=by
        refine ⟨(by intro h; cases h),g0.ety _ _ hety,_,_,b::(bss.set i bs2).flatten,g0.val _ _ _ k1,hus,oc,hnds,⟨_,rfl,rfl,.inr (.inr ⟨(by intro h; cases h),b,o,cap,cells,bss.set i bs2,by rw [AP],
         by rw[AP];exact q1,q2,q3,q4,q5,q6,by rw[AP,AP];exact q7,rfl,λa x hx=>?_⟩)⟩,trivial⟩
        rw[TY,iS hi];by_cases e1:i=a
        .subst e1;rw[if_pos rfl];rw[CN a2]at hx;cases hx
         have hcut:(cells.toList.drop (o+i*(E4 (id2::q) e').sz)).take (E4 (id2::q) e').sz=[hv]:=by
          show(cells.toList.drop (o+i*1)).take 1=[hv];rw[iV,CV,<-q2.cell];exact a3
         rw[hcut];exact c5.keep g0.ext λ_ _=>⟨rfl,λ_ h=>h,λh=>h⟩
        .rw[if_neg e1];rw[CW e1]at hx;have:=q9 a x hx;rw[iT,if_neg e1]at this;exact this.keep g0.ext λ_ _=>⟨rfl,λ_ h=>h,λh=>h⟩
       have m1:=(m0.drop j).drop k
       have hdrop:∀a o',EK (EK σ [(j,none)]) [(k,none)] a=some o'->a≠k/\a≠j/\σ a=some o':=by
        intro a o' h;rw[FK]at h;by_cases e1:a=k
        .rw[if_pos e1]at h;cases h
        .rw[if_neg e1,FK]at h;by_cases e2:a=j
         .rw[if_pos e2]at h;cases h
         .rw[if_neg e2]at h;exact⟨e1,e2,h⟩
       have m2:=m1.backO (k:=k) hobj (λh=>hnk h.1) (λc hc a o' ha hba=>by
        obtain⟨e1,e2,ha⟩:=hdrop a o' ha;rw[show Bk G0 k (.dp (id::id2::q) e' ((show List (E4 (id2::q) e').T from xs).set i y0) n none true) c<->c∈b::(bss.set i bs2).flatten from LL hus oc]at hc;rw[GH (hm.objs a o' ha) g0]at hba;rcases hmem c hc with h|h
        .exact e1 (hm.sep a k o' _ c ha hk hba ((hbk0 c).2 h))
        .exact e2 (hm.sep a j o' _ c ha hj hba ((hbkj c).2 h)))
       refine⟨G0,g0,?_⟩
       have e4:EK σ [(k,some (Obj.dp (id::id2::q) e' ((show List (E4 (id2::q) e').T from xs).set i y0) n none true)),(j,none)]=
        EK (EK (EK σ [(j,none)]) [(k,none)]) [(k,some (Obj.dp (id::id2::q) e' ((show List (E4 (id2::q) e').T from xs).set i y0) n none true))]:=by
        funext a;rw[show([(k,some (Obj.dp (id::id2::q) e' ((show List (E4 (id2::q) e').T from xs).set i y0) n none true)),(j,none)]:List (Nat×Option Obj))=[(k,some (Obj.dp (id::id2::q) e' ((show List (E4 (id2::q) e').T from xs).set i y0) n none true))]++[(j,none)]from rfl,FW,FK,FK,FK,FK,FK];by_cases e1:a=k
        .rw[if_pos e1,if_pos e1]
        .rw[if_neg e1,if_neg e1,if_neg e1]
       rw[e4];exact m2
      .cases h
    .cases h
  .cases h
 .cases h
theorem iW{E:Env}{dr:Bool}(hE:EnvOK P dr E){id:Nat}{ty:Ty}(h:TB E id ty=true):∀k v,ty=.map k v->∀x y,P.underlying id=some (.map x y)->LI P k x=true:=by
 intro k v e x y hu;subst e;simp only[TB,A4,hE.ky _ _ _ hu]at h;obtain⟨h1,h2⟩:=h;split at h2
 .rename_i k' hk;have:=Ty.same_eq h2;subst this;exact hE.eq _ _ h1 hk
 .cases h2
theorem iX{ps:Array (Nat×Operand)}{ρ:Nat×Operand->SV}{a:Act}(h:∀p∈ps.toList,SR P w G (ρ p) (a.eval p.2)):
 ∀(j:Nat) (q:Nat×SV) (u:Nat×Value),(ps.toList.map λp=>(p.1,ρ p))[j]?=some q->(ps.map λp=>(p.1,a.eval p.2)).toList[j]?=some u->q.1=u.1/\SR P w G q.2 u.2:=by
 intro j q u h1 h2;rw[AV]at h1;rw[Array.toList_map,AV]at h2;cases hp:ps.toList[j]? with
 |none=>rw[hp]at h1;cases h1
 |some p=>
  rw[hp]at h1 h2;cases h1;cases h2;exact⟨rfl,h p (B5 hp)⟩
theorem AAS{t:Ty}{id el ty:Nat}{wf:Bool}(hl:Lay P t id)(hel:∀x,P.underlying id=some (.slice x)->el=x)(hm:MemS P fr free σ w G)(hσ:∀k o,σ' k=some o->σ k=some o)(hself:free self)
 {s x:SV}{v vx:Value}{r:OpRes}{u:Upd}(hr:T2 σ' wf self el t s x=some r)(hu:Gives r u)(hs:SR P w G s v)(hx:SR P w G x vx):
 ∃z w',(Builtin.append_ #[id,id] ty #[v,vx]).run P w=.ok z w'/\Res P fr free self σ w G u z w':=by
 have ho:∀k o,σ' k=some o->ObjOK P fr w G k o:=λk o h=>hm.objs k o (hσ k o h);unfold T2 at hr;split at hr
 .rename_i e;split at hr
  .rename_i ys hys;have hv:VRel w G.im (.slice e) ys vx:=II ho hys hx;split at hr
   .have hr:=A3 hr;subst hr;obtain⟨zs,hz,rfl⟩:=hu.may_inv;obtain⟨c,h1,h2⟩:=hs;have h2:c=[.slice none 0 0]:=h2;have hv0:v=.slice none 0 0:=A5.1 ((show c=[v]from h1).symm.trans h2);subst hv0;exact iH hl hel hm hself (iG hl hv) hz
   .rename_i k g;split at hr
    .rename_i id' e' xs g' w' hk;cases hg:(Nat.beq g 0&&(Nat.beq g' 0&&Nat.beq el id'))with
     |false=>rw[hg]at hr;cases hr
     |true=>
      rw[hg]at hr;simp only[AA]at hr;simp only[A4]at hg;have e1:=A2 hg.1;have e2:=A2 hg.2.1;have e3:=A2 hg.2.2;subst e1 e2 e3;split at hr
      .rename_i xs' hxs;have hr:=A3 hr;subst hr;obtain⟨zs,hz,rfl⟩:=hu.may_inv;obtain⟨et,ex⟩:=Ty.cast?_some hxs;have et':e'=e:=by injection et
       subst et';cases ex;exact uM hl hel hm hself (hσ _ _ hk) hs (iG hl hv) hz
      .cases hr
    .cases hr
   .cases hr
  .cases hr
 .cases hr
theorem AAT{t t':Ty}{id id2 el ty:Nat}{wf:Bool}(hl:Lay P t id)(hl2:Lay P t' id2)(hel:∀x,P.underlying id=some (.slice x)->el=x)(hm:MemS P fr free σ w G)(hσ:∀k o,σ' k=some o->σ k=some o)(hself:free self)
 {s x:SV}{v vx:Value}{r:OpRes}{u:Upd}(hr:gI σ' wf self el t t' s x=some r)(hu:Gives r u)(hs:SR P w G s v)(hx:SR P w G x vx):
 ∃z w',(Builtin.append_ #[id,id2] ty #[v,vx]).run P w=.ok z w'/\Res P fr free self σ w G u z w':=by
 unfold gI at hr;split at hr
 .rename_i ys;have hv:=A9A hl2 hx;unfold T2 at hr;simp only[SV.asV,SV.as]at hr;split at hr
  .rename_i ys' hys;obtain⟨_,ex⟩:=Ty.cast?_some hys;have ex:FV ys=ys':=ex;subst ex;split at hr
   .have hr:=A3 hr;subst hr;obtain⟨zs,hz,rfl⟩:=hu.may_inv;obtain⟨c,h1,h2⟩:=hs;have h2:c=[.slice none 0 0]:=h2;have hv0:v=.slice none 0 0:=A5.1 ((show c=[v]from h1).symm.trans h2);subst hv0;exact iH hl hel hm hself hv hz
   .rename_i k g;split at hr
    .rename_i id' e' xs g' w' hk;cases hg:(Nat.beq g 0&&(Nat.beq g' 0&&Nat.beq el id'))with
     |false=>rw[hg]at hr;cases hr
     |true=>
      rw[hg]at hr;simp only[AA]at hr;simp only[A4]at hg;have e1:=A2 hg.1;have e2:=A2 hg.2.1;have e3:=A2 hg.2.2;subst e1 e2 e3;split at hr
      .rename_i xs' hxs;have hr:=A3 hr;subst hr;obtain⟨zs,hz,rfl⟩:=hu.may_inv;obtain⟨et,ex⟩:=Ty.cast?_some hxs;have et':e'=.int .u8:=by injection et
       subst et';cases ex;exact uM hl hel hm hself (hσ _ _ hk) hs hv hz
      .cases hr
    .cases hr
   .cases hr
  .cases hr
 .cases hr
theorem AAU{E:Env}(hE:EnvOK P fr.dr E)(hm:MemS P fr free σ w G)(hσ:∀k o,σ' k=some o->σ k=some o)(hfree:∀k,self<=k->k<self+8->free k){o:Oper}{a:Act}{ρ ρt ρf:Operand->SV}
 (hρ:(∀c x y,o.op≠.pick c x y)->∀x∈o.op.operands,SR P w G (ρ x) (a.eval x))
 (hpick:∀c x y,o.op=.pick c x y->SR P w G (ρ c) (a.eval c)/\(a.eval c=.bool true->SR P w G (ρt x) (a.eval x))/\(a.eval c=.bool false->SR P w G (ρf y) (a.eval y)))
 {r:OpRes}{u:Upd}(hr:gS E ρ ρt ρf σ' self o=some r)(hu:Gives r u):Done P fr.dr o a w (Res P fr free self σ w G u):=by
 have hself:free self:=hfree self (AB _) o5;have ho:∀k o,σ' k=some o->ObjOK P fr w G k o:=λk o h=>hm.objs k o (hσ k o h);unfold gS at hr;cases hop:o.op with
 |move x=>
  rw[hop]at hr;have hr:=A3 hr;subst hr;rw[hu.v_inv];exact Done.calm hm ⟨rfl,_,by simp[execOp,hop],hρ oh x ol⟩
 |assign x=>
  rw[hop]at hr;have hr:=A3 hr;subst hr;rw[hu.v_inv];exact Done.calm hm ⟨rfl,_,by simp[execOp,hop],hρ oh x ol⟩
 |pick c x y=>
  rw[hop]at hr;obtain⟨h1,h2,h3⟩:=hpick c x y hop;obtain⟨e1,b,e2,e3⟩:=A8L (P:=P) (w:=w) (G:=G) hr hu h1 h2 h3;exact Done.calm hm ⟨e1,_,by simp[execOp,hop,e2,asBool],e3⟩
 |alloc t=>
  rw[hop]at hr;simp only at hr;split at hr
  .rename_i ty hty;have hr:=A3 hr;subst hr;rw[hu.pure_inv];obtain⟨z,w',h1,h2⟩:=A8w (hE.ty _ _ hty) hm hself;exact Done.makes ⟨z,w',by simp[execOp,hop,h1],h2⟩
  .cases hr
 |box t x=>
  rw[hop]at hr;simp only at hr;split at hr
  .rename_i ty hty;split at hr
   .rename_i y hy;have hr:=A3 hr;subst hr;rw[hu.pure_inv];obtain⟨z,w',h1,h2⟩:=A8x (id:=t) (hE.ty _ _ hty) hm hself hy (hρ oh x ol);exact Done.makes ⟨z,w',by simp[execOp,hop,h1],h2⟩
   .cases hr
  .cases hr
 |load t x=>
  rw[hop]at hr;simp only at hr;split at hr
  .rename_i ty hty
   have hex:∃ wf:Bool,(bif wf then (match T4 σ' self ty (ρ x) with
    |some r=>some r
    |none=>(QF σ' ty (ρ x)).map OpRes.v)else gR σ' ty (ρ x))=some r:=⟨_,hr⟩
   clear hr;obtain⟨wf,hr⟩:=hex;cases wf with
   |true=>
    simp only[AA]at hr;cases htk:T4 σ' self ty (ρ x)with
    |some r1=>
     rw[htk]at hr;have hr:=A3 hr;subst hr;obtain⟨z,h1,h2⟩:=AAM (self:=self) (hE.ty _ _ hty) hm hσ hself (hfree _ o5 o5) (hfree _ o5 o5) htk hu (hρ oh x ol);exact Done.makes ⟨z,w,by simp[execOp,hop,h1],h2⟩
    |none=>
    rw[htk]at hr;simp only at hr;cases hl:QF σ' ty (ρ x)with
    |none=>rw[hl]at hr;cases hr
    |some s=>
     rw[hl]at hr;have hr:=A3 hr;subst hr;rw[hu.v_inv];obtain⟨z,h1,h2⟩:=uA (hE.ty _ _ hty) ho hl (hρ oh x ol);exact Done.calm hm ⟨rfl,z,by simp[execOp,hop,h1],h2⟩
   |false=>
   simp only[AC]at hr;have hx:=hρ oh x ol;unfold gR at hr;split at hr
   .rename_i e y he;cases hs:e.same ty with
    |false=>rw[hs]at hr;cases hr
    |true=>
     rw[hs]at hr;have hr:=A3 hr;subst hr;rw[he]at hx;obtain⟨z,hz,rfl⟩:=hu.may_inv;have hz:y=some z:=hz;subst hz;obtain⟨c,hc,ad,h2,h3,cc,h4,h5⟩:=hx;have hv:a.eval x=.pointer (some ad):=A5.1 ((show c=[a.eval x]from hc).symm.trans h2);have hsame:=Ty.same_eq hs;subst hsame;obtain⟨z',k1,k2⟩:=A8m (P:=P) (w:=w) (G:=G) (hE.ty _ _ hty) (x:=z) (v:=.pointer (some ad)) ⟨_,rfl,ad,cc,rfl,h3,h4,h5⟩;exact Done.calm hm ⟨rfl,z',by simp[execOp,hop,hv,k1],k2⟩
   .cases hl:loadAt σ' ty (ρ x)with
    |none=>rw[hl]at hr;cases hr
    |some s=>
     rw[hl]at hr;have hr:=A3 hr;subst hr;rw[hu.v_inv];obtain⟨z,h1,h2⟩:=t_ (hE.ty _ _ hty) ho hl hx;exact Done.calm hm ⟨rfl,z,by simp[execOp,hop,h1],h2⟩
  .cases hr
 |store t x y=>
  rw[hop]at hr;simp only at hr;split at hr
  .rename_i ty hty;cases hpd:X3 σ' self ty (ρ y) (ρ x)with
   |some r1=>
    rw[hpd]at hr;have hr:=A3 hr;subst hr;obtain⟨w',h1,h2⟩:=AAN (self:=self) (hE.ty _ _ hty) hm hσ (hfree _ o5 o5) hpd hu (hρ oh x ol) (hρ oh y ol);exact Done.writes ⟨w',by simp[execOp,hop,h1],h2⟩
   |none=>
   rw[hpd]at hr;simp only at hr;cases hl:storeAt σ' ty (ρ y) (ρ x)with
   |none=>rw[hl]at hr;cases hr
   |some s=>
    rw[hl]at hr;have hr:=A3 hr;subst hr;rw[hu.pure_inv];obtain⟨k,o'⟩:=s;obtain⟨w',h1,h2,h3⟩:=A8s (self:=self) (hE.ty _ _ hty) hm hσ hl (hρ oh x ol) (hρ oh y ol);exact Done.writes ⟨w',by simp[execOp,hop,h1],G,h2,h3,⟨_,rfl,trivial⟩⟩
  .cases hr
 |extract x i=>
  rw[hop]at hr;obtain⟨h1,z,h2,h3⟩:=A8M (P:=P) (w:=w) (G:=G) hr hu (hρ oh x ol);exact Done.calm hm ⟨h1,z,by simp[execOp,hop,h2],h3⟩
 |unOp op t x=>
  rw[hop]at hr;obtain⟨h1,z,h2,h3⟩:=A8K (P:=P) (w:=w) (G:=G) hr hu (hρ oh x ol);exact Done.calm hm ⟨h1,z,by simp[execOp,hop,h2],h3⟩
 |insert t m k v=>
  rw[hop]at hr;simp only at hr;split at hr
  .rename_i ty hty;obtain⟨w',h1,h2⟩:=uQ (self:=self) (hE.ty _ _ hty) (λh=>iW hE h) hm hσ hr hu (hρ oh m ol) (hρ oh k ol) (hρ oh v ol);exact Done.writes ⟨w',by simp[execOp,hop,h1],h2⟩
  .cases hr
 |mapUpdate t m k v=>
  rw[hop]at hr;simp only at hr;split at hr
  .rename_i ty hty;obtain⟨w',h1,h2⟩:=uQ (self:=self) (hE.ty _ _ hty) (λh=>iW hE h) hm hσ hr hu (hρ oh m ol) (hρ oh k ol) (hρ oh v ol);exact Done.writes ⟨w',by simp[execOp,hop,h1],h2⟩
  .cases hr
 |lookup t m k ok=>
  rw[hop]at hr;simp only at hr;split at hr
  .rename_i ty hty;obtain⟨h1,z,h2,h3⟩:=A9W (hE.ty _ _ hty) (λh=>iW hE h) ho hr hu (hρ oh m ol) (hρ oh k ol);exact Done.calm hm ⟨h1,z,by simp[execOp,hop,h2],h3⟩
  .cases hr
 |fieldAddr t x f=>
  rw[hop]at hr;simp only at hr;split at hr
  .rename_i p hty;cases hf:Nat.blt f p.fields with
   |false=>rw[hf]at hr;cases hr
   |true=>
    rw[hf]at hr;rw[BW]at hf;simp only[AA]at hr;have hx:=hρ oh x ol;split at hr
    .rename_i e y he;rw[he]at hx;cases hd:(LE p f (.ref e e.dflt)).isSome with
     |false=>rw[hd]at hr;cases hr
     |true=>
      rw[hd]at hr;have hr:=A3 hr;subst hr;obtain⟨z,hz,rfl⟩:=hu.may_inv;have hz:y=some z:=hz;subst hz;obtain⟨s,hs⟩:=Option.isSome_iff_exists.1 ((A8c (z':=z))▸hd:(LE p f (.ref e z)).isSome=true);obtain⟨c,hc,ad,h2,h3,cc,h4,h5⟩:=hx;have hv:a.eval x=.pointer (some ad):=A5.1 ((show c=[a.eval x]from hc).symm.trans h2);obtain⟨z',q2,q3⟩:=tX (hE.ty _ _ hty) hf hs (w:=w) (G:=G) (v:=a.eval x) ⟨_,rfl,ad,cc,by rw[hv],h3,h4,h5⟩;exact Done.calm hm ⟨rfl,z',by simp[execOp,hop,q2],by rw[hs];exact q3⟩
    .cases hl:LE p f (ρ x)with
     |none=>rw[hl]at hr;cases hr
     |some s=>
      rw[hl]at hr;have hr:=A3 hr;subst hr;rw[hu.v_inv];obtain⟨z,h2,h3⟩:=tX (hE.ty _ _ hty) hf hl hx;exact Done.calm hm ⟨rfl,z,by simp[execOp,hop,h2],h3⟩
  .cases hr
 |indexAddr t x i=>
  rw[hop]at hr;simp only at hr;split at hr
  .rename_i ty kd n hty hi;have hiv:=hρ oh i ol;rw[hi]at hiv;obtain⟨e,_⟩:=hiv.int;obtain⟨h1,z,h2,h3⟩:=A8d (k:=kd) (hE.ty _ _ hty) ho hr hu (hρ oh x ol);exact Done.calm hm ⟨h1,z,by simp[execOp,hop,e,h2],h3⟩
  .cases hr
 |index t x i=>
  rw[hop]at hr;simp only at hr;split at hr
  .rename_i ty kd n hty hi;have hiv:=hρ oh i ol;rw[hi]at hiv;obtain⟨e,_⟩:=hiv.int;obtain⟨h1,z,h2,h3⟩:=A8P (k:=kd) (hE.ty _ _ hty) hr hu (hρ oh x ol);exact Done.calm hm ⟨h1,z,by simp[execOp,hop,e,h2],h3⟩
  .cases hr
 |slice t x lo hi mx=>
  rw[hop]at hr;cases mx with
  |some _=>cases hr
  |none=>
   simp only at hr;split at hr
   .rename_i ty hty
    have hopt:∀b:Option Operand,(∀y,b=some y->y∈o.op.operands)->JN P w G (b.map ρ) (b.map a.eval):=by
     intro b hb;cases b with
     |none=>exact trivial
     |some y=>exact hρ oh y (hb y rfl)
    have hex:∃ wf:Bool,(match (bif wf then T3 σ' self ty (ρ x) (lo.map ρ) (hi.map ρ) else none) with
     |some r=>some r
     |none=>WY σ' ty (ρ x) (lo.map ρ) (hi.map ρ))=some r:=⟨_,hr⟩
    clear hr;obtain⟨wf,hr⟩:=hex;cases hsd:(bif wf then T3 σ' self ty (ρ x) (lo.map ρ) (hi.map ρ)else none)with
    |some r1=>
     rw[hsd]at hr;have hr:=A3 hr;subst hr;cases wf with
     |false=>cases hsd
     |true=>
     obtain⟨z,h2,h3⟩:=AAJ (self:=self) (hE.ty _ _ hty) hm hσ hself (hfree _ o5 o5) hsd hu (hρ oh x ol) (hopt lo (λy hy=>by simp[hop,Op.operands,hy])) (hopt hi (λy hy=>by simp[hop,Op.operands,hy]));exact Done.makes ⟨z,w,by simp[execOp,hop,h2],h3⟩
    |none=>
    rw[hsd]at hr;simp only at hr;obtain⟨h1,z,h2,h3⟩:=A8f (hE.ty _ _ hty) ho hr hu (hρ oh x ol) (hopt lo (λy hy=>by simp[hop,Op.operands,hy])) (hopt hi (λy hy=>by simp[hop,Op.operands,hy]));exact Done.calm hm ⟨h1,z,by simp[execOp,hop,h2],h3⟩
   .cases hr
 |makeInterface t x=>
  rw[hop]at hr;simp only at hr;split at hr
  .rename_i ta tu hta htu;cases hi:ta.isIface with
   |true=>rw[hi]at hr;cases hr
   |false=>
    rw[hi]at hr;simp only[AC]at hr;split at hr
    .rename_i y hy;cases hj:LZ t ta y tu with
     |none=>rw[hj]at hr;cases hr
     |some z=>
      rw[hj]at hr;have hr:=A3 hr;subst hr;rw[hu.v_inv];have hv:=II ho hy (hρ oh x ol);obtain⟨v,h2,h3⟩:=A9Z (P:=P) (w:=w) (G:=G) (hE.ty _ _ hta) hi hv hj;exact Done.calm hm ⟨rfl,v,by simp[execOp,hop,h2],h3⟩
    .cases hr
  .cases hr
 |makeSlice t l c=>
  rw[hop]at hr;simp only at hr;split at hr
  .rename_i e x y hty hl hc;have hlv:=hρ oh l ol;have hcv:=hρ oh c ol;rw[hl]at hlv;rw[hc]at hcv;obtain⟨e1,_⟩:=hlv.int;obtain⟨e2,e3⟩:=hcv.int
   have hex:∃ dd:Nat,(match QJ self dd (K3 E.el dd t) (.slice e) x y with
    |some r=>some r
    |none=>some (OpRes.may (List e.T) (mks? (24*e.sz) x y e.dflt) [] λzs=>⟨.obj self 0,[(self,some (.sl (E.el t) e zs 0 (match o.dst with|some d=>E.wr d|none=>false)))]⟩))=some r:=⟨_,hr⟩
   clear hr;obtain⟨dd,hr⟩:=hex;cases hmd:QJ self dd (K3 E.el dd t) (.slice e) x y with
   |some r1=>
    rw[hmd]at hr;have hr:=A3 hr;subst hr
    obtain ⟨z,w',h1,h2⟩:=AAL (self:=self) (id:=t) (hE.ty _ _ hty) hm hself (hfree _ o5 o5) e3 hmd hu (by
     obtain⟨el,hun,_,_⟩:=(show Lay P (.slice e) t from hE.ty _ _ hty).slice;cases dd with
     |zero=>exact absurd hmd (by simp[K3,QJ])
     |succ n=>exact⟨K3 E.el n el,by simp only[K3,hun,hE.el _ _ hun]⟩)
    exact Done.makes ⟨z,w',by simp[execOp,hop,e1,e2,h1],h2⟩
   |none=>
   rw[hmd]at hr;simp only at hr;have hr:=A3 hr;subst hr;obtain⟨zs,hz,rfl⟩:=hu.may_inv;obtain⟨z,w',h1,h2⟩:=A8y (wr:=(match o.dst with|some d=>E.wr d|none=>false)) (hE.ty _ _ hty) hm hself e3 hz (λx hx=>hE.el _ _ hx);exact Done.makes ⟨z,w',by simp[execOp,hop,e1,e2,h1],h2⟩
  .cases hr
 |range t m=>
  rw[hop]at hr;simp only at hr;split at hr
  .rename_i ty hty;unfold tE at hr;split at hr
   .rename_i k v;split at hr
    .rename_i es hes;have hr:=A3 hr;subst hr;rw[hu.pure_inv];have hx:=II (λk o h=>hm.objs k o (hσ k o h)) hes (hρ oh m ol);obtain⟨z,w',h3,h4⟩:=A9m (hE.ty _ _ hty) hm hself hx;exact Done.makes ⟨z,w',by simp[execOp,hop,h3],h4⟩
    .cases hr
   .cases hr
  .cases hr
 |makeMap t h=>
  rw[hop]at hr;simp only at hr;split at hr
  .rename_i k v hty
   have hcond:∃b,(bif b then(some (OpRes.pure ⟨.obj self 0,[(self,some (.mp k v [] true))]⟩))else none)=some r/\(b=true->∀x,h.map a.eval=some x->∃kd n,x=.int kd n):=by
    refine⟨_,hr,λhb x hx=>?_⟩;cases h with
    |none=>cases hx
    |some y=>
     have hy:=hρ oh y ol;have hx:a.eval y=x:=A3 hx;simp only at hb;split at hb
     .rename_i kd n he;rw[he]at hy;exact⟨kd,n,by rw[<-hx];exact hy.int.1⟩
     .cases hb
   obtain⟨b,h1,h2⟩:=hcond;cases b with
   |false=>cases h1
   |true=>
    have h1:=A3 h1;subst h1;rw[hu.pure_inv];obtain⟨z,w',h3,h4⟩:=A97 (hE.ty _ _ hty) hm hself (h2 rfl);exact Done.makes ⟨z,w',by simp[execOp,hop,h3],h4⟩
  .cases hr
 |build t ps=>
  rw[hop]at hr;simp only at hr;split at hr
  .rename_i ty hty;have hex:∃wf:Bool,(bif wf then SZ σ' ty (ps.toList.map λp=>(p.1,ρ p.2))else WX σ' ty (ps.toList.map λp=>(p.1,ρ p.2)))=some r:=⟨_,hr⟩;clear hr;obtain⟨wf,hr⟩:=hex;cases wf with
   |true=>
    obtain⟨h1,z,h2,h3⟩:=A94 (hE.ty _ _ hty) hm hσ hr hu (vs:=ps.map λp=>(p.1,a.eval p.2)) oc (iX (ρ:=λp=>ρ p.2) λp hp=>hρ oh p.2 (by simp[hop,Op.operands];exact⟨p.1,by simpa using hp⟩));exact Done.calm hm ⟨h1,z,by simp[execOp,hop,h2],h3⟩
   |false=>
    obtain⟨h1,z,h2,h3⟩:=A91 (hE.ty _ _ hty) hm hσ hr hu (vs:=ps.map λp=>(p.1,a.eval p.2)) oc (iX (ρ:=λp=>ρ p.2) λp hp=>(hρ oh p.2 (by simp[hop,Op.operands];exact⟨p.1,by simpa using hp⟩)));exact Done.calm hm ⟨h1,z,by simp[execOp,hop,h2],h3⟩
  .cases hr
 |buildSlice t len ps=>
  rw[hop]at hr;simp only at hr;split at hr
  .rename_i r0 hr0;have hr:=A3 hr;subst hr
   have hb:∀{c:Bool} {m:Option OpRes},(bif c then m else none)=some r0->c=true/\m=some r0:=λ{c m} h=>by
    cases c with
    |true=>exact⟨rfl,h⟩
    |false=>cases h
   obtain⟨hb1,hr1⟩:=hb (c:=(match o.dst with|some d=>E.wr d|none=>false)&&Nat.beq len 1) hr0;clear hr0;simp only[A4]at hb1;have hlen:=A2 hb1.2;subst hlen
   obtain⟨x,ty,hps,hty,hr0⟩:∃x ty,ps.toList=[(0,x)]/\E.ty t=some ty/\O7 σ' self (match o.dst with|some d=>E.dp d|none=>0) (K3 E.el (match o.dst with|some d=>E.dp d|none=>0) t) ty (ρ x)=some r0:=by
    rcases hps:ps.toList with _|⟨⟨n,x⟩,_|⟨y,rr⟩⟩
    .rw[hps]at hr1;cases hr1
    .rw[hps]at hr1;cases n with
     |zero=>
      cases hty:E.ty t with
      |none=>rw[hty]at hr1;cases hr1
      |some ty=>rw[hty]at hr1;exact⟨x,ty,rfl,rfl,hr1⟩
     |succ n=>cases hr1
    .rw[hps]at hr1;cases n<;>cases hr1
   .obtain⟨dd,hr0⟩:∃dd,O7 σ' self dd (K3 E.el dd t) ty (ρ x)=some r0:=⟨_,hr0⟩;have eps:ps= #[(0,x)]:=by apply C4;simpa using hps
    subst eps;have hx:=hρ oh x ol
    obtain ⟨z,w',h1,h2⟩:=AAO (id:=t) (hE.ty _ _ hty) hm hσ hself (hfree _ o5 o5) hr0 hu (by
     have hslice:∃e,ty=.slice e:=by
      unfold O7 at hr0;split at hr0
      .split at hr0
       .rename_i _ id0 id2 q _ _ u0 _;cases hsm:(E4 (id0::id2::q) u0).same ty with
        |false=>rw[hsm]at hr0;cases hr0
        |true=>exact⟨E4 (id2::q) u0,(Ty.same_eq hsm).symm⟩
       .cases hr0
      .cases hr0
     obtain⟨e,rfl⟩:=hslice;obtain⟨el,hun,_,_⟩:=(show Lay P (.slice e) t from hE.ty _ _ hty).slice;cases dd with
     |zero=>exact absurd hr0 (by simp[K3,O7])
     |succ n=>exact⟨K3 E.el n el,by simp only[K3,hun,hE.el _ _ hun]⟩) hx
    exact Done.makes ⟨z,w',by simp[execOp,hop,h1],h2⟩
  split at hr
  .rename_i e hty;split at hr
   .rename_i xs hx;have hr:=A3 hr;subst hr;rw[hu.pure_inv];cases hz:Nat.beq len 0 with
    |true=>
     rw[hz]at hx;have e0:=A2 hz;subst e0;simp only[AA]at hx;split at hx
     .rename_i hps;cases hx;have eps:ps= #[]:=by simpa using hps
      subst eps;obtain⟨z,w',h2,h3⟩:=A96 (wr:=(match o.dst with|some d=>E.wr d|none=>false)) (hE.ty _ _ hty) hm hself (λx hx=>hE.el _ _ hx);exact Done.makes ⟨z,w',by simp[execOp,hop,h2],h3⟩
     .cases hx
    |false=>
    have hx:(bif Nat.blt 0 len&&Nat.ble (len*e.sz) 16777216 then NF σ' e (ps.toList.map λp=>(p.1,ρ p.2)) (List.replicate len e.dflt)else none)=some xs:=by
     rw[hz]at hx
     have hpos:Nat.blt 0 len=true:=by
      rw[BW];apply Nat.pos_of_ne_zero;intro e0;rw[e0]at hz;cases hz
     rw[hpos];exact hx
    obtain⟨z,w',h2,h3⟩:=A95 (wr:=(match o.dst with|some d=>E.wr d|none=>false)) (hE.ty _ _ hty) hm hσ hself hx (vs:=ps.map λp=>(p.1,a.eval p.2)) oc (λx hx=>hE.el _ _ hx) (iX λp hp=>hρ oh p.2 (by simp[hop,Op.operands];exact⟨p.1,by simpa using hp⟩));exact Done.makes ⟨z,w',by simp[execOp,hop,h2],h3⟩
   .cases hr
  .cases hr
 |binOp op t x y z=>
  rw[hop]at hr;simp only at hr;split at hr
  .rename_i r0 hr0;have hr:=A3 hr;subst hr;obtain⟨e1,v,e2,e3⟩:=A8I (P:=P) (w:=w) (G:=G) hr0 hu (hρ oh x ol) (hρ oh y ol) (λq hq=>hE.ty _ _ hq) x y;exact Done.calm hm ⟨e1,v,by simp only[execOp,hop,Sem.run_bind]at e2 ⊢;rw[e2];rfl,e3⟩
  split at hr
  .rename_i r0 hr0;have hr:=A3 hr;subst hr;unfold sX at hr0;split at hr0
   .rename_i ty hty;cases hok:(E.eq t&&sW ty)with
    |false=>rw[hok]at hr0;cases hr0
    |true=>
     rw[hok]at hr0;simp only[AA]at hr0;simp only[A4]at hok;split at hr0
     .rename_i xu xv hxu hxv;split at hr0
      .rename_i bb hbb
       have ha:∃p,ty=.agg p:=by
        cases ty<;>first|exact⟨_,rfl⟩|cases hok.2
       have h1:=JL hxu (hρ oh x ol);have h2:=JL hxv (hρ oh y ol);obtain⟨q1,q2⟩:=A8h (op:=op) (ox:=x) (oy:=y) (hE.ty _ _ hty) ha (hE.eq _ _ hok.1 hty) h1 h2 hbb;cases op<;>simp only[LD,AM]at hr0<;>first|(cases hr0;done)|skip
       .subst hr0;rw[hu.v_inv];have e2:=q1 rfl;exact Done.calm hm ⟨rfl,.bool bb,by simp only[execOp,hop,Sem.run_bind]at e2 ⊢;rw[e2];rfl,SR.mk_bool _⟩
       .subst hr0;rw[hu.v_inv];have e2:=q2 rfl;exact Done.calm hm ⟨rfl,.bool (!bb),by simp only[execOp,hop,Sem.run_bind]at e2 ⊢;rw[e2];rfl,SR.mk_bool _⟩
      .cases hr0
     .cases hr0
   .cases hr0
  have hcond:∃b,(bif b then WW op (ρ x) (ρ y)else none)=some r/\(b=true->∀c,ρ x=.val .bool c->P.underlying t=some .bool):=by
   refine⟨_,hr,λhb c hc=>?_⟩;rw[hc]at hb;simp only at hb;split at hb
   .rename_i ht;exact(hE.ty _ _ ht).bool
   .cases hb
  obtain⟨b,h1,h2⟩:=hcond;cases b with
  |false=>cases h1
  |true=>
   obtain⟨e1,v,e2,e3⟩:=A8J (P:=P) (w:=w) (G:=G) h1 hu (hρ oh x ol) (hρ oh y ol) t x y (h2 rfl);exact Done.calm hm ⟨e1,v,by simp only[execOp,hop,Sem.run_bind]at e2 ⊢;rw[e2];rfl,e3⟩
 |makeFunc fn first caps=>
  rw[hop]at hr;cases fn with
  |func f=>
   simp only at hr;split at hr
   .rename_i hfirst;have hf0:first= #[]:=by simpa using hfirst
    subst hf0;have hr:=A3 hr;subst hr;rw[hu.v_inv];refine Done.calm hm ⟨rfl,.func (.func f) #[] (caps.map a.eval),by simp[execOp,hop,Instr.makeFunc],_,rfl,caps.map a.eval,rfl,?_⟩;refine uR oc λj s v h1 h2=>?_;rw[AV]at h1;rw[Array.toList_map,AV]at h2;cases hp:caps.toList[j]? with
    |none=>rw[hp]at h1;cases h1
    |some p=>
     rw[hp]at h1 h2;cases h1;cases h2;have hmem:=B5 hp;exact hρ oh p (by simp[hop,Op.operands];simpa using hmem)
   .cases hr
  |_=>cases hr
 |nilCheck x=>
  rw[hop]at hr;have hx:=hρ oh x ol
  have fin:∀{s:SV} {ad:Addr},a.eval x=.pointer (some ad)→SR P w G s (.pointer (some ad))→u=⟨s,[]⟩→Done P fr.dr o a w (Res P fr free self σ w G u):=by
   intro s ad h1 h2 h3;subst h3;exact Done.calm hm ⟨rfl,_,by simp only[execOp,hop,h1];rfl,h2⟩
  have finF:∀{s:SV} {f:Nat} {vs:Array Value},a.eval x=.func (.func f) #[] vs->SR P w G s (.func (.func f) #[] vs)->u=⟨s,[]⟩->Done P fr.dr o a w (Res P fr free self σ w G u):=by
   intro s f vs h1 h2 h3;subst h3;exact Done.calm hm ⟨rfl,_,by simp only[execOp,hop,h1];rfl,h2⟩
  simp only at hr;split at hr
  .rename_i k p q he;have hr:=A3 hr;subst hr;rw[he]at hx;obtain⟨b,t,oo,_,_,_,hv⟩:=IA hx;exact fin hv (hv▸hx) hu.v_inv
  .rename_i k p i q uu he;have hr:=A3 hr;subst hr;rw[he]at hx;obtain⟨b,t,oo,n,e,o',_,_,_,_,_,_,hv⟩:=XT hx;exact fin hv (hv▸hx) hu.v_inv
  .rename_i k g i q uu he;have hr:=A3 hr;subst hr;rw[he]at hx;obtain⟨b,oo,len,cap,e,o',_,_,_,_,_,hv⟩:=MM hx;exact fin hv (hv▸hx) hu.v_inv
  .rename_i t y he;have hr:=A3 hr;subst hr;rw[he]at hx;obtain⟨ad,c,hv,_⟩:=OC hx;exact fin hv (hv▸hx) hu.v_inv
  .rename_i e y he;have hr:=A3 hr;subst hr;rw[he]at hx;obtain⟨z,hz,rfl⟩:=hu.may_inv;have hz:y=some z:=hz;subst hz;obtain⟨c,hc,ad,h2,h3,cc,h4,h5⟩:=hx;have hv:a.eval x=.pointer (some ad):=A5.1 ((show c=[a.eval x]from hc).symm.trans h2);exact fin (s:=.ref e z) hv ⟨_,rfl,ad,cc,rfl,h3,h4,h5⟩ rfl
  .rename_i f cc he;have hr:=A3 hr;subst hr;rw[he]at hx;obtain⟨c,hc,vs,h1,h2⟩:=hx;have hv:a.eval x=.func (.func f) #[] vs:=A5.1 ((show c=[a.eval x]from hc).symm.trans h1);exact finF (s:=.fn f cc) hv ⟨_,rfl,vs,rfl,h2⟩ hu.v_inv
  .rename_i nd d c F he;have hr:=A3 hr;subst hr;rw[he]at hx;obtain⟨cc,hc,f,vs,h1,h2⟩:=hx;have hv:a.eval x=.func (.func f) #[] vs:=A5.1 ((show cc=[a.eval x]from hc).symm.trans h1);exact finF (s:=.hof nd d c F) hv ⟨_,rfl,f,vs,rfl,h2⟩ hu.v_inv
  .cases hr
 |convert st t x=>
  rw[hop]at hr;simp only at hr;have hx:=hρ oh x ol;split at hr
  .rename_i sy ty hst hty;have hls:=hE.ty _ _ hst;have hsrc:∃d,P.underlying st=some d:=let ⟨d,hd,_⟩:=hls.isAgg;⟨d,hd⟩
   have hlt:=hE.ty _ _ hty;have hex:∃wf:Bool,(bif wf then gQ self (E.el t) ty (ρ x)else gP σ' sy ty (ρ x))=some r:=⟨_,hr⟩;clear hr;obtain⟨wf,hr⟩:=hex;cases wf with
   |true=>
    simp only[AA]at hr;unfold gQ at hr;split at hr
    .rename_i s he;have hr:=A3 hr;subst hr;rw[hu.pure_inv];rw[he]at hx;obtain⟨z,w',h1,h2⟩:=A9C hE.pin (wr:=true) hlt (λx hx=>hE.el _ _ hx) hsrc hm hself hx;exact Done.makes ⟨z,w',by simp[execOp,hop,h1],h2⟩
    .cases hr
   |false=>
   simp only[AC]at hr;unfold gP at hr;split at hr
   .split at hr
    .rename_i s he;have hr:=A3 hr;subst hr;rw[hu.v_inv];rw[he]at hx;obtain⟨z,w',h1,h2⟩:=A9B hlt hsrc hm hx;exact Done.makes ⟨z,w',by simp[execOp,hop,h1],h2⟩
    .cases hr
   .split at hr
    .rename_i s he;rw[he]at hx;obtain⟨h1,z,h2,h3⟩:=uS (t:=.str) hlt hsrc (s:=.val .str s) rfl (show Gives (.v (.val .str s)) u from by have:=A3 hr;rw[this];exact hu) hx;exact Done.calm hm ⟨h1,z,by simp[execOp,hop,h2],h3⟩
    .cases hs:sy.same (.slice (.int .u8))with
     |false=>rw[hs]at hr;cases hr
     |true=>
      rw[hs]at hr;have es:=Ty.same_eq hs;subst es;simp only[AA]at hr;split at hr
      .rename_i xs hxs;have hr:=A3 hr;subst hr;obtain⟨s,hs',rfl⟩:=hu.may_inv;obtain⟨z,h2,h3⟩:=A9F (G:=G) hlt hls (II ho hxs hx) hs';exact Done.calm hm ⟨rfl,z,by simp[execOp,hop,h2],h3⟩
      .cases hr
   .obtain⟨h1,z,h2,h3⟩:=uS hlt hsrc hr hu hx;exact Done.calm hm ⟨h1,z,by simp[execOp,hop,h2],h3⟩
  .cases hr
 |call c=>
  obtain⟨cal,as,ts⟩:=c;rw[hop]at hr;cases cal with
  |invoke ro m=>
   simp only at hr;have h1:=hρ oh ro (by simp[hop,Op.operands,Call.operands]);split at hr
   .rename_i c has hty;exact AAF hE.fs hE.drs hE.mt hm hop has h1 hr hu
   .cases hr
  |value fo=>
   have h1:=hρ oh fo (by simp[hop,Op.operands,Call.operands])
   exact AAC hE.pin hE.fs hE.ks hE.drs hE.drE hm hσ hfree hop h1 oc (λj s x hj hx=>by
    rw[AV,hx]at hj;cases hj;have hmem:=B5 hx;exact hρ oh x (by simp[hop,Op.operands,Call.operands];right;simpa using hmem)) hr hu
  |builtin b=>
   have hargs:∀x∈as.toList,SR P w G (ρ x) (a.eval x):=λx hx=>hρ oh x (by simp[hop,Op.operands,Call.operands];simpa using hx);cases b<;>first|(cases hr;done)|skip
   case append=>
    rcases has:as.toList with _|⟨s,_|⟨x,_|⟨y,rr⟩⟩⟩<;>simp only[has]at hr<;>first|(cases hr;done)|skip
    rcases hts:ts.toList with _|⟨t,_|⟨t',_|⟨t'',rr⟩⟩⟩<;>simp only[hts]at hr<;>first|(cases hr;done)|skip
    cases htt:Nat.beq t t' with
    |false=>
     rw[htt]at hr;simp only[AC]at hr;split at hr
     .rename_i ty ty' hty hty';have eas:as= #[s,x]:=by apply C4;simpa using has
      have ets:ts= #[t,t']:=by apply C4;simpa using hts
      subst eas ets;obtain⟨z,w',h1,h2⟩:=AAT (ty:=o.type) (wf:=(match o.dst with|some d=>E.wr d|none=>false)) (hE.ty _ _ hty) (hE.ty _ _ hty') (λx hx=>hE.el _ _ hx) hm hσ hself hr hu (hargs s oc) (hargs x oc);exact Done.makes ⟨z,w',by simp[execOp,hop,resolve,invoke,builtin,h1],h2⟩
     .cases hr
    |true=>
     rw[htt]at hr;have:=A2 htt;subst this;simp only[AA]at hr;split at hr
     .rename_i ty hty;have eas:as= #[s,x]:=by apply C4;simpa using has
      have ets:ts= #[t,t]:=by apply C4;simpa using hts
      subst eas ets;cases had:X0 σ' self (E.el t) ty (ρ s) (ρ x)with
      |some r1=>
       rw[had]at hr;have hr:=A3 hr;subst hr;obtain⟨z,w',h1,h2⟩:=AAQ (ty:=o.type) (hE.ty _ _ hty) (λx hx=>hE.el _ _ hx) hm hσ hself (hfree _ o5 o5) had hu (hargs s oc) (hargs x oc);exact Done.makes ⟨z,w',by simp[execOp,hop,resolve,invoke,builtin,h1],h2⟩
      |none=>
      rw[had]at hr;simp only at hr;obtain⟨z,w',h1,h2⟩:=AAS (ty:=o.type) (wf:=(match o.dst with|some d=>E.wr d|none=>false)) (hE.ty _ _ hty) (λx hx=>hE.el _ _ hx) hm hσ hself hr hu (hargs s oc) (hargs x oc);exact Done.makes ⟨z,w',by simp[execOp,hop,resolve,invoke,builtin,h1],h2⟩
     .cases hr
   case len=>
    rcases has:as.toList with _|⟨x,_|⟨y,rr⟩⟩<;>simp only[has]at hr<;>first|(cases hr;done)|skip
    rcases hts:ts.toList with _|⟨t,_|⟨t',rr⟩⟩<;>simp only[hts]at hr<;>first|(cases hr;done)|skip
    split at hr
    .rename_i ty hty;have eas:as= #[x]:=by apply C4;simpa using has
     have ets:ts= #[t]:=by apply C4;simpa using hts
     subst eas ets;obtain⟨h1,z,h2,h3⟩:=A8R (hE.ty _ _ hty) ho hr hu (hargs x oc) #[t] rfl o.type;exact Done.calm hm ⟨h1,z,by simp[execOp,hop,resolve,invoke,builtin,h2],h3⟩
    .cases hr
   case max=>
    rcases has:as.toList with _|⟨x,_|⟨y,_|⟨yy,rr⟩⟩⟩<;>simp only[has]at hr<;>first|(cases hr;done)|skip
    .have eas:as= #[x,y]:=by apply C4;simpa using has
     subst eas;split at hr
     .rename_i k m l n hx hy;have h1:=hargs x oc;have h2:=hargs y oc;rw[hx]at h1;rw[hy]at h2;obtain⟨e1,e2⟩:=h1.int;obtain⟨e3,e4⟩:=h2.int;cases hk:L9 k l with
      |false=>rw[hk]at hr;cases hr
      |true=>
       rw[hk]at hr;have:=PQ hk;subst this;have hr:=A3 hr;subst hr;rw[hu.v_inv];obtain⟨z,h5,h6⟩:=A9a (P:=P) (w:=w) (G:=G) ts o.type e2 e4;exact Done.calm hm ⟨rfl,z,by simp[execOp,hop,resolve,invoke,builtin,e1,e3,h5],h6⟩
     .cases hr
   case min=>
    rcases has:as.toList with _|⟨x,_|⟨y,_|⟨yy,rr⟩⟩⟩<;>simp only[has]at hr<;>first|(cases hr;done)|skip
    .have eas:as= #[x,y]:=by apply C4;simpa using has
     subst eas;split at hr
     .rename_i k m l n hx hy;have h1:=hargs x oc;have h2:=hargs y oc;rw[hx]at h1;rw[hy]at h2;obtain⟨e1,e2⟩:=h1.int;obtain⟨e3,e4⟩:=h2.int;cases hk:L9 k l with
      |false=>rw[hk]at hr;cases hr
      |true=>
       rw[hk]at hr;have:=PQ hk;subst this;have hr:=A3 hr;subst hr;rw[hu.v_inv];obtain⟨z,h5,h6⟩:=A9_ (P:=P) (w:=w) (G:=G) ts o.type e2 e4;exact Done.calm hm ⟨rfl,z,by simp[execOp,hop,resolve,invoke,builtin,e1,e3,h5],h6⟩
     .cases hr
 |_=>cases hop▸hr
theorem MemS.swap(hm:MemS P fr free σ w G){k:Nat}{o o':Obj}(hk:σ k=some o)(ho:ObjOK P fr w G k o')(hb:∀b,Bk G k o' b->Bk G k o b):
 MemS P fr free (EK σ [(k,some o')]) w G:=by
 refine⟨λj p h=>?_,λi j o1 o2 b' hi hj hbi hbj=>?_,hm.after,λj hj=>?_⟩
 .rw[FK]at h;by_cases e:j=k
  .rw[if_pos e]at h;cases h;subst e;exact ho
  .rw[if_neg e]at h;exact hm.objs j p h
 .rw[FK]at hi hj;by_cases e1:i=k<;>by_cases e2:j=k
  .rw[e1,e2]
  .rw[if_pos e1]at hi;rw[if_neg e2]at hj;cases hi;subst e1;exact hm.sep i j o o2 b' hk hj (hb _ hbi) hbj
  .rw[if_neg e1]at hi;rw[if_pos e2]at hj;cases hj;subst e2;exact hm.sep i j o1 o b' hi hk hbi (hb _ hbj)
  .rw[if_neg e1]at hi;rw[if_neg e2]at hj;exact hm.sep i j o1 o2 b' hi hj hbi hbj
 .have hf:=hm.fresh j hj;refine⟨?_,hf.2⟩;rw[FK,if_neg (λe=>?_)]
  .exact hf.1
  .subst e;rw[hf.1]at hk;cases hk
theorem MemS.freeze(hm:MemS P fr free σ w G){k:Nat}{o o':Obj}(hk:σ k=some o){C:Nat->Prop}(hC:∀b,C b->Bk G k o b)
 (ho:GLe w G w {G with im:=⟨λb off=>G.im.cell b off\/C b,G.im.obj⟩}->ObjOK P fr w {G with im:=⟨λb off=>G.im.cell b off\/C b,G.im.obj⟩} k o')(hb:∀b,¬Bk {G with im:=⟨λb off=>G.im.cell b off\/C b,G.im.obj⟩} k o' b):
 ∃G',GLe w G w G'/\MemS P fr free (EK σ [(k,some o')]) w G':=by
 have hle:GLe w G w {G with im:=⟨λb off=>G.im.cell b off\/C b,G.im.obj⟩}:=⟨⟨λ_ _ h=>⟨.inl h,rfl⟩,λ_ h=>⟨h,rfl⟩⟩,λ_ _ _ h=>h,λ_ _ h=>h,λ_ _ h=>h⟩;refine⟨_,hle,λj p h=>?_,λi j o1 o2 b' hi hj hbi hbj=>?_,?_,λj hj=>?_⟩
 .rw[FK]at h;by_cases e:j=k
  .rw[if_pos e]at h;cases h;subst e;exact ho hle
  .rw[if_neg e]at h;exact(hm.objs j p h).keep hle λb hb=>⟨rfl,λoff hoff=>hoff.resolve_right λhc=>e (hm.sep j k p o b h hk hb (hC b hc)),id⟩
 .rw[FK]at hi hj;by_cases e1:i=k<;>by_cases e2:j=k
  .rw[e1,e2]
  .rw[if_pos e1]at hi;cases hi;subst e1;exact absurd hbi (hb _)
  .rw[if_pos e2]at hj;cases hj;subst e2;exact absurd hbj (hb _)
  .rw[if_neg e1]at hi;rw[if_neg e2]at hj;exact hm.sep i j o1 o2 b' hi hj (by rw[<-GH (hm.objs i o1 hi) hle];exact hbi) (by rw[<-GH (hm.objs j o2 hj) hle];exact hbj)
 .have ha:=hm.after;refine⟨ha.ext.trans hle.ext,ha.heap,ha.size,λb off h=>?_,ha.newO,λb off h=>?_,ha.inO,ha.os,ha.tape,ha.output,ha.pins.ext hle.ext⟩
  .rcases h with h|h
   .exact ha.newC b off h
   .exact .inr (M1 (hm.objs k o hk) (hC b h))
  .rcases h with h|h
   .exact ha.inC b off h
   .exact HP (hm.objs k o hk) (hC b h)
 .have hf:=hm.fresh j hj;refine⟨?_,hf.2⟩;rw[FK,if_neg (λe=>?_)]
  .exact hf.1
  .subst e;rw[hf.1]at hk;cases hk
theorem AAV(hm:MemS P fr free σ w G){k:Nat}{o:Obj}(hk:σ k=some o):∃G',GLe w G w G'/\MemS P fr free (EK σ [(k,some (HN o))]) w G':=by
 have hsame:∀{o':Obj},σ k=some o'->∃G',GLe w G w G'/\MemS P fr free (EK σ [(k,some o')]) w G':=λ{o'} h=>
  ⟨G,GLe.refl _ _,hm.swap h (hm.objs k o' h) λ_ h=>h⟩
 have hfresh:∀j,free j->j≠k/\free j/\G.ety j=none/\G.box j=none/\∀g,G.val j g=none:=by
  intro j hj;have hf:=hm.fresh j hj;exact⟨λe=>(by subst e;rw[hf.1]at hk;cases hk),hj,hf.2⟩
 cases o with
 |box t c wr=>
  cases wr with
  |false=>exact hsame hk
  |true=>
   obtain⟨b,cs,el,q1,q2,q3,q4,q5,q6,q7,q8⟩:=hm.objs k _ hk;let G':Gh:={G with im:=⟨λb' off=>G.im.cell b' off\/(b'=b/\off<t.sz),G.im.obj⟩}
   have hle:GLe w G w G':=⟨⟨λ_ _ h=>⟨.inl h,rfl⟩,λ_ h=>⟨h,rfl⟩⟩,λ_ _ _ h=>h,λ_ _ h=>h,λ_ _ h=>h⟩
   refine ⟨G',hle,hm.change (b:=b) hle (λj o' hj ho' hb=>hj (hm.sep j k o' _ b ho' hk hb (by simp [Bk,q1]))) (λ_ _ _=>rfl) (AB _) (NL q2) q8.1
    (λb' off h=>h.imp id λh=>h.1) (λ_ h=>.inl h) rfl rfl rfl (λo' ho'=>?_) hfresh⟩
   cases ho';exact⟨⟨b,cs,el,q1,q2,q3,q4,q5.mono hle,⟨(λh=>oe),λ_ off h=>.inr ⟨rfl,h⟩⟩,q7,q8⟩,by intro b' hb';simp[Bk,HN,G',q1]at hb';exact .inl hb'.symm⟩
 |sl el t xs g wr=>
  cases wr with
  |false=>exact hsame hk
  |true=>
   obtain⟨h0,v,h1,h2⟩:=hm.objs k _ hk;rcases h2 with⟨rfl,rfl⟩|⟨b,cap,cs,rfl,q1,q2,q3,q4,q5,q6,q7,q8⟩
   .exact⟨G,GLe.refl _ _,hm.swap hk ⟨h0,_,h1,.inl ⟨rfl,rfl⟩⟩ λb hb=>by simp[HN,Bk,h1]at hb⟩
   .let G':Gh:={G with im:=⟨λb' off=>G.im.cell b' off∨(b'=b∧off<xs.length*t.sz),G.im.obj⟩}
    have hle:GLe w G w G':=⟨⟨λ_ _ h=>⟨.inl h,rfl⟩,λ_ h=>⟨h,rfl⟩⟩,λ_ _ _ h=>h,λ_ _ h=>h,λ_ _ h=>h⟩
    refine ⟨G',hle,hm.change (b:=b) hle (λj o' hj ho' hb=>hj (hm.sep j k o' _ b ho' hk hb (by simp [Bk,h1]))) (λ_ _ _=>rfl) (AB _) (q2.lt) q5
     (λb' off h=>h.imp id λh=>h.1) (λ_ h=>.inl h) rfl rfl rfl (λo' ho'=>?_) hfresh⟩
    cases ho';refine⟨⟨h0,_,h1,.inr ⟨b,cap,cs,rfl,q1,q2,q3,λi x hx=>(q4 i x hx).ext hle.ext,q5,(λh=>oe),λ_ off=>⟨λh=>.inr ⟨rfl,h⟩,λh=>?_⟩,q8⟩⟩,by intro b' hb';simp[Bk,HN,G',h1]at hb';exact .inl hb'.symm⟩;rcases h with h|h
    .exact absurd h (q6 rfl off)
    .exact h.2
 |mp a c es wr=>
  cases wr with
  |false=>exact hsame hk
  |true=>
   obtain⟨v,h1,b,ents,clock,rfl,q1,q2,q3,q4,q5,q6⟩:=hm.objs k _ hk;let G':Gh:={G with im:=⟨G.im.cell,λb'=>G.im.obj b'\/b'=b⟩}
   have hle:GLe w G w G':=⟨⟨λ_ _ h=>⟨h,rfl⟩,λ_ h=>⟨.inl h,rfl⟩⟩,λ_ _ _ h=>h,λ_ _ h=>h,λ_ _ h=>h⟩
   refine ⟨G',hle,hm.change (b:=b) hle (λj o' hj ho' hb=>hj (hm.sep j k o' _ b ho' hk hb (by simp [Bk,h1]))) (λ_ _ _=>rfl) (AB _) (NL q1) q6
    (λb' off h=>.inl h) (λb' h=>h) rfl rfl rfl (λo' ho'=>?_) hfresh⟩
   cases ho';exact⟨⟨_,h1,b,ents,clock,rfl,q1,q2,λi x e hx he=>⟨(q3 i x e hx he).1.ext hle.ext,(q3 i x e hx he).2.ext hle.ext⟩,⟨(λh=>oe),λ_=>.inr rfl⟩,q5,q6⟩,by intro b' hb';simp[Bk,HN,G',h1]at hb';exact .inl hb'.symm⟩
 |dp ids t x gk h wr=>
  cases h with
  |some p=>exact hsame hk
  |none=>
   cases wr with
   |false=>exact hsame hk
   |true=>
    cases ids with
    |nil=>exact absurd (hm.objs k _ hk) id
    |cons id r=>
     obtain⟨_,_,v,us,bs,h1,h2,h3,h4,h5⟩:=DpOK.inv (hm.objs k _ hk)
     exact hm.freeze (o':=.dp (id::r) t x gk none false) hk (C:=(·∈bs)) (λb hb=>⟨rfl,us,h2,(KR h3).2 hb⟩)
      (λhle=>⟨v,h1,h5.rel hle.ext λb hb off=>.inr hb⟩) (λb hb=>by cases hb.1)
 |kn f c=>exact hsame hk
 |kv t x=>exact hsame hk
 |it a b es=>exact hsame hk
theorem AAW(o:Obj):HN (HN o)=HN o:=by
 cases o with
 |dp ids t x gk h wr=>cases h<;>rfl
 |_=>rfl
theorem iY:∀{fz:List (Nat×Option Obj)} {G:Gh},MemS P fr free σ w G->(∀p∈fz,∃o,σ p.1=some o/\p.2=some (HN o))->∃G',GLe w G w G'/\MemS P fr free (EK σ fz) w G':=by
 intro fz;induction fz with
 |nil=>intro G hm _;exact⟨G,GLe.refl _ _,hm⟩
 |cons p r ih=>
  intro G hm h;obtain⟨G1,h1,h2⟩:=ih hm λq hq=>h q (AD _ hq);obtain⟨k,x⟩:=p;obtain⟨o,ho,hx⟩:=h (k,x) AI;have hx:x=some (HN o):=hx;have ho:σ k=some o:=ho;subst hx
  have hk:∃o1,EK σ r k=some o1/\HN o1=HN o:=by
   have:∀(r:List (Nat×Option Obj)),(∀p∈r,∃o,σ p.1=some o/\p.2=some (HN o))->∃o1,EK σ r k=some o1/\HN o1=HN o:=by
    intro r;induction r with
    |nil=>intro _;exact⟨o,ho,rfl⟩
    |cons q r ih2=>
     intro hr;obtain⟨j,y⟩:=q;obtain⟨o',ho',hy⟩:=hr (j,y) AI;have hy:y=some (HN o'):=hy;have ho':σ j=some o':=ho';subst hy;by_cases e:k=j
     .subst e;rw[ho]at ho';cases ho';exact⟨HN o,by simp[EK,CH],AAW o⟩
     .obtain⟨o1,a1,a2⟩:=ih2 λq hq=>hr q (AD _ hq);refine⟨o1,?_,a2⟩;simp only[EK];rw[show Nat.beq k j=false by rw[<-BO];exact λhh=>e (A2 hh)];exact a1
   exact this r λq hq=>h q (AD _ hq)
  obtain⟨o1,a1,a2⟩:=hk;obtain⟨G2,h3,h4⟩:=AAV h2 a1;refine⟨G2,h1.trans h3,?_⟩;rw[a2]at h4;have e:EK σ ((k,some (HN o))::r)=EK (EK σ r) [(k,some (HN o))]:=FW σ [(k,some (HN o))] r;rw[e];exact h4
theorem iZ{ks:List Nat}:∀p∈LA σ ks,∃o,σ p.1=some o/\p.2=some (HN o):=by
 induction ks with
 |nil=>intro p hp;cases hp
 |cons k r ih=>
  intro p hp;simp only[LA]at hp;split at hp
  .rename_i o ho;rcases A_.1 hp with rfl|hp
   .exact⟨o,ho,rfl⟩
   .exact ih p hp
  .exact ih p hp
theorem TZ(hm:MemS P fr free σ w G)(l:List Sh)(vs:List SV):∃G',GLe w G w G'/\MemS P fr free (LY σ l vs) w G':=iY hm iZ
theorem AAX{l:List (Nat×Option Obj)}(hσ:∀k o,σ' k=some o->σ k=some o):∀k o,EK σ' l k=some o->EK σ l k=some o:=by
 induction l with
 |nil=>exact hσ
 |cons p r ih=>
  intro k o h;obtain⟨j,x⟩:=p;simp only[EK]at h ⊢;cases hb:Nat.beq k j with
  |true=>rw[hb]at h;exact h
  |false=>rw[hb]at h;exact ih k o h
theorem AAY{E:Env}(hE:EnvOK P fr.dr E)(hm:MemS P fr free σ w G)(hσ:∀k o,σ' k=some o->σ k=some o)(hfree:∀k,self<=k->k<self+8->free k){o:Oper}{a:Act}{ρ ρt ρf:Operand->SV}
 (hρ:(∀c x y,o.op≠.pick c x y)->∀x∈o.op.operands,SR P w G (ρ x) (a.eval x))
 (hpick:∀c x y,o.op=.pick c x y->SR P w G (ρ c) (a.eval c)/\(a.eval c=.bool true->SR P w G (ρt x) (a.eval x))/\(a.eval c=.bool false->SR P w G (ρf y) (a.eval y)))
 {r:OpRes}{u:Upd}(hr:QK E ρ ρt ρf σ' self o=some r)(hu:Gives r u):Done P fr.dr o a w (Res P fr free self σ w G u):=by
 unfold QK at hr;split at hr
 .rename_i r0 hr0;cases hr;obtain⟨G1,g1,g2⟩:=iY (fz:=LA σ' (XC E ρ σ' o)) hm λp hp=>let ⟨ob,h1,h2⟩:=iZ p hp;⟨ob,hσ _ _ h1,h2⟩
  have hu0:∃u0,Gives r0 u0/\u=⟨u0.sv,u0.wr++LA σ' (XC E ρ σ' o)⟩:=by
   cases r0 with
   |pure u0=>exact⟨u0,.pure u0,hu.pure_inv⟩
   |may α m d f=>
    obtain⟨x,hx,rfl⟩:=hu.may_inv;exact⟨f x,.may hx,rfl⟩
  obtain⟨u0,hu0,rfl⟩:=hu0;refine(AAU hE g2 (AAX hσ) hfree (λh x hx=>(hρ h x hx).mono g1) (λc x y h=>?_) hr0 hu0).mono λv w' hres=>?_
  .obtain⟨h1,h2,h3⟩:=hpick c x y h;exact⟨h1.mono g1,λhh=>(h2 hh).mono g1,λhh=>(h3 hh).mono g1⟩
  .obtain⟨G',k1,k2,k3⟩:=hres;exact⟨G',g1.trans k1,by rw[FW];exact k2,k3⟩
 .cases hr
end
end Go.Ev
