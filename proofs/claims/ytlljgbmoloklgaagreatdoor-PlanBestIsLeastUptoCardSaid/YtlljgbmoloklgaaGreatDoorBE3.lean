/-
  The evaluator's functions: a function of the program keeps what the evaluator says.
-/
import Derived.Test.YtlljgbmoloklgaaGreatDoorBE2
set_option linter.unusedVariables false
set_option linter.unusedSimpArgs false
set_option linter.unusedSectionVars false
set_option maxRecDepth 100000
namespace Go.Ev
variable [Pins]
section
variable{P:Program}{fr:Fr}{free free':Nat->Prop}{self:Nat}{σ σ':SSo}{w w':World}{G G':Gh}{I:Im}
theorem MemS.back(hm:MemS P fr free σ w G){k b:Nat}{t:Ty}{c:SV}(hbox:G.box k=some (b,t)){wr:Bool}(ho:ObjOK P fr w G k (.box t c wr))(hb:∀j o',σ j=some o'->¬Bk G j o' b):
 MemS P fr free (ER σ [(k,some (.box t c wr))]) w G:=by
 have hblk:∀{b'},Bk G k (.box t c wr) b'->b=b':=by intro b' h;simpa[Bk,hbox]using h
 refine⟨fun j o h=>?_,fun i j o1 o2 b' hi hj hbi hbj=>?_,hm.after,fun j hj=>?_⟩
 ·rw[FX]at h;by_cases e:j=k
  ·rw[if_pos e]at h;cases h;subst e;exact ho
  ·rw[if_neg e]at h;exact hm.objs j o h
 ·rw[FX]at hi hj;by_cases e1:i=k<;>by_cases e2:j=k
  ·rw[e1,e2]
  ·exfalso;rw[if_pos e1]at hi;rw[if_neg e2]at hj;cases hi;subst e1;have:=hblk hbi;subst this;exact hb j o2 hj hbj
  ·exfalso;rw[if_neg e1]at hi;rw[if_pos e2]at hj;cases hj;subst e2;have:=hblk hbj;subst this;exact hb i o1 hi hbi
  ·rw[if_neg e1]at hi;rw[if_neg e2]at hj;exact hm.sep i j o1 o2 b' hi hj hbi hbj
 ·have hf:=hm.fresh j hj;refine⟨?_,hf.2⟩;rw[FX,if_neg (fun e=>?_)]
  ·exact hf.1
  ·subst e;rw[hf.2.2.1]at hbox;cases hbox
theorem MemS.backO(hm:MemS P fr free σ w G){k:Nat}{o:Obj}(ho:ObjOK P fr w G k o)(hnf:¬free k)(hb:∀b,Bk G k o b->∀j o',σ j=some o'->¬Bk G j o' b):
 MemS P fr free (ER σ [(k,some o)]) w G:=by
 refine⟨fun j o' h=>?_,fun i j o1 o2 b' hi hj hbi hbj=>?_,hm.after,fun j hj=>?_⟩
 ·rw[FX]at h;by_cases e:j=k
  ·rw[if_pos e]at h;cases h;subst e;exact ho
  ·rw[if_neg e]at h;exact hm.objs j o' h
 ·rw[FX]at hi hj;by_cases e1:i=k<;>by_cases e2:j=k
  ·rw[e1,e2]
  ·exfalso;rw[if_pos e1]at hi;rw[if_neg e2]at hj;cases hi;subst e1;exact hb _ hbi j o2 hj hbj
  ·exfalso;rw[if_neg e1]at hi;rw[if_pos e2]at hj;cases hj;subst e2;exact hb _ hbj i o1 hi hbi
  ·rw[if_neg e1]at hi;rw[if_neg e2]at hj;exact hm.sep i j o1 o2 b' hi hj hbi hbj
 ·have hf:=hm.fresh j hj;refine⟨?_,hf.2⟩;rw[FX,if_neg (fun e=>?_)]
  ·exact hf.1
  ·subst e;exact hnf hj
def BoxArgs(G:Gh):List Sh->List SV->List Value->Prop
 | .box c::ps,s::ss,v::vs=>(∃k u b,s=.ptr k [] u/\G.box k=some (b,c.ty)/\v=.pointer (some ⟨b,0,none⟩))/\BoxArgs G ps ss vs
 | .bld _ false::ps,s::ss,v::vs=>(∃k u b,s=.ptr k [] u/\G.box k=some (b,GM)/\v=.pointer (some ⟨b,0,none⟩))/\BoxArgs G ps ss vs
 | .io _ t::ps,s::ss,v::vs=>((∃k,s=.obj k 0/\G.val k 0=some v/\G.ety k=some t)\/(s=.nilS/\v=.slice none 0 0))/\BoxArgs G ps ss vs
 |_::ps,_::ss,_::vs=>BoxArgs G ps ss vs
 |_,_,_=>True
theorem AA3:∀{ps:List Sh} {ss:List SV} {vals:List Value} {r:TupR (ps.filter F3)} {n:Nat} {bs:List Nat} {free:Nat->Prop},MemS P fr free σ w G->ss.length=ps.length->vals.length=ps.length->
 BoxArgs G ps ss vals->ShL P w G.im (ps.filter F3) r (GC ps vals) bs->bs.Nodup->
 (∀b∈bs,fr.owned b/\∀j o,σ j=some o->¬Bk G j o b)->(∀k,n<=k->k<n+G8 (ps.filter F3)->free k)->
 ∃G',Made P fr free σ w G n (n+G8 (ps.filter F3)) (HL ps ss (FC (ps.filter F3) r n)) bs G':=by
 intro ps;induction ps with
 |nil=>
  intro ss vals r n bs free hm _ _ _ h _ _ _;obtain⟨_,rfl⟩:=h;have:HL [] ss (FC ([]:List Sh) r n)=[]:=by cases ss<;>rfl
  refine⟨G,?_⟩;show Made P fr free σ w G n n (HL [] ss (FC ([]:List Sh) r n)) [] G;rw[this];exact Made.none hm
 |cons p ps ih=>
  intro ss vals r n bs free hm hls hlv hba h hnd hbs hfree;cases ss with
  |nil=>cases hls
  |cons s ss=>
   cases vals with
   |nil=>cases hlv
   |cons v vals=>
    cases p with
    |box c=>
     obtain⟨⟨k,u,b,rfl,hbox,rfl⟩,hba'⟩:=hba
     have hsplit:∃(x:c.T) (r':TupR (ps.filter F3)) (b1 b2:List Nat),bs=b1++b2/\GV P w G.im (.box c) x [.pointer (some ⟨b,0,none⟩)] b1/\ShL P w G.im (ps.filter F3) r' (GC ps vals) b2/\
      FC ((Sh.box c::ps).filter F3) r n=FG (.box c) x n::FC (ps.filter F3) r' (n+(c.cnt+1)):=by
      have h:ShL P w G.im ([Sh.box c]++ps.filter F3) r ([.pointer (some ⟨b,0,none⟩)]++GC ps vals) bs:=h;obtain⟨b1,b2,e1,h1,h2⟩:=h.split rfl;obtain⟨v',e2,h3⟩:=h1;have e2:Value.pointer (some ⟨b,0,none⟩)=v':=by injection e2
      subst e2;refine⟨_,_,b1,b2,e1,h3,h2,?_⟩;exact UQ (a:=[Sh.box c]) (b:=ps.filter F3) (x:=r) (n:=n)
     obtain⟨x,r',b1,b2,rfl,h1,h2,h3⟩:=hsplit;have hnd':=BD.1 hnd;have hcnt:G8 ((Sh.box c::ps).filter F3)=c.cnt+1+G8 (ps.filter F3):=rfl;rw[hcnt]at hfree ⊢;obtain⟨G1,m1⟩:=ih (n:=n+(c.cnt+1)) hm (by simpa using hls) (by simpa using hlv) hba' h2 hnd'.2.1 (fun b hb=>hbs b (AU _ hb)) (fun k h1 h2=>hfree k (by omega) (by omega));obtain⟨b0,cells,el,bs',e1,rfl,q1,q2,q3,q4,q5,hlay⟩:=h1
     have hb0:b0=b:=by
      injection e1 with e1 _;injection e1 with e1;injection e1 with e1;injection e1 with e1 _ _;exact e1.symm
     subst hb0;have hndc:=B9.1 hnd'.1
     have hfr:∀b'∈b0::bs',fr.owned b'/\∀j o,ER σ (HL ps ss (FC (ps.filter F3) r' (n+(c.cnt+1)))) j=some o->¬Bk G1 j o b':=fun b' hb'=>
      ⟨(hbs b' (AS _ hb')).1,fun j o ho hb2=>by
       rcases m1.own j o b' ho hb2 with h|⟨j',o',h3,h4⟩
       ·exact hnd'.2.2 b' hb' b' h rfl
       ·exact(hbs b' (AS _ hb')).2 j' o' h3 h4⟩
     obtain⟨G2,m2,r2,f2⟩:=K0 (s:=c) (x:=x) (n:=n+1) m1.mem (by rw[m1.im];exact q3) hndc.2 (fun b' hb'=>hfr b' (AI _ hb')) (fun k h1 h2=>⟨hfree k (by omega) (by omega),by omega⟩);have him:G2.im=G.im:=m2.im.trans m1.im;have hle:=m1.le.trans m2.le;have hbox2:G2.box k=some (b0,c.ty):=hle.box _ _ hbox
     have hno:∀j o',ER (ER σ (HL ps ss (FC (ps.filter F3) r' (n+(c.cnt+1))))) (FG c x (n+1)).obs j=some o'->¬Bk G2 j o' b0:=by
      intro j o' ho hb2;rcases m2.own j o' b0 ho hb2 with h|⟨j',o2,h3,h4⟩
      ·exact hndc.1 h
      ·exact(hfr b0 AN).2 j' o2 h3 h4
     have hback:=m2.mem.back (wr:=true) (k:=k) (b:=b0) (t:=c.ty) (c:=(FG c x (n+1)).sv) hbox2
      ⟨b0,cells,el,hbox2,q1,q2,f2,r2,⟨fun _ o=>by rw[him];exact q4 o,fun h=>by cases h⟩,by rw[him];exact q5,(hfr b0 AN).1,hlay⟩ hno
     have eobs:HL (.box c::ps) (.ptr k [] u::ss) (FC ((Sh.box c::ps).filter F3) r n)=
      ([(k,some (.box c.ty (FG c x (n+1)).sv true))]++(FG c x (n+1)).obs)++HL ps ss (FC (ps.filter F3) r' (n+(c.cnt+1))):=by
      rw[h3];rfl
     refine⟨G2,hle,him,?_,?_⟩
     ·rw[eobs,GD,GD];exact hback.shrink fun j hj=>⟨⟨hj.1,fun e=>hj.2 ⟨by omega,by omega⟩⟩,fun e=>hj.2 ⟨by omega,by omega⟩⟩
     ·intro j o b' hj hb';rw[eobs,GD,GD,FX]at hj;by_cases e:j=k
      ·rw[if_pos e]at hj;cases hj;subst e;simp only[Bk,hbox2,BF,AO]at hb';subst hb';exact .inl (AS _ AN)
      ·rw[if_neg e]at hj;rcases m2.own j o b' hj hb' with h|⟨j',o',h3,h4⟩
       ·exact .inl (AS _ (AI _ h))
       ·rcases m1.own j' o' b' h3 h4 with h|h
        ·exact .inl (AU _ h)
        ·exact .inr h
    |io el t=>
     obtain⟨hs,hba'⟩:=hba
     have hsplit:∃(x:List t.T) (r':TupR (ps.filter F3)) (b1 b2:List Nat),bs=b1++b2/\GV P w G.im (.io el t) x [v] b1/\ShL P w G.im (ps.filter F3) r' (GC ps vals) b2/\
      FC ((Sh.io el t::ps).filter F3) r n=FG (.io el t) x n::FC (ps.filter F3) r' (n+1):=by
      have h:ShL P w G.im ([Sh.io el t]++ps.filter F3) r ([v]++GC ps vals) bs:=h;obtain⟨b1,b2,e1,h1,h2⟩:=h.split rfl;obtain⟨v',e2,h3⟩:=h1;have e2:v=v':=by injection e2
      subst e2;exact⟨_,_,b1,b2,e1,h3,h2,UQ (a:=[Sh.io el t]) (b:=ps.filter F3) (x:=r) (n:=n)⟩
     obtain⟨x,r',b1,b2,rfl,h1,h2,h3⟩:=hsplit;have hnd':=BD.1 hnd;have hcnt:G8 ((Sh.io el t::ps).filter F3)=1+G8 (ps.filter F3):=rfl;rw[hcnt]at hfree ⊢;obtain⟨G1,m1⟩:=ih (n:=n+1) hm (by simpa using hls) (by simpa using hlv) hba' h2 hnd'.2.1 (fun b hb=>hbs b (AU _ hb)) (fun k h1 h2=>hfree k (by omega) (by omega))
     have hfr:∀b'∈b1,fr.owned b'/\∀j o,ER σ (HL ps ss (FC (ps.filter F3) r' (n+1))) j=some o->¬Bk G1 j o b':=fun b' hb'=>
      ⟨(hbs b' (AS _ hb')).1,fun j o ho hb2=>by
       rcases m1.own j o b' ho hb2 with h|⟨j',o',h3,h4⟩
       ·exact hnd'.2.2 b' hb' b' h rfl
       ·exact(hbs b' (AS _ hb')).2 j' o' h3 h4⟩
     rcases hs with⟨k,rfl,hval,hety⟩|⟨rfl,rfl⟩
     ·have hval1:=m1.le.val _ _ _ hval;have hety1:=m1.le.ety _ _ hety
      have hsl:SlOK fr w G1.im el t x true v/\∀b',Bk G1 k (.sl el t x 0 true) b'->b'∈b1:=by
       rw[m1.im];rcases h1 with⟨e1,e2,rfl⟩|⟨b',cap,cells,e1,rfl,q1,q2,q3,q4,q5,q6,q7⟩
       ·have e1:v=.slice none 0 0:=by injection e1
        subst e1;exact⟨.inl ⟨rfl,e2⟩,fun b' hb'=>by simp[Bk,hval1]at hb'⟩
       ·have e1:v=.slice (some ⟨b',0,none⟩) x.length cap:=by injection e1
        subst e1;refine⟨.inr ⟨b',cap,cells,rfl,q1,q2,q3,q4,(hfr b' (by simp)).1,q5,q6,q7⟩,fun b2' hb'=>?_⟩;simp only[Bk,hval1,AO]at hb';subst hb';simp
      have hback:=m1.mem.backO (k:=k) (o:=.sl el t x 0 true) ⟨hety1,v,hval1,hsl.1⟩ (fun hf=>by
       have:=(hm.fresh k hf.1).2.1;rw[hety]at this;cases this) (fun b' hb' j o' ho'=>(hfr b' (hsl.2 b' hb')).2 j o' ho')
      have eobs:HL (.io el t::ps) (.obj k 0::ss) (FC ((Sh.io el t::ps).filter F3) r n)=[(k,some (.sl el t x 0 true))]++HL ps ss (FC (ps.filter F3) r' (n+1)):=by
       rw[h3];rfl
      refine⟨G1,m1.le,m1.im,?_,?_⟩
      ·rw[eobs,GD];exact hback.shrink fun j hj=>⟨hj.1,fun e=>hj.2 ⟨by omega,by omega⟩⟩
      ·intro j o b' hj hb';rw[eobs,GD,FX]at hj;by_cases e:j=k
       ·rw[if_pos e]at hj;cases hj;subst e;exact .inl (AS _ (hsl.2 b' hb'))
       ·rw[if_neg e]at hj;rcases m1.own j o b' hj hb' with h|h
        ·exact .inl (AU _ h)
        ·exact .inr h
     ·have eobs:HL (.io el t::ps) (.nilS::ss) (FC ((Sh.io el t::ps).filter F3) r n)=HL ps ss (FC (ps.filter F3) r' (n+1)):=by
       rw[h3];rfl
      refine⟨G1,m1.le,m1.im,?_,?_⟩
      ·rw[eobs];exact m1.mem.shrink fun j hj=>⟨hj.1,fun e=>hj.2 ⟨by omega,by omega⟩⟩
      ·intro j o b' hj hb';rw[eobs]at hj;rcases m1.own j o b' hj hb' with h|h
       ·exact .inl (AU _ h)
       ·exact .inr h
    |bld el c0=>
     cases c0 with
     |true=>exact ih hm (by simpa using hls) (by simpa using hlv) hba h hnd hbs hfree
     |false=>
     obtain⟨⟨k,u,b,rfl,hbox,rfl⟩,hba'⟩:=hba
     have hsplit:∃(x:List Int) (r':TupR (ps.filter F3)) (b1 b2:List Nat),bs=b1++b2/\GV P w G.im (.bld el false) x [.pointer (some ⟨b,0,none⟩)] b1/\ShL P w G.im (ps.filter F3) r' (GC ps vals) b2/\
      FC ((Sh.bld el false::ps).filter F3) r n=FG (.bld el false) x n::FC (ps.filter F3) r' (n+2):=by
      have h:ShL P w G.im ([Sh.bld el false]++ps.filter F3) r ([.pointer (some ⟨b,0,none⟩)]++GC ps vals) bs:=h;obtain⟨b1,b2,e1,h1,h2⟩:=h.split rfl;obtain⟨v',e2,h3⟩:=h1;have e2:Value.pointer (some ⟨b,0,none⟩)=v':=by injection e2
      subst e2;refine⟨_,_,b1,b2,e1,h3,h2,?_⟩;exact UQ (a:=[Sh.bld el false]) (b:=ps.filter F3) (x:=r) (n:=n)
     obtain⟨x,r',b1,b2,rfl,h1,h2,h3⟩:=hsplit;have hnd':=BD.1 hnd;have hcnt:G8 ((Sh.bld el false::ps).filter F3)=2+G8 (ps.filter F3):=rfl;rw[hcnt]at hfree ⊢;obtain⟨G1,m1⟩:=ih (n:=n+2) hm (by simpa using hls) (by simpa using hlv) hba' h2 hnd'.2.1 (fun b hb=>hbs b (AU _ hb)) (fun k h1 h2=>hfree k (by omega) (by omega));obtain⟨b0,cells,el',p,q,bs',e1,rfl,q1,hlay,q2,hp,q4,q5,q6⟩:=h1
     have hb0:b0=b:=by
      injection e1 with e1 _;injection e1 with e1;injection e1 with e1;injection e1 with e1 _ _;exact e1.symm
     subst hb0;have hndc:=B9.1 hnd'.1
     have hfr:∀b'∈b0::bs',fr.owned b'/\∀j o,ER σ (HL ps ss (FC (ps.filter F3) r' (n+2))) j=some o->¬Bk G1 j o b':=fun b' hb'=>
      ⟨(hbs b' (AS _ hb')).1,fun j o ho hb2=>by
       rcases m1.own j o b' ho hb2 with h|⟨j',o',h3,h4⟩
       ·exact hnd'.2.2 b' hb' b' h rfl
       ·exact(hbs b' (AS _ hb')).2 j' o' h3 h4⟩
     have hown:GV P w G1.im (.own el (.int .u8) true) x [q] bs':=by
      rw[m1.im];rcases q6 with⟨rfl,k1,k2⟩|⟨g,cap,gc,rfl,k1,k2,k3,k4,k5,k6,k7⟩
      ·exact .inl ⟨rfl,k1,k2⟩
      ·exact .inr ⟨g,cap,gc,rfl,k1,k2,k3,k4,k5,(fun _=>k6),(fun h=>by cases h),k7⟩
     obtain ⟨G2,m2,r2,f2⟩:=ZB (n:=n+1) m1.mem hown (fun b' hb'=>hfr b' (AI _ hb')) (fun k h1 h2=>by
      have h2:k<n+1+1:=h2;exact⟨hfree k (by omega) (by omega),by omega⟩)
     have hcnt2:(Sh.own el (.int .u8) true).cnt=1:=rfl;rw[hcnt2]at m2;have him:G2.im=G.im:=m2.im.trans m1.im;have hle:=m1.le.trans m2.le;have hbox2:G2.box k=some (b0,GM):=hle.box _ _ hbox
     have hno:∀j o',ER (ER σ (HL ps ss (FC (ps.filter F3) r' (n+2)))) (FG (.own el (.int .u8) true) x (n+1)).obs j=some o'->¬Bk G2 j o' b0:=by
      intro j o' ho hb2;rcases m2.own j o' b0 ho hb2 with h|⟨j',o2,h3,h4⟩
      ·exact hndc.1 h
      ·exact(hfr b0 AN).2 j' o2 h3 h4
     have hsz:cells.size=2:=by rw[<-BY,q2];rfl
     have hback:=m2.mem.back (wr:=true) (k:=k) (b:=b0) (t:=GM) (c:=.pr (.slf k) (.obj (n+1) 0)) hbox2
      ⟨b0,cells,el',hbox2,q1,hsz,⟨_,_,rfl,rfl,f2⟩,⟨[p],[q],q2,⟨b0,GM,hbox2,by rcases hp with rfl|rfl<;>simp⟩,r2⟩,⟨fun _ o=>by rw[him];exact q4 o,fun h=>by cases h⟩,by rw[him];exact q5,(hfr b0 AN).1,fun _=>hlay⟩ hno
     have eobs:HL (.bld el false::ps) (.ptr k [] u::ss) (FC ((Sh.bld el false::ps).filter F3) r n)=
      ([(k,some (.box GM (.pr (.slf k) (.obj (n+1) 0)) true))]++(FG (.own el (.int .u8) true) x (n+1)).obs)++HL ps ss (FC (ps.filter F3) r' (n+2)):=by
      rw[h3];rfl
     refine⟨G2,hle,him,?_,?_⟩
     ·rw[eobs,GD,GD];exact hback.shrink fun j hj=>⟨⟨hj.1,fun e=>hj.2 ⟨by omega,by omega⟩⟩,fun e=>hj.2 ⟨by omega,by omega⟩⟩
     ·intro j o b' hj hb';rw[eobs,GD,GD,FX]at hj;by_cases e:j=k
      ·rw[if_pos e]at hj;cases hj;subst e;simp only[Bk,hbox2,BF,AO]at hb';subst hb';exact .inl (AS _ AN)
      ·rw[if_neg e]at hj;rcases m2.own j o b' hj hb' with h|⟨j',o',h3,h4⟩
       ·exact .inl (AS _ (AI _ h))
       ·rcases m1.own j' o' b' h3 h4 with h|h
        ·exact .inl (AU _ h)
        ·exact .inr h
    |_=>exact ih hm (by simpa using hls) (by simpa using hlv) hba h hnd hbs hfree
end
theorem DV.rel{w:World}{ow:Nat->Prop}{I I':Im}{t:Ty}(e:Ext w I w I'):∀{ids:List Nat} {x:(EA ids t).T} {cs:List Value} {bs:List Nat},DV ow w I t ids x none cs bs->
 (∀b∈bs,∀off,I'.cell b off)->Rel w I' (EA ids t) x cs:=by
 intro ids;induction ids with
 |nil=>intro x cs bs h _;exact Rel.ext e h.2
 |cons id r ih=>
  intro x cs bs h hb;obtain⟨v,rfl,h1,h2⟩:=h;rcases h2 with⟨h2,_⟩|⟨_,rfl,h3,_⟩|⟨h2,b,o,cap,cells,bss,rfl,q1,q2,q3,q4,q5,q6,q7,rfl,q9⟩
  ·cases h2
  ·have h3:(show List (EA r t).T from x)=[]:=h3;refine⟨none,0,by rw[h3];rfl,by rw[h3];exact⟨AM _,BI _⟩,fun _=>⟨h3,rfl⟩,fun ad h=>by cases h⟩
  ·refine⟨some ⟨b,o,none⟩,cap,rfl,q1,(fun h=>by cases h),fun ad had=>?_⟩;cases had;refine⟨fun _=>rfl,fun i y hy=>?_⟩;have hr:=ih (q9 i y hy) fun b' hb'=>hb b' (AI _ (UI hb'));exact⟨_,⟨hr.length,fun j hj=>⟨hb b AN _,Z3 q2 j hj⟩⟩,hr⟩
theorem xM:∀(a b:List Sh),G8 (a++b)=G8 a+G8 b:=by
 intro a b;induction a with
 |nil=>simp[G8]
 |cons s a ih=>simp only[List.cons_append,G8,ih];omega
section
variable{P:Program}{fr:Fr}{free free':Nat->Prop}{self:Nat}{σ σ':SSo}{w w':World}{G G':Gh}{I:Im}
theorem BoxArgs.mono:∀{l:List Sh} {ss:List SV} {vs:List Value},BoxArgs G l ss vs->(∀k b,G.box k=some b->G'.box k=some b)->(∀k g v,G.val k g=some v->G'.val k g=some v)->(∀k t,G.ety k=some t->G'.ety k=some t)->BoxArgs G' l ss vs:=by
 intro l;induction l with
 |nil=>intro ss vs _ _ _ _;cases ss<;>exact trivial
 |cons a l ih=>
  intro ss vs h hb hv he;cases ss with
  |nil=>cases a<;>first|exact trivial|(rename_i el0 c0;cases c0<;>exact trivial)
  |cons s ss=>
   cases vs with
   |nil=>cases a<;>first|exact trivial|(rename_i el0 c0;cases c0<;>exact trivial)
   |cons v vs=>
    cases a with
    |box c=>
     obtain⟨⟨k,u,b,h1,h2,h3⟩,h4⟩:=h;exact⟨⟨k,u,b,h1,hb _ _ h2,h3⟩,ih h4 hb hv he⟩
    |io el t=>
     obtain⟨h1,h2⟩:=h;refine⟨h1.imp (fun⟨k,e1,e2,e3⟩=>⟨k,e1,hv _ _ _ e2,he _ _ e3⟩) id,ih h2 hb hv he⟩
    |bld el c=>
     cases c with
     |true=>exact ih h hb hv he
     |false=>
      obtain⟨⟨k,u,b,h1,h2,h3⟩,h4⟩:=h;exact⟨⟨k,u,b,h1,hb _ _ h2,h3⟩,ih h4 hb hv he⟩
    |_=>exact ih h hb hv he
theorem xN(hm:MemS P fr free σ w G){fs:Nat->Option FSpec}:∀{l:List Sh} {svs:List SV} {x:TupR l} {vs:List Value},MA fs σ l svs=some x->
 (∀(j:Nat) (s:SV) (v:Value),svs[j]?=some s->vs[j]?=some v->SR P w G s v)->BoxArgs G l svs vs:=by
 intro l;induction l with
 |nil=>intro svs x vs _ _;cases svs<;>exact trivial
 |cons a l ih=>
  intro svs x vs h hs;cases svs with
  |nil=>cases a<;>first|exact trivial|(rename_i el0 c0;cases c0<;>exact trivial)
  |cons s svs=>
   cases vs with
   |nil=>cases a<;>first|exact trivial|(rename_i el0 c0;cases c0<;>exact trivial)
   |cons v vs=>
    have h0:=hs 0 s v rfl rfl
    have hrest:BoxArgs G l svs vs:=by
     cases l with
     |nil=>cases svs<;>exact trivial
     |cons b l=>
      rw[UO]at h;split at h
      ·rename_i x1 x2 h1 h2;exact ih h2 (fun j s v h1 h2=>hs (j+1) s v (by simpa using h1) (by simpa using h2))
      ·cases h
    have hfirst:∃y,QR fs σ a s=some y:=by
     cases l with
     |nil=>
      cases svs with
      |nil=>exact⟨x,h⟩
      |cons _ _=>cases h
     |cons b l=>
      rw[UO]at h;split at h
      ·rename_i x1 x2 h1 h2;exact⟨x1,h1⟩
      ·cases h
    cases a with
    |box c=>
     refine⟨?_,hrest⟩;obtain⟨y,hy⟩:=hfirst;have hy:QQ σ c s=some y:=hy;unfold QQ at hy;split at hy
     ·rename_i k u;split at hy
      ·rename_i t cv hk;cases hts:t.same c.ty with
       |false=>rw[hts]at hy;cases hy
       |true=>
        have et:=Ty.same_eq hts;subst et;obtain⟨b,cells,el,k1,k2,_⟩:=hm.objs _ _ hk;obtain⟨cc,hc,b',t',o,j1,j2,_,j4⟩:=h0;rw[k1]at j1;cases j1
        have ho:o=0:=by
         have:Ty.off c.ty []=some o:=j2;cases hc:c.ty<;>rw[hc]at this<;>exact(A4 this).symm
        subst ho;have hv:[v]=[Value.pointer (some ⟨b,0,none⟩)]:=(show cc=[v]from hc).symm.trans j4;exact⟨_,_,b,rfl,k1,A8.1 hv⟩
      ·cases hy
     ·cases hy
    |io el t=>
     refine⟨?_,hrest⟩;obtain⟨y,hy⟩:=hfirst
     replace hy:KU σ el t true s=some y:=hy
     unfold KU at hy;split at hy
     ·rename_i k g;split at hy
      ·rename_i id' t' xs g' w1 hk;cases hb:(Nat.beq g 0&&Nat.beq g g'&&(Nat.beq el id'&&(bif true then w1 else !w1)))with
       |false=>rw[hb]at hy;cases hy
       |true=>
        rw[hb]at hy;have hy:Ty.cast? (.slice t') (.slice t) xs=some y:=hy;simp only[A5]at hb;have e0:=A3 hb.1.1;have e1:=A3 hb.1.2;subst e0 e1;obtain⟨et,_⟩:=Ty.cast?_some hy;have et':t'=t:=by injection et
        subst et';obtain⟨k1,v',k2,_⟩:=hm.objs _ _ hk;have hv:=N4 h0;exact .inl ⟨k,rfl,hv,k1⟩
      ·cases hy
     ·obtain⟨cc,hc,h1⟩:=h0;have h1:cc=[.slice none 0 0]:=h1;have hv:v=.slice none 0 0:=A8.1 ((show cc=[v]from hc).symm.trans h1);exact .inr ⟨rfl,hv⟩
     ·cases hy
    |bld el c=>
     cases c with
     |true=>exact hrest
     |false=>
     refine⟨?_,hrest⟩;obtain⟨y,hy⟩:=hfirst
     replace hy:QP σ el s=some y:=hy
     unfold QP at hy;split at hy
     ·rename_i k u;split at hy
      ·rename_i t cv hk;cases hts:t.same GM with
       |false=>rw[hts]at hy;cases hy
       |true=>
        have et:=Ty.same_eq hts;subst et;obtain⟨b,cells,el,k1,k2,_⟩:=hm.objs _ _ hk;obtain⟨cc,hc,b',t',o,j1,j2,_,j4⟩:=h0;rw[k1]at j1;cases j1;have ho:o=0:=(A4 j2).symm;subst ho;have hv:[v]=[Value.pointer (some ⟨b,0,none⟩)]:=(show cc=[v]from hc).symm.trans j4;exact⟨_,_,b,rfl,k1,A8.1 hv⟩
      ·cases hy
     ·cases hy
    |_=>exact hrest
theorem AA4{m:Mk}{vs:List Value}{rv:Value}(h:JP vs rv)(hl:vs.length=1)(hs:∀(j:Nat) (m':Mk) (v:Value),[m][j]?=some m'->vs[j]?=some v->SR P w G m'.sv v):SR P w G m.sv rv:=by
 cases vs with
 |nil=>cases hl
 |cons v vs=>
  have:vs=[]:=AT (by simpa using hl);subst this;have h:rv=v:=h;rw[h];exact hs 0 m v rfl rfl
theorem xO{ms:List Mk}{vs:List Value}{rv:Value}(h:JP vs rv)(hl:vs.length=ms.length)(hn:ms.length≠1)(hs:∀(j:Nat) (m':Mk) (v:Value),ms[j]?=some m'->vs[j]?=some v->SR P w G m'.sv v):
 SR P w G (.tup (SV.ofList (ms.map (·.sv)))) rv:=by
 have hrv:rv=.tuple vs.toArray:=by
  cases vs with
  |nil=>exact h
  |cons v vs=>
   cases vs with
   |nil=>exact absurd hl.symm hn
   |cons _ _=>exact h
 rw[hrv];refine⟨_,rfl,vs.toArray,rfl,?_⟩;refine jY (by simp[hl]) fun j s v h1 h2=>?_;rw[AK]at h1;cases hm:ms[j]? with
 |none=>rw[hm]at h1;cases h1
 |some m=>
  rw[hm]at h1;cases h1;exact hs j m v hm h2
def kB(ms:List Mk):SV:=match ms with
 |[m]=>m.sv
 |_=>.tup (SV.ofList (ms.map (·.sv)))
theorem xP{ms:List Mk}{vs:List Value}{rv:Value}(h:JP vs rv)(hl:vs.length=ms.length)(hs:∀(j:Nat) (m':Mk) (v:Value),ms[j]?=some m'->vs[j]?=some v->SR P w G m'.sv v):SR P w G (kB ms) rv:=by
 cases ms with
 |nil=>exact xO h hl (by simp) hs
 |cons m ms=>
  cases ms with
  |nil=>exact AA4 h hl hs
  |cons m2 ms=>exact xO h hl (by simp) hs
def LV(σ:SSo)(G:Gh):Im:=
 ⟨fun b o=>G.im.cell b o\/(∃ k t c,σ k=some (.box t c true)/\G.box k=some (b,t)/\o<t.sz)\/(∃ k id t xs g,σ k=some (.sl id t xs g true)/\Bk G k (.sl id t xs g true) b/\o<xs.length*t.sz)\/∃ k ids t x gk,σ k=some (.dp ids t x gk none true)/\Bk G k (.dp ids t x gk none true) b,
  fun b=>G.im.obj b\/∃k a c es,σ k=some (.mp a c es true)/\Bk G k (.mp a c es true) b⟩
theorem L1(w:World):Ext w G.im w (LV σ G):=⟨fun _ _ h=>⟨.inl h,rfl⟩,fun _ h=>⟨.inl h,rfl⟩⟩
theorem AA5{b o:Nat}(h:(LV σ G).cell b o):G.im.cell b o\/∃k ob,σ k=some ob/\Bk G k ob b:=by
 rcases h with h|⟨k,t,c,h1,h2,_⟩|⟨k,id,t,xs,g,h1,h2,_⟩|⟨k,ids,t,x,gk,h1,h2⟩
 ·exact .inl h
 ·exact .inr ⟨k,_,h1,by simp[Bk,h2]⟩
 ·exact .inr ⟨k,_,h1,h2⟩
 ·exact .inr ⟨k,_,h1,h2⟩
theorem AA6{b:Nat}(h:(LV σ G).obj b):G.im.obj b\/∃k ob,σ k=some ob/\Bk G k ob b:=by
 rcases h with h|⟨k,a,c,es,h1,h2⟩
 ·exact .inl h
 ·exact .inr ⟨k,_,h1,h2⟩
theorem AA7(hm:MemS P fr free σ w G):HU w (LV σ G):=by
 refine⟨fun b o h=>?_,fun b h=>?_,hm.after.pins.ext (L1 w)⟩
 ·rcases AA5 h with h|⟨k,ob,h1,h2⟩
  ·exact hm.after.mem.1 b o h
  ·exact HW (hm.objs _ _ h1) h2
 ·rcases AA6 h with h|⟨k,ob,h1,h2⟩
  ·exact hm.after.mem.2.1 b h
  ·exact HW (hm.objs _ _ h1) h2
theorem xQ(hm:MemS P fr free σ w G){k g:Nat}{t:Ty}{x:t.T}{v:Value}(h:U1 σ k g t=some x)(hv:G.val k g=some v):Rel w (LV σ G) t x [v]:=by
 unfold U1 at h;split at h
 ·rename_i id e xs g' wr hk;split at h
  ·rename_i hg;have hgg:=A3 hg;subst hgg;obtain⟨_,v',h1,h2⟩:=hm.objs _ _ hk;rw[hv]at h1;cases h1;cases wr with
   |false=>exact Rel.cast h ((YV h2).ext (L1 w))
   |true=>
    refine Rel.cast h ?_;rcases h2 with⟨rfl,rfl⟩|⟨b,cap,cs,rfl,q1,q2,q3,q4,q5,q6,q7,q8⟩
    ·exact⟨none,0,rfl,⟨AM _,BI _⟩,fun _=>⟨rfl,rfl⟩,fun ad h=>by cases h⟩
    ·refine⟨some ⟨b,0,none⟩,cap,rfl,q1,(fun h=>by cases h),fun ad had=>?_⟩;cases had;refine⟨fun _=>rfl,fun i y hy=>⟨_,⟨?_,fun j hj=>?_⟩,(q4 i y hy).ext (L1 w)⟩⟩
     ·exact(q4 i y hy).length
     ·have hi:i<xs.length:=(AE.1 hy).1
      have hb:i*e.sz+j<xs.length*e.sz:=by
       have:(i+1)*e.sz<=xs.length*e.sz:=B2 _ hi;rw[CE]at this;omega
      refine⟨.inr (.inr (.inl ⟨k,id,e,xs,g,hk,by simp[Bk,hv],by simpa using hb⟩)),?_⟩;rw[AX,if_pos hj,A_,<-q2.cell];simp only[BT]
  ·cases h
 ·rename_i a b es wr hk;split at h
  ·rename_i hg;have hgg:=A3 hg;subst hgg;obtain⟨v',h1,b',ents,clock,rfl,q1,q2,q3,q4,_⟩:=hm.objs _ _ hk;rw[hv]at h1;cases h1;refine Rel.cast h ⟨some b',rfl,(fun h=>by cases h),fun b2 hb2=>?_⟩;cases hb2;refine⟨?_,ents,clock,q1,q2,fun i x e hx he=>⟨(q3 i x e hx he).1.ext (L1 w),(q3 i x e hx he).2.ext (L1 w)⟩⟩;cases wr with
   |false=>exact .inl (q4.2 rfl)
   |true=>exact .inr ⟨k,a,b,es,hk,by simp[Bk,hv]⟩
  ·cases h
 ·rename_i id r e x' gk hh wr hk;split at h
  ·rename_i hg;simp only[A5]at hg;have hgg:=A3 hg.1;subst hgg;cases wr with
   |false=>
    obtain⟨v',h1,h2⟩:=hm.objs _ _ hk;rw[hv]at h1;cases h1;exact Rel.cast h (Rel.ext (L1 w) h2)
   |true=>
    cases hh with
    |some p=>cases hg.2
    |none=>
     obtain⟨_,_,v',us,bs,h1,h2,h3,h4,h5⟩:=DpOK.inv (hm.objs _ _ hk);rw[hv]at h1;cases h1;exact Rel.cast h (h5.rel (L1 w) fun b hb off=>Or.inr (Or.inr (Or.inr ⟨k,_,_,_,_,hk,rfl,us,h2,(K_ h3).2 hb⟩)))
  ·cases h
 ·cases h
theorem AA8(hm:MemS P fr free σ w G){t:Ty}{s:SV}{x:t.T}{cs:List Value}(h:s.asLR σ t=some x)(hr:CR P w G s cs):Rel w (LV σ G) t x cs:=by
 unfold SV.asLR at h;split at h
 ·obtain⟨v,h1,_,rfl⟩:=hr;exact xQ hm h h1
 ·exact(RN (fun k o h=>hm.objs k o h) h hr).ext (L1 w)
theorem xR(hm:MemS P fr free σ w G):∀{t:Ty} {s:SV} {x:t.T} {cs:List Value},s.asCR σ t=some x->CR P w G s cs->Rel w (LV σ G) t x cs:=by
 intro t;induction t with
 |prod a b iha ihb=>
  intro s x cs h hr;simp only[SV.asCR]at h;split at h
  ·split at h
   ·rename_i u v h1 h2;cases h;obtain⟨c,d,rfl,r1,r2⟩:=hr;exact⟨c,d,rfl,iha h1 r1,ihb h2 r2⟩
   ·cases h
  ·exact(RN (fun k o h=>hm.objs k o h) h hr).ext (L1 w)
 |agg p ih=>
  intro s x cs h hr;cases s with
  |val u y=>exact Rel.ext (L1 w) (show Rel w G.im p x cs from RM (p:=p) h hr)
  |_=>exact ih h hr
 |_=>intro s x cs h hr;exact AA8 hm h hr
theorem AA9(hm:MemS P fr free σ w G){t:Ty}{s:SV}{x:t.T}{v:Value}(h:iZ σ t s=some x)(hr:SR P w G s v):VRel w (LV σ G) t x v:=by
 unfold iZ at h;split at h
 ·rename_i e k u;split at h
  ·rename_i t' c hk;cases hs:t'.same e.bare with
   |false=>rw[hs]at h;cases h
   |true=>
    rw[hs]at h;simp only[AA]at h;have et:=Ty.same_eq hs;cases hc:c.asCR σ e with
    |none=>rw[hc]at h;cases h
    |some y=>
     rw[hc]at h;cases h;obtain⟨b,cells,el,k1,k2,k3,k4,k5,_⟩:=hm.objs _ _ hk;obtain⟨cc,hcc,b',t2,o,j1,j2,_,j4⟩:=hr;rw[k1]at j1;cases j1
     have ho:o=0:=by
      have:Ty.off t' []=some o:=j2;cases hc:t'<;>rw[hc]at this<;>exact(A4 this).symm
     subst ho;have hsz:t'.sz=e.sz:=by rw[et,Ty.sz_bare]
     refine⟨cc,hcc,⟨b,0,none⟩,j4,rfl,cells.toList,⟨by rw[BY,k3,hsz],fun j hj=>?_⟩,xR hm hc k5⟩;refine⟨.inr (.inl ⟨k,t',c,hk,k1,by rw[hsz];simpa using hj⟩),?_⟩;show World.cell? w ⟨b,0+j,none⟩=_;simp[World.cell?,k2]
  ·cases h
 ·rename_i k g;obtain⟨c,hc,v2,k3,k4,k5⟩:=hr;have:[v]=[v2]:=(show c=[v]from hc).symm.trans k5;have hv:=A8.1 this;subst hv;have hrel:=xQ hm h k3;refine⟨[v],?_,hrel⟩;unfold U1 at h;split at h
  ·split at h
   ·exact YW h
   ·cases h
  ·split at h
   ·exact wA h
   ·cases h
  ·rename_i id r e x' gk hh wr hk;split at h
   ·exact YW (t:=EA r e) h
   ·cases h
  ·cases h
 ·rename_i u c;cases hb:u.same t with
  |false=>rw[hb]at h;cases h
  |true=>
   rw[hb]at h;have h:c.asCR σ t=some x:=h;have:=Ty.same_eq hb;subst this;obtain⟨cc,hcc,cs',h1,⟨a,b,rfl,h2⟩,h3,h4⟩:=hr;have hv:v=.agg cs'.toArray:=A8.1 ((show cc=[v]from hcc).symm.trans h1);subst hv;exact⟨cs',rfl,xR hm h h4⟩
 ·obtain⟨c,h1,h2⟩:=JA (fun k o h=>hm.objs k o h) h hr;exact⟨c,h1,h2.ext (L1 w)⟩
theorem xS(hm:MemS P fr free σ w G){s:Sh}{sv:SV}{x:s.T}{v:Value}(h:YI σ s sv=some x)(hr:SR P w G sv v):RS P w (LV σ G) s x v []:=by
 cases s with
 |val t=>exact⟨AA9 hm h hr,rfl⟩
 |_=>cases h
theorem AAA{a b:Sh}{r:List Sh}{v:SV}{vs:List SV}:RD σ (a::b::r) (v::vs)=(match YI σ a v,RD σ (b::r) vs with
 |some x,some y=>some (x,y)
 |_,_=>none):=rfl
theorem AAB(hm:MemS P fr free σ w G):∀{l:List Sh} {svs:List SV} {x:TupR l} {vs:List Value},RD σ l svs=some x->svs.length=vs.length->
 (∀(j:Nat) (s:SV) (v:Value),svs[j]?=some s->vs[j]?=some v->SR P w G s v)->ShL P w (LV σ G) l x vs []:=by
 intro l;induction l with
 |nil=>
  intro svs x vs h hl hs;cases svs with
  |nil=>exact⟨AT hl.symm,rfl⟩
  |cons _ _=>cases h
 |cons a l ih=>
  intro svs x vs h hl hs;cases svs with
  |nil=>cases l<;>cases h
  |cons s svs=>
   cases vs with
   |nil=>cases hl
   |cons v vs=>
    have h0:=hs 0 s v rfl rfl;cases l with
    |nil=>
     cases svs with
     |nil=>
      have:vs=[]:=AT (by simpa using hl.symm);subst this;exact⟨v,rfl,xS hm h h0⟩
     |cons _ _=>cases h
    |cons b l=>
     rw[AAA]at h;split at h
     ·rename_i x1 x2 h1 h2;cases h;exact⟨v,vs,[],[],rfl,rfl,xS hm h1 h0,ih h2 (by simpa using hl) fun j s v h3 h4=>hs (j+1) s v (by simpa using h3) (by simpa using h4)⟩
     ·cases h
theorem xT{I:Im}{t:Ty}{x:t.T}{v:Value}(hf:t.lit=true)(h:VRel w' I t x v):SR P w' G (.val t x) v:=by
 obtain⟨c,h1,h2⟩:=h;refine⟨c,h1,?_⟩;cases t with
 |bool=>exact h2
 |int k=>exact h2
 |str=>exact h2
 |_=>cases hf
theorem AAC{I:Im}:∀{l:List Sh} {x:TupR l} {vs:List Value} {bs:List Nat} {n:Nat},U0 l=true->ShL P w' I l x vs bs->
 (FC l x n).length=l.length/\∀(j:Nat) (m:Mk) (v:Value),(FC l x n)[j]?=some m->vs[j]?=some v->SR P w' G m.sv v:=by
 intro l;induction l with
 |nil=>intro x vs bs n _ _;exact⟨rfl,fun j m v h=>by cases h⟩
 |cons a l ih=>
  intro x vs bs n hf h;cases a with
  |val t=>
   simp only[U0,A5]at hf;cases l with
   |nil=>
    obtain⟨v,rfl,h1,_⟩:=h;refine⟨rfl,fun j m v' hj hv=>?_⟩;cases j with
    |zero=>cases hj;cases hv;exact xT hf.1 h1
    |succ j=>cases hj
   |cons b l=>
    obtain⟨v,vs',b1,b2,rfl,_,⟨h1,_⟩,h2⟩:=h;obtain⟨i1,i2⟩:=ih (n:=(FG (.val t) x.1 n).nx) hf.2 h2;refine⟨by simp only[FC,AD,i1],fun j m v' hj hv=>?_⟩;cases j with
    |zero=>cases hj;cases hv;exact xT hf.1 h1
    |succ j=>exact i2 j m v' (by simpa[FC]using hj) (by simpa using hv)
  |_=>cases hf
theorem After.flat{I1 I2:Im}(ha:After (·∈([]:List Nat)) w I1 w' I2)(he:Ext w I w I1)(hm:HU w I):After (·∈([]:List Nat)) w I w' I:=
 have hx:Ext w I w' I:=⟨fun b o h=>⟨h,(ha.ext.cell b o (he.cell b o h).1).2⟩,fun b h=>⟨h,(ha.ext.obj b (he.obj b h).1).2⟩⟩
 ⟨hx,ha.heap,ha.size,fun _ _ h=>.inl h,fun _ h=>.inl h,
  fun b o h=>BK (hm.1 b o h) ha.size,fun b h=>BK (hm.2.1 b h) ha.size,ha.os,ha.tape,ha.output,
  hm.2.2.ext hx⟩
theorem xU(hm:MemS P fr free σ w G)(hσ:∀k o,σ' k=some o->σ k=some o)(hfree:∀k,self<=k->k<self+8->free k){sp:FSpec}{args:List SV}{vals:List Value}(hlen:args.length=vals.length)(hal:args.length=sp.ps.length)
 (hba:BoxArgs G sp.ps args vals){bs:List Nat}(p3:BlksOf σ' G (HR σ' sp.ps args) bs)(hcnt:G8 sp.rs+G8 (sp.ps.filter F3)<=8){y:TupR (sp.rs++sp.ps.filter F3)}{rv:Value}{vs:List Value}{I':Im}{b1 b2:List Nat}
 (hvl:vs.length=sp.rs.length)(hret:JP vs rv)(haft:After (·∈bs) w G.im w' I')(r1:ShL P w' I' sp.rs (LU sp.rs (sp.ps.filter F3) y).1 vs b1)(r2:ShL P w' I' (sp.ps.filter F3) (LU sp.rs (sp.ps.filter F3) y).2 (GC sp.ps vals) b2)
 (hnd':(b1++b2).Nodup)(hown:∀b∈b1++b2,b∈bs\/w.heap.size<=b):Res P fr free self σ w G (i_ σ' self sp args y) rv w':=by
 have p3':BlksOf σ G (HR σ' sp.ps args) bs:=fun b hb=>let ⟨k,h1,o,h2,h3⟩:=p3 b hb;⟨k,h1,o,hσ k o h2,h3⟩
 obtain⟨g1,g2⟩:=hm.called p3' haft;have hndp:=BD.1 hnd'
 have hbk:∀b∈b1++b2,fr.owned b/\∀j o,ER σ (gone (HR σ' sp.ps args)) j=some o->¬Bk {G with im:=I'} j o b:=by
  intro b hb;refine⟨?_,fun j o ho hbj=>?_⟩
  ·rcases hown b hb with h|h
   ·obtain⟨k,_,o,ho,hbo⟩:=p3' b h;exact MG (hm.objs k o ho) hbo
   ·exact .inl (AZ hm.after.size h)
  ·have ho':j ∉ HR σ' sp.ps args/\σ j=some o:=by
    rw[KH]at ho;by_cases hj:j∈HR σ' sp.ps args
    ·rw[if_pos hj]at ho;cases ho
    ·rw[if_neg hj]at ho;exact⟨hj,ho⟩
   have hbj0:Bk G j o b:=by rw[<-GN (hm.objs j o ho'.2) g1];exact hbj
   rcases hown b hb with h|h
   ·obtain⟨k,hk,o2,ho2,hbo⟩:=p3' b h;have:=hm.sep j k o o2 b ho'.2 ho2 hbj0 hbo;subst this;exact ho'.1 hk
   ·have:=HW (hm.objs j o ho'.2) hbj0;omega
 obtain ⟨G2,m2⟩:=AA3 (ps:=sp.ps) (ss:=args) (vals:=vals) (n:=self+G8 sp.rs) g2 hal (by omega) (by
  exact hba.mono (fun k b h=>h) (fun k g v h=>h) (fun k t h=>h)) r2 hndp.2.1 (fun b hb=>hbk b (AU _ hb)) (fun k h1 h2=>hfree k (by omega) (by omega))
 obtain ⟨G3,m3,e1,e2,e3⟩:=UP (l:=sp.rs) (n:=self) m2.mem (by rw [m2.im]; exact r1) hndp.1 (fun b hb=>⟨(hbk b (AS _ hb)).1,fun j o ho hb2=>by
  rcases m2.own j o b ho hb2 with h|⟨j',o',h3,h4⟩
  ·exact hndp.2.2 b hb b h rfl
  ·exact(hbk b (AS _ hb)).2 j' o' h3 h4⟩) (fun k h1 h2=>⟨hfree k h1 (by omega),by omega⟩)
 have hsplit:=UQ (a:=sp.rs) (b:=sp.ps.filter F3) (x:=y) (n:=self)
 have htake:(FC (sp.rs++sp.ps.filter F3) y self).take sp.rs.length=FC sp.rs (LU sp.rs (sp.ps.filter F3) y).1 self:=by
  rw[hsplit,List.take_left' e2]
 have hdrop:(FC (sp.rs++sp.ps.filter F3) y self).drop sp.rs.length=FC (sp.ps.filter F3) (LU sp.rs (sp.ps.filter F3) y).2 (self+G8 sp.rs):=by
  rw[hsplit,List.drop_left' e2]
 refine⟨G3,(g1.trans m2.le).trans m3.le,?_,?_⟩
 ·show MemS P fr _ (ER σ ((((FC (sp.rs++sp.ps.filter F3) y self).take sp.rs.length).flatMap (·.obs))++(HL sp.ps args ((FC (sp.rs++sp.ps.filter F3) y self).drop sp.rs.length)++gone (HR σ' sp.ps args)))) w' G3;rw[htake,hdrop,GD,GD];refine m3.mem.shrink fun j hj=>?_
  have hns:¬(self<=j/\j<self+8):=fun h=>by
   have:=hj.2;simp only[IY,DP]at this;rcases this with h1|h1
   ·rw[C9 h.1]at h1;cases h1
   ·rw[show Nat.blt j (self+8)=true from C9 h.2]at h1;cases h1
  exact⟨⟨hj.1,fun e=>hns ⟨by omega,by omega⟩⟩,fun e=>hns ⟨by omega,by omega⟩⟩
 ·show SR P w' G3 (kB ((FC (sp.rs++sp.ps.filter F3) y self).take sp.rs.length)) rv;rw[htake];exact xP hret (by rw[hvl,e2]) e3
theorem AAD{fs:Nat->Option FSpec}(hE:∀f sp,fs f=some sp->FF P f/\FunOK P f sp)(hD:fr.dr=true->∀f sp,fs f=some sp->sp.dr=true)(hm:MemS P fr free σ w G)(hσ:∀k o,σ' k=some o->σ k=some o)(hfree:∀k,self<=k->k<self+8->free k)
 {f:Nat}{args:List SV}{vals:List Value}{r:OpRes}{u:Upd}(hlen:args.length=vals.length)(hs:∀(j:Nat) (s:SV) (v:Value),args[j]?=some s->vals[j]?=some v->SR P w G s v)
 (hr:j0 fs σ' self f args=some r)(hu:Gives r u):
 FF P f/\Calls P f vals.toArray w fun e w'=>∃v,e=.returned v/\Res P fr free self σ w G u v w'/\(fr.dr=true->w.drawn<=w'.drawn):=by
 unfold j0 at hr;split at hr
 ·rename_i sp hsp;obtain⟨hent,hfun⟩:=hE _ _ hsp
  ·split at hr
   ·rename_i v hv0
    have hcv:Nat.ble (G8 (sp.rs++sp.ps.filter F3)) 8=true/\JM fs σ' sp.ps args=some v:=by
     cases hc:Nat.ble (G8 (sp.rs++sp.ps.filter F3)) 8 with
     |false=>rw[hc]at hv0;cases hv0
     |true=>rw[hc]at hv0;exact⟨rfl,hv0⟩
    obtain⟨hc,hv⟩:=hcv;have hcnt:=C0 hc;rw[xM]at hcnt;cases hr;obtain⟨y,hy,rfl⟩:=hu.may_inv;have hm':=hm.sub hσ;obtain⟨bs,p1,p2,p3⟩:=O6 hm' hE hv hlen hs
    have hpl:MA fs σ' sp.ps args=some v:=by
     unfold JM at hv;cases hd:LK (HR σ' sp.ps args)with
     |false=>rw[hd]at hv;cases hv
     |true=>rw[hd]at hv;exact hv
    have hba:=xN hm' hpl hs
    have hplen:∀{l:List Sh} {svs:List SV} {x:TupR l},MA fs σ' l svs=some x->svs.length=l.length:=by
     intro l;induction l with
     |nil=>intro svs x h;cases svs with
      |nil=>rfl
      |cons _ _=>cases h
     |cons a l ih=>
      intro svs x h;cases svs with
      |nil=>cases l<;>cases h
      |cons s svs=>
       cases l with
       |nil=>cases svs with
        |nil=>rfl
        |cons _ _=>cases h
       |cons b l=>
        rw[UO]at h;split at h
        ·rename_i x1 x2 h1 h2;simp[ih h2]
        ·cases h
    have hal:=hplen hpl;refine⟨hent,Calls.mono (hfun w G.im v vals bs hm.after.mem p1 p2 y hy) fun e w' hq=>?_⟩;obtain⟨rv,vs,I',bs',rfl,hvl,hret,haft,hres,hnd',hown,qd⟩:=hq;refine⟨rv,rfl,?_,fun h=>qd (hD h _ _ hsp)⟩;obtain⟨b1,b2,rfl,r1,r2⟩:=hres.split hvl;exact xU hm hσ hfree hlen hal hba p3 hcnt hvl hret haft r1 r2 hnd' hown
   ·split at hr
    ·rename_i v hv;cases hr;obtain⟨y,hy,rfl⟩:=hu.may_inv;cases hfl:U0 sp.rs with
     |false=>rw[hfl]at hv;cases hv
     |true=>
      rw[hfl]at hv;have hv:RD σ' sp.ps args=some v:=hv;have hm':=hm.sub hσ;have p1:=AAB hm' hv hlen hs;refine⟨hent,Calls.mono (hfun w (LV σ' G) v vals [] (AA7 hm') p1 .nil y hy) fun e w' hq=>?_⟩;obtain⟨rv,vs,I',bs',rfl,hvl,hret,haft,hres,_,_,qd⟩:=hq;refine⟨rv,rfl,?_,fun h=>qd (hD h _ _ hsp)⟩;have haft2:=haft.flat (L1 w) hm.after.mem;obtain⟨g1,g2⟩:=hm.called (ks:=[]) (bs:=[]) (fun b hb=>by cases hb) haft2;obtain⟨b1,b2,rfl,r1,r2⟩:=hres.split hvl;obtain⟨f1,f2⟩:=AAC (G:={G with im:=G.im}) (n:=self) hfl r1;have hsplit:=UQ (a:=sp.rs) (b:=sp.ps.filter F3) (x:=y) (n:=self)
      have htake:(FC (sp.rs++sp.ps.filter F3) y self).take sp.rs.length=FC sp.rs (LU sp.rs (sp.ps.filter F3) y).1 self:=by
       rw[hsplit,List.take_left' f1]
      refine⟨_,g1,g2.shrink fun j hj=>hj.1,?_⟩;show SR P w' {G with im:=G.im} (kB ((FC (sp.rs++sp.ps.filter F3) y self).take sp.rs.length)) rv;rw[htake];exact xP hret (by rw[hvl,f1]) f2
    ·cases hr
 ·cases hr
theorem xV{s u:SV}{v v':Value}(h:NY s u=true)(h1:SR P w G s v)(h2:SR P w G u v'):v=v':=by
 unfold NY at h;split at h
 ·rename_i k _ j _;have e:=A3 h;subst e;obtain⟨b,t,o,a1,a2,_,rfl⟩:=IJ h1;obtain⟨b',t',o',b1,b2,_,rfl⟩:=IJ h2;rw[a1]at b1;cases b1;rw[a2]at b2;cases b2;rfl
 ·cases h
def kC(w:World)(G:Gh)(bx:Bool)(v fv:Value):Prop:=match bx with
 |true=>∃b,v=.pointer (some ⟨b,0,none⟩)/\G.im.cell b 0/\w.cell? ⟨b,0,none⟩=some fv
 |false=>v=fv
theorem xW(ho:∀k o,σ k=some o->ObjOK P fr w G k o){bx:Bool}{s:SV}{f:Nat}{c:SV}{v:Value}(h:Y6 false σ bx s=some (f,c))(hr:SR P w G s v):
 ∃vs:Array Value,CR P w G c vs.toList/\kC w G bx v (.func (.func f) #[] vs):=by
 unfold Y6 at h;split at h
 ·split at h
  ·cases h;obtain⟨cc,hcc,vs,h1,h2⟩:=hr;exact⟨vs,h2,A8.1 ((show cc=[v]from hcc).symm.trans h1)⟩
  ·cases h
 ·split at h
  ·obtain⟨b,t,o,a1,a2,_,rfl⟩:=IJ hr;rw[ZA]at a2;cases a2;split at h
   ·rename_i u f' c' wr hk;cases wr with
    |true=>cases h
    |false=>
     cases h;obtain⟨b',cs,el,k1,k2,k3,k4,k5,k6,_⟩:=ho _ _ hk;rw[a1]at k1;cases k1;obtain⟨vs,q1,q2⟩:=k5;refine⟨vs,q2,b,rfl,k6.2 rfl 0 (by have:t.sz=1:=k4;omega),?_⟩;simp[World.cell?,k2,<-BL,q1]
   ·rename_i f' c' hk;cases h;obtain⟨b',vs,k1,k2,k3,k4⟩:=ho _ _ hk;rw[a1]at k1;cases k1;exact⟨vs,k4,b,rfl,k2,k3⟩
   ·cases h
  ·cases h
def UR(P:Program)(w:World)(G:Gh)(acc:List (Nat×SV))(am:List (Nat×Value)):Prop:=
 ∀j,(∀s,FU acc j=some s->∃v,FU am j=some v/\SR P w G s v)/\(FU acc j=none->FU am j=none)
theorem RT{α:Type}{j i:Nat}{x:α}{l:List (Nat×α)}:FU ((j,x)::l) i=if i=j then some x else FU l i:=by
 simp only[FU];by_cases h:i=j
 ·subst h;simp[CI]
 ·rw[if_neg h,show Nat.beq i j=false by rw[<-BM];exact fun hh=>h (A3 hh)];rfl
theorem AAE{sl:Nat->SV}{tv:Nat->Value}(hs:∀t,SR P w G (sl t) (tv t)):
 ∀{caps:List Nat} {l:List SV} {acc acc':List (Nat×SV)} {am:List (Nat×Value)} {vs:List Value},QV sl caps l acc=some acc'->l.length=vs.length->
 (∀(j:Nat) (s:SV) (v:Value),l[j]?=some s->vs[j]?=some v->SR P w G s v)->UR P w G acc am->
 ∃am',UR P w G acc' am'/\(∀j v,FU am j=some v->FU am' j=some v)/\caps.length=vs.length/\
  ∀(i c:Nat) (v:Value),caps[i]?=some c->vs[i]?=some v->(c<1000000->tv c=v)/\(1000000<=c->FU am' (c-1000000)=some v):=by
 intro caps;induction caps with
 |nil=>
  intro l acc acc' am vs h hl _ ha;cases l with
  |nil=>
   cases h;exact⟨am,ha,fun _ _ h=>h,by simpa using hl,fun i c v h=>by simp at h⟩
  |cons _ _=>cases h
 |cons c caps ih=>
  intro l acc acc' am vs h hl hls ha;cases l with
  |nil=>cases h
  |cons s l=>
   cases vs with
   |nil=>cases hl
   |cons v0 vs=>
    have hs0:=hls 0 s v0 rfl rfl;have hls':∀(j:Nat) (s':SV) (v:Value),l[j]?=some s'->vs[j]?=some v->SR P w G s' v:=fun j s' v h1 h2=>hls (j+1) s' v (by simpa using h1) (by simpa using h2);have hl':l.length=vs.length:=by simpa using hl
    simp only[QV]at h;cases hb:Nat.blt c 1000000 with
    |true=>
     rw[hb]at h;simp only[AA]at h;have hc:c<1000000:=by simpa using hb
     cases hp:NY (sl c) s with
     |false=>rw[hp]at h;cases h
     |true=>
      rw[hp]at h;obtain⟨am',a1,a2,a3,a4⟩:=ih h hl' hls' ha;refine⟨am',a1,a2,by simp[a3],fun i c' v hi hv=>?_⟩;cases i with
      |zero=>
       cases hi;cases hv;exact⟨fun _=>xV hp (hs c) hs0,fun h=>by omega⟩
      |succ i=>exact a4 i c' v (by simpa using hi) (by simpa using hv)
    |false=>
     rw[hb]at h;simp only[AC]at h
     have hc:1000000<=c:=by
      rcases CG c 1000000 with h1|h1
      ·rw[show Nat.blt c 1000000=true by simpa using h1]at hb;cases hb
      ·exact h1
     cases hlk:FU acc (c-1000000)with
     |some u=>
      rw[hlk]at h;simp only at h;cases hp:NY u s with
      |false=>rw[hp]at h;cases h
      |true=>
       rw[hp]at h;obtain⟨am',a1,a2,a3,a4⟩:=ih h hl' hls' ha;refine⟨am',a1,a2,by simp[a3],fun i c' v hi hv=>?_⟩;cases i with
       |zero=>
        cases hi;cases hv;refine⟨fun h=>by omega,fun _=>?_⟩;obtain⟨v',q1,q2⟩:=(ha (c-1000000)).1 u hlk;rw[xV hp q2 hs0]at q1;exact a2 _ _ q1
       |succ i=>exact a4 i c' v (by simpa using hi) (by simpa using hv)
     |none=>
      rw[hlk]at h;simp only at h
      have ha':UR P w G ((c-1000000,s)::acc) ((c-1000000,v0)::am):=by
       intro j;rw[RT,RT];by_cases e:j=c-1000000
       ·simp only[if_pos e];exact⟨fun s' h=>⟨v0,rfl,A4 h▸hs0⟩,fun h=>by cases h⟩
       ·simp only[if_neg e];exact ha j
      obtain⟨am',a1,a2,a3,a4⟩:=ih h hl' hls' ha';refine⟨am',a1,fun j v hj=>a2 j v ?_,by simp[a3],fun i c' v hi hv=>?_⟩
      ·rw[RT];by_cases e:j=c-1000000
       ·rw[e,(ha _).2 hlk]at hj;cases hj
       ·rw[if_neg e];exact hj
      ·cases i with
       |zero=>
        cases hi;cases hv;refine⟨fun h=>by omega,fun _=>a2 _ _ ?_⟩;rw[RT,if_pos rfl]
       |succ i=>exact a4 i c' v (by simpa using hi) (by simpa using hv)
theorem AAF(ho:∀k o,σ k=some o->ObjOK P fr w G k o){sl:Nat->SV}{tv:Nat->Value}(hs:∀t,SR P w G (sl t) (tv t)):
 ∀{kn:List Kn} {acc acc':List (Nat×SV)} {am:List (Nat×Value)},TN false σ sl kn acc=some acc'->UR P w G acc am->
 ∃am',UR P w G acc' am'/\(∀j v,FU am j=some v->FU am' j=some v)/\
  ∀pv:List Value,(∀q∈kn,∀c∈q.caps,1000000<=c->∀v,FU am' (c-1000000)=some v->pv.getD (c-1000000) undef=v)->∀q∈kn,JQ w G.im tv pv q:=by
 intro kn;induction kn with
 |nil=>
  intro acc acc' am h ha;cases h;exact⟨am,ha,fun _ _ h=>h,fun _ _ q hq=>by cases hq⟩
 |cons q kn ih=>
  intro acc acc' am h ha;simp only[TN]at h;split at h
  ·rename_i f c hkn;cases hb:(Nat.beq f q.f&&LJ c)with
   |false=>rw[hb]at h;cases h
   |true=>
    rw[hb]at h;simp only[AA]at h;simp only[A5]at hb;have ef:=A3 hb.1;split at h
    ·rename_i acc1 hest;obtain⟨vs,k1,k2⟩:=xW ho hkn (hs q.p);have hcl:=kA k1 hb.2;obtain⟨am1,a1,a2,a3,a4⟩:=AAE hs hest hcl (k9 k1 (by omega)) ha;obtain⟨am2,b1,b2,b3⟩:=ih h a1;refine⟨am2,b1,fun j v hj=>b2 j v (a2 j v hj),fun pv hpv q' hq'=>?_⟩;rcases B6.1 hq' with rfl|hq'
     ·have hval:LT tv pv q'=.func (.func f) #[] vs:=by
       unfold LT;rw[<-ef]
       have:q'.caps.map (IK tv pv)=vs.toList:=by
        apply BW;intro i;rw[AK];rcases CG i q'.caps.length with hlt|hge
        ·rw[A1 hlt,A1 (by omega)];simp only[BF,AO];obtain⟨c1,c2⟩:=a4 i _ _ (A1 hlt) (A1 (by omega));unfold IK;by_cases hc:q'.caps[i]<1000000
         ·rw[if_pos hc];exact c1 hc
         ·rw[if_neg hc];exact hpv q' AN _ (BA hlt) (by omega) _ (b2 _ _ (c2 (by omega)))
        ·rw[B1 hge,B1 (by omega)];rfl
       rw[this]
      unfold JQ;unfold kC at k2;cases hbx:q'.bx with
      |true=>
       rw[hbx]at k2;obtain⟨b,e1,e2,e3⟩:=k2;exact⟨b,e1,e2,e3.trans (by rw[hval])⟩
      |false=>
       rw[hbx]at k2;exact k2.trans hval.symm
     ·exact b3 pv (fun q0 hq0=>hpv q0 (AI _ hq0)) q' hq'
    ·cases h
  ·cases h
theorem xX{acc:List (Nat×SV)}:∀{js:List Nat} {ps:List SV},TM acc js=some ps->ps.length=js.length/\∀(i j:Nat) (s:SV),js[i]?=some j->ps[i]?=some s->FU acc j=some s:=by
 intro js;induction js with
 |nil=>intro ps h;cases h;exact⟨rfl,fun i j s h=>by simp at h⟩
 |cons j js ih=>
  intro ps h;simp only[TM]at h;split at h
  ·rename_i s t h1 h2;cases h;obtain⟨i1,i2⟩:=ih h2;refine⟨by simp[i1],fun i j' s' hi hs=>?_⟩;cases i with
   |zero=>cases hi;cases hs;exact h1
   |succ i=>exact i2 i j' s' (by simpa using hi) (by simpa using hs)
  ·cases h
theorem xY(ho:∀k o,σ k=some o->ObjOK P fr w G k o){sl:Nat->SV}{tv:Nat->Value}(hs:∀t,SR P w G (sl t) (tv t))
 {x:KX}{ps:List SV}(h:TO false σ sl x=some ps):
 ∃pv,ps.length=pv.length/\KxOK w G.im tv pv x/\∀(j:Nat) (s:SV) (v:Value),ps[j]?=some s->pv[j]?=some v->SR P w G s v:=by
 unfold TO at h;split at h
 ·rename_i acc hacc;cases hin:iA x with
  |false=>rw[hin]at hacc;cases hacc
  |true=>
   rw[hin]at hacc;have hacc:TN false σ sl x.kn []=some acc:=hacc;obtain⟨am,a1,_,a3⟩:=AAF ho hs hacc (am:=[]) (fun j=>⟨fun s h=>(by cases h),fun _=>rfl⟩);obtain⟨p1,p2⟩:=xX h;rw[CW]at p1
   have key:∀j s,ps[j]?=some s->∃v,FU am j=some v/\SR P w G s v:=by
    intro j s hj;have hlt:j<ps.length:=(AE.1 hj).1;exact(a1 j).1 s (p2 j j s (by rw[C1 (by omega)]) hj)
   refine⟨(List.range x.m).map fun j=>(FU am j).getD undef,by simp[p1],⟨by simp,a3 _ fun q hq c hc hge v hv=>?_⟩,fun j s v hj hv=>?_⟩
   ·have hlt:c-1000000<x.m:=by
     unfold iA at hin;rw[BR]at hin;have:=hin q hq;rw[BR]at this;have:=this c hc;simp only[BS]at this;omega
    rw[A2,AK,C1 hlt];simp[hv]
   ·obtain⟨v',h1,h2⟩:=key j s hj;have hlt:j<ps.length:=(AE.1 hj).1;rw[AK,C1 (by omega)]at hv;simp only[BF,h1,DD,AO]at hv;subst hv;exact h2
 ·cases h
theorem AAG{fs:Nat->Option FSpec}:∀{l:List Sh} {svs:List SV} {x:TupR l},MA fs σ l svs=some x->svs.length=l.length:=by
 intro l;induction l with
 |nil=>intro svs x h;cases svs with
  |nil=>rfl
  |cons _ _=>cases h
 |cons a l ih=>
  intro svs x h;cases svs with
  |nil=>cases l<;>cases h
  |cons s svs=>
   cases l with
   |nil=>cases svs with
    |nil=>rfl
    |cons _ _=>cases h
   |cons b l=>
    rw[UO]at h;split at h
    ·rename_i x1 x2 h1 h2;simp[ih h2]
    ·cases h
theorem AAH{fs:Nat->Option FSpec}{l:List Sh}{svs:List SV}{x:TupR l}(h:JM fs σ l svs=some x):MA fs σ l svs=some x:=by
 unfold JM at h;cases hd:LK (HR σ l svs)with
 |false=>rw[hd]at h;cases h
 |true=>rw[hd]at h;exact h
theorem ZC{l m:List SV}{a b:List Value}(h1:l.length=a.length)(k1:∀(j:Nat) (s:SV) (v:Value),l[j]?=some s->a[j]?=some v->SR P w G s v)
 (k2:∀(j:Nat) (s:SV) (v:Value),m[j]?=some s->b[j]?=some v->SR P w G s v):∀(j:Nat) (s:SV) (v:Value),(l++m)[j]?=some s->(a++b)[j]?=some v->SR P w G s v:=by
 intro j s v hj hv;rcases CG j l.length with hlt|hge
 ·rw[AW hlt]at hj;rw[AW (by omega)]at hv;exact k1 j s v hj hv
 ·rw[AY hge]at hj;rw[AY (by omega),<-h1]at hv;exact k2 _ s v hj hv
theorem AAI{fs:Nat->Option FSpec}{ks:Nat->Option KSpec}(hE:∀f sp,fs f=some sp->FF P f/\FunOK P f sp)(hK:∀f s,ks f=some s->(FF P f/\HX P f s)/\(fr.dr=true->s.sp.dr=true))(hm:MemS P fr free σ w G)(hσ:∀k o,σ' k=some o->σ k=some o)(hfree:∀k,self<=k->k<self+8->free k)
 {f:Nat}{args:List SV}{vals:List Value}{r:OpRes}{u:Upd}(hlen:args.length=vals.length)(hs:∀(j:Nat) (s:SV) (v:Value),args[j]?=some s->vals[j]?=some v->SR P w G s v)
 (hr:j5 ks fs σ' self f args=some r)(hu:Gives r u):
 FF P f/\Calls P f vals.toArray w fun e w'=>∃v,e=.returned v/\Res P fr free self σ w G u v w'/\(fr.dr=true->w.drawn<=w'.drawn):=by
 unfold j5 at hr;split at hr
 ·rename_i s hsp;obtain⟨⟨hent,hfun⟩,hD⟩:=hK _ _ hsp;cases hb:(Nat.beq args.length s.n&&Nat.ble (G8 (s.sp.rs++s.sp.ps.filter F3)) 8)with
  |false=>rw[hb]at hr;cases hr
  |true=>
   rw[hb]at hr;simp only[AA]at hr;simp only[A5]at hb;have hn:=A3 hb.1;have hcnt:=C0 hb.2;rw[xM]at hcnt;split at hr
   ·rename_i ps hps;split at hr
    ·rename_i v hv;cases hr;obtain⟨y,hy,rfl⟩:=hu.may_inv;have hm':=hm.sub hσ
     have hsl:∀t,SR P w G (args.getD t .undef) (vals.getD t undef):=by
      intro t;rcases CG t args.length with hlt|hge
      ·exact hs t _ _ (by rw[A2,A1 hlt];rfl) (by rw[A2,A1 (by omega)];rfl)
      ·rw[A2,B1 hge];exact⟨[_],rfl,trivial⟩
     obtain⟨pv,e1,e2,e3⟩:=xY (tv:=fun t=>vals.getD t undef) (fun k o h=>hm'.objs k o h) hsl hps;have hall:=ZC hlen hs e3;obtain⟨bs,p1,p2,p3⟩:=O6 hm' hE hv (vs:=vals++pv) (by simp[hlen,e1]) hall;have hpl:=AAH hv;have hba:=xN hm' hpl hall;have hal:=AAG hpl;refine⟨hent,Calls.mono (hfun w G.im v vals pv bs (by omega) hm.after.mem e2 p1 p2 y hy) fun e w' hq=>?_⟩;obtain⟨rv,vs,I',bs',rfl,hvl,hret,haft,hres,hnd',hown,qd⟩:=hq;refine⟨rv,rfl,?_,fun h=>qd (hD h)⟩;obtain⟨b1,b2,rfl,r1,r2⟩:=hres.split hvl;exact xU hm hσ hfree (by simp[hlen,e1]) hal hba p3 hcnt hvl hret haft r1 r2 hnd' hown
    ·cases hr
   ·cases hr
 ·cases hr
theorem kD{o:Oper}{a:Act}{fo:Operand}{as:Array Operand}{ts:Array TypeId}(ho:o.op=.call ⟨.value fo,as,ts⟩){f:Nat}{caps:Array Value}(hf:a.eval fo=.func (.func f) #[] caps)(he:FF P f):
 (execOp a.eval o).run P w=.ok (.enter f (as.map a.eval++caps)) w:=by
 obtain⟨fn,c,h1,h2,h3⟩:=he;have h2':fn.name≠"runtime.NumGoroutine" :=by simpa using h2
 have:(callFunc f (as.map a.eval++caps)).run P w=.ok (.enter f (as.map a.eval++caps)) w:=by simp[callFunc,h1,h2',h3]
 simp[execOp,ho,resolve,hf,Deferred.ofValue,invoke,this]
theorem AAJ:∀{l:SV} {vs:List Value},CR P w G l vs->l.list.length<=vs.length->∀(j:Nat) (s:SV) (v:Value),l.list[j]?=some s->vs[j]?=some v->SR P w G s v:=by
 intro l;induction l with
 |scons a b iha ihb=>
  intro vs h hl j s v hj hv;obtain⟨v',r,rfl,⟨c,h2,h3⟩,h4⟩:=h;cases j with
  |zero=>
   have e1:a=s:=by simpa[SV.list]using hj
   have e2:v'=v:=by simpa using hv
   subst e1 e2;exact⟨c,h2,h3⟩
  |succ j=>exact ihb h4 (by simpa[SV.list]using hl) j s v (by simpa[SV.list]using hj) (by simpa using hv)
 |_=>intro vs h hl j s v hj;simp[SV.list]at hj
theorem AAK:∀{l:SV} {vs:List Value},CR P w G l vs->LJ l=true->l.list.length=vs.length:=by
 intro l;induction l with
 |snil=>intro vs h _;have h:vs=[]:=h;rw[h];rfl
 |scons a b iha ihb=>
  intro vs h hk;obtain⟨v',r,rfl,_,h4⟩:=h;simp[SV.list,ihb h4 hk]
 |_=>intro vs h hk;cases hk
theorem xZ{σ:SSo}(ho:∀k o,σ k=some o->ObjOK P fr w G k o):∀{d:Ty} {l:List SV} {x:d.T} {vs:List Value},U2 σ d l=some x->l.length=vs.length->
 (∀(j:Nat) (s:SV) (v:Value),l[j]?=some s->vs[j]?=some v->SR P w G s v)->ArgsV w G.im d x vs:=by
 have one:∀{d:Ty} {l:List SV} {x:d.T} {vs:List Value},(match l with|[s]=>s.asV σ d|_=>none)=some x->l.length=vs.length->
  (∀(j:Nat) (s:SV) (v:Value),l[j]?=some s->vs[j]?=some v->SR P w G s v)->∃v,vs=[v]/\VRel w G.im d x v:=by
  intro d l x vs h hl hs;rcases l with _|⟨s,_|⟨_,_⟩⟩<;>first|(cases h;done)|skip
  rcases vs with _|⟨v,_|⟨_,_⟩⟩<;>first|(cases hl;done)|skip
  exact⟨v,rfl,JA ho h (hs 0 s v rfl rfl)⟩
 intro d;induction d with
 |prod a b iha ihb=>
  intro l x vs h hl hs;cases l with
  |nil=>cases h
  |cons s r=>
   cases vs with
   |nil=>cases hl
   |cons v vs=>
    simp only[U2]at h;split at h
    ·rename_i y z h1 h2;cases h;exact⟨v,vs,rfl,JA ho h1 (hs 0 s v rfl rfl),ihb h2 (by simpa using hl) fun j s v h1 h2=>hs (j+1) s v (by simpa using h1) (by simpa using h2)⟩
    ·cases h
 |_=>
  intro l x vs h hl hs;refine one ?_ hl hs;rcases l with _|⟨s,_|⟨_,_⟩⟩<;>exact h
theorem AAL:∀{c:Ty} {y:c.T} {vs:List Value},ArgsV w G.im c y vs->CR P w G (hJ c y) vs:=by
 intro c;induction c with
 |prod a b iha ihb=>
  intro y vs h;obtain⟨v,r,rfl,⟨cs,h1,h2⟩,h3⟩:=h;exact⟨v,r,rfl,⟨cs,h1,h2⟩,ihb h3⟩
 |_=>
  intro y vs h;obtain⟨v,rfl,cs,h1,h2⟩:=h;exact⟨v,[],rfl,⟨cs,h1,h2⟩,rfl⟩
theorem kE{c:Ty}{y:c.T}{rv:Value}(h:RetV w G.im c y rv):SR P w G (XS c y) rv:=by
 cases c<;>first|exact h|skip
 obtain⟨vs,rfl,h⟩:=h;exact⟨_,rfl,vs,rfl,AAL h⟩
theorem AAM(hpin:Pins.P=P){fs:Nat->Option FSpec}{ks:Nat->Option KSpec}(hE:∀f sp,fs f=some sp->FF P f/\FunOK P f sp)(hK:∀f s,ks f=some s->(FF P f/\HX P f s)/\(fr.dr=true->s.sp.dr=true))(hD:fr.dr=true->∀f sp,fs f=some sp->sp.dr=true){dr:Bool}(hdr:fr.dr=true->dr=true)(hm:MemS P fr free σ w G)(hσ:∀k o,σ' k=some o->σ k=some o)(hfree:∀k,self<=k->k<self+8->free k)
 {o:Oper}{a:Act}{fo:Operand}{as:Array Operand}{ts:Array TypeId}(ho:o.op=.call ⟨.value fo,as,ts⟩){sf:SV}(hsf:SR P w G sf (a.eval fo)){args:List SV}{r:OpRes}{u:Upd}
 (hlen:args.length=as.toList.length)(hs:∀(j:Nat) (s:SV) (x:Operand),args[j]?=some s->as.toList[j]?=some x->SR P w G s (a.eval x))(hr:j6 dr fs ks σ' self sf args=some r)(hu:Gives r u):
 Done P fr.dr o a w (Res P fr free self σ w G u):=by
 unfold j6 at hr;split at hr
 ·rename_i f caps;cases hk:LJ caps with
  |false=>rw[hk]at hr;cases hr
  |true=>
   rw[hk]at hr;obtain⟨cc,hcc,vs,h1,h2⟩:=hsf;have hf:a.eval fo=.func (.func f) #[] vs:=A8.1 ((show cc=[a.eval fo]from hcc).symm.trans h1);have hcl:=AAK h2 hk
   have hall:∀(j:Nat) (s:SV) (v:Value),(args++caps.list)[j]?=some s->(as.toList.map a.eval++vs.toList)[j]?=some v->SR P w G s v:=by
    intro j s v hj hv;by_cases hlt:j<args.length
    ·rw[AW hlt]at hj;rw[AW (by rw[AL,<-hlen];exact hlt),AK]at hv;cases hx:as.toList[j]? with
     |none=>rw[hx]at hv;cases hv
     |some x=>
      rw[hx]at hv;cases hv;exact hs j s x hj hx
    ·have hle:args.length<=j:=DR hlt;rw[AY hle]at hj;rw[AY (by rw[AL,<-hlen];exact hle),AL,<-hlen]at hv;exact AAJ h2 (by omega) _ s v hj hv
   obtain⟨he,hcall⟩:FF P f/\Calls P f (as.toList.map a.eval++vs.toList).toArray w fun e w'=>∃v,e=.returned v/\Res P fr free self σ w G u v w'/\(fr.dr=true->w.drawn<=w'.drawn):=by
    simp only[AA]at hr;split at hr
    ·rename_i r' hx;cases hr;exact AAI hE hK hm hσ hfree (by simp[hlen,hcl]) hall hx hu
    ·exact AAD hE hD hm hσ hfree (vals:=as.toList.map a.eval++vs.toList) (by simp[hlen,hcl]) hall hr hu
   refine Done.enter (kD ho hf he) ?_
   have e:(as.toList.map a.eval++vs.toList).toArray=as.map a.eval++vs:=by
    apply C8;simp
   rw[e]at hcall;exact hcall
 ·rename_i nd d c F;cases hnd:(!dr||nd)with
  |false=>rw[hnd]at hr;cases hr
  |true=>
  rw[hnd]at hr;simp only[AA]at hr;split at hr
  ·rename_i x hx;cases hr;obtain⟨y,hy,rfl⟩:=hu.may_inv;obtain⟨cc,hcc,f,vs,h1,he,h2⟩:=hsf;have hf:a.eval fo=.func (.func f) #[] vs:=A8.1 ((show cc=[a.eval fo]from hcc).symm.trans h1)
   have hv:=xZ (fun k o h=>hm.objs k o (hσ k o h)) hx (vs:=as.toList.map a.eval) (by simp [hlen]) (fun j s v hj hv=>by
    rw[AK]at hv;cases hx:as.toList[j]? with
    |none=>rw[hx]at hv;cases hv
    |some x=>
     rw[hx]at hv;cases hv;exact hs j s x hj hx)
   refine Done.enter (kD ho hf he) ?_
   have hargs:as.map a.eval++vs=(as.toList.map a.eval).toArray++vs:=by
    apply C8;simp
   rw[hargs];refine Calls.mono (h2 w G.im (Ext.refl _ _) hm.after.mem x _ hv y hy) fun e w' hq=>?_;obtain⟨rv,I',rfl,ha,hrv,qd⟩:=hq;obtain⟨g1,g2⟩:=hm.called (ks:=[]) (bs:=[]) (fun b hb=>by cases hb) (ha.mono fun b hb=>absurd hb id);exact⟨rv,rfl,⟨_,g1,g2.shrink fun _ h=>h.1,kE hrv⟩,fun h=>qd (by have:=hdr h;subst this;simpa using hnd)⟩
  ·cases hr
 ·rename_i d c q;cases hnd:(!dr)with
  |false=>rw[hnd]at hr;cases hr
  |true=>
  rw[hnd]at hr;simp only[AA]at hr;split at hr
  ·rename_i x hx;cases hr;obtain⟨y,hy,rfl⟩:=hu.may_inv;obtain⟨F,hF,hy⟩:=BX.1 hy;have hF:q=some F:=hF;subst hF;obtain⟨cc,hcc,h1⟩:=hsf;obtain⟨f,vs,h1,he,h2⟩:=w7 h1;rw[hpin]at he h2;have hf:a.eval fo=.func (.func f) #[] vs:=A8.1 ((show cc=[a.eval fo]from hcc).symm.trans h1)
   have hv:=xZ (fun k o h=>hm.objs k o (hσ k o h)) hx (vs:=as.toList.map a.eval) (by simp [hlen]) (fun j s v hj hv=>by
    rw[AK]at hv;cases hx:as.toList[j]? with
    |none=>rw[hx]at hv;cases hv
    |some x=>
     rw[hx]at hv;cases hv;exact hs j s x hj hx)
   refine Done.enter (kD ho hf he) ?_
   have hargs:as.map a.eval++vs=(as.toList.map a.eval).toArray++vs:=by
    apply C8;simp
   rw[hargs];refine Calls.mono (h2 w G.im (Ext.refl _ _) hm.after.mem x _ hv y hy) fun e w' hq=>?_;obtain⟨rv,I',rfl,ha,hrv,_⟩:=hq;obtain⟨g1,g2⟩:=hm.called (ks:=[]) (bs:=[]) (fun b hb=>by cases hb) (ha.mono fun b hb=>absurd hb id);exact⟨rv,rfl,⟨_,g1,g2.shrink fun _ h=>h.1,kE hrv⟩,fun h=>by have:=hdr h;subst this;cases hnd⟩
  ·cases hr
 ·cases hr
theorem AAN{o:Oper}{a:Act}{r:Operand}{m:String}{as:Array Operand}{ts:Array TypeId}(ho:o.op=.call ⟨.invoke r m,as,ts⟩)(has:as.toList=[]){id:Nat}{v:Value}(hv:a.eval r=.iface id v)
 {f:Nat}(hm:(method (P.types.size+Made.depth) id v m).run P w=.ok (f,v) w)(he:FF P f):(execOp a.eval o).run P w=.ok (.enter f #[v]) w:=by
 obtain⟨fn,c,h1,h2,h3⟩:=he;have h2':fn.name≠"runtime.NumGoroutine" :=by simpa using h2
 have hc:(callFunc f #[v]).run P w=.ok (.enter f #[v]) w:=by simp[callFunc,h1,h2',h3]
 have has':as= #[]:=by apply C8;simpa using has
 subst has'
 have hcm:(callMethod (.iface id v) m #[]).run P w=.ok (.enter f #[v]) w:=by
  simp only[callMethod,Sem.run_bind,run_program,Result.andThen_ok,hm];exact hc
 simp[execOp,ho,resolve,hv,invoke,hcm]
theorem AAO{fs:Nat->Option FSpec}(hE:∀f sp,fs f=some sp->FF P f/\FunOK P f sp){D:Prop}(hD:D->∀f sp,fs f=some sp->sp.dr=true){mt:Nat->Option Nat}{m:String}
 (hM:∀id f,mt id=some f->∀(v:Value) (w:World),(method (P.types.size+Made.depth) id v m).run P w=.ok (f,v) w){c:Ty}(hw:HU w G.im):
 ∀{u:Ty} {F:u.T->Option c.T} {x:u.T} {y:c.T} {v:Value},YJ fs mt c u=some F->F x=some y->Rel w G.im u x [v]->
 ∃id v' f,v=.iface id v'/\(method (P.types.size+Made.depth) id v' m).run P w=.ok (f,v') w/\FF P f/\
  Calls P f #[v'] w fun e w'=>∃rv I',e=.returned rv/\After RK w G.im w' I'/\RetV w' I' c y rv/\(D->w.drawn<=w'.drawn):=by
 intro u;induction u with
 |inil=>intro F x y v h hy _;cases h;cases hy
 |ialt id t r _ ihr=>
  intro F x y v h hy hr;unfold YJ at h;split at h
  ·rename_i f hf;cases hip:LI t with
   |true=>rw[hip]at h;cases h
   |false=>
   rw[hip]at h;simp only[AC]at h;split at h
   ·rename_i F1 F2 h1 h2;cases h;cases x with
    |inl z=>
     obtain⟨v',cs,e1,e2,e3⟩:=hr;have hh:=Z9 (P:=P) (w:=w) (G:=G) (fr:=⟨RK,w,G.im,fun _=>none,false⟩) (σ:=fun _=>none) (D:=D) (fun k o h=>by cases h) hE (fun h=>.inr ⟨hD h,fun _ _ _ _ he=>by cases he⟩) h1 (cs:=[.func (.func f) #[] #[]]) ⟨#[],rfl,rfl⟩;obtain⟨f',vs',e4,hent,hcall⟩:=hh;cases e4
     have ha:ArgsV w G.im t z [v']:=by
      have:∃v,[v']=[v]/\VRel w G.im t z v:=⟨v',rfl,cs,e2,e3⟩;cases t with
      |prod a b=>cases hip
      |_=>exact this
     have:=hcall w G.im (Ext.refl _ _) hw z [v'] ha y hy;exact⟨id,v',f,A8.1 e1,hM id f hf v' w,hent,this⟩
    |inr z=>exact ihr h2 hy hr.2
   ·cases h
  ·cases h
 |_=>intro F x y v h;cases h
theorem AAP{fs:Nat->Option FSpec}(hE:∀f sp,fs f=some sp->FF P f/\FunOK P f sp)(hD:fr.dr=true->∀f sp,fs f=some sp->sp.dr=true){mt:String->Nat->Option Nat}
 (hM:∀m id f,mt m id=some f->∀(v:Value) (w:World),(method (P.types.size+Made.depth) id v m).run P w=.ok (f,v) w)(hm:MemS P fr free σ w G)
 {o:Oper}{a:Act}{ro:Operand}{m:String}{as:Array Operand}{ts:Array TypeId}(ho:o.op=.call ⟨.invoke ro m,as,ts⟩)(has:as.toList=[]){s:SV}(hs:SR P w G s (a.eval ro)){c:Ty}{r:OpRes}{u:Upd}
 (hr:j7 fs mt c m s=some r)(hu:Gives r u):Done P fr.dr o a w (Res P fr free self σ w G u):=by
 unfold j7 at hr;split at hr
 ·rename_i ut x;split at hr
  ·rename_i F hF;cases hr;obtain⟨y,hy,rfl⟩:=hu.may_inv;obtain⟨cs,h1,h2⟩:=hs
   have hcs:cs=[a.eval ro]:=by
    cases ut with
    |ialt _ _ _=>exact h1
    |inil=>exact h1
    |_=>cases hF
   subst hcs;obtain⟨tid,v',f,hv,hmt,hent,hcall⟩:=AAO hE hD (hM m) hm.after.mem hF hy h2;refine Done.enter (AAN ho has hv hmt hent) ?_;refine Calls.mono hcall fun e w' hq=>?_;obtain⟨rv,I',rfl,ha,hrv,qd⟩:=hq;obtain⟨g1,g2⟩:=hm.called (ks:=[]) (bs:=[]) (fun b hb=>by cases hb) (ha.mono fun b hb=>absurd hb id);exact⟨rv,rfl,⟨_,g1,g2.shrink fun _ h=>h.1,kE hrv⟩,qd⟩
  ·cases hr
 ·cases hr
theorem Done.calm{o:Oper}{a:Act}{u:Upd}(hm:MemS P fr free σ w G)(h:u.wr=[]/\∃z,(execOp a.eval o).run P w=.ok (.value z) w/\SR P w G u.sv z):Done P fr.dr o a w (Res P fr free self σ w G u):=by
 obtain⟨h1,z,h2,h3⟩:=h;obtain⟨sv,wr⟩:=u;have h1:wr=[]:=h1;subst h1;exact Done.value h2 (Res.same hm h3)
theorem Done.makes{o:Oper}{a:Act}{u:Upd}(h:∃z w',(execOp a.eval o).run P w=.ok (.value z) w'/\Res P fr free self σ w G u z w'):Done P fr.dr o a w (Res P fr free self σ w G u):=by
 obtain⟨z,w',h2,h3⟩:=h;exact Done.value h2 h3
theorem Done.writes{o:Oper}{a:Act}{u:Upd}(h:∃w',(execOp a.eval o).run P w=.ok .skip w'/\Res P fr free self σ w G u undef w'):Done P fr.dr o a w (Res P fr free self σ w G u):=by
 obtain⟨w',h2,h3⟩:=h;exact Done.skip h2 h3
theorem AAQ{a t:Ty}{g:a.T->t.T}(h:jB a t=some g){y:a.T}{v:Value}(hr:VRel w I a y v):VRel w I t (g y) v:=by
 unfold jB at h;split at h
 ·rename_i hs;have e:=Ty.same_eq hs;subst e;have h:=A4 h;subst h;exact hr
 ·cases h
theorem AAR{id:Nat}{t:Ty}:∀{u:Ty} {f:u.T->Option t.T} {y:u.T} {v:Value},RF id t u=some f->Rel w I u y [v]->
 (f y=none/\(v=.nilIface\/∃j x,v=.iface j x/\j≠id))\/∃q x,f y=some q/\v=.iface id x/\VRel w I t q x:=by
 intro u;induction u with
 |inil=>
  intro f y v h hr;have h:=A4 h;subst h;have hr:[v]=[.nilIface]:=hr;exact .inl ⟨rfl,.inl (A8.1 hr)⟩
 |ialt j a r iha ihr=>
  intro f y v h hr;simp only[RF]at h;split at h
  ·rename_i fr hfr;cases hb:Nat.beq id j with
   |true=>
    rw[hb]at h;simp only[AA]at h;have e:=A3 hb;subst e;split at h
    ·rename_i g hg;have h:=A4 h;subst h;cases y with
     |inl z=>
      obtain⟨x,c,h1,h2,h3⟩:=hr;exact .inr ⟨g z,x,rfl,A8.1 h1,AAQ hg ⟨c,h2,h3⟩⟩
     |inr z=>exact ihr hfr hr.2
    ·cases h
   |false=>
    rw[hb]at h;simp only[AC]at h;have h:=A4 h;subst h;cases y with
    |inl z=>
     obtain⟨x,c,h1,h2,h3⟩:=hr;refine .inl ⟨rfl,.inr ⟨j,x,A8.1 h1,fun e=>?_⟩⟩;rw[e,CI]at hb;cases hb
    |inr z=>exact ihr hfr hr.2
  ·cases h
 |_=>intro f y v h;cases h
theorem AAS{id:Nat}{t u:Ty}{f:u.T->Option t.T}{y:u.T}{v:Value}(h:RF id t u=some f)(hr:VRel w I u y v):Rel w I u y [v]:=by
 obtain⟨c,h1,h2⟩:=hr
 have:c=[v]:=by
  cases u<;>first|exact h1|cases h
 rw[<-this];exact h2
theorem Lay.conc{t:Ty}{id:Nat}(hl:Lay P t id)(ht:t.isIface=false):∃d,P.underlying id=some d/\∀ms,d≠.interface ms:=by
 cases t with
 |bool=>exact⟨_,hl.bool,fun _ h=>by cases h⟩
 |int k=>exact⟨_,hl.int,fun _ h=>by cases h⟩
 |str=>exact⟨_,hl.str,fun _ h=>by cases h⟩
 |slice e=>obtain⟨_,h,_⟩:=hl.slice;exact⟨_,h,fun _ h=>by cases h⟩
 |agg p=>obtain⟨_,h,_⟩:=hl.agg;exact⟨_,h,fun _ h=>by cases h⟩
 |arr n e=>obtain⟨_,h,_⟩:=hl.arr;exact⟨_,h,fun _ h=>by cases h⟩
 |ptr e=>obtain⟨_,h,_⟩:=hl.ptr;exact⟨_,h,fun _ h=>by cases h⟩
 |map a b=>obtain⟨_,_,h,_⟩:=hl.map;exact⟨_,h,fun _ h=>by cases h⟩
 |self=>obtain⟨_,h⟩:=hl.self;exact⟨_,h,fun _ h=>by cases h⟩
 |opq=>exact hl.opq
 |fnc a b=>exact hl.fnc
 |unit=>simp[Lay,layB]at hl
 |prod a b=>simp[Lay,layB]at hl
 |inil=>simp[Ty.isIface]at ht
 |ialt i a r=>
  obtain⟨_,d,hd,hc⟩:=I8 hl;split at hc
  ·rw[hc]at ht;cases ht
  ·cases hc
theorem AAT{t u:Ty}{id xt:Nat}(hl:Lay P t id)(ht:t.isIface=false){f:u.T->Option t.T}{y:u.T}{v:Value}(hf:RF id t u=some f)(hv:VRel w G.im u y v):
 ∃z,(Instr.typeAssert v xt id true).run P w=.ok z w/\SR P w G (.tup (.scons (.val t ((f y).getD t.dflt)) (.scons (.val .bool (f y).isSome) .snil))) z:=by
 obtain⟨d,hd,hn⟩:=hl.conc ht;obtain⟨zv,hz,hzr⟩:=wT (P:=P) (w:=w) (G:=G) hl;rcases AAR hf (AAS hf hv)with⟨h1,h2⟩|⟨q,x,h1,rfl,h3⟩
 ·have hrun:(Instr.typeAssert v xt id true).run P w=.ok (.tuple #[zv,.bool false]) w:=by
   rcases h2 with rfl|⟨j,x,rfl,hj⟩
   ·cases d<;>first|exact absurd rfl (hn _)|simp[Instr.typeAssert,run_underlying hd,hz]
   ·cases d<;>first|exact absurd rfl (hn _)|simp[Instr.typeAssert,run_underlying hd,hz,hj]
  refine⟨_,hrun,_,rfl,_,rfl,_,_,rfl,?_,_,_,rfl,?_,rfl⟩
  ·rw[h1];exact hzr
  ·rw[h1];exact⟨_,rfl,rfl⟩
 ·have hrun:(Instr.typeAssert (.iface id x) xt id true).run P w=.ok (.tuple #[x,.bool true]) w:=by
   cases d<;>first|exact absurd rfl (hn _)|simp[Instr.typeAssert,run_underlying hd]
  refine⟨_,hrun,_,rfl,_,rfl,_,_,rfl,?_,_,_,rfl,?_,rfl⟩
  ·rw[h1];exact h3
  ·rw[h1];exact⟨_,rfl,rfl⟩
end
open Go.MapKept
section
variable{P:Program}{fr:Fr}{free free':Nat->Prop}{self:Nat}{σ σ':SSo}{w w':World}{G G':Gh}{I:Im}
theorem AAU(k:Nat):IY k (k+1)=true:=by
 simp only[IY,Nat.blt,A5];exact⟨C9 (by omega),C9 (by omega)⟩
theorem ZD{m:Value}{j g:Nat}(hm:SR P w G (.obj j g) m):G.val j g=some m:=by
 obtain⟨c,hc,v2,k3,_,k5⟩:=hm;have:[m]=[v2]:=(show c=[m]from hc).symm.trans k5;rw[k3,A8.1 this]
theorem ZE{bss:List (List Nat)}{i:Nat}{c:List Nat}(h:i<bss.length):(bss.set i c).flatten=(bss.take i).flatten++(c++(bss.drop (i+1)).flatten):=by
 rw[List.set_eq_take_append_cons_drop,if_pos h];simp
theorem kF{bss:List (List Nat)}{i:Nat}(h:i<bss.length):bss.flatten=(bss.take i).flatten++(bss.getD i []++(bss.drop (i+1)).flatten):=by
 have:=ZE (c:=bss.getD i []) h;rw[<-this]
 congr 1
 rw[A2,A1 h];simp
theorem kG{bss:List (List Nat)}{i j:Nat}{c:List Nat}(h:i<bss.length):(bss.set i c).getD j []=if i=j then c else bss.getD j []:=by
 rw[A2,A2,List.getElem?_set];by_cases e:i=j
 ·subst e;simp[h]
 ·simp[e]
theorem US{i:Nat}:RL none i=none:=rfl
theorem kH{i j:Nat}:RL (some [j]) i=if j=i then some []else none:=by
 simp only[RL];by_cases h:j=i
 ·subst h;simp[CI]
 ·rw[if_neg h,show Nat.beq j i=false by rw[<-BM];exact fun hh=>h (A3 hh)];rfl
theorem DV.inv1{ow:Nat->Prop}{id:Nat}{t:Ty}{xs:List t.T}{v:Value}{bs:List Nat}(h:DV ow w I t [id] xs none [v] bs):
 (v=.slice none 0 0/\xs=[]/\bs=[])\/∃b o cap cells,v=.slice (some ⟨b,o,none⟩) xs.length cap/\bs=[b]/\HE xs.length cap/\RowAt w b cells id/\o+cap*t.sz<=cells.size/\ow b/\
  (∀c,¬I.cell b c)/\¬I.obj b/\RowsOK w I t xs (cells.toList.drop o):=by
 have h0:=h;obtain⟨v',h1,_,h2⟩:=h0;have e:v=v':=A8.1 h1;subst e;rcases h2 with⟨h2,_⟩|⟨_,h3,h4,h5⟩|⟨_,b,o,cap,_,_,hv,_⟩
 ·cases h2
 ·exact .inl ⟨h3,h4,h5⟩
 ·obtain⟨cells,h3,q1,q2,q3,q4,q5,q6,q7,q9⟩:=h.leaf hv;exact .inr ⟨b,o,cap,cells,hv,q7,q1,q2,q3,q4,q5,q6,fun i x hx=>by rw[C_];exact q9 i x hx⟩
theorem DV.mk1{ow:Nat->Prop}{id b o cap:Nat}{t:Ty}{xs:List t.T}{cells:Array Value}(q1:HE xs.length cap)(q2:RowAt w b cells id)(q3:o+cap*t.sz<=cells.size)(q4:ow b)
 (q5:∀c,¬I.cell b c)(q6:¬I.obj b)(q9:RowsOK w I t xs (cells.toList.drop o)):DV ow w I t [id] xs none [.slice (some ⟨b,o,none⟩) xs.length cap] [b]:=
 DV.mkleaf q1 q2 q3 q4 q5 q6 fun i x hx=>by
  have:=q9 i x hx;rw[C_]at this;exact this
theorem AAV{free:Nat->Prop}{self j:Nat}(h:HV free self j):free j/\¬(self<=j/\j<self+2):=by
 have h2:=h.2;refine⟨h.1,fun hj=>?_⟩
 have:IY self j=true:=by
  simp only[IY,Nat.blt,A5];exact⟨C9 hj.1,C9 (by omega)⟩
 rw[this]at h2;cases h2
theorem MemS.mk_dp(hm:MemS P fr free σ w G)(hself:free self)(hself1:free (self+1)){id:Nat}{r:List Nat}{t:Ty}{x:(EA (id::r) t).T}{v:Value}{bs:List Nat}
 (hd:DV fr.owned w G.im t (id::r) x none [v] bs)(hnd:bs.Nodup)(hsep:∀b∈bs,∀j o,σ j=some o->¬Bk G j o b):
 ∃G',GLe w G w G'/\MemS P fr (HV free self) (ER σ [(self,some (.dp (id::r) t x (self+1) none true))]) w G'/\SR P w G' (.obj self 0) v:=by
 obtain ⟨G',h1,h2,_⟩:=xK (n:=self) hm (ids:=id::r) (t:=t) (x:=x) (cs:=[v]) ⟨(by intro h; cases h),hd.own fun _ _=>trivial⟩ hnd (fun b hb=>⟨(hd.blk b hb).2.1,hsep b hb⟩) (fun k h1 h2=>by
  rcases CG self k with h|h
  ·have:k=self+1:=by omega
   rw[this];exact hself1
  ·have:k=self:=by omega
   rw[this];exact hself)
 exact⟨G',h1.le,h1.mem.shrink fun j hj=>AAV hj,[v],rfl,h2⟩
theorem LW{k:Nat}{id:Nat}{r:List Nat}{t:Ty}{x:(EA (id::r) t).T}{gk:Nat}{h:Option (List Nat)}{us:Array Value}{bs:List Nat}(h2:G.val gk 0=some (.tuple us))(h3:us.toList=List.map HM bs){b:Nat}:
 Bk G k (.dp (id::r) t x gk h true) b<->b∈bs:=by
 constructor
 ·rintro⟨_,us',h4,h5⟩;rw[h2]at h4;cases h4;exact(K_ h3).1 h5
 ·intro h;exact⟨rfl,us,h2,(K_ h3).2 h⟩
theorem MemS.touch(hm:MemS P fr free σ w G){k b:Nat}(hnk:¬free k)(hb:∀j o,j≠k->σ j=some o->¬Bk G j o b)(hC:∀o,¬G.im.cell b o)(hO:¬G.im.obj b)(hown:fr.owned b)
 (hw:∀b',b'<w.heap.size->b'≠b->w'.heap[b']?=w.heap[b']?)(hsz:w.heap.size<=w'.heap.size)(hbs:b<w'.heap.size)
 (hos:w'.os=w.os)(htape:w'.tape=w.tape)(hout:w'.output=w.output):
 GLe w G w' G/\MemS P fr free (ER σ [(k,none)]) w' G:=by
 have hle:GLe w G w' G:=by
  refine⟨⟨fun b' o h=>⟨h,?_⟩,fun b' h=>⟨h,?_⟩⟩,fun _ _ _ h=>h,fun _ _ h=>h,fun _ _ h=>h⟩
  ·have:b'≠b:=fun e=>hC o (e▸h);simp only[World.cell?,hw b' (hm.after.inC b' o h) this]
  ·exact hw b' (hm.after.inO b' h) (fun e=>hO (e▸h))
 refine⟨hle,hm.change (b:=b) (o':=none) hle hb hw hsz hbs hown (fun _ _ h=>.inl h) (fun _ h=>.inl h) hos htape hout (fun o h=>by cases h) fun j hj=>?_⟩;have hf:=hm.fresh j hj;exact⟨fun e=>hnk (e▸hj),hj,hf.2⟩
theorem ZF{k:Nat}{o:Obj}(hm:MemS P fr free σ w G)(hk:σ k=some o):¬free k:=fun h=>by
 have:=(hm.fresh k h).1;rw[hk]at this;cases this
theorem AAW{e':Ty}{id el ty k gk:Nat}(hl:Lay P (.slice e') id)(hel:∀x,P.underlying id=some (.slice x)->el=x)(hm:MemS P fr free σ w G)(hself:free self)(hself1:free (self+1))
 {xs ys zs:List e'.T}{v vx:Value}(hkσ:σ k=some (.dp [el] e' xs gk none true))(hs:SR P w G (.obj k 0) v)(hv0:OZ P w G.im e' id ys vx)(hz:app? (24*e'.sz) xs ys=some zs):
 ∃z w',(Builtin.append_ #[id,id] ty #[v,vx]).run P w=.ok z w'/\Res P fr free self σ w G ⟨.obj self 0,[(self,some (.dp [el] e' zs (self+1) none true)),(k,none)]⟩ z w':=by
 have hnk:=ZF hm hkσ;obtain⟨_,hety,v',us,bs,k1,k2,k3,k4,k5⟩:=DpOK.inv (hm.objs _ _ hkσ);have hv:=ZD hs;rw[k1]at hv;cases hv;have hbk:∀b,Bk G k (.dp [el] e' xs gk none true) b<->b∈bs:=fun b=>LW k2 k3;obtain⟨el',hun,hle,hpos⟩:=hl.slice;have:=hel _ hun;subst this;obtain⟨hB,hzs⟩:=UM hz;subst hzs;obtain⟨i,z,h1,h2',h3,h4,h5,h6⟩:=LR (P:=P) (w:=w) (I:=G.im) hle;have hvs:=hv0;obtain⟨news,s1,s2,s3⟩:=hvs;rw[<-h2']at s1
 have fin:∀{w':World} {b o cap:Nat} {cells:Array Value},(∀j ob,j≠k->σ j=some ob->¬Bk G j ob b)->(∀c,¬G.im.cell b c)->¬G.im.obj b->fr.owned b->
  (∀b',b'<w.heap.size->b'≠b->w'.heap[b']?=w.heap[b']?)->w.heap.size<=w'.heap.size->w'.os=w.os->w'.tape=w.tape->w'.output=w.output->
  HE (xs++ys).length cap->RowAt w' b cells el->o+cap*e'.sz<=cells.size->RowsOK w G.im e' (xs++ys) (cells.toList.drop o)->
  Res P fr free self σ w G ⟨.obj self 0,[(self,some (.dp [el] e' (xs++ys) (self+1) none true)),(k,none)]⟩ (.slice (some ⟨b,o,none⟩) (xs++ys).length cap) w':=by
  intro w' b o cap cells a1 a2 a3 a4 a5 a6 a7 a8 a9 a10 a11 a12 a13;obtain⟨g1,m1⟩:=hm.touch (w':=w') hnk a1 a2 a3 a4 a5 a6 a11.lt a7 a8 a9
  obtain ⟨G',g2,m2,m3⟩:=m1.mk_dp hself hself1 (id:=el) (r:=[]) (t:=e') (x:=(xs++ys:List e'.T)) (DV.mk1 (id:=el) (t:=e') a10 a11 a12 a4 a2 a3 (a13.ext g1.ext)) (by simp) (fun b' hb' j ob hj hbj=>by
   have:b'=b:=by simpa using hb'
   subst this;rw[FX]at hj;by_cases e:j=k
   ·rw[if_pos e]at hj;cases hj
   ·rw[if_neg e]at hj;exact a1 j ob e hj hbj)
  exact ⟨G',g1.trans g2,by
   show MemS P fr (HV free self) (ER σ ([(self,some (.dp [el] e' (xs++ys) (self+1) none true))]++[(k,none)])) w' G';rw[GD];exact m2,m3⟩
 have hnew:(∀j ob,j≠k->σ j=some ob->¬Bk G j ob w.heap.size)/\(∀c,¬G.im.cell w.heap.size c)/\¬G.im.obj w.heap.size:=
  ⟨fun j ob _ hj hbj=>absurd (HW (hm.objs j ob hj) hbj) (AH _),fun c h=>absurd (hm.after.inC _ _ h) (AH _),fun h=>absurd (hm.after.inO _ h) (AH _)⟩
 have grow:∀{base:Option Addr} {cap:Nat} {olds:List Value},cap<xs.length+ys.length->(Builtin.firstCells e'.sz xs.length (.slice base xs.length cap)).run P w.drew=.ok olds.toArray w.drew->
  olds.length=xs.length*e'.sz->RowsOK w G.im e' xs olds->∃z w',(Builtin.append_ #[id,id] ty #[.slice base xs.length cap,vx]).run P w=.ok z w'/\
  Res P fr free self σ w G ⟨.obj self 0,[(self,some (.dp [el] e' (xs++ys) (self+1) none true)),(k,none)]⟩ z w':=by
  intro base cap olds hcap hold hol hor
  have hbig:(xs.length+ys.length)*i.bytes<=140737488355328:=by
   have:(xs.length+ys.length)*i.bytes<=(xs.length+ys.length)*(24*e'.sz):=CC _ h3;have hB:(xs.length+ys.length)*(24*e'.sz)<=70368744177664:=hB;omega
  have hB:(xs.length+ys.length)*(24*e'.sz)<=70368744177664:=hB
  have h63:xs.length+ys.length<=70368744177664:=by
   have:(xs.length+ys.length)*1<=(xs.length+ys.length)*(24*e'.sz):=CC _ (by omega);omega
  have hrun:=run_append_grow_src w id id ty el i z hun h1 h4 base xs.length cap olds (by rw[h2'];exact hold) vx ys.length news s1 hcap (by omega) (growslice_fits hcap hbig);have hge:=grownCap_ge w (xs.length+ys.length) cap el;have hzs:z.cells.size=e'.sz:=by have:=h6.length;simpa using this
  have:=fin (w':=w.drew.alloc (.cells ((olds++news).toArray++Builtin.zeroCells z.cells (grownCap w (xs.length+ys.length) cap el-(xs.length+ys.length))) el)) (b:=w.heap.size) (o:=0)
   (cap:=grownCap w (xs.length+ys.length) cap el) (cells:=((olds++news).toArray++Builtin.zeroCells z.cells (grownCap w (xs.length+ys.length) cap el-(xs.length+ys.length))))
   hnew.1 hnew.2.1 hnew.2.2 hm.owned_new (fun b' h _=>by show(w.heap.push _)[b']?=_;rw[CU h,B3 h]) (by show _<=(w.heap.push _).size;simp) rfl rfl rfl
   (by rw[A7];exact⟨hge,by omega⟩) ⟨(0,0),by show(w.heap.push _)[_]?=_;rw[CQ],.inl (AM _)⟩
   (by
    rw[BT,Array.size_append,size_zeroCells,hzs,BH,A7,hol,s2,<-CT,<-CT];refine B2 _ ?_;omega)
   (by
    rw[DC,Array.toList_append,C5];exact RowsOK.append hor s3 hol s2)
  rw[A7]at this;exact⟨_,_,hrun,this⟩
 rcases k5.inv1 with⟨rfl,hx0,hb0⟩|⟨b,o,cap,cells,rfl,hb0,hcap,hrow,hsz,hown,hC,hO,hrows⟩
 ·have hx0:xs=([]:List e'.T):=hx0;subst hx0;by_cases h0:ys.length=0
  ·have hy:ys=[]:=AT h0;subst hy;have hn:news=[]:=AT (by simpa using s2);subst hn;have m0:=hm.drop k;obtain⟨G',g2,m2,m3⟩:=m0.mk_dp hself hself1 (id:=el) (r:=[]) (t:=e') (x:=([]:List e'.T)) (v:=.slice none 0 0) (bs:=[]) ⟨_,rfl,rfl,.inr (.inl ⟨(by intro h;cases h),rfl,rfl,rfl⟩)⟩ B8 (fun b hb=>by cases hb);refine⟨.slice none 0 0,w,?_,G',g2,?_,m3⟩
   ·have hl1:=s1.len w;have hc1:=s1.cells;simp at hc1;rcases s1.kind with⟨e',hk⟩|hk<;>simp[Builtin.append_,run_underlying hun,run_underlying hk,sizeOf,typeInfo,h1,hl1,hc1]
   ·show MemS P fr (HV free self) (ER σ ([(self,some (.dp [el] e' [] (self+1) none true))]++[(k,none)])) w G';rw[GD];exact m2
  ·exact grow (base:=none) (cap:=0) (olds:=[]) (by simp;omega) (run_firstCells_none _ _ _ _ _) (by simp) (fun i x hx=>by simp at hx)
 ·have hbin:∀j ob,j≠k->σ j=some ob->¬Bk G j ob b:=fun j ob hj ho hbj=>hj (hm.sep j k ob _ b ho hkσ hbj ((hbk b).2 (by rw[hb0];simp)));have hle2:xs.length*e'.sz<=cap*e'.sz:=B2 _ hcap.1;have hfull:o+xs.length*e'.sz<=cells.size:=by omega
  have hcell:∀o,w.cell? ⟨b,o,none⟩=cells.toList[o]?:=hrow.cell;have hB':(xs.length+ys.length)*(24*e'.sz)<=70368744177664:=hB;by_cases hroom:xs.length+ys.length<=cap
  ·have hroom2:(xs.length+ys.length)*e'.sz<=cap*e'.sz:=B2 _ hroom;rw[CT]at hroom2;have hfit:o+xs.length*e'.sz+news.length<=cells.size:=by rw[s2];omega
   obtain⟨fz,hb1,hfz⟩:=(show RowAt w b cells el from hrow);have hst:=UL P b (o+xs.length*e'.sz) el fz news 0 cells w hb1 hfz (by omega) s1.one
   have hrun:(Builtin.append_ #[id,id] ty #[.slice (some ⟨b,o,none⟩) xs.length cap,vx]).run P w=
    .ok (.slice (some ⟨b,o,none⟩) (xs.length+ys.length) cap) (w.setRow b (FB cells.toList (o+xs.length*e'.sz) news).toArray):=by
    have hl1:=s1.len w;have hc1:=s1.cells;rw[h2']at hc1;simp only[D3]at hst;rcases s1.kind with⟨e',hk2⟩|hk2<;>simp[Builtin.append_,run_underlying hun,run_underlying hk2,sizeOf,typeInfo,h1,h2',hl1,hroom,hc1,Addr.add_lit,hst,FB]
   have hspl:(FB cells.toList (o+xs.length*e'.sz) news).length=cells.size:=by rw[JZ (by simpa using hfit)];simp
   have:=fin (w':=w.setRow b (FB cells.toList (o+xs.length*e'.sz) news).toArray) (b:=b) (o:=o) (cap:=cap) (cells:=(FB cells.toList (o+xs.length*e'.sz) news).toArray)
    hbin hC hO hown (fun b' _ hne=>setRow_other w b b' _ hne) (by simp) rfl rfl rfl
    (by
     rw[A7];have h63:(xs.length+ys.length)*1<=(xs.length+ys.length)*(24*e'.sz):=CC _ (by omega);exact⟨hroom,by omega⟩) (hrow.set (by rw[BH,hspl])) (by rw[BH,hspl];exact hsz)
    (by
     show RowsOK w G.im e' (xs++ys) ((FB cells.toList (o+xs.length*e'.sz) news).drop o);rw[jS (by simpa using hfit)];exact RowsOK.append (RowsOK.take hrows (AM _)) s3 (by simp;omega) s2)
   rw[A7]at this;exact⟨_,_,hrun,this⟩
  ·exact grow (base:=some ⟨b,o,none⟩) (cap:=cap) (olds:=(cells.toList.drop o).take (xs.length*e'.sz)) (by omega)
    (run_firstCells_some _ _ _ _ _ _ _ (by simp; omega) (fun j u hj=>by
     rw[World.cell?_drew,Addr.add_lit,hcell];rw[AX]at hj;split at hj
     ·rw[A_]at hj;exact hj
     ·cases hj)) (by simp;omega) (RowsOK.take hrows (AM _))
theorem AAX{t:Ty}{id:Nat}(hl:Lay P t id)(hm:MemS P fr free σ w G)(hσ:∀k o,σ' k=some o->σ k=some o)(hself:free self)(hself1:free (self+1))
 {s:SV}{v:Value}{lo hi:Option SV}{vlo vhi:Option Value}{r:OpRes}{u:Upd}(hr:TY σ' self t s lo hi=some r)(hu:Gives r u)(hs:SR P w G s v)(hlo:J_ P w G lo vlo)(hhi:J_ P w G hi vhi):
 ∃z,(Instr.sliceAt id v vlo vhi none).run P w=.ok z w/\Res P fr free self σ w G u z w:=by
 have key:∀{k el:Nat} {e:Ty} {xs:List e.T} {ob:Obj} {bs:List Nat},t=.slice e->σ k=some ob->G.val k 0=some v->DV fr.owned w G.im e [el] xs none [v] bs->(∀b∈bs,Bk G k ob b)->YG self k el e xs lo hi=some r->
  ∃z,(Instr.sliceAt id v vlo vhi none).run P w=.ok z w/\Res P fr free self σ w G u z w:=by
  intro k el e xs ob bs ht hkσ hval hdv hbk hr2;subst ht;obtain⟨el',hun,hle,_⟩:=hl.slice;obtain⟨inf,z0,hinf,hisz,_,_,_⟩:=JB hle.inf;have hc2:P.cellsOf el'=e.sz:=by simp[Program.cellsOf,hinf,hisz]
  unfold YG at hr2;split at hr2
  ·rename_i l h' hbl hbh;cases hr2;obtain⟨y,hy,rfl⟩:=hu.may_inv;obtain⟨h1,h2,h3,h4⟩:=cut?_some hy;have hylen:y.length=h'.toNat-l.toNat:=by rw[h4];simp only[CF,B4];omega
   have m0:=hm.drop k
   have fin:∀{z:Value} {bs':List Nat},DV fr.owned w G.im e [el] y none [z] bs'->bs'.Nodup->(∀b∈bs',b∈bs)->
    Res P fr free self σ w G ⟨.obj self 0,[(self,some (.dp [el] e y (self+1) none true)),(k,none)]⟩ z w:=by
    intro z bs' d1 d2 d3
    obtain ⟨G',g2,m2,m3⟩:=m0.mk_dp hself hself1 (id:=el) (r:=[]) (t:=e) (x:=(y:List e.T)) d1 d2 (fun b hb j o hj hbj=>by
     rw[FX]at hj;by_cases e:j=k
     ·rw[if_pos e]at hj;cases hj
     ·rw[if_neg e]at hj;exact e (hm.sep j k o ob b hj hkσ hbj (hbk b (d3 b hb))))
    exact ⟨G',g2,by
     show MemS P fr (HV free self) (ER σ ([(self,some (.dp [el] e y (self+1) none true))]++[(k,none)])) w G';rw[GD];exact m2,m3⟩
   rcases hdv.inv1 with⟨rfl,rfl,_⟩|⟨b,o,cap,cells,rfl,hb0,hcap,hrow,hsz,hown,hC,hO,hrows⟩
   ·have hsb:=UG (P:=P) (w:=w) (isS:=true) (len:=0) (cap:=0) (MF hbl hlo) (MF hbh hhi) h1 h2 (by simpa using h3);have hh0:h'.toNat=0:=by simp at h3;omega
    have hl0:l.toNat=0:=by omega
    have hy0:y=[]:=AT (by omega);subst hy0;refine⟨.slice none 0 0,?_,fin (bs':=[]) ⟨_,rfl,rfl,.inr (.inl ⟨(by intro h;cases h),rfl,rfl,rfl⟩)⟩ B8 (fun b hb=>by cases hb)⟩;simp only[Instr.sliceAt,Sem.run_bind,run_underlying hun,Result.andThen_ok,Instr.slice,hsb,run_sizeOf w hinf,hc2,hh0,hl0];rfl
   ·have hcap1:=hcap.1;have hsb:=UG (P:=P) (w:=w) (isS:=true) (len:=xs.length) (cap:=cap) (MF hbl hlo) (MF hbh hhi) h1 h2 (by omega)
    have hrun:(Instr.sliceAt id (.slice (some ⟨b,o,none⟩) xs.length cap) vlo vhi none).run P w=
     .ok (.slice (if cap=l.toNat then some ⟨b,o,none⟩else some ⟨b,o+l.toNat*e.sz,none⟩) (h'.toNat-l.toNat) (cap-l.toNat)) w:=by
     simp only[Instr.sliceAt,Sem.run_bind,run_underlying hun,Result.andThen_ok,Instr.slice,hsb,run_sizeOf w hinf,hc2,BF,KG];rfl
    have hmul:l.toNat*e.sz<=cap*e.sz:=B2 _ (by omega);refine⟨_,hrun,?_⟩;rw[<-hylen];by_cases hcl:cap=l.toNat
    ·rw[if_pos hcl];have hy0:y=[]:=AT (by omega);subst hy0;exact fin (DV.mk1 (xs:=([]:List e.T)) ⟨BI _,BI _⟩ hrow (by rw[hcl,DQ,Nat.zero_mul];omega) hown hC hO (fun i x hx=>by simp at hx)) (by simp) (fun b' hb'=>by rw[hb0];exact hb')
    ·rw[if_neg hcl];refine fin (DV.mk1 ⟨by omega,by have:=hcap.2;omega⟩ hrow (by rw[Nat.sub_mul];omega) hown hC hO (fun i x hx=>?_)) (by simp) (fun b' hb'=>by rw[hb0];exact hb')
     have hx':xs[l.toNat+i]?=some x:=by
      rw[h4,A_,AX]at hx;split at hx
      ·exact hx
      ·cases hx
     have:=hrows _ _ hx';rw[C_]at this ⊢;rw[CT,<-CD]at this;exact this
  ·cases hr2
 unfold TY at hr;split at hr
 ·rename_i e k g;split at hr
  ·rename_i el e' xs gk hk;cases hb:(Nat.beq g 0&&e'.same e)with
   |false=>rw[hb]at hr;cases hr
   |true=>
    rw[hb]at hr;simp only[A5]at hb;have e1:=A3 hb.1;have e3:=Ty.same_eq hb.2;subst e1 e3;have hkσ:=hσ _ _ hk;obtain⟨_,hety,v',us,bs,k1,k2,k3,k4,k5⟩:=DpOK.inv (hm.objs _ _ hkσ);have hv:=ZD hs;rw[k1]at hv;cases hv;exact key rfl hkσ k1 k5 (fun b hb=>(LW k2 k3).2 hb) hr
  ·rename_i el e' xs g' hk;cases hb:(Nat.beq g 0&&(Nat.beq g' 0&&e'.same e))with
   |false=>rw[hb]at hr;cases hr
   |true=>
    rw[hb]at hr;simp only[A5]at hb;have e1:=A3 hb.1;have e2:=A3 hb.2.1;have e3:=Ty.same_eq hb.2.2;subst e1 e2 e3;have hkσ:=hσ _ _ hk;obtain⟨_,v',k1,k2⟩:=hm.objs _ _ hkσ;have hv:=ZD hs;rw[k1]at hv;cases hv;obtain⟨bs,d1,d2,d3⟩:=SlOK.dv k2;refine key rfl hkσ k1 d1 (fun b hb=>?_) hr;obtain⟨_,_,cap,cells,e1,_⟩:=k2.slice (d3 b hb);simp only[Bk,k1,e1]
  ·cases hr
 ·cases hr
theorem MemS.grow1(hm:MemS P fr free σ w G)(hold:∀b,b<w.heap.size->w'.heap[b]?=w.heap[b]?)(hsz:w.heap.size<=w'.heap.size)(hos:w'.os=w.os)(htape:w'.tape=w.tape)(hout:w'.output=w.output):
 GLe w G w' G/\MemS P fr free σ w' G:=by
 have hext:Ext w G.im w' G.im:=⟨fun b o h=>⟨h,by simp only[World.cell?,hold b (hm.after.inC b o h)]⟩,fun b h=>⟨h,hold b (hm.after.inO b h)⟩⟩;have hle:GLe w G w' G:=⟨hext,fun _ _ _ h=>h,fun _ _ h=>h,fun _ _ h=>h⟩;refine⟨hle,fun j o h=>(hm.objs j o h).keep hle fun b hb=>⟨hold b (HW (hm.objs j o h) hb),fun _ h=>h,fun h=>h⟩,hm.sep,?_,hm.fresh⟩
 exact hm.after.trans (gv':=RK) ⟨hext,fun b hb _=>hold b hb,hsz,fun _ _ h=>.inl h,fun _ h=>.inl h,fun b o h=>BK (hm.after.inC b o h) hsz,fun b h=>BK (hm.after.inO b h) hsz,
  hos,htape,hout,hm.after.pins.ext hext⟩ (fun b h=>h.elim)
theorem AAY{z:Value}{n i:Nat}(h:i<n):((madeCells #[z] n).toList.drop i).take 1=[z]:=by
 rw[CM (by simpa[size_madeCells]using h)];simp[madeCells,Nat.mod_one]
theorem kI{e:Ty}{el:Nat}(hle:Lay P (.slice e) el):∃i,P.info? el=some i/\i.size=1/\i.bytes<=24/\i.zero=some (.slice none 0 0):=by
 obtain⟨i,v,h1,h2,h3,h4,h5⟩:=JB hle.inf
 have hv:v=.slice none 0 0:=by
  simp only[zv]at h5;split at h5
  ·cases h5
  ·unfold O4 at h5;split at h5
   ·rename_i hz;simp only[zc]at hz;split at hz
    ·rename_i r' he;cases he;rfl
    ·cases hz
   ·cases h5
 subst hv;exact⟨i,h1,h2,h3,h4⟩
theorem AAZ{t:Ty}{id n:Nat}{ids:List Nat}(hl:Lay P t id)(hm:MemS P fr free σ w G)(hself:free self)(hself1:free (self+1)){a b:Int}(hin:GI .i64 b)
 {r:OpRes}{u:Upd}(hr:RE self n ids t a b=some r)(hu:Gives r u)(hids:∃l,ids=(match P.underlying id with|some (.slice x)=>x|_=>0)::l):
 ∃v w',(Instr.makeSlice id (.int .i64 a) (.int .i64 b)).run P w=.ok v w'/\Res P fr free self σ w G u v w':=by
 unfold RE at hr;split at hr
 ·rename_i el id2 q;split at hr
  ·rename_i lf _;cases hsm:(EA (el::id2::q) lf).same t with
   |false=>rw[hsm]at hr;cases hr
   |true=>
    rw[hsm]at hr;have ht:=Ty.same_eq hsm;subst ht;cases hr;obtain⟨zs,hz,rfl⟩:=hu.may_inv;have hl:Lay P (.slice (EA (id2::q) lf)) id:=hl;obtain⟨el',hun,hle,hpos⟩:=hl.slice;obtain⟨l,hids⟩:=hids;rw[hun]at hids;injection hids with hel _;have hel:el=el':=hel;subst hel;obtain⟨h0,hab,hB,rfl⟩:=wX hz;obtain⟨i,h1,h2,h3,h4⟩:=kI (P:=P) (e:=EA q lf) hle
    have hb3:(i.bytes:Int)*b<=281474976710656:=by
     have hb0:b=(b.toNat:Int):=by omega
     have hh:i.bytes*b.toNat<=281474976710656:=by
      have:i.bytes*b.toNat<=b.toNat*24:=by rw[D6];exact CC _ h3
      omega
     rw[hb0,<-Int.natCast_mul];exact Int.ofNat_le.2 hh
    have hb4:b<=9223372036854775807:=hin.2;have hrun:=run_make (P:=P) w id el i _ hun h1 h4 .i64 .i64 a b h0 hab hb3 hb4;rw[h2,DF]at hrun;have hcells:(Value.slice none 0 0).cells= #[.slice none 0 0]:=rfl;rw[hcells]at hrun
    obtain ⟨hle1,m1⟩:=hm.grow1 (w':=w.alloc (.cells (madeCells #[.slice none 0 0] b.toNat) el)) (fun b' h=>by
     show(w.heap.push _)[b']?=_;rw[CU h,B3 h]) (by show _<=(w.heap.push _).size;simp) rfl rfl rfl
    have hrow:RowAt (w.alloc (.cells (madeCells #[.slice none 0 0] b.toNat) el)) w.heap.size (madeCells #[.slice none 0 0] b.toNat) el:=
     ⟨(0,0),by show(w.heap.push _)[_]?=_;rw[CQ],.inl (AM _)⟩
    have hab':a.toNat<=b.toNat:=by omega
    obtain⟨G',g2,m2,m3⟩:=m1.mk_dp hself hself1 (id:=el) (r:=id2::q) (t:=lf) (x:=(List.replicate a.toNat (EA (id2::q) lf).dflt:List (EA (id2::q) lf).T)) (v:=.slice (some ⟨w.heap.size,0,none⟩) a.toNat b.toNat) (bs:=[w.heap.size])
     ⟨_,rfl,rfl,.inr (.inr ⟨(by intro h; cases h),w.heap.size,0,b.toNat,_,List.replicate a.toNat [],by rw [BE],by rw [BE]; exact ⟨hab',by omega⟩,hrow,
      by rw[size_madeCells,BT];exact Nat.le_of_eq (DF _),hm.owned_new,fun c h=>absurd (hm.after.inC _ _ h) (AH _),fun h=>absurd (hm.after.inO _ h) (AH _),
      by rw[BE,BE],by rw[wR],fun i x hx=>by
       have hlt:=lt_of_getElem? hx;rw[BE]at hlt
       have hx0:x=([]:List (EA q lf).T):=by
        rw[CS,if_pos hlt]at hx;exact(A4 hx).symm
       subst hx0;refine⟨.slice none 0 0,?_,rfl,.inr (.inl ⟨(by intro h;cases h),rfl,rfl,?_⟩)⟩
       ·show((madeCells #[.slice none 0 0] b.toNat).toList.drop (0+i*1)).take 1=_;rw[BT,DF];exact AAY (by omega)
       ·rw[A2,CS];split<;>rfl⟩)⟩ (by simp)
     (fun b' hb' j o hj hbj=>by
      have:b'=w.heap.size:=by simpa using hb'
      subst this;exact absurd (HW (hm.objs j o hj) hbj) (AH _))
    exact⟨_,_,hrun,G',hle1.trans g2,m2,m3⟩
  ·cases hr
 ·cases hr
theorem MemS.ghostE(hm:MemS P fr free σ w G){k:Nat}(hk:free' k)(t:Ty)(hf:G.ety k=none)(hff:∀j,free j->j≠k:=by first|assumption|exact fun j h=>h.2):
 GLe w G w (G.addEty k t)/\MemS P fr free σ w (G.addEty k t):=by
 have hle:GLe w G w (G.addEty k t):=by
  refine⟨Ext.refl _ _,fun j g u h=>h,fun j u h=>?_,fun j b h=>h⟩;have:j≠k:=fun e=>by rw[e,hf]at h;cases h
  simp only[Gh.addEty,if_neg this];exact h
 refine⟨hle,fun j o h=>(hm.objs j o h).keep hle fun b _=>⟨rfl,fun _ h=>h,fun h=>h⟩,fun i j o1 o2 b' hi hj hbi hbj=>?_,hm.after,fun j hj=>?_⟩
 ·rw[GN (hm.objs i o1 hi) hle]at hbi;rw[GN (hm.objs j o2 hj) hle]at hbj;exact hm.sep i j o1 o2 b' hi hj hbi hbj
 ·have hfj:=hm.fresh j hj;exact⟨hfj.1,by simp only[Gh.addEty,if_neg (hff j hj)];exact hfj.2.1,hfj.2.2.1,hfj.2.2.2⟩
theorem DV.three{ow:Nat->Prop}{t:Ty}{id:Nat}{r:List Nat}{xs:List (EA r t).T}{h:Option (List Nat)}{v:Value}{bs:List Nat}(hd:DV ow w I t (id::r) xs h [v] bs)(hne:h≠some []){b o len cap:Nat}
 (hv:v=.slice (some ⟨b,o,none⟩) len cap):∃cells bss,len=xs.length/\HE xs.length cap/\RowAt w b cells id/\o+cap*(EA r t).sz<=cells.size/\ow b/\(∀c,¬I.cell b c)/\¬I.obj b/\List.length bss=xs.length/\bs=b::List.flatten bss/\
  ∀i x,xs[i]?=some x->DV ow w I t r x (RL h i) ((cells.toList.drop (o+i*(EA r t).sz)).take (EA r t).sz) (bss.getD i []):=by
 obtain⟨v',h0,h1,h2⟩:=hd;have e:v=v':=A8.1 h0;subst e;rcases h2 with⟨h2,_⟩|⟨_,h2,_⟩|⟨_,b',o',cap',cells,bss,h3,q1,q2,q3,q4,q5,q6,q7,q8,q9⟩
 ·exact absurd h2 hne
 ·rw[hv]at h2;cases h2
 ·rw[hv]at h3;cases h3;exact⟨cells,bss,rfl,q1,q2,q3,q4,q5,q6,q7,q8,q9⟩
theorem AA_{t:Ty}{id:Nat}(hl:Lay P t id)(hm:MemS P fr free σ w G)(hσ:∀k o,σ' k=some o->σ k=some o)(hself:free self)(hself1:free (self+1))(hself2:free (self+2)){s:SV}{v:Value}{r:OpRes}{u:Upd}
 (hr:TZ σ' self t s=some r)(hu:Gives r u)(hs:SR P w G s v):∃z,(Instr.loadAt id v).run P w=.ok z w/\Res P fr free self σ w G u z w:=by
 unfold TZ at hr;split at hr
 ·rename_i k g i u0;split at hr
  ·rename_i id1 id2 q lf xs gk hk;cases hb:(Nat.beq g 0&&(EA (id2::q) lf).same t)with
   |false=>rw[hb]at hr;cases hr
   |true=>
    rw[hb]at hr;simp only[A5]at hb;have e1:=A3 hb.1;have e2:=Ty.same_eq hb.2;subst e1 e2;cases hr;rw[hu.pure_inv];have hkσ:=hσ _ _ hk;have hnk:=ZF hm hkσ;obtain⟨h0,hety,v',us,bs,k1,k2,k3,k4,k5⟩:=DpOK.inv (hm.objs _ _ hkσ);obtain⟨b,o,len,cap,e',o2,p1,p2,p3,p4,p5,rfl⟩:=N5 hs;rw[k1]at p1;cases p1;rw[hety]at p2;cases p2;rw[ZA]at p4;cases p4;obtain⟨cells,bss,rfl,q1,q2,q3,q4,q5,q6,q7,rfl,q9⟩:=k5.three (xs:=xs) h0 rfl;have hsz:(EA (id2::q) lf).sz=1:=rfl;have hget:=getD_some (d:=(EA (id2::q) lf).dflt) (xs:=(show List (EA (id2::q) lf).T from xs)) p3;have hch:=q9 i _ hget;rw[US]at hch;have hch0:=hch;obtain⟨z,hz,hz1,_⟩:=hch0;rw[hz]at hch
    have hcell:w.cell? ⟨b,o+i*(EA (id2::q) lf).sz,none⟩=some z:=by
     have:=Z3 (n:=1) (o:=o+i*(EA (id2::q) lf).sz) q2 0 (by omega);rw[show(cells.toList.drop (o+i*(EA (id2::q) lf).sz)).take 1=[z]from hz]at this;simpa using this
    have hrun:(Instr.loadAt id (.pointer (some ⟨b,o+i*(EA (id2::q) lf).sz+0,none⟩))).run P w=.ok z w:=by
     have hag:(EA (id2::q) lf).isAgg=false:=rfl;simp only[Instr.loadAt,Sem.run_bind,Instr.sureAddr,Sem.run_pure,Result.andThen_ok,loadVar,RR hl,hag,CH,CK,D3];exact UJ hcell
    refine⟨z,hrun,?_⟩;have hi:i<bss.length:=by rw[q7];exact p3
    have hfl:=kF hi;have hfs:(bss.set i []).flatten=(bss.take i).flatten++(bss.drop (i+1)).flatten:=by rw[ZE hi];rfl
    have hnd:=B9.1 k4;rw[hfl]at hnd
    have hsub:∀c,c∈(bss.set i []).flatten->c∈bss.flatten:=by
     intro c hc;rw[hfs]at hc;rw[hfl];rcases AR.1 hc with h|h
     ·exact AS _ h
     ·exact AU _ (AU _ h)
    have hnd2:=BD.1 hnd.2;have hnd3:=BD.1 hnd2.2.1;have hndc:(bss.getD i []).Nodup:=hnd3.1
    have hnds:(b::(bss.set i []).flatten).Nodup:=by
     refine B9.2 ⟨fun h=>(B9.1 k4).1 (hsub b h),?_⟩;rw[hfs];exact BD.2 ⟨hnd2.1,hnd3.2.1,fun x hx y hy=>hnd2.2.2 x hx y (AU _ hy)⟩
    have hdisj:∀c,c∈bss.getD i []->c ∉ b::(bss.set i []).flatten:=by
     intro c hc h;rcases B6.1 h with rfl|h
     ·exact hnd.1 (AU _ (AS _ hc))
     ·rw[hfs]at h;rcases AR.1 h with h|h
      ·exact hnd2.2.2 c h c (AS _ hc) rfl
      ·exact hnd3.2.2 c hc c h rfl
    let G0:Gh:=((G.addVal (self+2) 0 (.tuple (List.map HM (b::(bss.set i []).flatten)).toArray)).addVal (self+1) 0 (.tuple (List.map HM (bss.getD i [])).toArray)).addVal self 0 z
    obtain⟨g01,m01⟩:=hm.ghost hself2 (.tuple (List.map HM (b::(bss.set i []).flatten)).toArray);obtain⟨g02,m02⟩:=m01.ghost (k:=self+1) ⟨hself1,by omega⟩ (.tuple (List.map HM (bss.getD i [])).toArray);obtain⟨g03,m03⟩:=m02.ghost (k:=self) ⟨⟨hself,by omega⟩,by omega⟩ z
    obtain ⟨g04,m04⟩:=m03.ghostE (k:=self) hself (EA q lf) (by
     have:=(hm.fresh self hself).2.1;exact this)
    have hle:GLe w G w (G0.addEty self (EA q lf)):=((g01.trans g02).trans g03).trans g04;generalize hG1:G0.addEty self (EA q lf)=G1 at hle;have m04:MemS P fr (fun j=>(((free j/\j≠self+2)/\j≠self+1)/\j≠self)) σ w G1:=by rw[<-hG1];exact m04
    have him:G1.im=G.im:=by rw[<-hG1];rfl
    have hus:G1.val (self+2) 0=some (.tuple (List.map HM (b::(bss.set i []).flatten)).toArray):=by
     rw[<-hG1];have n1:self+2≠self:=by omega
     have n2:self+2≠self+1:=by omega
     simp[G0,Gh.addVal,Gh.addEty]
    have hus1:G1.val (self+1) 0=some (.tuple (List.map HM (bss.getD i [])).toArray):=by
     rw[<-hG1];simp[G0,Gh.addVal,Gh.addEty]
    have hv1:G1.val self 0=some z:=by
     rw[<-hG1];simp[G0,Gh.addVal,Gh.addEty]
    have hety1:G1.ety self=some (EA q lf):=by
     rw[<-hG1];simp[Gh.addEty]
    have hbk:∀c,Bk G1 k (.dp (id1::id2::q) lf xs (self+2) (some [i]) true) c<->c∈b::(bss.set i []).flatten:=fun c=>LW hus (by simp);have hbk1:∀c,Bk G1 self (.dp (id2::q) lf ((show List (EA (id2::q) lf).T from xs).getD i (EA (id2::q) lf).dflt) (self+1) none true) c<->c∈bss.getD i []:=fun c=>LW hus1 (by simp)
    have hbk0:∀c,Bk G1 k (.dp (id1::id2::q) lf xs gk none true) c<->c∈b::bss.flatten:=fun c=>by
     rw[GN (hm.objs k _ hkσ) hle];exact LW k2 k3
    have m05:=m04.drop k
    have hdrop:∀j o,ER σ [(k,none)] j=some o->j≠k/\σ j=some o:=by
     intro j o h;rw[FX]at h;by_cases e:j=k
     ·rw[if_pos e]at h;cases h
     ·rw[if_neg e]at h;exact⟨e,h⟩
    have hpar:ObjOK P fr w G1 k (.dp (id1::id2::q) lf xs (self+2) (some [i]) true):=
     ⟨(by intro h; cases h),hle.ety _ _ hety,_,_,b::(bss.set i []).flatten,hle.val _ _ _ k1,hus,by simp,hnds,⟨_,rfl,rfl,.inr (.inr ⟨(by intro h; cases h),b,o,cap,cells,bss.set i [],rfl,q1,q2,q3,q4,by rw [him]; exact q5,by rw [him]; exact q6,by rw [AF]; exact q7,rfl,fun j x hx=>by
      rw[kG hi,kH];by_cases e:i=j
      ·subst e;rw[if_pos rfl,if_pos rfl]
       exact ⟨z,hz,hz1,.inl ⟨rfl,rfl,by
        rw[hget]at hx;cases hx;obtain⟨a,cp,e1,e2⟩:=DV.head hch;exact⟨a,cp,A8.1 e1,e2⟩⟩⟩
      ·rw[if_neg e,if_neg e];exact(q9 j x hx).keep hle.ext fun _ _=>⟨rfl,fun _ h=>him▸h,fun h=>him▸h⟩⟩)⟩,z,b,o,_,cap,hv1,rfl,p3,by simpa[hsz]using hcell⟩
    have m06:=m05.backO (k:=k) hpar (fun h=>hnk h.1.1.1) (fun c hc j o' hj hbj=>by
     obtain⟨e,hj⟩:=hdrop j o' hj;rw[hbk]at hc;refine e (hm.sep j k o' _ c hj hkσ (by rw[<-GN (hm.objs j o' hj) hle];exact hbj) ?_);rw[<-GN (hm.objs k _ hkσ) hle,hbk0];rcases B6.1 hc with rfl|hc
     ·exact AN
     ·exact AI _ (hsub c hc))
    have hchild:ObjOK P fr w G1 self (.dp (id2::q) lf ((show List (EA (id2::q) lf).T from xs).getD i (EA (id2::q) lf).dflt) (self+1) none true):=
     ⟨(by intro h;cases h),hety1,z,_,bss.getD i [],hv1,hus1,by simp,hndc,hch.keep hle.ext (fun _ _=>⟨rfl,fun _ h=>him▸h,fun h=>him▸h⟩),trivial⟩
    have m07:=m06.backO (k:=self) hchild (fun h=>h.2 rfl) (fun c hc j o' hj hbj=>by
     rw[hbk1]at hc;rw[FX]at hj;by_cases e:j=k
     ·rw[if_pos e]at hj;cases hj;subst e;exact hdisj c hc ((hbk c).1 hbj)
     ·rw[if_neg e]at hj;obtain⟨_,hj⟩:=hdrop j o' hj;refine e (hm.sep j k o' _ c hj hkσ (by rw[<-GN (hm.objs j o' hj) hle];exact hbj) ?_);rw[<-GN (hm.objs k _ hkσ) hle,hbk0,hfl];exact AI _ (AU _ (AS _ hc)))
    refine⟨G1,hle,?_,[z],rfl,z,hv1,hz1,rfl⟩;have e3:=GD (ER σ [(k,none)]) [(self,some (Obj.dp (id2::q) lf ((show List (EA (id2::q) lf).T from xs).getD i (EA (id2::q) lf).dflt) (self+1) none true))] [(k,some (Obj.dp (id1::id2::q) lf xs (self+2) (some [i]) true))]
    have e4:ER σ ([(self,some (Obj.dp (id2::q) lf ((show List (EA (id2::q) lf).T from xs).getD i (EA (id2::q) lf).dflt) (self+1) none true))]++[(k,some (Obj.dp (id1::id2::q) lf xs (self+2) (some [i]) true))])=
     ER (ER (ER σ [(k,none)]) [(k,some (Obj.dp (id1::id2::q) lf xs (self+2) (some [i]) true))]) [(self,some (Obj.dp (id2::q) lf ((show List (EA (id2::q) lf).T from xs).getD i (EA (id2::q) lf).dflt) (self+1) none true))]:=by
     rw[<-e3];funext j;rw[GD,GD,FX,FX,FX,FX,FX];by_cases e:j=self
     ·rw[if_pos e,if_pos e]
     ·rw[if_neg e,if_neg e];by_cases e':j=k
      ·rw[if_pos e',if_pos e']
      ·rw[if_neg e',if_neg e',if_neg e']
    show MemS P fr (HV free self) (ER σ ([(self,_)]++[(k,_)])) w G1;rw[e4];refine m07.shrink fun j hj=>?_
    have hin:∀d,d<8->j≠self+d:=fun d hd e=>by
     have h5:=hj.2;rw[e]at h5
     have:IY self (self+d)=true:=by
      simp only[IY,Nat.blt,A5];exact⟨C9 (by omega),C9 (by omega)⟩
     rw[this]at h5;cases h5
    exact⟨⟨⟨hj.1,hin 2 (by omega)⟩,hin 1 (by omega)⟩,hin 0 (by omega)⟩
  ·cases hr
 ·cases hr
theorem AAa{t:Ty}{id:Nat}(hl:Lay P t id)(hm:MemS P fr free σ w G)(hσ:∀k o,σ' k=some o->σ k=some o)(hself1:free (self+1)){s sv:SV}{v vx:Value}{r:OpRes}{u:Upd}
 (hr:YH σ' self t sv s=some r)(hu:Gives r u)(hs:SR P w G s v)(hsv:SR P w G sv vx):∃w',(Instr.storeAt id v vx).run P w=.ok () w'/\Res P fr free self σ w G u undef w':=by
 unfold YH at hr;split at hr
 ·rename_i k g i u0;split at hr
  ·rename_i id1 id2 q lf xs gk hh hk;cases hb:(Nat.beq g 0&&((EA (id2::q) lf).same t && !(FD k (FL sv))))with
   |false=>rw[hb]at hr;cases hr
   |true=>
    rw[hb]at hr;simp only[A5,BQ]at hb;have e1:=A3 hb.1;have e2:=Ty.same_eq hb.2.1;have hkk:k ∉ FL sv:=fun h=>by rw[O5.2 h]at hb;exact absurd hb.2.2 (by simp)
    subst e1 e2;simp only[AA]at hr;split at hr
    ·rename_i y hy;cases hr;obtain⟨x0,hx0,rfl⟩:=hu.may_inv
     have hho:iX i hh=true:=by
      cases h:iX i hh with
      |true=>rfl
      |false=>rw[h]at hx0;cases hx0
     have hkσ:=hσ _ _ hk;obtain⟨h0,hety,v',us,bs,k1,k2,k3,k4,k5⟩:=DpOK.inv (hm.objs _ _ hkσ);obtain⟨b,o,len,cap,e',o2,p1,p2,p3,p4,p5,rfl⟩:=N5 hs;rw[k1]at p1;cases p1;rw[hety]at p2;cases p2;rw[ZA]at p4;cases p4;obtain⟨cells,bss,rfl,q1,q2,q3,q4,q5,q6,q7,rfl,q9⟩:=k5.three (xs:=xs) h0 rfl;have hsub:MemS P fr free σ' w G:=hm.sub hσ
     have hsv1:CR P w G sv [vx]:=hsv.one (by
      intro t y e;subst e;exact absurd hy (by simp[KB]))
     obtain⟨bc,⟨_,d1⟩,d2,d3⟩:=Z8 hsub hy hsv1
     have d3:∀c∈bc,∃j∈FL sv,∃ob,σ j=some ob/\Bk G j ob c:=fun c hc=>
      let ⟨j,h1,ob,h2,h3⟩:=d3 c hc
      ⟨j,h1,ob,hσ _ _ h2,h3⟩
     have hbk0:∀c,Bk G k (.dp (id1::id2::q) lf xs gk hh true) c<->c∈b::bss.flatten:=fun c=>LW k2 k3
     have hbc:∀c∈bc,c ∉ b::bss.flatten:=fun c hc h=>by
      obtain⟨j,j1,ob,j2,j3⟩:=d3 c hc;exact hkk ((hm.sep j k ob _ c j2 hkσ j3 ((hbk0 c).2 h))▸j1)
     have hsz:(EA (id2::q) lf).sz=1:=rfl;have hd1:=d1;obtain⟨vx',hvx,hone,_⟩:=hd1;have hvx:vx=vx':=A8.1 hvx;subst hvx;have hmul:(i+1)*(EA (id2::q) lf).sz<=cap*(EA (id2::q) lf).sz:=B2 _ (by have:=q1.1;omega)
     have hpos:o+i*(EA (id2::q) lf).sz+1<=cells.size:=by
      rw[CE]at hmul;omega
     obtain⟨fz,hb0,hfz⟩:=(show RowAt w b cells id1 from q2);have hcl:vx.cells.toList=[vx]:=by rw[UK hone]
     have hrun:(Instr.storeAt id (.pointer (some ⟨b,o+i*(EA (id2::q) lf).sz+0,none⟩)) vx).run P w=.ok () (w.setRow b (FB cells.toList (o+i*(EA (id2::q) lf).sz) [vx]).toArray):=by
      simp only[Instr.storeAt,Sem.run_bind,Instr.sureAddr,Sem.run_pure,Result.andThen_ok,D3];have:=jR hl (b:=b) (o:=o+i*(EA (id2::q) lf).sz) (v:=vx) q2 (by rw[hcl];rfl) (by rw[hcl];simpa using hone) (by rw[hsz]at hpos ⊢;exact hpos);rw[hcl]at this;exact this
     refine⟨_,hrun,?_⟩;have hi:i<bss.length:=by rw[q7];exact p3
     have hfl:=kF hi;have hfs:=ZE (c:=bc) hi;have hnd:=B9.1 k4;have hnd1:=hnd.2;rw[hfl]at hnd1;have hnd2:=BD.1 hnd1;have hnd3:=BD.1 hnd2.2.1;have hinl:∀c,c∈(bss.take i).flatten->c∈bss.flatten:=fun c hc=>by rw[hfl];exact AS _ hc
     have hinr:∀c,c∈(bss.drop (i+1)).flatten->c∈bss.flatten:=fun c hc=>by rw[hfl];exact AU _ (AU _ hc)
     have hnds:(b::(bss.set i bc).flatten).Nodup:=by
      rw[hfs];refine B9.2 ⟨fun h=>?_,BD.2 ⟨hnd2.1,BD.2 ⟨d2,hnd3.2.1,fun x hx y hy e=>?_⟩,fun x hx y hy e=>?_⟩⟩
      ·rcases AR.1 h with h|h
       ·exact hnd.1 (hinl b h)
       ·rcases AR.1 h with h|h
        ·exact hbc b h AN
        ·exact hnd.1 (hinr b h)
      ·subst e;exact hbc x hx (AI _ (hinr x hy))
      ·subst e;rcases AR.1 hy with h|h
       ·exact hbc x h (AI _ (hinl x hx))
       ·exact hnd2.2.2 x hx x (AU _ h) rfl
     have hmem:∀c,c∈b::(bss.set i bc).flatten->c=b\/c∈bss.flatten\/c∈bc:=by
      intro c hc;rcases B6.1 hc with h|h
      ·exact .inl h
      ·rw[hfs]at h;rcases AR.1 h with h|h
       ·exact .inr (.inl (hinl c h))
       ·rcases AR.1 h with h|h
        ·exact .inr (.inr h)
        ·exact .inr (.inl (hinr c h))
     have m0:MemS P fr free (ER σ (gone (FL sv))) w G:=hm.sub fun j o h=>by
      rw[KH]at h;by_cases e:j∈FL sv
      ·rw[if_pos e]at h;cases h
      ·rw[if_neg e]at h;exact h
     have hs0:∀j ob,ER σ (gone (FL sv)) j=some ob->j ∉ FL sv/\σ j=some ob:=by
      intro j ob h;rw[KH]at h;by_cases e:j∈FL sv
      ·rw[if_pos e]at h;cases h
      ·rw[if_neg e]at h;exact⟨e,h⟩
     obtain⟨g0,m1⟩:=m0.ghost hself1 (.tuple (List.map HM (b::(bss.set i bc).flatten)).toArray);let G0:Gh:=G.addVal (self+1) 0 (.tuple (List.map HM (b::(bss.set i bc).flatten)).toArray)
     have m1:MemS P fr (fun j=>free j/\j≠self+1) (ER σ (gone (FL sv))) w G0:=m1;have g0:GLe w G w G0:=g0;have hus:G0.val (self+1) 0=some (.tuple (List.map HM (b::(bss.set i bc).flatten)).toArray):=by simp[G0,Gh.addVal]
     let w1:World:=w.setRow b (FB cells.toList (o+i*(EA (id2::q) lf).sz) [vx]).toArray
     have hw1:∀b',b'≠b→w1.heap[b']?=w.heap[b']?:=fun b' h=>setRow_other w b b' _ h;have hle:GLe w G0 w1 G0:=GLe.of_heap (b:=b) hw1 q5 q6;have hspl:(FB cells.toList (o+i*(EA (id2::q) lf).sz) [vx]).length=cells.size:=by rw[JZ (by simp;omega)];simp
     have hbin:∀c,c∈bss.flatten->c≠b:=fun c hc e=>hnd.1 (e▸hc);have hext:Ext w G.im w1 G0.im:=g0.ext.trans hle.ext
     have hobj:DpOK fr w1 G0 k (id1::id2::q) lf ((show List (EA (id2::q) lf).T from xs).set i y) (self+1) none true:=by
      refine ⟨(by intro h; cases h),g0.ety _ _ hety,_,_,b::(bss.set i bc).flatten,g0.val _ _ _ k1,hus,by simp,hnds,⟨_,rfl,rfl,.inr (.inr ⟨(by intro h; cases h),b,o,cap,_,bss.set i bc,by rw [AF],
       by rw[AF];exact q1,q2.set (by rw[BH,hspl]),by rw[BH,hspl];exact q3,q4,q5,q6,by rw[AF,AF];exact q7,rfl,fun j x hx=>?_⟩)⟩,trivial⟩
      rw[US,kG hi];by_cases e:i=j
      ·subst e;rw[if_pos rfl];rw[CL p3]at hx;cases hx
       have hcut:((FB cells.toList (o+i*(EA (id2::q) lf).sz) [vx]).drop (o+i*(EA (id2::q) lf).sz)).take (EA (id2::q) lf).sz=[vx]:=by
        rw[hsz];have:=wM (cs:=cells.toList) (ds:=[vx]) (a:=o+i*1) (n:=1) (o:=0) (by simp;rw[hsz]at hpos;omega) (by simp);rw[D3]at this;rw[this];unfold FB;simp
       show DV fr.owned w1 G0.im lf (id2::q) y none (((FB cells.toList (o+i*(EA (id2::q) lf).sz) [vx]).toArray.toList.drop (o+i*(EA (id2::q) lf).sz)).take (EA (id2::q) lf).sz) bc;rw[DW,hcut];exact d1.keep hext fun c hc=>⟨hw1 c fun e=>hbc c hc (e▸AN),fun _ h=>h,fun h=>h⟩
      ·rw[if_neg e];rw[D0 e]at hx;have hc:=q9 j x hx
       have hhole:RL hh j=none:=by
        cases hh with
        |none=>rfl
        |some p=>
         cases p with
         |nil=>exact absurd rfl h0
         |cons a p=>
          cases p with
          |cons _ _=>cases hho
          |nil=>
           have ha:=A3 hho;subst ha;rw[kH,if_neg e]
       rw[hhole]at hc;show DV fr.owned w1 G0.im lf (id2::q) x none (((FB cells.toList (o+i*(EA (id2::q) lf).sz) [vx]).toArray.toList.drop (o+j*(EA (id2::q) lf).sz)).take (EA (id2::q) lf).sz) (bss.getD j []);rw[DW,wO (by simp;omega) (by rw[hsz];simp;omega)];exact hc.keep hext fun c hc=>⟨hw1 c (hbin c (UI hc)),fun _ h=>h,fun h=>h⟩
     have hbk1:∀c,Bk G0 k (.dp (id1::id2::q) lf ((show List (EA (id2::q) lf).T from xs).set i y) (self+1) none true) c<->c∈b::(bss.set i bc).flatten:=fun c=>LW hus (by simp)
     have m2:=m1.change (w':=w1) (G':=G0) (b:=b) (k:=k) (o':=some (.dp (id1::id2::q) lf ((show List (EA (id2::q) lf).T from xs).set i y) (self+1) none true)) (free':=HV free self) hle
      (fun j ob hj hob hbj=>by
       obtain⟨_,hob⟩:=hs0 j ob hob;rw[GN (hm.objs j ob hob) g0]at hbj;exact hj (hm.sep j k ob _ b hob hkσ hbj ((hbk0 b).2 AN)))
      (fun b' _ hne=>hw1 b' hne) (by simp[w1]) (by simpa[w1]using q2.lt) q4 (fun _ _ h=>.inl h) (fun _ h=>.inl h) rfl rfl rfl
      (fun ob hob=>by
       cases hob;refine⟨hobj,fun c hc=>?_⟩;rw[hbk1]at hc;rcases hmem c hc with h|h|h
       ·exact .inl h
       ·refine .inr fun j oj hj hoj hbj=>?_;obtain⟨_,hoj⟩:=hs0 j oj hoj;rw[GN (hm.objs j oj hoj) g0]at hbj;exact hj (hm.sep j k oj _ c hoj hkσ hbj ((hbk0 c).2 (AI _ h)))
       ·refine .inr fun j oj hj hoj hbj=>?_;obtain⟨hjn,hoj⟩:=hs0 j oj hoj;rw[GN (hm.objs j oj hoj) g0]at hbj;obtain⟨j',j1,ob',j2,j3⟩:=d3 c h;exact hjn ((hm.sep j j' oj ob' c hoj j2 hbj j3)▸j1))
      (fun j hj=>by
       have hf:=hm.fresh j hj.1
       have hj1:j≠self+1:=fun e=>by
        have:=hj.2;rw[e,AAU]at this;cases this
       exact⟨fun e=>(by rw[e,hkσ]at hf;cases hf.1),⟨hj.1,hj1⟩,hf.2.1,hf.2.2.1,fun g=>by simp only[G0,Gh.addVal,hj1,DY,CK];exact hf.2.2.2 g⟩)
     refine⟨G0,g0.trans hle,?_,_,rfl,trivial⟩;have e3:=GD σ [(k,some (Obj.dp (id1::id2::q) lf ((show List (EA (id2::q) lf).T from xs).set i y) (self+1) none true))] (gone (FL sv));show MemS P fr (HV free self) (ER σ ([(k,_)]++gone (FL sv))) w1 G0;rw[e3];exact m2
    ·cases hr
  ·cases hr
 ·cases hr
def Hds(ow:Nat->Prop)(w:World)(I:Im)(t:Ty)(r:List Nat)(xs:List (EA r t).T)(bss:List (List Nat))(cs:List Value):Prop:=
 ∀(i:Nat) (x:(EA r t).T),xs[i]?=some x->∃v,cs[i]?=some v/\v.oneCell'=true/\DV ow w I t r x none [v] (bss.getD i [])
theorem kJ{l:List Value}{i:Nat}{v:Value}:(l.drop i).take 1=[v]<->l[i]?=some v:=by
 constructor
 ·intro h;have:=congrArg (·[0]?) h;simpa[AX]using this
 ·intro h;have hlt:i<l.length:=(AE.1 h).1;rw[CM hlt];rw[A1 hlt]at h;simp only[List.take_succ_cons,DE];rw[A4 h]
theorem DV.inv2{ow:Nat->Prop}{id id2:Nat}{q:List Nat}{t:Ty}{xs:List (EA (id2::q) t).T}{v:Value}{bs:List Nat}(hd:DV ow w I t (id::id2::q) xs none [v] bs):
 (v=.slice none 0 0/\xs=[]/\bs=[])\/∃b o cap cells bss,v=.slice (some ⟨b,o,none⟩) xs.length cap/\HE xs.length cap/\RowAt w b cells id/\o+cap<=cells.size/\ow b/\(∀c,¬I.cell b c)/\¬I.obj b/\List.length bss=xs.length/\bs=b::List.flatten bss/\
  Hds ow w I t (id2::q) xs bss (cells.toList.drop o):=by
 obtain⟨v',h0,h1,h2⟩:=hd;have e:v=v':=A8.1 h0;subst e;rcases h2 with⟨h2,_⟩|⟨_,h2,h3,h4⟩|⟨_,b,o,cap,cells,bss,h3,q1,q2,q3,q4,q5,q6,q7,q8,q9⟩
 ·cases h2
 ·exact .inl ⟨h2,h3,h4⟩
 ·refine .inr ⟨b,o,cap,cells,bss,h3,q1,q2,by have:(EA (id2::q) t).sz=1:=rfl;rw[this]at q3;omega,q4,q5,q6,q7,q8,fun i x hx=>?_⟩;have:=q9 i x hx;rw[US]at this;have h5:=this;obtain⟨z,hz,hz1,_⟩:=h5;rw[hz]at this;refine⟨z,?_,hz1,this⟩;have hz:(cells.toList.drop (o+i*1)).take 1=[z]:=hz;rw[kJ]at hz;rw[A_];simpa using hz
theorem DV.mk2{ow:Nat->Prop}{id id2 b o cap:Nat}{q:List Nat}{t:Ty}{xs:List (EA (id2::q) t).T}{cells:Array Value}{bss:List (List Nat)}(q1:HE xs.length cap)(q2:RowAt w b cells id)(q3:o+cap<=cells.size)(q4:ow b)
 (q5:∀c,¬I.cell b c)(q6:¬I.obj b)(q7:List.length bss=xs.length)(q9:Hds ow w I t (id2::q) xs bss (cells.toList.drop o)):
 DV ow w I t (id::id2::q) xs none [.slice (some ⟨b,o,none⟩) xs.length cap] (b::List.flatten bss):=by
 refine⟨_,rfl,rfl,.inr (.inr ⟨(by intro h;cases h),b,o,cap,cells,bss,rfl,q1,q2,?_,q4,q5,q6,q7,rfl,fun i x hx=>?_⟩)⟩
 ·have:(EA (id2::q) t).sz=1:=rfl;rw[this];omega
 ·obtain⟨v,h1,h2,h3⟩:=q9 i x hx;rw[US];rw[A_]at h1
  have:(cells.toList.drop (o+i*(EA (id2::q) t).sz)).take (EA (id2::q) t).sz=[v]:=by
   show(cells.toList.drop (o+i*1)).take 1=[v];rw[kJ,DF];exact h1
  rw[this];exact h3
theorem Hds.keep{ow:Nat->Prop}{I':Im}{t:Ty}{r:List Nat}{xs:List (EA r t).T}{bss:List (List Nat)}{cs:List Value}(h:Hds ow w I t r xs bss cs)(e:Ext w I w' I')
 (hb:∀b∈bss.flatten,w'.heap[b]?=w.heap[b]? /\(∀off,I'.cell b off->I.cell b off)/\(I'.obj b->I.obj b)):Hds ow w' I' t r xs bss cs:=fun i x hx=>by
 obtain⟨v,h1,h2,h3⟩:=h i x hx;exact⟨v,h1,h2,h3.keep e fun b hb'=>hb b (UI hb')⟩
theorem Hds.cells{ow:Nat->Prop}{t:Ty}{r:List Nat}{xs:List (EA r t).T}{bss:List (List Nat)}{cs ds:List Value}(h:Hds ow w I t r xs bss cs)(e:∀i,i<xs.length->ds[i]?=cs[i]?):Hds ow w I t r xs bss ds:=fun i x hx=>by
 obtain⟨v,h1,h2,h3⟩:=h i x hx;exact⟨v,by rw[e i (AE.1 hx).1];exact h1,h2,h3⟩
theorem Hds.append{ow:Nat->Prop}{t:Ty}{r:List Nat}{xs ys:List (EA r t).T}{bss css:List (List Nat)}{cs ds es:List Value}(h1:Hds ow w I t r xs bss cs)(h2:Hds ow w I t r ys css ds)(hl:bss.length=xs.length)
 (e1:∀i,i<xs.length->es[i]?=cs[i]?)(e2:∀i,i<ys.length->es[xs.length+i]?=ds[i]?):Hds ow w I t r (xs++ys) (bss++css) es:=fun i x hx=>by
 rcases CG i xs.length with hlt|hge
 ·rw[AW hlt]at hx;obtain⟨v,a,b,c⟩:=h1 i x hx;refine⟨v,by rw[e1 i hlt];exact a,b,?_⟩;rw[A2,AW (by omega),<-A2];exact c
 ·rw[AY hge]at hx;obtain⟨v,a,b,c⟩:=h2 _ x hx;have hlt:=(AE.1 hx).1;refine⟨v,?_,b,?_⟩
  ·have:=e2 (i-xs.length) hlt;rw[show xs.length+(i-xs.length)=i by omega]at this;rw[this];exact a
  ·rw[A2,AY (by omega),hl,<-A2];exact c
theorem MemS.gone(hm:MemS P fr free σ w G)(ks:List Nat):MemS P fr free (ER σ (gone ks)) w G:=hm.sub fun j o h=>by
 rw[KH]at h;by_cases e:j∈ks
 ·rw[if_pos e]at h;cases h
 ·rw[if_neg e]at h;exact h
theorem x_{ks:List Nat}{j:Nat}{o:Obj}(h:ER σ (gone ks) j=some o):j ∉ ks/\σ j=some o:=by
 rw[KH]at h;by_cases e:j∈ks
 ·rw[if_pos e]at h;cases h
 ·rw[if_neg e]at h;exact⟨e,h⟩
theorem AAb{t:Ty}{id n:Nat}{ids:List Nat}(hl:Lay P t id)(hm:MemS P fr free σ w G)(hσ:∀k o,σ' k=some o->σ k=some o)(hself:free self)(hself1:free (self+1)){s:SV}{vx:Value}
 {r:OpRes}{u:Upd}(hr:OS σ' self n ids t s=some r)(hu:Gives r u)(hids:∃l,ids=(match P.underlying id with|some (.slice x)=>x|_=>0)::l)(hs:SR P w G s vx):
 ∃v w',(Instr.buildSlice id 1 #[(0,vx)]).run P w=.ok v w'/\Res P fr free self σ w G u v w':=by
 unfold OS at hr;split at hr
 ·rename_i el id2 q;split at hr
  ·rename_i lf _;cases hsm:(EA (el::id2::q) lf).same t with
   |false=>rw[hsm]at hr;cases hr
   |true=>
    rw[hsm]at hr;have ht:=Ty.same_eq hsm;subst ht;simp only[AA]at hr;split at hr
    ·rename_i y hy;cases hr;rw[hu.pure_inv];have hl:Lay P (.slice (EA (id2::q) lf)) id:=hl;obtain⟨el',hun,hle,hpos⟩:=hl.slice;obtain⟨l,hids⟩:=hids;rw[hun]at hids;injection hids with hel _;have hel:el=el':=hel;subst hel;obtain⟨i,h1,h2,h3,h4⟩:=kI (P:=P) (e:=EA q lf) hle
     have hs1:CR P w G s [vx]:=hs.one (by
      intro t y e;subst e;exact absurd hy (by simp[KB]))
     obtain⟨bc,⟨_,d1⟩,d2,d3⟩:=Z8 (hm.sub hσ) hy hs1
     have d3:∀c∈bc,∃j∈FL s,∃ob,σ j=some ob/\Bk G j ob c:=fun c hc=>
      let ⟨j,h1,ob,h2,h3⟩:=d3 c hc
      ⟨j,h1,ob,hσ _ _ h2,h3⟩
     have hone:vx.oneCell'=true:=by
      obtain⟨v',e1,e2,_⟩:=d1;rw[A8.1 e1];exact e2
     have hcl:vx.cells= #[vx]:=UK hone
     have hrun:=run_buildSlice (P:=P) w id el 1 #[(0,vx)] #[vx] i _ hun h1 h4 (by rw [h2]; decide) (by rw [h2]; decide) (by
      rw[h2];simp[Instr.fill,hcl];apply C8;simp)
     obtain ⟨hle1,m1⟩:=hm.grow1 (w':=w.alloc (.cells #[vx] el)) (fun b' h=>by
      show(w.heap.push _)[b']?=_;rw[CU h,B3 h]) (by show _<=(w.heap.push _).size;simp) rfl rfl rfl
     have hrow:RowAt (w.alloc (.cells #[vx] el)) w.heap.size #[vx] el:=
      ⟨(0,0),by show(w.heap.push _)[_]?=_;rw[CQ],.inl (AM _)⟩
     have hnew:∀c∈bc,c≠w.heap.size:=fun c hc e=>by
      obtain⟨j,_,ob,j2,j3⟩:=d3 c hc;have:=HW (hm.objs j ob j2) j3;omega
     have hdv:DV fr.owned (w.alloc (.cells #[vx] el)) G.im lf (el::id2::q) ([y]:List (EA (id2::q) lf).T) none [.slice (some ⟨w.heap.size,0,none⟩) 1 1] (w.heap.size::List.flatten [bc]):=
      DV.mk2 (xs:=[y]) (cells:=#[vx]) (bss:=[bc]) ⟨AM _,by show 1<=281474976710656; decide⟩ hrow (by simp) hm.owned_new (fun c h=>absurd (hm.after.inC _ _ h) (AH _)) (fun h=>absurd (hm.after.inO _ h) (AH _)) rfl (fun i x hx=>by
       cases i with
       |zero=>
        cases hx
        exact ⟨vx,rfl,hone,d1.keep hle1.ext fun b hb=>⟨by
         show(w.heap.push _)[b]?=_;have:=hnew b hb;obtain⟨j,_,ob,j2,j3⟩:=d3 b hb;have:=HW (hm.objs j ob j2) j3;rw[CU this,B3 this],fun _ h=>h,fun h=>h⟩⟩
       |succ i=>simp at hx)
     obtain ⟨G',g2,m2,m3⟩:=(m1.gone (FL s)).mk_dp hself hself1 (id:=el) (r:=id2::q) (t:=lf) (x:=([y]:List (EA (id2::q) lf).T)) hdv (by
      simp only[List.flatten_cons,List.flatten_nil,BZ];exact B9.2 ⟨fun h=>hnew _ h rfl,d2⟩)
      (fun b' hb' j o hj hbj=>by
       obtain⟨hjn,hj⟩:=x_ hj;simp only[List.flatten_cons,List.flatten_nil,BZ]at hb';rcases B6.1 hb' with rfl|hb'
       ·exact absurd (HW (hm.objs j o hj) hbj) (AH _)
       ·obtain⟨j',j1,ob',j2,j3⟩:=d3 b' hb';exact hjn ((hm.sep j j' o ob' b' hj j2 hbj j3)▸j1))
     refine⟨_,_,hrun,G',hle1.trans g2,?_,m3⟩;have e3:=GD σ [(self,some (Obj.dp (el::id2::q) lf ([y]:List (EA (id2::q) lf).T) (self+1) none true))] (gone (FL s));show MemS P fr (HV free self) (ER σ ([(self,_)]++gone (FL s))) _ G';rw[e3];exact m2
    ·cases hr
  ·cases hr
 ·cases hr
theorem AAc{e':Ty}{id id2 el ty k gk:Nat}{q:List Nat}(hl:Lay P (.slice (EA (id2::q) e')) id)(hel:∀x,P.underlying id=some (.slice x)->el=x)(hm:MemS P fr free σ w G)(hσ:∀k o,σ' k=some o->σ k=some o)(hself:free self)(hself1:free (self+1))
 {xs ys zs:List (EA (id2::q) e').T}{v vx:Value}{sx:SV}(hkσ:σ k=some (.dp (el::id2::q) e' xs gk none true))(hs:SR P w G (.obj k 0) v)(hsx:SR P w G sx vx)(hkk:k ∉ FL sx)
 (hy:KB σ' (el::id2::q) e' sx=some ys)(hz:app? 24 xs ys=some zs):
 ∃z w',(Builtin.append_ #[id,id] ty #[v,vx]).run P w=.ok z w'/\Res P fr free self σ w G ⟨.obj self 0,(self,some (.dp (el::id2::q) e' zs (self+1) none true))::(k,none)::gone (FL sx)⟩ z w':=by
 have hnk:=ZF hm hkσ;obtain⟨_,hety,v',us,bs,k1,k2,k3,k4,k5⟩:=DpOK.inv (hm.objs _ _ hkσ);have hv:=ZD hs;rw[k1]at hv;cases hv;have hbk:∀b,Bk G k (.dp (el::id2::q) e' xs gk none true) b<->b∈bs:=fun b=>LW k2 k3;obtain⟨el',hun,hle,hpos⟩:=hl.slice;have:=hel _ hun;subst this;obtain⟨hB,hzs⟩:=UM hz;subst hzs;obtain⟨i,h1,h2',h3,h4⟩:=kI (P:=P) (e:=EA q e') hle
 have hs1:CR P w G sx [vx]:=hsx.one (by
  intro t y e;subst e;exact absurd hy (by simp[KB]))
 obtain⟨bc,⟨_,d1⟩,d2,d3⟩:=Z8 (hm.sub hσ) hy hs1
 have d3:∀c∈bc,∃j∈FL sx,∃ob,σ j=some ob/\Bk G j ob c:=fun c hc=>
  let ⟨j,h1,ob,h2,h3⟩:=d3 c hc
  ⟨j,h1,ob,hσ _ _ h2,h3⟩
 have hbc:∀c∈bc,c ∉ bs:=fun c hc h=>by
  obtain⟨j,j1,ob,j2,j3⟩:=d3 c hc;exact hkk ((hm.sep j k ob _ c j2 hkσ j3 ((hbk c).2 h))▸j1)
 have hblt:∀c∈bc,c<w.heap.size:=fun c hc=>let ⟨j,_,ob,j2,j3⟩:=d3 c hc;HW (hm.objs j ob j2) j3
 obtain⟨news,css,s1,s2,s3,s4,s5,hcn⟩:∃(news:List Value) (css:List (List Nat)),Src P 1 id vx ys.length news w/\news.length=ys.length/\Hds fr.owned w G.im e' (id2::q) ys css news/\css.length=ys.length/\(∀c∈css.flatten,c∈bc)/\css.flatten.Nodup:=by
  rcases d1.inv2 with⟨rfl,hy0,_⟩|⟨b2,o2,cap2,cells2,css,rfl,p1,p2,p3,p4,p5,p6,p7,rfl,p9⟩
  ·subst hy0;exact⟨[],[],Src.ofNil w hun 0,rfl,fun i x hx=>by simp at hx,rfl,fun c hc=>(by cases hc),B8⟩
  ·have hlen:((cells2.toList.drop o2).take ys.length).length=ys.length:=by
    have:=p1.1;simp;omega
   refine⟨(cells2.toList.drop o2).take ys.length,css,?_,hlen,?_,p7,fun c hc=>AI _ hc,(B9.1 d2).2⟩
   ·refine Src.ofSlice w hun _ _ _ _ (by rw[hlen,DF]) (fun j u hj=>?_) (fun u hu=>?_)
    ·rw[AX]at hj;split at hj
     ·rw[A_]at hj;rw[Addr.add_lit,p2.cell];exact hj
     ·cases hj
    ·obtain⟨a,ha⟩:=D5 hu;have hlt:a<ys.length:=by have:=(AE.1 ha).1;omega
     obtain⟨v0,e1,e2,_⟩:=p9 a _ (A1 hlt);rw[AX,if_pos hlt,e1]at ha;cases ha;exact e2
   ·exact p9.cells fun a ha=>by rw[AX,if_pos ha]
 have fin:∀{w':World} {b o cap:Nat} {cells:Array Value} {bss:List (List Nat)},(∀j ob,j≠k->σ j=some ob->¬Bk G j ob b)->(∀c,¬G.im.cell b c)->¬G.im.obj b->fr.owned b->b ∉ bc->(b::bss.flatten).Nodup->(∀c∈bss.flatten,c∈bs)->
  (∀b',b'<w.heap.size->b'≠b->w'.heap[b']?=w.heap[b']?)->w.heap.size<=w'.heap.size->w'.os=w.os->w'.tape=w.tape->w'.output=w.output->
  HE (xs++ys).length cap->RowAt w' b cells el->o+cap<=cells.size->bss.length=xs.length->Hds fr.owned w G.im e' (id2::q) (xs++ys) (bss++css) (cells.toList.drop o)->
  Res P fr free self σ w G ⟨.obj self 0,(self,some (.dp (el::id2::q) e' (xs++ys) (self+1) none true))::(k,none)::gone (FL sx)⟩ (.slice (some ⟨b,o,none⟩) (xs++ys).length cap) w':=by
  intro w' b o cap cells bss a1 a2 a3 a4 a0 a01 a02 a5 a6 a7 a8 a9 a10 a11 a12 a14 a13;obtain⟨g1,m1⟩:=hm.touch (w':=w') hnk a1 a2 a3 a4 a5 a6 a11.lt a7 a8 a9;have hfl:(bss++css).flatten=bss.flatten++css.flatten:=List.flatten_append
  obtain ⟨G',g2,m2,m3⟩:=(m1.gone (FL sx)).mk_dp hself hself1 (id:=el) (r:=id2::q) (t:=e') (x:=(xs++ys:List (EA (id2::q) e').T)) (DV.mk2 (xs:=xs++ys) (bss:=bss++css) a10 a11 a12 a4 a2 a3 (by rw [A7,A7,a14,s4]) (a13.keep g1.ext fun c hc=>by
   rw[hfl]at hc
   have hne:c≠b/\c<w.heap.size:=by
    rcases AR.1 hc with h|h
    ·exact⟨fun e=>(B9.1 a01).1 (e▸h),HW (hm.objs k _ hkσ) ((hbk c).2 (a02 c h))⟩
    ·exact⟨fun e=>a0 (e▸s5 c h),hblt c (s5 c h)⟩
   exact⟨a5 c hne.2 hne.1,fun _ h=>h,fun h=>h⟩)) (by
   rw[hfl];obtain⟨n1,n2⟩:=B9.1 a01;refine B9.2 ⟨fun h=>?_,BD.2 ⟨n2,hcn,fun x hx y hy e=>?_⟩⟩
   ·rcases AR.1 h with h|h
    ·exact n1 h
    ·exact a0 (s5 _ h)
   ·subst e;exact hbc x (s5 x hy) (a02 x hx)) (fun b' hb' j ob hj hbj=>by
   obtain⟨hjn,hj⟩:=x_ hj;rw[FX]at hj;by_cases e:j=k
   ·rw[if_pos e]at hj;cases hj
   ·rw[if_neg e]at hj;rcases B6.1 hb' with rfl|hb'
    ·exact a1 j ob e hj hbj
    ·rw[hfl]at hb';rcases AR.1 hb' with h|h
     ·exact e (hm.sep j k ob _ b' hj hkσ hbj ((hbk b').2 (a02 b' h)))
     ·obtain⟨j',j1,ob',j2,j3⟩:=d3 b' (s5 b' h);exact hjn ((hm.sep j j' ob ob' b' hj j2 hbj j3)▸j1))
  refine⟨G',g1.trans g2,?_,m3⟩
  have e4:ER σ ((self,some (Obj.dp (el::id2::q) e' (xs++ys:List (EA (id2::q) e').T) (self+1) none true))::(k,none)::gone (FL sx))=
   ER (ER (ER σ [(k,none)]) (gone (FL sx))) [(self,some (Obj.dp (el::id2::q) e' (xs++ys:List (EA (id2::q) e').T) (self+1) none true))]:=by
   funext a;rw[show(((self,some (Obj.dp (el::id2::q) e' (xs++ys:List (EA (id2::q) e').T) (self+1) none true))::(k,none)::gone (FL sx)):List (Nat×Option Obj))=[(self,some (Obj.dp (el::id2::q) e' (xs++ys:List (EA (id2::q) e').T) (self+1) none true))]++([(k,none)]++gone (FL sx))from rfl,GD,GD,FX,FX,FX,KH,KH,FX];by_cases e1:a=self
   ·rw[if_pos e1,if_pos e1]
   ·rw[if_neg e1,if_neg e1];by_cases e2:a=k
    ·rw[if_pos e2,if_pos e2];split<;>rfl
    ·rw[if_neg e2,if_neg e2]
  show MemS P fr (HV free self) (ER σ ((self,_)::(k,none)::gone (FL sx))) w' G';rw[e4];exact m2
 have hnew:(∀j ob,j≠k->σ j=some ob->¬Bk G j ob w.heap.size)/\(∀c,¬G.im.cell w.heap.size c)/\¬G.im.obj w.heap.size:=
  ⟨fun j ob _ hj hbj=>absurd (HW (hm.objs j ob hj) hbj) (AH _),fun c h=>absurd (hm.after.inC _ _ h) (AH _),fun h=>absurd (hm.after.inO _ h) (AH _)⟩
 have hB':(xs.length+ys.length)*24<=70368744177664:=hB
 have grow:∀{base:Option Addr} {cap:Nat} {olds:List Value} {bss:List (List Nat)},cap<xs.length+ys.length->(Builtin.firstCells 1 xs.length (.slice base xs.length cap)).run P w.drew=.ok olds.toArray w.drew->
  olds.length=xs.length->Hds fr.owned w G.im e' (id2::q) xs bss olds->bss.length=xs.length->bss.flatten.Nodup->(∀c∈bss.flatten,c∈bs)->∃z w',(Builtin.append_ #[id,id] ty #[.slice base xs.length cap,vx]).run P w=.ok z w'/\
  Res P fr free self σ w G ⟨.obj self 0,(self,some (.dp (el::id2::q) e' (xs++ys) (self+1) none true))::(k,none)::gone (FL sx)⟩ z w':=by
  intro base cap olds bss hcap hold hol hor hbl hbn hbsub
  have hbig:(xs.length+ys.length)*i.bytes<=140737488355328:=by
   have:(xs.length+ys.length)*i.bytes<=(xs.length+ys.length)*24:=CC _ h3;omega
  have hrun:=run_append_grow_src w id id ty el i _ hun h1 h4 base xs.length cap olds (by rw[h2'];exact hold) vx ys.length news (by rw[h2'];exact s1) hcap (by omega) (growslice_fits hcap hbig);have hge:=grownCap_ge w (xs.length+ys.length) cap el;have hbslt:∀c∈bss.flatten,c<w.heap.size:=fun c hc=>HW (hm.objs k _ hkσ) ((hbk c).2 (hbsub c hc))
  have:=fin (w':=w.drew.alloc (.cells ((olds++news).toArray++Builtin.zeroCells (Value.slice none 0 0).cells (grownCap w (xs.length+ys.length) cap el-(xs.length+ys.length))) el)) (b:=w.heap.size) (o:=0)
   (cap:=grownCap w (xs.length+ys.length) cap el) (cells:=((olds++news).toArray++Builtin.zeroCells (Value.slice none 0 0).cells (grownCap w (xs.length+ys.length) cap el-(xs.length+ys.length)))) (bss:=bss)
   hnew.1 hnew.2.1 hnew.2.2 hm.owned_new (fun h=>absurd (hblt _ h) (AH _)) (B9.2 ⟨fun h=>absurd (hbslt _ h) (AH _),hbn⟩) hbsub
   (fun b' h _=>by show(w.heap.push _)[b']?=_;rw[CU h,B3 h]) (by show _<=(w.heap.push _).size;simp) rfl rfl rfl
   (by rw[A7];exact⟨hge,by omega⟩) ⟨(0,0),by show(w.heap.push _)[_]?=_;rw[CQ],.inl (AM _)⟩
   (by
    rw[BT,Array.size_append,size_zeroCells,BH,A7,hol,s2];have:(Value.slice none 0 0).cells.size=1:=rfl;rw[this];omega) hbl
   (by
    rw[DC,Array.toList_append];refine Hds.append hor s3 hbl (fun a ha=>?_) (fun a ha=>?_)
    ·rw[AW (by simp;omega)];simp only[DW];rw[AW (by omega)]
    ·rw[AW (by simp;omega)];simp only[DW];rw[AY (by omega),hol];rw[show xs.length+a-xs.length=a by omega])
  rw[A7]at this;exact⟨_,_,hrun,this⟩
 rcases k5.inv2 with⟨rfl,hx0,hb0⟩|⟨b,o,cap,cells,bss,rfl,hcap,hrow,hsz,hown,hC,hO,hbl,hb0,hrows⟩
 ·subst hx0;by_cases h0:ys.length=0
  ·have hy0:ys=[]:=AT h0;subst hy0;have hn:news=[]:=AT s2;subst hn;have m0:=(hm.drop k).gone (FL sx);obtain⟨G',g2,m2,m3⟩:=m0.mk_dp hself hself1 (id:=el) (r:=id2::q) (t:=e') (x:=([]:List (EA (id2::q) e').T)) (v:=.slice none 0 0) (bs:=[]) ⟨_,rfl,rfl,.inr (.inl ⟨(by intro h;cases h),rfl,rfl,rfl⟩)⟩ B8 (fun b hb=>by cases hb);refine⟨.slice none 0 0,w,?_,G',g2,?_,m3⟩
   ·have hl1:=s1.len w;have hc1:=s1.cells;simp at hc1;rcases s1.kind with⟨e',hk⟩|hk<;>simp[Builtin.append_,run_underlying hun,run_underlying hk,sizeOf,typeInfo,h1,h2',hl1,hc1]
   ·have e4:ER σ ((self,some (Obj.dp (el::id2::q) e' ([]:List (EA (id2::q) e').T) (self+1) none true))::(k,none)::gone (FL sx))=
     ER (ER (ER σ [(k,none)]) (gone (FL sx))) [(self,some (Obj.dp (el::id2::q) e' ([]:List (EA (id2::q) e').T) (self+1) none true))]:=by
     funext a;rw[show(((self,some (Obj.dp (el::id2::q) e' ([]:List (EA (id2::q) e').T) (self+1) none true))::(k,none)::gone (FL sx)):List (Nat×Option Obj))=[(self,some (Obj.dp (el::id2::q) e' ([]:List (EA (id2::q) e').T) (self+1) none true))]++([(k,none)]++gone (FL sx))from rfl,GD,GD,FX,FX,FX,KH,KH,FX];by_cases e1:a=self
     ·rw[if_pos e1,if_pos e1]
     ·rw[if_neg e1,if_neg e1];by_cases e2:a=k
      ·rw[if_pos e2,if_pos e2];split<;>rfl
      ·rw[if_neg e2,if_neg e2]
    show MemS P fr (HV free self) (ER σ ((self,_)::(k,none)::gone (FL sx))) w G';rw[show(([]:List (EA (id2::q) e').T)++[])=[]from rfl,e4];exact m2
  ·exact grow (base:=none) (cap:=0) (olds:=[]) (bss:=[]) (by simp;omega) (run_firstCells_none _ _ _ _ _) (by simp) (fun i x hx=>by simp at hx) rfl B8 (fun c hc=>by cases hc)
 ·have hbin:∀j ob,j≠k->σ j=some ob->¬Bk G j ob b:=fun j ob hj ho hbj=>hj (hm.sep j k ob _ b ho hkσ hbj ((hbk b).2 (by rw[hb0];exact AN)));have hxc:=hcap.1;have hfull:o+xs.length<=cells.size:=by omega
  have hcell:∀o,w.cell? ⟨b,o,none⟩=cells.toList[o]?:=hrow.cell;have hnd0:=k4;rw[hb0]at hnd0;have hsubb:∀c∈bss.flatten,c∈bs:=fun c hc=>by rw[hb0];exact AI _ hc
  by_cases hroom:xs.length+ys.length<=cap
  ·have hfit:o+xs.length+news.length<=cells.size:=by rw[s2];omega
   obtain⟨fz,hb1,hfz⟩:=(show RowAt w b cells el from hrow);have hst:=UL P b (o+xs.length) el fz news 0 cells w hb1 hfz (by omega) s1.one
   have hrun:(Builtin.append_ #[id,id] ty #[.slice (some ⟨b,o,none⟩) xs.length cap,vx]).run P w=
    .ok (.slice (some ⟨b,o,none⟩) (xs.length+ys.length) cap) (w.setRow b (FB cells.toList (o+xs.length) news).toArray):=by
    have hl1:=s1.len w;have hc1:=s1.cells;simp only[D3]at hst;rcases s1.kind with⟨e',hk2⟩|hk2<;>simp[Builtin.append_,run_underlying hun,run_underlying hk2,sizeOf,typeInfo,h1,h2',hl1,hroom,hc1,Addr.add_lit,hst,FB]
   have hspl:(FB cells.toList (o+xs.length) news).length=cells.size:=by rw[JZ (by simpa using hfit)];simp
   have:=fin (w':=w.setRow b (FB cells.toList (o+xs.length) news).toArray) (b:=b) (o:=o) (cap:=cap) (cells:=(FB cells.toList (o+xs.length) news).toArray) (bss:=bss)
    hbin hC hO hown (fun h=>hbc b h (by rw[hb0];exact AN)) hnd0 hsubb (fun b' _ hne=>setRow_other w b b' _ hne) (by simp) rfl rfl rfl
    (by rw[A7];exact⟨hroom,by omega⟩) (hrow.set (by rw[BH,hspl])) (by rw[BH,hspl];exact hsz) hbl
    (by
     show Hds fr.owned w G.im e' (id2::q) (xs++ys) (bss++css) ((FB cells.toList (o+xs.length) news).drop o);rw[jS (by simpa using hfit)];refine Hds.append hrows s3 hbl (fun a ha=>?_) (fun a ha=>?_)
     ·unfold FB;rw[AW (by simp;omega),AX,if_pos ha]
     ·unfold FB;rw[AY (by simp;omega),AW (by simp;omega)]
      congr 1
      simp;omega)
   rw[A7]at this;exact⟨_,_,hrun,this⟩
  ·exact grow (base:=some ⟨b,o,none⟩) (cap:=cap) (olds:=(cells.toList.drop o).take xs.length) (bss:=bss) (by omega)
    (run_firstCells_some _ _ _ _ _ _ _ (by simp; omega) (fun j u hj=>by
     rw[World.cell?_drew,Addr.add_lit,hcell];rw[AX]at hj;split at hj
     ·rw[A_]at hj;exact hj
     ·cases hj)) (by simp;omega) (hrows.cells fun a ha=>by rw[AX,if_pos ha]) hbl (B9.1 hnd0).2 hsubb
theorem AAd{t:Ty}{id el ty:Nat}(hl:Lay P t id)(hel:∀x,P.underlying id=some (.slice x)->el=x)(hm:MemS P fr free σ w G)(hσ:∀k o,σ' k=some o->σ k=some o)(hself:free self)(hself1:free (self+1))
 {s sx:SV}{v vx:Value}{r:OpRes}{u:Upd}(hr:YE σ' self el t s sx=some r)(hu:Gives r u)(hs:SR P w G s v)(hsx:SR P w G sx vx):
 ∃z w',(Builtin.append_ #[id,id] ty #[v,vx]).run P w=.ok z w'/\Res P fr free self σ w G u z w':=by
 have ho:∀k o,σ' k=some o->ObjOK P fr w G k o:=fun k o h=>hm.objs k o (hσ k o h);unfold YE at hr;split at hr
 ·rename_i e k g;split at hr
  ·rename_i id' e' xs gk hk;cases hb:(Nat.beq g 0&&(Nat.beq el id'&&e'.same e))with
   |false=>rw[hb]at hr;cases hr
   |true=>
    rw[hb]at hr;simp only[AA]at hr;simp only[A5]at hb;have e1:=A3 hb.1;have e2:=A3 hb.2.1;have e3:=Ty.same_eq hb.2.2;subst e1 e2 e3;split at hr
    ·rename_i ys hys;cases hr;obtain⟨zs,hz,rfl⟩:=hu.may_inv;exact AAW (xs:=xs) hl hel hm hself hself1 (hσ _ _ hk) hs (Z7 hl (JA ho hys hsx)) hz
    ·cases hr
  ·rename_i id' id2 q e' xs gk hk;cases hb:(Nat.beq g 0&&(Nat.beq el id'&&((EA (id2::q) e').same e && !(FD k (FL sx)))))with
   |false=>rw[hb]at hr;cases hr
   |true=>
    rw[hb]at hr;simp only[AA]at hr;simp only[A5,BQ]at hb;have e1:=A3 hb.1;have e2:=A3 hb.2.1;have e3:=Ty.same_eq hb.2.2.1;have hkk:k ∉ FL sx:=fun h=>by rw[O5.2 h]at hb;exact absurd hb.2.2.2 (by simp)
    subst e1 e2 e3;split at hr
    ·rename_i ys hys;cases hr;obtain⟨zs,hz,rfl⟩:=hu.may_inv;exact AAc (xs:=xs) hl hel hm hσ hself hself1 (hσ _ _ hk) hs hsx hkk hys hz
    ·cases hr
  ·cases hr
 ·cases hr
theorem AAe(hm:MemS P fr free σ w G){n:Nat}(hn:free n){p c:SV}{upd:List (Nat×Option Obj)}(h:YF σ n p c=some upd):
 ∃G',GLe w G w G'/\MemS P fr (fun j=>free j/\j≠n) (ER σ upd) w G':=by
 unfold YF at h;split at h
 ·rename_i k _ _ _ _ j _;split at h
  ·rename_i id id2 q e xs gk i hk;cases hb:Nat.beq gk (j+2)with
   |false=>rw[hb]at h;cases h
   |true=>
    rw[hb]at h;have eg:=A3 hb;subst eg;simp only[AA]at h;split at h
    ·rename_i ids e' y0 gk' hj;cases hs:MZ ids (id2::q)with
     |false=>rw[hs]at h;cases h
     |true=>
      rw[hs]at h;have eids:=jZ hs;subst eids;simp only[AA]at h;split at h
      ·rename_i y hy;cases h;obtain⟨et,ex⟩:=Ty.cast?_some hy
       have et':e'=e:=by
        have:∀(l:List Nat),EA l e'=EA l e->e'=e:=by
         intro l;induction l with
         |nil=>intro h;exact h
         |cons a l ih=>intro h;injection h with h;exact ih h
        exact this _ et
       subst et';cases ex;have hkj:k≠j:=fun e=>by rw[e,hj]at hk;cases hk
       have hnk:=ZF hm hk;obtain⟨h0,hety,v,us,bs,k1,k2,k3,k4,k5⟩:=DpOK.inv (hm.objs _ _ hk);obtain⟨hv,b,o,len,cap,a1,rfl,a2,a3⟩:=DpOK.hole (hm.objs _ _ hk) k1;obtain⟨_,_,v2,us2,bs2,c1,c2,c3,c4,c5⟩:=DpOK.inv (hm.objs _ _ hj);have a1:G.val j 0=some hv:=a1;rw[c1]at a1;cases a1;obtain⟨cells,bss,rfl,q1,q2,q3,q4,q5,q6,q7,rfl,q9⟩:=k5.three (xs:=xs) h0 rfl;have hsz:(EA (id2::q) e').sz=1:=rfl;have hi:i<bss.length:=by rw[q7];exact a2
       have hbk0:∀c,Bk G k (.dp (id::id2::q) e' xs (j+2) (some [i]) true) c<->c∈b::bss.flatten:=fun c=>LW k2 k3;have hbkj:∀c,Bk G j (.dp (id2::q) e' y0 gk' none true) c<->c∈bs2:=fun c=>LW c2 c3;have hbc:∀c∈bs2,c ∉ b::bss.flatten:=fun c hc h=>hkj (hm.sep k j _ _ c hk hj ((hbk0 c).2 h) ((hbkj c).2 hc));have hfl:=kF hi;have hfs:=ZE (c:=bs2) hi;have hnd:=B9.1 k4;have hnd1:=hnd.2;rw[hfl]at hnd1;have hnd2:=BD.1 hnd1;have hnd3:=BD.1 hnd2.2.1;have hinl:∀c,c∈(bss.take i).flatten->c∈bss.flatten:=fun c hc=>by rw[hfl];exact AS _ hc
       have hinr:∀c,c∈(bss.drop (i+1)).flatten->c∈bss.flatten:=fun c hc=>by rw[hfl];exact AU _ (AU _ hc)
       have hnds:(b::(bss.set i bs2).flatten).Nodup:=by
        rw[hfs];refine B9.2 ⟨fun h=>?_,BD.2 ⟨hnd2.1,BD.2 ⟨c4,hnd3.2.1,fun x hx y hy e=>?_⟩,fun x hx y hy e=>?_⟩⟩
        ·rcases AR.1 h with h|h
         ·exact hnd.1 (hinl b h)
         ·rcases AR.1 h with h|h
          ·exact hbc b h AN
          ·exact hnd.1 (hinr b h)
        ·subst e;exact hbc x hx (AI _ (hinr x hy))
        ·subst e;rcases AR.1 hy with h|h
         ·exact hbc x h (AI _ (hinl x hx))
         ·exact hnd2.2.2 x hx x (AU _ h) rfl
       have hmem:∀c,c∈b::(bss.set i bs2).flatten->c∈b::bss.flatten\/c∈bs2:=by
        intro c hc;rcases B6.1 hc with h|h
        ·exact .inl (by rw[h];exact AN)
        ·rw[hfs]at h;rcases AR.1 h with h|h
         ·exact .inl (AI _ (hinl c h))
         ·rcases AR.1 h with h|h
          ·exact .inr h
          ·exact .inl (AI _ (hinr c h))
       obtain⟨g0,m0⟩:=hm.ghost hn (.tuple (List.map HM (b::(bss.set i bs2).flatten)).toArray);let G0:Gh:=G.addVal n 0 (.tuple (List.map HM (b::(bss.set i bs2).flatten)).toArray)
       have g0:GLe w G w G0:=g0;have m0:MemS P fr (fun j=>free j/\j≠n) σ w G0:=m0;have hus:G0.val n 0=some (.tuple (List.map HM (b::(bss.set i bs2).flatten)).toArray):=by simp[G0,Gh.addVal]
       have him:G0.im=G.im:=rfl
       have hobj:ObjOK P fr w G0 k (.dp (id::id2::q) e' ((show List (EA (id2::q) e').T from xs).set i y0) n none true):=by
        refine ⟨(by intro h; cases h),g0.ety _ _ hety,_,_,b::(bss.set i bs2).flatten,g0.val _ _ _ k1,hus,by simp,hnds,⟨_,rfl,rfl,.inr (.inr ⟨(by intro h; cases h),b,o,cap,cells,bss.set i bs2,by rw [AF],
         by rw[AF];exact q1,q2,q3,q4,q5,q6,by rw[AF,AF];exact q7,rfl,fun a x hx=>?_⟩)⟩,trivial⟩
        rw[US,kG hi];by_cases e1:i=a
        ·subst e1;rw[if_pos rfl];rw[CL a2]at hx;cases hx
         have hcut:(cells.toList.drop (o+i*(EA (id2::q) e').sz)).take (EA (id2::q) e').sz=[hv]:=by
          show(cells.toList.drop (o+i*1)).take 1=[hv];rw[kJ,DF,<-q2.cell];exact a3
         rw[hcut];exact c5.keep g0.ext fun _ _=>⟨rfl,fun _ h=>h,fun h=>h⟩
        ·rw[if_neg e1];rw[D0 e1]at hx;have:=q9 a x hx;rw[kH,if_neg e1]at this;exact this.keep g0.ext fun _ _=>⟨rfl,fun _ h=>h,fun h=>h⟩
       have m1:=(m0.drop j).drop k
       have hdrop:∀a o',ER (ER σ [(j,none)]) [(k,none)] a=some o'->a≠k/\a≠j/\σ a=some o':=by
        intro a o' h;rw[FX]at h;by_cases e1:a=k
        ·rw[if_pos e1]at h;cases h
        ·rw[if_neg e1,FX]at h;by_cases e2:a=j
         ·rw[if_pos e2]at h;cases h
         ·rw[if_neg e2]at h;exact⟨e1,e2,h⟩
       have m2:=m1.backO (k:=k) hobj (fun h=>hnk h.1) (fun c hc a o' ha hba=>by
        obtain⟨e1,e2,ha⟩:=hdrop a o' ha;rw[show Bk G0 k (.dp (id::id2::q) e' ((show List (EA (id2::q) e').T from xs).set i y0) n none true) c<->c∈b::(bss.set i bs2).flatten from LW hus (by simp)]at hc;rw[GN (hm.objs a o' ha) g0]at hba;rcases hmem c hc with h|h
        ·exact e1 (hm.sep a k o' _ c ha hk hba ((hbk0 c).2 h))
        ·exact e2 (hm.sep a j o' _ c ha hj hba ((hbkj c).2 h)))
       refine⟨G0,g0,?_⟩
       have e4:ER σ [(k,some (Obj.dp (id::id2::q) e' ((show List (EA (id2::q) e').T from xs).set i y0) n none true)),(j,none)]=
        ER (ER (ER σ [(j,none)]) [(k,none)]) [(k,some (Obj.dp (id::id2::q) e' ((show List (EA (id2::q) e').T from xs).set i y0) n none true))]:=by
        funext a;rw[show([(k,some (Obj.dp (id::id2::q) e' ((show List (EA (id2::q) e').T from xs).set i y0) n none true)),(j,none)]:List (Nat×Option Obj))=[(k,some (Obj.dp (id::id2::q) e' ((show List (EA (id2::q) e').T from xs).set i y0) n none true))]++[(j,none)]from rfl,GD,FX,FX,FX,FX,FX];by_cases e1:a=k
        ·rw[if_pos e1,if_pos e1]
        ·rw[if_neg e1,if_neg e1,if_neg e1]
       rw[e4];exact m2
      ·cases h
    ·cases h
  ·cases h
 ·cases h
theorem kK{E:Env}{dr:Bool}(hE:EnvOK P dr E){id:Nat}{ty:Ty}(h:U4 E id ty=true):∀k v,ty=.map k v->∀x y,P.underlying id=some (.map x y)->N6 P k x=true:=by
 intro k v e x y hu;subst e;simp only[U4,A5,hE.ky _ _ _ hu]at h;obtain⟨h1,h2⟩:=h;split at h2
 ·rename_i k' hk;have:=Ty.same_eq h2;subst this;exact hE.eq _ _ h1 hk
 ·cases h2
theorem AAf{E:Env}(hE:EnvOK P fr.dr E)(hm:MemS P fr free σ w G)(hσ:∀k o,σ' k=some o->σ k=some o){t:Option Ty}{s:SV}{v:Value}(h:SR P w G s v):SR P w G (U3 E.fs σ' t s) v:=by
 unfold U3;split
 ·rename_i d c f cs;split
  ·rename_i F hF;have hcr:CR P w G (.fn f cs) [v]:=h.one (by intro u y e;cases e);obtain⟨f',vs',e1,e2⟩:=Z9 (D:=False) (fun k o h=>hm.objs k o (hσ k o h)) hE.fs (fun h=>h.elim) hF hcr;have e1:=A8.1 e1;subst e1;exact⟨_,rfl,HofD.fnc (by rw[hE.pin];exact e2)⟩
  ·exact h
 ·exact h
theorem kL{ps:Array (Nat×Operand)}{ρ:Nat×Operand→SV}{a:Act}(h:∀p∈ps.toList,SR P w G (ρ p) (a.eval p.2)):
 ∀(j:Nat) (q:Nat×SV) (u:Nat×Value),(ps.toList.map fun p=>(p.1,ρ p))[j]?=some q->(ps.map fun p=>(p.1,a.eval p.2)).toList[j]?=some u->q.1=u.1/\SR P w G q.2 u.2:=by
 intro j q u h1 h2;rw[AK]at h1;rw[D_,AK]at h2;cases hp:ps.toList[j]? with
 |none=>rw[hp]at h1;cases h1
 |some p=>
  rw[hp]at h1 h2;cases h1;cases h2;exact⟨rfl,h p (AP hp)⟩
theorem AAg{t:Ty}{id el ty:Nat}{wf:Bool}(hl:Lay P t id)(hel:∀x,P.underlying id=some (.slice x)->el=x)(hm:MemS P fr free σ w G)(hσ:∀k o,σ' k=some o->σ k=some o)(hself:free self)
 {s x:SV}{v vx:Value}{r:OpRes}{u:Upd}(hr:TX σ' wf self el t s x=some r)(hu:Gives r u)(hs:SR P w G s v)(hx:SR P w G x vx):
 ∃z w',(Builtin.append_ #[id,id] ty #[v,vx]).run P w=.ok z w'/\Res P fr free self σ w G u z w':=by
 have ho:∀k o,σ' k=some o->ObjOK P fr w G k o:=fun k o h=>hm.objs k o (hσ k o h);unfold TX at hr;split at hr
 ·rename_i e;split at hr
  ·rename_i ys hys;have hv:VRel w G.im (.slice e) ys vx:=JA ho hys hx;split at hr
   ·have hr:=A4 hr;subst hr;obtain⟨zs,hz,rfl⟩:=hu.may_inv;obtain⟨c,h1,h2⟩:=hs;have h2:c=[.slice none 0 0]:=h2;have hv0:v=.slice none 0 0:=A8.1 ((show c=[v]from h1).symm.trans h2);subst hv0;exact jW hl hel hm hself (Z7 hl hv) hz
   ·have hr:=A4 hr;subst hr;obtain⟨zs,hz,rfl⟩:=hu.may_inv;obtain⟨c,h1,ad,h2⟩:=hs;have hv0:v=.slice (some ad) 0 0:=A8.1 ((show c=[v]from h1).symm.trans h2);subst hv0;exact x3 hl hel hm hself (Z7 hl hv) hz
   ·rename_i k g;split at hr
    ·rename_i id' e' xs g' w' hk;cases hg:(Nat.beq g 0&&(Nat.beq g' 0&&Nat.beq el id'))with
     |false=>rw[hg]at hr;cases hr
     |true=>
      rw[hg]at hr;simp only[AA]at hr;simp only[A5]at hg;have e1:=A3 hg.1;have e2:=A3 hg.2.1;have e3:=A3 hg.2.2;subst e1 e2 e3;split at hr
      ·rename_i xs' hxs;have hr:=A4 hr;subst hr;obtain⟨zs,hz,rfl⟩:=hu.may_inv;obtain⟨et,ex⟩:=Ty.cast?_some hxs;have et':e'=e:=by injection et
       subst et';cases ex;exact x4 hl hel hm hself (hσ _ _ hk) hs (Z7 hl hv) hz
      ·cases hr
    ·cases hr
   ·cases hr
  ·cases hr
 ·cases hr
theorem AAh{t t':Ty}{id id2 el ty:Nat}{wf:Bool}(hl:Lay P t id)(hl2:Lay P t' id2)(hel:∀x,P.underlying id=some (.slice x)->el=x)(hm:MemS P fr free σ w G)(hσ:∀k o,σ' k=some o->σ k=some o)(hself:free self)
 {s x:SV}{v vx:Value}{r:OpRes}{u:Upd}(hr:iY σ' wf self el t t' s x=some r)(hu:Gives r u)(hs:SR P w G s v)(hx:SR P w G x vx):
 ∃z w',(Builtin.append_ #[id,id2] ty #[v,vx]).run P w=.ok z w'/\Res P fr free self σ w G u z w':=by
 unfold iY at hr;split at hr
 ·rename_i ys;have hv:=A9Z hl2 hx;unfold TX at hr;simp only[SV.asV,SV.as]at hr;split at hr
  ·rename_i ys' hys;obtain⟨_,ex⟩:=Ty.cast?_some hys;have ex:GB ys=ys':=ex;subst ex;split at hr
   ·have hr:=A4 hr;subst hr;obtain⟨zs,hz,rfl⟩:=hu.may_inv;obtain⟨c,h1,h2⟩:=hs;have h2:c=[.slice none 0 0]:=h2;have hv0:v=.slice none 0 0:=A8.1 ((show c=[v]from h1).symm.trans h2);subst hv0;exact jW hl hel hm hself hv hz
   ·have hr:=A4 hr;subst hr;obtain⟨zs,hz,rfl⟩:=hu.may_inv;obtain⟨c,h1,ad,h2⟩:=hs;have hv0:v=.slice (some ad) 0 0:=A8.1 ((show c=[v]from h1).symm.trans h2);subst hv0;exact x3 hl hel hm hself hv hz
   ·rename_i k g;split at hr
    ·rename_i id' e' xs g' w' hk;cases hg:(Nat.beq g 0&&(Nat.beq g' 0&&Nat.beq el id'))with
     |false=>rw[hg]at hr;cases hr
     |true=>
      rw[hg]at hr;simp only[AA]at hr;simp only[A5]at hg;have e1:=A3 hg.1;have e2:=A3 hg.2.1;have e3:=A3 hg.2.2;subst e1 e2 e3;split at hr
      ·rename_i xs' hxs;have hr:=A4 hr;subst hr;obtain⟨zs,hz,rfl⟩:=hu.may_inv;obtain⟨et,ex⟩:=Ty.cast?_some hxs;have et':e'=.int .u8:=by injection et
       subst et';cases ex;exact x4 hl hel hm hself (hσ _ _ hk) hs hv hz
      ·cases hr
    ·cases hr
   ·cases hr
  ·cases hr
 ·cases hr
theorem AAi{E:Env}(hE:EnvOK P fr.dr E)(hm:MemS P fr free σ w G)(hσ:∀k o,σ' k=some o->σ k=some o)(hfree:∀k,self<=k->k<self+8->free k){o:Oper}{a:Act}{ρ ρt ρf:Operand->SV}
 (hρ:(∀c x y,o.op≠.pick c x y)->∀x∈o.op.operands,SR P w G (ρ x) (a.eval x))
 (hpick:∀c x y,o.op=.pick c x y→SR P w G (ρ c) (a.eval c)∧(a.eval c=.bool true→SR P w G (ρt x) (a.eval x))∧(a.eval c=.bool false→SR P w G (ρf y) (a.eval y)))
 {r:OpRes}{u:Upd}(hr:jE E ρ ρt ρf σ' self o=some r)(hu:Gives r u):Done P fr.dr o a w (Res P fr free self σ w G u):=by
 have hself:free self:=hfree self (AM _) (by omega);have ho:∀k o,σ' k=some o->ObjOK P fr w G k o:=fun k o h=>hm.objs k o (hσ k o h);unfold jE at hr;cases hop:o.op with
 |move x=>
  rw[hop]at hr;have hr:=A4 hr;subst hr;rw[hu.v_inv];exact Done.calm hm ⟨rfl,_,by simp[execOp,hop],hρ (by simp[hop]) x (by simp[hop,Op.operands])⟩
 |assign x=>
  rw[hop]at hr;have hr:=A4 hr;subst hr;rw[hu.v_inv];exact Done.calm hm ⟨rfl,_,by simp[execOp,hop],hρ (by simp[hop]) x (by simp[hop,Op.operands])⟩
 |pick c x y=>
  rw[hop]at hr;obtain⟨h1,h2,h3⟩:=hpick c x y hop;obtain⟨e1,b,e2,e3⟩:=A8i (P:=P) (w:=w) (G:=G) hr hu h1 h2 h3;exact Done.calm hm ⟨e1,_,by simp[execOp,hop,e2,asBool],e3⟩
 |alloc t=>
  rw[hop]at hr;simp only at hr;split at hr
  ·rename_i ty hty;have hr:=A4 hr;subst hr;rw[hu.pure_inv];obtain⟨z,w',h1,h2⟩:=A9K (hE.ty _ _ hty) hm hself;exact Done.makes ⟨z,w',by simp[execOp,hop,h1],h2⟩
  ·cases hr
 |box t x=>
  rw[hop]at hr;simp only at hr;split at hr
  ·rename_i ty hty;split at hr
   ·rename_i y hy;have hr:=A4 hr;subst hr;rw[hu.pure_inv];obtain⟨z,w',h1,h2⟩:=A9L (id:=t) (hE.ty _ _ hty) hm hself hy (hρ (by simp[hop]) x (by simp[hop,Op.operands]));exact Done.makes ⟨z,w',by simp[execOp,hop,h1],h2⟩
   ·cases hr
  ·cases hr
 |load t x=>
  rw[hop]at hr;simp only at hr;split at hr
  ·rename_i ty hty
   have hex:∃ wf:Bool,(bif wf then (match TZ σ' self ty (ρ x) with
    |some r=>some r
    |none=>(RB σ' ty (ρ x)).map OpRes.v)else jC σ' ty (ρ x))=some r:=⟨_,hr⟩
   clear hr;obtain⟨wf,hr⟩:=hex;cases wf with
   |true=>
    simp only[AA]at hr;cases htk:TZ σ' self ty (ρ x)with
    |some r1=>
     rw[htk]at hr;have hr:=A4 hr;subst hr;obtain⟨z,h1,h2⟩:=AA_ (self:=self) (hE.ty _ _ hty) hm hσ hself (hfree _ (by omega) (by omega)) (hfree _ (by omega) (by omega)) htk hu (hρ (by simp[hop]) x (by simp[hop,Op.operands]));exact Done.makes ⟨z,w,by simp[execOp,hop,h1],h2⟩
    |none=>
    rw[htk]at hr;simp only at hr;cases hl:RB σ' ty (ρ x)with
    |none=>rw[hl]at hr;cases hr
    |some s=>
     rw[hl]at hr;have hr:=A4 hr;subst hr;rw[hu.v_inv];obtain⟨z,h1,h2⟩:=wP (hE.ty _ _ hty) ho hl (hρ (by simp[hop]) x (by simp[hop,Op.operands]));exact Done.calm hm ⟨rfl,z,by simp[execOp,hop,h1],h2⟩
   |false=>
   simp only[AC]at hr;have hx:=hρ (by simp[hop]) x (by simp[hop,Op.operands]);unfold jC at hr;split at hr
   ·rename_i e y he;cases hs:e.same ty with
    |false=>rw[hs]at hr;cases hr
    |true=>
     rw[hs]at hr;have hr:=A4 hr;subst hr;rw[he]at hx;obtain⟨z,hz,rfl⟩:=hu.may_inv;have hz:y=some z:=hz;subst hz;obtain⟨c,hc,ad,h2,h3,cc,h4,h5⟩:=hx;have hv:a.eval x=.pointer (some ad):=A8.1 ((show c=[a.eval x]from hc).symm.trans h2);have hsame:=Ty.same_eq hs;subst hsame;obtain⟨z',k1,k2⟩:=A9B (P:=P) (w:=w) (G:=G) (hE.ty _ _ hty) (x:=z) (v:=.pointer (some ad)) ⟨_,rfl,ad,cc,rfl,h3,h4,h5⟩;exact Done.calm hm ⟨rfl,z',by simp[execOp,hop,hv,k1],k2⟩
   ·cases hl:loadAt σ' ty (ρ x)with
    |none=>rw[hl]at hr;cases hr
    |some s=>
     rw[hl]at hr;have hr:=A4 hr;subst hr;rw[hu.v_inv];obtain⟨z,h1,h2⟩:=wL (hE.ty _ _ hty) ho hl hx;exact Done.calm hm ⟨rfl,z,by simp[execOp,hop,h1],h2⟩
  ·cases hr
 |store t x y=>
  rw[hop]at hr;simp only at hr;split at hr
  ·rename_i ty hty;cases hpd:YH σ' self ty (ρ y) (ρ x)with
   |some r1=>
    rw[hpd]at hr;have hr:=A4 hr;subst hr;obtain⟨w',h1,h2⟩:=AAa (self:=self) (hE.ty _ _ hty) hm hσ (hfree _ (by omega) (by omega)) hpd hu (hρ (by simp[hop]) x (by simp[hop,Op.operands])) (hρ (by simp[hop]) y (by simp[hop,Op.operands]));exact Done.writes ⟨w',by simp[execOp,hop,h1],h2⟩
   |none=>
   rw[hpd]at hr;simp only at hr;cases hl:storeAt σ' ty (ρ y) (ρ x)with
   |none=>rw[hl]at hr;cases hr
   |some s=>
    rw[hl]at hr;have hr:=A4 hr;subst hr;rw[hu.pure_inv];obtain⟨k,o'⟩:=s;obtain⟨w',h1,h2,h3⟩:=A9H (self:=self) (hE.ty _ _ hty) hm hσ hl (hρ (by simp[hop]) x (by simp[hop,Op.operands])) (hρ (by simp[hop]) y (by simp[hop,Op.operands]));exact Done.writes ⟨w',by simp[execOp,hop,h1],G,h2,h3,⟨_,rfl,trivial⟩⟩
  ·cases hr
 |extract x i=>
  rw[hop]at hr;obtain⟨h1,z,h2,h3⟩:=A8j (P:=P) (w:=w) (G:=G) hr hu (hρ (by simp[hop]) x (by simp[hop,Op.operands]));exact Done.calm hm ⟨h1,z,by simp[execOp,hop,h2],h3⟩
 |unOp op t x=>
  rw[hop]at hr;obtain⟨h1,z,h2,h3⟩:=A8h (P:=P) (w:=w) (G:=G) hr hu (hρ (by simp[hop]) x (by simp[hop,Op.operands]));exact Done.calm hm ⟨h1,z,by simp[execOp,hop,h2],h3⟩
 |insert t m k v=>
  rw[hop]at hr;simp only at hr;split at hr
  ·rename_i ty hty;obtain⟨w',h1,h2⟩:=x7 (self:=self) (hE.ty _ _ hty) (fun h=>kK hE h) hm hσ hr hu (hρ (by simp[hop]) m (by simp[hop,Op.operands])) (hρ (by simp[hop]) k (by simp[hop,Op.operands])) (hρ (by simp[hop]) v (by simp[hop,Op.operands]));exact Done.writes ⟨w',by simp[execOp,hop,h1],h2⟩
  ·cases hr
 |mapUpdate t m k v=>
  rw[hop]at hr;simp only at hr;split at hr
  ·rename_i ty hty;obtain⟨w',h1,h2⟩:=x7 (self:=self) (hE.ty _ _ hty) (fun h=>kK hE h) hm hσ hr hu (hρ (by simp[hop]) m (by simp[hop,Op.operands])) (hρ (by simp[hop]) k (by simp[hop,Op.operands])) (hρ (by simp[hop]) v (by simp[hop,Op.operands]));exact Done.writes ⟨w',by simp[execOp,hop,h1],h2⟩
  ·cases hr
 |lookup t m k ok=>
  rw[hop]at hr;simp only at hr;split at hr
  ·rename_i ty hty;obtain⟨h1,z,h2,h3⟩:=A9l (hE.ty _ _ hty) (fun h=>kK hE h) ho hr hu (hρ (by simp[hop]) m (by simp[hop,Op.operands])) (hρ (by simp[hop]) k (by simp[hop,Op.operands]));exact Done.calm hm ⟨h1,z,by simp[execOp,hop,h2],h3⟩
  ·cases hr
 |fieldAddr t x f=>
  rw[hop]at hr;simp only at hr;split at hr
  ·rename_i p hty;cases hf:Nat.blt f p.fields with
   |false=>rw[hf]at hr;cases hr
   |true=>
    rw[hf]at hr;rw[BS]at hf;simp only[AA]at hr;have hx:=hρ (by simp[hop]) x (by simp[hop,Op.operands]);split at hr
    ·rename_i e y he;rw[he]at hx;cases hd:(LO p f (.ref e e.dflt)).isSome with
     |false=>rw[hd]at hr;cases hr
     |true=>
      rw[hd]at hr;have hr:=A4 hr;subst hr;obtain⟨z,hz,rfl⟩:=hu.may_inv;have hz:y=some z:=hz;subst hz;obtain⟨s,hs⟩:=Option.isSome_iff_exists.1 ((A91 (z':=z))▸hd:(LO p f (.ref e z)).isSome=true);obtain⟨c,hc,ad,h2,h3,cc,h4,h5⟩:=hx;have hv:a.eval x=.pointer (some ad):=A8.1 ((show c=[a.eval x]from hc).symm.trans h2);obtain⟨z',q2,q3⟩:=wI (hE.ty _ _ hty) hf hs (w:=w) (G:=G) (v:=a.eval x) ⟨_,rfl,ad,cc,by rw[hv],h3,h4,h5⟩;exact Done.calm hm ⟨rfl,z',by simp[execOp,hop,q2],by rw[hs];exact q3⟩
    ·cases hl:LO p f (ρ x)with
     |none=>rw[hl]at hr;cases hr
     |some s=>
      rw[hl]at hr;have hr:=A4 hr;subst hr;rw[hu.v_inv];obtain⟨z,h2,h3⟩:=wI (hE.ty _ _ hty) hf hl hx;exact Done.calm hm ⟨rfl,z,by simp[execOp,hop,h2],h3⟩
  ·cases hr
 |field t x f=>
  rw[hop]at hr;simp only at hr;split at hr
  ·rename_i p hty;cases hf:Nat.blt f p.fields with
   |false=>rw[hf]at hr;cases hr
   |true=>
    rw[hf]at hr;rw[BS]at hf;obtain⟨h1,z,h2,h3⟩:=A8s (hE.ty _ _ hty) hf hr hu (hρ (by simp[hop]) x (by simp[hop,Op.operands]));exact Done.calm hm ⟨h1,z,by simp[execOp,hop,h2],h3⟩
  ·cases hr
 |indexAddr t x i=>
  rw[hop]at hr;simp only at hr;split at hr
  ·rename_i ty kd n hty hi;have hiv:=hρ (by simp[hop]) i (by simp[hop,Op.operands]);rw[hi]at hiv;obtain⟨e,_⟩:=hiv.int;obtain⟨h1,z,h2,h3⟩:=A92 (k:=kd) (hE.ty _ _ hty) ho hr hu (hρ (by simp[hop]) x (by simp[hop,Op.operands]));exact Done.calm hm ⟨h1,z,by simp[execOp,hop,e,h2],h3⟩
  ·cases hr
 |index t x i=>
  rw[hop]at hr;simp only at hr;split at hr
  ·rename_i ty kd n hty hi;have hiv:=hρ (by simp[hop]) i (by simp[hop,Op.operands]);rw[hi]at hiv;obtain⟨e,_⟩:=hiv.int;obtain⟨h1,z,h2,h3⟩:=A8m (k:=kd) (hE.ty _ _ hty) hr hu (hρ (by simp[hop]) x (by simp[hop,Op.operands]));exact Done.calm hm ⟨h1,z,by simp[execOp,hop,e,h2],h3⟩
  ·cases hr
 |slice t x lo hi mx=>
  rw[hop]at hr;cases mx with
  |some _=>cases hr
  |none=>
   simp only at hr;split at hr
   ·rename_i ty hty
    have hopt:∀b:Option Operand,(∀y,b=some y->y∈o.op.operands)->J_ P w G (b.map ρ) (b.map a.eval):=by
     intro b hb;cases b with
     |none=>exact trivial
     |some y=>exact hρ (by simp[hop]) y (hb y rfl)
    have hex:∃ wf:Bool,(match (bif wf then TY σ' self ty (ρ x) (lo.map ρ) (hi.map ρ) else none) with
     |some r=>some r
     |none=>YB σ' ty (ρ x) (lo.map ρ) (hi.map ρ))=some r:=⟨_,hr⟩
    clear hr;obtain⟨wf,hr⟩:=hex;cases hsd:(bif wf then TY σ' self ty (ρ x) (lo.map ρ) (hi.map ρ)else none)with
    |some r1=>
     rw[hsd]at hr;have hr:=A4 hr;subst hr;cases wf with
     |false=>cases hsd
     |true=>
     obtain⟨z,h2,h3⟩:=AAX (self:=self) (hE.ty _ _ hty) hm hσ hself (hfree _ (by omega) (by omega)) hsd hu (hρ (by simp[hop]) x (by simp[hop,Op.operands])) (hopt lo (fun y hy=>by simp[hop,Op.operands,hy])) (hopt hi (fun y hy=>by simp[hop,Op.operands,hy]));exact Done.makes ⟨z,w,by simp[execOp,hop,h2],h3⟩
    |none=>
    rw[hsd]at hr;simp only at hr;obtain⟨h1,z,h2,h3⟩:=A94 (hE.ty _ _ hty) ho hr hu (hρ (by simp[hop]) x (by simp[hop,Op.operands])) (hopt lo (fun y hy=>by simp[hop,Op.operands,hy])) (hopt hi (fun y hy=>by simp[hop,Op.operands,hy]));exact Done.calm hm ⟨h1,z,by simp[execOp,hop,h2],h3⟩
   ·cases hr
 |makeInterface t x=>
  rw[hop]at hr;simp only at hr;split at hr
  ·rename_i ta tu hta htu;cases hi:ta.isIface with
   |true=>rw[hi]at hr;cases hr
   |false=>
    rw[hi]at hr;simp only[AC]at hr;split at hr
    ·rename_i y hy;cases hj:MD t ta y tu with
     |none=>rw[hj]at hr;cases hr
     |some z=>
      rw[hj]at hr;have hr:=A4 hr;subst hr;rw[hu.v_inv];have hv:=JA ho hy (hρ (by simp[hop]) x (by simp[hop,Op.operands]));obtain⟨v,h2,h3⟩:=A9o (P:=P) (w:=w) (G:=G) (hE.ty _ _ hta) hi hv hj;exact Done.calm hm ⟨rfl,v,by simp[execOp,hop,h2],h3⟩
    ·cases hr
  ·cases hr
 |makeSlice t l c=>
  rw[hop]at hr;simp only at hr;split at hr
  ·rename_i e x y hty hl hc;have hlv:=hρ (by simp[hop]) l (by simp[hop,Op.operands]);have hcv:=hρ (by simp[hop]) c (by simp[hop,Op.operands]);rw[hl]at hlv;rw[hc]at hcv;obtain⟨e1,_⟩:=hlv.int;obtain⟨e2,e3⟩:=hcv.int
   have hex:∃ dd:Nat,(match RE self dd (KD E.el dd t) (.slice e) x y with
    |some r=>some r
    |none=>some (OpRes.may (List e.T) (mks? (24*e.sz) x y e.dflt) [] fun zs=>⟨.obj self 0,[(self,some (.sl (E.el t) e zs 0 (match o.dst with|some d=>E.wr d|none=>false)))]⟩))=some r:=⟨_,hr⟩
   clear hr;obtain⟨dd,hr⟩:=hex;cases hmd:RE self dd (KD E.el dd t) (.slice e) x y with
   |some r1=>
    rw[hmd]at hr;have hr:=A4 hr;subst hr
    obtain ⟨z,w',h1,h2⟩:=AAZ (self:=self) (id:=t) (hE.ty _ _ hty) hm hself (hfree _ (by omega) (by omega)) e3 hmd hu (by
     obtain⟨el,hun,_,_⟩:=(show Lay P (.slice e) t from hE.ty _ _ hty).slice;cases dd with
     |zero=>exact absurd hmd (by simp[KD,RE])
     |succ n=>exact⟨KD E.el n el,by simp only[KD,hun,hE.el _ _ hun]⟩)
    exact Done.makes ⟨z,w',by simp[execOp,hop,e1,e2,h1],h2⟩
   |none=>
   rw[hmd]at hr;simp only at hr;have hr:=A4 hr;subst hr;obtain⟨zs,hz,rfl⟩:=hu.may_inv;obtain⟨z,w',h1,h2⟩:=A9N (wr:=(match o.dst with|some d=>E.wr d|none=>false)) (hE.ty _ _ hty) hm hself e3 hz (fun x hx=>hE.el _ _ hx);exact Done.makes ⟨z,w',by simp[execOp,hop,e1,e2,h1],h2⟩
  ·cases hr
 |makeMap t h=>
  rw[hop]at hr;simp only at hr;split at hr
  ·rename_i k v hty
   have hcond:∃b,(bif b then(some (OpRes.pure ⟨.obj self 0,[(self,some (.mp k v [] true))]⟩))else none)=some r/\(b=true->∀x,h.map a.eval=some x->∃kd n,x=.int kd n):=by
    refine⟨_,hr,fun hb x hx=>?_⟩;cases h with
    |none=>cases hx
    |some y=>
     have hy:=hρ (by simp[hop]) y (by simp[hop,Op.operands]);have hx:a.eval y=x:=A4 hx;simp only at hb;split at hb
     ·rename_i kd n he;rw[he]at hy;exact⟨kd,n,by rw[<-hx];exact hy.int.1⟩
     ·cases hb
   obtain⟨b,h1,h2⟩:=hcond;cases b with
   |false=>cases h1
   |true=>
    have h1:=A4 h1;subst h1;rw[hu.pure_inv];obtain⟨z,w',h3,h4⟩:=A9W (hE.ty _ _ hty) hm hself (h2 rfl);exact Done.makes ⟨z,w',by simp[execOp,hop,h3],h4⟩
  ·cases hr
 |build t ps=>
  rw[hop]at hr;simp only at hr;split at hr
  ·rename_i ty hty;have hex:∃wf:Bool,(bif wf then TT σ' ty (ps.toList.map fun p=>(p.1,ρ p.2))else YA σ' ty (ps.toList.map fun p=>(p.1,U3 E.fs σ' (jD ty p.1) (ρ p.2))))=some r:=⟨_,hr⟩;clear hr;obtain⟨wf,hr⟩:=hex;cases wf with
   |true=>
    obtain⟨h1,z,h2,h3⟩:=A9T (hE.ty _ _ hty) hm hσ hr hu (vs:=ps.map fun p=>(p.1,a.eval p.2)) (by simp) (kL (ρ:=fun p=>ρ p.2) fun p hp=>hρ (by simp[hop]) p.2 (by simp[hop,Op.operands];exact⟨p.1,by simpa using hp⟩));exact Done.calm hm ⟨h1,z,by simp[execOp,hop,h2],h3⟩
   |false=>
    obtain⟨h1,z,h2,h3⟩:=A9Q (hE.ty _ _ hty) hm hσ hr hu (vs:=ps.map fun p=>(p.1,a.eval p.2)) (by simp) (kL (ρ:=fun p=>U3 E.fs σ' (jD ty p.1) (ρ p.2)) fun p hp=>AAf hE hm hσ (hρ (by simp[hop]) p.2 (by simp[hop,Op.operands];exact⟨p.1,by simpa using hp⟩)));exact Done.calm hm ⟨h1,z,by simp[execOp,hop,h2],h3⟩
  ·cases hr
 |buildSlice t len ps=>
  rw[hop]at hr;simp only at hr;split at hr
  ·rename_i r0 hr0;have hr:=A4 hr;subst hr
   have hb:∀{c:Bool} {m:Option OpRes},(bif c then m else none)=some r0->c=true/\m=some r0:=fun {c m} h=>by
    cases c with
    |true=>exact⟨rfl,h⟩
    |false=>cases h
   obtain⟨hb1,hr1⟩:=hb (c:=(match o.dst with|some d=>E.wr d|none=>false)&&Nat.beq len 1) hr0;clear hr0;simp only[A5]at hb1;have hlen:=A3 hb1.2;subst hlen
   obtain⟨x,ty,hps,hty,hr0⟩:∃x ty,ps.toList=[(0,x)]∧E.ty t=some ty∧OS σ' self (match o.dst with|some d=>E.dp d|none=>0) (KD E.el (match o.dst with|some d=>E.dp d|none=>0) t) ty (ρ x)=some r0:=by
    rcases hps:ps.toList with _|⟨⟨n,x⟩,_|⟨y,rr⟩⟩
    ·rw[hps]at hr1;cases hr1
    ·rw[hps]at hr1;cases n with
     |zero=>
      cases hty:E.ty t with
      |none=>rw[hty]at hr1;cases hr1
      |some ty=>rw[hty]at hr1;exact⟨x,ty,rfl,rfl,hr1⟩
     |succ n=>cases hr1
    ·rw[hps]at hr1;cases n<;>cases hr1
   ·obtain⟨dd,hr0⟩:∃dd,OS σ' self dd (KD E.el dd t) ty (ρ x)=some r0:=⟨_,hr0⟩;have eps:ps= #[(0,x)]:=by apply C8;simpa using hps
    subst eps;have hx:=hρ (by simp[hop]) x (by simp[hop,Op.operands])
    obtain ⟨z,w',h1,h2⟩:=AAb (id:=t) (hE.ty _ _ hty) hm hσ hself (hfree _ (by omega) (by omega)) hr0 hu (by
     have hslice:∃e,ty=.slice e:=by
      unfold OS at hr0;split at hr0
      ·split at hr0
       ·rename_i _ id0 id2 q _ _ u0 _;cases hsm:(EA (id0::id2::q) u0).same ty with
        |false=>rw[hsm]at hr0;cases hr0
        |true=>exact⟨EA (id2::q) u0,(Ty.same_eq hsm).symm⟩
       ·cases hr0
      ·cases hr0
     obtain⟨e,rfl⟩:=hslice;obtain⟨el,hun,_,_⟩:=(show Lay P (.slice e) t from hE.ty _ _ hty).slice;cases dd with
     |zero=>exact absurd hr0 (by simp[KD,OS])
     |succ n=>exact⟨KD E.el n el,by simp only[KD,hun,hE.el _ _ hun]⟩) hx
    exact Done.makes ⟨z,w',by simp[execOp,hop,h1],h2⟩
  split at hr
  ·rename_i e hty;split at hr
   ·rename_i xs hx;have hr:=A4 hr;subst hr;rw[hu.pure_inv];cases hz:Nat.beq len 0 with
    |true=>
     rw[hz]at hx;have e0:=A3 hz;subst e0;simp only[AA]at hx;split at hx
     ·rename_i hps;cases hx;have eps:ps= #[]:=by simpa using hps
      subst eps;generalize (Nat.beq 0 0&&Nat.beq (match o.dst with|some d=>E.dp d|none=>0) 1)=q;cases q with
      |true=>
       obtain⟨z,w',h2,h3⟩:=A9V (wr:=(match o.dst with|some d=>E.wr d|none=>false)) (hE.ty _ _ hty) hm hself (fun x hx=>hE.el _ _ hx);exact Done.makes ⟨z,w',by simp[execOp,hop,h2],h3⟩
      |false=>
      obtain⟨z,w',h2,h3⟩:=w_ (wr:=(match o.dst with|some d=>E.wr d|none=>false)) (hE.ty _ _ hty) hm hself (fun x hx=>hE.el _ _ hx);exact Done.makes ⟨z,w',by simp[execOp,hop,h2],h3⟩
     ·cases hx
    |false=>
    simp only[CA,AC]
    have hx:(bif Nat.blt 0 len&&Nat.ble (len*e.sz) 16777216 then NZ σ' e (ps.toList.map fun p=>(p.1,ρ p.2)) (List.replicate len e.dflt)else none)=some xs:=by
     rw[hz]at hx
     have hpos:Nat.blt 0 len=true:=by
      rw[BS];apply Nat.pos_of_ne_zero;intro e0;rw[e0]at hz;cases hz
     rw[hpos];exact hx
    obtain⟨z,w',h2,h3⟩:=A9U (wr:=(match o.dst with|some d=>E.wr d|none=>false)) (hE.ty _ _ hty) hm hσ hself hx (vs:=ps.map fun p=>(p.1,a.eval p.2)) (by simp) (fun x hx=>hE.el _ _ hx) (kL fun p hp=>hρ (by simp[hop]) p.2 (by simp[hop,Op.operands];exact⟨p.1,by simpa using hp⟩));exact Done.makes ⟨z,w',by simp[execOp,hop,h2],h3⟩
   ·cases hr
  ·cases hr
 |binOp op t x y z=>
  rw[hop]at hr;simp only at hr;split at hr
  ·rename_i r0 hr0;have hr:=A4 hr;subst hr;obtain⟨e1,v,e2,e3⟩:=A8f (P:=P) (w:=w) (G:=G) hr0 hu (hρ (by simp[hop]) x (by simp[hop,Op.operands])) (hρ (by simp[hop]) y (by simp[hop,Op.operands])) (fun q hq=>hE.ty _ _ hq) x y;exact Done.calm hm ⟨e1,v,by simp only[execOp,hop,Sem.run_bind]at e2 ⊢;rw[e2];rfl,e3⟩
  split at hr
  ·rename_i r0 hr0;have hr:=A4 hr;subst hr;unfold vQ at hr0;split at hr0
   ·rename_i ty hty;cases hok:(E.eq t&&vP ty)with
    |false=>rw[hok]at hr0;cases hr0
    |true=>
     rw[hok]at hr0;simp only[AA]at hr0;simp only[A5]at hok;split at hr0
     ·rename_i xu xv hxu hxv;split at hr0
      ·rename_i bb hbb
       have ha:∃p,ty=.agg p:=by
        cases ty<;>first|exact⟨_,rfl⟩|cases hok.2
       have h1:=JY hxu (hρ (by simp[hop]) x (by simp[hop,Op.operands]));have h2:=JY hxv (hρ (by simp[hop]) y (by simp[hop,Op.operands]));obtain⟨q1,q2⟩:=A96 (op:=op) (ox:=x) (oy:=y) (hE.ty _ _ hty) ha (hE.eq _ _ hok.1 hty) h1 h2 hbb;cases op<;>simp only[KW,AO]at hr0<;>first|(cases hr0;done)|skip
       ·subst hr0;rw[hu.v_inv];have e2:=q1 rfl;exact Done.calm hm ⟨rfl,.bool bb,by simp only[execOp,hop,Sem.run_bind]at e2 ⊢;rw[e2];rfl,SR.mk_bool _⟩
       ·subst hr0;rw[hu.v_inv];have e2:=q2 rfl;exact Done.calm hm ⟨rfl,.bool (!bb),by simp only[execOp,hop,Sem.run_bind]at e2 ⊢;rw[e2];rfl,SR.mk_bool _⟩
      ·cases hr0
     ·cases hr0
   ·cases hr0
  have hcond:∃b,(bif b then Y9 op (ρ x) (ρ y)else none)=some r/\(b=true->∀c,ρ x=.val .bool c->P.underlying t=some .bool):=by
   refine⟨_,hr,fun hb c hc=>?_⟩;rw[hc]at hb;simp only at hb;split at hb
   ·rename_i ht;exact(hE.ty _ _ ht).bool
   ·cases hb
  obtain⟨b,h1,h2⟩:=hcond;cases b with
  |false=>cases h1
  |true=>
   obtain⟨e1,v,e2,e3⟩:=A8g (P:=P) (w:=w) (G:=G) h1 hu (hρ (by simp[hop]) x (by simp[hop,Op.operands])) (hρ (by simp[hop]) y (by simp[hop,Op.operands])) t x y (h2 rfl);exact Done.calm hm ⟨e1,v,by simp only[execOp,hop,Sem.run_bind]at e2 ⊢;rw[e2];rfl,e3⟩
 |makeFunc fn first caps=>
  rw[hop]at hr;cases fn with
  |func f=>
   simp only at hr;split at hr
   ·rename_i hfirst;have hf0:first= #[]:=by simpa using hfirst
    subst hf0
    have hex:∃ wf:Bool,(bif wf then (match E.ty o.type with
     |some (.fnc d c)=>(MY false E.fs σ' d c (.fn f (SV.ofList (caps.toList.map ρ)))).map fun F=>OpRes.v (.val (.fnc d c) (some F:Option (d.T->Option c.T)))
     |_=>none)else some (.v (.fn f (SV.ofList (caps.toList.map ρ)))))=some r:=⟨_,hr⟩
    clear hr;obtain⟨wf,hr⟩:=hex
    have hcr:CR P w G (.fn f (SV.ofList (caps.toList.map ρ))) [.func (.func f) #[] (caps.map a.eval)]:=by
     refine⟨caps.map a.eval,rfl,?_⟩;refine jY (by simp) fun j s v h1 h2=>?_;rw[AK]at h1;rw[D_,AK]at h2;cases hp:caps.toList[j]? with
     |none=>rw[hp]at h1;cases h1
     |some p=>
      rw[hp]at h1 h2;cases h1;cases h2;have hmem:=AP hp;exact hρ (by simp[hop]) p (by simp[hop,Op.operands];simpa using hmem)
    cases wf with
    |true=>
     simp only[AA]at hr;split at hr
     ·rename_i d c hty;cases hh:MY false E.fs σ' d c (.fn f (SV.ofList (caps.toList.map ρ)))with
      |none=>rw[hh]at hr;cases hr
      |some F=>
       rw[hh]at hr;have hr:=A4 hr;subst hr;rw[hu.v_inv];obtain⟨f',vs',e1,e2⟩:=Z9 (D:=False) (fun k o h=>hm.objs k o (hσ k o h)) hE.fs (fun h=>h.elim) hh hcr;injection e1 with e1 _;refine Done.calm hm ⟨rfl,.func (.func f) #[] (caps.map a.eval),by simp[execOp,hop,Instr.makeFunc],_,rfl,?_⟩;rw[e1];exact HofD.fnc (by rw[hE.pin];exact e2)
     ·cases hr
    |false=>
    have hr:=A4 hr;subst hr;rw[hu.v_inv];refine Done.calm hm ⟨rfl,.func (.func f) #[] (caps.map a.eval),by simp[execOp,hop,Instr.makeFunc],_,rfl,caps.map a.eval,rfl,?_⟩;refine jY (by simp) fun j s v h1 h2=>?_;rw[AK]at h1;rw[D_,AK]at h2;cases hp:caps.toList[j]? with
    |none=>rw[hp]at h1;cases h1
    |some p=>
     rw[hp]at h1 h2;cases h1;cases h2;have hmem:=AP hp;exact hρ (by simp[hop]) p (by simp[hop,Op.operands];simpa using hmem)
   ·cases hr
  |_=>cases hr
 |nilCheck x=>
  rw[hop]at hr;have hx:=hρ (by simp[hop]) x (by simp[hop,Op.operands])
  have fin:∀{s:SV} {ad:Addr},a.eval x=.pointer (some ad)->SR P w G s (.pointer (some ad))->u=⟨s,[]⟩->Done P fr.dr o a w (Res P fr free self σ w G u):=by
   intro s ad h1 h2 h3;subst h3;exact Done.calm hm ⟨rfl,_,by simp only[execOp,hop,h1];rfl,h2⟩
  have finF:∀{s:SV} {f:Nat} {vs:Array Value},a.eval x=.func (.func f) #[] vs->SR P w G s (.func (.func f) #[] vs)->u=⟨s,[]⟩->Done P fr.dr o a w (Res P fr free self σ w G u):=by
   intro s f vs h1 h2 h3;subst h3;exact Done.calm hm ⟨rfl,_,by simp only[execOp,hop,h1];rfl,h2⟩
  simp only at hr;split at hr
  ·rename_i k p q he;have hr:=A4 hr;subst hr;rw[he]at hx;obtain⟨b,t,oo,_,_,_,hv⟩:=IJ hx;exact fin hv (hv▸hx) hu.v_inv
  ·rename_i k p i q uu he;have hr:=A4 hr;subst hr;rw[he]at hx;obtain⟨b,t,oo,n,e,o',_,_,_,_,_,_,hv⟩:=Z2 hx;exact fin hv (hv▸hx) hu.v_inv
  ·rename_i k g i q uu he;have hr:=A4 hr;subst hr;rw[he]at hx;obtain⟨b,oo,len,cap,e,o',_,_,_,_,_,hv⟩:=N5 hx;exact fin hv (hv▸hx) hu.v_inv
  ·rename_i t y he;have hr:=A4 hr;subst hr;rw[he]at hx;obtain⟨ad,c,hv,_⟩:=OW hx;exact fin hv (hv▸hx) hu.v_inv
  ·rename_i e y he;have hr:=A4 hr;subst hr;rw[he]at hx;obtain⟨z,hz,rfl⟩:=hu.may_inv;have hz:y=some z:=hz;subst hz;obtain⟨c,hc,ad,h2,h3,cc,h4,h5⟩:=hx;have hv:a.eval x=.pointer (some ad):=A8.1 ((show c=[a.eval x]from hc).symm.trans h2);exact fin (s:=.ref e z) hv ⟨_,rfl,ad,cc,rfl,h3,h4,h5⟩ rfl
  ·rename_i f cc he;have hr:=A4 hr;subst hr;rw[he]at hx;obtain⟨c,hc,vs,h1,h2⟩:=hx;have hv:a.eval x=.func (.func f) #[] vs:=A8.1 ((show c=[a.eval x]from hc).symm.trans h1);exact finF (s:=.fn f cc) hv ⟨_,rfl,vs,rfl,h2⟩ hu.v_inv
  ·rename_i nd d c F he;have hr:=A4 hr;subst hr;rw[he]at hx;obtain⟨cc,hc,f,vs,h1,h2⟩:=hx;have hv:a.eval x=.func (.func f) #[] vs:=A8.1 ((show cc=[a.eval x]from hc).symm.trans h1);exact finF (s:=.hof nd d c F) hv ⟨_,rfl,f,vs,rfl,h2⟩ hu.v_inv
  ·rename_i d c y he;have hr:=A4 hr;subst hr;rw[he]at hx;obtain⟨F,hF,rfl⟩:=hu.may_inv;have hF:y=some F:=hF;subst hF;obtain⟨cc,hc,h2⟩:=hx;obtain⟨f,vs,h3,h4⟩:=w7 h2;have hv:a.eval x=.func (.func f) #[] vs:=A8.1 ((show cc=[a.eval x]from hc).symm.trans h3);exact finF (s:=.hof false d c F) hv ⟨_,rfl,f,vs,rfl,by rw[<-hE.pin];exact⟨h4.1,fun w' I' he hm x l hx y hy=>(h4.2 w' I' he hm x l hx y hy).mono fun _ _ ⟨rv,I'',q1,q2,q3,_⟩=>⟨rv,I'',q1,q2,q3,fun h=>by cases h⟩⟩⟩ rfl
  ·cases hr
 |convert st t x=>
  rw[hop]at hr;simp only at hr;have hx:=hρ (by simp[hop]) x (by simp[hop,Op.operands]);split at hr
  ·rename_i sy ty hst hty;have hls:=hE.ty _ _ hst;have hsrc:∃d,P.underlying st=some d:=let ⟨d,hd,_⟩:=hls.isAgg;⟨d,hd⟩
   have hlt:=hE.ty _ _ hty;have hex:∃wf:Bool,(bif wf then jA self (E.el t) ty (ρ x)else j9 σ' sy ty (ρ x))=some r:=⟨_,hr⟩;clear hr;obtain⟨wf,hr⟩:=hex;cases wf with
   |true=>
    simp only[AA]at hr;unfold jA at hr;split at hr
    ·rename_i s he;have hr:=A4 hr;subst hr;rw[hu.pure_inv];rw[he]at hx;obtain⟨z,w',h1,h2⟩:=A9a (wr:=true) hlt (fun x hx=>hE.el _ _ hx) hsrc hm hself hx;exact Done.makes ⟨z,w',by simp[execOp,hop,h1],h2⟩
    ·cases hr
   |false=>
   simp only[AC]at hr;unfold j9 at hr;split at hr
   ·split at hr
    ·rename_i s he;have hr:=A4 hr;subst hr;rw[hu.v_inv];rw[he]at hx;obtain⟨z,w',h1,h2⟩:=A9_ hlt hsrc hm hx;exact Done.makes ⟨z,w',by simp[execOp,hop,h1],h2⟩
    ·cases hr
   ·split at hr
    ·rename_i s he;rw[he]at hx;obtain⟨h1,z,h2,h3⟩:=x8 (t:=.str) hlt hsrc (s:=.val .str s) rfl (show Gives (.v (.val .str s)) u from by have:=A4 hr;rw[this];exact hu) hx;exact Done.calm hm ⟨h1,z,by simp[execOp,hop,h2],h3⟩
    ·cases hs:sy.same (.slice (.int .u8))with
     |false=>rw[hs]at hr;cases hr
     |true=>
      rw[hs]at hr;have es:=Ty.same_eq hs;subst es;simp only[AA]at hr;split at hr
      ·rename_i xs hxs;have hr:=A4 hr;subst hr;obtain⟨s,hs',rfl⟩:=hu.may_inv;obtain⟨z,h2,h3⟩:=A9d (G:=G) hlt hls (JA ho hxs hx) hs';exact Done.calm hm ⟨rfl,z,by simp[execOp,hop,h2],h3⟩
      ·cases hr
   ·obtain⟨h1,z,h2,h3⟩:=x8 hlt hsrc hr hu hx;exact Done.calm hm ⟨h1,z,by simp[execOp,hop,h2],h3⟩
  ·cases hr
 |typeAssert x xt t ok=>
  rw[hop]at hr;cases ok with
  |false=>cases hr
  |true=>
   simp only at hr;have hx:=hρ (by simp[hop]) x (by simp[hop,Op.operands]);split at hr
   ·rename_i ty uu y hty he;rw[he]at hx;cases hi:ty.isIface with
    |true=>rw[hi]at hr;cases hr
    |false=>
     rw[hi]at hr;simp only[AC]at hr;split at hr
     ·rename_i f hf;have hr:=A4 hr;subst hr;rw[hu.v_inv];obtain⟨z,h2,h3⟩:=AAT (P:=P) (w:=w) (G:=G) (xt:=xt) (hE.ty _ _ hty) hi hf hx;exact Done.calm hm ⟨rfl,z,by simp[execOp,hop,h2],h3⟩
     ·cases hr
   ·cases hr
 |call c=>
  obtain⟨cal,as,ts⟩:=c;rw[hop]at hr;cases cal with
  |invoke ro m=>
   simp only at hr;have h1:=hρ (by simp[hop]) ro (by simp[hop,Op.operands,Call.operands]);split at hr
   ·rename_i c has hty;exact AAP hE.fs hE.drs hE.mt hm hop has h1 hr hu
   ·cases hr
  |value fo=>
   have h1:=hρ (by simp[hop]) fo (by simp[hop,Op.operands,Call.operands])
   exact AAM hE.pin hE.fs hE.ks hE.drs hE.drE hm hσ hfree hop h1 (by simp) (fun j s x hj hx=>by
    rw[AK,hx]at hj;cases hj;have hmem:=AP hx;exact hρ (by simp[hop]) x (by simp[hop,Op.operands,Call.operands];right;simpa using hmem)) hr hu
  |builtin b=>
   have hargs:∀x∈as.toList,SR P w G (ρ x) (a.eval x):=fun x hx=>hρ (by simp[hop]) x (by simp[hop,Op.operands,Call.operands];simpa using hx);cases b<;>first|(cases hr;done)|skip
   case append=>
    rcases has:as.toList with _|⟨s,_|⟨x,_|⟨y,rr⟩⟩⟩<;>simp only[has]at hr<;>first|(cases hr;done)|skip
    rcases hts:ts.toList with _|⟨t,_|⟨t',_|⟨t'',rr⟩⟩⟩<;>simp only[hts]at hr<;>first|(cases hr;done)|skip
    cases htt:Nat.beq t t' with
    |false=>
     rw[htt]at hr;simp only[AC]at hr;split at hr
     ·rename_i ty ty' hty hty';have eas:as= #[s,x]:=by apply C8;simpa using has
      have ets:ts= #[t,t']:=by apply C8;simpa using hts
      subst eas ets;obtain⟨z,w',h1,h2⟩:=AAh (ty:=o.type) (wf:=(match o.dst with|some d=>E.wr d|none=>false)) (hE.ty _ _ hty) (hE.ty _ _ hty') (fun x hx=>hE.el _ _ hx) hm hσ hself hr hu (hargs s (by simp)) (hargs x (by simp));exact Done.makes ⟨z,w',by simp[execOp,hop,resolve,invoke,builtin,h1],h2⟩
     ·cases hr
    |true=>
     rw[htt]at hr;have:=A3 htt;subst this;simp only[AA]at hr;split at hr
     ·rename_i ty hty;have eas:as= #[s,x]:=by apply C8;simpa using has
      have ets:ts= #[t,t]:=by apply C8;simpa using hts
      subst eas ets;cases had:YE σ' self (E.el t) ty (ρ s) (ρ x)with
      |some r1=>
       rw[had]at hr;have hr:=A4 hr;subst hr;obtain⟨z,w',h1,h2⟩:=AAd (ty:=o.type) (hE.ty _ _ hty) (fun x hx=>hE.el _ _ hx) hm hσ hself (hfree _ (by omega) (by omega)) had hu (hargs s (by simp)) (hargs x (by simp));exact Done.makes ⟨z,w',by simp[execOp,hop,resolve,invoke,builtin,h1],h2⟩
      |none=>
      rw[had]at hr;simp only at hr;obtain⟨z,w',h1,h2⟩:=AAg (ty:=o.type) (wf:=(match o.dst with|some d=>E.wr d|none=>false)) (hE.ty _ _ hty) (fun x hx=>hE.el _ _ hx) hm hσ hself hr hu (hargs s (by simp)) (hargs x (by simp));exact Done.makes ⟨z,w',by simp[execOp,hop,resolve,invoke,builtin,h1],h2⟩
     ·cases hr
   case len=>
    rcases has:as.toList with _|⟨x,_|⟨y,rr⟩⟩<;>simp only[has]at hr<;>first|(cases hr;done)|skip
    rcases hts:ts.toList with _|⟨t,_|⟨t',rr⟩⟩<;>simp only[hts]at hr<;>first|(cases hr;done)|skip
    split at hr
    ·rename_i ty hty;have eas:as= #[x]:=by apply C8;simpa using has
     have ets:ts= #[t]:=by apply C8;simpa using hts
     subst eas ets;obtain⟨h1,z,h2,h3⟩:=A8o (hE.ty _ _ hty) ho hr hu (hargs x (by simp)) #[t] rfl o.type;exact Done.calm hm ⟨h1,z,by simp[execOp,hop,resolve,invoke,builtin,h2],h3⟩
    ·cases hr
   case max=>
    rcases has:as.toList with _|⟨x,_|⟨y,_|⟨yy,rr⟩⟩⟩<;>simp only[has]at hr<;>first|(cases hr;done)|skip
    ·have eas:as= #[x,y]:=by apply C8;simpa using has
     subst eas;split at hr
     ·rename_i k m l n hx hy;have h1:=hargs x (by simp);have h2:=hargs y (by simp);rw[hx]at h1;rw[hy]at h2;obtain⟨e1,e2⟩:=h1.int;obtain⟨e3,e4⟩:=h2.int;cases hk:LH k l with
      |false=>rw[hk]at hr;cases hr
      |true=>
       rw[hk]at hr;have:=QN hk;subst this;have hr:=A4 hr;subst hr;rw[hu.v_inv];obtain⟨z,h5,h6⟩:=A9q (P:=P) (w:=w) (G:=G) ts o.type e2 e4;exact Done.calm hm ⟨rfl,z,by simp[execOp,hop,resolve,invoke,builtin,e1,e3,h5],h6⟩
     ·cases hr
   case min=>
    rcases has:as.toList with _|⟨x,_|⟨y,_|⟨yy,rr⟩⟩⟩<;>simp only[has]at hr<;>first|(cases hr;done)|skip
    ·have eas:as= #[x,y]:=by apply C8;simpa using has
     subst eas;split at hr
     ·rename_i k m l n hx hy;have h1:=hargs x (by simp);have h2:=hargs y (by simp);rw[hx]at h1;rw[hy]at h2;obtain⟨e1,e2⟩:=h1.int;obtain⟨e3,e4⟩:=h2.int;cases hk:LH k l with
      |false=>rw[hk]at hr;cases hr
      |true=>
       rw[hk]at hr;have:=QN hk;subst this;have hr:=A4 hr;subst hr;rw[hu.v_inv];obtain⟨z,h5,h6⟩:=A9p (P:=P) (w:=w) (G:=G) ts o.type e2 e4;exact Done.calm hm ⟨rfl,z,by simp[execOp,hop,resolve,invoke,builtin,e1,e3,h5],h6⟩
     ·cases hr
 |_=>cases hop▸hr
theorem MemS.swap(hm:MemS P fr free σ w G){k:Nat}{o o':Obj}(hk:σ k=some o)(ho:ObjOK P fr w G k o')(hb:∀b,Bk G k o' b->Bk G k o b):
 MemS P fr free (ER σ [(k,some o')]) w G:=by
 refine⟨fun j p h=>?_,fun i j o1 o2 b' hi hj hbi hbj=>?_,hm.after,fun j hj=>?_⟩
 ·rw[FX]at h;by_cases e:j=k
  ·rw[if_pos e]at h;cases h;subst e;exact ho
  ·rw[if_neg e]at h;exact hm.objs j p h
 ·rw[FX]at hi hj;by_cases e1:i=k<;>by_cases e2:j=k
  ·rw[e1,e2]
  ·rw[if_pos e1]at hi;rw[if_neg e2]at hj;cases hi;subst e1;exact hm.sep i j o o2 b' hk hj (hb _ hbi) hbj
  ·rw[if_neg e1]at hi;rw[if_pos e2]at hj;cases hj;subst e2;exact hm.sep i j o1 o b' hi hk hbi (hb _ hbj)
  ·rw[if_neg e1]at hi;rw[if_neg e2]at hj;exact hm.sep i j o1 o2 b' hi hj hbi hbj
 ·have hf:=hm.fresh j hj;refine⟨?_,hf.2⟩;rw[FX,if_neg (fun e=>?_)]
  ·exact hf.1
  ·subst e;rw[hf.1]at hk;cases hk
theorem MemS.freeze(hm:MemS P fr free σ w G){k:Nat}{o o':Obj}(hk:σ k=some o){C:Nat->Prop}(hC:∀b,C b->Bk G k o b)
 (ho:GLe w G w {G with im:=⟨fun b off=>G.im.cell b off\/C b,G.im.obj⟩}->ObjOK P fr w {G with im:=⟨fun b off=>G.im.cell b off\/C b,G.im.obj⟩} k o')(hb:∀b,¬Bk {G with im:=⟨fun b off=>G.im.cell b off\/C b,G.im.obj⟩} k o' b):
 ∃G',GLe w G w G'/\MemS P fr free (ER σ [(k,some o')]) w G':=by
 have hle:GLe w G w {G with im:=⟨fun b off=>G.im.cell b off\/C b,G.im.obj⟩}:=⟨⟨fun _ _ h=>⟨.inl h,rfl⟩,fun _ h=>⟨h,rfl⟩⟩,fun _ _ _ h=>h,fun _ _ h=>h,fun _ _ h=>h⟩;refine⟨_,hle,fun j p h=>?_,fun i j o1 o2 b' hi hj hbi hbj=>?_,?_,fun j hj=>?_⟩
 ·rw[FX]at h;by_cases e:j=k
  ·rw[if_pos e]at h;cases h;subst e;exact ho hle
  ·rw[if_neg e]at h;exact(hm.objs j p h).keep hle fun b hb=>⟨rfl,fun off hoff=>hoff.resolve_right fun hc=>e (hm.sep j k p o b h hk hb (hC b hc)),id⟩
 ·rw[FX]at hi hj;by_cases e1:i=k<;>by_cases e2:j=k
  ·rw[e1,e2]
  ·rw[if_pos e1]at hi;cases hi;subst e1;exact absurd hbi (hb _)
  ·rw[if_pos e2]at hj;cases hj;subst e2;exact absurd hbj (hb _)
  ·rw[if_neg e1]at hi;rw[if_neg e2]at hj;exact hm.sep i j o1 o2 b' hi hj (by rw[<-GN (hm.objs i o1 hi) hle];exact hbi) (by rw[<-GN (hm.objs j o2 hj) hle];exact hbj)
 ·have ha:=hm.after;refine⟨ha.ext.trans hle.ext,ha.heap,ha.size,fun b off h=>?_,ha.newO,fun b off h=>?_,ha.inO,ha.os,ha.tape,ha.output,ha.pins.ext hle.ext⟩
  ·rcases h with h|h
   ·exact ha.newC b off h
   ·exact .inr (MG (hm.objs k o hk) (hC b h))
  ·rcases h with h|h
   ·exact ha.inC b off h
   ·exact HW (hm.objs k o hk) (hC b h)
 ·have hf:=hm.fresh j hj;refine⟨?_,hf.2⟩;rw[FX,if_neg (fun e=>?_)]
  ·exact hf.1
  ·subst e;rw[hf.1]at hk;cases hk
theorem AAj(hm:MemS P fr free σ w G){k:Nat}{o:Obj}(hk:σ k=some o):∃G',GLe w G w G'/\MemS P fr free (ER σ [(k,some (HS o))]) w G':=by
 have hsame:∀{o':Obj},σ k=some o'→∃G',GLe w G w G'∧MemS P fr free (ER σ [(k,some o')]) w G':=fun {o'} h=>
  ⟨G,GLe.refl _ _,hm.swap h (hm.objs k o' h) fun _ h=>h⟩
 have hfresh:∀j,free j->j≠k/\free j/\G.ety j=none/\G.box j=none/\∀g,G.val j g=none:=by
  intro j hj;have hf:=hm.fresh j hj;exact⟨fun e=>(by subst e;rw[hf.1]at hk;cases hk),hj,hf.2⟩
 cases o with
 |box t c wr=>
  cases wr with
  |false=>exact hsame hk
  |true=>
   obtain⟨b,cs,el,q1,q2,q3,q4,q5,q6,q7,q8⟩:=hm.objs k _ hk;let G':Gh:={G with im:=⟨fun b' off=>G.im.cell b' off\/(b'=b/\off<t.sz),G.im.obj⟩}
   have hle:GLe w G w G':=⟨⟨fun _ _ h=>⟨.inl h,rfl⟩,fun _ h=>⟨h,rfl⟩⟩,fun _ _ _ h=>h,fun _ _ h=>h,fun _ _ h=>h⟩
   refine ⟨G',hle,hm.change (b:=b) hle (fun j o' hj ho' hb=>hj (hm.sep j k o' _ b ho' hk hb (by simp [Bk,q1]))) (fun _ _ _=>rfl) (AM _) (RQ q2) q8.1
    (fun b' off h=>h.imp id fun h=>h.1) (fun _ h=>.inl h) rfl rfl rfl (fun o' ho'=>?_) hfresh⟩
   cases ho';exact⟨⟨b,cs,el,q1,q2,q3,q4,q5.mono hle,⟨(fun h=>by cases h),fun _ off h=>.inr ⟨rfl,h⟩⟩,q7,q8⟩,by intro b' hb';simp[Bk,HS,G',q1]at hb';exact .inl hb'.symm⟩
 |sl el t xs g wr=>
  cases wr with
  |false=>exact hsame hk
  |true=>
   obtain⟨h0,v,h1,h2⟩:=hm.objs k _ hk;rcases h2 with⟨rfl,rfl⟩|⟨b,cap,cs,rfl,q1,q2,q3,q4,q5,q6,q7,q8⟩
   ·exact⟨G,GLe.refl _ _,hm.swap hk ⟨h0,_,h1,.inl ⟨rfl,rfl⟩⟩ fun b hb=>by simp[HS,Bk,h1]at hb⟩
   ·let G':Gh:={G with im:=⟨fun b' off=>G.im.cell b' off\/(b'=b/\off<xs.length*t.sz),G.im.obj⟩}
    have hle:GLe w G w G':=⟨⟨fun _ _ h=>⟨.inl h,rfl⟩,fun _ h=>⟨h,rfl⟩⟩,fun _ _ _ h=>h,fun _ _ h=>h,fun _ _ h=>h⟩
    refine ⟨G',hle,hm.change (b:=b) hle (fun j o' hj ho' hb=>hj (hm.sep j k o' _ b ho' hk hb (by simp [Bk,h1]))) (fun _ _ _=>rfl) (AM _) (q2.lt) q5
     (fun b' off h=>h.imp id fun h=>h.1) (fun _ h=>.inl h) rfl rfl rfl (fun o' ho'=>?_) hfresh⟩
    cases ho';refine⟨⟨h0,_,h1,.inr ⟨b,cap,cs,rfl,q1,q2,q3,fun i x hx=>(q4 i x hx).ext hle.ext,q5,(fun h=>by cases h),fun _ off=>⟨fun h=>.inr ⟨rfl,h⟩,fun h=>?_⟩,q8⟩⟩,by intro b' hb';simp[Bk,HS,G',h1]at hb';exact .inl hb'.symm⟩;rcases h with h|h
    ·exact absurd h (q6 rfl off)
    ·exact h.2
 |mp a c es wr=>
  cases wr with
  |false=>exact hsame hk
  |true=>
   obtain⟨v,h1,b,ents,clock,rfl,q1,q2,q3,q4,q5,q6⟩:=hm.objs k _ hk;let G':Gh:={G with im:=⟨G.im.cell,fun b'=>G.im.obj b'\/b'=b⟩}
   have hle:GLe w G w G':=⟨⟨fun _ _ h=>⟨h,rfl⟩,fun _ h=>⟨.inl h,rfl⟩⟩,fun _ _ _ h=>h,fun _ _ h=>h,fun _ _ h=>h⟩
   refine ⟨G',hle,hm.change (b:=b) hle (fun j o' hj ho' hb=>hj (hm.sep j k o' _ b ho' hk hb (by simp [Bk,h1]))) (fun _ _ _=>rfl) (AM _) (RQ q1) q6
    (fun b' off h=>.inl h) (fun b' h=>h) rfl rfl rfl (fun o' ho'=>?_) hfresh⟩
   cases ho';exact⟨⟨_,h1,b,ents,clock,rfl,q1,q2,fun i x e hx he=>⟨(q3 i x e hx he).1.ext hle.ext,(q3 i x e hx he).2.ext hle.ext⟩,⟨(fun h=>by cases h),fun _=>.inr rfl⟩,q5,q6⟩,by intro b' hb';simp[Bk,HS,G',h1]at hb';exact .inl hb'.symm⟩
 |dp ids t x gk h wr=>
  cases h with
  |some p=>exact hsame hk
  |none=>
   cases wr with
   |false=>exact hsame hk
   |true=>
    cases ids with
    |nil=>exact absurd (hm.objs k _ hk) id
    |cons id r=>
     obtain⟨_,_,v,us,bs,h1,h2,h3,h4,h5⟩:=DpOK.inv (hm.objs k _ hk)
     exact hm.freeze (o':=.dp (id::r) t x gk none false) hk (C:=(·∈bs)) (fun b hb=>⟨rfl,us,h2,(K_ h3).2 hb⟩)
      (fun hle=>⟨v,h1,h5.rel hle.ext fun b hb off=>.inr hb⟩) (fun b hb=>by cases hb.1)
 |kn f c=>exact hsame hk
 |kv t x=>exact hsame hk
theorem AAk(o:Obj):HS (HS o)=HS o:=by
 cases o with
 |dp ids t x gk h wr=>cases h<;>rfl
 |_=>rfl
theorem kM:∀{fz:List (Nat×Option Obj)} {G:Gh},MemS P fr free σ w G->(∀p∈fz,∃o,σ p.1=some o/\p.2=some (HS o))->∃G',GLe w G w G'/\MemS P fr free (ER σ fz) w G':=by
 intro fz;induction fz with
 |nil=>intro G hm _;exact⟨G,GLe.refl _ _,hm⟩
 |cons p r ih=>
  intro G hm h;obtain⟨G1,h1,h2⟩:=ih hm fun q hq=>h q (AI _ hq);obtain⟨k,x⟩:=p;obtain⟨o,ho,hx⟩:=h (k,x) AN;have hx:x=some (HS o):=hx;have ho:σ k=some o:=ho;subst hx
  have hk:∃o1,ER σ r k=some o1/\HS o1=HS o:=by
   have:∀(r:List (Nat×Option Obj)),(∀p∈r,∃o,σ p.1=some o/\p.2=some (HS o))->∃o1,ER σ r k=some o1/\HS o1=HS o:=by
    intro r;induction r with
    |nil=>intro _;exact⟨o,ho,rfl⟩
    |cons q r ih2=>
     intro hr;obtain⟨j,y⟩:=q;obtain⟨o',ho',hy⟩:=hr (j,y) AN;have hy:y=some (HS o'):=hy;have ho':σ j=some o':=ho';subst hy;by_cases e:k=j
     ·subst e;rw[ho]at ho';cases ho';exact⟨HS o,by simp[ER,CI],AAk o⟩
     ·obtain⟨o1,a1,a2⟩:=ih2 fun q hq=>hr q (AI _ hq);refine⟨o1,?_,a2⟩;simp only[ER];rw[show Nat.beq k j=false by rw[<-BM];exact fun hh=>e (A3 hh)];exact a1
   exact this r fun q hq=>h q (AI _ hq)
  obtain⟨o1,a1,a2⟩:=hk;obtain⟨G2,h3,h4⟩:=AAj h2 a1;refine⟨G2,h1.trans h3,?_⟩;rw[a2]at h4;have e:ER σ ((k,some (HS o))::r)=ER (ER σ r) [(k,some (HS o))]:=GD σ [(k,some (HS o))] r;rw[e];exact h4
theorem kN{ks:List Nat}:∀p∈LL σ ks,∃o,σ p.1=some o/\p.2=some (HS o):=by
 induction ks with
 |nil=>intro p hp;cases hp
 |cons k r ih=>
  intro p hp;simp only[LL]at hp;split at hp
  ·rename_i o ho;rcases B6.1 hp with rfl|hp
   ·exact⟨o,ho,rfl⟩
   ·exact ih p hp
  ·exact ih p hp
theorem UT(hm:MemS P fr free σ w G)(l:List Sh)(vs:List SV):∃G',GLe w G w G'/\MemS P fr free (MC σ l vs) w G':=kM hm kN
theorem AAl{l:List (Nat×Option Obj)}(hσ:∀k o,σ' k=some o->σ k=some o):∀k o,ER σ' l k=some o->ER σ l k=some o:=by
 induction l with
 |nil=>exact hσ
 |cons p r ih=>
  intro k o h;obtain⟨j,x⟩:=p;simp only[ER]at h ⊢;cases hb:Nat.beq k j with
  |true=>rw[hb]at h;exact h
  |false=>rw[hb]at h;exact ih k o h
theorem AAm{E:Env}(hE:EnvOK P fr.dr E)(hm:MemS P fr free σ w G)(hσ:∀k o,σ' k=some o->σ k=some o)(hfree:∀k,self<=k->k<self+8->free k){o:Oper}{a:Act}{ρ ρt ρf:Operand->SV}
 (hρ:(∀c x y,o.op≠.pick c x y)->∀x∈o.op.operands,SR P w G (ρ x) (a.eval x))
 (hpick:∀c x y,o.op=.pick c x y->SR P w G (ρ c) (a.eval c)/\(a.eval c=.bool true->SR P w G (ρt x) (a.eval x))/\(a.eval c=.bool false->SR P w G (ρf y) (a.eval y)))
 {r:OpRes}{u:Upd}(hr:RG E ρ ρt ρf σ' self o=some r)(hu:Gives r u):Done P fr.dr o a w (Res P fr free self σ w G u):=by
 unfold RG at hr;split at hr
 ·rename_i r0 hr0;cases hr;obtain⟨G1,g1,g2⟩:=kM (fz:=LL σ' (YK E ρ σ' o)) hm fun p hp=>let ⟨ob,h1,h2⟩:=kN p hp;⟨ob,hσ _ _ h1,h2⟩
  have hu0:∃u0,Gives r0 u0/\u=⟨u0.sv,u0.wr++LL σ' (YK E ρ σ' o)⟩:=by
   cases r0 with
   |pure u0=>exact⟨u0,.pure u0,hu.pure_inv⟩
   |may α m d f=>
    obtain⟨x,hx,rfl⟩:=hu.may_inv;exact⟨f x,.may hx,rfl⟩
  obtain⟨u0,hu0,rfl⟩:=hu0;refine(AAi hE g2 (AAl hσ) hfree (fun h x hx=>(hρ h x hx).mono g1) (fun c x y h=>?_) hr0 hu0).mono fun v w' hres=>?_
  ·obtain⟨h1,h2,h3⟩:=hpick c x y h;exact⟨h1.mono g1,fun hh=>(h2 hh).mono g1,fun hh=>(h3 hh).mono g1⟩
  ·obtain⟨G',k1,k2,k3⟩:=hres;exact⟨G',g1.trans k1,by rw[GD];exact k2,k3⟩
 ·cases hr
end
end Go.Ev
