/-
  The evaluator's functions: a function of the program keeps what the evaluator says.
-/
import Derived.Test.YtloinlpkjpmnbaaGreatDoorE2
set_option linter.unusedVariables false
set_option linter.unusedSimpArgs false
set_option linter.unusedSectionVars false
set_option maxRecDepth 100000
namespace Go.Ev
variable{k b f j i id el ty id2:Nat}{t:Ty}{o:Oper}{ow:Nat->Prop}{fs:Nat->Option FSpec}{m:String}{vs cs vals ds:List Value}{rv v vx vk:Value}{s:SV}{a:Act}{r:OpRes}{args:List SV}{bs q:List Nat}{u:Upd}{sl:Nat->SV}{tv:Nat->Value}{ks:Nat->Option KSpec}{as:Array Operand}{ts:Array TypeId}{ents:Array MapEntry}{bss:List (List Nat)}{h:Option (List Nat)}{ρ ρt ρf:Operand->SV}
variable [Pins]
section
variable{P:Program}{fr:Fr}{free free':Nat->Prop}{self:Nat}{σ σ':SSo}{w w':World}{G G':Gh}{I:Im}
theorem MemS.back(q:MemS P fr free σ w G){c:SV}(d:G.box k=some (b,t)){wr:Bool}(H:ObjOK P fr w G k (.box t c wr))(E:∀j A,σ j=some A->¬Bk G j A b):
 MemS P fr free (EN σ [(k,some (.box t c wr))]) w G:=by
 have z:∀{a},Bk G k (.box t c wr) a->b=a:=by intro a h;simpa[Bk,d]using h
 refine⟨λj o h=>?_,λi j C D a v l r s=>?_,q.after,λj l=>?_⟩
 .rw[FP]at h;by_cases e:j=k
  .grind
  .rw[if_neg e]at h;exact q.objs j o h
 .rw[FP]at v l;by_cases x:i=k<;>by_cases y:j=k
  .rw[x,y]
  .grind
  .grind
  .rw[if_neg x]at v;rw[if_neg y]at l;exact q.sep i j C D a v l r s
 .have B:=q.fresh j l;refine⟨?_,B.2⟩;rw[FP,if_neg (λe=>?_)]<;>grind
theorem MemS.backO(d:MemS P fr free σ w G){o:Obj}(D:ObjOK P fr w G k o)(z:¬free k)(C:∀b,Bk G k o b->∀j l,σ j=some l->¬Bk G j l b):
 MemS P fr free (EN σ [(k,some o)]) w G:=by
 refine⟨λj l h=>?_,λi j A B x s a q r=>?_,d.after,λj a=>?_⟩
 .rw[FP]at h;by_cases e:j=k
  .grind
  .rw[if_neg e]at h;exact d.objs j l h
 .rw[FP]at s a;by_cases t:i=k<;>by_cases v:j=k
  .rw[t,v]
  .grind
  .grind
  .rw[if_neg t]at s;rw[if_neg v]at a;exact d.sep i j A B x s a q r
 .have y:=d.fresh j a;refine⟨?_,y.2⟩;rw[FP,if_neg (λe=>?_)]<;>grind
def BoxArgs(G:Gh):List Sh->List SV->List Value->Prop
 | .box c::ps,s::ss,v::vs=>(∃k u b,s=.ptr k [] u/\G.box k=some (b,c.ty)/\v=.pointer (some ⟨b,0,none⟩))/\BoxArgs G ps ss vs
 | .bld _ false::ps,s::ss,v::vs=>(∃k u b,s=.ptr k [] u/\G.box k=some (b,GS)/\v=.pointer (some ⟨b,0,none⟩))/\BoxArgs G ps ss vs
 | .io _ t::ps,s::ss,v::vs=>((∃k,s=.obj k 0/\G.val k 0=some v/\G.ety k=some t)\/(s=.nilS/\v=.slice none 0 0))/\BoxArgs G ps ss vs
 |_::ps,_::ss,_::vs=>BoxArgs G ps ss vs
 |_,_,_=>True
theorem AF4:∀{ps:List Sh} {ss:List SV} {vals:List Value} {r:TupR (ps.filter F3)} {n:Nat} {bs:List Nat} {free:Nat->Prop},MemS P fr free σ w G->ss.length=ps.length->vals.length=ps.length->
 BoxArgs G ps ss vals->ShL P w G.im (ps.filter F3) r (GD ps vals) bs->bs.Nodup->
 (∀b∈bs,fr.owned b/\∀j o,σ j=some o->¬Bk G j o b)->(∀k,n<=k->k<n+GF (ps.filter F3)->free k)->
 ∃G',Made P fr free σ w G n (n+GF (ps.filter F3)) (I7 ps ss (FB (ps.filter F3) r n)) bs G':=by
 intro ps;induction ps with
 |nil=>
  intro ss vals r n bs free hm _ _ _ h _ _ _;obtain⟨_,rfl⟩:=h;have:I7 [] ss (FB ([]:List Sh) r n)=[]:=by cases ss<;>rfl
  refine⟨G,?_⟩;show Made P fr free σ w G n n (I7 [] ss (FB ([]:List Sh) r n)) [] G;grind[Made.none]
 |cons p ps ih=>
  intro ss vals r n bs free hm Z h0 h5 h h9 T i;cases ss with
  |nil=>cases Z
  |cons s ss=>
   cases vals with
   |nil=>cases h0
   |cons v vals=>
    cases p with
    |box c=>
     obtain⟨⟨k,u,b,rfl,h6,rfl⟩,R⟩:=h5
     have B:∃(x:c.T) (J:TupR (ps.filter F3)) (K Q:List Nat),bs=K++Q/\GE P w G.im (.box c) x [.pointer (some ⟨b,0,none⟩)] K/\ShL P w G.im (ps.filter F3) J (GD ps vals) Q/\
      FB ((Sh.box c::ps).filter F3) r n=FG (.box c) x n::FB (ps.filter F3) J (n+(c.cnt+1)):=by
      have h:ShL P w G.im ([Sh.box c]++ps.filter F3) r ([.pointer (some ⟨b,0,none⟩)]++GD ps vals) bs:=h;obtain⟨K,Q,z,W,N⟩:=h.split rfl;obtain⟨v',Y,I⟩:=W;have Y:Value.pointer (some ⟨b,0,none⟩)=v':=by injection Y
      subst Y;refine⟨_,_,K,Q,z,I,N,?_⟩;exact Y6 (a:=[Sh.box c]) (b:=ps.filter F3) (x:=r) (n:=n)
     obtain⟨x,J,K,Q,rfl,W,N,I⟩:=B;have H:=BD.1 h9;have U:GF ((Sh.box c::ps).filter F3)=c.cnt+1+GF (ps.filter F3):=rfl;rw[U]at i ⊢;obtain⟨G1,D⟩:=ih (n:=n+(c.cnt+1)) hm (by simpa using Z) (by simpa using h0) R N H.2.1 (λb hb=>T b (BZ _ hb)) (λk W N=>i k oa oa);obtain⟨M,C,el,x0,z,rfl,q1,q2,q3,q4,q5,h7⟩:=W
     have x2:M=b:=by
      injection z with z _;injection z with z;injection z with z;injection z with z _ _;exact z.symm
     subst x2;have X:=B9.1 H.1
     have V:∀d∈M::x0,fr.owned d/\∀j o,EN σ (I7 ps ss (FB (ps.filter F3) J (n+(c.cnt+1)))) j=some o->¬Bk G1 j o d:=λd a=>
      ⟨(T d (CH _ a)).1,λj o ho L=>by
       rcases D.own j o d ho L with h|⟨j',O,I,h4⟩<;>grind⟩
     obtain⟨G2,m2,r2,f2⟩:=KP (s:=c) (x:=x) (n:=n+1) D.mem (by rw[D.im];exact q3) X.2 (λd a=>V d (AP _ a)) (λk W N=>⟨i k oa oa,oa⟩);have y2:G2.im=G.im:=m2.im.trans D.im;have h8:=D.le.trans m2.le;have y:G2.box k=some (M,c.ty):=h8.box _ _ h6
     have y3:∀j O,EN (EN σ (I7 ps ss (FB (ps.filter F3) J (n+(c.cnt+1))))) (FG c x (n+1)).obs j=some O->¬Bk G2 j O M:=by
      intro j O ho L;rcases m2.own j O M ho L with h|⟨j',o2,I,h4⟩
      .exact X.1 h
      .grind
     have E:=m2.mem.back (wr:=true) (k:=k) (b:=M) (t:=c.ty) (c:=(FG c x (n+1)).sv) y
      ⟨M,C,el,y,q1,q2,f2,r2,⟨λ_ o=>oc,λh=>ol⟩,oc,(V M AL).1,h7⟩ y3
     have l:I7 (.box c::ps) (.ptr k [] u::ss) (FB ((Sh.box c::ps).filter F3) r n)=
      ([(k,some (.box c.ty (FG c x (n+1)).sv true))]++(FG c x (n+1)).obs)++I7 ps ss (FB (ps.filter F3) J (n+(c.cnt+1))):=by
      rw[I];rfl
     refine⟨G2,h8,y2,?_,?_⟩
     .rw[l,GI,GI];exact E.shrink λj A=>⟨⟨A.1,λe=>A.2 ⟨oa,oa⟩⟩,λe=>A.2 ⟨oa,oa⟩⟩
     .intro j o d A a;rw[l,GI,GI,FP]at A;by_cases e:j=k
      .rw[if_pos e]at A;cases A;subst e;simp only[Bk,y,BH,AO]at a;grind
      .rw[if_neg e]at A;rcases m2.own j o d A a with h|⟨j',O,I,h4⟩
       .grind
       .rcases D.own j' O d I h4 with h|h<;>grind
    |io el t=>
     obtain⟨hs,R⟩:=h5
     have B:∃(x:List t.T) (J:TupR (ps.filter F3)) (K Q:List Nat),bs=K++Q/\GE P w G.im (.io el t) x [v] K/\ShL P w G.im (ps.filter F3) J (GD ps vals) Q/\
      FB ((Sh.io el t::ps).filter F3) r n=FG (.io el t) x n::FB (ps.filter F3) J (n+1):=by
      have h:ShL P w G.im ([Sh.io el t]++ps.filter F3) r ([v]++GD ps vals) bs:=h;obtain⟨K,Q,z,W,N⟩:=h.split rfl;obtain⟨v',Y,I⟩:=W;have Y:v=v':=by injection Y
      subst Y;exact⟨_,_,K,Q,z,I,N,Y6 (a:=[Sh.io el t]) (b:=ps.filter F3) (x:=r) (n:=n)⟩
     obtain⟨x,J,K,Q,rfl,W,N,I⟩:=B;have H:=BD.1 h9;have U:GF ((Sh.io el t::ps).filter F3)=1+GF (ps.filter F3):=rfl;rw[U]at i ⊢;obtain⟨G1,D⟩:=ih (n:=n+1) hm (by simpa using Z) (by simpa using h0) R N H.2.1 (λb hb=>T b (BZ _ hb)) (λk W N=>i k oa oa)
     have V:∀d∈K,fr.owned d/\∀j o,EN σ (I7 ps ss (FB (ps.filter F3) J (n+1))) j=some o->¬Bk G1 j o d:=λd a=>
      ⟨(T d (CH _ a)).1,λj o ho L=>by
       rcases D.own j o d ho L with h|⟨j',O,I,h4⟩<;>grind⟩
     rcases hs with⟨k,rfl,y8,y5⟩|⟨rfl,rfl⟩
     .have y4:=D.le.val _ _ _ y8;have y1:=D.le.ety _ _ y5
      have y7:SlOK fr w G1.im el t x true v∧∀d,Bk G1 k (.sl el t x 0 true) d→d∈K:=by
       rw[D.im];rcases W with⟨z,Y,rfl⟩|⟨d,x1,C,z,rfl,q1,q2,q3,q4,q5,q6,q7⟩
       .have z:v=.slice none 0 0:=by injection z
        subst z;exact⟨.inl ⟨rfl,Y⟩,λd a=>by grind[Bk]⟩
       .have z:v=.slice (some ⟨d,0,none⟩) x.length x1:=by injection z
        subst z;refine⟨.inr ⟨d,x1,C,rfl,q1,q2,q3,q4,(V d oe).1,q5,q6,q7⟩,λz2 a=>?_⟩;grind[Bk,Option.some.injEq]
      have E:=D.mem.backO (k:=k) (o:=.sl el t x 0 true) ⟨y1,v,y4,y7.1⟩ (λhf=>by
       have:=(hm.fresh k hf.1).2.1;grind) (λd a j O z0=>(V d (y7.2 d a)).2 j O z0)
      have l:I7 (.io el t::ps) (.obj k 0::ss) (FB ((Sh.io el t::ps).filter F3) r n)=[(k,some (.sl el t x 0 true))]++I7 ps ss (FB (ps.filter F3) J (n+1)):=by
       rw[I];rfl
      refine⟨G1,D.le,D.im,?_,?_⟩
      .rw[l,GI];exact E.shrink λj A=>⟨A.1,λe=>A.2 ⟨oa,oa⟩⟩
      .intro j o d A a;rw[l,GI,FP]at A;by_cases e:j=k
       .grind
       .rw[if_neg e]at A;rcases D.own j o d A a with h|h<;>grind
     .have l:I7 (.io el t::ps) (.nilS::ss) (FB ((Sh.io el t::ps).filter F3) r n)=I7 ps ss (FB (ps.filter F3) J (n+1)):=by
       rw[I];rfl
      refine⟨G1,D.le,D.im,?_,?_⟩
      .rw[l];exact D.mem.shrink λj A=>⟨A.1,λe=>A.2 ⟨oa,oa⟩⟩
      .intro j o d A a;rw[l]at A;rcases D.own j o d A a with h|h<;>grind
    |bld el c0=>
     cases c0 with
     |true=>exact ih hm (by simpa using Z) (by simpa using h0) h5 h h9 T i
     |false=>
     obtain⟨⟨k,u,b,rfl,h6,rfl⟩,R⟩:=h5
     have B:∃(x:List Int) (J:TupR (ps.filter F3)) (K Q:List Nat),bs=K++Q/\GE P w G.im (.bld el false) x [.pointer (some ⟨b,0,none⟩)] K/\ShL P w G.im (ps.filter F3) J (GD ps vals) Q/\
      FB ((Sh.bld el false::ps).filter F3) r n=FG (.bld el false) x n::FB (ps.filter F3) J (n+2):=by
      have h:ShL P w G.im ([Sh.bld el false]++ps.filter F3) r ([.pointer (some ⟨b,0,none⟩)]++GD ps vals) bs:=h;obtain⟨K,Q,z,W,N⟩:=h.split rfl;obtain⟨v',Y,I⟩:=W;have Y:Value.pointer (some ⟨b,0,none⟩)=v':=by injection Y
      subst Y;refine⟨_,_,K,Q,z,I,N,?_⟩;exact Y6 (a:=[Sh.bld el false]) (b:=ps.filter F3) (x:=r) (n:=n)
     obtain⟨x,J,K,Q,rfl,W,N,I⟩:=B;have H:=BD.1 h9;have U:GF ((Sh.bld el false::ps).filter F3)=2+GF (ps.filter F3):=rfl;rw[U]at i ⊢;obtain⟨G1,D⟩:=ih (n:=n+2) hm (by simpa using Z) (by simpa using h0) R N H.2.1 (λb hb=>T b (BZ _ hb)) (λk W N=>i k oa oa);obtain⟨M,C,y9,p,q,x0,z,rfl,q1,h7,q2,hp,q4,q5,q6⟩:=W
     have x2:M=b:=by
      injection z with z _;injection z with z;injection z with z;injection z with z _ _;exact z.symm
     subst x2;have X:=B9.1 H.1
     have V:∀d∈M::x0,fr.owned d/\∀j o,EN σ (I7 ps ss (FB (ps.filter F3) J (n+2))) j=some o->¬Bk G1 j o d:=λd a=>
      ⟨(T d (CH _ a)).1,λj o ho L=>by
       rcases D.own j o d ho L with h|⟨j',O,I,h4⟩<;>grind⟩
     have y6:GE P w G1.im (.own el (.int .u8) true) x [q] x0:=by
      rw[D.im];rcases q6 with⟨rfl,k1,k2⟩|⟨g,x1,gc,rfl,k1,k2,k3,k4,k5,k6,k7⟩
      .exact .inl ⟨rfl,k1,k2⟩
      .exact .inr ⟨g,x1,gc,rfl,k1,k2,k3,k4,k5,(λ_=>k6),(λh=>ol),k7⟩
     obtain ⟨G2,m2,r2,f2⟩:=eG (n:=n+1) D.mem y6 (λd a=>V d (AP _ a)) (λk W N=>by
      have N:k<n+1+1:=N;grind)
     have y0:(Sh.own el (.int .u8) true).cnt=1:=rfl;rw[y0]at m2;have y2:G2.im=G.im:=m2.im.trans D.im;have h8:=D.le.trans m2.le;have y:G2.box k=some (M,GS):=h8.box _ _ h6
     have y3:∀j O,EN (EN σ (I7 ps ss (FB (ps.filter F3) J (n+2)))) (FG (.own el (.int .u8) true) x (n+1)).obs j=some O->¬Bk G2 j O M:=by
      intro j O ho L;rcases m2.own j O M ho L with h|⟨j',o2,I,h4⟩
      .exact X.1 h
      .grind
     have z1:C.size=2:=by rw[<-BF,q2];rfl
     have E:=m2.mem.back (wr:=true) (k:=k) (b:=M) (t:=GS) (c:=.pr (.slf k) (.obj (n+1) 0)) y
      ⟨M,C,y9,y,q1,z1,⟨_,_,rfl,rfl,f2⟩,⟨[p],[q],q2,⟨M,GS,y,by rcases hp with rfl|rfl<;>simp⟩,r2⟩,⟨λ_ o=>oc,λh=>ol⟩,oc,(V M AL).1,λ_=>h7⟩ y3
     have l:I7 (.bld el false::ps) (.ptr k [] u::ss) (FB ((Sh.bld el false::ps).filter F3) r n)=
      ([(k,some (.box GS (.pr (.slf k) (.obj (n+1) 0)) true))]++(FG (.own el (.int .u8) true) x (n+1)).obs)++I7 ps ss (FB (ps.filter F3) J (n+2)):=by
      rw[I];rfl
     refine⟨G2,h8,y2,?_,?_⟩
     .rw[l,GI,GI];exact E.shrink λj A=>⟨⟨A.1,λe=>A.2 ⟨oa,oa⟩⟩,λe=>A.2 ⟨oa,oa⟩⟩
     .intro j o d A a;rw[l,GI,GI,FP]at A;by_cases e:j=k
      .rw[if_pos e]at A;cases A;subst e;simp only[Bk,y,BH,AO]at a;grind
      .rw[if_neg e]at A;rcases m2.own j o d A a with h|⟨j',O,I,h4⟩
       .grind
       .rcases D.own j' O d I h4 with h|h<;>grind
    |_=>exact ih hm (by simpa using Z) (by simpa using h0) h5 h h9 T i
end
theorem DV.rel{w:World}{I I':Im}(e:Ext w I w I'):∀{ids:List Nat} {x:(E7 ids t).T} {cs:List Value} {bs:List Nat},DV ow w I t ids x none cs bs->
 (∀b∈bs,∀z,I'.cell b z)->Rel w I' (E7 ids t) x cs:=by
 intro ids;induction ids with
 |nil=>intro x cs bs h _;exact Rel.ext e h.2
 |cons id r H=>
  intro x cs bs h A;obtain⟨v,rfl,M,d⟩:=h;rcases d with⟨d,_⟩|⟨_,rfl,a,_⟩|⟨d,b,o,k,l,bss,rfl,J,K,N,O,Q,R,T,rfl,L⟩
  .cases d
  .have a:(show List (E7 r t).T from x)=[]:=a;refine⟨none,0,by rw[a];rfl,by rw[a];exact⟨AH _,BJ _⟩,λ_=>⟨a,rfl⟩,λC h=>ol⟩
  .refine⟨some ⟨b,o,none⟩,k,rfl,J,(λh=>ol),λC q=>?_⟩;cases q;refine⟨λ_=>rfl,λi y G=>?_⟩;have B:=H (L i y G) λD s=>A D (AP _ (X_ s));exact⟨_,⟨B.length,λj E=>⟨A b AL _,dZ K j E⟩⟩,B⟩
theorem A2K:∀(a b:List Sh),GF (a++b)=GF a+GF b:=by
 intro a b;induction a with
 |nil=>simp[GF]
 |cons s a i=>simp only[List.cons_append,GF,i];omega
section
variable{P:Program}{fr:Fr}{free free':Nat->Prop}{self:Nat}{σ σ':SSo}{w w':World}{G G':Gh}{I:Im}
theorem BoxArgs.mono:∀{l:List Sh} {ss:List SV} {vs:List Value},BoxArgs G l ss vs->(∀k b,G.box k=some b->G'.box k=some b)->(∀k g v,G.val k g=some v->G'.val k g=some v)->(∀k t,G.ety k=some t->G'.ety k=some t)->BoxArgs G' l ss vs:=by
 intro l;induction l with
 |nil=>intro ss vs _ _ _ _;assumption
 |cons a l q=>
  intro ss vs h d i e;cases ss with
  |nil=>cases a<;>first|exact trivial|(rename_i r c0;cases c0<;>exact trivial)
  |cons s ss=>
   cases vs with
   |nil=>cases a<;>first|exact trivial|(rename_i r c0;cases c0<;>exact trivial)
   |cons v vs=>
    cases a with
    |box c=>
     obtain⟨⟨k,u,b,j,o,w⟩,x⟩:=h;exact⟨⟨k,u,b,j,d _ _ o,w⟩,q x d i e⟩
    |io el t=>
     obtain⟨j,o⟩:=h;refine⟨j.imp (λ⟨k,y,z,A⟩=>⟨k,y,i _ _ _ z,e _ _ A⟩) id,q o d i e⟩
    |bld el c=>
     cases c with
     |true=>exact q h d i e
     |false=>
      obtain⟨⟨k,u,b,j,o,w⟩,x⟩:=h;exact⟨⟨k,u,b,j,d _ _ o,w⟩,q x d i e⟩
    |_=>exact q h d i e
theorem A2L(M:MemS P fr free σ w G):∀{l:List Sh} {i:List SV} {x:TupR l} {vs:List Value},NX fs σ l i=some x->
 (∀(j:Nat) (s:SV) (v:Value),i[j]?=some s->vs[j]?=some v->SR P w G s v)->BoxArgs G l i vs:=by
 intro l;induction l with
 |nil=>intro i x vs _ _;cases i<;>exact trivial
 |cons a l ih=>
  intro i x vs h U;cases i with
  |nil=>cases a<;>first|exact trivial|(rename_i J c0;cases c0<;>exact trivial)
  |cons s i=>
   cases vs with
   |nil=>cases a<;>first|exact trivial|(rename_i J c0;cases c0<;>exact trivial)
   |cons v vs=>
    have E:=U 0 s v rfl rfl
    have e:BoxArgs G l i vs:=by
     cases l with
     |nil=>cases i<;>exact trivial
     |cons b l=>
      rw[Y4]at h;split at h
      .rename_i x1 x2 B L;exact ih L (λj s v B L=>U (j+1) s v (by simpa using B) (by simpa using L))
      .cases h
    have q:∃y,TL fs σ a s=some y:=by
     cases l with
     |nil=>
      cases i with
      |nil=>exact⟨x,h⟩
      |cons _ _=>cases h
     |cons b l=>
      grind[Y4]
    cases a with
    |box c=>
     refine⟨?_,e⟩;obtain⟨y,d⟩:=q;have d:TK σ c s=some y:=d;unfold TK at d;split at d
     .rename_i k u;split at d
      .rename_i t X hk;cases A:t.same c.ty with
       |false=>grind
       |true=>
        have C:=Ty.same_eq A;subst C;obtain⟨b,r,el,k1,V,_⟩:=M.objs _ _ hk;obtain⟨cc,z,W,I,o,D,R,_,T⟩:=E;rw[k1]at D;cases D
        have N:o=0:=by
         have:Ty.off c.ty []=some o:=R;cases z:c.ty<;>rw[z]at this<;>exact(A2 this).symm
        subst N;have O:[v]=[Value.pointer (some ⟨b,0,none⟩)]:=(show cc=[v]from z).symm.trans T;grind
      .cases d
     .cases d
    |io el t=>
     refine⟨?_,e⟩;obtain⟨y,d⟩:=q
     replace d:L_ σ el t true s=some y:=d
     unfold L_ at d;split at d
     .rename_i k g;split at d
      .rename_i Q I xs g' w1 hk;cases H:(Nat.beq g 0&&Nat.beq g g'&&(Nat.beq el Q&&(bif true then w1 else !w1)))with
       |false=>grind
       |true=>
        rw[H]at d;have d:Ty.cast? (.slice I) (.slice t) xs=some y:=d;simp only[A6]at H;have Y:=A3 H.1.1;have Z:=A3 H.1.2;subst Y Z;obtain⟨C,_⟩:=Ty.cast?_some d;have K:I=t:=by injection C
        subst K;obtain⟨k1,v',V,_⟩:=M.objs _ _ hk;have O:=OZ E;grind
      .cases d
     .obtain⟨cc,z,B⟩:=E;have B:cc=[.slice none 0 0]:=B;have O:v=.slice none 0 0:=AB.1 ((show cc=[v]from z).symm.trans B);grind
     .cases d
    |bld el c=>
     cases c with
     |true=>exact e
     |false=>
     refine⟨?_,e⟩;obtain⟨y,d⟩:=q
     replace d:TJ σ el s=some y:=d
     unfold TJ at d;split at d
     .rename_i k u;split at d
      .rename_i t X hk;cases A:t.same GS with
       |false=>grind
       |true=>
        have C:=Ty.same_eq A;subst C;obtain⟨b,r,el,k1,V,_⟩:=M.objs _ _ hk;obtain⟨cc,z,W,I,o,D,R,_,T⟩:=E;rw[k1]at D;cases D;have N:o=0:=(A2 R).symm;subst N;have O:[v]=[Value.pointer (some ⟨b,0,none⟩)]:=(show cc=[v]from z).symm.trans T;grind
      .cases d
     .cases d
    |_=>exact e
theorem AF5{m:Mk}(h:KN vs rv)(a:vs.length=1)(d:∀(j:Nat) (b:Mk) (v:Value),[m][j]?=some b->vs[j]?=some v->SR P w G b.sv v):SR P w G m.sv rv:=by
 cases vs with
 |nil=>cases a
 |cons v vs=>
  have:vs=[]:=AM (by simpa using a);subst this;have h:rv=v:=h;rw[h];exact d 0 m v rfl rfl
theorem A2M{ms:List Mk}(h:KN vs rv)(d:vs.length=ms.length)(k:ms.length≠1)(l:∀(j:Nat) (b:Mk) (v:Value),ms[j]?=some b->vs[j]?=some v->SR P w G b.sv v):
 SR P w G (.tup (SV.ofList (ms.map (·.sv)))) rv:=by
 have a:rv=.tuple vs.toArray:=by
  cases vs with
  |nil=>exact h
  |cons v vs=>
   cases vs with
   |nil=>grind
   |cons _ _=>exact h
 rw[a];refine⟨_,rfl,vs.toArray,rfl,?_⟩;refine pW (by simp[d]) λj s v e i=>?_;grind
def qA(ms:List Mk):SV:=match ms with
 |[m]=>m.sv
 |_=>.tup (SV.ofList (ms.map (·.sv)))
theorem A2N{ms:List Mk}(h:KN vs rv)(a:vs.length=ms.length)(b:∀(j:Nat) (d:Mk) (v:Value),ms[j]?=some d->vs[j]?=some v->SR P w G d.sv v):SR P w G (qA ms) rv:=by
 cases ms with
 |nil=>exact A2M h a oe b
 |cons m ms=>
  cases ms with
  |nil=>exact AF5 h a b
  |cons e ms=>exact A2M h a oe b
def N8(σ:SSo)(G:Gh):Im:=
 ⟨λb o=>G.im.cell b o\/(∃ k t c,σ k=some (.box t c true)/\G.box k=some (b,t)/\o<t.sz)\/(∃ k id t xs g,σ k=some (.sl id t xs g true)/\Bk G k (.sl id t xs g true) b/\o<xs.length*t.sz)\/∃ k ids t x gk,σ k=some (.dp ids t x gk none true)/\Bk G k (.dp ids t x gk none true) b,
  λb=>G.im.obj b\/∃k a c es,σ k=some (.mp a c es true)/\Bk G k (.mp a c es true) b⟩
theorem M5(w:World):Ext w G.im w (N8 σ G):=⟨λ_ _ h=>⟨.inl h,rfl⟩,λ_ h=>⟨.inl h,rfl⟩⟩
theorem AF6{o:Nat}(h:(N8 σ G).cell b o):G.im.cell b o\/∃k e,σ k=some e/\Bk G k e b:=by
 rcases h with h|⟨k,t,c,a,d,_⟩|⟨k,id,t,l,g,a,d,_⟩|⟨k,i,t,x,j,a,d⟩
 .exact .inl h
 .grind[Bk]
 .grind
 grind
theorem AF7(h:(N8 σ G).obj b):G.im.obj b\/∃k o,σ k=some o/\Bk G k o b:=by
 rcases h with h|⟨k,a,c,e,d,i⟩<;>grind
theorem AF8(a:MemS P fr free σ w G):HY w (N8 σ G):=by
 refine⟨λb o h=>?_,λb h=>?_,a.after.pins.ext (M5 w)⟩
 .rcases AF6 h with h|⟨k,i,d,e⟩
  .exact a.after.mem.1 b o h
  .exact IN (a.objs _ _ d) e
 .rcases AF7 h with h|⟨k,i,d,e⟩
  .exact a.after.mem.2.1 b h
  .exact IN (a.objs _ _ d) e
theorem A2O(A:MemS P fr free σ w G){g:Nat}{x:t.T}(h:XL σ k g t=some x)(z:G.val k g=some v):Rel w (N8 σ G) t x [v]:=by
 unfold XL at h;split at h
 .rename_i id e C g' wr hk;split at h
  .rename_i q;have l:=A3 q;subst l;obtain⟨_,N,d,s⟩:=A.objs _ _ hk;rw[z]at d;cases d;cases wr with
   |false=>exact Rel.cast h ((RO s).ext (M5 w))
   |true=>
    refine Rel.cast h ?_;rcases s with⟨rfl,rfl⟩|⟨b,D,cs,rfl,K,L,M,B,q5,q6,q7,q8⟩
    .exact⟨none,0,rfl,⟨AH _,BJ _⟩,λ_=>⟨rfl,rfl⟩,λR h=>ol⟩
    .refine⟨some ⟨b,0,none⟩,D,rfl,K,(λh=>ol),λR E=>?_⟩;cases E;refine⟨λ_=>rfl,λi y J=>⟨_,⟨?_,λj Z=>?_⟩,(B i y J).ext (M5 w)⟩⟩
     .exact(B i y J).length
     .have Y:i<C.length:=(A9.1 J).1
      have H:i*e.sz+j<C.length*e.sz:=by
       have:(i+1)*e.sz<=C.length*e.sz:=AZ _ Y;rw[CK]at this;omega
      refine⟨.inr (.inr (.inl ⟨k,id,e,C,g,hk,by simp[Bk,z],by simpa using H⟩)),?_⟩;rw[B4,if_pos Z,B5,<-L.cell];simp
  .cases h
 .rename_i a b U wr hk;split at h
  .rename_i q;have l:=A3 q;subst l;obtain⟨N,d,T,ents,o,rfl,K,L,M,B,_⟩:=A.objs _ _ hk;rw[z]at d;cases d;refine Rel.cast h ⟨some T,rfl,(λh=>ol),λb2 I=>?_⟩;cases I;refine⟨?_,ents,o,K,L,λi x e Q O=>⟨(M i x e Q O).1.ext (M5 w),(M i x e Q O).2.ext (M5 w)⟩⟩;cases wr with
   |false=>exact .inl (B.2 rfl)
   |true=>exact .inr ⟨k,a,b,U,hk,by simp[Bk,z]⟩
  .cases h
 .rename_i id r e x' gk X wr hk;split at h
  .rename_i q;simp only[A6]at q;have l:=A3 q.1;subst l;cases wr with
   |false=>
    obtain⟨N,d,s⟩:=A.objs _ _ hk;rw[z]at d;cases d;exact Rel.cast h (Rel.ext (M5 w) s)
   |true=>
    cases X with
    |some p=>cases q.2
    |none=>
     obtain⟨_,_,N,us,bs,d,s,V,h4,W⟩:=DpOK.inv (A.objs _ _ hk);rw[z]at d;cases d;exact Rel.cast h (W.rel (M5 w) λb H h0=>Or.inr (Or.inr (Or.inr ⟨k,_,_,_,_,hk,rfl,us,s,(M3 V).2 H⟩)))
  .cases h
 .cases h
theorem AF9(a:MemS P fr free σ w G){x:t.T}(h:s.asLR σ t=some x)(b:CR P w G s cs):Rel w (N8 σ G) t x cs:=by
 unfold SV.asLR at h;split at h
 .obtain⟨v,d,_,rfl⟩:=b;exact A2O a h d
 .exact(U9 (λk o h=>a.objs k o h) h b).ext (M5 w)
theorem A2P(l:MemS P fr free σ w G):∀{t:Ty} {s:SV} {x:t.T} {cs:List Value},s.asCR σ t=some x->CR P w G s cs->Rel w (N8 σ G) t x cs:=by
 intro t;induction t with
 |prod a b i j=>
  intro s x cs h e;simp only[SV.asCR]at h;split at h
  .split at h
   .rename_i u v q r;cases h;obtain⟨c,d,rfl,A,B⟩:=e;exact⟨c,d,rfl,i q A,j r B⟩
   .cases h
  .exact(U9 (λk o h=>l.objs k o h) h e).ext (M5 w)
 |agg p z=>
  intro s x cs h e;cases s with
  |val u y=>exact Rel.ext (M5 w) (show Rel w G.im p x cs from U8 (p:=p) h e)
  |_=>exact z h e
 |_=>intro s x cs h e;exact AF9 l h e
theorem AFA(r:MemS P fr free σ w G){x:t.T}(h:oM σ t s=some x)(B:SR P w G s v):VRel w (N8 σ G) t x v:=by
 unfold oM at h;split at h
 .rename_i e k u;split at h
  .rename_i A c hk;cases L:A.same e.bare with
   |false=>grind
   |true=>
    rw[L]at h;simp only[A8]at h;have N:=Ty.same_eq L;cases l:c.asCR σ e with
    |none=>grind
    |some y=>
     rw[l]at h;cases h;obtain⟨b,d,el,k1,Z,H,U,I,_⟩:=r.objs _ _ hk;obtain⟨cc,i,W,t2,o,M,R,_,T⟩:=B;rw[k1]at M;cases M
     have Q:o=0:=by
      have:Ty.off A []=some o:=R;cases l:A<;>rw[l]at this<;>exact(A2 this).symm
     subst Q;have D:A.sz=e.sz:=by rw[N,Ty.sz_bare]
     refine⟨cc,i,⟨b,0,none⟩,T,rfl,d.toList,⟨by rw[BF,H,D],λj Y=>?_⟩,A2P r l I⟩;refine⟨.inr (.inl ⟨k,A,c,hk,k1,oc⟩),?_⟩;grind[World.cell?]
  .cases h
 .rename_i k g;obtain⟨c,l,V,H,U,I⟩:=B;have:[v]=[V]:=(show c=[v]from l).symm.trans I;have E:=AB.1 this;subst E;have z:=A2O r h H;refine⟨[v],?_,z⟩;grind[XL,A1b,A1a,id,hk,E7]
 .rename_i u c;cases K:u.same t with
  |false=>grind
  |true=>
   rw[K]at h;have h:c.asCR σ t=some x:=h;have:=Ty.same_eq K;subst this;obtain⟨cc,i,q,C,⟨a,b,rfl,J⟩,X,O⟩:=B;have E:v=.agg q.toArray:=AB.1 ((show cc=[v]from i).symm.trans C);subst E;exact⟨q,rfl,A2P r h O⟩
 .obtain⟨c,C,J⟩:=K9 (λk o h=>r.objs k o h) h B;exact⟨c,C,J.ext (M5 w)⟩
theorem A2Q(a:MemS P fr free σ w G){s:Sh}{sv:SV}{x:s.T}(h:dI σ s sv=some x)(b:SR P w G sv v):UF P w (N8 σ G) s x v []:=by
 cases s with
 |val t=>exact⟨AFA a h b,rfl⟩
 |_=>cases h
theorem AFB{a b:Sh}{r:List Sh}{v:SV}{vs:List SV}:TZ σ (a::b::r) (v::vs)=(match dI σ a v,TZ σ (b::r) vs with
 |some x,some y=>some (x,y)
 |_,_=>none):=rfl
theorem AFC(o:MemS P fr free σ w G):∀{l:List Sh} {d:List SV} {x:TupR l} {vs:List Value},TZ σ l d=some x->d.length=vs.length->
 (∀(j:Nat) (s:SV) (v:Value),d[j]?=some s->vs[j]?=some v->SR P w G s v)->ShL P w (N8 σ G) l x vs []:=by
 intro l;induction l with
 |nil=>
  intro d x vs h e i;cases d with
  |nil=>exact⟨AM e.symm,rfl⟩
  |cons _ _=>cases h
 |cons a l z=>
  intro d x vs h e i;cases d with
  |nil=>cases l<;>cases h
  |cons s d=>
   cases vs with
   |nil=>cases e
   |cons v vs=>
    have k:=i 0 s v rfl rfl;cases l with
    |nil=>
     cases d with
     |nil=>
      have:vs=[]:=AM oc;subst this;exact⟨v,rfl,A2Q o h k⟩
     |cons _ _=>cases h
    |cons b l=>
     rw[AFB]at h;split at h
     .rename_i A B q r;cases h;exact⟨v,vs,[],[],rfl,rfl,A2Q o q k,z r (by simpa using e) λj s v t y=>i (j+1) s v (by simpa using t) (by simpa using y)⟩
     .cases h
theorem A2R{I:Im}{x:t.T}(d:t.lit=true)(h:VRel w' I t x v):SR P w' G (.val t x) v:=by
 obtain⟨c,b,a⟩:=h;refine⟨c,b,?_⟩;cases t with
 |bool=>exact a
 |int k=>exact a
 |str=>exact a
 |_=>cases d
theorem AFD{I:Im}:∀{l:List Sh} {x:TupR l} {vs:List Value} {bs:List Nat} {n:Nat},XK l=true->ShL P w' I l x vs bs->
 (FB l x n).length=l.length/\∀(j:Nat) (m:Mk) (v:Value),(FB l x n)[j]?=some m->vs[j]?=some v->SR P w' G m.sv v:=by
 intro l;induction l with
 |nil=>intro x vs bs n _ _;exact⟨rfl,λj m v h=>ol⟩
 |cons a l y=>
  intro x vs bs n d h;cases a with
  |val t=>
   simp only[XK,A6]at d;cases l with
   |nil=>
    obtain⟨v,rfl,e,_⟩:=h;refine⟨rfl,λj m z i k=>?_⟩;cases j with
    |zero=>cases i;cases k;exact A2R d.1 e
    |succ j=>cases i
   |cons b l=>
    obtain⟨v,o,q,r,rfl,_,⟨e,_⟩,s⟩:=h;grind[FG,FB,List.length_cons,A2R]
  |_=>cases d
theorem After.flat{I1 I2:Im}(a:After (·∈([]:List Nat)) w I1 w' I2)(e:Ext w I w I1)(d:HY w I):After (·∈([]:List Nat)) w I w' I:=
 have i:Ext w I w' I:=⟨λb o h=>⟨h,(a.ext.cell b o (e.cell b o h).1).2⟩,λb h=>⟨h,(a.ext.obj b (e.obj b h).1).2⟩⟩
 ⟨i,a.heap,a.size,λ_ _ h=>.inl h,λ_ h=>.inl h,
  λb o h=>BC (d.1 b o h) a.size,λb h=>BC (d.2.1 b h) a.size,a.os,a.tape,a.output,
  d.2.2.ext i⟩
theorem A2S(C:MemS P fr free σ w G)(Y:∀k o,σ' k=some o->σ k=some o)(d:∀k,self<=k->k<self+8->free k){sp:FSpec}(h5:args.length=vals.length)(R:args.length=sp.ps.length)
 (U:BoxArgs G sp.ps args vals)(p3:BlksOf σ' G (IH σ' sp.ps args) bs)(h0:GF sp.rs+GF (sp.ps.filter F3)<=8){y:TupR (sp.rs++sp.ps.filter F3)}{I':Im}{L M:List Nat}
 (h7:vs.length=sp.rs.length)(h6:KN vs rv)(D:After (·∈bs) w G.im w' I')(r1:ShL P w' I' sp.rs (N7 sp.rs (sp.ps.filter F3) y).1 vs L)(r2:ShL P w' I' (sp.ps.filter F3) (N7 sp.rs (sp.ps.filter F3) y).2 (GD sp.ps vals) M)
 (H:(L++M).Nodup)(r:∀b∈L++M,b∈bs\/w.heap.size<=b):Res P fr free self σ w G (oN σ' self sp args y) rv w':=by
 have B:BlksOf σ G (IH σ' sp.ps args) bs:=λb i=>let ⟨k,N,o,Q,h3⟩:=p3 b i;⟨k,N,o,Y k o Q,h3⟩
 obtain⟨g1,g2⟩:=C.called B D;have q:=BD.1 H
 have E:∀b∈L++M,fr.owned b/\∀j o,EN σ (gone (IH σ' sp.ps args)) j=some o->¬Bk {G with im:=I'} j o b:=by
  intro b i;refine⟨?_,λj o K V=>?_⟩
  .rcases r b i with h|h
   .obtain⟨k,_,o,K,s⟩:=B b h;exact O6 (C.objs k o K) s
   .exact .inl (AT C.after.size h)
  .have z:j ∉ IH σ' sp.ps args/\σ j=some o:=by
    rw[LH]at K;by_cases W:j∈IH σ' sp.ps args
    .grind
    .grind
   have l:Bk G j o b:=by rw[<-GT (C.objs j o z.2) g1];exact V
   rcases r b i with h|h
   .obtain⟨k,hk,o2,X,s⟩:=B b h;have:=C.sep j k o o2 b z.2 X l s;grind
   .have:=IN (C.objs j o z.2) l;omega
 obtain ⟨G2,O⟩:=AF4 (ps:=sp.ps) (ss:=args) (vals:=vals) (n:=self+GF sp.rs) g2 R oa (by
  exact U.mono (λk b h=>h) (λk g v h=>h) (λk t h=>h)) r2 q.2.1 (λb i=>E b (BZ _ i)) (λk N Q=>d k oa oa)
 obtain ⟨G3,m3,e1,Z,e3⟩:=Y5 (l:=sp.rs) (n:=self) O.mem (by rw [O.im]; exact r1) q.1 (λb i=>⟨(E b (CH _ i)).1,λj o K T=>by
  rcases O.own j o b K T with h|⟨j',o',h3,h4⟩<;>grind⟩) (λk N Q=>⟨d k N oa,oa⟩)
 have a:=Y6 (a:=sp.rs) (b:=sp.ps.filter F3) (x:=y) (n:=self)
 have A:(FB (sp.rs++sp.ps.filter F3) y self).take sp.rs.length=FB sp.rs (N7 sp.rs (sp.ps.filter F3) y).1 self:=by
  rw[a,List.take_left' Z]
 have x:(FB (sp.rs++sp.ps.filter F3) y self).drop sp.rs.length=FB (sp.ps.filter F3) (N7 sp.rs (sp.ps.filter F3) y).2 (self+GF sp.rs):=by
  rw[a,List.drop_left' Z]
 refine⟨G3,(g1.trans O.le).trans m3.le,?_,?_⟩
 .show MemS P fr _ (EN σ ((((FB (sp.rs++sp.ps.filter F3) y self).take sp.rs.length).flatMap (·.obs))++(I7 sp.ps args ((FB (sp.rs++sp.ps.filter F3) y self).drop sp.rs.length)++gone (IH σ' sp.ps args)))) w' G3;rw[A,x,GI,GI];refine m3.mem.shrink λj W=>?_
  have J:¬(self<=j/\j<self+8):=λh=>by
   have:=W.2;grind[JO,Bool.and_eq_false_iff,Nat.ble_eq_true_of_le,Nat.blt]
  exact⟨⟨W.1,λe=>J ⟨oa,oa⟩⟩,λe=>J ⟨oa,oa⟩⟩
 .show SR P w' G3 (qA ((FB (sp.rs++sp.ps.filter F3) y self).take sp.rs.length)) rv;grind[A2N]
theorem AFE(hE:∀f sp,fs f=some sp->FI P f/\FunOK P f sp)(hD:fr.dr=true->∀f sp,fs f=some sp->sp.dr=true)(O:MemS P fr free σ w G)(T:∀k o,σ' k=some o->σ k=some o)(W:∀k,self<=k->k<self+8->free k)
 (C:args.length=vals.length)(Y:∀(j:Nat) (s:SV) (v:Value),args[j]?=some s->vals[j]?=some v->SR P w G s v)
 (D:oO fs σ' self f args=some r)(hu:Gives r u):
 FI P f/\Calls P f vals.toArray w λe w'=>∃v,e=.returned v/\Res P fr free self σ w G u v w'/\(fr.dr=true->w.drawn<=w'.drawn):=by
 unfold oO at D;split at D
 .rename_i sp J;obtain⟨A,B⟩:=hE _ _ J
  .split at D
   .rename_i v h4
    have V:Nat.ble (GF (sp.rs++sp.ps.filter F3)) 8=true/\KJ fs σ' sp.ps args=some v:=by
     cases hc:Nat.ble (GF (sp.rs++sp.ps.filter F3)) 8 with
     |false=>grind
     |true=>grind
    obtain⟨hc,K⟩:=V;have M:=C9 hc;rw[A2K]at M;cases D;obtain⟨y,hy,rfl⟩:=hu.may_inv;have i:=O.sub T;obtain⟨bs,p1,p2,p3⟩:=P_ i hE K C Y
    have Q:NX fs σ' sp.ps args=some v:=by
     unfold KJ at K;cases hd:MY (IH σ' sp.ps args)with
     |false=>grind
     |true=>grind
    have h3:=A2L i Q Y
    have H:∀{l:List Sh} {d:List SV} {x:TupR l},NX fs σ' l d=some x->d.length=l.length:=by
     intro l;induction l with
     |nil=>intro d x h;cases d with
      |nil=>rfl
      |cons _ _=>cases h
     |cons a l ih=>
      intro d x h;cases d with
      |nil=>cases l<;>cases h
      |cons s d=>
       cases l with
       |nil=>cases d with
        |nil=>rfl
        |cons _ _=>cases h
       |cons b l=>
        grind[Y4]
    have h2:=H Q;refine⟨A,Calls.mono (B w G.im v vals bs O.after.mem p1 p2 y hy) λe w' X=>?_⟩;obtain⟨rv,vs,I',U,rfl,L,R,z,q,h0,h1,qd⟩:=X;refine⟨rv,rfl,?_,λh=>qd (hD h _ _ J)⟩;obtain⟨b1,b2,rfl,r1,r2⟩:=q.split L;grind[A2S]
   .split at D
    .rename_i v K;cases D;obtain⟨y,hy,rfl⟩:=hu.may_inv;cases N:XK sp.rs with
     |false=>grind
     |true=>
      rw[N]at K;have K:TZ σ' sp.ps args=some v:=K;have i:=O.sub T;have p1:=AFC i K C Y;refine⟨A,Calls.mono (B w (N8 σ' G) v vals [] (AF8 i) p1 .nil y hy) λe w' X=>?_⟩;obtain⟨rv,vs,I',U,rfl,L,R,z,q,_,_,qd⟩:=X;refine⟨rv,rfl,?_,λh=>qd (hD h _ _ J)⟩;have E:=z.flat (M5 w) O.after.mem;obtain⟨g1,g2⟩:=O.called (ks:=[]) (bs:=[]) (λb hb=>by cases hb) E;obtain⟨b1,b2,rfl,r1,r2⟩:=q.split L;obtain⟨f1,f2⟩:=AFD (G:={G with im:=G.im}) (n:=self) N r1;have t:=Y6 (a:=sp.rs) (b:=sp.ps.filter F3) (x:=y) (n:=self)
      have Z:(FB (sp.rs++sp.ps.filter F3) y self).take sp.rs.length=FB sp.rs (N7 sp.rs (sp.ps.filter F3) y).1 self:=by
       rw[t,List.take_left' f1]
      refine⟨_,g1,g2.shrink λj hj=>hj.1,?_⟩;show SR P w' {G with im:=G.im} (qA ((FB (sp.rs++sp.ps.filter F3) y self).take sp.rs.length)) rv;grind[A2N]
    .cases D
 .cases D
theorem A2T{u:SV}{a:Value}(h:MZ s u=true)(d:SR P w G s v)(i:SR P w G u a):v=a:=by
 unfold MZ at h;split at h
 .rename_i k _ j _;have e:=A3 h;subst e;obtain⟨b,t,o,l,q,_,rfl⟩:=JD d;obtain⟨r,A,z,x,y,_,rfl⟩:=JD i;grind
 .cases h
def qB(w:World)(G:Gh)(bx:Bool)(v fv:Value):Prop:=match bx with
 |true=>∃b,v=.pointer (some ⟨b,0,none⟩)/\G.im.cell b 0/\w.cell? ⟨b,0,none⟩=some fv
 |false=>v=fv
theorem A2U(j:∀k o,σ k=some o->ObjOK P fr w G k o){bx:Bool}{c:SV}(h:cW false σ bx s=some (f,c))(l:SR P w G s v):
 ∃vs:Array Value,CR P w G c vs.toList/\qB w G bx v (.func (.func f) #[] vs):=by
 unfold cW at h;split at h
 .split at h
  .cases h;obtain⟨cc,a,vs,A,B⟩:=l;exact⟨vs,B,AB.1 ((show cc=[v]from a).symm.trans A)⟩
  .cases h
 .split at h
  .obtain⟨b,t,o,e,i,_,rfl⟩:=JD l;rw[eF]at i;cases i;split at h
   .rename_i u z y wr hk;cases wr with
    |true=>cases h
    |false=>
     cases h;obtain⟨x,cs,el,k1,d,q,r,C,D,_⟩:=j _ _ hk;rw[e]at k1;cases k1;obtain⟨vs,E,H⟩:=C;refine⟨vs,H,b,rfl,D.2 rfl 0 oc,?_⟩;simp[World.cell?,d,<-BT,E]
   .rename_i z y hk;cases h;obtain⟨x,vs,k1,d,q,r⟩:=j _ _ hk;rw[e]at k1;cases k1;exact⟨vs,r,b,rfl,d,q⟩
   .cases h
  .cases h
def Y7(P:Program)(w:World)(G:Gh)(acc:List (Nat×SV))(am:List (Nat×Value)):Prop:=
 ∀j,(∀s,FU acc j=some s->∃v,FU am j=some v/\SR P w G s v)/\(FU acc j=none->FU am j=none)
theorem UG{α:Type}{x:α}{l:List (Nat×α)}:FU ((j,x)::l) i=if i=j then some x else FU l i:=by
 simp_all[FU,DC,if_neg,Nat.beq,BX,A3]
theorem AFF(V:∀t,SR P w G (sl t) (tv t)):
 ∀{caps:List Nat} {l:List SV} {d b:List (Nat×SV)} {am:List (Nat×Value)} {vs:List Value},TP sl caps l d=some b->l.length=vs.length->
 (∀(j:Nat) (s:SV) (v:Value),l[j]?=some s->vs[j]?=some v->SR P w G s v)->Y7 P w G d am->
 ∃a,Y7 P w G b a/\(∀j v,FU am j=some v->FU a j=some v)/\caps.length=vs.length/\
  ∀(i c:Nat) (v:Value),caps[i]?=some c->vs[i]?=some v->(c<1000000->tv c=v)/\(1000000<=c->FU a (c-1000000)=some v):=by
 intro caps;induction caps with
 |nil=>
  intro l d b am vs h B _ q;cases l with
  |nil=>
   cases h;exact⟨am,q,λ_ _ h=>h,by simpa using B,λi c v h=>by simp at h⟩
  |cons _ _=>cases h
 |cons c caps L=>
  intro l d b am vs h B z q;cases l with
  |nil=>cases h
  |cons s l=>
   cases vs with
   |nil=>cases B
   |cons M vs=>
    have U:=z 0 s M rfl rfl;have o:∀(j:Nat) (C:SV) (v:Value),l[j]?=some C->vs[j]?=some v->SR P w G C v:=λj C v r Q=>z (j+1) C v (by simpa using r) (by simpa using Q);have y:l.length=vs.length:=by simpa using B
    simp only[TP]at h;cases x:Nat.blt c 1000000 with
    |true=>
     rw[x]at h;simp only[A8]at h;have R:c<1000000:=by simpa using x
     grind[MZ,A2T]
    |false=>
     rw[x]at h;simp only[AA]at h
     have R:1000000<=c:=by
      rcases CU c 1000000 with r|r
      .rw[show Nat.blt c 1000000=true by simpa using r]at x;cases x
      .exact r
     cases k:FU d (c-1000000)with
     |some u=>
      rw[k]at h;simp only at h;cases T:MZ u s with
      |false=>grind
      |true=>
       rw[T]at h;obtain⟨a,D,A,E,N⟩:=L h y o q;refine⟨a,D,A,by simp[E],λi O v I J=>?_⟩;cases i with
       |zero=>
        cases I;cases J;refine⟨λh=>oa,λ_=>?_⟩;obtain⟨Y,W,X⟩:=(q (c-1000000)).1 u k;grind[A2T]
       |succ i=>grind
     |none=>
      rw[k]at h;simp only at h
      have H:Y7 P w G ((c-1000000,s)::d) ((c-1000000,M)::am):=by
       intro j;rw[UG,UG];by_cases e:j=c-1000000
       .grind
       .simp only[if_neg e];exact q j
      obtain⟨a,D,A,E,N⟩:=L h y o H;refine⟨a,D,λj v K=>A j v ?_,by simp[E],λi O v I J=>?_⟩
      .rw[UG];by_cases e:j=c-1000000
       .rw[e,(q _).2 k]at K;cases K
       grind
      .cases i with
       |zero=>
        cases I;cases J;refine⟨λh=>oa,λ_=>A _ _ ?_⟩;rw[UG,if_pos rfl]
       |succ i=>grind
theorem AFG(T:∀k o,σ k=some o->ObjOK P fr w G k o)(E:∀t,SR P w G (sl t) (tv t)):
 ∀{kn:List Kn} {b a:List (Nat×SV)} {am:List (Nat×Value)},X6 false σ sl kn b=some a->Y7 P w G b am->
 ∃d,Y7 P w G a d/\(∀j v,FU am j=some v->FU d j=some v)/\
  ∀s:List Value,(∀q∈kn,∀c∈q.caps,1000000<=c->∀v,FU d (c-1000000)=some v->s.getD (c-1000000) undef=v)->∀q∈kn,KO w G.im tv s q:=by
 intro kn;induction kn with
 |nil=>
  intro b a am h z;cases h;exact⟨am,z,λ_ _ h=>h,λ_ _ q V=>by cases V⟩
 |cons q kn W=>
  intro b a am h z;simp only[X6]at h;split at h
  .rename_i f c B;cases x:(Nat.beq f q.f&&MX c)with
   |false=>grind
   |true=>
    rw[x]at h;simp only[A8]at h;simp only[A6]at x;have O:=A3 x.1;split at h
    .rename_i D e;obtain⟨vs,k1,k2⟩:=A2U T B (E q.p);have A:=p_ k1 x.2;obtain⟨L,I,J,X,K⟩:=AFF E e A (pZ k1 oa) z;obtain⟨y,M,N,Y⟩:=W h I;refine⟨y,M,λj v R=>N j v (J j v R),λs U C r=>?_⟩;rcases B2.1 r with rfl|r
     .have H:O5 tv s C=.func (.func f) #[] vs:=by
       unfold O5;rw[<-O]
       have:C.caps.map (JE tv s)=vs.toList:=by
        apply BI;intro i;rw[AV];rcases CU i C.caps.length with l|Q
        .rw[A1 l,A1 oa];simp only[BH,AO];obtain⟨Z,c2⟩:=K i _ _ (A1 l) (A1 oa);unfold JE;grind
        .grind
       rw[this]
      grind[KO,qB]
     grind
    .cases h
  .cases h
theorem A2V{b:List (Nat×SV)}:∀{a:List Nat} {ps:List SV},X0 b a=some ps->ps.length=a.length/\∀(i j:Nat) (s:SV),a[i]?=some j->ps[i]?=some s->FU b j=some s:=by
 intro a;induction a with
 |nil=>intro ps h;cases h;simp
 |cons j a d=>
  grind[X0]
theorem A2W(D:∀k o,σ k=some o->ObjOK P fr w G k o)(H:∀t,SR P w G (sl t) (tv t))
 {x:KX}{ps:List SV}(h:X7 false σ sl x=some ps):
 ∃l,ps.length=l.length/\KxOK w G.im tv l x/\∀(j:Nat) (s:SV) (v:Value),ps[j]?=some s->l[j]?=some v->SR P w G s v:=by
 unfold X7 at h;split at h
 .rename_i d a;cases b:nT x with
  |false=>grind
  |true=>
   rw[b]at a;have a:X6 false σ sl x.kn []=some d:=a;obtain⟨r,z,_,A⟩:=AFG D H a (am:=[]) (λj=>⟨λs h=>(ol),λ_=>rfl⟩);obtain⟨y,J⟩:=A2V h;rw[D7]at y
   have key:∀j s,ps[j]?=some s->∃v,FU r j=some v/\SR P w G s v:=by
    intro j s e;have i:j<ps.length:=(A9.1 e).1;exact(z j).1 s (J j j s (by rw[CY oa]) e)
   refine⟨(List.range x.m).map λj=>(FU r j).getD undef,by simp[y],⟨oe,A _ λq E c B C v I=>?_⟩,λj s v e I=>?_⟩
   .have i:c-1000000<x.m:=by
     unfold nT at b;rw[BV]at b;have:=b q E;rw[BV]at this;have:=this c B;simp only[B_]at this;omega
    grind
   grind
 .cases h
theorem AFH:∀{l:List Sh} {d:List SV} {x:TupR l},NX fs σ l d=some x->d.length=l.length:=by
 intro l;induction l with
 |nil=>intro d x h;cases d with
  |nil=>rfl
  |cons _ _=>cases h
 |cons a l i=>
  intro d x h;cases d with
  |nil=>cases l<;>cases h
  |cons s d=>
   cases l with
   |nil=>cases d with
    |nil=>rfl
    |cons _ _=>cases h
   |cons b l=>
    grind[Y4]
theorem AFI{l:List Sh}{s:List SV}{x:TupR l}(h:KJ fs σ l s=some x):NX fs σ l s=some x:=by
 grind[KJ,MY,IH]
theorem A2X{l m:List SV}{a b:List Value}(h:l.length=a.length)(k1:∀(j:Nat) (s:SV) (v:Value),l[j]?=some s->a[j]?=some v->SR P w G s v)
 (k:∀(j:Nat) (s:SV) (v:Value),m[j]?=some s->b[j]?=some v->SR P w G s v):∀(j:Nat) (s:SV) (v:Value),(l++m)[j]?=some s->(a++b)[j]?=some v->SR P w G s v:=by
 grind
theorem AFJ(hE:∀f sp,fs f=some sp->FI P f/\FunOK P f sp)(hK:∀f s,ks f=some s->(FI P f/\L0 P f s)/\(fr.dr=true->s.sp.dr=true))(Q:MemS P fr free σ w G)(K:∀k o,σ' k=some o->σ k=some o)(l:∀k,self<=k->k<self+8->free k)
 (a:args.length=vals.length)(hs:∀(j:Nat) (s:SV) (v:Value),args[j]?=some s->vals[j]?=some v->SR P w G s v)
 (b:oP ks fs σ' self f args=some r)(hu:Gives r u):
 FI P f/\Calls P f vals.toArray w λe w'=>∃v,e=.returned v/\Res P fr free self σ w G u v w'/\(fr.dr=true->w.drawn<=w'.drawn):=by
 unfold oP at b;split at b
 .rename_i s U;obtain⟨⟨z,A⟩,hD⟩:=hK _ _ U;cases L:(Nat.beq args.length s.n&&Nat.ble (GF (s.sp.rs++s.sp.ps.filter F3)) 8)with
  |false=>grind
  |true=>
   rw[L]at b;simp only[A8]at b;simp only[A6]at L;have hn:=A3 L.1;have i:=C9 L.2;rw[A2K]at i;split at b
   .rename_i ps R;split at b
    .rename_i v W;cases b;obtain⟨y,hy,rfl⟩:=hu.may_inv;have q:=Q.sub K
     have T:∀t,SR P w G (args.getD t .undef) (vals.getD t undef):=by
      intro t;rcases CU t args.length with h0|O
      .grind
      .rw[AD,BY O];exact⟨[_],rfl,trivial⟩
     obtain⟨X,V,Z,e3⟩:=A2W (tv:=λt=>vals.getD t undef) (λk o h=>q.objs k o h) T R;have d:=A2X a hs e3;obtain⟨bs,p1,p2,p3⟩:=P_ q hE W (vs:=vals++X) (by simp[a,V]) d;have D:=AFI W;have N:=A2L q D d;have M:=AFH D;refine⟨z,Calls.mono (A w G.im v vals X bs oa Q.after.mem Z p1 p2 y hy) λe w' hq=>?_⟩;obtain⟨rv,vs,I',Y,rfl,J,H,x,E,B,C,qd⟩:=hq;refine⟨rv,rfl,?_,λh=>qd (hD h)⟩;obtain⟨b1,b2,rfl,r1,r2⟩:=E.split J;exact A2S Q K l (by simp[a,V]) M N p3 i J H x r1 r2 B C
    .cases b
   .cases b
 .cases b
theorem qC{b:Operand}(l:o.op=.call ⟨.value b,as,ts⟩){caps:Array Value}(k:a.eval b=.func (.func f) #[] caps)(j:FI P f):
 (execOp a.eval o).run P w=.ok (.enter f (as.map a.eval++caps)) w:=by
 obtain⟨fn,c,d,e,i⟩:=j;have h:fn.name≠"runtime.NumGoroutine" :=by simpa using e
 have:(callFunc f (as.map a.eval++caps)).run P w=.ok (.enter f (as.map a.eval++caps)) w:=by simp[callFunc,d,h,i]
 grind[execOp,resolve,Deferred.ofValue,invoke]
theorem AFK:∀{l:SV} {vs:List Value},CR P w G l vs->l.list.length<=vs.length->∀(j:Nat) (s:SV) (v:Value),l.list[j]?=some s->vs[j]?=some v->SR P w G s v:=by
 intro l;induction l with
 |scons a b x y=>
  intro vs h q j s v d t;obtain⟨z,r,rfl,⟨c,k,o⟩,A⟩:=h;cases j with
  |zero=>
   have e:a=s:=by simpa[SV.list]using d
   have i:z=v:=by simpa using t
   subst e i;exact⟨c,k,o⟩
  |succ j=>grind[SV.list]
 |_=>intro vs h q j s v d;simp[SV.list]at d
theorem AFL:∀{l:SV} {vs:List Value},CR P w G l vs->MX l=true->l.list.length=vs.length:=by
 intro l;induction l with
 |snil=>intro vs h _;have h:vs=[]:=h;rw[h];rfl
 |scons a b e i=>
  intro vs h hk;obtain⟨v,r,rfl,_,d⟩:=h;simp[SV.list,i d hk]
 |_=>intro vs h hk;cases hk
theorem A2Y{σ:SSo}(C:∀k o,σ k=some o->ObjOK P fr w G k o):∀{d:Ty} {l:List SV} {x:d.T} {vs:List Value},XM σ d l=some x->l.length=vs.length->
 (∀(j:Nat) (s:SV) (v:Value),l[j]?=some s->vs[j]?=some v->SR P w G s v)->ArgsV w G.im d x vs:=by
 have B:∀{d:Ty} {l:List SV} {x:d.T} {vs:List Value},(match l with|[s]=>s.asV σ d|_=>none)=some x->l.length=vs.length->
  (∀(j:Nat) (s:SV) (v:Value),l[j]?=some s→vs[j]?=some v→SR P w G s v)→∃v,vs=[v]∧VRel w G.im d x v:=by
  intro d l x vs h e i;rcases l with _|⟨s,_|⟨_,_⟩⟩<;>first|(cases h;done)|skip
  rcases vs with _|⟨v,_|⟨_,_⟩⟩<;>first|(cases e;done)|skip
  exact⟨v,rfl,K9 C h (i 0 s v rfl rfl)⟩
 intro d;induction d with
 |prod a b D A=>
  intro l x vs h e i;cases l with
  |nil=>cases h
  |cons s r=>
   cases vs with
   |nil=>cases e
   |cons v vs=>
    simp only[XM]at h;split at h
    .rename_i y z q t;cases h;exact⟨v,vs,rfl,K9 C q (i 0 s v rfl rfl),A t (by simpa using e) λj s v q t=>i (j+1) s v (by simpa using q) (by simpa using t)⟩
    .cases h
 |_=>
  intro l x vs h e i;refine B ?_ e i;rcases l with _|⟨s,_|⟨_,_⟩⟩<;>exact h
theorem AFM:∀{c:Ty} {y:c.T} {vs:List Value},ArgsV w G.im c y vs->CR P w G (nO c y) vs:=by
 intro c;induction c with
 |prod a b k i=>
  intro y vs h;obtain⟨v,r,rfl,⟨cs,d,e⟩,j⟩:=h;exact⟨v,r,rfl,⟨cs,d,e⟩,i j⟩
 |_=>
  intro y vs h;obtain⟨v,rfl,cs,d,e⟩:=h;exact⟨v,[],rfl,⟨cs,d,e⟩,rfl⟩
theorem qD{c:Ty}{y:c.T}(h:RetV w G.im c y rv):SR P w G (cF c y) rv:=by
 cases c<;>first|exact h|skip
 obtain⟨vs,rfl,h⟩:=h;exact⟨_,rfl,vs,rfl,AFM h⟩
theorem AFN(U:Pins.P=P)(hE:∀f sp,fs f=some sp->FI P f/\FunOK P f sp)(hK:∀f s,ks f=some s->(FI P f/\L0 P f s)/\(fr.dr=true->s.sp.dr=true))(hD:fr.dr=true->∀f sp,fs f=some sp->sp.dr=true){dr:Bool}(h3:fr.dr=true->dr=true)(E:MemS P fr free σ w G)(B:∀k o,σ' k=some o->σ k=some o)(A:∀k,self<=k->k<self+8->free k)
 {C:Operand}(ho:o.op=.call ⟨.value C,as,ts⟩){sf:SV}(M:SR P w G sf (a.eval C))
 (t:args.length=as.toList.length)(hs:∀(j:Nat) (s:SV) (x:Operand),args[j]?=some s->as.toList[j]?=some x->SR P w G s (a.eval x))(i:oQ dr fs ks σ' self sf args=some r)(X:Gives r u):
 Done P fr.dr o a w (Res P fr free self σ w G u):=by
 unfold oQ at i;split at i
 .rename_i f caps;cases hk:MX caps with
  |false=>grind
  |true=>
   rw[hk]at i;obtain⟨cc,z,vs,H,N⟩:=M;have T:a.eval C=.func (.func f) #[] vs:=AB.1 ((show cc=[a.eval C]from z).symm.trans H);have R:=AFL N hk
   have D:∀(j:Nat) (s:SV) (v:Value),(args++caps.list)[j]?=some s->(as.toList.map a.eval++vs.toList)[j]?=some v->SR P w G s v:=by
    intro j s v hj Q;by_cases h4:j<args.length
    .grind
    .grind[Nat.le_of_not_lt,List.getElem?_append_right,List.length_map,AFK]
   obtain⟨O,h0⟩:FI P f/\Calls P f (as.toList.map a.eval++vs.toList).toArray w λe w'=>∃v,e=.returned v/\Res P fr free self σ w G u v w'/\(fr.dr=true->w.drawn<=w'.drawn):=by
    simp only[A8]at i;split at i
    .rename_i r' V;cases i;exact AFJ hE hK E B A (by simp[t,R]) D V X
    .exact AFE hE hD E B A (vals:=as.toList.map a.eval++vs.toList) (by simp[t,R]) D i X
   refine Done.enter (qC ho T O) ?_
   have e:(as.toList.map a.eval++vs.toList).toArray=as.map a.eval++vs:=by
    apply CA;simp
   grind
 .rename_i nd d c F;cases K:(!dr||nd)with
  |false=>grind
  |true=>
  rw[K]at i;simp only[A8]at i;split at i
  .rename_i x V;cases i;obtain⟨y,W,rfl⟩:=X.may_inv;obtain⟨cc,z,f,vs,H,O,N⟩:=M;have T:a.eval C=.func (.func f) #[] vs:=AB.1 ((show cc=[a.eval C]from z).symm.trans H)
   have Q:=A2Y (λk o h=>E.objs k o (B k o h)) V (vs:=as.toList.map a.eval) (by simp [t]) (λj s v hj Q=>by
    grind)
   refine Done.enter (qC ho T O) ?_
   have l:as.map a.eval++vs=(as.toList.map a.eval).toArray++vs:=by
    apply CA;simp
   rw[l];refine Calls.mono (N w G.im (Ext.refl _ _) E.after.mem x _ Q y W) λe w' hq=>?_;obtain⟨rv,I',rfl,ha,L,qd⟩:=hq;obtain⟨Y,Z⟩:=E.called (ks:=[]) (bs:=[]) (λb J=>by cases J) (ha.mono λb J=>absurd J id);exact⟨rv,rfl,⟨_,Y,Z.shrink λ_ h=>h.1,qD L⟩,λh=>qd oc⟩
  .cases i
 .rename_i d c q;cases K:(!dr)with
  |false=>grind
  |true=>
  rw[K]at i;simp only[A8]at i;split at i
  .rename_i x V;cases i;obtain⟨y,W,rfl⟩:=X.may_inv;obtain⟨F,hF,W⟩:=A_.1 W;have hF:q=some F:=hF;subst hF;obtain⟨cc,z,H⟩:=M;obtain⟨f,vs,H,O,N⟩:=A1Y H;rw[U]at O N;have T:a.eval C=.func (.func f) #[] vs:=AB.1 ((show cc=[a.eval C]from z).symm.trans H)
   have Q:=A2Y (λk o h=>E.objs k o (B k o h)) V (vs:=as.toList.map a.eval) (by simp [t]) (λj s v hj Q=>by
    grind)
   refine Done.enter (qC ho T O) ?_
   have l:as.map a.eval++vs=(as.toList.map a.eval).toArray++vs:=by
    apply CA;simp
   rw[l];refine Calls.mono (N w G.im (Ext.refl _ _) E.after.mem x _ Q y W) λe w' hq=>?_;obtain⟨rv,I',rfl,ha,L,_⟩:=hq;obtain⟨Y,Z⟩:=E.called (ks:=[]) (bs:=[]) (λb J=>by cases J) (ha.mono λb J=>absurd J id);exact⟨rv,rfl,⟨_,Y,Z.shrink λ_ h=>h.1,qD L⟩,λh=>oc⟩
  .cases i
 .cases i
theorem AFO{r:Operand}(s:o.op=.call ⟨.invoke r m,as,ts⟩)(b:as.toList=[])(t:a.eval r=.iface id v)
 (q:(method (P.types.size+Made.depth) id v m).run P w=.ok (f,v) w)(k:FI P f):(execOp a.eval o).run P w=.ok (.enter f #[v]) w:=by
 obtain⟨fn,c,e,i,j⟩:=k;have h:fn.name≠"runtime.NumGoroutine" :=by simpa using i
 have l:(callFunc f #[v]).run P w=.ok (.enter f #[v]) w:=by simp[callFunc,e,h,j]
 have d:as= #[]:=by apply CA;simpa using b
 simp_all[callMethod,Sem.run_bind,run_program,Result.andThen_ok,execOp,resolve,invoke]
theorem AFP(M:∀f sp,fs f=some sp->FI P f/\FunOK P f sp){D:Prop}(L:D->∀f sp,fs f=some sp->sp.dr=true){mt:Nat->Option Nat}
 (N:∀id f,mt id=some f->∀(v:Value) (w:World),(method (P.types.size+Made.depth) id v m).run P w=.ok (f,v) w){c:Ty}(U:HY w G.im):
 ∀{u:Ty} {F:u.T->Option c.T} {x:u.T} {y:c.T} {v:Value},dJ fs mt c u=some F->F x=some y->Rel w G.im u x [v]->
 ∃id d f,v=.iface id d/\(method (P.types.size+Made.depth) id d m).run P w=.ok (f,d) w/\FI P f/\
  Calls P f #[d] w λe w'=>∃rv I',e=.returned rv/\After U6 w G.im w' I'/\RetV w' I' c y rv/\(D->w.drawn<=w'.drawn):=by
 intro u;induction u with
 |inil=>intro F x y v h q _;cases h;cases q
 |ialt id t r _ s=>
  intro F x y v h q A;unfold dJ at h;split at h
  .rename_i f R;cases l:NW t with
   |true=>grind
   |false=>
   rw[l]at h;simp only[AA]at h;split at h
   .rename_i F1 F2 J K;cases h;cases x with
    |inl z=>
     obtain⟨d,cs,B,C,E⟩:=A;have T:=eE (P:=P) (w:=w) (G:=G) (fr:=⟨U6,w,G.im,λ_=>none,false⟩) (σ:=λ_=>none) (D:=D) (λk o h=>ol) M (λh=>.inr ⟨L h,λ_ _ _ _ Q=>by cases Q⟩) J (cs:=[.func (.func f) #[] #[]]) ⟨#[],rfl,rfl⟩;obtain⟨W,V,H,j,i⟩:=T;cases H
     have O:ArgsV w G.im t z [d]:=by
      have:∃v,[d]=[v]/\VRel w G.im t z v:=⟨d,rfl,cs,C,E⟩;cases t with
      |prod a b=>cases l
      |_=>exact this
     have:=i w G.im (Ext.refl _ _) U z [d] O y q;exact⟨id,d,f,AB.1 B,N id f R d w,j,this⟩
    |inr z=>exact s K q A.2
   .cases h
  .cases h
 |_=>intro F x y v h;cases h
theorem AFQ(L:∀f sp,fs f=some sp->FI P f/\FunOK P f sp)(K:fr.dr=true->∀f sp,fs f=some sp->sp.dr=true){mt:String->Nat->Option Nat}
 (M:∀m id f,mt m id=some f->∀(v:Value) (w:World),(method (P.types.size+Made.depth) id v m).run P w=.ok (f,v) w)(D:MemS P fr free σ w G)
 {A:Operand}(O:o.op=.call ⟨.invoke A m,as,ts⟩)(k:as.toList=[])(R:SR P w G s (a.eval A)){c:Ty}
 (i:oR fs mt c m s=some r)(T:Gives r u):Done P fr.dr o a w (Res P fr free self σ w G u):=by
 unfold oR at i;split at i
 .rename_i Y x;split at i
  .rename_i F C;cases i;obtain⟨y,V,rfl⟩:=T.may_inv;obtain⟨cs,B,J⟩:=R
   have q:cs=[a.eval A]:=by
    cases Y with
    |ialt _ _ _=>exact B
    |inil=>exact B
    |_=>cases C
   subst q;obtain⟨X,Z,f,U,t,j,d⟩:=AFP L K (M m) D.after.mem C V J;refine Done.enter (AFO O k U t j) ?_;refine Calls.mono d λe w' Q=>?_;obtain⟨rv,I',rfl,N,z,W⟩:=Q;obtain⟨E,H⟩:=D.called (ks:=[]) (bs:=[]) (λb l=>by cases l) (N.mono λb l=>absurd l id);exact⟨rv,rfl,⟨_,E,H.shrink λ_ h=>h.1,qD z⟩,W⟩
  .cases i
 .cases i
theorem Done.calm(i:MemS P fr free σ w G)(h:u.wr=[]/\∃z,(execOp a.eval o).run P w=.ok (.value z) w/\SR P w G u.sv z):Done P fr.dr o a w (Res P fr free self σ w G u):=by
 obtain⟨b,z,d,e⟩:=h;obtain⟨sv,wr⟩:=u;have b:wr=[]:=b;subst b;exact Done.value d (Res.same i e)
theorem Done.makes(h:∃z w',(execOp a.eval o).run P w=.ok (.value z) w'/\Res P fr free self σ w G u z w'):Done P fr.dr o a w (Res P fr free self σ w G u):=by
 obtain⟨z,w',b,d⟩:=h;exact Done.value b d
theorem Done.writes(h:∃w',(execOp a.eval o).run P w=.ok .skip w'/\Res P fr free self σ w G u undef w'):Done P fr.dr o a w (Res P fr free self σ w G u):=by
 obtain⟨w',b,d⟩:=h;exact Done.skip b d
theorem AFR{a:Ty}{g:a.T->t.T}(h:oV a t=some g){y:a.T}(b:VRel w I a y v):VRel w I t (g y) v:=by
 grind[oV,Ty.same_eq,Option.some.inj]
theorem AFS:∀{u:Ty} {f:u.T->Option t.T} {y:u.T} {v:Value},U0 id t u=some f->Rel w I u y [v]->
 (f y=none/\(v=.nilIface\/∃j x,v=.iface j x/\j≠id))\/∃q x,f y=some q/\v=.iface id x/\VRel w I t q x:=by
 intro u;induction u with
 |inil=>
  intro f y v h b;have h:=A2 h;subst h;have b:[v]=[.nilIface]:=b;grind
 |ialt j a r B i=>
  intro f y v h b;simp only[U0]at h;split at h
  .rename_i fr d;cases l:Nat.beq id j with
   |true=>
    rw[l]at h;simp only[A8]at h;have e:=A3 l;subst e;split at h
    .rename_i g A;have h:=A2 h;subst h;cases y with
     |inl z=>
      obtain⟨x,c,k,o,s⟩:=b;exact .inr ⟨g z,x,rfl,AB.1 k,AFR A ⟨c,o,s⟩⟩
     |inr z=>exact i d b.2
    .cases h
   |false=>
    rw[l]at h;simp only[AA]at h;have h:=A2 h;subst h;cases y with
    |inl z=>
     obtain⟨x,c,k,o,s⟩:=b;refine .inl ⟨rfl,.inr ⟨j,x,AB.1 k,λe=>?_⟩⟩;simp_all
    |inr z=>exact i d b.2
  .cases h
 |_=>intro f y v h;cases h
theorem AFT{u:Ty}{f:u.T->Option t.T}{y:u.T}(h:U0 id t u=some f)(b:VRel w I u y v):Rel w I u y [v]:=by
 obtain⟨c,a,d⟩:=b
 have:c=[v]:=by
  cases u<;>first|exact a|cases h
 grind
theorem Lay.conc(j:Lay P t id)(l:t.isIface=false):∃d,P.underlying id=some d/\∀ms,d≠.interface ms:=by
 cases t with
 |bool=>exact⟨_,j.bool,λ_ h=>ol⟩
 |int k=>exact⟨_,j.int,λ_ h=>ol⟩
 |str=>exact⟨_,j.str,λ_ h=>ol⟩
 |slice e=>obtain⟨_,h,_⟩:=j.slice;grind
 |agg p=>obtain⟨_,h,_⟩:=j.agg;grind
 |arr n e=>obtain⟨_,h,_⟩:=j.arr;grind
 |ptr e=>obtain⟨_,h,_⟩:=j.ptr;grind
 |map a b=>obtain⟨_,_,h,_⟩:=j.map;grind
 |self=>obtain⟨_,h⟩:=j.self;grind
 |opq=>exact j.opq
 |fnc a b=>exact j.fnc
 |unit=>simp[Lay,layB]at j
 |prod a b=>simp[Lay,layB]at j
 |inil=>simp[Ty.isIface]at l
 |ialt i a r=>
  obtain⟨_,d,q,o⟩:=IV j;grind
theorem AFU{u:Ty}{xt:Nat}(k:Lay P t id)(r:t.isIface=false){f:u.T->Option t.T}{y:u.T}(i:U0 id t u=some f)(s:VRel w G.im u y v):
 ∃z,(Instr.typeAssert v xt id true).run P w=.ok z w/\SR P w G (.tup (.scons (.val t ((f y).getD t.dflt)) (.scons (.val .bool (f y).isSome) .snil))) z:=by
 obtain⟨d,a,b⟩:=k.conc r;obtain⟨zv,l,e⟩:=A1t (P:=P) (w:=w) (G:=G) k;rcases AFS i (AFT i s)with⟨h1,h2⟩|⟨q,x,h1,rfl,h3⟩
 .have h:(Instr.typeAssert v xt id true).run P w=.ok (.tuple #[zv,.bool false]) w:=by
   rcases h2 with rfl|⟨j,x,rfl,o⟩
   .cases d<;>first|exact absurd rfl (b _)|simp[Instr.typeAssert,run_underlying a,l]
   .cases d<;>first|exact absurd rfl (b _)|simp[Instr.typeAssert,run_underlying a,l,o]
  refine⟨_,h,_,rfl,_,rfl,_,_,rfl,?_,_,_,rfl,?_,rfl⟩
  .rw[h1];exact e
  .rw[h1];exact⟨_,rfl,rfl⟩
 .have h:(Instr.typeAssert (.iface id x) xt id true).run P w=.ok (.tuple #[x,.bool true]) w:=by
   cases d<;>first|exact absurd rfl (b _)|simp[Instr.typeAssert,run_underlying a]
  refine⟨_,h,_,rfl,_,rfl,_,_,rfl,?_,_,_,rfl,?_,rfl⟩
  .rw[h1];exact h3
  .rw[h1];exact⟨_,rfl,rfl⟩
end
open Go.MapKept
section
variable{P:Program}{fr:Fr}{free free':Nat->Prop}{self:Nat}{σ σ':SSo}{w w':World}{G G':Gh}{I:Im}
theorem eH{eq:t.T->t.T->Bool}(h:N1 t=some eq)(x y:t.T):eq x y=true<->x=y:=by
 cases t<;>simp only[N1]at h<;>first|(cases h;done)|skip
 .have h:=A2 h;subst h;exact(DT (α:=Bool) (a:=x) (b:=y))
 .have h:=A2 h;subst h;exact(DT (α:=Int) (a:=x) (b:=y))
 .have h:=A2 h;subst h;exact(DT (α:=DX) (a:=x) (b:=y))
theorem eI(k:Nat):JO k (k+1)=true:=by
 simp_all[JO,Nat.blt,A6,CS]
theorem A2Z{k v:Ty}{eq:k.T->k.T->Bool}{d:TypeDesc}(hk:KeyAt P w I k eq d){x:k.T}(hx:VRel w I k x vx):∀(b:List (k.T×v.T)) (ents:List MapEntry) (i:Nat),EntsOK w I k v b ents->
 (Instr.findNow d vx ents i=some none/\FM eq x b=none/\(∀z,FK eq x z b=b++[(x,z)])/\(∀q∈b,eq x q.1=false)/\∀e∈ents,e.key≠vx)\/
 (∃j e q,Instr.findNow d vx ents i=some (some (i+j,e.val))/\ents[j]?=some e/\b[j]?=some q/\eq x q.1=true/\FM eq x b=some q.2/\Instr.sameBits 10000 e.key vx=true/\(∀z,FK eq x z b=b.set j (x,z))/\e.key=vx):=by
 intro b;induction b with
 |nil=>
  intro ents i h;have:ents=[]:=AM h.1;subst this;exact .inl ⟨rfl,rfl,λz=>rfl,λq a=>(by cases a),λ_ h=>ol⟩
 |cons q b C=>
  intro ents i h;cases ents with
  |nil=>cases h.1
  |cons e ents=>
   obtain⟨o,t⟩:=h.2 0 q e rfl rfl;obtain⟨s,A,D⟩:=hk.same _ _ _ _ hx o;cases a:eq x q.1 with
   |true=>
    rw[a]at s;exact .inr ⟨0,e,q,by simp[Instr.findNow,s],rfl,rfl,a,by simp[FM,a],(A a).1,λz=>by simp[FK,a],(A a).2⟩
   |false=>
    rw[a]at s;rcases C ents (i+1) ⟨by simpa using h.1,λj y e o t=>h.2 (j+1) y e (by simpa using o) (by simpa using t)⟩with⟨a1,a2,a3,a4,a8⟩|⟨j,l,y,a1,a2,a3,a4,a5,a6,a7,a8⟩
    .exact .inl ⟨by simp[Instr.findNow,s,a1],by simp[FM,a,a2],λz=>by simp[FK,a,a3],λp B=>(B2.1 B).elim (λh=>h▸a) (a4 p),λl r=>(B2.1 r).elim (λh=>h▸D a) (a8 l)⟩
    .exact .inr ⟨j+1,l,y,by grind[Instr.findNow],by simpa using a2,by simpa using a3,a4,by simp[FM,a,a5],a6,λz=>by simp[FK,a,a7],a8⟩
theorem AFV{k e:Ty}(K:Lay P (.map k (.slice e)) id)(y:MemS P fr free σ w G)(q:free self)(d:free (self+1)){r:Option Value}(C:∀x,r=some x->∃H n,x=.int H n):
 ∃z w',(Instr.makeMap id r).run P w=.ok z w'/\Res P fr free self σ w G ⟨.obj self 0,[(self,some (.mg el k e [] none (self+1)))]⟩ z w':=by
 obtain⟨a,b,N,_,_⟩:=K.map
 have v:(Instr.makeMap id r).run P w=.ok (.map (some w.heap.size)) (w.alloc (.map #[] 0)):=by
  cases r with
  |none=>rfl
  |some x=>
   obtain⟨H,n,rfl⟩:=C x rfl;simp[Instr.makeMap,run_underlying N,asInt,asIntOf]
 obtain⟨A,E⟩:=y.ghost d (.tuple #[]);let G0:Gh:=G.addVal (self+1) 0 (.tuple #[])
 have E:MemS P fr (λj=>free j/\j≠self+1) σ w G0:=E;have A:GLe w G w G0:=A;let G':Gh:=G0.addVal self 0 (.map (some w.heap.size))
 have l:G'.val self 0=some (.map (some w.heap.size)):=by simp[G',Gh.addVal]
 have D:G'.val (self+1) 0=some (.tuple #[]):=by simp[G',G0,Gh.addVal]
 have s:∀c,Bk G' self (.mg el k e [] none (self+1)) c->c=w.heap.size:=by
  intro c B;rcases B with B|⟨O,Q,B⟩
  .grind
  .grind
 obtain⟨I,J⟩:=E.new (w':=w.alloc (.map #[] 0)) (G':=G') (o':=.mg el k e [] none (self+1)) (self:=self) ⟨q,oa⟩ rfl rfl rfl rfl (λ_ _ h=>h) (λ_ _ h=>.inl h) rfl
  (λj t=>⟨rfl,rfl,λg=>by simp [G',Gh.addVal,t]⟩) (λM L=>⟨⟨_,#[],l,D,w.heap.size,#[],0,rfl,M,⟨rfl,stamped_empty 0⟩,rfl,λi x e u h=>by simp at h,
   λi j c h=>by simp at h,B3,λh=>absurd (y.after.inO _ h) (AC _),λo h=>absurd (y.after.inC _ _ h) (AC _),y.owned_new⟩,s⟩)
 exact ⟨_,_,v,G',A.trans I,J.shrink λj t=>⟨⟨t.1,λe=>by
  have:=t.2;grind[eI]⟩,t.2⟩,_,rfl,_,l,rfl,rfl⟩
theorem MemS.swapG(r:MemS P fr free σ w G){o o':Obj}(hk:σ k=some o)(B:ObjOK P fr w G k o')(x:∀b,Bk G k o' b->Bk G k o b):
 MemS P fr free (EN σ [(k,some o')]) w G:=by
 refine⟨λj p h=>?_,λi j y z v q a d l=>?_,r.after,λj a=>?_⟩
 .rw[FP]at h;by_cases e:j=k
  .grind
  .rw[if_neg e]at h;exact r.objs j p h
 .rw[FP]at q a;by_cases s:i=k<;>by_cases t:j=k
  .rw[s,t]
  .rw[if_pos s]at q;rw[if_neg t]at a;cases q;subst s;exact r.sep i j o z v hk a (x _ d) l
  .rw[if_neg s]at q;rw[if_pos t]at a;cases a;subst t;exact r.sep i j y o v q hk d (x _ l)
  .rw[if_neg s]at q;rw[if_neg t]at a;exact r.sep i j y z v q a d l
 .have A:=r.fresh j a;refine⟨?_,A.2⟩;rw[FP,if_neg (λe=>?_)]<;>grind
theorem A2_{k:Ty}(G:Lay P (.map k (.slice t)) id){e:Nat}(x:w.heap[b]?=some (.map ents e)){d:TypeDesc}{A B:Nat}(j:P.underlying id=some (.map A B))(y:P.underlying A=some d)
 (q:IsKey d vk){a:Option (Nat×Value)}(E:Instr.findNow d vk ents.toList 0=some a):
 (Instr.lookup id (.map (some b)) vk false).run P w=.ok (match a with|some p=>p.2|none=>.slice none 0 0) w:=by
 have o:=run_checkKey (P:=P) (w:=w) y q ents.isEmpty 9999;obtain⟨J,K,h,H,r⟩:=G.map;rw[j]at h;cases h
 have s:(zeroValue B).run P w=.ok (.slice none 0 0) w:=by
  obtain⟨i,v,C,L,M,D,l⟩:=JP r.inf
  have I:v=.slice none 0 0:=by
   simp only[zv]at l;split at l
   .cases l
   .unfold OY at l;split at l
    .rename_i s;simp only[zc]at s;grind
    .cases l
  subst I;simp[zeroValue,typeInfo,C,D]
 have z:=run_findKey (P:=P) (w:=w) y E;cases a with
 |none=>simp[Instr.lookup,run_underlying j,run_getObj_map x,o,z,s]
 |some p=>simp[Instr.lookup,run_underlying j,run_getObj_map x,o,z]
theorem RU{m:Value}{g:Nat}(a:SR P w G (.obj j g) m):G.val j g=some m:=by
 obtain⟨c,h,v,b,_,k⟩:=a;have:[m]=[v]:=(show c=[m]from h).symm.trans k;grind
theorem AFW(hl:Lay P t id)(hm:MemS P fr free σ w G)(y9:∀k o,σ' k=some o->σ k=some o)(M:free self)(C:free (self+1)){m:SV}{vm:Value}
 (H:dC σ' self t m s=some r)(hu:Gives r u)(y7:SR P w G m vm)(hs:SR P w G s vk):
 ∃z,(Instr.lookup id vm vk false).run P w=.ok z w/\Res P fr free self σ w G u z w:=by
 unfold dC at H;split at H
 .rename_i k v;split at H
  .rename_i j g;split at H
   .rename_i el I l y gk hk;cases E:(Nat.beq g 0&&(I.same k&&(Ty.slice l).same v))with
    |false=>grind
    |true=>
     rw[E]at H;simp only[A8]at H;simp only[A6]at E;have hg:=A3 E.1;have e1:=Ty.same_eq E.2.1;have e2:=Ty.same_eq E.2.2;subst hg e1 e2;split at H
     .rename_i eq a h0 ha;cases H;rw[hu.pure_inv];have L:=y9 _ _ hk;obtain⟨cv,us,q1,q2,Z⟩:=hm.objs _ _ L;have z1:=Z;have h5:=Z;obtain⟨bl,ents,J,rfl,p1,p2,p3,p4,p5,p6,p7,p8,p9⟩:=Z;obtain⟨_,_,_,y2,hh,W⟩:=h5.ents;cases y2;rw[p1]at hh;cases hh;have x2:=RU y7;rw[q1]at x2;cases x2;obtain⟨ka,va,h7,y6,z5⟩:=hl.map;have U:VRel w G.im I a vk:=K8 ha hs;obtain⟨d,hd,K⟩:=pT (P:=P) (w:=w) (I:=G.im) y6 h0
      have h4:∀{i},free i->i≠j:=λ{i} D e=>by
       have h1:=(hm.fresh i D).1;grind
      obtain⟨z,B,hz,N,x1,y8⟩:∃z B,(Instr.lookup id (.map (some bl)) vk false).run P w=.ok z w/\SlOK fr w G.im el l ((FM eq a y).getD []) false z/\
       MgOK fr w G.im el I l y (some a) B (.map (some bl))/\((∀c,Value.map (some c)∈B->Value.map (some c)∈us.toList/\HO z≠.map (some c))/\∀c,HO z=.map (some c)->Value.map (some c)∈us.toList):=by
       rcases A2Z (P:=P) (v:=.slice l) K U y ents.toList 0 W with⟨a1,a2,T,a4,_⟩|⟨i,e,q,a1,a2,T,a4,a5,a6,a7,_⟩
       .refine⟨_,us.toList,A2_ hl p1 h7 hd (K.key _ _ U) a1,?_,⟨bl,ents,J,rfl,p1,p2,p3,λi x e u h1 h2 h3=>?_,p5,p6,p7,p8,p9⟩,λc A=>⟨A,λh=>ol⟩,λc h=>ol⟩
        .have a2:FM eq a y=(none:Option (List l.T)):=a2;rw[a2];exact .inl ⟨rfl,rfl⟩
        grind
       .have Y:i<us.toList.length:=by rw[p3];exact(A9.1 T).1
        obtain⟨b1,b2⟩:=p4 i q e _ T oc (A1 Y);rcases b2 with⟨b2,_⟩|⟨b2,b3⟩
        .cases b2
        have hq:a=q.1:=(eH h0 _ _).1 a4;have T:y[i]?=(some q:Option (I.T×List l.T)):=T;have a5:FM eq a y=(some q.2:Option (List l.T)):=a5;refine⟨e.val,us.toList.set i (Value.map none),A2_ hl p1 h7 hd (K.key _ _ U) a1,oc,⟨bl,ents,J,rfl,p1,p2,by simpa using p3,λi' x e' u h1 h2 h3=>?_,λi1 i2 c h1 h2=>?_,p6,p7,p8,p9⟩,λc A=>?_,λc A=>?_⟩
        .by_cases y4:i=i'
         .subst y4;rw[T]at h1;cases h1;rw[CJ Y]at h3;cases h3;obtain⟨b4,b5⟩:=p4 i q e' _ T h2 (A1 Y);refine⟨b4,.inl ⟨by rw[hq],rfl,?_⟩⟩;rcases b5 with⟨_,_,b5⟩|⟨b5,_⟩
          .exact b5
          .exact⟨_,rfl,RO b5⟩
         grind
        .grind
        .grind[List.getElem?_of_mem,List.getElem?_set_self,List.getElem?_set_ne,List.mem_of_getElem?,List.getElem?_eq_getElem]
        grind
      obtain⟨h9,x0⟩:=y8;refine⟨z,hz,?_⟩;obtain⟨g0,m0⟩:=hm.ghost C (.tuple B.toArray);let G0:Gh:=G.addVal (self+1) 0 (.tuple B.toArray)
      have m0:MemS P fr (λj=>free j/\j≠self+1) σ w G0:=m0;have g0:GLe w G w G0:=g0;have Q:G0.val j 0=some (.map (some bl)):=g0.val _ _ _ q1;have R:G0.val (self+1) 0=some (.tuple B.toArray):=by simp[G0,Gh.addVal]
      have z3:self+1≠j:=h4 C;have z2:self≠j:=h4 M
      have h6:∀c,Bk G0 j (.mg el I l y (some a) (self+1)) c->Bk G0 j (.mg el I l y none gk) c:=by
       intro c A;rcases A with A|⟨z0,h8,A⟩
       .exact .inl A
       .rw[R]at h8;cases h8;exact .inr ⟨us,g0.val _ _ _ q2,(h9 c (by simpa using A)).1⟩
      have m1:=m0.swapG L (o':=.mg el I l y (some a) (self+1)) ⟨_,B.toArray,Q,R,(by simpa using x1:MgOK fr w G.im el I l y (some a) B.toArray.toList (.map (some bl)))⟩ h6;let G':Gh:=(G0.addVal self 0 z).addEty self l
      have O:G'.val self 0=some z:=by simp[G',Gh.addVal,Gh.addEty]
      have V:∀c,Bk G' self (.sl el l ((FM eq a y).getD []) 0 false) c->HO z=.map (some c):=by
       intro c A;simp only[Bk,O]at A;split at A
       .rename_i ad _ _ he;cases he;cases A;rfl
       .cases A
      have y3:free self/\self≠self+1:=⟨M,oa⟩
      obtain⟨g1,m2⟩:=m1.add (G':=G') (o:=.sl el l ((FM eq a y).getD []) 0 false) (k:=self) y3 rfl (λi D=>⟨rfl,by simp[G',Gh.addVal,Gh.addEty,D],λg=>by simp[G',Gh.addVal,Gh.addEty,D]⟩)
       (λz4=>⟨by simp[G',Gh.addVal,Gh.addEty],z,O,N⟩)
       (λc A i o' D E=>by
        have A:=V c A;have y5:=x0 c A;by_cases X:i=j
        .subst X;rw[FP,if_pos rfl]at D;cases D;rcases E with E|⟨z0,h8,E⟩
         .rw[Q]at E;cases E;obtain⟨_,_,y0,y1,_,fz,a5,_⟩:=N.slice A;grind
         grind
        .rw[FP,if_neg X]at D;exact X (m0.sep i j o' _ c D L E (.inr ⟨us,g0.val _ _ _ q2,y5⟩)))
      refine⟨G',g0.trans g1,?_,_,rfl,z,O,?_,rfl⟩
      .have e3:EN σ [(self,some (.sl el l ((FM eq a y).getD []) 0 false)),(j,some (.mg el I l y (some a) (self+1)))]=EN (EN σ [(j,some (.mg el I l y (some a) (self+1)))]) [(self,some (.sl el l ((FM eq a y).getD []) 0 false))]:=
        GI σ [(self,some (.sl el l ((FM eq a y).getD []) 0 false))] [(j,some (.mg el I l y (some a) (self+1)))]
       show MemS P fr (J1 free self) (EN σ [(self,some (.sl el l ((FM eq a y).getD []) 0 false)),(j,some (.mg el I l y (some a) (self+1)))]) w G';rw[e3]
       exact m2.shrink λi D=>⟨⟨D.1,λe=>by
        have:=D.2;grind[eI]⟩,λe=>by
        have:=D.2;grind[eB]⟩
      .rcases N with⟨rfl,_⟩|⟨b,y0,cs,rfl,_⟩<;>rfl
     .cases H
   .cases H
  .cases H
 .cases H
theorem MgOK.put{fr:Fr}{w w':World}{I:Im}{k:Ty}{eq:k.T->k.T->Bool}(E:N1 k=some eq){l:List (k.T×List t.T)}{tk:Option k.T}{D:List Value}{z A:Nat}
 (h:MgOK fr w I el k t l tk D (.map (some z)))(hb:w.heap[z]?=some (.map ents A)){a:k.T}{xs:List t.T}(hx:SlOK fr w I el t xs false vx)(y0:tk=none\/tk=some a)
 (x1:∀c,HO vx=.map (some c)->Value.map (some c) ∉ D)(e:Ext w I w' I)(hw:∀R,R≠z->w'.heap[R]?=w.heap[R]?){b:Array MapEntry}{d:Nat}(hh:w'.heap[z]?=some (.map b d)){N:MapEntry}(hk:VRel w I k a N.key)(Q:N.val=vx)(G:Stamped b d)
 (hp:(FK eq a xs l=l++[(a,xs)]/\(∀q∈l,eq a q.1=false)/\b.toList=ents.toList++[N])\/(∃j q,l[j]?=some q/\eq a q.1=true/\FK eq a xs l=l.set j (a,xs)/\b.toList=ents.toList.set j N)):
 ∃H,MgOK fr w' I el k t (FK eq a xs l) none H (.map (some z))/\∀c,Value.map (some c)∈H->Value.map (some c)∈D\/HO vx=.map (some c):=by
 have B:∀{ys:List t.T} {v:Value},SlOK fr w I el t ys false v->SlOK fr w' I el t ys false v:=by
  intro ys v hs;refine hs.keep e λc Y=>⟨hw c λec=>?_,λ_ h=>h,λh=>h⟩;obtain⟨_,_,h9,U,_,fz,a5,_⟩:=hs.slice Y;rw[ec,hb]at a5;cases a5
 obtain⟨h8,W,M,X,p1,⟨p2,_⟩,p3,p4,p5,p6,p7,p8,p9⟩:=h;cases X;rw[hb]at p1;cases p1;have x2:∀i:Nat,ents[i]?=ents.toList[i]?:=λi=>by rw[BT]
 have h7:∀(i:Nat) (x:k.T×List t.T) (s:MapEntry) (u:Value),l[i]?=some x->ents[i]?=some s->D[i]?=some u->x.1≠a->
  VRel w' I k x.1 s.key/\SlOK fr w' I el t x.2 false s.val/\u=HO s.val:=by
  intro i x s u o r y y1;obtain⟨b1,J⟩:=p4 i x s u o r y;rcases J with⟨J,_⟩|⟨J,b3⟩
  .grind
  .exact⟨b1.ext e,B J,b3⟩
 rcases hp with⟨K,T,L⟩|⟨j,q,K,T,L,c4⟩
 .have x0:∀q∈l,q.1≠a:=λq O V=>by
   have:=T q O;rw[V,(eH E a a).2 rfl]at this;cases this
  refine⟨D++[HO vx],⟨z,b,d,rfl,hh,⟨?_,G⟩,oc,λi x s u o r y=>?_,λi1 i2 c o r=>?_,?_,p7,p8,p9⟩,λc Y=>?_⟩
  .grind[Array.length_toList]
  .rw[K]at o;rw[<-BT,L]at r;by_cases h5:i<l.length
   .grind
   .have h4:l.length<=i:=DE h5;rw[BG h4]at o;rw[BG oc,BF,p2]at r;rw[BG oa,p3]at y
    have X:i-l.length=0:=by
     have:=(A9.1 o).1;simp at this;omega
    rw[X]at o r y;cases o;cases r;cases y;exact⟨hk.ext e,.inr ⟨Q▸B hx,by rw[Q]⟩⟩
  .grind
  .grind
  grind
 .have O:a=q.1:=(eH E _ _).1 T;have hj:j<l.length:=(A9.1 K).1
  have h6:∀(i:Nat) (x:k.T×List t.T),l[i]?=some x->i≠j->x.1≠a:=by
   intro i x hi C V;have o:(l.map (·.1))[i]?=some a:=by rw[AV,hi,<-V];rfl
   have r:(l.map (·.1))[j]?=some a:=by rw[AV,K,O];rfl
   have Z:i<(l.map (·.1)).length:=(A9.1 o).1;exact C ((List.getElem?_inj Z p6).1 (o.trans r.symm))
  refine⟨D.set j (HO vx),⟨z,b,d,rfl,hh,⟨?_,G⟩,oc,λi x s u o r y=>?_,λi1 i2 c o r=>?_,?_,p7,p8,p9⟩,λc Y=>?_⟩
  .grind[Array.length_toList]
  .rw[L]at o;rw[<-BT,c4]at r;by_cases C:j=i
   .subst C;rw[CJ hj]at o;rw[CJ oc]at r;rw[CJ oa]at y;cases o;cases r;cases y;exact⟨hk.ext e,.inr ⟨Q▸B hx,by rw[Q]⟩⟩
   grind
  .grind
  .rw[L,List.map_set,O]
   have:(l.map (·.1)).set j q.1=l.map (·.1):=by
    apply BI;intro n;by_cases hn:j=n
    .grind
    .rw[CM hn]
   grind
  grind
theorem AFX(hl:Lay P t id)(M:MemS P fr free σ w G)(z1:∀k o,σ' k=some o->σ k=some o)(T:free (self+1)){m sx:SV}{vm:Value}
 (E:oJ σ' self t m s sx=some r)(hu:Gives r u)(c1:SR P w G m vm)(hs:SR P w G s vk)(c3:SR P w G sx vx):
 ∃w',(Instr.mapUpdate id vm vk vx).run P w=.ok () w'/\Res P fr free self σ w G u undef w':=by
 unfold oJ at E;split at E
 .rename_i k v;split at E
  .rename_i j g i h;split at E
   .rename_i el K t' B tk gk id2 O C h2 b0 a9;cases hb:(Nat.beq g 0&&((K.same k&&(Ty.slice t').same v)&&(Nat.beq h 0&&(Nat.beq h2 0&&(Nat.beq el id2 && !(Nat.beq i j))))))with
    |false=>grind
    |true=>
     rw[hb]at E;simp only[A8]at E;simp only[A6,BP]at hb;obtain⟨b1,⟨b2,b3⟩,b4,b5,b6,b7⟩:=hb;have e1:=A3 b1;have e2:=Ty.same_eq b2;have e3:=Ty.same_eq b3;have e4:=A3 b4;have e5:=A3 b5;have e6:=A3 b6;subst e1 e2 e3 e4 e5 e6;have z9:i≠j:=λe=>oc
     split at E
     .rename_i eq a ys x0 ha c5;obtain⟨ety,ey⟩:=Ty.cast?_some c5;injection ety with ety;subst ety;cases ey
      have c6:tk=none\/tk=some a->∃w',(Instr.mapUpdate id vm vk vx).run P w=.ok () w'/\Res P fr free self σ w G ⟨.undef,[(j,some (.mg el K O (FK eq a C B) none (self+1))),(i,none)]⟩ undef w':=by
       intro c4;have D:=z1 _ _ b0;have J:=z1 _ _ a9;obtain⟨cv,us,q1,q2,h1⟩:=M.objs _ _ D;obtain⟨_,d1,x1,x2⟩:=M.objs _ _ J;have y8:=RU c3;rw[x1]at y8;cases y8;obtain⟨H,ents,z,z6,hh,Z⟩:=h1.ents;subst z6;have y7:=RU c1;rw[q1]at y7;cases y7;have y3:=h1;obtain⟨c7,z5,z2,h0,p1,p2,p3,p4,p5,p6,p7,p8,p9⟩:=y3;cases h0;rw[hh]at p1;cases p1;obtain⟨ka,va,y5,b8,c9⟩:=hl.map;have Q:VRel w G.im K a vk:=K8 ha hs;obtain⟨d,hd,V⟩:=pT (P:=P) (w:=w) (I:=G.im) b8 x0;have h5:=run_checkKey (P:=P) (w:=w) hd (V.key _ _ Q) false 9999;have y4:=λo'=>heap_set (o':=o') hh
       have h4:∀c,HO vx=.map (some c)->Bk G i (.sl el O C 0 false) c:=by
        intro c R;obtain⟨_,_,c8,z4,e1,_⟩:=x2.slice R;simp only[Bk,x1,e1]
       have A:∀c,HO vx=.map (some c)->Value.map (some c) ∉ us.toList:=λc R a0=>z9 (M.sep i j _ _ c J D (h4 c R) (.inr ⟨us,q2,a0⟩))
       have h3:∀(l:Array MapEntry) (b:Nat) (en:MapEntry),VRel w G.im K a en.key->en.val=vx->Stamped l b->
        ((FK eq a C B=B++[(a,C)]/\(∀q∈B,eq a q.1=false)/\l.toList=ents.toList++[en])\/(∃j q,B[j]?=some q/\eq a q.1=true/\FK eq a C B=B.set j (a,C)/\l.toList=ents.toList.set j en))->
        Res P fr free self σ w G ⟨.undef,[(j,some (.mg el K O (FK eq a C B) none (self+1))),(i,none)]⟩ undef {w with heap:=w.heap.setIfInBounds H (.map l b)}:=by
        intro l b en h7 h9 c2 hp;obtain⟨s1,s2⟩:=y4 (.map l b);have m0:=M.drop i
        have h6:∀y o,EN σ [(i,none)] y=some o->y≠i/\σ y=some o:=by
         intro y o N;rw[FP]at N;by_cases e:y=i
         .grind
         .grind
        have y1:GLe w G {w with heap:=w.heap.setIfInBounds H (.map l b)} G:=GLe.of_heap (b:=H) (λX A=>s2 X A) p8 p7;obtain⟨L,y2,y6⟩:=h1.put x0 hh x2 c4 A y1.ext (w':={w with heap:=w.heap.setIfInBounds H (.map l b)}) (λX A=>s2 X A) s1 h7 h9 c2 hp;obtain⟨Y,m1⟩:=m0.ghost T (.tuple L.toArray);let G0:Gh:=G.addVal (self+1) 0 (.tuple L.toArray)
        have m1:MemS P fr (λj=>free j/\j≠self+1) (EN σ [(i,none)]) w G0:=m1;have Y:GLe w G w G0:=Y;have W:G0.val (self+1) 0=some (.tuple L.toArray):=by simp[G0,Gh.addVal]
        have y0:GLe w G0 {w with heap:=w.heap.setIfInBounds H (.map l b)} G0:=GLe.of_heap (b:=H) (λX A=>s2 X A) p8 p7
        have m2:=m1.change (w':={w with heap:=w.heap.setIfInBounds H (.map l b)}) (G':=G0) (b:=H) (k:=j) (o':=some (.mg el K O (FK eq a C B) none (self+1))) (free':=J1 free self) y0
         (λy o N x I=>by
          obtain⟨z0,x⟩:=h6 y o x;exact N (M.sep y j o _ H x D (by rw[<-GT (M.objs y o x) Y];exact I) (.inl q1)))
         (λX _ A=>s2 X A) oe oc p9 (λ_ _ h=>.inl h) (λ_ h=>.inl h) rfl rfl rfl
         (λo ho=>by
          cases ho;refine⟨⟨_,L.toArray,Y.val _ _ _ q1,W,(by simpa using y2:MgOK fr {w with heap:=w.heap.setIfInBounds H (.map l b)} G.im el K O (FK eq a C B) none L.toArray.toList (.map (some H)))⟩,λc R=>?_⟩;rcases R with R|⟨d0,h8,R⟩
          .rw[Y.val _ _ _ q1]at R;grind
          .rw[W]at h8;cases h8;refine .inr λy oy N x I=>?_;obtain⟨z0,x⟩:=h6 y oy x;rw[GT (M.objs y oy x) Y]at I;rcases y6 c (by simpa using R)with h|h
           .exact N (M.sep y j oy _ c x D I (.inr ⟨us,q2,h⟩))
           .exact z0 (M.sep y i oy _ c x J I (h4 c h)))
         (λy N=>by
          have U:=M.fresh y N.1
          have y9:y≠self+1:=λe=>by
           have:=N.2;grind[eI]
          exact⟨λe=>(oc),⟨N.1,y9⟩,U.2.1,U.2.2.1,λg=>by simp only[G0,Gh.addVal,y9,DM,CL];exact U.2.2.2 g⟩)
        refine⟨G0,Y.trans y0,?_,_,rfl,trivial⟩
        have e3:EN σ [(j,some (.mg el K O (FK eq a C B) none (self+1))),(i,none)]=EN (EN σ [(i,none)]) [(j,some (.mg el K O (FK eq a C B) none (self+1)))]:=
         GI σ [(j,some (.mg el K O (FK eq a C B) none (self+1)))] [(i,none)]
        show MemS P fr (J1 free self) (EN σ [(j,some (.mg el K O (FK eq a C B) none (self+1))),(i,none)]) _ G0;rw[e3];exact m2
       rcases A2Z (P:=P) (v:=.slice O) V Q B ents.toList 0 Z with⟨a1,a2,a3,a4,a8⟩|⟨i',e,q,a1,a2,a3,a4,a5,a6,a7,a8⟩
       .have U:=run_findKey (P:=P) (w:=w) hd a1;refine⟨_,?_,h3 (ents.push {key:=vk,val:=vx,born:=z}) (z+1) {key:=vk,val:=vx,born:=z} Q rfl (stamped_push p2.2 a8) (.inl ⟨a3 C,a4,Array.toList_push⟩)⟩;simp[Instr.mapUpdate,run_underlying y5,run_getObj_map hh,h5,U,run_setObj_map _ hh]
       .have U:=run_findKey (P:=P) (w:=w) hd a1;rw[C4]at U;have z3:ents[i']?=some e:=by rw[<-BT];exact a2
        refine⟨_,?_,h3 (ents.modify i' λe=>{e with key:=vk,val:=vx}) z {e with key:=vk,val:=vx} Q rfl (stamped_modify p2.2 i' _ (λ_ _=>rfl) (λe' _ h=>oc)) (.inr ⟨i',q,a3,a4,a7 C,?_⟩)⟩
        .simp[Instr.mapUpdate,run_underlying y5,run_getObj_map hh,h5,U,z3,Instr.keyThatStays,a6,run_setObj_map _ hh]
        .apply BI;grind
      cases tk with
      |none=>
       cases E;rw[hu.pure_inv];grind
      |some q=>
       cases E;obtain⟨y,N,rfl⟩:=hu.may_inv
       have b9:eq q a=true:=by
        cases b9:eq q a with
        |true=>rfl
        |false=>grind
       simp_all[eH]
     .cases E
   .cases E
  .cases E
 .cases E
theorem eJ{c:List Nat}(h:i<bss.length):(bss.set i c).flatten=(bss.take i).flatten++(c++(bss.drop (i+1)).flatten):=by
 rw[List.set_eq_take_append_cons_drop,if_pos h];simp
theorem qE(h:i<bss.length):bss.flatten=(bss.take i).flatten++(bss.getD i []++(bss.drop (i+1)).flatten):=by
 have:=eJ (c:=bss.getD i []) h;simp_all
theorem qF{c:List Nat}(h:i<bss.length):(bss.set i c).getD j []=if i=j then c else bss.getD j []:=by
 grind
theorem Y8:U7 none i=none:=rfl
theorem qG:U7 (some [j]) i=if j=i then some []else none:=by
 simp_all[U7,DC,if_neg,Nat.beq,BX,A3]
theorem DV.inv1{xs:List t.T}(h:DV ow w I t [id] xs none [v] bs):
 (v=.slice none 0 0/\xs=[]/\bs=[])\/∃b o d a,v=.slice (some ⟨b,o,none⟩) xs.length d/\bs=[b]/\HS xs.length d/\RowAt w b a id/\o+d*t.sz<=a.size/\ow b/\
  (∀c,¬I.cell b c)/\¬I.obj b/\RowsOK w I t xs (a.toList.drop o):=by
 have q:=h;obtain⟨H,r,_,j⟩:=q;have e:v=H:=AB.1 r;subst e;rcases j with⟨j,_⟩|⟨_,k,s,y⟩|⟨_,b,o,d,_,_,l,_⟩
 .cases j
 .exact .inl ⟨k,s,y⟩
 .obtain⟨a,k,z,A,B,C,D,E,G,K⟩:=h.leaf l;exact .inr ⟨b,o,d,a,l,G,z,A,B,C,D,E,λi x J=>by simp_all⟩
theorem DV.mk1{o cap:Nat}{xs:List t.T}{cells:Array Value}(q:HS xs.length cap)(a:RowAt w b cells id)(d:o+cap*t.sz<=cells.size)(e:ow b)
 (j:∀c,¬I.cell b c)(k:¬I.obj b)(l:RowsOK w I t xs (cells.toList.drop o)):DV ow w I t [id] xs none [.slice (some ⟨b,o,none⟩) xs.length cap] [b]:=
 DV.mkleaf q a d e j k λi x h=>by
  have:=l i x h;simp_all
theorem AFY{free:Nat->Prop}{self:Nat}(h:J1 free self j):free j/\¬(self<=j/\j<self+2):=by
 have b:=h.2;refine⟨h.1,λa=>?_⟩
 have:JO self j=true:=by
  simp only[JO,Nat.blt,A6];exact⟨CS a.1,CS oa⟩
 grind
theorem MemS.mk_dp(A:MemS P fr free σ w G)(l:free self)(d:free (self+1)){r:List Nat}{x:(E7 (id::r) t).T}
 (y:DV fr.owned w G.im t (id::r) x none [v] bs)(i:bs.Nodup)(a:∀b∈bs,∀j o,σ j=some o->¬Bk G j o b):
 ∃G',GLe w G w G'/\MemS P fr (J1 free self) (EN σ [(self,some (.dp (id::r) t x (self+1) none true))]) w G'/\SR P w G' (.obj self 0) v:=by
 obtain ⟨G',e,q,_⟩:=A2I (n:=self) A (ids:=id::r) (t:=t) (x:=x) (cs:=[v]) ⟨(by intro h; cases h),y.own λ_ _=>trivial⟩ i (λb s=>⟨(y.blk b s).2.1,a b s⟩) (λk e q=>by
  grind)
 exact⟨G',e.le,e.mem.shrink λj z=>AFY z,[v],rfl,q⟩
theorem N9{r:List Nat}{x:(E7 (id::r) t).T}{d:Nat}{a:Array Value}(e:G.val d 0=some (.tuple a))(i:a.toList=List.map I8 bs):
 Bk G k (.dp (id::r) t x d h true) b<->b∈bs:=by
 constructor
 .rintro⟨_,j,l,o⟩;grind[M3]
 .intro h;exact⟨rfl,a,e,(M3 i).2 h⟩
theorem MemS.touch(r:MemS P fr free σ w G)(C:¬free k)(A:∀j o,j≠k→σ j=some o→¬Bk G j o b)(y:∀o,¬G.im.cell b o)(z:¬G.im.obj b)(q:fr.owned b)
 (x:∀a,a<w.heap.size->a≠b->w'.heap[a]?=w.heap[a]?)(v:w.heap.size<=w'.heap.size)(s:b<w'.heap.size)
 (t:w'.os=w.os)(d:w'.tape=w.tape)(l:w'.output=w.output):
 GLe w G w' G/\MemS P fr free (EN σ [(k,none)]) w' G:=by
 have i:GLe w G w' G:=by
  refine⟨⟨λa o h=>⟨h,?_⟩,λa h=>⟨h,?_⟩⟩,λ_ _ _ h=>h,λ_ _ h=>h,λ_ _ h=>h⟩
  .have:a≠b:=λe=>y o (e▸h);simp only[World.cell?,x a (r.after.inC a o h) this]
  .exact x a (r.after.inO a h) (λe=>z (e▸h))
 refine⟨i,r.change (b:=b) (o':=none) i A x v s q (λ_ _ h=>.inl h) (λ_ h=>.inl h) t d l (λo h=>ol) λj B=>?_⟩;have D:=r.fresh j B;grind
theorem eK{o:Obj}(a:MemS P fr free σ w G)(hk:σ k=some o):¬free k:=λh=>by
 have:=(a.fresh k h).1;grind
theorem AFZ{e':Ty}{gk:Nat}(hl:Lay P (.slice e') id)(hel:∀x,P.underlying id=some (.slice x)->el=x)(hm:MemS P fr free σ w G)(hself:free self)(hself1:free (self+1))
 {xs ys zs:List e'.T}(hkσ:σ k=some (.dp [el] e' xs gk none true))(hs:SR P w G (.obj k 0) v)(hv0:RS P w G.im e' id ys vx)(hz:app? (24*e'.sz) xs ys=some zs):
 ∃z w',(Builtin.append_ #[id,id] ty #[v,vx]).run P w=.ok z w'/\Res P fr free self σ w G ⟨.obj self 0,[(self,some (.dp [el] e' zs (self+1) none true)),(k,none)]⟩ z w':=by
 have hnk:=eK hm hkσ;obtain⟨_,hety,v',us,bs,k1,k2,k3,k4,k5⟩:=DpOK.inv (hm.objs _ _ hkσ);have hv:=RU hs;rw[k1]at hv;cases hv;have hbk:∀b,Bk G k (.dp [el] e' xs gk none true) b<->b∈bs:=λb=>N9 k2 k3;obtain⟨el',hun,hle,hpos⟩:=hl.slice;have:=hel _ hun;subst this;obtain⟨hB,hzs⟩:=Y2 hz;subst hzs;obtain⟨i,z,h1,h2',h3,h4,h5,h6⟩:=N6 (P:=P) (w:=w) (I:=G.im) hle;have hvs:=hv0;obtain⟨news,s1,s2,s3⟩:=hvs;rw[<-h2']at s1
 have fin:∀{w':World} {b o cap:Nat} {cells:Array Value},(∀j ob,j≠k->σ j=some ob->¬Bk G j ob b)->(∀c,¬G.im.cell b c)->¬G.im.obj b->fr.owned b->
  (∀b',b'<w.heap.size->b'≠b->w'.heap[b']?=w.heap[b']?)->w.heap.size<=w'.heap.size->w'.os=w.os->w'.tape=w.tape->w'.output=w.output->
  HS (xs++ys).length cap->RowAt w' b cells el->o+cap*e'.sz<=cells.size->RowsOK w G.im e' (xs++ys) (cells.toList.drop o)->
  Res P fr free self σ w G ⟨.obj self 0,[(self,some (.dp [el] e' (xs++ys) (self+1) none true)),(k,none)]⟩ (.slice (some ⟨b,o,none⟩) (xs++ys).length cap) w':=by
  intro w' b o cap cells a1 a2 a3 a4 a5 a6 a7 a8 a9 a10 a11 a12 a13;obtain⟨g1,m1⟩:=hm.touch (w':=w') hnk a1 a2 a3 a4 a5 a6 a11.lt a7 a8 a9
  obtain ⟨G',g2,m2,m3⟩:=m1.mk_dp hself hself1 (id:=el) (r:=[]) (t:=e') (x:=(xs++ys:List e'.T)) (DV.mk1 (id:=el) (t:=e') a10 a11 a12 a4 a2 a3 (a13.ext g1.ext)) oe (λb' hb' j ob hj hbj=>by
   simp_all[FP,if_pos,if_neg])
  exact ⟨G',g1.trans g2,by
   assumption,m3⟩
 have hnew:(∀j ob,j≠k->σ j=some ob->¬Bk G j ob w.heap.size)/\(∀c,¬G.im.cell w.heap.size c)/\¬G.im.obj w.heap.size:=
  ⟨λj ob _ hj hbj=>absurd (IN (hm.objs j ob hj) hbj) (AC _),λc h=>absurd (hm.after.inC _ _ h) (AC _),λh=>absurd (hm.after.inO _ h) (AC _)⟩
 have grow:∀{base:Option Addr} {cap:Nat} {olds:List Value},cap<xs.length+ys.length->(Builtin.firstCells e'.sz xs.length (.slice base xs.length cap)).run P w.drew=.ok olds.toArray w.drew->
  olds.length=xs.length*e'.sz->RowsOK w G.im e' xs olds->∃z w',(Builtin.append_ #[id,id] ty #[.slice base xs.length cap,vx]).run P w=.ok z w'/\
  Res P fr free self σ w G ⟨.obj self 0,[(self,some (.dp [el] e' (xs++ys) (self+1) none true)),(k,none)]⟩ z w':=by
  intro base cap olds hcap hold hol hor
  have hbig:(xs.length+ys.length)*i.bytes<=140737488355328:=by
   have:(xs.length+ys.length)*i.bytes<=(xs.length+ys.length)*(24*e'.sz):=CC _ h3;have hB:(xs.length+ys.length)*(24*e'.sz)<=70368744177664:=hB;omega
  have hB:(xs.length+ys.length)*(24*e'.sz)<=70368744177664:=hB
  have h63:xs.length+ys.length<=70368744177664:=by
   have:(xs.length+ys.length)*1<=(xs.length+ys.length)*(24*e'.sz):=CC _ oa;omega
  have hrun:=run_append_grow_src w id id ty el i z hun h1 h4 base xs.length cap olds oc vx ys.length news s1 hcap oa (growslice_fits hcap hbig);have hge:=grownCap_ge w (xs.length+ys.length) cap el;have hzs:z.cells.size=e'.sz:=by have:=h6.length;simpa using this
  have:=fin (w':=w.drew.alloc (.cells ((olds++news).toArray++Builtin.zeroCells z.cells (grownCap w (xs.length+ys.length) cap el-(xs.length+ys.length))) el)) (b:=w.heap.size) (o:=0)
   (cap:=grownCap w (xs.length+ys.length) cap el) (cells:=((olds++news).toArray++Builtin.zeroCells z.cells (grownCap w (xs.length+ys.length) cap el-(xs.length+ys.length))))
   hnew.1 hnew.2.1 hnew.2.2 hm.owned_new (λb' h _=>by show(w.heap.push _)[b']?=_;grind) oe rfl rfl rfl
   (by rw[AE];exact⟨hge,oa⟩) ⟨(0,0),by show(w.heap.push _)[_]?=_;simp,.inl (AH _)⟩
   (by
    rw[C4,Array.size_append,size_zeroCells,hzs,BQ,AE,hol,s2,<-CV,<-CV];grind)
   (by
    simp_all[DA,Array.toList_append,CF,RowsOK.append])
  rw[AE]at this;exact⟨_,_,hrun,this⟩
 rcases k5.inv1 with⟨rfl,hx0,hb0⟩|⟨b,o,cap,cells,rfl,hb0,hcap,hrow,hsz,hown,hC,hO,hrows⟩
 .have hx0:xs=([]:List e'.T):=hx0;subst hx0;by_cases h0:ys.length=0
  .have hy:ys=[]:=AM h0;subst hy;have hn:news=[]:=AM (by simpa using s2);subst hn;have m0:=hm.drop k;obtain⟨G',g2,m2,m3⟩:=m0.mk_dp hself hself1 (id:=el) (r:=[]) (t:=e') (x:=([]:List e'.T)) (v:=.slice none 0 0) (bs:=[]) ⟨_,rfl,rfl,.inr (.inl ⟨oq,rfl,rfl,rfl⟩)⟩ B3 (λb hb=>by cases hb);refine⟨.slice none 0 0,w,?_,G',g2,?_,m3⟩
   .have hl1:=s1.len w;have hc1:=s1.cells;simp at hc1;rcases s1.kind with⟨e',hk⟩|hk<;>simp[Builtin.append_,run_underlying hun,run_underlying hk,sizeOf,typeInfo,h1,hl1,hc1]
   assumption
  .exact grow (base:=none) (cap:=0) (olds:=[]) om (run_firstCells_none _ _ _ _ _) oe (λi x hx=>by simp at hx)
 .have hbin:∀j ob,j≠k->σ j=some ob->¬Bk G j ob b:=λj ob hj ho hbj=>hj (hm.sep j k ob _ b ho hkσ hbj ((hbk b).2 (by rw[hb0];simp)));have hle2:xs.length*e'.sz<=cap*e'.sz:=AZ _ hcap.1;have hfull:o+xs.length*e'.sz<=cells.size:=oa
  have hcell:∀o,w.cell? ⟨b,o,none⟩=cells.toList[o]?:=hrow.cell;have hB':(xs.length+ys.length)*(24*e'.sz)<=70368744177664:=hB;by_cases hroom:xs.length+ys.length<=cap
  .have hroom2:(xs.length+ys.length)*e'.sz<=cap*e'.sz:=AZ _ hroom;rw[CV]at hroom2;have hfit:o+xs.length*e'.sz+news.length<=cells.size:=by rw[s2];omega
   obtain⟨fz,hb1,hfz⟩:=(show RowAt w b cells el from hrow);have hst:=Y1 P b (o+xs.length*e'.sz) el fz news 0 cells w hb1 hfz oa s1.one
   have hrun:(Builtin.append_ #[id,id] ty #[.slice (some ⟨b,o,none⟩) xs.length cap,vx]).run P w=
    .ok (.slice (some ⟨b,o,none⟩) (xs.length+ys.length) cap) (w.setRow b (FA cells.toList (o+xs.length*e'.sz) news).toArray):=by
    have hl1:=s1.len w;have hc1:=s1.cells;rw[h2']at hc1;simp only[CT]at hst;rcases s1.kind with⟨e',hk2⟩|hk2<;>simp[Builtin.append_,run_underlying hun,run_underlying hk2,sizeOf,typeInfo,h1,h2',hl1,hroom,hc1,Addr.add_lit,hst,FA]
   have hspl:(FA cells.toList (o+xs.length*e'.sz) news).length=cells.size:=by rw[KZ (by simpa using hfit)];simp
   have:=fin (w':=w.setRow b (FA cells.toList (o+xs.length*e'.sz) news).toArray) (b:=b) (o:=o) (cap:=cap) (cells:=(FA cells.toList (o+xs.length*e'.sz) news).toArray)
    hbin hC hO hown (λb' _ hne=>setRow_other w b b' _ hne) oe rfl rfl rfl
    (by
     rw[AE];have h63:(xs.length+ys.length)*1<=(xs.length+ys.length)*(24*e'.sz):=CC _ oa;exact⟨hroom,oa⟩) (hrow.set (by rw[BQ,hspl])) oc
    (by
     show RowsOK w G.im e' (xs++ys) ((FA cells.toList (o+xs.length*e'.sz) news).drop o);rw[pP (by simpa using hfit)];exact RowsOK.append (RowsOK.take hrows (AH _)) s3 om s2)
   grind
  .exact grow (base:=some ⟨b,o,none⟩) (cap:=cap) (olds:=(cells.toList.drop o).take (xs.length*e'.sz)) oa
    (run_firstCells_some _ _ _ _ _ _ _ (by simp; omega) (λj u hj=>by
     simp_all[World.cell?_drew,Addr.add_lit,B4,B5])) om (RowsOK.take hrows (AH _))
theorem AF_(hl:Lay P t id)(hm:MemS P fr free σ w G)(hσ:∀k o,σ' k=some o->σ k=some o)(hself:free self)(hself1:free (self+1))
 {lo hi:Option SV}{vlo vhi:Option Value}(hr:XH σ' self t s lo hi=some r)(hu:Gives r u)(hs:SR P w G s v)(hlo:K_ P w G lo vlo)(hhi:K_ P w G hi vhi):
 ∃z,(Instr.sliceAt id v vlo vhi none).run P w=.ok z w/\Res P fr free self σ w G u z w:=by
 have key:∀{k el:Nat} {e:Ty} {xs:List e.T} {ob:Obj} {bs:List Nat},t=.slice e->σ k=some ob->G.val k 0=some v->DV fr.owned w G.im e [el] xs none [v] bs->(∀b∈bs,Bk G k ob b)->dG self k el e xs lo hi=some r->
  ∃z,(Instr.sliceAt id v vlo vhi none).run P w=.ok z w/\Res P fr free self σ w G u z w:=by
  intro k el e xs ob bs ht hkσ hval hdv hbk hr2;subst ht;obtain⟨el',hun,hle,_⟩:=hl.slice;obtain⟨inf,z0,hinf,hisz,_,_,_⟩:=JP hle.inf;have hc2:P.cellsOf el'=e.sz:=by simp[Program.cellsOf,hinf,hisz]
  unfold dG at hr2;split at hr2
  .rename_i l h' hbl hbh;cases hr2;obtain⟨y,hy,rfl⟩:=hu.may_inv;obtain⟨h1,h2,h3,h4⟩:=cut?_some hy;have hylen:y.length=h'.toNat-l.toNat:=by rw[h4];simp only[BU,AY];omega
   have m0:=hm.drop k
   have fin:∀{z:Value} {bs':List Nat},DV fr.owned w G.im e [el] y none [z] bs'->bs'.Nodup->(∀b∈bs',b∈bs)->
    Res P fr free self σ w G ⟨.obj self 0,[(self,some (.dp [el] e y (self+1) none true)),(k,none)]⟩ z w:=by
    intro z bs' d1 d2 d3
    obtain ⟨G',g2,m2,m3⟩:=m0.mk_dp hself hself1 (id:=el) (r:=[]) (t:=e) (x:=(y:List e.T)) d1 d2 (λb hb j o hj hbj=>by
     rw[FP]at hj;by_cases e:j=k
     .grind
     .rw[if_neg e]at hj;exact e (hm.sep j k o ob b hj hkσ hbj (hbk b (d3 b hb))))
    exact ⟨G',g2,by
     assumption,m3⟩
   rcases hdv.inv1 with⟨rfl,rfl,_⟩|⟨b,o,cap,cells,rfl,hb0,hcap,hrow,hsz,hown,hC,hO,hrows⟩
   .have hsb:=XY (P:=P) (w:=w) (isS:=true) (len:=0) (cap:=0) (O3 hbl hlo) (O3 hbh hhi) h1 h2 (by simpa using h3);have hh0:h'.toNat=0:=by simp at h3;omega
    have hl0:l.toNat=0:=oa
    have hy0:y=[]:=AM oa;subst hy0;refine⟨.slice none 0 0,?_,fin (bs':=[]) ⟨_,rfl,rfl,.inr (.inl ⟨oq,rfl,rfl,rfl⟩)⟩ B3 (λb hb=>by cases hb)⟩;simp only[Instr.sliceAt,Sem.run_bind,run_underlying hun,Result.andThen_ok,Instr.slice,hsb,run_sizeOf w hinf,hc2,hh0,hl0];rfl
   .have hcap1:=hcap.1;have hsb:=XY (P:=P) (w:=w) (isS:=true) (len:=xs.length) (cap:=cap) (O3 hbl hlo) (O3 hbh hhi) h1 h2 oa
    have hrun:(Instr.sliceAt id (.slice (some ⟨b,o,none⟩) xs.length cap) vlo vhi none).run P w=
     .ok (.slice (if cap=l.toNat then some ⟨b,o,none⟩else some ⟨b,o+l.toNat*e.sz,none⟩) (h'.toNat-l.toNat) (cap-l.toNat)) w:=by
     simp only[Instr.sliceAt,Sem.run_bind,run_underlying hun,Result.andThen_ok,Instr.slice,hsb,run_sizeOf w hinf,hc2,BH,LG];rfl
    have hmul:l.toNat*e.sz<=cap*e.sz:=AZ _ oa;refine⟨_,hrun,?_⟩;rw[<-hylen];by_cases hcl:cap=l.toNat
    .rw[if_pos hcl];have hy0:y=[]:=AM oa;subst hy0;exact fin (DV.mk1 (xs:=([]:List e.T)) ⟨BJ _,BJ _⟩ hrow oc hown hC hO (λi x hx=>by simp at hx)) oe (λb' hb'=>oc)
    .rw[if_neg hcl];refine fin (DV.mk1 ⟨oa,by have:=hcap.2;omega⟩ hrow (by rw[Nat.sub_mul];omega) hown hC hO (λi x hx=>?_)) oe (λb' hb'=>oc)
     have hx':xs[l.toNat+i]?=some x:=by
      rw[h4,B5,B4]at hx;split at hx
      .exact hx
      .cases hx
     have:=hrows _ _ hx';grind[List.drop_drop,Nat.add_mul,Nat.add_assoc]
  .cases hr2
 unfold XH at hr;split at hr
 .rename_i e k g;split at hr
  .rename_i el e' xs gk hk;cases hb:(Nat.beq g 0&&e'.same e)with
   |false=>grind
   |true=>
    rw[hb]at hr;simp only[A6]at hb;have e1:=A3 hb.1;have e3:=Ty.same_eq hb.2;subst e1 e3;have hkσ:=hσ _ _ hk;obtain⟨_,hety,v',us,bs,k1,k2,k3,k4,k5⟩:=DpOK.inv (hm.objs _ _ hkσ);have hv:=RU hs;rw[k1]at hv;cases hv;exact key rfl hkσ k1 k5 (λb hb=>(N9 k2 k3).2 hb) hr
  .rename_i el e' xs g' hk;cases hb:(Nat.beq g 0&&(Nat.beq g' 0&&e'.same e))with
   |false=>grind
   |true=>
    rw[hb]at hr;simp only[A6]at hb;have e1:=A3 hb.1;have e2:=A3 hb.2.1;have e3:=Ty.same_eq hb.2.2;subst e1 e2 e3;have hkσ:=hσ _ _ hk;obtain⟨_,v',k1,k2⟩:=hm.objs _ _ hkσ;have hv:=RU hs;rw[k1]at hv;cases hv;obtain⟨bs,d1,d2,d3⟩:=SlOK.dv k2;refine key rfl hkσ k1 d1 (λb hb=>?_) hr;obtain⟨_,_,cap,cells,e1,_⟩:=k2.slice (d3 b hb);grind[Bk]
  .cases hr
 .cases hr
theorem MemS.grow1(e:MemS P fr free σ w G)(a:∀b,b<w.heap.size->w'.heap[b]?=w.heap[b]?)(i:w.heap.size<=w'.heap.size)(s:w'.os=w.os)(k:w'.tape=w.tape)(q:w'.output=w.output):
 GLe w G w' G/\MemS P fr free σ w' G:=by
 have d:Ext w G.im w' G.im:=⟨λb o h=>⟨h,by simp only[World.cell?,a b (e.after.inC b o h)]⟩,λb h=>⟨h,a b (e.after.inO b h)⟩⟩;have l:GLe w G w' G:=⟨d,λ_ _ _ h=>h,λ_ _ h=>h,λ_ _ h=>h⟩;refine⟨l,λj o h=>(e.objs j o h).keep l λb r=>⟨a b (IN (e.objs j o h) r),λ_ h=>h,λh=>h⟩,e.sep,?_,e.fresh⟩
 exact e.after.trans (gv':=U6) ⟨d,λb r _=>a b r,i,λ_ _ h=>.inl h,λ_ h=>.inl h,λb o h=>BC (e.after.inC b o h) i,λb h=>BC (e.after.inO b h) i,
  s,k,q,e.after.pins.ext d⟩ (λb h=>h.elim)
theorem AFa{z:Value}{n:Nat}(h:i<n):((madeCells #[z] n).toList.drop i).take 1=[z]:=by
 simp_all[C5,size_madeCells,madeCells,Nat.mod_one]
theorem qH{e:Ty}(a:Lay P (.slice e) el):∃i,P.info? el=some i/\i.size=1/\i.bytes<=24/\i.zero=some (.slice none 0 0):=by
 obtain⟨i,v,b,d,j,k,h⟩:=JP a.inf
 have l:v=.slice none 0 0:=by
  simp only[zv]at h;split at h
  .cases h
  .unfold OY at h;split at h
   .rename_i o;simp only[zc]at o;grind
   .cases h
 subst l;exact⟨i,b,d,j,k⟩
theorem AFb{n:Nat}{ids:List Nat}(W:Lay P t id)(H:MemS P fr free σ w G)(A:free self)(s:free (self+1)){a b:Int}(V:GK .i64 b)
 (z:T_ self n ids t a b=some r)(hu:Gives r u)(d:∃l,ids=(match P.underlying id with|some (.slice x)=>x|_=>0)::l):
 ∃v w',(Instr.makeSlice id (.int .i64 a) (.int .i64 b)).run P w=.ok v w'/\Res P fr free self σ w G u v w':=by
 unfold T_ at z;split at z
 .rename_i el id2 q;split at z
  .rename_i B _;cases J:(E7 (el::id2::q) B).same t with
   |false=>grind
   |true=>
    rw[J]at z;have ht:=Ty.same_eq J;subst ht;cases z;obtain⟨zs,hz,rfl⟩:=hu.may_inv;have W:Lay P (.slice (E7 (id2::q) B)) id:=W;obtain⟨M,K,X,h5⟩:=W.slice;obtain⟨l,d⟩:=d;rw[K]at d;injection d with y _;have y:el=M:=y;subst y;obtain⟨h0,N,hB,rfl⟩:=A1w hz;obtain⟨i,h1,h2,h3,h4⟩:=qH (P:=P) (e:=E7 q B) X
    have R:(i.bytes:Int)*b<=281474976710656:=by
     have Q:b=(b.toNat:Int):=oa
     have hh:i.bytes*b.toNat<=281474976710656:=by
      have:i.bytes*b.toNat<=b.toNat*24:=by rw[DL];exact CC _ h3
      omega
     rw[Q,<-Int.natCast_mul];exact Int.ofNat_le.2 hh
    have T:b<=9223372036854775807:=V.2;have e:=run_make (P:=P) w id el i _ K h1 h4 .i64 .i64 a b h0 N R T;rw[h2,CW]at e;have k:(Value.slice none 0 0).cells= #[.slice none 0 0]:=rfl;rw[k]at e
    obtain ⟨D,m1⟩:=H.grow1 (w':=w.alloc (.cells (madeCells #[.slice none 0 0] b.toNat) el)) (λL h=>by
     show(w.heap.push _)[L]?=_;grind) oe rfl rfl rfl
    have I:RowAt (w.alloc (.cells (madeCells #[.slice none 0 0] b.toNat) el)) w.heap.size (madeCells #[.slice none 0 0] b.toNat) el:=
     ⟨(0,0),by show(w.heap.push _)[_]?=_;simp,.inl (AH _)⟩
    have C:a.toNat<=b.toNat:=oa
    obtain⟨G',g2,m2,m3⟩:=m1.mk_dp A s (id:=el) (r:=id2::q) (t:=B) (x:=(List.replicate a.toNat (E7 (id2::q) B).dflt:List (E7 (id2::q) B).T)) (v:=.slice (some ⟨w.heap.size,0,none⟩) a.toNat b.toNat) (bs:=[w.heap.size])
     ⟨_,rfl,rfl,.inr (.inr ⟨(by intro h; cases h),w.heap.size,0,b.toNat,_,List.replicate a.toNat [],by rw [BN],by rw [BN]; exact ⟨C,oa⟩,I,
      by rw[size_madeCells,C4];exact Nat.le_of_eq (CW _),H.owned_new,λc h=>absurd (H.after.inC _ _ h) (AC _),λh=>absurd (H.after.inO _ h) (AC _),
      by rw[BN,BN],by rw[A1r],λi x Y=>by
       have E:=lt_of_getElem? Y;rw[BN]at E
       have Z:x=([]:List (E7 q B).T):=by
        rw[DW,if_pos E]at Y;exact(A2 Y).symm
       subst Z;refine⟨.slice none 0 0,?_,rfl,.inr (.inl ⟨oq,rfl,rfl,?_⟩)⟩
       .show((madeCells #[.slice none 0 0] b.toNat).toList.drop (0+i*1)).take 1=_;rw[C4,CW];exact AFa oa
       grind⟩)⟩ oe
     (λL O j o hj U=>by
      have:L=w.heap.size:=by simpa using O
      subst this;exact absurd (IN (H.objs j o hj) U) (AC _))
    exact⟨_,_,e,G',D.trans g2,m2,m3⟩
  .cases z
 .cases z
theorem MemS.ghostE(d:MemS P fr free σ w G)(hk:free' k)(t:Ty)(B:G.ety k=none)(z:∀j,free j->j≠k:=by first|assumption|exact λj h=>h.2):
 GLe w G w (G.addEty k t)/\MemS P fr free σ w (G.addEty k t):=by
 have a:GLe w G w (G.addEty k t):=by
  refine⟨Ext.refl _ _,λj g u h=>h,λj u h=>?_,λj b h=>h⟩;have:j≠k:=λe=>oc
  simp only[Gh.addEty,if_neg this];exact h
 refine⟨a,λj o h=>(d.objs j o h).keep a λb _=>⟨rfl,λ_ h=>h,λh=>h⟩,λi j v x y s r l q=>?_,d.after,λj r=>?_⟩
 .rw[GT (d.objs i v s) a]at l;rw[GT (d.objs j x r) a]at q;exact d.sep i j v x y s r l q
 .have A:=d.fresh j r;simp_all[Gh.addEty,if_neg]
theorem DV.three{r:List Nat}{xs:List (E7 r t).T}(d:DV ow w I t (id::r) xs h [v] bs)(e:h≠some []){o len cap:Nat}
 (q:v=.slice (some ⟨b,o,none⟩) len cap):∃a bss,len=xs.length/\HS xs.length cap/\RowAt w b a id/\o+cap*(E7 r t).sz<=a.size/\ow b/\(∀c,¬I.cell b c)/\¬I.obj b/\List.length bss=xs.length/\bs=b::List.flatten bss/\
  ∀i x,xs[i]?=some x->DV ow w I t r x (U7 h i) ((a.toList.drop (o+i*(E7 r t).sz)).take (E7 r t).sz) (bss.getD i []):=by
 obtain⟨s,j,k,l⟩:=d;grind
theorem AFc(hl:Lay P t id)(M:MemS P fr free σ w G)(z5:∀k o,σ' k=some o->σ k=some o)(C:free self)(R:free (self+1))(T:free (self+2))
 (hr:XI σ' self t s=some r)(hu:Gives r u)(hs:SR P w G s v):∃z,(Instr.loadAt id v).run P w=.ok z w/\Res P fr free self σ w G u z w:=by
 unfold XI at hr;split at hr
 .rename_i k g i u0;split at hr
  .rename_i H id2 q l I gk hk;cases hb:(Nat.beq g 0&&(E7 (id2::q) l).same t)with
   |false=>grind
   |true=>
    rw[hb]at hr;simp only[A6]at hb;have e1:=A3 hb.1;have e2:=Ty.same_eq hb.2;subst e1 e2;cases hr;rw[hu.pure_inv];have A:=z5 _ _ hk;have z4:=eK M A;obtain⟨h0,V,v',us,bs,k1,k2,k3,k4,k5⟩:=DpOK.inv (M.objs _ _ A);obtain⟨b,o,len,h8,e',o2,p1,p2,p3,p4,p5,rfl⟩:=O_ hs;rw[k1]at p1;cases p1;rw[V]at p2;cases p2;rw[eF]at p4;cases p4;obtain⟨J,bss,rfl,q1,q2,q3,q4,q5,q6,q7,rfl,q9⟩:=k5.three (xs:=I) h0 rfl;have a4:(E7 (id2::q) l).sz=1:=rfl;have W:=getD_some (d:=(E7 (id2::q) l).dflt) (xs:=(show List (E7 (id2::q) l).T from I)) p3;have K:=q9 i _ W;rw[Y8]at K;have x0:=K;obtain⟨z,hz,y6,_⟩:=x0;rw[hz]at K
    have h1:w.cell? ⟨b,o+i*(E7 (id2::q) l).sz,none⟩=some z:=by
     have:=dZ (n:=1) (o:=o+i*(E7 (id2::q) l).sz) q2 0 oa;rw[show(J.toList.drop (o+i*(E7 (id2::q) l).sz)).take 1=[z]from hz]at this;simpa using this
    have y3:(Instr.loadAt id (.pointer (some ⟨b,o+i*(E7 (id2::q) l).sz+0,none⟩))).run P w=.ok z w:=by
     have z1:(E7 (id2::q) l).isAgg=false:=rfl;simp only[Instr.loadAt,Sem.run_bind,Instr.sureAddr,Sem.run_pure,Result.andThen_ok,loadVar,UD hl,z1,D1,CL,CT];exact dY h1
    refine⟨z,y3,?_⟩;have hi:i<bss.length:=by rw[q7];exact p3
    have h3:=qE hi;have x1:(bss.set i []).flatten=(bss.take i).flatten++(bss.drop (i+1)).flatten:=by rw[eJ hi];rfl
    have x2:=B9.1 k4;rw[h3]at x2
    have y4:∀c,c∈(bss.set i []).flatten->c∈bss.flatten:=by
     intro c hc;rw[x1]at hc;rw[h3];rcases AS.1 hc with h|h
     .grind
     .grind
    have N:=BD.1 x2.2;have X:=BD.1 N.2.1;have y0:(bss.getD i []).Nodup:=X.1
    have y1:(b::(bss.set i []).flatten).Nodup:=by
     refine B9.2 ⟨λh=>(B9.1 k4).1 (y4 b h),?_⟩;rw[x1];exact BD.2 ⟨N.1,X.2.1,λx hx y hy=>N.2.2 x hx y (BZ _ hy)⟩
    have z3:∀c,c∈bss.getD i []->c ∉ b::(bss.set i []).flatten:=by
     intro c hc h;rcases B2.1 h with rfl|h
     .grind
     .grind
    let G0:Gh:=((G.addVal (self+2) 0 (.tuple (List.map I8 (b::(bss.set i []).flatten)).toArray)).addVal (self+1) 0 (.tuple (List.map I8 (bss.getD i [])).toArray)).addVal self 0 z
    obtain⟨y7,z6⟩:=M.ghost T (.tuple (List.map I8 (b::(bss.set i []).flatten)).toArray);obtain⟨y8,z9⟩:=z6.ghost (k:=self+1) ⟨R,oa⟩ (.tuple (List.map I8 (bss.getD i [])).toArray);obtain⟨y9,a0⟩:=z9.ghost (k:=self) ⟨⟨C,oa⟩,oa⟩ z
    obtain ⟨z0,h7⟩:=a0.ghostE (k:=self) C (E7 q l) (by
     have:=(M.fresh self C).2.1;exact this)
    have B:GLe w G w (G0.addEty self (E7 q l)):=((y7.trans y8).trans y9).trans z0;generalize E:G0.addEty self (E7 q l)=G1 at B;have h7:MemS P fr (λj=>(((free j/\j≠self+2)/\j≠self+1)/\j≠self)) σ w G1:=by rw[<-E];exact h7
    have Q:G1.im=G.im:=by rw[<-E];rfl
    have y5:G1.val (self+2) 0=some (.tuple (List.map I8 (b::(bss.set i []).flatten)).toArray):=by
     rw[<-E];have n1:self+2≠self:=oa
     have n2:self+2≠self+1:=oa
     simp[G0,Gh.addVal,Gh.addEty]
    have Y:G1.val (self+1) 0=some (.tuple (List.map I8 (bss.getD i [])).toArray):=by
     rw[<-E];simp[G0,Gh.addVal,Gh.addEty]
    have h6:G1.val self 0=some z:=by
     rw[<-E];simp[G0,Gh.addVal,Gh.addEty]
    have h2:G1.ety self=some (E7 q l):=by
     rw[<-E];simp[Gh.addEty]
    have z2:∀c,Bk G1 k (.dp (H::id2::q) l I (self+2) (some [i]) true) c<->c∈b::(bss.set i []).flatten:=λc=>N9 y5 oe;have h9:∀c,Bk G1 self (.dp (id2::q) l ((show List (E7 (id2::q) l).T from I).getD i (E7 (id2::q) l).dflt) (self+1) none true) c<->c∈bss.getD i []:=λc=>N9 Y oe
    have U:∀c,Bk G1 k (.dp (H::id2::q) l I gk none true) c<->c∈b::bss.flatten:=λc=>by
     rw[GT (M.objs k _ A) B];exact N9 k2 k3
    have a1:=h7.drop k
    have L:∀j o,EN σ [(k,none)] j=some o->j≠k/\σ j=some o:=by
     intro j o h;rw[FP]at h;by_cases e:j=k
     .grind
     .grind
    have y2:ObjOK P fr w G1 k (.dp (H::id2::q) l I (self+2) (some [i]) true):=
     ⟨(by intro h; cases h),B.ety _ _ V,_,_,b::(bss.set i []).flatten,B.val _ _ _ k1,y5,oe,y1,⟨_,rfl,rfl,.inr (.inr ⟨(by intro h; cases h),b,o,h8,J,bss.set i [],rfl,q1,q2,q3,q4,oc,oc,oc,rfl,λj x hx=>by
      rw[qF hi,qG];by_cases e:i=j
      .subst e;rw[if_pos rfl,if_pos rfl]
       exact ⟨z,hz,y6,.inl ⟨rfl,rfl,by
        rw[W]at hx;cases hx;obtain⟨a,cp,e1,e2⟩:=DV.head K;grind⟩⟩
      .rw[if_neg e,if_neg e];exact(q9 j x hx).keep B.ext λ_ _=>⟨rfl,λ_ h=>Q▸h,λh=>Q▸h⟩⟩)⟩,z,b,o,_,h8,h6,rfl,p3,by simp_all⟩
    have a2:=a1.backO (k:=k) y2 (λh=>z4 h.1.1.1) (λc hc j o' D Z=>by
     obtain⟨e,D⟩:=L j o' D;rw[z2]at hc;refine e (M.sep j k o' _ c D A (by rw[<-GT (M.objs j o' D) B];exact Z) ?_);rw[<-GT (M.objs k _ A) B,U];grind)
    have O:ObjOK P fr w G1 self (.dp (id2::q) l ((show List (E7 (id2::q) l).T from I).getD i (E7 (id2::q) l).dflt) (self+1) none true):=
     ⟨oq,h2,z,_,bss.getD i [],h6,Y,oe,y0,K.keep B.ext (λ_ _=>⟨rfl,λ_ h=>Q▸h,λh=>Q▸h⟩),trivial⟩
    have a3:=a2.backO (k:=self) O (λh=>h.2 rfl) (λc hc j o' D Z=>by
     rw[h9]at hc;rw[FP]at D;by_cases e:j=k
     .grind
     .rw[if_neg e]at D;obtain⟨_,D⟩:=L j o' D;refine e (M.sep j k o' _ c D A (by rw[<-GT (M.objs j o' D) B];exact Z) ?_);rw[<-GT (M.objs k _ A) B,U,h3];grind)
    refine⟨G1,B,?_,[z],rfl,z,h6,y6,rfl⟩;have e3:=GI (EN σ [(k,none)]) [(self,some (Obj.dp (id2::q) l ((show List (E7 (id2::q) l).T from I).getD i (E7 (id2::q) l).dflt) (self+1) none true))] [(k,some (Obj.dp (H::id2::q) l I (self+2) (some [i]) true))]
    have e4:EN σ ([(self,some (Obj.dp (id2::q) l ((show List (E7 (id2::q) l).T from I).getD i (E7 (id2::q) l).dflt) (self+1) none true))]++[(k,some (Obj.dp (H::id2::q) l I (self+2) (some [i]) true))])=
     EN (EN (EN σ [(k,none)]) [(k,some (Obj.dp (H::id2::q) l I (self+2) (some [i]) true))]) [(self,some (Obj.dp (id2::q) l ((show List (E7 (id2::q) l).T from I).getD i (E7 (id2::q) l).dflt) (self+1) none true))]:=by
     rw[<-e3];funext j;rw[GI,GI,FP,FP,FP,FP,FP];by_cases e:j=self
     .rw[if_pos e,if_pos e]
     .grind
    show MemS P fr (J1 free self) (EN σ ([(self,_)]++[(k,_)])) w G1;rw[e4];refine a3.shrink λj D=>?_
    have h4:∀d,d<8->j≠self+d:=λd hd e=>by
     have h5:=D.2;rw[e]at h5
     have:JO self (self+d)=true:=by
      simp only[JO,Nat.blt,A6];exact⟨CS oa,CS oa⟩
     grind
    exact⟨⟨⟨D.1,h4 2 oa⟩,h4 1 oa⟩,h4 0 oa⟩
  .cases hr
 .cases hr
theorem AFd(hl:Lay P t id)(J:MemS P fr free σ w G)(h6:∀k o,σ' k=some o->σ k=some o)(N:free (self+1)){sv:SV}
 (L:dH σ' self t sv s=some r)(hu:Gives r u)(hs:SR P w G s v)(a3:SR P w G sv vx):∃w',(Instr.storeAt id v vx).run P w=.ok () w'/\Res P fr free self σ w G u undef w':=by
 unfold dH at L;split at L
 .rename_i k g i u0;split at L
  .rename_i K id2 q l xs gk hh hk;cases hb:(Nat.beq g 0&&((E7 (id2::q) l).same t && !(FE k (FR sv))))with
   |false=>grind
   |true=>
    rw[hb]at L;simp only[A6,BP]at hb;have e1:=A3 hb.1;have e2:=Ty.same_eq hb.2.1;have a1:k ∉ FR sv:=λh=>by grind[PZ,absurd]
    subst e1 e2;simp only[A8]at L;split at L
    .rename_i y hy;cases L;obtain⟨x0,b2,rfl⟩:=hu.may_inv
     have y0:oK i hh=true:=by
      cases h:oK i hh with
      |true=>rfl
      |false=>grind
     have D:=h6 _ _ hk;obtain⟨h0,R,v',us,bs,k1,k2,k3,k4,k5⟩:=DpOK.inv (J.objs _ _ D);obtain⟨b,o,len,h7,e',o2,p1,p2,p3,p4,p5,rfl⟩:=O_ hs;rw[k1]at p1;cases p1;rw[R]at p2;cases p2;rw[eF]at p4;cases p4;obtain⟨d,bss,rfl,q1,q2,q3,q4,q5,q6,q7,rfl,q9⟩:=k5.three (xs:=xs) h0 rfl;have z1:MemS P fr free σ' w G:=J.sub h6
     have z2:CR P w G sv [vx]:=a3.one (by
      grind[absurd,LD])
     obtain⟨E,⟨_,d1⟩,d2,d3⟩:=eD z1 hy z2
     have d3:∀c∈E,∃j∈FR sv,∃C,σ j=some C/\Bk G j C c:=λc z=>
      let ⟨j,h1,C,h2,h3⟩:=d3 c z
      ⟨j,h1,C,h6 _ _ h2,h3⟩
     have I:∀c,Bk G k (.dp (K::id2::q) l xs gk hh true) c<->c∈b::bss.flatten:=λc=>N9 k2 k3
     have z4:∀c∈E,c ∉ b::bss.flatten:=λc z h=>by
      obtain⟨j,j1,C,j2,j3⟩:=d3 c z;exact a1 ((J.sep j k C _ c j2 D j3 ((I c).2 h))▸j1)
     have a4:(E7 (id2::q) l).sz=1:=rfl;have z5:=d1;obtain⟨a6,h5,y8,_⟩:=z5;have h5:vx=a6:=AB.1 h5;subst h5;have y3:(i+1)*(E7 (id2::q) l).sz<=h7*(E7 (id2::q) l).sz:=AZ _ (by have:=q1.1;omega)
     have a9:o+i*(E7 (id2::q) l).sz+1<=d.size:=by
      rw[CK]at y3;omega
     obtain⟨fz,b0,b1⟩:=(show RowAt w b d K from q2);have x1:vx.cells.toList=[vx]:=by rw[Y0 y8]
     have y9:(Instr.storeAt id (.pointer (some ⟨b,o+i*(E7 (id2::q) l).sz+0,none⟩)) vx).run P w=.ok () (w.setRow b (FA d.toList (o+i*(E7 (id2::q) l).sz) [vx]).toArray):=by
      simp only[Instr.storeAt,Sem.run_bind,Instr.sureAddr,Sem.run_pure,Result.andThen_ok,CT];have:=pO hl (b:=b) (o:=o+i*(E7 (id2::q) l).sz) (v:=vx) q2 (by rw[x1];rfl) oc (by assumption);rw[x1]at this;exact this
     refine⟨_,y9,?_⟩;have hi:i<bss.length:=by rw[q7];exact p3
     have z6:=qE hi;have z9:=eJ (c:=E) hi;have y4:=B9.1 k4;have V:=y4.2;rw[z6]at V;have W:=BD.1 V;have y5:=BD.1 W.2.1;have a7:∀c,c∈(bss.take i).flatten→c∈bss.flatten:=λc z=>oc
     have a8:∀c,c∈(bss.drop (i+1)).flatten->c∈bss.flatten:=λc z=>oc
     have y6:(b::(bss.set i E).flatten).Nodup:=by
      rw[z9];refine B9.2 ⟨λh=>?_,BD.2 ⟨W.1,BD.2 ⟨d2,y5.2.1,λx hx y hy e=>?_⟩,λx hx y hy e=>?_⟩⟩
      .grind
      .grind
      .grind
     have y2:∀c,c∈b::(bss.set i E).flatten->c=b\/c∈bss.flatten\/c∈E:=by
      intro c z;rcases B2.1 z with h|h
      .exact .inl h
      .grind
     have m0:MemS P fr free (EN σ (gone (FR sv))) w G:=J.sub λj o h=>by
      rw[LH]at h;grind
     have h4:∀j C,EN σ (gone (FR sv)) j=some C->j ∉ FR sv/\σ j=some C:=by
      intro j C h;rw[LH]at h;by_cases e:j∈FR sv
      .grind
      .grind
     obtain⟨M,m1⟩:=m0.ghost N (.tuple (List.map I8 (b::(bss.set i E).flatten)).toArray);let G0:Gh:=G.addVal (self+1) 0 (.tuple (List.map I8 (b::(bss.set i E).flatten)).toArray)
     have m1:MemS P fr (λj=>free j/\j≠self+1) (EN σ (gone (FR sv))) w G0:=m1;have M:GLe w G w G0:=M;have z3:G0.val (self+1) 0=some (.tuple (List.map I8 (b::(bss.set i E).flatten)).toArray):=by simp[G0,Gh.addVal]
     let Q:World:=w.setRow b (FA d.toList (o+i*(E7 (id2::q) l).sz) [vx]).toArray
     have O:∀X,X≠b->Q.heap[X]?=w.heap[X]?:=λX h=>setRow_other w b X _ h;have Z:GLe w G0 Q G0:=GLe.of_heap (b:=b) O q5 q6;have z0:(FA d.toList (o+i*(E7 (id2::q) l).sz) [vx]).length=d.size:=by rw[KZ om];simp
     have h8:∀c,c∈bss.flatten->c≠b:=λc z e=>y4.1 (e▸z);have T:Ext w G.im Q G0.im:=M.ext.trans Z.ext
     have y7:DpOK fr Q G0 k (K::id2::q) l ((show List (E7 (id2::q) l).T from xs).set i y) (self+1) none true:=by
      refine ⟨(by intro h; cases h),M.ety _ _ R,_,_,b::(bss.set i E).flatten,M.val _ _ _ k1,z3,oe,y6,⟨_,rfl,rfl,.inr (.inr ⟨(by intro h; cases h),b,o,h7,_,bss.set i E,by rw [AQ],
       by grind,q2.set (by rw[BQ,z0]),oc,q4,q5,q6,oc,rfl,λj x hx=>?_⟩)⟩,trivial⟩
      rw[Y8,qF hi];by_cases e:i=j
      .subst e;rw[if_pos rfl];rw[CJ p3]at hx;cases hx
       have x2:((FA d.toList (o+i*(E7 (id2::q) l).sz) [vx]).drop (o+i*(E7 (id2::q) l).sz)).take (E7 (id2::q) l).sz=[vx]:=by
        rw[a4];have:=A1n (cs:=d.toList) (ds:=[vx]) (a:=o+i*1) (n:=1) (o:=0) (by assumption) oe;rw[CT]at this;rw[this];unfold FA;simp
       show DV fr.owned Q G0.im l (id2::q) y none (((FA d.toList (o+i*(E7 (id2::q) l).sz) [vx]).toArray.toList.drop (o+i*(E7 (id2::q) l).sz)).take (E7 (id2::q) l).sz) E;rw[List.toList_toArray,x2];exact d1.keep T λc z=>⟨O c λe=>z4 c z (e▸AL),λ_ h=>h,λh=>h⟩
      .rw[if_neg e];rw[CM e]at hx;have z:=q9 j x hx
       have Y:U7 hh j=none:=by
        cases hh with
        |none=>rfl
        |some p=>
         cases p with
         |nil=>rfl
         |cons a p=>
          cases p with
          |cons _ _=>cases y0
          |nil=>
           have ha:=A3 y0;subst ha;rw[qG,if_neg e]
       rw[Y]at z;show DV fr.owned Q G0.im l (id2::q) x none (((FA d.toList (o+i*(E7 (id2::q) l).sz) [vx]).toArray.toList.drop (o+j*(E7 (id2::q) l).sz)).take (E7 (id2::q) l).sz) (bss.getD j []);rw[List.toList_toArray,A1o om oc];exact z.keep T λc z=>⟨O c (h8 c (X_ z)),λ_ h=>h,λh=>h⟩
     have h9:∀c,Bk G0 k (.dp (K::id2::q) l ((show List (E7 (id2::q) l).T from xs).set i y) (self+1) none true) c<->c∈b::(bss.set i E).flatten:=λc=>N9 z3 oe
     have m2:=m1.change (w':=Q) (G':=G0) (b:=b) (k:=k) (o':=some (.dp (K::id2::q) l ((show List (E7 (id2::q) l).T from xs).set i y) (self+1) none true)) (free':=J1 free self) Z
      (λj C U H B=>by
       obtain⟨_,H⟩:=h4 j C H;rw[GT (J.objs j C H) M]at B;exact U (J.sep j k C _ b H D B ((I b).2 AL)))
      (λX _ a2=>O X a2) (by simp[Q]) (by simpa[Q]using q2.lt) q4 (λ_ _ h=>.inl h) (λ_ h=>.inl h) rfl rfl rfl
      (λC H=>by
       cases H;refine⟨y7,λc z=>?_⟩;rw[h9]at z;rcases y2 c z with h|h|h
       .exact .inl h
       .refine .inr λj oj U A B=>?_;obtain⟨_,A⟩:=h4 j oj A;rw[GT (J.objs j oj A) M]at B;exact U (J.sep j k oj _ c A D B ((I c).2 (AP _ h)))
       .refine .inr λj oj U A B=>?_;obtain⟨a0,A⟩:=h4 j oj A;rw[GT (J.objs j oj A) M]at B;obtain⟨j',j1,a5,j2,j3⟩:=d3 c h;exact a0 ((J.sep j j' oj a5 c A j2 B j3)▸j1))
      (λj U=>by
       have hf:=J.fresh j U.1
       have y1:j≠self+1:=λe=>by
        have:=U.2;grind[eI]
       exact⟨λe=>(oc),⟨U.1,y1⟩,hf.2.1,hf.2.2.1,λg=>by simp only[G0,Gh.addVal,y1,DM,CL];exact hf.2.2.2 g⟩)
     refine⟨G0,M.trans Z,?_,_,rfl,trivial⟩;assumption
    .cases L
  .cases L
 .cases L
def Hds(ow:Nat->Prop)(w:World)(I:Im)(t:Ty)(r:List Nat)(xs:List (E7 r t).T)(bss:List (List Nat))(cs:List Value):Prop:=
 ∀(i:Nat) (x:(E7 r t).T),xs[i]?=some x->∃v,cs[i]?=some v/\v.oneCell'=true/\DV ow w I t r x none [v] (bss.getD i [])
theorem qI{l:List Value}:(l.drop i).take 1=[v]<->l[i]?=some v:=by
 constructor
 .intro h;have:=congrArg (·[0]?) h;grind
 .intro h;have a:i<l.length:=(A9.1 h).1;simp_all[C5,A1,List.take_succ_cons,CE,A2]
theorem DV.inv2{xs:List (E7 (id2::q) t).T}(y:DV ow w I t (id::id2::q) xs none [v] bs):
 (v=.slice none 0 0/\xs=[]/\bs=[])\/∃b o d a bss,v=.slice (some ⟨b,o,none⟩) xs.length d/\HS xs.length d/\RowAt w b a id/\o+d<=a.size/\ow b/\(∀c,¬I.cell b c)/\¬I.obj b/\List.length bss=xs.length/\bs=b::List.flatten bss/\
  Hds ow w I t (id2::q) xs bss (a.toList.drop o):=by
 obtain⟨L,r,M,h⟩:=y;have e:v=L:=AB.1 r;subst e;rcases h with⟨h,_⟩|⟨_,h,l,N⟩|⟨_,b,o,d,a,bss,l,B,C,O,D,E,G,H,J,K⟩
 .cases h
 .grind
 .refine .inr ⟨b,o,d,a,bss,l,B,C,by have:(E7 (id2::q) t).sz=1:=rfl;grind,D,E,G,H,J,λi x A=>?_⟩;have:=K i x A;rw[Y8]at this;have s:=this;obtain⟨z,j,k,_⟩:=s;rw[j]at this;refine⟨z,?_,k,this⟩;have j:(a.toList.drop (o+i*1)).take 1=[z]:=j;simp_all[qI,B5]
theorem DV.mk2{o cap:Nat}{xs:List (E7 (id2::q) t).T}{cells:Array Value}(e:HS xs.length cap)(j:RowAt w b cells id)(B:o+cap<=cells.size)(k:ow b)
 (l:∀c,¬I.cell b c)(r:¬I.obj b)(s:List.length bss=xs.length)(y:Hds ow w I t (id2::q) xs bss (cells.toList.drop o)):
 DV ow w I t (id::id2::q) xs none [.slice (some ⟨b,o,none⟩) xs.length cap] (b::List.flatten bss):=by
 refine⟨_,rfl,rfl,.inr (.inr ⟨oq,b,o,cap,cells,bss,rfl,e,j,?_,k,l,r,s,rfl,λi x d=>?_⟩)⟩
 .have:(E7 (id2::q) t).sz=1:=rfl;rw[this];omega
 .obtain⟨v,a,z,A⟩:=y i x d;rw[Y8];rw[B5]at a
  have:(cells.toList.drop (o+i*(E7 (id2::q) t).sz)).take (E7 (id2::q) t).sz=[v]:=by
   show(cells.toList.drop (o+i*1)).take 1=[v];rw[qI,CW];exact a
  grind
theorem Hds.keep{I':Im}{r:List Nat}{xs:List (E7 r t).T}(h:Hds ow w I t r xs bss cs)(e:Ext w I w' I')
 (l:∀b∈bss.flatten,w'.heap[b]?=w.heap[b]? /\(∀o,I'.cell b o->I.cell b o)/\(I'.obj b->I.obj b)):Hds ow w' I' t r xs bss cs:=λi x q=>by
 obtain⟨v,d,j,k⟩:=h i x q;exact⟨v,d,j,k.keep e λb a=>l b (X_ a)⟩
theorem Hds.cells{r:List Nat}{xs:List (E7 r t).T}(h:Hds ow w I t r xs bss cs)(e:∀i,i<xs.length->ds[i]?=cs[i]?):Hds ow w I t r xs bss ds:=λi x a=>by
 obtain⟨v,b,d,j⟩:=h i x a;grind
theorem Hds.append{r:List Nat}{xs ys:List (E7 r t).T}{d:List (List Nat)}{e:List Value}(l:Hds ow w I t r xs bss cs)(o:Hds ow w I t r ys d ds)(y:bss.length=xs.length)
 (q:∀i,i<xs.length->e[i]?=cs[i]?)(s:∀i,i<ys.length->e[xs.length+i]?=ds[i]?):Hds ow w I t r (xs++ys) (bss++d) e:=λi x h=>by
 rcases CU i xs.length with k|j
 .rw[C1 k]at h;obtain⟨v,a,b,c⟩:=l i x h;grind
 .rw[BG j]at h;obtain⟨v,a,b,c⟩:=o _ x h;grind
theorem MemS.gone(a:MemS P fr free σ w G)(ks:List Nat):MemS P fr free (EN σ (gone ks)) w G:=a.sub λj o h=>by
 simp_all[LH,if_pos,if_neg]
theorem A2a{ks:List Nat}{o:Obj}(h:EN σ (gone ks) j=some o):j ∉ ks/\σ j=some o:=by
 simp_all[LH,if_pos,if_neg]
theorem AFe{n:Nat}{ids:List Nat}(hl:Lay P t id)(C:MemS P fr free σ w G)(Q:∀k o,σ' k=some o->σ k=some o)(H:free self)(A:free (self+1))
 (d:RK σ' self n ids t s=some r)(hu:Gives r u)(a:∃l,ids=(match P.underlying id with|some (.slice x)=>x|_=>0)::l)(hs:SR P w G s vx):
 ∃v w',(Instr.buildSlice id 1 #[(0,vx)]).run P w=.ok v w'/\Res P fr free self σ w G u v w':=by
 unfold RK at d;split at d
 .rename_i el id2 q;split at d
  .rename_i I _;cases N:(E7 (el::id2::q) I).same t with
   |false=>grind
   |true=>
    rw[N]at d;have ht:=Ty.same_eq N;subst ht;simp only[A8]at d;split at d
    .rename_i y hy;cases d;rw[hu.pure_inv];have hl:Lay P (.slice (E7 (id2::q) I)) id:=hl;obtain⟨X,O,h6,x0⟩:=hl.slice;obtain⟨l,a⟩:=a;rw[O]at a;injection a with E _;have E:el=X:=E;subst E;obtain⟨i,Y,V,h3,h4⟩:=qH (P:=P) (e:=E7 q I) h6
     have h7:CR P w G s [vx]:=hs.one (by
      grind[absurd,LD])
     obtain⟨T,⟨_,d1⟩,d2,U⟩:=eD (C.sub Q) hy h7
     have U:∀c∈T,∃j∈FR s,∃J,σ j=some J/\Bk G j J c:=λc Z=>
      let ⟨j,Y,J,V,h3⟩:=U c Z
      ⟨j,Y,J,Q _ _ V,h3⟩
     have D:vx.oneCell'=true:=by
      obtain⟨v',e1,e2,_⟩:=d1;rw[AB.1 e1];exact e2
     have x1:vx.cells= #[vx]:=Y0 D
     have M:=run_buildSlice (P:=P) w id el 1 #[(0,vx)] #[vx] i _ O Y h4 (by rw [V]; decide) (by rw [V]; decide) (by
      grind[Instr.fill,Array.ext'])
     obtain ⟨B,m1⟩:=C.grow1 (w':=w.alloc (.cells #[vx] el)) (λR h=>by
      show(w.heap.push _)[R]?=_;grind) oe rfl rfl rfl
     have L:RowAt (w.alloc (.cells #[vx] el)) w.heap.size #[vx] el:=
      ⟨(0,0),by show(w.heap.push _)[_]?=_;simp,.inl (AH _)⟩
     have h9:∀c∈T,c≠w.heap.size:=λc Z e=>by
      obtain⟨j,_,J,j2,j3⟩:=U c Z;have:=IN (C.objs j J j2) j3;omega
     have h0:DV fr.owned (w.alloc (.cells #[vx] el)) G.im I (el::id2::q) ([y]:List (E7 (id2::q) I).T) none [.slice (some ⟨w.heap.size,0,none⟩) 1 1] (w.heap.size::List.flatten [T]):=
      DV.mk2 (xs:=[y]) (cells:=#[vx]) (bss:=[T]) ⟨AH _,oe⟩ L oe C.owned_new (λc h=>absurd (C.after.inC _ _ h) (AC _)) (λh=>absurd (C.after.inO _ h) (AC _)) rfl (λi x hx=>by
       cases i with
       |zero=>
        cases hx
        exact ⟨vx,rfl,D,d1.keep B.ext λb hb=>⟨by
         show(w.heap.push _)[b]?=_;grind,λ_ h=>h,λh=>h⟩⟩
       |succ i=>simp at hx)
     obtain ⟨G',g2,m2,m3⟩:=(m1.gone (FR s)).mk_dp H A (id:=el) (r:=id2::q) (t:=I) (x:=([y]:List (E7 (id2::q) I).T)) h0 (by
      grind)
      (λR z j o W K=>by
       obtain⟨h5,W⟩:=A2a W;simp only[List.flatten_cons,List.flatten_nil,CG]at z;rcases B2.1 z with rfl|z
       .exact absurd (IN (C.objs j o W) K) (AC _)
       .obtain⟨j',j1,h8,j2,j3⟩:=U R z;exact h5 ((C.sep j j' o h8 R W j2 K j3)▸j1))
     refine⟨_,_,M,G',B.trans g2,?_,m3⟩;assumption
    .cases d
  .cases d
 .cases d
theorem AFf{e':Ty}{gk:Nat}(hl:Lay P (.slice (E7 (id2::q) e')) id)(hel:∀x,P.underlying id=some (.slice x)->el=x)(hm:MemS P fr free σ w G)(hσ:∀k o,σ' k=some o->σ k=some o)(hself:free self)(hself1:free (self+1))
 {xs ys zs:List (E7 (id2::q) e').T}{sx:SV}(hkσ:σ k=some (.dp (el::id2::q) e' xs gk none true))(hs:SR P w G (.obj k 0) v)(hsx:SR P w G sx vx)(hkk:k ∉ FR sx)
 (hy:LD σ' (el::id2::q) e' sx=some ys)(hz:app? 24 xs ys=some zs):
 ∃z w',(Builtin.append_ #[id,id] ty #[v,vx]).run P w=.ok z w'/\Res P fr free self σ w G ⟨.obj self 0,(self,some (.dp (el::id2::q) e' zs (self+1) none true))::(k,none)::gone (FR sx)⟩ z w':=by
 have hnk:=eK hm hkσ;obtain⟨_,hety,v',us,bs,k1,k2,k3,k4,k5⟩:=DpOK.inv (hm.objs _ _ hkσ);have hv:=RU hs;rw[k1]at hv;cases hv;have hbk:∀b,Bk G k (.dp (el::id2::q) e' xs gk none true) b<->b∈bs:=λb=>N9 k2 k3;obtain⟨el',hun,hle,hpos⟩:=hl.slice;have:=hel _ hun;subst this;obtain⟨hB,hzs⟩:=Y2 hz;subst hzs;obtain⟨i,h1,h2',h3,h4⟩:=qH (P:=P) (e:=E7 q e') hle
 have hs1:CR P w G sx [vx]:=hsx.one (by
  grind[absurd,LD])
 obtain⟨bc,⟨_,d1⟩,d2,d3⟩:=eD (hm.sub hσ) hy hs1
 have d3:∀c∈bc,∃j∈FR sx,∃ob,σ j=some ob∧Bk G j ob c:=λc hc=>
  let ⟨j,h1,ob,h2,h3⟩:=d3 c hc
  ⟨j,h1,ob,hσ _ _ h2,h3⟩
 have hbc:∀c∈bc,c ∉ bs:=λc hc h=>by
  obtain⟨j,j1,ob,j2,j3⟩:=d3 c hc;exact hkk ((hm.sep j k ob _ c j2 hkσ j3 ((hbk c).2 h))▸j1)
 have hblt:∀c∈bc,c<w.heap.size:=λc hc=>let ⟨j,_,ob,j2,j3⟩:=d3 c hc;IN (hm.objs j ob j2) j3
 obtain⟨news,css,s1,s2,s3,s4,s5,hcn⟩:∃(news:List Value) (css:List (List Nat)),Src P 1 id vx ys.length news w/\news.length=ys.length/\Hds fr.owned w G.im e' (id2::q) ys css news/\css.length=ys.length/\(∀c∈css.flatten,c∈bc)/\css.flatten.Nodup:=by
  rcases d1.inv2 with⟨rfl,hy0,_⟩|⟨b2,o2,cap2,cells2,css,rfl,p1,p2,p3,p4,p5,p6,p7,rfl,p9⟩
  .subst hy0;exact⟨[],[],Src.ofNil w hun 0,rfl,λi x hx=>by simp at hx,rfl,λc hc=>(by cases hc),B3⟩
  .have hlen:((cells2.toList.drop o2).take ys.length).length=ys.length:=by
    have:=p1.1;simp;omega
   refine⟨(cells2.toList.drop o2).take ys.length,css,?_,hlen,?_,p7,λc hc=>AP _ hc,(B9.1 d2).2⟩
   .refine Src.ofSlice w hun _ _ _ _ (by rw[hlen,CW]) (λj u hj=>?_) (λu hu=>?_)
    .rw[B4]at hj;split at hj
     .rw[B5]at hj;rw[Addr.add_lit,p2.cell];exact hj
     .cases hj
    .obtain⟨a,ha⟩:=C6 hu;have hlt:a<ys.length:=by have:=(A9.1 ha).1;omega
     obtain⟨v0,e1,e2,_⟩:=p9 a _ (A1 hlt);grind
   .exact p9.cells λa ha=>by rw[B4,if_pos ha]
 have fin:∀{w':World} {b o cap:Nat} {cells:Array Value} {bss:List (List Nat)},(∀j ob,j≠k->σ j=some ob->¬Bk G j ob b)->(∀c,¬G.im.cell b c)->¬G.im.obj b->fr.owned b->b ∉ bc->(b::bss.flatten).Nodup->(∀c∈bss.flatten,c∈bs)->
  (∀b',b'<w.heap.size→b'≠b→w'.heap[b']?=w.heap[b']?)→w.heap.size≤w'.heap.size→w'.os=w.os→w'.tape=w.tape→w'.output=w.output→
  HS (xs++ys).length cap->RowAt w' b cells el->o+cap<=cells.size->bss.length=xs.length->Hds fr.owned w G.im e' (id2::q) (xs++ys) (bss++css) (cells.toList.drop o)->
  Res P fr free self σ w G ⟨.obj self 0,(self,some (.dp (el::id2::q) e' (xs++ys) (self+1) none true))::(k,none)::gone (FR sx)⟩ (.slice (some ⟨b,o,none⟩) (xs++ys).length cap) w':=by
  intro w' b o cap cells bss a1 a2 a3 a4 a0 a01 a02 a5 a6 a7 a8 a9 a10 a11 a12 a14 a13;obtain⟨g1,m1⟩:=hm.touch (w':=w') hnk a1 a2 a3 a4 a5 a6 a11.lt a7 a8 a9;have hfl:(bss++css).flatten=bss.flatten++css.flatten:=List.flatten_append
  obtain ⟨G',g2,m2,m3⟩:=(m1.gone (FR sx)).mk_dp hself hself1 (id:=el) (r:=id2::q) (t:=e') (x:=(xs++ys:List (E7 (id2::q) e').T)) (DV.mk2 (xs:=xs++ys) (bss:=bss++css) a10 a11 a12 a4 a2 a3 (by rw [AE,AE,a14,s4]) (a13.keep g1.ext λc hc=>by
   rw[hfl]at hc
   have hne:c≠b/\c<w.heap.size:=by
    rcases AS.1 hc with h|h
    .exact⟨λe=>(B9.1 a01).1 (e▸h),IN (hm.objs k _ hkσ) ((hbk c).2 (a02 c h))⟩
    .grind
   grind)) (by
   grind) (λb' hb' j ob hj hbj=>by
   obtain⟨hjn,hj⟩:=A2a hj;rw[FP]at hj;by_cases e:j=k
   .grind
   .rw[if_neg e]at hj;rcases B2.1 hb' with rfl|hb'
    .grind
    .rw[hfl]at hb';rcases AS.1 hb' with h|h
     .exact e (hm.sep j k ob _ b' hj hkσ hbj ((hbk b').2 (a02 b' h)))
     .obtain⟨j',j1,ob',j2,j3⟩:=d3 b' (s5 b' h);exact hjn ((hm.sep j j' ob ob' b' hj j2 hbj j3)▸j1))
  refine⟨G',g1.trans g2,?_,m3⟩
  have e4:EN σ ((self,some (Obj.dp (el::id2::q) e' (xs++ys:List (E7 (id2::q) e').T) (self+1) none true))::(k,none)::gone (FR sx))=
   EN (EN (EN σ [(k,none)]) (gone (FR sx))) [(self,some (Obj.dp (el::id2::q) e' (xs++ys:List (E7 (id2::q) e').T) (self+1) none true))]:=by
   funext a;rw[show(((self,some (Obj.dp (el::id2::q) e' (xs++ys:List (E7 (id2::q) e').T) (self+1) none true))::(k,none)::gone (FR sx)):List (Nat×Option Obj))=[(self,some (Obj.dp (el::id2::q) e' (xs++ys:List (E7 (id2::q) e').T) (self+1) none true))]++([(k,none)]++gone (FR sx))from rfl,GI,GI,FP,FP,FP,LH,LH,FP];by_cases e1:a=self
   .rw[if_pos e1,if_pos e1]
   .grind
  show MemS P fr (J1 free self) (EN σ ((self,_)::(k,none)::gone (FR sx))) w' G';rw[e4];exact m2
 have hnew:(∀j ob,j≠k->σ j=some ob->¬Bk G j ob w.heap.size)/\(∀c,¬G.im.cell w.heap.size c)/\¬G.im.obj w.heap.size:=
  ⟨λj ob _ hj hbj=>absurd (IN (hm.objs j ob hj) hbj) (AC _),λc h=>absurd (hm.after.inC _ _ h) (AC _),λh=>absurd (hm.after.inO _ h) (AC _)⟩
 have hB':(xs.length+ys.length)*24<=70368744177664:=hB
 have grow:∀{base:Option Addr} {cap:Nat} {olds:List Value} {bss:List (List Nat)},cap<xs.length+ys.length->(Builtin.firstCells 1 xs.length (.slice base xs.length cap)).run P w.drew=.ok olds.toArray w.drew->
  olds.length=xs.length->Hds fr.owned w G.im e' (id2::q) xs bss olds->bss.length=xs.length->bss.flatten.Nodup->(∀c∈bss.flatten,c∈bs)->∃z w',(Builtin.append_ #[id,id] ty #[.slice base xs.length cap,vx]).run P w=.ok z w'/\
  Res P fr free self σ w G ⟨.obj self 0,(self,some (.dp (el::id2::q) e' (xs++ys) (self+1) none true))::(k,none)::gone (FR sx)⟩ z w':=by
  intro base cap olds bss hcap hold hol hor hbl hbn hbsub
  have hbig:(xs.length+ys.length)*i.bytes<=140737488355328:=by
   have:(xs.length+ys.length)*i.bytes<=(xs.length+ys.length)*24:=CC _ h3;omega
  have hrun:=run_append_grow_src w id id ty el i _ hun h1 h4 base xs.length cap olds oc vx ys.length news oc hcap oa (growslice_fits hcap hbig);have hge:=grownCap_ge w (xs.length+ys.length) cap el;have hbslt:∀c∈bss.flatten,c<w.heap.size:=λc hc=>IN (hm.objs k _ hkσ) ((hbk c).2 (hbsub c hc))
  have:=fin (w':=w.drew.alloc (.cells ((olds++news).toArray++Builtin.zeroCells (Value.slice none 0 0).cells (grownCap w (xs.length+ys.length) cap el-(xs.length+ys.length))) el)) (b:=w.heap.size) (o:=0)
   (cap:=grownCap w (xs.length+ys.length) cap el) (cells:=((olds++news).toArray++Builtin.zeroCells (Value.slice none 0 0).cells (grownCap w (xs.length+ys.length) cap el-(xs.length+ys.length)))) (bss:=bss)
   hnew.1 hnew.2.1 hnew.2.2 hm.owned_new (λh=>absurd (hblt _ h) (AC _)) (B9.2 ⟨λh=>absurd (hbslt _ h) (AC _),hbn⟩) hbsub
   (λb' h _=>by show(w.heap.push _)[b']?=_;grind) oe rfl rfl rfl
   (by rw[AE];exact⟨hge,oa⟩) ⟨(0,0),by show(w.heap.push _)[_]?=_;simp,.inl (AH _)⟩
   (by
    rw[C4,Array.size_append,size_zeroCells,BQ,AE,hol,s2];have:(Value.slice none 0 0).cells.size=1:=rfl;grind) hbl
   (by
    rw[DA,Array.toList_append];refine Hds.append hor s3 hbl (λa ha=>?_) (λa ha=>?_)<;>grind)
  rw[AE]at this;exact⟨_,_,hrun,this⟩
 rcases k5.inv2 with⟨rfl,hx0,hb0⟩|⟨b,o,cap,cells,bss,rfl,hcap,hrow,hsz,hown,hC,hO,hbl,hb0,hrows⟩
 .subst hx0;by_cases h0:ys.length=0
  .have hy0:ys=[]:=AM h0;subst hy0;have hn:news=[]:=AM s2;subst hn;have m0:=(hm.drop k).gone (FR sx);obtain⟨G',g2,m2,m3⟩:=m0.mk_dp hself hself1 (id:=el) (r:=id2::q) (t:=e') (x:=([]:List (E7 (id2::q) e').T)) (v:=.slice none 0 0) (bs:=[]) ⟨_,rfl,rfl,.inr (.inl ⟨oq,rfl,rfl,rfl⟩)⟩ B3 (λb hb=>by cases hb);refine⟨.slice none 0 0,w,?_,G',g2,?_,m3⟩
   .have hl1:=s1.len w;have hc1:=s1.cells;simp at hc1;rcases s1.kind with⟨e',hk⟩|hk<;>simp[Builtin.append_,run_underlying hun,run_underlying hk,sizeOf,typeInfo,h1,h2',hl1,hc1]
   .have e4:EN σ ((self,some (Obj.dp (el::id2::q) e' ([]:List (E7 (id2::q) e').T) (self+1) none true))::(k,none)::gone (FR sx))=
     EN (EN (EN σ [(k,none)]) (gone (FR sx))) [(self,some (Obj.dp (el::id2::q) e' ([]:List (E7 (id2::q) e').T) (self+1) none true))]:=by
     funext a;rw[show(((self,some (Obj.dp (el::id2::q) e' ([]:List (E7 (id2::q) e').T) (self+1) none true))::(k,none)::gone (FR sx)):List (Nat×Option Obj))=[(self,some (Obj.dp (el::id2::q) e' ([]:List (E7 (id2::q) e').T) (self+1) none true))]++([(k,none)]++gone (FR sx))from rfl,GI,GI,FP,FP,FP,LH,LH,FP];by_cases e1:a=self
     .rw[if_pos e1,if_pos e1]
     .grind
    grind
  .exact grow (base:=none) (cap:=0) (olds:=[]) (bss:=[]) om (run_firstCells_none _ _ _ _ _) oe (λi x hx=>by simp at hx) rfl B3 (λc hc=>by cases hc)
 .have hbin:∀j ob,j≠k->σ j=some ob->¬Bk G j ob b:=λj ob hj ho hbj=>hj (hm.sep j k ob _ b ho hkσ hbj ((hbk b).2 oc));have hxc:=hcap.1;have hfull:o+xs.length<=cells.size:=oa
  have hcell:∀o,w.cell? ⟨b,o,none⟩=cells.toList[o]?:=hrow.cell;have hnd0:=k4;rw[hb0]at hnd0;have hsubb:∀c∈bss.flatten,c∈bs:=λc hc=>oc
  by_cases hroom:xs.length+ys.length<=cap
  .have hfit:o+xs.length+news.length<=cells.size:=by rw[s2];omega
   obtain⟨fz,hb1,hfz⟩:=(show RowAt w b cells el from hrow);have hst:=Y1 P b (o+xs.length) el fz news 0 cells w hb1 hfz oa s1.one
   have hrun:(Builtin.append_ #[id,id] ty #[.slice (some ⟨b,o,none⟩) xs.length cap,vx]).run P w=
    .ok (.slice (some ⟨b,o,none⟩) (xs.length+ys.length) cap) (w.setRow b (FA cells.toList (o+xs.length) news).toArray):=by
    have hl1:=s1.len w;have hc1:=s1.cells;simp only[CT]at hst;rcases s1.kind with⟨e',hk2⟩|hk2<;>simp[Builtin.append_,run_underlying hun,run_underlying hk2,sizeOf,typeInfo,h1,h2',hl1,hroom,hc1,Addr.add_lit,hst,FA]
   have hspl:(FA cells.toList (o+xs.length) news).length=cells.size:=by rw[KZ (by simpa using hfit)];simp
   have:=fin (w':=w.setRow b (FA cells.toList (o+xs.length) news).toArray) (b:=b) (o:=o) (cap:=cap) (cells:=(FA cells.toList (o+xs.length) news).toArray) (bss:=bss)
    hbin hC hO hown (λh=>hbc b h oc) hnd0 hsubb (λb' _ hne=>setRow_other w b b' _ hne) oe rfl rfl rfl
    (by rw[AE];exact⟨hroom,oa⟩) (hrow.set (by rw[BQ,hspl])) oc hbl
    (by
     show Hds fr.owned w G.im e' (id2::q) (xs++ys) (bss++css) ((FA cells.toList (o+xs.length) news).drop o);rw[pP (by simpa using hfit)];refine Hds.append hrows s3 hbl (λa ha=>?_) (λa ha=>?_)
     .unfold FA;grind
     .unfold FA;rw[BG om,C1 om];grind)
   grind
  .exact grow (base:=some ⟨b,o,none⟩) (cap:=cap) (olds:=(cells.toList.drop o).take xs.length) (bss:=bss) oa
    (run_firstCells_some _ _ _ _ _ _ _ (by simp; omega) (λj u hj=>by
     rw[World.cell?_drew,Addr.add_lit,hcell];grind)) om (hrows.cells λa ha=>by rw[B4,if_pos ha]) hbl (B9.1 hnd0).2 hsubb
theorem AFg(K:Lay P t id)(A:∀x,P.underlying id=some (.slice x)->el=x)(L:MemS P fr free σ w G)(j:∀k o,σ' k=some o->σ k=some o)(i:free self)(b:free (self+1))
 {C:SV}(a:dE σ' self el t s C=some r)(Q:Gives r u)(O:SR P w G s v)(B:SR P w G C vx):
 ∃z w',(Builtin.append_ #[id,id] ty #[v,vx]).run P w=.ok z w'/\Res P fr free self σ w G u z w':=by
 have T:∀k o,σ' k=some o->ObjOK P fr w G k o:=λk o h=>L.objs k o (j k o h);unfold dE at a;split at a
 .rename_i e k g;split at a
  .rename_i y D N R hk;cases d:(Nat.beq g 0&&(Nat.beq el y&&D.same e))with
   |false=>grind
   |true=>
    rw[d]at a;simp only[A8]at a;simp only[A6]at d;have E:=A3 d.1;have H:=A3 d.2.1;have I:=Ty.same_eq d.2.2;subst E H I;split at a
    .rename_i U l;cases a;obtain⟨V,M,rfl⟩:=Q.may_inv;exact AFZ (xs:=N) K A L i b (j _ _ hk) O (eC K (K9 T l B)) M
    .cases a
  .rename_i y id2 q D N R hk;cases d:(Nat.beq g 0&&(Nat.beq el y&&((E7 (id2::q) D).same e && !(FE k (FR C)))))with
   |false=>grind
   |true=>
    rw[d]at a;simp only[A8]at a;simp only[A6,BP]at d;have E:=A3 d.1;have H:=A3 d.2.1;have I:=Ty.same_eq d.2.2.1;have J:k ∉ FR C:=λh=>by grind[PZ,absurd]
    subst E H I;split at a
    .rename_i U l;cases a;obtain⟨V,M,rfl⟩:=Q.may_inv;exact AFf (xs:=N) K A L j i b (j _ _ hk) O B J l M
    .cases a
  .cases a
 .cases a
theorem AFh(z:MemS P fr free σ w G){n:Nat}(hn:free n){p c:SV}{Y:List (Nat×Option Obj)}(h:dF σ n p c=some Y):
 ∃G',GLe w G w G'/\MemS P fr (λj=>free j/\j≠n) (EN σ Y) w G':=by
 unfold dF at h;split at h
 .rename_i k _ _ _ _ j _;split at h
  .rename_i id id2 q e I gk i hk;cases hb:Nat.beq gk (j+2)with
   |false=>grind
   |true=>
    rw[hb]at h;have eg:=A3 hb;subst eg;simp only[A8]at h;split at h
    .rename_i h9 r L h3 hj;cases hs:OT h9 (id2::q)with
     |false=>grind
     |true=>
      rw[hs]at h;have O:=pX hs;subst O;simp only[A8]at h;split at h
      .rename_i y hy;cases h;obtain⟨et,ex⟩:=Ty.cast?_some hy
       have h2:r=e:=by
        have:∀(l:List Nat),E7 l r=E7 l e->r=e:=by
         intro l;induction l with
         |nil=>intro h;exact h
         |cons a l ih=>intro h;injection h with h;exact ih h
        exact this _ et
       subst h2;cases ex;have h6:k≠j:=λe=>oc
       have h8:=eK z hk;obtain⟨h0,R,v,us,bs,k1,k2,k3,k4,k5⟩:=DpOK.inv (z.objs _ _ hk);obtain⟨hv,b,o,len,h1,Z,rfl,a2,a3⟩:=DpOK.hole (z.objs _ _ hk) k1;obtain⟨_,_,v2,y4,d,c1,c2,c3,c4,c5⟩:=DpOK.inv (z.objs _ _ hj);have Z:G.val j 0=some hv:=Z;rw[c1]at Z;cases Z;obtain⟨s,bss,rfl,q1,q2,q3,q4,q5,q6,q7,rfl,q9⟩:=k5.three (xs:=I) h0 rfl;have y3:(E7 (id2::q) r).sz=1:=rfl;have hi:i<bss.length:=by rw[q7];exact a2
       have A:∀c,Bk G k (.dp (id::id2::q) r I (j+2) (some [i]) true) c<->c∈b::bss.flatten:=λc=>N9 k2 k3;have B:∀c,Bk G j (.dp (id2::q) r L h3 none true) c<->c∈d:=λc=>N9 c2 c3;have y1:∀c∈d,c ∉ b::bss.flatten:=λc C h=>h6 (z.sep k j _ _ c hk hj ((A c).2 h) ((B c).2 C));have h4:=qE hi;have h5:=eJ (c:=d) hi;have h7:=B9.1 k4;have D:=h7.2;rw[h4]at D;have E:=BD.1 D;have U:=BD.1 E.2.1;have x1:∀c,c∈(bss.take i).flatten->c∈bss.flatten:=λc C=>oc
       have x2:∀c,c∈(bss.drop (i+1)).flatten->c∈bss.flatten:=λc C=>oc
       have V:(b::(bss.set i d).flatten).Nodup:=by
        rw[h5];refine B9.2 ⟨λh=>?_,BD.2 ⟨E.1,BD.2 ⟨c4,U.2.1,λx N y hy e=>?_⟩,λx N y hy e=>?_⟩⟩
        .grind
        .grind
        .grind
       have T:∀c,c∈b::(bss.set i d).flatten->c∈b::bss.flatten\/c∈d:=by
        intro c C;rcases B2.1 C with h|h
        .grind
        .grind
       obtain⟨M,m0⟩:=z.ghost hn (.tuple (List.map I8 (b::(bss.set i d).flatten)).toArray);let G0:Gh:=G.addVal n 0 (.tuple (List.map I8 (b::(bss.set i d).flatten)).toArray)
       have M:GLe w G w G0:=M;have m0:MemS P fr (λj=>free j/\j≠n) σ w G0:=m0;have X:G0.val n 0=some (.tuple (List.map I8 (b::(bss.set i d).flatten)).toArray):=by simp[G0,Gh.addVal]
       have y2:G0.im=G.im:=rfl
       have W:ObjOK P fr w G0 k (.dp (id::id2::q) r ((show List (E7 (id2::q) r).T from I).set i L) n none true):=by
        refine ⟨(by intro h; cases h),M.ety _ _ R,_,_,b::(bss.set i d).flatten,M.val _ _ _ k1,X,oe,V,⟨_,rfl,rfl,.inr (.inr ⟨(by intro h; cases h),b,o,h1,s,bss.set i d,by rw [AQ],
         by grind,q2,q3,q4,q5,q6,oc,rfl,λa x N=>?_⟩)⟩,trivial⟩
        rw[Y8,qF hi];by_cases t:i=a
        .subst t;rw[if_pos rfl];rw[CJ a2]at N;cases N
         have x0:(s.toList.drop (o+i*(E7 (id2::q) r).sz)).take (E7 (id2::q) r).sz=[hv]:=by
          show(s.toList.drop (o+i*1)).take 1=[hv];rw[qI,CW,<-q2.cell];exact a3
         grind
        .rw[if_neg t];rw[CM t]at N;have:=q9 a x N;rw[qG,if_neg t]at this;assumption
       have m1:=(m0.drop j).drop k
       have K:∀a H,EN (EN σ [(j,none)]) [(k,none)] a=some H->a≠k/\a≠j/\σ a=some H:=by
        intro a H h;rw[FP]at h;by_cases t:a=k
        .grind
        .rw[if_neg t,FP]at h;grind
       have m2:=m1.backO (k:=k) W (λh=>h8 h.1) (λc C a H Q J=>by
        obtain⟨t,e2,Q⟩:=K a H Q;rw[show Bk G0 k (.dp (id::id2::q) r ((show List (E7 (id2::q) r).T from I).set i L) n none true) c<->c∈b::(bss.set i d).flatten from N9 X oe]at C;rw[GT (z.objs a H Q) M]at J;rcases T c C with h|h
        .exact t (z.sep a k H _ c Q hk J ((A c).2 h))
        .exact e2 (z.sep a j H _ c Q hj J ((B c).2 h)))
       refine⟨G0,M,?_⟩
       have e4:EN σ [(k,some (Obj.dp (id::id2::q) r ((show List (E7 (id2::q) r).T from I).set i L) n none true)),(j,none)]=
        EN (EN (EN σ [(j,none)]) [(k,none)]) [(k,some (Obj.dp (id::id2::q) r ((show List (E7 (id2::q) r).T from I).set i L) n none true))]:=by
        funext a;rw[show([(k,some (Obj.dp (id::id2::q) r ((show List (E7 (id2::q) r).T from I).set i L) n none true)),(j,none)]:List (Nat×Option Obj))=[(k,some (Obj.dp (id::id2::q) r ((show List (E7 (id2::q) r).T from I).set i L) n none true))]++[(j,none)]from rfl,GI,FP,FP,FP,FP,FP];by_cases t:a=k
        .rw[if_pos t,if_pos t]
        .rw[if_neg t,if_neg t,if_neg t]
       grind
      .cases h
    .cases h
  .cases h
 .cases h
end
section
variable{P:Program}{fr:Fr}{free free':Nat→Prop}{self:Nat}{σ σ':Nat→Option Obj}{w w':World}{G G':Gh}{I:Im}
theorem qJ{E:Env}{dr:Bool}(b:EnvOK P dr E){ty:Ty}(h:U1 E id ty=true):∀k v,ty=.map k v->∀x y,P.underlying id=some (.map x y)->P0 P k x=true:=by
 intro k v e x y i;subst e;simp only[U1,A6,b.ky _ _ _ i]at h;obtain⟨d,a⟩:=h;split at a
 .rename_i j hk;have:=Ty.same_eq a;subst this;exact b.eq _ _ d hk
 .cases a
theorem AFi{E:Env}(i:EnvOK P fr.dr E)(q:MemS P fr free σ w G)(b:∀k o,σ' k=some o->σ k=some o){t:Option Ty}(h:SR P w G s v):SR P w G (XN E.fs σ' t s) v:=by
 unfold XN;split
 .rename_i d c f cs;split
  .rename_i F l;have a:CR P w G (.fn f cs) [v]:=h.one oe;obtain⟨x,r,e,j⟩:=eE (D:=False) (λk o h=>q.objs k o (b k o h)) i.fs (λh=>h.elim) l a;have e:=AB.1 e;subst e;exact⟨_,rfl,HofD.fnc (by rw[i.pin];exact j)⟩
  .exact h
 .exact h
theorem qK{ps:Array (Nat×Operand)}{ρ:Nat×Operand->SV}(h:∀p∈ps.toList,SR P w G (ρ p) (a.eval p.2)):
 ∀(j:Nat) (q:Nat×SV) (u:Nat×Value),(ps.toList.map λp=>(p.1,ρ p))[j]?=some q->(ps.map λp=>(p.1,a.eval p.2)).toList[j]?=some u->q.1=u.1/\SR P w G q.2 u.2:=by
 grind
theorem AFj{wf:Bool}(j:Lay P t id)(d:∀x,P.underlying id=some (.slice x)->el=x)(B:MemS P fr free σ w G)(A:∀k o,σ' k=some o->σ k=some o)(b:free self)
 {x:SV}(a:XG σ' wf self el t s x=some r)(H:Gives r u)(E:SR P w G s v)(hx:SR P w G x vx):
 ∃z w',(Builtin.append_ #[id,id] ty #[v,vx]).run P w=.ok z w'∧Res P fr free self σ w G u z w':=by
 have X:∀k o,σ' k=some o->ObjOK P fr w G k o:=λk o h=>B.objs k o (A k o h);unfold XG at a;split at a
 .rename_i e;split at a
  .rename_i Z K;have I:VRel w G.im (.slice e) Z vx:=K9 X K hx;split at a
   .have a:=A2 a;subst a;obtain⟨M,y,rfl⟩:=H.may_inv;obtain⟨c,D,l⟩:=E;have l:c=[.slice none 0 0]:=l;have i:v=.slice none 0 0:=AB.1 ((show c=[v]from D).symm.trans l);subst i;exact pS j d B b (eC j I) y
   .have a:=A2 a;subst a;obtain⟨M,y,rfl⟩:=H.may_inv;obtain⟨c,D,N,l⟩:=E;have i:v=.slice (some N) 0 0:=AB.1 ((show c=[v]from D).symm.trans l);subst i;exact A20 j d B b (eC j I) y
   .rename_i k g;split at a
    .rename_i L O xs W w' hk;cases q:(Nat.beq g 0&&(Nat.beq W 0&&Nat.beq el L))with
     |false=>grind
     |true=>
      rw[q]at a;simp only[A8]at a;simp only[A6]at q;have Q:=A3 q.1;have R:=A3 q.2.1;have T:=A3 q.2.2;subst Q R T;split at a
      .rename_i Y J;have a:=A2 a;subst a;obtain⟨M,y,rfl⟩:=H.may_inv;obtain⟨U,V⟩:=Ty.cast?_some J;have C:O=e:=by injection U
       subst C;cases V;exact A21 j d B b (A _ _ hk) E (eC j I) y
      .cases a
    .cases a
   .cases a
  .cases a
 .cases a
theorem AFk{N:Ty}{wf:Bool}(A:Lay P t id)(B:Lay P N id2)(b:∀x,P.underlying id=some (.slice x)->el=x)(C:MemS P fr free σ w G)(K:∀k o,σ' k=some o->σ k=some o)(a:free self)
 {x:SV}(h:oL σ' wf self el t N s x=some r)(E:Gives r u)(D:SR P w G s v)(hx:SR P w G x vx):
 ∃z w',(Builtin.append_ #[id,id2] ty #[v,vx]).run P w=.ok z w'/\Res P fr free self σ w G u z w':=by
 unfold oL at h;split at h
 .rename_i Z;have H:=AEW B hx;unfold XG at h;simp only[SV.asV,SV.as]at h;split at h
  .rename_i M J;obtain⟨_,e⟩:=Ty.cast?_some J;have e:FL Z=M:=e;subst e;split at h
   .have h:=A2 h;subst h;obtain⟨O,l,rfl⟩:=E.may_inv;obtain⟨c,y,i⟩:=D;have i:c=[.slice none 0 0]:=i;have d:v=.slice none 0 0:=AB.1 ((show c=[v]from y).symm.trans i);subst d;exact pS A b C a H l
   .have h:=A2 h;subst h;obtain⟨O,l,rfl⟩:=E.may_inv;obtain⟨c,y,Q,i⟩:=D;have d:v=.slice (some Q) 0 0:=AB.1 ((show c=[v]from y).symm.trans i);subst d;exact A20 A b C a H l
   .rename_i k g;split at h
    .rename_i L R xs X w' hk;cases j:(Nat.beq g 0&&(Nat.beq X 0&&Nat.beq el L))with
     |false=>grind
     |true=>
      rw[j]at h;simp only[A8]at h;simp only[A6]at j;have T:=A3 j.1;have U:=A3 j.2.1;have V:=A3 j.2.2;subst T U V;split at h
      .rename_i Y I;have h:=A2 h;subst h;obtain⟨O,l,rfl⟩:=E.may_inv;obtain⟨W,e⟩:=Ty.cast?_some I;have q:R=.int .u8:=by injection W
       subst q;cases e;exact A21 A b C a (K _ _ hk) D H l
      .cases h
    .cases h
   .cases h
  .cases h
 .cases h
theorem AFl{E:Env}(L:EnvOK P fr.dr E)(Q:MemS P fr free σ w G)(U:∀k o,σ' k=some o->σ k=some o)(O:∀k,self<=k->k<self+8->free k)
 (D:(∀c x y,o.op≠.pick c x y)->∀x∈o.op.operands,SR P w G (ρ x) (a.eval x))
 (z1:∀c x y,o.op=.pick c x y->SR P w G (ρ c) (a.eval c)/\(a.eval c=.bool true->SR P w G (ρt x) (a.eval x))/\(a.eval c=.bool false->SR P w G (ρf y) (a.eval y)))
 (A:oY E ρ ρt ρf σ' self o=some r)(M:Gives r u):Done P fr.dr o a w (Res P fr free self σ w G u):=by
 have K:free self:=O self (AH _) oa;have ho:∀k o,σ' k=some o->ObjOK P fr w G k o:=λk o h=>Q.objs k o (U k o h);unfold oY at A;cases B:o.op with
 |move x=>
  rw[B]at A;have A:=A2 A;subst A;rw[M.v_inv];exact Done.calm Q ⟨rfl,_,by simp[execOp,B],D (by simp[B]) x (by simp[B,Op.operands])⟩
 |assign x=>
  rw[B]at A;have A:=A2 A;subst A;rw[M.v_inv];exact Done.calm Q ⟨rfl,_,by simp[execOp,B],D (by simp[B]) x (by simp[B,Op.operands])⟩
 |pick c x y=>
  rw[B]at A;obtain⟨J,H,N⟩:=z1 c x y B;obtain⟨e1,b,e2,e3⟩:=ADf (P:=P) (w:=w) (G:=G) A M J H N;simp_all[Done.calm,execOp,asBool]
 |alloc t=>
  rw[B]at A;simp only at A;split at A
  .rename_i ty C;have A:=A2 A;subst A;rw[M.pure_inv];obtain⟨z,w',J,H⟩:=AEH (L.ty _ _ C) Q K;exact Done.makes ⟨z,w',by simp[execOp,B,J],H⟩
  .cases A
 |box t x=>
  rw[B]at A;simp only at A;split at A
  .rename_i ty C;split at A
   .rename_i y hy;have A:=A2 A;subst A;rw[M.pure_inv];obtain⟨z,w',J,H⟩:=AEI (id:=t) (L.ty _ _ C) Q K hy (D (by simp[B]) x (by simp[B,Op.operands]));exact Done.makes ⟨z,w',by simp[execOp,B,J],H⟩
   .cases A
  .cases A
 |load t x=>
  rw[B]at A;simp only at A;split at A
  .rename_i ty C
   have X:∃ Z:Bool,(bif Z then (match XI σ' self ty (ρ x) with
    |some r=>some r
    |none=>(TX σ' ty (ρ x)).map OpRes.v)else oW σ' ty (ρ x))=some r:=⟨_,A⟩
   clear A;obtain⟨Z,A⟩:=X;cases Z with
   |true=>
    simp only[A8]at A;cases z4:XI σ' self ty (ρ x)with
    |some r1=>
     rw[z4]at A;have A:=A2 A;subst A;obtain⟨z,J,H⟩:=AFc (self:=self) (L.ty _ _ C) Q U K (O _ oa oa) (O _ oa oa) z4 M (D (by simp[B]) x (by simp[B,Op.operands]));exact Done.makes ⟨z,w,by simp[execOp,B,J],H⟩
    |none=>
    rw[z4]at A;simp only at A;cases hl:TX σ' ty (ρ x)with
    |none=>grind
    |some s=>
     rw[hl]at A;have A:=A2 A;subst A;rw[M.v_inv];obtain⟨z,J,H⟩:=A1p (L.ty _ _ C) ho hl (D (by simp[B]) x (by simp[B,Op.operands]));exact Done.calm Q ⟨rfl,z,by simp[execOp,B,J],H⟩
   |false=>
   simp only[AA]at A;have I:=D (by simp[B]) x (by simp[B,Op.operands]);unfold oW at A;split at A
   .rename_i e y V;cases hs:e.same ty with
    |false=>grind
    |true=>
     rw[hs]at A;have A:=A2 A;subst A;rw[V]at I;obtain⟨z,hz,rfl⟩:=M.may_inv;have hz:y=some z:=hz;subst hz;obtain⟨c,hc,ad,H,N,cc,h4,h5⟩:=I;have Y:a.eval x=.pointer (some ad):=AB.1 ((show c=[a.eval x]from hc).symm.trans H);have z3:=Ty.same_eq hs;subst z3;obtain⟨z',k1,k2⟩:=AE7 (P:=P) (w:=w) (G:=G) (L.ty _ _ C) (x:=z) (v:=.pointer (some ad)) ⟨_,rfl,ad,cc,rfl,N,h4,h5⟩;exact Done.calm Q ⟨rfl,z',by simp[execOp,B,Y,k1],k2⟩
   .cases hl:loadAt σ' ty (ρ x)with
    |none=>grind
    |some s=>
     rw[hl]at A;have A:=A2 A;subst A;rw[M.v_inv];obtain⟨z,J,H⟩:=A1m (L.ty _ _ C) ho hl I;exact Done.calm Q ⟨rfl,z,by simp[execOp,B,J],H⟩
  .cases A
 |store t x y=>
  rw[B]at A;simp only at A;split at A
  .rename_i ty C;cases z0:dH σ' self ty (ρ y) (ρ x)with
   |some r1=>
    rw[z0]at A;have A:=A2 A;subst A;obtain⟨w',J,H⟩:=AFd (self:=self) (L.ty _ _ C) Q U (O _ oa oa) z0 M (D (by simp[B]) x (by simp[B,Op.operands])) (D (by simp[B]) y (by simp[B,Op.operands]));simp_all[Done.writes,execOp]
   |none=>
   rw[z0]at A;simp only at A;cases hl:storeAt σ' ty (ρ y) (ρ x)with
   |none=>grind
   |some s=>
    rw[hl]at A;have A:=A2 A;subst A;rw[M.pure_inv];obtain⟨k,o'⟩:=s;obtain⟨w',J,H,N⟩:=AED (self:=self) (L.ty _ _ C) Q U hl (D (by simp[B]) x (by simp[B,Op.operands])) (D (by simp[B]) y (by simp[B,Op.operands]));exact Done.writes ⟨w',by simp[execOp,B,J],G,H,N,⟨_,rfl,trivial⟩⟩
  .cases A
 |extract x i=>
  rw[B]at A;obtain⟨J,z,H,N⟩:=ADg (P:=P) (w:=w) (G:=G) A M (D (by simp[B]) x (by simp[B,Op.operands]));simp_all[Done.calm,execOp]
 |unOp op t x=>
  rw[B]at A;obtain⟨J,z,H,N⟩:=ADe (P:=P) (w:=w) (G:=G) A M (D (by simp[B]) x (by simp[B,Op.operands]));simp_all[Done.calm,execOp]
 |insert t m k v=>
  rw[B]at A;simp only at A;split at A
  .rename_i ty C;obtain⟨w',J,H⟩:=A23 (self:=self) (L.ty _ _ C) (λh=>qJ L h) Q U A M (D (by simp[B]) m (by simp[B,Op.operands])) (D (by simp[B]) k (by simp[B,Op.operands])) (D (by simp[B]) v (by simp[B,Op.operands]));simp_all[Done.writes,execOp]
  .cases A
 |mapUpdate t m k v=>
  rw[B]at A;simp only at A;split at A
  .rename_i ty C;cases a3:A1Q σ' (ρ m)with
   |true=>
    rw[a3]at A;obtain⟨w',J,H⟩:=AFX (self:=self) (L.ty _ _ C) Q U (O _ oa oa) A M (D (by simp[B]) m (by simp[B,Op.operands])) (D (by simp[B]) k (by simp[B,Op.operands])) (D (by simp[B]) v (by simp[B,Op.operands]));simp_all[Done.writes,execOp]
   |false=>
   rw[a3]at A;simp only[AA]at A;obtain⟨w',J,H⟩:=A23 (self:=self) (L.ty _ _ C) (λh=>qJ L h) Q U A M (D (by simp[B]) m (by simp[B,Op.operands])) (D (by simp[B]) k (by simp[B,Op.operands])) (D (by simp[B]) v (by simp[B,Op.operands]));simp_all[Done.writes,execOp]
  .cases A
 |lookup t m k ok=>
  rw[B]at A;simp only at A;split at A
  .rename_i ty C
   have X:∃ b:Bool,(b=true->ok=false)/\(bif b then dC σ' self ty (ρ m) (ρ k) else dB σ' (U1 E t ty) ty ok (ρ m) (ρ k))=some r:=⟨_,λh=>by
    grind,A⟩
   clear A;obtain⟨b,hb,A⟩:=X;cases b with
   |true=>
    have x1:=hb rfl;subst x1;obtain⟨z,H,N⟩:=AFW (self:=self) (L.ty _ _ C) Q U K (O _ oa oa) A M (D (by simp[B]) m (by simp[B,Op.operands])) (D (by simp[B]) k (by simp[B,Op.operands]));exact Done.makes ⟨z,w,by simp[execOp,B,H],N⟩
   |false=>
   simp only[AA]at A;obtain⟨J,z,H,N⟩:=AEh (L.ty _ _ C) (λh=>qJ L h) ho A M (D (by simp[B]) m (by simp[B,Op.operands])) (D (by simp[B]) k (by simp[B,Op.operands]));simp_all[Done.calm,execOp]
  .cases A
 |fieldAddr t x f=>
  rw[B]at A;simp only at A;split at A
  .rename_i p C;cases hf:Nat.blt f p.fields with
   |false=>grind
   |true=>
    rw[hf]at A;rw[B_]at hf;simp only[A8]at A;have I:=D (by simp[B]) x (by simp[B,Op.operands]);split at A
    .rename_i e y V;rw[V]at I;cases hd:(N2 p f (.ref e e.dflt)).isSome with
     |false=>grind
     |true=>
      rw[hd]at A;have A:=A2 A;subst A;obtain⟨z,hz,rfl⟩:=M.may_inv;have hz:y=some z:=hz;subst hz;obtain⟨s,hs⟩:=Option.isSome_iff_exists.1 ((ADx (z':=z))▸hd:(N2 p f (.ref e z)).isSome=true);obtain⟨c,hc,ad,H,N,cc,h4,h5⟩:=I;have Y:a.eval x=.pointer (some ad):=AB.1 ((show c=[a.eval x]from hc).symm.trans H);obtain⟨z',q2,q3⟩:=A1j (L.ty _ _ C) hf hs (w:=w) (G:=G) (v:=a.eval x) ⟨_,rfl,ad,cc,by rw[Y],N,h4,h5⟩;exact Done.calm Q ⟨rfl,z',by simp[execOp,B,q2],oc⟩
    .cases hl:N2 p f (ρ x)with
     |none=>grind
     |some s=>
      rw[hl]at A;have A:=A2 A;subst A;rw[M.v_inv];obtain⟨z,H,N⟩:=A1j (L.ty _ _ C) hf hl I;exact Done.calm Q ⟨rfl,z,by simp[execOp,B,H],N⟩
  .cases A
 |field t x f=>
  rw[B]at A;simp only at A;split at A
  .rename_i p C;cases hf:Nat.blt f p.fields with
   |false=>grind
   |true=>
    rw[hf]at A;rw[B_]at hf;obtain⟨J,z,H,N⟩:=ADp (L.ty _ _ C) hf A M (D (by simp[B]) x (by simp[B,Op.operands]));simp_all[Done.calm,execOp]
  .cases A
 |indexAddr t x i=>
  rw[B]at A;simp only at A;split at A
  .rename_i ty kd n C hi;have y2:=D (by simp[B]) i (by simp[B,Op.operands]);rw[hi]at y2;obtain⟨e,_⟩:=y2.int;obtain⟨J,z,H,N⟩:=ADy (k:=kd) (L.ty _ _ C) ho A M (D (by simp[B]) x (by simp[B,Op.operands]));simp_all[Done.calm,execOp]
  .cases A
 |index t x i=>
  rw[B]at A;simp only at A;split at A
  .rename_i ty kd n C hi;have y2:=D (by simp[B]) i (by simp[B,Op.operands]);rw[hi]at y2;obtain⟨e,_⟩:=y2.int;obtain⟨J,z,H,N⟩:=ADj (k:=kd) (L.ty _ _ C) A M (D (by simp[B]) x (by simp[B,Op.operands]));simp_all[Done.calm,execOp]
  .cases A
 |slice t x lo hi mx=>
  rw[B]at A;cases mx with
  |some _=>cases A
  |none=>
   simp only at A;split at A
   .rename_i ty C
    have h9:∀b:Option Operand,(∀y,b=some y→y∈o.op.operands)→K_ P w G (b.map ρ) (b.map a.eval):=by
     intro b hb;cases b with
     |none=>exact trivial
     |some y=>exact D (by simp[B]) y (hb y rfl)
    have X:∃ Z:Bool,(match (bif Z then XH σ' self ty (ρ x) (lo.map ρ) (hi.map ρ) else none) with
     |some r=>some r
     |none=>dA σ' ty (ρ x) (lo.map ρ) (hi.map ρ))=some r:=⟨_,A⟩
    clear A;obtain⟨Z,A⟩:=X;cases y5:(bif Z then XH σ' self ty (ρ x) (lo.map ρ) (hi.map ρ)else none)with
    |some r1=>
     rw[y5]at A;have A:=A2 A;subst A;cases Z with
     |false=>cases y5
     |true=>
     obtain⟨z,H,N⟩:=AF_ (self:=self) (L.ty _ _ C) Q U K (O _ oa oa) y5 M (D (by simp[B]) x (by simp[B,Op.operands])) (h9 lo (λy hy=>by simp[B,Op.operands,hy])) (h9 hi (λy hy=>by simp[B,Op.operands,hy]));exact Done.makes ⟨z,w,by simp[execOp,B,H],N⟩
    |none=>
    rw[y5]at A;simp only at A;obtain⟨J,z,H,N⟩:=AE0 (L.ty _ _ C) ho A M (D (by simp[B]) x (by simp[B,Op.operands])) (h9 lo (λy hy=>by simp[B,Op.operands,hy])) (h9 hi (λy hy=>by simp[B,Op.operands,hy]));simp_all[Done.calm,execOp]
   .cases A
 |makeInterface t x=>
  rw[B]at A;simp only at A;split at A
  .rename_i ta tu b2 b8;cases hi:ta.isIface with
   |true=>grind
   |false=>
    rw[hi]at A;simp only[AA]at A;split at A
    .rename_i y hy;cases hj:O1 t ta y tu with
     |none=>grind
     |some z=>
      rw[hj]at A;have A:=A2 A;subst A;rw[M.v_inv];have Y:=K9 ho hy (D (by simp[B]) x (by simp[B,Op.operands]));obtain⟨v,H,N⟩:=AEk (P:=P) (w:=w) (G:=G) (L.ty _ _ b2) hi Y hj;exact Done.calm Q ⟨rfl,v,by simp[execOp,B,H],N⟩
    .cases A
  .cases A
 |makeSlice t l c=>
  rw[B]at A;simp only at A;split at A
  .rename_i e x y C hl hc;have a2:=D (by simp[B]) l (by simp[B,Op.operands]);have z9:=D (by simp[B]) c (by simp[B,Op.operands]);rw[hl]at a2;rw[hc]at z9;obtain⟨e1,_⟩:=a2.int;obtain⟨e2,e3⟩:=z9.int
   have X:∃ dd:Nat,(match T_ self dd (LE E.el dd t) (.slice e) x y with
    |some r=>some r
    |none=>some (OpRes.may (List e.T) (mks? (24*e.sz) x y e.dflt) [] λzs=>⟨.obj self 0,[(self,some (.sl (E.el t) e zs 0 (match o.dst with|some d=>E.wr d|none=>false)))]⟩))=some r:=⟨_,A⟩
   clear A;obtain⟨dd,A⟩:=X;cases y9:T_ self dd (LE E.el dd t) (.slice e) x y with
   |some r1=>
    rw[y9]at A;have A:=A2 A;subst A
    obtain ⟨z,w',J,H⟩:=AFb (self:=self) (id:=t) (L.ty _ _ C) Q K (O _ oa oa) e3 y9 M (by
     obtain⟨el,y3,_,_⟩:=(show Lay P (.slice e) t from L.ty _ _ C).slice;cases dd with
     |zero=>grind[absurd,LE,T_]
     |succ n=>exact⟨LE E.el n el,by simp only[LE,y3,L.el _ _ y3]⟩)
    exact Done.makes ⟨z,w',by simp_all[execOp],H⟩
   |none=>
   rw[y9]at A;simp only at A;have A:=A2 A;subst A;obtain⟨zs,hz,rfl⟩:=M.may_inv;obtain⟨z,w',J,H⟩:=AEK (wr:=(match o.dst with|some d=>E.wr d|none=>false)) (L.ty _ _ C) Q K e3 hz (λx I=>L.el _ _ I);exact Done.makes ⟨z,w',by simp_all[execOp],H⟩
  .cases A
 |makeMap t h=>
  rw[B]at A;simp only at A;split at A
  .rename_i k v C
   have h8:∃b,∃Z:Bool,(bif b then(bif Z then A1P (E.el t) self k v else some (OpRes.pure ⟨.obj self 0,[(self,some (.mp k v [] true))]⟩))else none)=some r/\(b=true->∀x,h.map a.eval=some x->∃kd n,x=.int kd n):=by
    refine⟨_,_,A,λhb x I=>?_⟩;cases h with
    |none=>cases I
    |some y=>
     have hy:=D (by simp[B]) y (by simp[B,Op.operands]);have I:a.eval y=x:=A2 I;simp only at hb;split at hb
     .rename_i kd n V;rw[V]at hy;exact⟨kd,n,by rw[<-I];exact hy.int.1⟩
     .cases hb
   obtain⟨b,Z,J,H⟩:=h8;cases b with
   |false=>cases J
   |true=>
    cases Z with
    |true=>
     simp only[A8]at J;cases v<;>first|(cases J;done)|skip
     rename_i e C;have J:=A2 J;subst J;rw[M.pure_inv];obtain⟨z,w',N,h4⟩:=AFV (el:=E.el t) (L.ty _ _ C) Q K (O _ oa oa) (H rfl);exact Done.makes ⟨z,w',by simp[execOp,B,N],h4⟩
    |false=>
    have J:=A2 J;subst J;rw[M.pure_inv];obtain⟨z,w',N,h4⟩:=AET (L.ty _ _ C) Q K (H rfl);exact Done.makes ⟨z,w',by simp[execOp,B,N],h4⟩
  .cases A
 |build t ps=>
  rw[B]at A;simp only at A;split at A
  .rename_i ty C;have X:∃Z:Bool,(bif Z then XB σ' ty (ps.toList.map λp=>(p.1,ρ p.2))else c_ σ' ty (ps.toList.map λp=>(p.1,XN E.fs σ' (oX ty p.1) (ρ p.2))))=some r:=⟨_,A⟩;clear A;obtain⟨Z,A⟩:=X;cases Z with
   |true=>
    obtain⟨J,z,H,N⟩:=AEQ (L.ty _ _ C) Q U A M (vs:=ps.map λp=>(p.1,a.eval p.2)) oe (qK (ρ:=λp=>ρ p.2) λp hp=>D (by simp[B]) p.2 (by grind[Op.operands]));simp_all[Done.calm,execOp]
   |false=>
    obtain⟨J,z,H,N⟩:=AEN (L.ty _ _ C) Q U A M (vs:=ps.map λp=>(p.1,a.eval p.2)) oe (qK (ρ:=λp=>XN E.fs σ' (oX ty p.1) (ρ p.2)) λp hp=>AFi L Q U (D (by simp[B]) p.2 (by grind[Op.operands])));simp_all[Done.calm,execOp]
  .cases A
 |buildSlice t len ps=>
  rw[B]at A;simp only at A;split at A
  .rename_i r0 R;have A:=A2 A;subst A
   have hb:∀{c:Bool} {m:Option OpRes},(bif c then m else none)=some r0->c=true/\m=some r0:=λ{c m} h=>by
    grind
   obtain⟨z6,b7⟩:=hb (c:=(match o.dst with|some d=>E.wr d|none=>false)&&Nat.beq len 1) R;clear R;simp only[A6]at z6;have a0:=A3 z6.2;subst a0
   obtain⟨x,ty,z2,C,R⟩:∃x ty,ps.toList=[(0,x)]/\E.ty t=some ty/\RK σ' self (match o.dst with|some d=>E.dp d|none=>0) (LE E.el (match o.dst with|some d=>E.dp d|none=>0) t) ty (ρ x)=some r0:=by
    grind
   .obtain⟨dd,R⟩:∃dd,RK σ' self dd (LE E.el dd t) ty (ρ x)=some r0:=⟨_,R⟩;have y7:ps= #[(0,x)]:=by apply CA;simpa using z2
    subst y7;have I:=D (by simp[B]) x (by simp[B,Op.operands])
    obtain ⟨z,w',J,H⟩:=AFe (id:=t) (L.ty _ _ C) Q U K (O _ oa oa) R M (by
     have y6:∃e,ty=.slice e:=by
      unfold RK at R;split at R
      .grind[E7,Ty.same_eq]
      .cases R
     obtain⟨e,rfl⟩:=y6;obtain⟨el,y3,_,_⟩:=(show Lay P (.slice e) t from L.ty _ _ C).slice;cases dd with
     |zero=>grind[absurd,LE,RK]
     |succ n=>exact⟨LE E.el n el,by simp only[LE,y3,L.el _ _ y3]⟩) I
    exact Done.makes ⟨z,w',by simp[execOp,B,J],H⟩
  split at A
  .rename_i e C;split at A
   .rename_i xs I;have A:=A2 A;subst A;rw[M.pure_inv];cases hz:Nat.beq len 0 with
    |true=>
     rw[hz]at I;have e0:=A3 hz;subst e0;simp only[A8]at I;split at I
     .rename_i z2;cases I;have y7:ps= #[]:=by simpa using z2
      subst y7;generalize (Nat.beq 0 0&&Nat.beq (match o.dst with|some d=>E.dp d|none=>0) 1)=q;cases q with
      |true=>
       obtain⟨z,w',H,N⟩:=AES (wr:=(match o.dst with|some d=>E.wr d|none=>false)) (L.ty _ _ C) Q K (λx I=>L.el _ _ I);exact Done.makes ⟨z,w',by simp[execOp,B,H],N⟩
      |false=>
      obtain⟨z,w',H,N⟩:=A1z (wr:=(match o.dst with|some d=>E.wr d|none=>false)) (L.ty _ _ C) Q K (λx I=>L.el _ _ I);exact Done.makes ⟨z,w',by simp[execOp,B,H],N⟩
     .cases I
    |false=>
    simp only[D5,AA]
    have I:(bif Nat.blt 0 len&&Nat.ble (len*e.sz) 16777216 then PS σ' e (ps.toList.map λp=>(p.1,ρ p.2)) (List.replicate len e.dflt)else none)=some xs:=by
     rw[hz]at I
     have a4:Nat.blt 0 len=true:=by
      rw[B_];apply Nat.pos_of_ne_zero;intro e0;rw[e0]at hz;cases hz
     rw[a4];exact I
    obtain⟨z,w',H,N⟩:=AER (wr:=(match o.dst with|some d=>E.wr d|none=>false)) (L.ty _ _ C) Q U K I (vs:=ps.map λp=>(p.1,a.eval p.2)) oe (λx I=>L.el _ _ I) (qK λp hp=>D (by simp[B]) p.2 (by grind[Op.operands]));exact Done.makes ⟨z,w',by simp[execOp,B,H],N⟩
   .cases A
  .cases A
 |binOp op t x y z=>
  rw[B]at A;simp only at A;split at A
  .rename_i r0 R;have A:=A2 A;subst A;obtain⟨e1,v,e2,e3⟩:=ADc (P:=P) (w:=w) (G:=G) R M (D (by simp[B]) x (by simp[B,Op.operands])) (D (by simp[B]) y (by simp[B,Op.operands])) (λq hq=>L.ty _ _ hq) x y;exact Done.calm Q ⟨e1,v,by simp only[execOp,B,Sem.run_bind]at e2 ⊢;rw[e2];rfl,e3⟩
  split at A
  .rename_i r0 R;have A:=A2 A;subst A;unfold A1J at R;split at R
   .rename_i ty C;cases x1:(E.eq t&&A1I ty)with
    |false=>grind
    |true=>
     rw[x1]at R;simp only[A8]at R;simp only[A6]at x1;split at R
     .rename_i xu xv b4 b5;split at R
      .rename_i bb a7
       have ha:∃p,ty=.agg p:=by
        cases ty<;>first|exact⟨_,rfl⟩|cases x1.2
       have J:=K8 b4 (D (by simp[B]) x (by simp[B,Op.operands]));have H:=K8 b5 (D (by simp[B]) y (by simp[B,Op.operands]));obtain⟨q1,q2⟩:=AE2 (op:=op) (ox:=x) (oy:=y) (L.ty _ _ C) ha (L.eq _ _ x1.1 C) J H a7;cases op<;>simp only[M1,AO]at R<;>first|(cases R;done)|skip
       .subst R;rw[M.v_inv];have e2:=q1 rfl;exact Done.calm Q ⟨rfl,.bool bb,by simp only[execOp,B,Sem.run_bind]at e2 ⊢;rw[e2];rfl,SR.mk_bool _⟩
       .subst R;rw[M.v_inv];have e2:=q2 rfl;exact Done.calm Q ⟨rfl,.bool (!bb),by simp only[execOp,B,Sem.run_bind]at e2 ⊢;rw[e2];rfl,SR.mk_bool _⟩
      .cases R
     .cases R
   .cases R
  have h8:∃b,(bif b then cZ op (ρ x) (ρ y)else none)=some r/\(b=true->∀c,ρ x=.val .bool c->P.underlying t=some .bool):=by
   refine⟨_,A,λhb c hc=>?_⟩;rw[hc]at hb;simp only at hb;split at hb
   .rename_i ht;exact(L.ty _ _ ht).bool
   .cases hb
  obtain⟨b,J,H⟩:=h8;cases b with
  |false=>cases J
  |true=>
   obtain⟨e1,v,e2,e3⟩:=ADd (P:=P) (w:=w) (G:=G) J M (D (by simp[B]) x (by simp[B,Op.operands])) (D (by simp[B]) y (by simp[B,Op.operands])) t x y (H rfl);exact Done.calm Q ⟨e1,v,by simp only[execOp,B,Sem.run_bind]at e2 ⊢;rw[e2];rfl,e3⟩
 |makeFunc fn first caps=>
  rw[B]at A;cases fn with
  |func f=>
   simp only at A;split at A
   .rename_i y4;have a9:first= #[]:=by simpa using y4
    subst a9
    have X:∃ Z:Bool,(bif Z then (match E.ty o.type with
     |some (.fnc d c)=>(OS false E.fs σ' d c (.fn f (SV.ofList (caps.toList.map ρ)))).map λF=>OpRes.v (.val (.fnc d c) (some F:Option (d.T->Option c.T)))
     |_=>none)else some (.v (.fn f (SV.ofList (caps.toList.map ρ)))))=some r:=⟨_,A⟩
    clear A;obtain⟨Z,A⟩:=X
    have a8:CR P w G (.fn f (SV.ofList (caps.toList.map ρ))) [.func (.func f) #[] (caps.map a.eval)]:=by
     refine⟨caps.map a.eval,rfl,?_⟩;refine pW oe λj s v J H=>?_;rw[AV]at J;rw[Array.toList_map,AV]at H;cases hp:caps.toList[j]? with
     |none=>grind
     |some p=>
      grind[List.mem_of_getElem?,Op.operands]
    cases Z with
    |true=>
     simp only[A8]at A;split at A
     .rename_i d c C;cases hh:OS false E.fs σ' d c (.fn f (SV.ofList (caps.toList.map ρ)))with
      |none=>grind
      |some F=>
       rw[hh]at A;have A:=A2 A;subst A;rw[M.v_inv];obtain⟨f',c2,e1,e2⟩:=eE (D:=False) (λk o h=>Q.objs k o (U k o h)) L.fs (λh=>h.elim) hh a8;injection e1 with e1 _;refine Done.calm Q ⟨rfl,.func (.func f) #[] (caps.map a.eval),by simp[execOp,B,Instr.makeFunc],_,rfl,?_⟩;rw[e1];exact HofD.fnc (by rw[L.pin];exact e2)
     .cases A
    |false=>
    have A:=A2 A;subst A;rw[M.v_inv];refine Done.calm Q ⟨rfl,.func (.func f) #[] (caps.map a.eval),by simp[execOp,B,Instr.makeFunc],_,rfl,caps.map a.eval,rfl,?_⟩;refine pW oe λj s v J H=>?_;rw[AV]at J;rw[Array.toList_map,AV]at H;grind[List.mem_of_getElem?,Op.operands]
   .cases A
  |_=>cases A
 |nilCheck x=>
  rw[B]at A;have I:=D (by simp[B]) x (by simp[B,Op.operands])
  have y0:∀{s:SV} {ad:Addr},a.eval x=.pointer (some ad)->SR P w G s (.pointer (some ad))->u=⟨s,[]⟩->Done P fr.dr o a w (Res P fr free self σ w G u):=by
   intro s ad J H N;subst N;exact Done.calm Q ⟨rfl,_,by simp_all[execOp],H⟩
  have y1:∀{s:SV} {f:Nat} {vs:Array Value},a.eval x=.func (.func f) #[] vs->SR P w G s (.func (.func f) #[] vs)->u=⟨s,[]⟩->Done P fr.dr o a w (Res P fr free self σ w G u):=by
   intro s f vs J H N;subst N;exact Done.calm Q ⟨rfl,_,by simp_all[execOp],H⟩
  simp only at A;split at A
  .rename_i k p q V;have A:=A2 A;subst A;rw[V]at I;obtain⟨b,t,oo,_,_,_,Y⟩:=JD I;exact y0 Y (Y▸I) M.v_inv
  .rename_i k p i q uu V;have A:=A2 A;subst A;rw[V]at I;obtain⟨b,t,oo,n,e,o',_,_,_,_,_,_,Y⟩:=dX I;exact y0 Y (Y▸I) M.v_inv
  .rename_i k g i q uu V;have A:=A2 A;subst A;rw[V]at I;obtain⟨b,oo,len,b6,e,o',_,_,_,_,_,Y⟩:=O_ I;exact y0 Y (Y▸I) M.v_inv
  .rename_i t y V;have A:=A2 A;subst A;rw[V]at I;obtain⟨ad,c,Y,_⟩:=RP I;exact y0 Y (Y▸I) M.v_inv
  .rename_i e y V;have A:=A2 A;subst A;rw[V]at I;obtain⟨z,hz,rfl⟩:=M.may_inv;have hz:y=some z:=hz;subst hz;obtain⟨c,hc,ad,H,N,cc,h4,h5⟩:=I;have Y:a.eval x=.pointer (some ad):=AB.1 ((show c=[a.eval x]from hc).symm.trans H);exact y0 (s:=.ref e z) Y ⟨_,rfl,ad,cc,rfl,N,h4,h5⟩ rfl
  .rename_i f cc V;have A:=A2 A;subst A;rw[V]at I;obtain⟨c,hc,vs,J,H⟩:=I;have Y:a.eval x=.func (.func f) #[] vs:=AB.1 ((show c=[a.eval x]from hc).symm.trans J);exact y1 (s:=.fn f cc) Y ⟨_,rfl,vs,rfl,H⟩ M.v_inv
  .rename_i nd d c F V;have A:=A2 A;subst A;rw[V]at I;obtain⟨cc,hc,f,vs,J,H⟩:=I;have Y:a.eval x=.func (.func f) #[] vs:=AB.1 ((show cc=[a.eval x]from hc).symm.trans J);exact y1 (s:=.hof nd d c F) Y ⟨_,rfl,f,vs,rfl,H⟩ M.v_inv
  .rename_i d c y V;have A:=A2 A;subst A;rw[V]at I;obtain⟨F,hF,rfl⟩:=M.may_inv;have hF:y=some F:=hF;subst hF;obtain⟨cc,hc,H⟩:=I;obtain⟨f,vs,N,h4⟩:=A1Y H;have Y:a.eval x=.func (.func f) #[] vs:=AB.1 ((show cc=[a.eval x]from hc).symm.trans N);exact y1 (s:=.hof false d c F) Y ⟨_,rfl,f,vs,rfl,by rw[<-L.pin];grind⟩ rfl
  .cases A
 |convert st t x=>
  rw[B]at A;simp only at A;have I:=D (by simp[B]) x (by simp[B,Op.operands]);split at A
  .rename_i sy ty b1 C;have a1:=L.ty _ _ b1;have h7:∃d,P.underlying st=some d:=let ⟨d,hd,_⟩:=a1.isAgg;⟨d,hd⟩
   have x0:=L.ty _ _ C;have X:∃Z:Bool,(bif Z then oU self (E.el t) ty (ρ x)else oT σ' sy ty (ρ x))=some r:=⟨_,A⟩;clear A;obtain⟨Z,A⟩:=X;cases Z with
   |true=>
    simp only[A8]at A;unfold oU at A;split at A
    .rename_i s V;have A:=A2 A;subst A;rw[M.pure_inv];rw[V]at I;obtain⟨z,w',J,H⟩:=AEY (wr:=true) x0 (λx I=>L.el _ _ I) h7 Q K I;exact Done.makes ⟨z,w',by simp[execOp,B,J],H⟩
    .cases A
   |false=>
   simp only[AA]at A;unfold oT at A;split at A
   .split at A
    .rename_i s V;have A:=A2 A;subst A;rw[M.v_inv];rw[V]at I;obtain⟨z,w',J,H⟩:=AEX x0 h7 Q I;exact Done.makes ⟨z,w',by simp[execOp,B,J],H⟩
    .cases A
   .split at A
    .rename_i s V;rw[V]at I;obtain⟨J,z,H,N⟩:=A24 (t:=.str) x0 h7 (s:=.val .str s) rfl (show Gives (.v (.val .str s)) u from oc) I;simp_all[Done.calm,execOp]
    .rename_i k n V;have A:=A2 A;subst A;rw[M.v_inv];rw[V]at I;obtain⟨z,H,N⟩:=AEo x0 h7 I;exact Done.calm Q ⟨rfl,z,by simp[execOp,B,H],N⟩
    .cases hs:sy.same (.slice (.int .u8))with
     |false=>grind
     |true=>
      rw[hs]at A;have es:=Ty.same_eq hs;subst es;simp only[A8]at A;split at A
      .rename_i xs b3;have A:=A2 A;subst A;obtain⟨s,b0,rfl⟩:=M.may_inv;obtain⟨z,H,N⟩:=AEa (G:=G) x0 a1 (K9 ho b3 I) b0;exact Done.calm Q ⟨rfl,z,by simp[execOp,B,H],N⟩
      .cases A
   .obtain⟨J,z,H,N⟩:=A24 x0 h7 A M I;simp_all[Done.calm,execOp]
  .cases A
 |typeAssert x xt t ok=>
  rw[B]at A;cases ok with
  |false=>cases A
  |true=>
   simp only at A;have I:=D (by simp[B]) x (by simp[B,Op.operands]);split at A
   .rename_i ty uu y C V;rw[V]at I;cases hi:ty.isIface with
    |true=>grind
    |false=>
     rw[hi]at A;simp only[AA]at A;split at A
     .rename_i f hf;have A:=A2 A;subst A;rw[M.v_inv];obtain⟨z,H,N⟩:=AFU (P:=P) (w:=w) (G:=G) (xt:=xt) (L.ty _ _ C) hi hf I;exact Done.calm Q ⟨rfl,z,by simp[execOp,B,H],N⟩
     .cases A
   .cases A
 |call c=>
  obtain⟨a6,as,ts⟩:=c;rw[B]at A;cases a6 with
  |invoke ro m=>
   simp only at A;have J:=D (by simp[B]) ro (by simp[B,Op.operands,Call.operands]);split at A
   .rename_i c W C;exact AFQ L.fs L.drs L.mt Q B W J A M
   .cases A
  |value fo=>
   have J:=D (by simp[B]) fo (by simp[B,Op.operands,Call.operands])
   exact AFN L.pin L.fs L.ks L.drs L.drE Q U O B J oe (λj s x hj I=>by
    rw[AV,I]at hj;grind[List.mem_of_getElem?,Op.operands,Call.operands]) A M
  |builtin b=>
   have T:∀x∈as.toList,SR P w G (ρ x) (a.eval x):=λx I=>D (by simp[B]) x (by grind[Op.operands,Call.operands]);cases b<;>first|(cases A;done)|skip
   case append=>
    rcases W:as.toList with _|⟨s,_|⟨x,_|⟨y,rr⟩⟩⟩<;>simp only[W]at A<;>first|(cases A;done)|skip
    rcases hts:ts.toList with _|⟨t,_|⟨t',_|⟨b9,rr⟩⟩⟩<;>simp only[hts]at A<;>first|(cases A;done)|skip
    cases z5:Nat.beq t t' with
    |false=>
     rw[z5]at A;simp only[AA]at A;split at A
     .rename_i ty c1 C a5;have h0:as= #[s,x]:=by apply CA;simpa using W
      have x2:ts= #[t,t']:=by apply CA;simpa using hts
      subst h0 x2;obtain⟨z,w',J,H⟩:=AFk (ty:=o.type) (wf:=(match o.dst with|some d=>E.wr d|none=>false)) (L.ty _ _ C) (L.ty _ _ a5) (λx I=>L.el _ _ I) Q U K A M (T s oe) (T x oe);exact Done.makes ⟨z,w',by simp[execOp,B,resolve,invoke,builtin,J],H⟩
     .cases A
    |true=>
     rw[z5]at A;have:=A3 z5;subst this;simp only[A8]at A;split at A
     .rename_i ty C;have h0:as= #[s,x]:=by apply CA;simpa using W
      have x2:ts= #[t,t]:=by apply CA;simpa using hts
      subst h0 x2;cases y8:dE σ' self (E.el t) ty (ρ s) (ρ x)with
      |some r1=>
       rw[y8]at A;have A:=A2 A;subst A;obtain⟨z,w',J,H⟩:=AFg (ty:=o.type) (L.ty _ _ C) (λx I=>L.el _ _ I) Q U K (O _ oa oa) y8 M (T s oe) (T x oe);exact Done.makes ⟨z,w',by simp[execOp,B,resolve,invoke,builtin,J],H⟩
      |none=>
      rw[y8]at A;simp only at A;obtain⟨z,w',J,H⟩:=AFj (ty:=o.type) (wf:=(match o.dst with|some d=>E.wr d|none=>false)) (L.ty _ _ C) (λx I=>L.el _ _ I) Q U K A M (T s oe) (T x oe);exact Done.makes ⟨z,w',by simp[execOp,B,resolve,invoke,builtin,J],H⟩
     .cases A
   case len=>
    rcases W:as.toList with _|⟨x,_|⟨y,rr⟩⟩<;>simp only[W]at A<;>first|(cases A;done)|skip
    rcases hts:ts.toList with _|⟨t,_|⟨t',rr⟩⟩<;>simp only[hts]at A<;>first|(cases A;done)|skip
    split at A
    .rename_i ty C;have h0:as= #[x]:=by apply CA;simpa using W
     have x2:ts= #[t]:=by apply CA;simpa using hts
     subst h0 x2;obtain⟨J,z,H,N⟩:=ADl (L.ty _ _ C) ho A M (T x oe) #[t] rfl o.type;simp_all[Done.calm,execOp,resolve,invoke,builtin]
    .cases A
   case max=>
    rcases W:as.toList with _|⟨x,_|⟨y,_|⟨yy,rr⟩⟩⟩<;>simp only[W]at A<;>first|(cases A;done)|skip
    .have h0:as= #[x,y]:=by apply CA;simpa using W
     subst h0;split at A
     .rename_i k m l n I hy;have J:=T x oe;have H:=T y oe;rw[I]at J;rw[hy]at H;obtain⟨e1,e2⟩:=J.int;obtain⟨e3,e4⟩:=H.int;cases hk:NV k l with
      |false=>grind
      |true=>
       rw[hk]at A;have:=TH hk;subst this;have A:=A2 A;subst A;rw[M.v_inv];obtain⟨z,h5,h6⟩:=AEm (P:=P) (w:=w) (G:=G) ts o.type e2 e4;exact Done.calm Q ⟨rfl,z,by simp_all[execOp,resolve,invoke,builtin],h6⟩
     .cases A
   case min=>
    rcases W:as.toList with _|⟨x,_|⟨y,_|⟨yy,rr⟩⟩⟩<;>simp only[W]at A<;>first|(cases A;done)|skip
    .have h0:as= #[x,y]:=by apply CA;simpa using W
     subst h0;split at A
     .rename_i k m l n I hy;have J:=T x oe;have H:=T y oe;rw[I]at J;rw[hy]at H;obtain⟨e1,e2⟩:=J.int;obtain⟨e3,e4⟩:=H.int;cases hk:NV k l with
      |false=>grind
      |true=>
       rw[hk]at A;have:=TH hk;subst this;have A:=A2 A;subst A;rw[M.v_inv];obtain⟨z,h5,h6⟩:=AEl (P:=P) (w:=w) (G:=G) ts o.type e2 e4;exact Done.calm Q ⟨rfl,z,by simp_all[execOp,resolve,invoke,builtin],h6⟩
     .cases A
 |_=>cases B▸A
end
section
variable{P:Program}{fr:Fr}{free free':Nat->Prop}{self:Nat}{σ σ':SSo}{w w':World}{G G':Gh}{I:Im}
theorem MemS.swap(r:MemS P fr free σ w G){o o':Obj}(hk:σ k=some o)(B:ObjOK P fr w G k o')(x:∀b,Bk G k o' b->Bk G k o b):
 MemS P fr free (EN σ [(k,some o')]) w G:=by
 refine⟨λj p h=>?_,λi j y z v q a d l=>?_,r.after,λj a=>?_⟩
 .rw[FP]at h;by_cases e:j=k
  .grind
  .rw[if_neg e]at h;exact r.objs j p h
 .rw[FP]at q a;by_cases s:i=k<;>by_cases t:j=k
  .rw[s,t]
  .rw[if_pos s]at q;rw[if_neg t]at a;cases q;subst s;exact r.sep i j o z v hk a (x _ d) l
  .rw[if_neg s]at q;rw[if_pos t]at a;cases a;subst t;exact r.sep i j y o v q hk d (x _ l)
  .rw[if_neg s]at q;rw[if_neg t]at a;exact r.sep i j y z v q a d l
 .have A:=r.fresh j a;refine⟨?_,A.2⟩;rw[FP,if_neg (λe=>?_)]<;>grind
theorem MemS.freeze(q:MemS P fr free σ w G){o o':Obj}(hk:σ k=some o){C:Nat->Prop}(t:∀b,C b->Bk G k o b)
 (K:GLe w G w {G with im:=⟨λb a=>G.im.cell b a\/C b,G.im.obj⟩}->ObjOK P fr w {G with im:=⟨λb a=>G.im.cell b a\/C b,G.im.obj⟩} k o')(z:∀b,¬Bk {G with im:=⟨λb a=>G.im.cell b a\/C b,G.im.obj⟩} k o' b):
 ∃G',GLe w G w G'/\MemS P fr free (EN σ [(k,some o')]) w G':=by
 have l:GLe w G w {G with im:=⟨λb a=>G.im.cell b a\/C b,G.im.obj⟩}:=⟨⟨λ_ _ h=>⟨.inl h,rfl⟩,λ_ h=>⟨h,rfl⟩⟩,λ_ _ _ h=>h,λ_ _ h=>h,λ_ _ h=>h⟩;refine⟨_,l,λj p h=>?_,λi j I J A v r B D=>?_,?_,λj r=>?_⟩
 .rw[FP]at h;by_cases e:j=k
  .grind
  .rw[if_neg e]at h;exact(q.objs j p h).keep l λb z=>⟨rfl,λa s=>s.resolve_right λE=>e (q.sep j k p o b h hk z (t b E)),id⟩
 .rw[FP]at v r;by_cases x:i=k<;>by_cases y:j=k
  .rw[x,y]
  .grind
  .grind
  .rw[if_neg x]at v;rw[if_neg y]at r;exact q.sep i j I J A v r (by assumption) (by assumption)
 .have d:=q.after;refine⟨d.ext.trans l.ext,d.heap,d.size,λb a h=>?_,d.newO,λb a h=>?_,d.inO,d.os,d.tape,d.output,d.pins.ext l.ext⟩
  .rcases h with h|h
   .exact d.newC b a h
   .exact .inr (O6 (q.objs k o hk) (t b h))
  .rcases h with h|h
   .exact d.inC b a h
   .exact IN (q.objs k o hk) (t b h)
 .have H:=q.fresh j r;refine⟨?_,H.2⟩;rw[FP,if_neg (λe=>?_)]<;>grind
theorem AFm(A:MemS P fr free σ w G){o:Obj}(hk:σ k=some o):∃G',GLe w G w G'/\MemS P fr free (EN σ [(k,some (J0 o))]) w G':=by
 have l:∀{C:Obj},σ k=some C->∃G',GLe w G w G'/\MemS P fr free (EN σ [(k,some C)]) w G':=λ{C} h=>
  ⟨G,GLe.refl _ _,A.swap h (A.objs k C h) λ_ h=>h⟩
 have z:∀j,free j->j≠k/\free j/\G.ety j=none/\G.box j=none/\∀g,G.val j g=none:=by
  intro j I;have hf:=A.fresh j I;exact⟨λe=>(oc),I,hf.2⟩
 cases o with
 |box t c wr=>
  cases wr with
  |false=>exact l hk
  |true=>
   obtain⟨b,cs,el,J,K,M,O,N,T,Z,Q⟩:=A.objs k _ hk;let G':Gh:={G with im:=⟨λB y=>G.im.cell B y\/(B=b/\y<t.sz),G.im.obj⟩}
   have d:GLe w G w G':=⟨⟨λ_ _ h=>⟨.inl h,rfl⟩,λ_ h=>⟨h,rfl⟩⟩,λ_ _ _ h=>h,λ_ _ h=>h,λ_ _ h=>h⟩
   refine ⟨G',d,A.change (b:=b) d (λj C I s E=>I (A.sep j k C _ b s hk E (by simp [Bk,J]))) (λ_ _ _=>rfl) (AH _) (UC K) Q.1
    (λB y h=>h.imp id λh=>h.1) (λ_ h=>.inl h) rfl rfl rfl (λC s=>?_) z⟩
   cases s;exact⟨⟨b,cs,el,J,K,M,O,N.mono d,⟨(λh=>ol),λ_ y h=>.inr ⟨rfl,h⟩⟩,Z,Q⟩,by grind[Bk,J0]⟩
 |sl el t xs g wr=>
  cases wr with
  |false=>exact l hk
  |true=>
   obtain⟨h0,v,H,U⟩:=A.objs k _ hk;rcases U with⟨rfl,rfl⟩|⟨b,W,cs,rfl,J,K,M,O,N,T,Z,Q⟩
   .exact⟨G,GLe.refl _ _,A.swap hk ⟨h0,_,H,.inl ⟨rfl,rfl⟩⟩ λb E=>by assumption⟩
   .let G':Gh:={G with im:=⟨λB y=>G.im.cell B y\/(B=b/\y<xs.length*t.sz),G.im.obj⟩}
    have d:GLe w G w G':=⟨⟨λ_ _ h=>⟨.inl h,rfl⟩,λ_ h=>⟨h,rfl⟩⟩,λ_ _ _ h=>h,λ_ _ h=>h,λ_ _ h=>h⟩
    refine ⟨G',d,A.change (b:=b) d (λj C I s E=>I (A.sep j k C _ b s hk E (by simp [Bk,H]))) (λ_ _ _=>rfl) (AH _) (K.lt) N
     (λB y h=>h.imp id λh=>h.1) (λ_ h=>.inl h) rfl rfl rfl (λC s=>?_) z⟩
    cases s;refine⟨⟨h0,_,H,.inr ⟨b,W,cs,rfl,J,K,M,λi x L=>(O i x L).ext d.ext,N,(λh=>ol),λ_ y=>⟨λh=>.inr ⟨rfl,h⟩,λh=>?_⟩,Q⟩⟩,by grind[Bk,J0]⟩;grind
 |mp a c X wr=>
  cases wr with
  |false=>exact l hk
  |true=>
   obtain⟨v,H,b,ents,D,rfl,J,K,M,O,N,T⟩:=A.objs k _ hk;let G':Gh:={G with im:=⟨G.im.cell,λB=>G.im.obj B\/B=b⟩}
   have d:GLe w G w G':=⟨⟨λ_ _ h=>⟨h,rfl⟩,λ_ h=>⟨.inl h,rfl⟩⟩,λ_ _ _ h=>h,λ_ _ h=>h,λ_ _ h=>h⟩
   refine ⟨G',d,A.change (b:=b) d (λj C I s E=>I (A.sep j k C _ b s hk E (by simp [Bk,H]))) (λ_ _ _=>rfl) (AH _) (UC J) T
    (λB y h=>.inl h) (λB h=>h) rfl rfl rfl (λC s=>?_) z⟩
   cases s;exact⟨⟨_,H,b,ents,D,rfl,J,K,λi x e L V=>⟨(M i x e L V).1.ext d.ext,(M i x e L V).2.ext d.ext⟩,⟨(λh=>ol),λ_=>.inr rfl⟩,N,T⟩,by grind[Bk,J0]⟩
 |mg el a t X tk gk=>
  cases tk with
  |some q=>exact l hk
  |none=>
   obtain⟨v,us,H,U,b,ents,D,rfl,J,K,M,O,N,T,Z,Q,q9⟩:=A.objs k _ hk;let G':Gh:={G with im:=⟨G.im.cell,λB=>G.im.obj B\/B=b⟩}
   have d:GLe w G w G':=⟨⟨λ_ _ h=>⟨h,rfl⟩,λ_ h=>⟨.inl h,rfl⟩⟩,λ_ _ _ h=>h,λ_ _ h=>h,λ_ _ h=>h⟩
   refine ⟨G',d,A.change (b:=b) (o':=some (.mp a (.slice t) X false)) d (λj C I s E=>I (A.sep j k C _ b s hk E (.inl H))) (λ_ _ _=>rfl) (AH _) (UC J) q9
    (λB y h=>.inl h) (λB h=>h) rfl rfl rfl (λC s=>?_) z⟩
   cases s;refine⟨⟨_,H,b,ents,D,rfl,J,K,λi x e L V=>?_,⟨(λh=>ol),λ_=>.inr rfl⟩,Q,q9⟩,by grind[Bk]⟩;have h6:i<X.length:=(A9.1 L).1;obtain⟨k1,R⟩:=O i x e _ L V (A1 oa);refine⟨k1.ext d.ext,?_⟩;rcases R with⟨R,_⟩|⟨R,_⟩
   .cases R
   .exact⟨_,rfl,Rel.ext d.ext (RO R)⟩
 |dp Y t x gk h wr=>
  cases h with
  |some p=>exact l hk
  |none=>
   cases wr with
   |false=>exact l hk
   |true=>
    cases Y with
    |nil=>exact absurd (A.objs k _ hk) id
    |cons id r=>
     obtain⟨_,_,v,us,bs,H,U,h3,h4,h5⟩:=DpOK.inv (A.objs k _ hk)
     exact A.freeze (o':=.dp (id::r) t x gk none false) hk (C:=(·∈bs)) (λb E=>⟨rfl,us,U,(M3 h3).2 E⟩)
      (λd=>⟨v,H,h5.rel d.ext λb E y=>.inr E⟩) (λb E=>by cases E.1)
 |kn f c=>exact l hk
 |kv t x=>exact l hk
theorem AFn(o:Obj):J0 (J0 o)=J0 o:=by
 cases o with
 |mg id k t e tk a=>cases tk<;>rfl
 |dp i t x a h wr=>cases h<;>rfl
 |_=>rfl
theorem qL:∀{fz:List (Nat×Option Obj)} {G:Gh},MemS P fr free σ w G->(∀p∈fz,∃o,σ p.1=some o/\p.2=some (J0 o))->∃G',GLe w G w G'/\MemS P fr free (EN σ fz) w G':=by
 intro fz;induction fz with
 |nil=>intro G l _;exact⟨G,GLe.refl _ _,l⟩
 |cons p r I=>
  intro G l h;obtain⟨G1,D,E⟩:=I l λq d=>h q (AP _ d);obtain⟨k,x⟩:=p;obtain⟨o,s,t⟩:=h (k,x) AL;have t:x=some (J0 o):=t;have s:σ k=some o:=s;subst t
  have hk:∃a,EN σ r k=some a/\J0 a=J0 o:=by
   have:∀(r:List (Nat×Option Obj)),(∀p∈r,∃o,σ p.1=some o/\p.2=some (J0 o))->∃a,EN σ r k=some a/\J0 a=J0 o:=by
    intro r;induction r with
    |nil=>intro _;exact⟨o,s,rfl⟩
    |cons q r z=>
     intro B;obtain⟨j,y⟩:=q;obtain⟨C,b,v⟩:=B (j,y) AL;have v:y=some (J0 C):=v;have b:σ j=some C:=b;subst v;by_cases e:k=j
     .grind[J0,EN,Nat.beq_refl,AFn]
     .obtain⟨a,i,A⟩:=z λq d=>B q (AP _ d);refine⟨a,?_,A⟩;simp only[EN];rw[show Nat.beq k j=false by rw[<-BX];simp_all];exact i
   exact this r λq d=>h q (AP _ d)
  obtain⟨a,i,A⟩:=hk;obtain⟨G2,H,J⟩:=AFm E i;refine⟨G2,D.trans H,?_⟩;simp_all[EN,J0,GI]
theorem qM{ks:List Nat}:∀p∈M_ σ ks,∃o,σ p.1=some o/\p.2=some (J0 o):=by
 induction ks with
 |nil=>intro p h;cases h
 |cons k r i=>
  intro p h;simp only[M_]at h;grind
theorem Y9(h:MemS P fr free σ w G)(l:List Sh)(vs:List SV):∃G',GLe w G w G'/\MemS P fr free (NZ σ l vs) w G':=qL h qM
theorem AFo{l:List (Nat×Option Obj)}(h:∀k o,σ' k=some o->σ k=some o):∀k o,EN σ' l k=some o->EN σ l k=some o:=by
 induction l with
 |nil=>exact h
 |cons p r i=>
  grind[EN,Nat.beq]
theorem AFp{E:Env}(M:EnvOK P fr.dr E)(N:MemS P fr free σ w G)(s:∀k o,σ' k=some o->σ k=some o)(b:∀k,self<=k->k<self+8->free k)
 (H:(∀c x y,o.op≠.pick c x y)->∀x∈o.op.operands,SR P w G (ρ x) (a.eval x))
 (e:∀c x y,o.op=.pick c x y->SR P w G (ρ c) (a.eval c)/\(a.eval c=.bool true->SR P w G (ρt x) (a.eval x))/\(a.eval c=.bool false->SR P w G (ρf y) (a.eval y)))
 (t:U2 E ρ ρt ρf σ' self o=some r)(I:Gives r u):Done P fr.dr o a w (Res P fr free self σ w G u):=by
 unfold U2 at t;split at t
 .rename_i J C;cases t;obtain⟨G1,l,K⟩:=qL (fz:=M_ σ' (dK E ρ σ' o)) N λp O=>let ⟨ob,z,A⟩:=qM p O;⟨ob,s _ _ z,A⟩
  have i:∃j,Gives J j/\u=⟨j.sv,j.wr++M_ σ' (dK E ρ σ' o)⟩:=by
   cases J with
   |pure j=>exact⟨j,.pure j,I.pure_inv⟩
   |may T m d f=>
    obtain⟨x,D,rfl⟩:=I.may_inv;exact⟨f x,.may D,rfl⟩
  obtain⟨j,i,rfl⟩:=i;refine(AFl M K (AFo s) b (λh x D=>(H h x D).mono l) (λc x y h=>?_) C i).mono λv w' q=>?_
  .obtain⟨z,A,L⟩:=e c x y h;exact⟨z.mono l,λB=>(A B).mono l,λB=>(L B).mono l⟩
  .obtain⟨G',k1,Q,R⟩:=q;exact⟨G',l.trans k1,by rw[GI];exact Q,R⟩
 .cases t
end
end Go.Ev
