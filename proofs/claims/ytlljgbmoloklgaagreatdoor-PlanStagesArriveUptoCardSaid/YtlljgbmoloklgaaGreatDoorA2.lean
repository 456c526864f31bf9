/-
  The law as plain Lean, second part: the solver's tables, what it goes through, what is wrong with a lock.
-/
import Derived.Test.YtlljgbmoloklgaaGreatDoorD
import Derived.Test.YtlljgbmoloklgaaGreatDoorA1
import Derived.KernelRfl
set_option linter.unusedVariables false
set_option linter.unusedSimpArgs false
set_option linter.unusedSectionVars false
set_option maxRecDepth 100000
namespace Go.Ev.Pv
theorem KK{α:Type}{m:Option α}{v:α}(h:Tot m λr=>r=v):m=some v:=let ⟨_,h1,h2⟩:=h;h2▸h1
theorem GD{X R σ:Type}{r:(X->Option R)->X->Option R}(n:Nat)(enc:σ->Int->X)(J:Nat->σ->Prop){Q:R->Prop}(hn:n<4611686018427387904)
 (hstep:∀next s (i:Nat),i<n->J i s->(∀s',J (i+1) s'->Tot (next (enc s' ((i:Int)+1))) Q)->Tot (r next (enc s (i:Int))) Q)
 (hend:∀next s,J n s->Tot (r next (enc s (n:Int))) Q)(s0:σ)(h0:J 0 s0):Tot (EE r fuel (enc s0 0)) Q:=by
 have key:∀(m i k:Nat) s,i+m=n->m<k->J i s->Tot (EE r k (enc s (i:Int))) Q:=by
  intro m;induction m with
  |zero=>
   intro i k s hi hk hj;cases k with
   |zero=>omega
   |succ k=>
    rw[show i=n by omega]at hj ⊢;exact hend _ s hj
  |succ m ih=>
   intro i k s hi hk hj;cases k with
   |zero=>omega
   |succ k=>
    refine hstep _ s i o5 hj λs' hs'=>?_;have:=ih (i+1) k s' o5 o5 hs';rwa[show((i+1:Nat):Int)=(i:Int)+1 by omega]at this
 have:=key n 0 fuel s0 o5 (by unfold fuel;omega) h0;exact this
theorem GK{i:Nat}(h:i<4611686018427387904):IntKind.i64.wrap ((i:Int)+1)=(i:Int)+1:=EW o5 o5
theorem GC{α:Type}{l:List α}{i:Nat}{x:α}(h:l[i]?=some x):at? l (i:Int)=some x:=by
 unfold at?;rw[A7 (BN i)];exact h
theorem A7J{n i:Nat}(h:i<n):in? n (i:Int)=some ():=by
 unfold in?;rw[A7 (BN i),A7 (by omega:(i:Int)<n)];rfl
theorem F8(i n:Nat):decide ((i:Int)<(n:Int))=decide (i<n):=by
 by_cases h:i<n
 .rw[A7 h,A7 o5]
 .rw[AE h,AE o5]
def HE(s:Int):Prop:=0<=s/\s<65536
def bt(s:Int)(i:Nat):Bool:=s.toNat.testBit i
theorem eV{n:Nat}(h:n<65536):HE (n:Int):=⟨o5,o5⟩
theorem rZ{n:Nat}(h:n<65536):IntKind.u16.wrap (n:Int)=n:=by
 simp only[IntKind.wrap,IntKind.bits,IntKind.signed];simp;omega
theorem eW{s:Int}(h:HE s):(BitVec.ofInt 16 s).toNat=s.toNat:=by
 obtain⟨h0,h1⟩:=h;rw[BitVec.toNat_ofInt];omega
theorem AQw{s:Int}(h:HE s){i:Nat}(hi:16<=i):bt s i=false:=by
 unfold bt;apply Nat.testBit_lt_two_pow;have:2 ^ 16<=2 ^ i:=DK od hi;have h1:=h.2;have h0:=h.1;omega
theorem AQx{a b:Int}(ha:HE a)(hb:HE b)(h:∀i,bt a i=bt b i):a=b:=by
 have:a.toNat=b.toNat:=Nat.eq_of_testBit_eq h;have:=ha.1;have:=hb.1;omega
theorem AQy{a b:Int}(ha:HE a)(hb:HE b):HE (HA IntKind.u16 a b)/\∀i,bt (HA IntKind.u16 a b) i=(bt a i||bt b i):=by
 have e:HA IntKind.u16 a b=((a.toNat|||b.toNat:Nat):Int):=by
  unfold HA;rw[show IntKind.u16.bits=16 from rfl,BitVec.toNat_or,eW ha,eW hb];exact rZ (Nat.or_lt_two_pow (n:=16) (by have:=ha.2;omega) (by have:=hb.2;omega))
 rw[e];refine⟨eV (Nat.or_lt_two_pow (n:=16) (by have:=ha.2;omega) (by have:=hb.2;omega)),λi=>?_⟩;simp[bt,Nat.testBit_or]
theorem AQz{a b:Int}(ha:HE a)(hb:HE b):HE (KP IntKind.u16 a b)/\∀i,bt (KP IntKind.u16 a b) i=(bt a i&&bt b i):=by
 have e:KP IntKind.u16 a b=((a.toNat &&& b.toNat:Nat):Int):=by
  unfold KP;rw[show IntKind.u16.bits=16 from rfl,BitVec.toNat_and,eW ha,eW hb];exact rZ (Nat.and_lt_two_pow (n:=16) _ (by have:=hb.2;omega))
 rw[e];refine⟨eV (Nat.and_lt_two_pow (n:=16) _ (by have:=hb.2;omega)),λi=>?_⟩;simp[bt,Nat.testBit_and]
theorem r_{i:Nat}(h:i<=15):shl? IntKind.u16 (1:Int) (i:Int)=some ((2 ^ i:Nat):Int)/\HE ((2 ^ i:Nat):Int):=by
 have hp:2 ^ i<65536:=Nat.lt_of_le_of_lt (DK od h) (by decide:2 ^ 15<65536);refine⟨?_,eV hp⟩;unfold shl?
 rw [AE o5,show min (i:Int).toNat IntKind.u16.bits=i by
  show min (i:Int).toNat 16=i;omega]
 show some _=_
 congr 1
 rw[Int.one_mul];have:=rZ hp;rw[show(((2 ^ i:Nat)):Int)=(2:Int) ^ i by simp]at this ⊢;exact this
theorem sA(i j:Nat):bt ((2 ^ i:Nat):Int) j=decide (i=j):=by
 unfold bt;rw[CQ,Nat.testBit_two_pow]
theorem A7K(j:Nat):bt 0 j=false:=by simp[bt]
theorem A7L:HE 0:=⟨od,od⟩
theorem sB{s:Int}(h:HE s)(i:Nat):L3 (s,(i:Int))=some (bt s i):=by
 obtain⟨h0,h1⟩:=h;unfold L3 shr?;dsimp only;rw[AE o5];show some _=_
 congr 1
 have hs:s=((s.toNat:Nat):Int):=o5
 have hq:s.fdiv (2 ^ min (i:Int).toNat IntKind.u16.bits)=((s.toNat / 2 ^ min i 16:Nat):Int):=by
  rw[show(min (i:Int).toNat IntKind.u16.bits)=min i 16 from by show min (i:Int).toNat 16=_;omega];rw[DM _ (by exact Int.pow_nonneg od)];conv=>lhs;rw[hs]
  simp
 rw[hq];have hlt:s.toNat / 2 ^ min i 16<65536:=Nat.lt_of_le_of_lt (Nat.div_le_self _ _) o5;have ha:=AQz (eV hlt) (b:=1) ⟨od,od⟩
 have e:bt s i=(s.toNat / 2 ^ min i 16).testBit 0:=by
  rcases CL i 16 with hi|hi
  .rw[DO o5,Nat.testBit_div_two_pow];simp[bt]
  .rw[AQw ⟨h0,h1⟩ hi,Nat.min_eq_right hi,Nat.div_eq_of_lt o5];rfl
 have hb:∀j,bt (KP IntKind.u16 ((s.toNat / 2 ^ min i 16:Nat):Int) 1) j=(bt s i&&decide (j=0)):=by
  intro j;rw[ha.2 j]
  have:bt 1 j=decide (j=0):=by
   have:=sA 0 j;simp only[Nat.pow_zero]at this;rw[show((1:Nat):Int)=1 from rfl]at this;rw[this];by_cases hj:j=0<;>simp[hj,eq_comm]
  rw[this];by_cases hj:j=0
  .subst hj;rw[e];unfold bt;rw[CQ];first|done|simp
  .simp[hj]
 rw[E0];cases hbi:bt s i with
 |true=>
  apply A7;refine AQx ha.1 ⟨od,od⟩ λj=>?_;rw[hb,hbi];have:=sA 0 j;simp only[Nat.pow_zero]at this;rw[show((1:Nat):Int)=1 from rfl]at this;rw[this];by_cases hj:j=0<;>simp[hj,eq_comm]
 |false=>
  apply AE;intro he;have h2:=hb 0;rw[he,hbi]at h2;revert h2;decide
abbrev GE:=DW×(Int×List ((Bool×Bool×DW)×(Bool×Bool×DW)))×Int
abbrev GV:=DW×DW×List GE×Bool
abbrev EX:=DW×DW
abbrev AR0:=Int×(List (DW×(List DW)×DW×Int×Bool×DW×(List (DW×Int×(List (Int×DW))×(List DW)×(List DW)))))×(List Int)
abbrev FA:=List GV×List GE×Int×List EX×List DW×Bool×AR0
theorem eX{α:Type}{p:α->Bool}{s:List α}{x:α}(h:p x=true):s++[x]=s++[x].filter p:=by simp[h]
theorem eY{α:Type}{p:α->Bool}{s:List α}{x:α}(h:p x=false):s=s++[x].filter p:=by simp[h]
def IQ{α:Type}(p:α->Bool)(l:List α):Int:=match l.findIdx? p with
 |some i=>i
 |none=>-1
theorem VQ{α:Type}{p:α->Bool}{l:List α}{i:Nat}{x:α}(h:l[i]?=some x)(hp:p x=true)(hn:∀y∈l.take i,p y=false):IQ p l=i:=by
 have:l.findIdx? p=some i:=by
  rw[List.findIdx?_eq_some_iff_getElem];obtain⟨hi,hx⟩:=A8.1 h;refine⟨hi,by rw[hx];exact hp,λj hj=>?_⟩;have:=hn l[j] (CA.2 ⟨j,o5,rfl⟩);simp[this]
 unfold IQ;rw[this]
theorem eZ{α:Type}{p:α->Bool}{l:List α}(hn:∀y∈l,p y=false):IQ p l= -1:=by
 have:l.findIdx? p=none:=by
  rw[List.findIdx?_eq_none_iff];exact hn
 unfold IQ;rw[this]
theorem VR{α:Type}(p:α->Bool)(l:List α):(IQ p l= -1/\∀y∈l,p y=false)\/∃(i:Nat) (x:α),IQ p l=i/\l[i]?=some x/\p x=true/\∀(j:Nat) (y:α),j<i->l[j]?=some y->p y=false:=by
 cases h:l.findIdx? p with
 |none=>
  left;refine⟨?_,List.findIdx?_eq_none_iff.1 h⟩;unfold IQ;rw[h]
 |some i=>
  right;rw[List.findIdx?_eq_some_iff_getElem]at h;obtain⟨hi,hp,hn⟩:=h;refine⟨i,l[i],?_,A0 hi,hp,λj y hj hy=>?_⟩
  .refine VQ (A0 hi) hp λy hy=>?_;obtain⟨j,hj,rfl⟩:=CA.1 hy;have:=hn j o5;simpa using this
  .obtain⟨hj',rfl⟩:=A8.1 hy;have:=hn j hj;simpa using this
theorem AR1(v:DW)(l:List DW):IQ (λx=>decide (v=x)) l<0<->v ∉ l:=by
 rcases VR (λx=>decide (v=x)) l with⟨h1,h2⟩|⟨i,x,h1,h2,h3,_⟩
 .rw[h1];refine⟨λ_ h=>?_,λ_=>od⟩;have:=h2 v h;simp at this
 .rw[h1];have:v=x:=A9 h3;subst this;refine⟨λh=>o5,λh=>absurd (B5 h2) h⟩
theorem AR2(l:List DW)(v:DW)(hl:l.length<4611686018427387904):MU (l,v)=some (IQ (λx=>decide (v=x)) l):=by
 unfold MU;dsimp only
 have:Tot (b9 (l,v,(l.length:Int),(0:Int))) (λq=>(match q with| .inl _=>-1| .inr y=>y)=IQ (λx=>decide (v=x)) l):=by
  refine GD (σ:=Unit) l.length (λ_ i=>(l,v,(l.length:Int),i)) (λi _=>∀y∈l.take i,decide (v=y)=false) hl (λnext _ i hi hj hn=>?_) (λnext _ hj=>?_) () oc
  .unfold a_;dsimp only;rw[F8,A7 hi,AA,GC (A0 hi),A1];refine DZ.2 ⟨λh=>DY.2 ?_,λh=>?_⟩
   .exact(VQ (A0 hi) (by rwa[E3]at h) hj).symm
   .rw[GK o5];refine hn () ?_;intro y hy;rw[GJ (A0 hi),AL,AN]at hy;rcases hy with hy|rfl
    .exact hj y hy
    .rwa[E3]at h
  .unfold a_;dsimp only;rw[F8,AE (AH _),AC];exact DY.2 (eZ (by rwa[B3]at hj)).symm
 obtain⟨q,h1,h2⟩:=this;rw[h1,A1];rcases q with y|y<;>· dsimp only at h2 ⊢;rw[<-h2]
theorem A7M(l:List EX)(f:EX->Option Bool)(p:EX->Bool)(hf:∀x,f x=some (p x))(hl:l.length<4611686018427387904):U_ (l,f)=some (IQ p l):=by
 unfold U_;dsimp only
 have:Tot (mB (l,f,(l.length:Int),(0:Int))) (λq=>(match q with| .inl _=>-1| .inr y=>y)=IQ p l):=by
  refine GD (σ:=Unit) l.length (λ_ i=>(l,f,(l.length:Int),i)) (λi _=>∀y∈l.take i,p y=false) hl (λnext _ i hi hj hn=>?_) (λnext _ hj=>?_) () oc
  .unfold mA;dsimp only;rw[F8,A7 hi,AA,GC (A0 hi),A1,hf,A1];refine DZ.2 ⟨λh=>DY.2 ?_,λh=>?_⟩
   .exact(VQ (A0 hi) h hj).symm
   .rw[GK o5];refine hn () ?_;intro y hy;rw[GJ (A0 hi),AL,AN]at hy;rcases hy with hy|rfl
    .exact hj y hy
    .exact h
  .unfold mA;dsimp only;rw[F8,AE (AH _),AC];exact DY.2 (eZ (by rwa[B3]at hj)).symm
 obtain⟨q,h1,h2⟩:=this;rw[h1,A1];rcases q with y|y<;>· dsimp only at h2 ⊢;rw[<-h2]
theorem AR3(l:List GE)(f:GE->Option Bool)(p:GE->Bool)(hf:∀x,f x=some (p x))(hl:l.length<4611686018427387904):bC (l,f)=some (IQ p l):=by
 unfold bC;dsimp only
 have:Tot (m6 (l,f,(l.length:Int),(0:Int))) (λq=>(match q with| .inl _=>-1| .inr y=>y)=IQ p l):=by
  refine GD (σ:=Unit) l.length (λ_ i=>(l,f,(l.length:Int),i)) (λi _=>∀y∈l.take i,p y=false) hl (λnext _ i hi hj hn=>?_) (λnext _ hj=>?_) () oc
  .unfold l_;dsimp only;rw[F8,A7 hi,AA,GC (A0 hi),A1,hf,A1];refine DZ.2 ⟨λh=>DY.2 ?_,λh=>?_⟩
   .exact(VQ (A0 hi) h hj).symm
   .rw[GK o5];refine hn () ?_;intro y hy;rw[GJ (A0 hi),AL,AN]at hy;rcases hy with hy|rfl
    .exact hj y hy
    .exact h
  .unfold l_;dsimp only;rw[F8,AE (AH _),AC];exact DY.2 (eZ (by rwa[B3]at hj)).symm
 obtain⟨q,h1,h2⟩:=this;rw[h1,A1];rcases q with y|y<;>· dsimp only at h2 ⊢;rw[<-h2]
def FB(l:List EX)(name:DW):DW×Bool:=match l.find? (λp=>decide (p.1=name))with
 |some p=>(p.2,true)
 |none=>([],false)
theorem VS(l:List EX)(name:DW):(FB l name=([],false)/\∀p∈l,p.1≠name)\/∃v,FB l name=(v,true)/\(name,v)∈l:=by
 unfold FB;cases h:l.find? (λp=>decide (p.1=name))with
 |none=>exact .inl ⟨rfl,λp hp=>by have:=List.find?_eq_none.1 h p hp;simpa using this⟩
 |some p=>
  have h1:=List.find?_some h;have h2:=List.mem_of_find?_eq_some h;have h1:p.1=name:=ot
  exact .inr ⟨p.2,rfl,by rw[<-h1];exact h2⟩
theorem N_(l:List EX)(name:DW)(hl:l.length<4611686018427387904):L1 (l,name)=some (FB l name):=by
 unfold L1;dsimp only;rw[A7M l _ (λp=>decide (p.1=name)) (λx=>by unfold m9;dsimp only;rw[A1,A1,E3]) hl,A1];unfold FB;rcases VR (λp:EX=>decide (p.1=name)) l with⟨h1,h2⟩|⟨i,x,h1,h2,h3,h4⟩
 .rw[h1,List.find?_eq_none.2 λp hp=>by simp[h2 p hp]];rfl
 .rw[h1,AE o5,AC,GC h2,A1]
  have:l.find? (λp=>decide (p.1=name))=some x:=by
   rw[List.find?_eq_some_iff_getElem];obtain⟨hi,hx⟩:=A8.1 h2;refine⟨h3,i,hi,hx,λj hj=>?_⟩;have:=h4 j l[j] hj (A0 o5);simpa using this
  rw[this]
theorem AR4(l:List GV)(name:DW)(hl:l.length<=1048576):cR (l,name)=some (l.filter λo=>decide (o.1=name)):=by
 unfold cR;dsimp only
 have:Tot (nS (name,[],l,(l.length:Int),(0:Int))) (λq=>q=l.filter λo=>decide (o.1=name)):=by
  refine GD (σ:=List GV) l.length (λs i=>(name,s,l,(l.length:Int),i)) (λi s=>s=(l.take i).filter λo=>decide (o.1=name)) o5 (λnext s i hi hj hn=>?_) (λnext s hj=>?_) [] oc
  .unfold nR;dsimp only;rw[F8,A7 hi,AA,GC (A0 hi),A1,GK o5];have hle:s.length<=i:=by rw[hj];exact AU (BK _ _) (by rw[B4];omega)
   refine DZ.2 ⟨λh=>DX.2 (FU.2 ⟨by simp only[AF,AW];omega,?_⟩),λh=>?_⟩
   .refine hn _ ?_;rw[GJ (A0 hi),CB,<-hj];rw[E3]at h;exact eX h
   .refine hn _ ?_;rw[GJ (A0 hi),CB,<-hj];rw[E3]at h;exact eY h
  .unfold nR;dsimp only;rw[F8,AE (AH _),AC];exact DY.2 (by rw[hj,B3])
 rw[KK this];rfl
def J3(sc:Int)(l:List GE):List GE:=l.filter λn=>decide (n.2.2<=sc)
theorem sC(t:FA)(l:List GE)(hl:l.length<=1048576):OX (t,l)=some (J3 t.2.2.1 l):=by
 unfold OX;dsimp only
 have:Tot (nO (t,[],l,(l.length:Int),(0:Int))) (λq=>q=J3 t.2.2.1 l):=by
  refine GD (σ:=List GE) l.length (λs i=>(t,s,l,(l.length:Int),i)) (λi s=>s=J3 t.2.2.1 (l.take i)) o5 (λnext s i hi hj hn=>?_) (λnext s hj=>?_) [] (by simp[J3])
  .unfold nN;dsimp only;rw[F8,A7 hi,AA,GC (A0 hi),A1,GK o5];have hle:s.length<=i:=by rw[hj];exact AU (BK _ _) (by rw[B4];omega)
   refine DZ.2 ⟨λh=>DX.2 (FU.2 ⟨by simp only[AF,AW];omega,?_⟩),λh=>?_⟩
   .refine hn _ ?_;unfold J3 at hj ⊢;rw[GJ (A0 hi),CB,<-hj];exact eX h
   .refine hn _ ?_;unfold J3 at hj ⊢;rw[GJ (A0 hi),CB,<-hj];exact eY h
  .unfold nN;dsimp only;rw[F8,AE (AH _),AC];exact DY.2 (by rw[hj,B3])
 rw[KK this];rfl
def JH(t:FA)(p:EX):List GE:=match t.1.find? (λo=>decide (o.1=p.1)&&decide (o.2.1=p.2))with
 |some o=>J3 t.2.2.1 o.2.2.1
 |none=>[]
theorem A7N(t:FA)(p:EX)(hl:t.1.length<=1048576)(ho:∀o∈t.1,o.2.2.1.length<=1048576):RS (t,p)=some (JH t p):=by
 unfold RS;dsimp only
 have:Tot (o6 (t,p,t.1,(t.1.length:Int),(0:Int))) (λq=>(match q with| .inl _=>[]| .inr y=>y)=JH t p):=by
  refine GD (σ:=Unit) t.1.length (λs i=>(t,p,t.1,(t.1.length:Int),i)) (λi s=>∀o∈t.1.take i,(decide (o.1=p.1)&&decide (o.2.1=p.2))=false) o5 (λnext s i hi hj hn=>?_) (λnext s hj=>?_) () oc
  .unfold o4;dsimp only;rw[F8,A7 hi,AA,GC (A0 hi),A1,GK o5,E3,E3];refine DZ.2 ⟨λh=>?_,λh=>?_⟩
   .rw[sC _ _ (ho _ (BM hi)),A1];refine DY.2 ?_;unfold JH
    have:t.1.find? (λo=>decide (o.1=p.1)&&decide (o.2.1=p.2))=some t.1[i]:=by
     rw[List.find?_eq_some_iff_getElem];refine⟨h,i,hi,rfl,λj hj'=>?_⟩;have:=hj t.1[j] (CA.2 ⟨j,o5,rfl⟩);simp only[this,D7]
    rw[this]
   .refine hn () ?_;intro o ho';rw[GJ (A0 hi),AL,AN]at ho';rcases ho' with ho'|rfl
    .exact hj o ho'
    .exact h
  .unfold o4;dsimp only;rw[F8,AE (AH _),AC];refine DY.2 ?_;unfold JH;rw[B3]at hj;rw[List.find?_eq_none.2 λo ho'=>by rw[hj o ho'];exact Bool.false_ne_true]
 obtain⟨q,h1,h2⟩:=this;rw[h1,A1];rcases q with y|y<;>· dsimp only at h2 ⊢;rw[<-h2]
theorem AR5{k:Int}{w:DW}{v:Vr}(h:IC (k,w)=some (v,0)):w.length<=100:=by
 apply BY;intro hn;have hd:decide ((100:Int)<(w.length:Int))=true:=A7 o5;unfold IC at h;dsimp only at h;rw[hd,Bool.or_true,AA]at h;cases hk:(decide (k<(1:Int)))||(decide ((5:Int)<k))with
 |true=>rw[hk]at h;cases h
 |false=>rw[hk]at h;cases h
theorem A7O(x:Int×(Bool×Bool×(List UInt8)))(h:x.2.2.2.length<=1048576):Tot (MX x) (λr:(List UInt8)×Int=>r.2=0->x.2.2.2.length<=100):=by
 unfold MX;refine DZ.2 ⟨λ_=>DZ.2 ⟨λ_=>DY.2 oc,λhb=>DY.2 λ_=>?_⟩,λ_=>?_⟩
 .have:=(BS.1 hb).2;rw[E3]at this;have:x.2.2.2=[]:=by simpa using this
  rw[this];simp
 obtain⟨r1,e1,h1⟩:=NZ (x.1,x.2.2.2) h;rw[e1];refine DX.2 (DY.2 ?_);refine DZ.2 ⟨λhe=>DY.2 λh0=>(by dsimp only at h0;rw[h0]at he;cases he),λhe=>?_⟩;have h0:r1.2=0:=by rw[E0]at he;simpa using he
 have hv:=h1 h0;have hlen:x.2.2.2.length<=100:=AR5 (v:=r1.1) (by rw[<-h0];exact e1);revert hv;generalize r1.1=v;intro hv;refine DX.2 (Tot.mono (P:=λr:List UInt8=>r.length<=10000000) ?_ λr2 hr=>?_)
 .rcases v with x|x|x|x|x|x
  .exact DX.2 ((rS _ hv).mono λ_ h=>DY.2 o5)
  .exact DX.2 ((rT _ hv).mono λ_ h=>DY.2 o5)
  .exact DX.2 ((rU _ hv).mono λ_ h=>DY.2 o5)
  .exact DX.2 ((rV _ hv).mono λ_ h=>DY.2 o5)
  .exact DX.2 ((rW _ trivial).mono λ_ h=>DY.2 o5)
  .exact hv.elim
 refine DZ.2 ⟨λ_=>DY.2 λ_=>hlen,λ_=>?_⟩;refine DX.2 (Tot.mono (P:=λr:List UInt8=>r.length<=10000000) ?_ λr2 hr=>DY.2 λ_=>hlen)
 .rcases v with x|x|x|x|x|x
  .exact DX.2 ((eQ _ hv).mono λ_ h=>DY.2 o5)
  .exact DX.2 ((eR _ hv).mono λ_ h=>DY.2 o5)
  .exact DX.2 ((eS _ hv).mono λ_ h=>DY.2 o5)
  .exact DX.2 ((eT _ hv).mono λ_ h=>DY.2 o5)
  .exact DX.2 ((eU _ hv).mono λ_ h=>DY.2 o5)
  .exact hv.elim
abbrev VT(s:S5):Prop:=s.1.2.2.length<=1048576/\s.2.2.2.length<=1048576
theorem AR6(r:Rg)(hr:∀s∈r.2,VT s)(hl:r.2.length<=200):
 Tot (lX (r,([]:List HM),r.2,(r.2.length:Int),0)) (λq=>(∀y,q=.inl y->y.length<=200)/\∀y,q=.inr y->y.1=[]/\y.2≠0):=by
 refine E_ (R:=λq:Sum (List HM) ((List HM)×Int)=>(∀y,q=.inl y->y.length<=200)/\∀y,q=.inr y->y.1=[]/\y.2≠0)
  (λy:Rg×(List HM)×(List S5)×Int×Int=>y.1=r/\y.2.2.1=r.2/\y.2.2.2.1=r.2.length/\0<=y.2.2.2.2/\y.2.2.2.2<=r.2.length/\y.2.1.length<=y.2.2.2.2/\∀x∈y.2.1,H5 x)
  (λy=>((r.2.length:Int)-y.2.2.2.2).toNat) ?_ _ _ ⟨rfl,rfl,rfl,BF _,BN _,oc,oc⟩ (by unfold fuel;dsimp only;omega)
 rintro next ⟨r',o,l',n,i⟩ hI hn
 dsimp only at hI hn;obtain⟨rfl,rfl,rfl,i0,i1,h5,h6⟩:=hI;unfold zG;dsimp only;refine DZ.2 ⟨λhc=>?_,λhc=>DY.2 ⟨λy e=>?_,λy e=>(by cases e)⟩⟩
 .have hc:=A9 hc;rw[EW (n:=i+1) o5 o5,EW (n:=(o.length:Int)-1) o5 o5];refine DX.2 (EZ.2 ⟨⟨i0,hc⟩,λs hx=>?_⟩);obtain⟨s1',s2'⟩:=hr s (N7 hx);refine DX.2 ((A7O _ o7).mono λc1 k1=>DZ.2 ⟨λhe=>DY.2 ⟨λy e=>(by cases e),λy e=>?_⟩,λhz1=>?_⟩)
  .cases e;rw[E0]at he;exact⟨rfl,by simpa using he⟩
  refine DX.2 ((A7O _ o7).mono λc2 k2=>DZ.2 ⟨λhe=>DY.2 ⟨λy e=>(by cases e),λy e=>?_⟩,λhz2=>?_⟩)
  .cases e;rw[E0]at he;exact⟨rfl,by simpa using he⟩
  have s1:s.1.2.2.length<=100:=k1 (by rw[E0]at hz1;simpa using hz1);have s2:s.2.2.2.length<=100:=k2 (by rw[E0]at hz2;simpa using hz2);refine DX.2 ((A7G _ s1).mono λe1 he1=>DX.2 ((A7H _ s2).mono λe2 he2=>?_));refine DX.2 ((PH _ trivial).mono λr7 _=>?_);refine DX.2 (Tot.mono (P:=λ_=>True) (DZ.2 ⟨λhz=>?_,λ_=>DY.2 trivial⟩) λy8 _=>?_)
  .have hz:=A9 (D1.1 hz).2;exact EZ.2 ⟨⟨o5,o5⟩,λ_ _=>trivial⟩
  refine DX.2 (Tot.mono (P:=λ_=>True) (DZ.2 ⟨λhz=>PH _ trivial,λ_=>DY.2 trivial⟩) λr9 _=>?_);refine DZ.2 ⟨λ_=>DY.2 ⟨λy e=>(by cases e),λy e=>(by cases e;exact⟨rfl,od⟩)⟩,λ_=>?_⟩
  have hgo:Tot (next (r',o++[(e1,e2)],r'.2,(r'.2.length:Int),i+1)) (λq:Sum (List HM) ((List HM)×Int)=>(∀y,q=.inl y->y.length<=200)/\∀y,q=.inr y->y.1=[]/\y.2≠0):=by
   refine hn _ ⟨rfl,rfl,rfl,o7,o7,?_,λx hx=>?_⟩ o7
   .dsimp only;rw[A6];simp only[AF,AW];omega
   .dsimp only at hx;rw[AL]at hx;rcases hx with hx|hx
    .exact h6 x hx
    .cases AN.1 hx;exact⟨he1,he2⟩
  have hap:(o.length+1)*192<=70368744177664:=o5
  refine DZ.2 ⟨λ_=>?_,λ_=>DX.2 (FU.2 ⟨hap,hgo⟩)⟩;refine DX.2 ((AQm s o ⟨s1,s2⟩ h6 o5).mono λr11 _=>DZ.2 ⟨λhe=>DY.2 ⟨λy e=>(by cases e),λy e=>?_⟩,λ_=>DX.2 (FU.2 ⟨hap,hgo⟩)⟩);cases e;rw[E0]at he;exact⟨rfl,by simpa using he⟩
 .cases e;omega
theorem A7P(r:Rg)(hr:∀s∈r.2,VT s):Tot (RI r) (λq=>q.1.length<=200):=by
 unfold RI;refine DZ.2 ⟨λ_=>DY.2 oc,λ_=>DZ.2 ⟨λ_=>DY.2 oc,λhc=>?_⟩⟩;have hc:=AO hc;refine DX.2 ((AR6 r hr o5).mono λq hq=>?_);rcases q with y|y
 .exact DY.2 (hq.1 y rfl)
 .refine DY.2 ?_;rw[(hq.2 y rfl).1];simp
noncomputable def e_(r:Rg)(w:DW):Bool:=((RQ (r,w)).getD (false,0)).1
theorem AR7(r:Rg)(w:DW)(hr:∀s∈r.2,VT s)(hw:w.length<=1048576):Tot (RQ (r,w)) (λq=>q.1=e_ r w):=by
 suffices h:∃q,RQ (r,w)=some q by
  obtain⟨q,h⟩:=h;exact⟨q,h,by unfold e_;rw[h];rfl⟩
 show ∃q,((RI r).bind λr1=>bif (!(E1 r1.2 (0:Int)))then some (false,r1.2)else(IC (r.1,w)).bind λr2=>bif (!(E1 r2.2 (0:Int)))then some (false,r2.2)else(PI r2.1).bind λr3=>(RP (r1.1,r3)).bind λr4=>some ((decide ((0:Int)<=r4)),(0:Int)))=some q;obtain⟨⟨L,e⟩,h1,h2⟩:=A7P r hr;rw[h1,A1];dsimp only;cases he:!(E1 e 0)with
 |true=>exact⟨_,rfl⟩
 |false=>
  rw[AC];obtain⟨⟨v,e'⟩,h3,h4⟩:=NZ (r.1,w) hw;rw[h3,A1];dsimp only;cases he':!(E1 e' 0)with
  |true=>exact⟨_,rfl⟩
  |false=>
   rw[AC];have h5:e'=0:=by rw[E0]at he';simpa using he'
   obtain⟨k,h6,_⟩:=A7I (h4 h5);obtain⟨n,h7,_⟩:=AQn L k (by have:L.length<=200:=h2;omega);rw[h6,A1,h7];exact⟨_,rfl⟩
noncomputable def JX(name:DW):Int×Bool:=(NR name).getD (0,false)
theorem sD(name:DW)(h:name.length<=1048576):NR name=some (JX name):=by
 suffices hh:∃q,NR name=some q by
  obtain⟨q,hq⟩:=hh;unfold JX;rw[hq];rfl
 refine rA.1 ?_;unfold NR;refine DX.2 ((A7B name h).mono λr1 h1=>DZ.2 ⟨λ_=>DY.2 trivial,λhe=>?_⟩);have h0:r1.2.2=0:=by rw[E0]at he;simpa using he
 refine DX.2 ((A6o _ (h1 h0)).mono λr2 _=>DZ.2 ⟨λ_=>DY.2 trivial,λ_=>?_⟩);exact DX.2 ((rG _ trivial).mono λr3 _=>DY.2 trivial)
noncomputable def sE(k:Int)(w:DW):Bool:=((RR (k,w)).getD (false,0)).1
theorem AR8(l:List (Bool×DW×Int))(f:(Bool×DW×Int)->Option Bool)(hf:∀x,Tot (f x) λ_=>True)(hl:l.length<4611686018427387904):Tot (cS (l,f)) λ_=>True:=by
 unfold cS;dsimp only;refine DX.2 (Tot.mono (P:=λ_=>True) ?_ λq _=>by rcases q with y|y<;>exact DY.2 trivial);refine GD (σ:=Unit) l.length (λ_ i=>(l,f,(l.length:Int),i)) (λi _=>True) hl (λnext _ i hi hj hn=>?_) (λnext _ hj=>?_) () trivial
 .unfold nU;dsimp only;rw[F8,A7 hi,AA,GC (A0 hi),A1,GK o5];refine DX.2 ((hf _).mono λb _=>DZ.2 ⟨λh=>DY.2 trivial,λh=>hn () trivial⟩)
 .unfold nU;dsimp only;rw[F8,AE (AH _),AC];exact DY.2 trivial
theorem AR9(k:Int)(w:DW)(hw:w.length<=1048576):Tot (RR (k,w)) (λq=>q.1=sE k w):=by
 suffices h:∃q,RR (k,w)=some q by
  obtain⟨q,h⟩:=h;exact⟨q,h,by unfold sE;rw[h];rfl⟩
 refine rA.1 ?_;unfold RR;dsimp only;refine DX.2 ((NZ (k,w) hw).mono λr h1=>DZ.2 ⟨λ_=>DY.2 trivial,λhe=>?_⟩);have h0:r.2=0:=by rw[E0]at he;simpa using he
 have hv:=h1 h0;revert hv;generalize r.1=v;intro hv;refine DX.2 (Tot.mono (P:=λ_=>True) ?_ λr2 hr=>DY.2 trivial);rcases v with x|x|x|x|x|x
 .exact DX.2 (DY.2 (DY.2 trivial))
 .refine DX.2 (Tot.mono (P:=λ_=>True) ?_ λ_ _=>DY.2 trivial);unfold nT;refine DX.2 ((PE _ (by have:=hv;simp only[J1,PG]at this;dsimp only;omega)).mono λr1 _=>?_);refine DX.2 (Tot.mono (P:=λ_=>True) (DZ.2 ⟨λ_=>(PE _ (by have:=hv;simp only[J1,PG]at this;dsimp only;omega)).mono λ_ _=>trivial,λ_=>DY.2 trivial⟩) λ_ _=>DY.2 trivial)
 .exact DX.2 (DY.2 (DY.2 trivial))
 .refine DX.2 (Tot.mono (P:=λ_=>True) ?_ λ_ _=>DY.2 trivial);unfold nX nV;dsimp only;refine DX.2 (DX.2 ((AR8 x _ (λy=>?_) (by have:=hv;simp only[J1,TS]at this;omega)).mono λ_ _=>DY.2 (DY.2 trivial)));unfold nW;exact DX.2 (DX.2 ((rX _ trivial).mono λ_ _=>DY.2 (DY.2 trivial)))
 .exact DX.2 (DY.2 (DY.2 trivial))
 .exact hv.elim
noncomputable def VU(t:FA)(name:DW)(o:GV):Bool:=((FB t.2.2.2.1 name).2&&decide (o.2.1=(FB t.2.2.2.1 name).1))||((!o.2.2.2)&&(t.2.2.2.2.2.1||(!sE (JX name).1 o.2.1)))
noncomputable def N8(t:FA)(name:DW):List DW:=((t.1.filter λo=>decide (o.1=name)).filter (VU t name)).map λo=>o.2.1
def N9(n:GE):Prop:=n.1.length<=1048576/\∀s∈n.2.1.2,VT s
structure TkB(t:FA):Prop where
 offers:t.1.length<=1048576
 offer:∀o∈t.1,o.1.length<=1048576/\o.2.1.length<=1048576/\o.2.2.1.length<=1048576/\∀n∈o.2.2.1,N9 n
 needs:t.2.1.length<=1048576
 need:∀n∈t.2.1,N9 n
 old:t.2.2.2.1.length<=1048576
 pin:∀p∈t.2.2.2.1,p.1.length<=1048576/\p.2.length<=1048576
 frozen:t.2.2.2.2.1.length<=1048576
 name:∀s∈t.2.2.2.2.1,s.length<=1048576
theorem ARA(t:FA)(name:DW)(ht:TkB t)(hn:name.length<=1048576):V3 (t,name)=some (N8 t name):=by
 unfold V3;dsimp only;rw[N_ _ _ (by have:=ht.old;omega),A1,AR4 _ _ ht.offers,A1];have hfl:(t.1.filter λo=>decide (o.1=name)).length<=1048576:=AU (BK _ _) ht.offers;have hfm:∀o∈(t.1.filter λo=>decide (o.1=name)),o.2.1.length<=1048576:=λo ho=>(ht.offer o (CX.1 ho).1).2.1;unfold N8;generalize (t.1.filter λo=>decide (o.1=name))=l at hfl hfm ⊢
 have:Tot (nZ (name,t,(FB t.2.2.2.1 name).1,(FB t.2.2.2.1 name).2,[],l,(l.length:Int),(0:Int))) (λq=>q=(l.filter (VU t name)).map λo=>o.2.1):=by
  refine GD (σ:=List DW) l.length (λs i=>(name,t,(FB t.2.2.2.1 name).1,(FB t.2.2.2.1 name).2,s,l,(l.length:Int),i)) (λi s=>s=((l.take i).filter (VU t name)).map λo=>o.2.1) o5 (λnext s i hi hj hn=>?_) (λnext s hj=>?_) [] oc
  .unfold nY;dsimp only;rw[F8,A7 hi,AA,GC (A0 hi),A1,GK o5,sD _ (by assumption),A1];obtain⟨q,h1,h2⟩:=AR9 (JX name).1 l[i].2.1 (hfm _ (BM hi));rw[h1,A1,h2,E3];have hle:s.length<=i:=by rw[hj,B2];exact AU (BK _ _) (by rw[B4];omega)
   refine DZ.2 ⟨λh=>DX.2 (FU.2 ⟨by simp only[AF,AW];omega,?_⟩),λh=>?_⟩
   .refine hn _ ?_;rw[GJ (A0 hi),CB,D8,<-hj];have h:VU t name l[i]=true:=h;simp[h]
   .refine hn _ ?_;rw[GJ (A0 hi),CB,D8,<-hj];have h:VU t name l[i]=false:=h;simp[h]
  .unfold nY;dsimp only;rw[F8,AE (AH _),AC];exact DY.2 (by rw[hj,B3])
 rw[KK this];rfl
def PJ(l:List EX)(nd:GE):Prop:=(FB l nd.1).2=true/\e_ nd.2.1 (FB l nd.1).1=true
theorem VV{α:Type}{l:List α}{a:α}:l++[a]=[]<->False:=oc
def S7(t:FA):List DW:=t.2.2.2.2.1++(J3 t.2.2.1 t.2.1).map λnd=>nd.1
inductive CR (t:FA) (l:List EX):DW->Prop
 |root {s:DW}:s∈S7 t->(FB l s).2=true->CR t l s
 |step {s:DW} {nd:GE}:CR t l s->nd∈JH t (s,(FB l s).1)->(FB l nd.1).2=true->CR t l nd.1
theorem CR.pinned{t:FA}{l:List EX}{s:DW}(h:CR t l s):(FB l s).2=true:=by
 cases h with
 |root _ h=>exact h
 |step _ _ h=>exact h
theorem ARB(l:List GE)(s0:List DW)(hl:l.length+s0.length<=100000000000):oC (s0,l,(l.length:Int),0)=some (s0++l.map λnd=>nd.1):=by
 refine KK ?_;refine GD (σ:=List DW) l.length (λs i=>(s,l,(l.length:Int),i)) (λm s=>s=s0++(l.take m).map λnd=>nd.1) o5 (λnext s i hi hs hn=>?_) (λnext s hs=>?_) s0 oc
 .unfold oB;dsimp only;have hsl:s.length<=s0.length+i:=by rw[hs,A6,B2,B4];omega
  rw[F8,A7 hi,AA,GC (A0 hi),A1,GK o5];refine DX.2 (FU.2 ⟨by simp only[AF,AW];omega,hn _ ?_⟩);rw[GJ (A0 hi),D8,hs,B_];rfl
 .unfold oB;dsimp only;rw[F8,AE (AH _),AC];exact DY.2 (by rw[hs,B3])
theorem ARC(l:List GE)(s0:List DW)(hl:l.length+s0.length<=100000000000):oA (s0,l,(l.length:Int),0)=some (s0++l.map λnd=>nd.1):=by
 refine KK ?_;refine GD (σ:=List DW) l.length (λs i=>(s,l,(l.length:Int),i)) (λm s=>s=s0++(l.take m).map λnd=>nd.1) o5 (λnext s i hi hs hn=>?_) (λnext s hs=>?_) s0 oc
 .unfold o9;dsimp only;have hsl:s.length<=s0.length+i:=by rw[hs,A6,B2,B4];omega
  rw[F8,A7 hi,AA,GC (A0 hi),A1,GK o5];refine DX.2 (FU.2 ⟨by simp only[AF,AW];omega,hn _ ?_⟩);rw[GJ (A0 hi),D8,hs,B_];rfl
 .unfold o9;dsimp only;rw[F8,AE (AH _),AC];exact DY.2 (by rw[hs,B3])
theorem A7Q{t:FA}(ht:TkB t)(p:EX):(JH t p).length<=1048576/\∀nd∈JH t p,N9 nd:=by
 unfold JH;split
 .rename_i o ho;have:=ht.offer o (List.mem_of_find?_eq_some ho);exact⟨AU (BK _ _) this.2.2.1,λnd h=>this.2.2.2 nd (CX.1 h).1⟩
 .exact⟨BQ _,λnd h=>oe⟩
def J4(m:List (DW×Bool))(s:DW):Bool:=(FQ EG s m).getD false
theorem ARD{α:Type}{p q:α->Bool}{l:List α}(h:∀x∈l,q x=true->p x=true){a:α}(ha:a∈l)(h1:p a=true)(h2:q a=false):(l.filter q).length<(l.filter p).length:=by
 induction l with
 |nil=>cases ha
 |cons x l ih=>
  have hsub:(l.filter q).length<=(l.filter p).length:=by
   clear ih ha;induction l with
   |nil=>exact AB _
   |cons y l ih2=>
    have:=ih2 λz hz=>h z (by rw[A_]at hz ⊢;exact hz.imp id (AD _));simp only[List.filter_cons];cases hq:q y with
    |true=>rw[h y oc hq];simpa using this
    |false=>cases hp:p y<;>simp<;>omega
  rw[A_]at ha;rcases ha with rfl|ha
  .simp only[List.filter_cons,h1,h2];simp;omega
  .have:=ih (λz hz=>h z (AD _ hz)) ha;simp only[List.filter_cons];cases hq:q x with
   |true=>rw[h x oc hq];simpa using this
   |false=>cases hp:p x<;>simp<;>omega
structure Right(t:FA)(l:List EX):Prop where
 needs:∀nd∈J3 t.2.2.1 t.2.1,PJ l nd
 pins:∀p∈l,p.2∈N8 t p.1/\∀nd∈JH t p,PJ l nd
 more:∀p∈l,CR t l p.1
 frozen:∀s∈t.2.2.2.2.1,(FB l s).2=true/\(FB l s).1=(FB t.2.2.2.1 s).1
theorem ARE(l:List DW)(v:DW)(hl:l.length<4611686018427387904):Tot (OU (l,v)) (λq=>q=true<->v∈l):=by
 unfold OU;dsimp only;rw[AR2 l v hl,A1];refine DY.2 ?_;rw[AX];have:=AR1 v l;constructor
 .intro h;apply BY;intro hn;have:=this.2 hn;omega
 .intro h;apply BY;intro hn;exact this.1 o5 h
theorem MF{α:Type}{l:List α}{i:Nat}(hi:i<l.length)(P:α->Prop):(∀x∈l.take (i+1),P x)<->(∀x∈l.take i,P x)/\P l[i]:=by
 rw[GJ (A0 hi)];constructor
 .intro h;exact⟨λnd hnd=>h nd (AS _ hnd),h _ (AT _ (AN.2 rfl))⟩
 .rintro⟨h1,h2⟩ nd hnd;rw[AL,AN]at hnd;rcases hnd with h|rfl
  .exact h1 nd h
  .exact h2
theorem A7R{α:Type}{motive:List α->Prop}(nil:motive [])(append_singleton:∀l a,motive l->motive (l++[a]))(l:List α):motive l:=by
 have:∀r:List α,motive r.reverse:=by
  intro r;induction r with
  |nil=>exact nil
  |cons a r ih=>rw[List.reverse_cons];exact append_singleton _ _ ih
 have:=this l.reverse;rwa[List.reverse_reverse]at this
def PK(s:List DW)(o:GV):List DW:=if o.1∈s then s else s++[o.1]
def I3(l:List GV):List DW:=l.foldl PK []
theorem sF(l:List GV)(o:GV):I3 (l++[o])=PK (I3 l) o:=by
 unfold I3;rw[List.foldl_append];rfl
theorem ARF(l:List GV):(I3 l).length<=l.length:=by
 induction l using A7R with
 |nil=>exact AB _
 |append_singleton l o ih=>
  rw[sF];unfold PK;split
  .simp only[A6,AF,AW];omega
  .simp only[A6,AF,AW];omega
theorem A7S(l:List GV)(s:DW):s∈I3 l<->∃o∈l,o.1=s:=by
 induction l using A7R with
 |nil=>simp[I3]
 |append_singleton l o ih=>
  rw[sF];unfold PK;split
  .rename_i h;rw[ih];constructor
   .rintro⟨x,hx,rfl⟩;exact⟨x,AS _ hx,rfl⟩
   .rintro⟨x,hx,rfl⟩;rw[AL,AN]at hx;rcases hx with hx|rfl
    .exact⟨x,hx,rfl⟩
    .exact ih.1 h
  .rw[AL,ih,AN];constructor
   .rintro(⟨x,hx,rfl⟩|rfl)
    .exact⟨x,AS _ hx,rfl⟩
    .exact⟨o,oc,rfl⟩
   .rintro⟨x,hx,rfl⟩;rw[AL,AN]at hx;rcases hx with hx|rfl
    .exact .inl ⟨x,hx,rfl⟩
    .exact .inr rfl
noncomputable def ARG(t:FA)(name:DW):List DW:=(N8 t name).reverse
section
variable{α:Type}{R:α->α->Prop}
theorem PL(tr:∀a b c,R a b->R b c->R a c){l:List α}{i:Nat}(hi:i<l.length):(l.take (i+1)).Pairwise R<->(l.take i).Pairwise R/\∀(_:0<i) (y:α),l[i-1]?=some y->R y l[i]:=by
 rw[GJ (A0 hi),DL];constructor
 .rintro⟨h1,_,h3⟩;refine⟨h1,λh0 y hy=>h3 y ?_ _ (AN.2 rfl)⟩;rw[CA];obtain⟨h4,h5⟩:=A8.1 hy;exact⟨i-1,o5,h5⟩
 .rintro⟨h1,h2⟩;refine⟨h1,List.pairwise_singleton _ _,λa ha b hb=>?_⟩;cases AN.1 hb;obtain⟨j,hj,rfl⟩:=CA.1 ha;have h0:0<i:=o5
  have hy:l[i-1]?=some (l[i-1]'(o5)):=A0 _;have hl:=h2 h0 _ hy;by_cases hji:j=i-1
  .subst hji;exact hl
  .refine tr _ _ _ ?_ hl;have:=BZ.1 h1 j (i-1) (by rw[B4];omega) (by rw[B4];omega) o5;simpa using this
end
theorem ARH{α:Type}{l:List α}{i:Nat}(hi:i<l.length)(d:α):Tot (bif decide ((0:Int)<(i:Int))then at? l (IntKind.i64.wrap ((i:Int)-1))else some d) (λy=>0<i->l[i-1]?=some y)\/l.length ≥ 4611686018427387904:=by
 by_cases hb:l.length<4611686018427387904
 .left;refine DZ.2 ⟨λhz=>?_,λhz=>DY.2 λh0=>?_⟩
  .have hz:=A9 hz;rw[EW o5 o5];refine EZ.2 ⟨⟨o5,o5⟩,λw hw _=>?_⟩;rw[show i-1=((i:Int)-1).toNat by omega];exact hw
  .have hz:=AO hz;omega
 .right;omega
theorem sG{α:Type}{l:List α}{i:Nat}(hi:i<l.length)(hb:l.length<4611686018427387904)(d:α):Tot (bif decide ((0:Int)<(i:Int))then at? l (IntKind.i64.wrap ((i:Int)-1))else some d) (λy=>0<i->l[i-1]?=some y):=
 (ARH hi d).elim id λh=>o5
noncomputable def f8(r:Rg):Int:=(RJ r).getD 0
theorem ARI(r:Rg)(hr:∀s∈r.2,VT s):RJ r=some (f8 r):=by
 suffices h:∃q,RJ r=some q by
  obtain⟨q,h⟩:=h;unfold f8;rw[h];rfl
 refine rA.1 ?_;unfold RJ;exact DX.2 ((A7P r hr).mono λ_ _=>DY.2 trivial)
structure NdOk(nd:GE):Prop where
 kind:(JX nd.1).2=true
 range:f8 nd.2.1=0
 same:nd.2.1.1=(JX nd.1).1
 scope:1<=nd.2.2/\nd.2.2<=4
structure NdsOk(l:List GE):Prop where
 few:l.length<=12
 ok:∀nd∈l,NdOk nd
 asc:l.Pairwise λa b=>a.1<b.1
theorem S8{α:Type}(f:α->DW):∀a b c:α,f a<f b->f b<f c->f a<f c:=λ_ _ _=>ME
theorem A7T(l:List GE)(hl:l.length<=1048576)(hb:∀nd∈l,N9 nd):Tot (UZ l) (λe=>e=0<->NdsOk l):=by
 unfold UZ;refine DZ.2 ⟨λhc=>DY.2 ⟨λh=>absurd h od,λh=>?_⟩,λhc=>?_⟩
 .have:=A9 hc;have:=h.few;omega
 have hc:=AO hc
 refine DX.2 (Tot.mono (P:=λq:Sum Unit Int=>match q with
  | .inl _=>(∀nd∈l,NdOk nd)/\l.Pairwise λa b=>a.1<b.1
  | .inr e=>e≠0/\¬((∀nd∈l,NdOk nd)/\l.Pairwise λa b=>a.1<b.1)) ?_ λq hq=>?_)
 .refine GD (σ:=Unit) l.length (λ_ i=>(l,l,(l.length:Int),i)) (λm _=>(∀nd∈l.take m,NdOk nd)/\(l.take m).Pairwise λa b=>a.1<b.1) o5 (λnext s i hi hs hn=>?_) (λnext s hs=>?_) () oc
  .unfold lY;dsimp only;have hnd:=hb _ (BM hi);rw[F8,A7 hi,AA,GC (A0 hi),A1,sD _ hnd.1,A1,ARI _ hnd.2,GK o5];have hall:(∀nd∈l,NdOk nd)->NdOk l[i]:=λh=>h _ (BM hi);refine DZ.2 ⟨λh1=>DY.2 ⟨od,λh=>?_⟩,λh1=>?_⟩
   .rw[(hall h.1).kind]at h1;cases h1
   refine DX.2 (DY.2 ?_);refine DZ.2 ⟨λh2=>DY.2 ?_,λh2=>?_⟩
   .rw[E0]at h2;have h2:¬f8 l[i].2.1=0:=oq
    exact⟨h2,λh=>h2 (hall h.1).range⟩
   refine DZ.2 ⟨λh3=>DY.2 ⟨od,λh=>?_⟩,λh3=>?_⟩
   .rw[(hall h.1).same,E0]at h3;simp at h3
   refine DZ.2 ⟨λh4=>DY.2 ⟨od,λh=>?_⟩,λh4=>?_⟩
   .have:=(hall h.1).scope;rw[BH,AX,AX]at h4;omega
   refine DX.2 ((sG hi o5 _).mono λy hy=>?_);rw[VP];refine DZ.2 ⟨λh5=>DY.2 ⟨od,λh=>?_⟩,λh5=>hn () ⟨?_,?_⟩⟩
   .obtain⟨h6,h7⟩:=D1.1 h5;have h6:=A9 h6;have hy:=hy o5;have h8:=((PL (S8 λnd:GE=>nd.1) hi).1 (h.2.sublist (List.take_sublist _ _))).2 o5 y hy;have h8:y.1<l[i].1:=h8;rw[A7 h8]at h7;cases h7
   .rw[MF hi];refine⟨hs.1,⟨ot,?_,?_,?_⟩⟩
    .rw[E0]at h2;simpa using h2
    .rw[E0]at h3;simpa using h3
    .obtain⟨g1,g2⟩:=BS.1 h4;have:=AO g1;have:=AO g2;omega
   .rw[PL (S8 λnd:GE=>nd.1) hi];refine⟨hs.2,λh0 y' hy'=>?_⟩;have hy:=hy h0;rw[hy]at hy';cases hy';rw[A7 (show(0:Int)<(i:Int) by omega),CE]at h5;have h5:decide (y.1<l[i].1)=true:=by simpa using h5
    exact A9 h5
  .unfold lY;dsimp only;rw[F8,AE (AH _),AC];rw[B3]at hs;exact DY.2 hs
 .rcases q with u|e
  .exact DY.2 ⟨λ_=>⟨o5,hq.1,hq.2⟩,λ_=>rfl⟩
  .exact DY.2 ⟨λh=>absurd h hq.1,λh=>absurd ⟨h.ok,h.asc⟩ hq.2⟩
noncomputable def JY(name v:DW):Int×Int:=(OS (name,v)).getD (0,0)
theorem A7U(name v:DW)(h1:name.length<=1048576)(h2:v.length<=1048576):Tot (OS (name,v)) (λq=>q.2=0->(JX name).2=true/\q.1=(JX name).1/\Ok (JX name).1 v):=by
 unfold OS;dsimp only;rw[sD _ h1,A1];refine DZ.2 ⟨λ_=>DY.2 λh=>absurd h od,λhc=>?_⟩;exact DX.2 ((AQl _ v h2).mono λe he=>DY.2 λh=>⟨by simpa using hc,rfl,he h⟩)
theorem A7V(name v:DW)(h1:name.length<=1048576)(h2:v.length<=1048576):OS (name,v)=some (JY name v):=by
 obtain⟨q,hq,_⟩:=A7U name v h1 h2;unfold JY;rw[hq];rfl
theorem sH{name v:DW}(h1:name.length<=1048576)(h2:v.length<=1048576)(h:(JY name v).2=0):(JX name).2=true/\(JY name v).1=(JX name).1/\Ok (JX name).1 v:=by
 obtain⟨q,hq,h3⟩:=A7U name v h1 h2;have:JY name v=q:=by unfold JY;rw[hq];rfl
 rw[this]at h ⊢;exact h3 h
structure LkOk(l:List EX):Prop where
 few:l.length<=12
 ok:∀p∈l,(JY p.1 p.2).2=0
 asc:l.Pairwise λa b=>a.1<b.1
theorem PM(l:List EX)(hl:l.length<=1048576)(hb:∀p∈l,p.1.length<=1048576/\p.2.length<=1048576):Tot (M9 l) (λe=>e=0<->LkOk l):=by
 unfold M9;refine DZ.2 ⟨λhc=>DY.2 ⟨λh=>absurd h od,λh=>?_⟩,λhc=>?_⟩
 .have:=A9 hc;have:=h.few;omega
 have hc:=AO hc
 refine DX.2 (Tot.mono (P:=λq:Sum Unit Int=>match q with
  | .inl _=>(∀p∈l,(JY p.1 p.2).2=0)/\l.Pairwise λa b=>a.1<b.1
  | .inr e=>e≠0/\¬((∀p∈l,(JY p.1 p.2).2=0)/\l.Pairwise λa b=>a.1<b.1)) ?_ λq hq=>?_)
 .refine GD (σ:=Unit) l.length (λ_ i=>(l,l,(l.length:Int),i)) (λm _=>(∀p∈l.take m,(JY p.1 p.2).2=0)/\(l.take m).Pairwise λa b=>a.1<b.1) o5 (λnext s i hi hs hn=>?_) (λnext s hs=>?_) () oc
  .unfold m8;dsimp only;have hp:=hb _ (BM hi);rw[F8,A7 hi,AA,GC (A0 hi),A1,A7V _ _ hp.1 hp.2,A1,GK o5];refine DZ.2 ⟨λh2=>DY.2 ?_,λh2=>?_⟩
   .rw[E0]at h2;have h2:¬(JY l[i].1 l[i].2).2=0:=oq
    exact⟨h2,λh=>h2 (h.1 _ (BM hi))⟩
   refine DX.2 ((sG hi o5 _).mono λy hy=>?_);rw[VP];refine DZ.2 ⟨λh5=>DY.2 ⟨od,λh=>?_⟩,λh5=>hn () ⟨?_,?_⟩⟩
   .obtain⟨h6,h7⟩:=D1.1 h5;have h6:=A9 h6;have hy:=hy o5;have h8:=((PL (S8 λnd:EX=>nd.1) hi).1 (h.2.sublist (List.take_sublist _ _))).2 o5 y hy;have h8:y.1<l[i].1:=h8;rw[A7 h8]at h7;cases h7
   .rw[MF hi];refine⟨hs.1,?_⟩;rw[E0]at h2;simpa using h2
   .rw[PL (S8 λnd:EX=>nd.1) hi];refine⟨hs.2,λh0 y' hy'=>?_⟩;have hy:=hy h0;rw[hy]at hy';cases hy';rw[A7 (show(0:Int)<(i:Int) by omega),CE]at h5;have h5:decide (y.1<l[i].1)=true:=by simpa using h5
    exact A9 h5
  .unfold m8;dsimp only;rw[F8,AE (AH _),AC];rw[B3]at hs;exact DY.2 hs
 .rcases q with u|e
  .exact DY.2 ⟨λ_=>⟨o5,hq.1,hq.2⟩,λ_=>rfl⟩
  .exact DY.2 ⟨λh=>absurd h hq.1,λh=>absurd ⟨h.ok,h.asc⟩ hq.2⟩
def VW(o:GV):Prop:=o.1.length<=1048576/\o.2.1.length<=1048576/\o.2.2.1.length<=1048576/\∀n∈o.2.2.1,N9 n
structure OfOk(o:GV):Prop where
 pin:(JY o.1 o.2.1).2=0
 needs:NdsOk o.2.2.1
 other:∀nd∈o.2.2.1,nd.1≠o.1
def MG(a b:GV):Prop:=a.1<b.1\/a.1=b.1/\ky (JX a.1).1 a.2.1<ky (JX b.1).1 b.2.1
theorem ARJ(a b c:GV):MG a b->MG b c->MG a c:=by
 rintro(h1|⟨h1,h1'⟩) (h2|⟨h2,h2'⟩)
 .exact .inl (ME h1 h2)
 .exact .inl (h2▸h1)
 .exact .inl (h1▸h2)
 .exact .inr ⟨h1.trans h2,ME h1' h2'⟩
theorem ARK(l:List GE)(f:GE->Option Bool)(p:GE->Bool)(hf:∀x,f x=some (p x))(hl:l.length<4611686018427387904):∃b,bD (l,f)=some b/\(b=true<->∃nd∈l,p nd=true):=by
 unfold bD;dsimp only;rw[AR3 l f p hf hl,A1];refine⟨_,rfl,?_⟩;rw[AX];rcases VR p l with⟨h1,h2⟩|⟨i,x,h1,h2,h3,_⟩
 .rw[h1];refine⟨λh=>absurd h od,λ⟨nd,h,h'⟩=>?_⟩;rw[h2 nd h]at h';cases h'
 .rw[h1];exact⟨λ_=>⟨x,B5 h2,h3⟩,λ_=>o5⟩
theorem ARL(o:GV)(before:List GV)(ho:VW o)(hb:∀a∈before,VW a)(hbo:∀a∈before,(JY a.1 a.2.1).2=0)(hbl:before.length<4611686018427387904):
 Tot (bG (o,before)) (λe=>e=0->OfOk o/\∀(_:0<before.length) (y:GV),before[before.length-1]?=some y->MG y o):=by
 unfold bG;dsimp only;rw[A7V _ _ ho.1 ho.2.1,A1];refine DZ.2 ⟨λh=>DY.2 λh0=>?_,λh=>?_⟩
 .rw[E0,A7 h0]at h;cases h
 have hpin:(JY o.1 o.2.1).2=0:=by rw[E0]at h;simpa using h
 refine DX.2 ((A7T o.2.2.1 ho.2.2.1 ho.2.2.2).mono λe he=>DZ.2 ⟨λh2=>DY.2 λh0=>?_,λh2=>?_⟩)
 .rw[E0,A7 h0]at h2;cases h2
 have hnds:NdsOk o.2.2.1:=he.1 (by rw[E0]at h2;simpa using h2);obtain⟨b,h3,h4⟩:=ARK o.2.2.1 (λx=>(lZ (x,(some o))).bind λr=>some r) (λnd=>EG nd.1 o.1) (λx=>rfl) (by have:=ho.2.2.1;omega);rw[h3,A1];refine DZ.2 ⟨λ_=>DY.2 λh0=>absurd h0 od,λhb0=>?_⟩
 have hoth:∀nd∈o.2.2.1,nd.1≠o.1:=by
  intro nd hnd e;have:=h4.2 ⟨nd,hnd,by rw[E3];exact A7 e⟩;rw[hb0]at this;cases this
 have hok:OfOk o:=⟨hpin,hnds,hoth⟩;refine DZ.2 ⟨λhz=>DY.2 λ_=>⟨hok,λh0=>?_⟩,λhz=>?_⟩
 .rw[E0]at hz;have:=A9 hz;omega
 have hpos:0<before.length:=by
  rw[E0]at hz;have:=AO hz;omega
 rw[EW o5 o5];refine DX.2 (EZ.2 ⟨⟨o5,o5⟩,λy hy=>?_⟩);rw[show((before.length:Int)-1).toNat=before.length-1 by omega]at hy;have hym:=B5 hy;rw[rM,E3];refine DZ.2 ⟨λ_=>DY.2 λh0=>absurd h0 od,λhlt=>DZ.2 ⟨λheq=>?_,λhne=>DY.2 λ_=>⟨hok,λ_ y' hy'=>?_⟩⟩⟩
 .have heq:=A9 heq;obtain⟨_,k1,k2⟩:=sH ho.1 ho.2.1 hpin;obtain⟨_,_,k3⟩:=sH (hb y hym).1 (hb y hym).2.1 (hbo y hym);rw[<-heq]at k3;rw[k1,AQp k3 k2,A1];refine DZ.2 ⟨λ_=>DY.2 λh0=>absurd h0 od,λhc=>DY.2 λ_=>⟨hok,λ_ y' hy'=>?_⟩⟩;rw[hy]at hy';cases hy';have hc:=AO hc;refine .inr ⟨heq.symm,?_⟩;rw[<-heq];exact(rP _ _).1 (by dsimp only at hc;omega)
 .rw[hy]at hy';cases hy';have hlt:=AO hlt;have hne:=AO hne;rcases NY o.1 y.1 with h|h|h
  .exact absurd h hlt
  .exact absurd h hne
  .exact .inl h
def LV(l:List GV)(nm:DW):Nat:=(l.filter λo=>decide (o.1=nm)).length
theorem ARM(l:List GV)(o:GV)(nm:DW):LV (l++[o]) nm=LV l nm+if o.1=nm then 1 else 0:=by
 unfold LV;rw[CB,A6];by_cases h:o.1=nm<;>simp[h]
structure RegOk(l:List GV):Prop where
 ok:∀o∈l,OfOk o
 asc:l.Pairwise MG
 few:(I3 l).length<=12
 few8:∀nm,LV l nm<=8
theorem ARN(l:List GV)(hl:l.length<=1048576)(hb:∀o∈l,VW o):Tot (RK l) (λe=>e=0->RegOk l):=by
 unfold RK
 refine DX.2 (Tot.mono (P:=λq:Sum Unit Int=>match q with
  | .inl _=>RegOk l
  | .inr e=>e≠0) ?_ λq hq=>?_)
 .refine GD (σ:=Int×Int) l.length (λs i=>(l,s.1,s.2,l,(l.length:Int),i)) (λm s=>(∀o∈l.take m,OfOk o)/\(l.take m).Pairwise MG/\s.1=((I3 (l.take m)).length:Int)/\(I3 (l.take m)).length<=12/\(∀nm,LV (l.take m) nm<=8)/\∀(_:0<m) (y:GV),l[m-1]?=some y->s.2=(LV (l.take m) y.1:Int))
   o5 (λnext s i hi hs hn=>?_) (λnext s hs=>?_) (0,0) ⟨oc,oc,rfl,by rw[DR];exact BQ _,λnm=>by simp[LV],λh=>o5⟩
  .obtain⟨g1,g2,g3,g4,g5,g6⟩:=hs;unfold m7;dsimp only
   have hcut:cut? l 0 (i:Int)=some (l.take i):=by
    refine KK (HD.2 ⟨⟨BF _,o5,o5⟩,?_⟩);rw[CQ];rfl
   rw[F8,A7 hi,AA,GC (A0 hi),A1,hcut,A1,GK o5];have htl:(l.take i).length=i:=by rw[B4];omega
   refine DX.2 ((ARL l[i] (l.take i) (hb _ (BM hi)) (λa ha=>hb a (DA ha)) (λa ha=>(g1 a ha).pin) o5).mono λe he=>DZ.2 ⟨λh=>DY.2 ?_,λh=>?_⟩)
   .rw[E0]at h;simpa using h
   have he:=he (by rw[E0]at h;simpa using h);obtain⟨hok,hlast⟩:=he;have hprev:∀(_:0<i) (y:GV),l[i-1]?=some y->MG y l[i]:=λh0 y hy=>hlast o5 y (by rw[htl,AK,if_pos o5];exact hy);have hasc:(l.take (i+1)).Pairwise MG:=(PL ARJ hi).2 ⟨g2,hprev⟩;have hoks:∀o∈l.take (i+1),OfOk o:=(MF hi _).2 ⟨g1,hok⟩;have hsn:=GJ (A0 hi)
   have hbef:∀a∈l.take i,MG a l[i]:=by
    rw[hsn,DL]at hasc;exact λa ha=>hasc.2.2 a ha _ (AN.2 rfl)
   have hcnt:∀nm,LV (l.take (i+1)) nm=LV (l.take i) nm+if l[i].1=nm then 1 else 0:=λnm=>by rw[hsn,ARM]
   have hnames:I3 (l.take (i+1))=PK (I3 (l.take i)) l[i]:=by rw[hsn,sF]
   have hni:(I3 (l.take i)).length<=i:=AU (ARF _) o5;rw[EW (n:=s.1+1) (by rw[g3];omega) (by rw[g3];omega)]
   have hat:Tot (bif (!(E1 (i:Int) 0))then at? l (IntKind.i64.wrap ((i:Int)-1))else some (([]:List UInt8),(([]:List UInt8),(([]:List GE),false)))) (λy:GV=>0<i->l[i-1]?=some y):=by
    refine DZ.2 ⟨λhz=>?_,λhz=>DY.2 λh0=>?_⟩
    .have hz:¬((i:Int)=0):=by rw[E0]at hz;simpa using hz
     rw[EW o5 o5];refine EZ.2 ⟨⟨o5,o5⟩,λw hw _=>?_⟩;rw[show i-1=((i:Int)-1).toNat by omega];exact hw
    .have hz:((i:Int)=0):=by rw[E0]at hz;simpa using hz
     omega
   refine DX.2 (hat.mono λy hy=>?_)
   have hnew:(∀a∈l.take i,a.1≠l[i].1)->I3 (l.take (i+1))=I3 (l.take i)++[l[i].1]/\LV (l.take i) l[i].1=0:=by
    intro h;constructor
    .rw[hnames];unfold PK;rw[if_neg];rw[A7S];rintro⟨a,ha,e⟩;exact h a ha e
    .unfold LV;rw[CD,List.filter_eq_nil_iff];intro a ha;simp[h a ha]
   refine DZ.2 ⟨λhc=>?_,λhc=>?_⟩
   .have hne:∀a∈l.take i,a.1≠l[i].1:=by
     rcases D0 i with h0|h0
     .subst h0;intro a ha;simp at ha
     have hy:=hy h0;rw[E0,AE o5,CC,E3]at hc;have hc:¬y.1=l[i].1:=by simpa using hc
     have hyl:y.1<l[i].1:=(hprev h0 y hy).elim id λh=>absurd h.1 hc;intro a ha e;obtain⟨j,hj,rfl⟩:=CA.1 ha
     have hyy:y=l[i-1]:=by
      have:=hy;rw[A0 o5]at this;exact(A3 this).symm
     by_cases hji:j=i-1
     .subst hji;rw[<-hyy]at e;exact hc e
     .have:=BZ.1 g2 j (i-1) o5 o5 o5;have this:MG l[j] l[i-1]:=by simpa using this
      rw[<-hyy]at this;rcases this with h|h
      .rw[e]at h;exact I8 _ (ME h hyl)
      .rw[e]at h;rw[h.1]at hyl;exact I8 _ hyl
    obtain⟨n1,n2⟩:=hnew hne;refine DZ.2 ⟨λ_=>DY.2 (show(3:Int)≠0 by decide),λhd=>hn (s.1+1,1) ⟨hoks,hasc,?_,?_,?_,?_⟩⟩
    .dsimp only;rw[n1,A6,g3];simp
    .rw[n1,A6];have:=AO (BS.1 hd).2;rw[g3]at this;simp only[AF,AW];omega
    .intro nm;rw[hcnt];have:=g5 nm;split
     .rename_i h;rw[<-h,n2];decide
     .exact this
    .intro _ y' hy';rw[Nat.add_sub_cancel,A0 hi]at hy';cases hy';dsimp only;rw[hcnt,n2,if_pos rfl];rfl
   .obtain⟨hc1,hc2⟩:=BS.1 hc;have h0:0<i:=by rw[E0]at hc1;have:=AO hc1;omega
    have hy:=hy h0;have hye:y.1=l[i].1:=by rw[E3]at hc2;simpa using hc2
    have g6:=g6 h0 y hy
    have hym:y∈l.take i:=CA.2 ⟨i-1,o5,by
     have:=hy;rw[A0 o5]at this;exact A3 this⟩
    have n1:I3 (l.take (i+1))=I3 (l.take i):=by
     rw[hnames];unfold PK;rw[if_pos];rw[A7S];exact⟨y,hym,hye⟩
    have h8:=g5 y.1;rw[EW (n:=s.2+1) (by rw[g6];omega) (by rw[g6];omega)];refine DZ.2 ⟨λ_=>DY.2 (show(3:Int)≠0 by decide),λhd=>hn (s.1,s.2+1) ⟨hoks,hasc,by rw[n1];exact g3,by rw[n1];exact g4,?_,?_⟩⟩
    .intro nm;rw[hcnt];have:=g5 nm;split
     .rename_i h;have:=AO (BS.1 hd).1;rw[g6]at this;rw[<-h,<-hye];omega
     .exact this
    .intro _ y' hy';rw[Nat.add_sub_cancel,A0 hi]at hy';cases hy';dsimp only;rw[hcnt,if_pos rfl,g6,hye];rfl
  .obtain⟨g1,g2,g3,g4,g5,g6⟩:=hs;unfold m7;dsimp only;rw[F8,AE (AH _),AC];rw[B3]at g1 g2 g4 g5;exact DY.2 ⟨g1,g2,g4,g5⟩
 .rcases q with u|e
  .exact DY.2 λ_=>hq
  .exact DY.2 λh=>absurd h hq
structure TaskOk(t:FA):Prop where
 reg:RegOk t.1
 needs:NdsOk t.2.1
 scope:1<=t.2.2.1/\t.2.2.1<=4
 old:LkOk t.2.2.2.1
 frozen:∀s∈t.2.2.2.2.1,(FB t.2.2.2.1 s).2=true
 asc:t.2.2.2.2.1.Pairwise λa b=>a<b
 base:rY t.2.2.2.2.2.2
theorem ARO(t:FA)(ht:TkB t):
 Tot (nG (t,t.2.2.2.2.1,(t.2.2.2.2.1.length:Int),0)) (λq=>match q with
  | .inl t'=>t'=t/\(∀s∈t.2.2.2.2.1,(FB t.2.2.2.1 s).2=true)/\t.2.2.2.2.1.Pairwise λa b=>a<b
  | .inr e=>e≠0/\¬((∀s∈t.2.2.2.2.1,(FB t.2.2.2.1 s).2=true)/\t.2.2.2.2.1.Pairwise λa b=>a<b)):=by
 have hfr:=ht.frozen;have hold:=ht.old;refine GD (σ:=Unit) t.2.2.2.2.1.length (λ_ i=>(t,t.2.2.2.2.1,(t.2.2.2.2.1.length:Int),i)) (λm _=>(∀s∈t.2.2.2.2.1.take m,(FB t.2.2.2.1 s).2=true)/\(t.2.2.2.2.1.take m).Pairwise λa b=>a<b) o5 (λnext s i hi hs hn=>?_) (λnext s hs=>?_) () oc
 .unfold nF;dsimp only;rw[F8,A7 hi,AA,GC (A0 hi),A1,N_ _ _ o5,A1,GK o5];refine DZ.2 ⟨λh1=>DY.2 ⟨od,λh=>?_⟩,λh1=>?_⟩
  .rw[h.1 _ (BM hi)]at h1;cases h1
  refine DX.2 ((sG hi o5 _).mono λy hy=>?_);rw[VP];refine DZ.2 ⟨λh5=>DY.2 ⟨od,λh=>?_⟩,λh5=>hn () ⟨?_,?_⟩⟩
  .obtain⟨h6,h7⟩:=D1.1 h5;have h6:=A9 h6;have hy:=hy o5;have h8:=((PL (S8 λnd:DW=>nd) hi).1 (h.2.sublist (List.take_sublist _ _))).2 o5 y hy;have h8:y<t.2.2.2.2.1[i]:=h8;rw[A7 h8]at h7;cases h7
  .rw[MF hi];exact⟨hs.1,ot⟩
  .rw[PL (S8 λnd:DW=>nd) hi];refine⟨hs.2,λh0 y' hy'=>?_⟩;have hy:=hy h0;rw[hy]at hy';cases hy';rw[A7 (show(0:Int)<(i:Int) by omega),CE]at h5;have h5:decide (y<t.2.2.2.2.1[i])=true:=by simpa using h5
   exact A9 h5
 .unfold nF;dsimp only;rw[F8,AE (AH _),AC];rw[B3]at hs;exact DY.2 ⟨rfl,hs⟩
noncomputable def S9(l:List GV):Int:=(RK l).getD 0
theorem ARP(l:List GV)(hl:l.length<=1048576)(hb:∀o∈l,VW o):RK l=some (S9 l)/\(S9 l=0->RegOk l):=by
 obtain⟨e,h1,h2⟩:=ARN l hl hb;have:S9 l=e:=by unfold S9;rw[h1];rfl
 rw[this];exact⟨h1,h2⟩
theorem ARQ(t:FA)(ht:TkB t)(hB:BB t.2.2.2.2.2.2):Tot (NT t) (λe=>e=0<->(S9 t.1=0/\TaskOk t)):=by
 obtain⟨r1,r2⟩:=ARP t.1 ht.offers ht.offer;unfold NT;rw[r1,A1];refine DZ.2 ⟨λh=>DY.2 ⟨λh0=>?_,λh0=>?_⟩,λh=>?_⟩
 .rw[E0,A7 h0]at h;cases h
 .exact h0.1
 have hr0:S9 t.1=0:=by rw[E0]at h;simpa using h
 refine DX.2 ((A7T t.2.1 ht.needs ht.need).mono λe2 he2=>DZ.2 ⟨λh=>DY.2 ⟨λh0=>?_,λh0=>?_⟩,λh=>?_⟩)
 .rw[E0,A7 h0]at h;cases h
 .exact he2.2 h0.2.needs
 have hn0:=he2.1 (by rw[E0]at h;simpa using h);refine DZ.2 ⟨λh=>DY.2 ⟨λh0=>absurd h0 od,λh0=>?_⟩,λh=>?_⟩
 .have:=h0.2.scope;rw[BH,AX,AX]at h;omega
 have hsc:1<=t.2.2.1/\t.2.2.1<=4:=by
  obtain⟨g1,g2⟩:=BS.1 h;have:=AO g1;have:=AO g2;omega
 refine DX.2 ((PM t.2.2.2.1 ht.old ht.pin).mono λe2 he2=>DZ.2 ⟨λh=>DY.2 ⟨λh0=>?_,λh0=>?_⟩,λh=>?_⟩)
 .rw[E0,A7 h0]at h;cases h
 .exact he2.2 h0.2.old
 have hl0:=he2.1 (by rw[E0]at h;simpa using h);refine DX.2 ((ARO t ht).mono λq hq=>?_);rcases q with t'|e
 .obtain⟨rfl,h1,h2⟩:=hq;refine DX.2 ((AQs _ hB).mono λe he=>DY.2 ⟨λh0=>⟨hr0,r2 hr0,hn0,hsc,hl0,h1,h2,he.1 h0⟩,λh0=>he.2 h0.2.base⟩)
 .exact DY.2 ⟨λh0=>absurd h0 hq.1,λh0=>absurd ⟨h0.2.frozen,h0.2.asc⟩ hq.2⟩
theorem getD_set_ne{α:Type}{l:List α}{i j:Nat}{x d:α}(h:i≠j):(l.set i x).getD j d=l.getD j d:=by
 rw[AG,CW h,AG]
structure Fx(ns:List DW)(os:List (List DW)):Prop where
 len:os.length=ns.length
 few:ns.length<=12
 small:∀o∈os,o.length<=8
section
variable(t:FA)(ns:List DW)(os:List (List DW))(hF:Fx ns os)
include hF
end
def wa(W:List (List Int))(i a:Nat):Int:=(W.getD i []).getD a 0
def al(A:List (List (List Int)))(i a j:Nat):Int:=((A.getD i []).getD a []).getD j 0
def cnt(os:List (List DW))(i:Nat):Nat:=(os.getD i []).length
structure ShW(n:Nat)(os:List (List DW))(W:List (List Int)):Prop where
 len:W.length=n
 row:∀i<n,(W.getD i []).length=cnt os i+1
 in16:∀i a,HE (wa W i a)
structure ShA(n:Nat)(os:List (List DW))(A:List (List (List Int))):Prop where
 len:A.length=n
 row:∀i<n,(A.getD i []).length=cnt os i+1
 cell:∀i<n,∀a,a<cnt os i+1->((A.getD i []).getD a []).length=n
 in16:∀i a j,HE (al A i a j)
structure ShS(n:Nat)(st:List Int):Prop where
 len:st.length=n
 in16:∀i,HE (st.getD i 0)
noncomputable def VX(o:List DW)(r:Rg):Nat->Bool
 |0=>false
 |k+1=>match o[k]? with
  |some v=>e_ r v
  |none=>false
structure Fy(ns:List DW)(os:List (List DW)):Prop extends Fx ns os where
 nodup:ns.Nodup
 vers:∀o∈os,∀v∈o,v.length<=1048576
structure Rel(ns:List DW)(os:List (List DW))(M:Nat->Nat->GE->Prop)(W:List (List Int))(A:List (List (List Int)))(st:List Int):Prop where
 shW:ShW ns.length os W
 shA:ShA ns.length os A
 shS:ShS ns.length st
 st:∀i<ns.length,∀a,bt (st.getD i 0) a=true<->a<=cnt os i/\∀nd,M i a nd->nd.1∈ns
 wa:∀i<ns.length,∀a≤cnt os i,∀k,bt (wa W i a) k=true<->∃nd,M i a nd/\ns[k]?=some nd.1
 al:∀i<ns.length,∀a≤cnt os i,∀j<ns.length,∀b,bt (al A i a j) b=true<->b<=cnt os j/\(∀nd,M i a nd->ns[j]?=some nd.1->VX (os.getD j []) nd.2.1 b=true)/\
  (∀nd,M j b nd->ns[i]?=some nd.1->VX (os.getD i []) nd.2.1 a=true)
theorem Rel.congr{ns:List DW}{os:List (List DW)}{M M':Nat->Nat->GE->Prop}{W:List (List Int)}{A:List (List (List Int))}{st:List Int}(h:Rel ns os M W A st)(e:∀i a nd,M i a nd<->M' i a nd):Rel ns os M' W A st:=by
 have:M=M':=funext λi=>funext λa=>funext λnd=>propext (e i a nd);rwa[<-this]
section
variable{t:FA}{ns:List DW}{os:List (List DW)}(hF:Fy ns os)
include hF
end
def VY(t:FA)(ns:List DW)(os:List (List DW))(i:Nat):Nat->List GE
 |0=>[]
 |k+1=>match(os.getD i [])[k]?,ns[i]? with
  |some v,some nm=>JH t (nm,v)
  |_,_=>[]
section
variable{t:FA}{ns:List DW}{os:List (List DW)}(hF:Fy ns os)(ht:TkB t)(hN:∀i a nd,nd∈VY t ns os i a->N9 nd/\ns[i]?≠some nd.1)
include hF ht hN
end
structure Dm(n:Nat)(P:Nat->Nat->Prop)(R:Nat->Prop)(st:List Int)(rt:Int):Prop where
 shS:ShS n st
 in16:HE rt
 st:∀i<n,∀a,bt (st.getD i 0) a=true<->P i a
 rt:∀i,bt rt i=true<->R i
theorem Dm.congr{n:Nat}{P P':Nat->Nat->Prop}{R R':Nat->Prop}{st:List Int}{rt:Int}(h:Dm n P R st rt)(e:∀i<n,∀a,P i a<->P' i a)(e':∀i,R i<->R' i):Dm n P' R' st rt:=
 ⟨h.shS,h.in16,λi hi a=>(h.st i hi a).trans (e i hi a),λi=>(h.rt i).trans (e' i)⟩
def oF(o:List DW)(v:DW)(a:Nat):Bool:=match IQ (λx=>decide (v=x)) o with
 | .ofNat k=>decide (a=k+1)
 | .negSucc _=>false
section
variable{t:FA}{ns:List DW}{os:List (List DW)}(hF:Fy ns os)(ht:TkB t)
include hF ht
end
structure Good(t:FA)(ns:List DW)(os:List (List DW))(W:List (List Int))(A:List (List (List Int)))(st:List Int)(rt:Int):Prop where
 shW:ShW ns.length os W
 shA:ShA ns.length os A
 shS:ShS ns.length st
 in16:HE rt
 st:∀i<ns.length,∀a,bt (st.getD i 0) a=true<->a<=cnt os i/\(∀nd∈VY t ns os i a,nd.1∈ns)/\(∀nd∈J3 t.2.2.1 t.2.1,ns[i]?=some nd.1->VX (os.getD i []) nd.2.1 a=true)/\
  (∀fz∈t.2.2.2.2.1,ns[i]?=some fz->oF (os.getD i []) (FB t.2.2.2.1 fz).1 a=true)
 wa:∀i<ns.length,∀a≤cnt os i,∀k,bt (wa W i a) k=true<->∃nd∈VY t ns os i a,ns[k]?=some nd.1
 al:∀i<ns.length,∀a≤cnt os i,∀j<ns.length,∀b,bt (al A i a j) b=true<->b<=cnt os j/\(∀nd∈VY t ns os i a,ns[j]?=some nd.1->VX (os.getD j []) nd.2.1 b=true)/\
  (∀nd∈VY t ns os j b,ns[i]?=some nd.1->VX (os.getD i []) nd.2.1 a=true)
 rt:∀i,bt rt i=true<->(∃nd∈J3 t.2.2.1 t.2.1,ns[i]?=some nd.1)\/∃fz∈t.2.2.2.2.1,ns[i]?=some fz
def ARR(t:FA)(ns:List DW):Prop:=(∀nd∈J3 t.2.2.1 t.2.1,nd.1∈ns)/\∀fz∈t.2.2.2.2.1,fz∈ns
noncomputable def A7W(t:FA):List (List DW):=(I3 t.1).map (ARG t)
inductive Reach (n:Nat) (os:List (List DW)) (W:List (List Int)) (rt:Int) (h:Nat->Nat->Prop):Nat->Prop
 |root {i:Nat}:bt rt i=true->Reach n os W rt h i
 |step {i a j:Nat}:Reach n os W rt h i->i<n->a<=cnt os i->h i a->bt (wa W i a) j=true->Reach n os W rt h j
theorem Reach.mono{n:Nat}{os:List (List DW)}{W:List (List Int)}{rt:Int}{h h':Nat->Nat->Prop}(hh:∀i<n,∀a,h i a->h' i a){j:Nat}(r:Reach n os W rt h j):Reach n os W rt h' j:=by
 induction r with
 |root h1=>exact .root h1
 |step _ h1 h2 h3 h4 ih=>exact .step ih h1 h2 (hh _ h1 _ h3) h4
section
variable{t:FA}{ns:List DW}{os:List (List DW)}{W:List (List Int)}{A:List (List (List Int))}{st:List Int}{rt:Int}(hF:Fy ns os)(hG:Good t ns os W A st rt)
include hF hG
structure Pass(P:Prop)(R:Nat->Prop)(o:Int)(g:Bool)(o':Int)(g':Bool):Prop where
 in16:HE o'
 le:o<=o'
 sub:∀k,bt o k=true->bt o' k=true
 snd:(∀k,bt o k=true->R k)->∀k,bt o' k=true->R k
 up:g'=true->g=true\/o<o'
 cl:g'=false->g=false/\o'=o/\P
omit hF hG in
theorem Pass.next{P P':Prop}{R:Nat->Prop}{o o1 o2:Int}{g g1 g2:Bool}(h1:Pass P R o g o1 g1)(h2:Pass P' R o1 g1 o2 g2):Pass (P/\(o1=o->P')) R o g o2 g2:=
 ⟨h2.in16,Int.le_trans h1.le h2.le,λk h=>h2.sub k (h1.sub k h),λh=>h2.snd (h1.snd h),
  λh=>(h2.up h).elim (λh=>(h1.up h).imp id λh=>Int.lt_of_lt_of_le h h2.le) λh=>.inr (Int.lt_of_le_of_lt h1.le h),
  λh=>by
   obtain⟨a1,a2,a3⟩:=h2.cl h;obtain⟨b1,b2,b3⟩:=h1.cl a1;exact⟨b1,a2.trans b2,b3,λ_=>a3⟩⟩
def PN(ns:List DW)(os:List (List DW))(W:List (List Int))(rt:Int)(h:Nat->Nat->Prop):Prop:=∀i<ns.length,h i 0\/Reach ns.length os W rt h i
include hF hG
structure Tk(n:Nat)(A:List (List (List Int)))(left:List Int)(i a:Nat)(m:Nat)(o:List Int):Prop where
 sh:ShS n o
 bit:∀j<n,∀b,bt (o.getD j 0) b=true<->(if j=i then b=a else bt (left.getD j 0) b=true/\(j<m->bt (al A i a j) b=true))
end
section
variable(ns:List DW)(os:List (List DW))(W:List (List Int))(A:List (List (List Int)))(st:List Int)(rt:Int)
structure Val(p:List Nat):Prop where
 len:p.length=ns.length
 st:∀j<ns.length,bt (st.getD j 0) (p.getD j 0)=true
 al:∀j<ns.length,∀k<ns.length,k≠j->bt (al A k (p.getD k 0) j) (p.getD j 0)=true
 pn:PN ns os W rt (λi a=>p.getD i 0=a)
structure Dp(pre:List Nat)(left:List Int):Prop where
 sh:ShS ns.length left
 bit:∀j<ns.length,∀b,bt (left.getD j 0) b=true<->bt (st.getD j 0) b=true/\(j<pre.length->b=pre.getD j 0)/\∀k<pre.length,k≠j->bt (al A k (pre.getD k 0) j) b=true
end
section
variable{t:FA}{ns:List DW}{os:List (List DW)}{W:List (List Int)}{A:List (List (List Int))}{st:List Int}{rt:Int}(hF:Fy ns os)(hG:Good t ns os W A st rt)
include hG
include hF in
include hF in
include hF hG
end
section
variable{α:Type}{f:α->DW}
theorem ARS{l:List α}(h:l.Pairwise λa b=>f a<f b){a b:α}(ha:a∈l)(hb:b∈l)(e:f a=f b):a=b:=by
 obtain⟨i,hi,rfl⟩:=CY ha;obtain⟨j,hj,rfl⟩:=CY hb;rcases Nat.lt_trichotomy i j with h1|h1|h1
 .have:=BZ.1 h i j hi hj h1;rw[e]at this;exact absurd this (I8 _)
 .subst h1;rfl
 .have:=BZ.1 h j i hj hi h1;rw[e]at this;exact absurd this (I8 _)
theorem ART:∀{l l':List α},(l.Pairwise λa b=>f a<f b)->(l'.Pairwise λa b=>f a<f b)->(∀x,x∈l<->x∈l')->l=l':=by
 intro l;induction l with
 |nil=>
  intro l' _ _ h;exact(List.eq_nil_iff_forall_not_mem.2 λx hx=>by have:=(h x).2 hx;cases this).symm
 |cons a l ih=>
  intro l' h1 h2 h;cases l' with
  |nil=>have:=(h a).1 oc;cases this
  |cons b l'=>
   rw[List.pairwise_cons]at h1 h2
   have hab:a=b:=by
    rcases A_.1 ((h a).1 oc)with e|e
    .exact e
    rcases A_.1 ((h b).2 oc)with e'|e'
    .exact e'.symm
    exact absurd (ME (h1.1 _ e') (h2.1 _ e)) (I8 _)
   subst hab;rw[ih h1.2 h2.2 λx=>?_];constructor
   .intro hx;rcases A_.1 ((h x).1 (AD _ hx))with e|e
    .subst e;exact absurd (h1.1 _ hx) (I8 _)
    .exact e
   .intro hx;rcases A_.1 ((h x).2 (AD _ hx))with e|e
    .subst e;exact absurd (h2.1 _ hx) (I8 _)
    .exact e
end
theorem ARU{l:List EX}(h:l.Pairwise λa b=>a.1<b.1)(nm v:DW):FB l nm=(v,true)<->(nm,v)∈l:=by
 rcases VS l nm with⟨e,hn⟩|⟨v',e,hm⟩
 .rw[e];exact⟨λh=>by simp at h,λh=>absurd rfl (hn _ h)⟩
 .rw[e];constructor
  .intro h';have:v'=v:=congrArg Prod.fst h';subst this;exact hm
  .intro h';have:=ARS (f:=λp:EX=>p.1) h hm h' rfl;rw[show v'=v from congrArg Prod.snd this]
section
variable{t:FA}(ht:TkB t)(hR:RegOk t.1)
include ht hR
end
structure Of(ns:List DW)(os:List (List DW))(p:List Nat)(l:List EX):Prop where
 pin:∀j nm,ns[j]?=some nm->(p.getD j 0=0/\FB l nm=([],false))\/∃k v,p.getD j 0=k+1/\(os.getD j [])[k]?=some v/\FB l nm=(v,true)
 inn:∀nm,(FB l nm).2=true->nm∈ns
section
variable{t:FA}(ht:TkB t)(hR:RegOk t.1){W:List (List Int)}{A:List (List (List Int))}{st:List Int}{rt:Int}(hG:Good t (I3 t.1) (A7W t) W A st rt)(hH:ARR t (I3 t.1)){p:List Nat}{l:List EX}(hO:Of (I3 t.1) (A7W t) p l)
include hO
include ht hR hG hH
end
theorem VZ:V7 ()=some true:=oa
theorem ARV(a b:List EX)(hl:a.length<4611686018427387904):RU (a,b)=some (decide (a=b)):=by
 unfold RU;dsimp only;cases hc:E1 (a.length:Int) (b.length:Int)with
 |false=>
  rw[E0]at hc;have:=AO hc;rw[D7,AA,AE λe=>this (by rw[e])]
 |true=>
  rw[E0]at hc;have hlen:a.length=b.length:=by have:=A9 hc;omega
  rw[C0,AC]
  have:Tot (pF (a,b,(a.length:Int),(0:Int))) (λq=>match q with
   | .inl _=>a=b
   | .inr y=>y=false/\a≠b):=by
   refine GD (σ:=Unit) a.length (λ_ i=>(a,b,(a.length:Int),i)) (λm _=>a.take m=b.take m) hl (λnext _ i hi hs hn=>?_) (λnext _ hs=>?_) () oc
   .unfold pE;dsimp only;have hib:i<b.length:=o5
    rw[F8,A7 hi,AA,GC (A0 hi),A1,GC (A0 hib),A1,E3,E3,GK o5];refine DZ.2 ⟨λh=>DY.2 ⟨rfl,λe=>?_⟩,λh=>hn () ?_⟩
    .subst e;simp at h
    .have h:(decide (a[i].1=b[i].1)&&decide (a[i].2=b[i].2))=true:=by simpa using h
     rw[A4,AX,AX]at h;rw[GJ (A0 hi),GJ (A0 hib),hs,Prod.ext h.1 h.2]
   .unfold pE;dsimp only;rw[F8,AE (AH _),AC];rw[B3,hlen,B3]at hs;exact DY.2 hs
  obtain⟨q,h1,h2⟩:=this;rw[h1,A1];rcases q with y|y
  .dsimp only at h2 ⊢;rw[A7 h2]
  .dsimp only at h2 ⊢;rw[h2.1,AE h2.2]
theorem ARW(y l:List EX)(hl:l.length<=1048576):RU (y,l)=some (decide (y=l)):=by
 by_cases hyl:y.length<4611686018427387904
 .exact ARV _ _ hyl
 .unfold RU;dsimp only;have hne:y.length≠l.length:=o5
  rw[E0,AE o5,D7,AA,AE λe=>hne (by rw[e])]
abbrev wN(t:FA)(l:List GE):FA:=(t.1,(l,t.2.2))
def ARX(t:FA)(l:List GE):Prop:=∃k,LkOk k/\Right (wN t l) k
noncomputable instance decSolv(t:FA)(l:List GE):Decidable (ARX t l):=Classical.propDecidable _
section
variable{t:FA}(ht:TkB t)(hB:BB t.2.2.2.2.2.2)(hc:NT t=some 0)
include ht hB hc
end
end Go.Ev.Pv
