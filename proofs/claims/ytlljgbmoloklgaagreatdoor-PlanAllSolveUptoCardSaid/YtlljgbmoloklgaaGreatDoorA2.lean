/-
  The law as plain Lean, second part: the solver's tables, what it goes through, what is wrong with a lock.
-/
import Derived.Test.YtlljgbmoloklgaaGreatDoorD
import Derived.Test.YtlljgbmoloklgaaGreatDoorA1
import Derived.KernelRfl
set_option linter.unusedVariables false
set_option linter.unusedSimpArgs false
set_option linter.unusedSectionVars false
set_option maxRecDepth 100000
namespace Go.Ev.Pv
theorem J3{α:Type}{m:Option α}{v:α}(h:Tot m fun r=>r=v):m=some v:=let ⟨_,h1,h2⟩:=h;h2▸h1
theorem F_{X R σ:Type}{r:(X->Option R)->X->Option R}(n:Nat)(enc:σ->Int->X)(J:Nat->σ->Prop){Q:R->Prop}(hn:n<4611686018427387904)
 (hstep:∀next s (i:Nat),i<n->J i s->(∀s',J (i+1) s'->Tot (next (enc s' ((i:Int)+1))) Q)->Tot (r next (enc s (i:Int))) Q)
 (hend:∀next s,J n s->Tot (r next (enc s (n:Int))) Q)(s0:σ)(h0:J 0 s0):Tot (EI r fuel (enc s0 0)) Q:=by
 have key:∀(m i k:Nat) s,i+m=n->m<k->J i s->Tot (EI r k (enc s (i:Int))) Q:=by
  intro m;induction m with
  |zero=>
   intro i k s hi hk hj;cases k with
   |zero=>omega
   |succ k=>
    rw[show i=n by omega]at hj ⊢;exact hend _ s hj
  |succ m ih=>
   intro i k s hi hk hj;cases k with
   |zero=>omega
   |succ k=>
    refine hstep _ s i (by omega) hj fun s' hs'=>?_;have:=ih (i+1) k s' (by omega) (by omega) hs';rwa[show((i+1:Nat):Int)=(i:Int)+1 by omega]at this
 have:=key n 0 fuel s0 (by omega) (by unfold fuel;omega) h0;exact this
theorem FR{i:Nat}(h:i<4611686018427387904):IntKind.i64.wrap ((i:Int)+1)=(i:Int)+1:=EY (by omega) (by omega)
theorem FK{α:Type}{l:List α}{i:Nat}{x:α}(h:l[i]?=some x):at? l (i:Int)=some x:=by
 unfold at?;rw[A6 (BJ i)];exact h
theorem H8{n i:Nat}(h:i<n):in? n (i:Int)=some ():=by
 unfold in?;rw[A6 (BJ i),A6 (by omega:(i:Int)<n)];rfl
theorem F7(i n:Nat):decide ((i:Int)<(n:Int))=decide (i<n):=by
 by_cases h:i<n
 ·rw[A6 h,A6 (by omega)]
 ·rw[A9 h,A9 (by omega)]
def FV(s:Int):Prop:=0<=s/\s<65536
def bt(s:Int)(i:Nat):Bool:=s.toNat.testBit i
theorem RT{n:Nat}(h:n<65536):FV (n:Int):=⟨by omega,by omega⟩
theorem RU{n:Nat}(h:n<65536):IntKind.u16.wrap (n:Int)=n:=by
 simp only[IntKind.wrap,IntKind.bits,IntKind.signed];simp;omega
theorem N7{s:Int}(h:FV s):(BitVec.ofInt 16 s).toNat=s.toNat:=by
 obtain⟨h0,h1⟩:=h;rw[BitVec.toNat_ofInt];omega
theorem A5S{s:Int}(h:FV s){i:Nat}(hi:16<=i):bt s i=false:=by
 unfold bt;apply Nat.testBit_lt_two_pow;have:2 ^ 16<=2 ^ i:=DD (by decide) hi;have h1:=h.2;have h0:=h.1;omega
theorem dP{a b:Int}(ha:FV a)(hb:FV b)(h:∀i,bt a i=bt b i):a=b:=by
 have:a.toNat=b.toNat:=Nat.eq_of_testBit_eq h;have:=ha.1;have:=hb.1;omega
theorem dQ{a b:Int}(ha:FV a)(hb:FV b):FV (HB IntKind.u16 a b)/\∀i,bt (HB IntKind.u16 a b) i=(bt a i||bt b i):=by
 have e:HB IntKind.u16 a b=((a.toNat|||b.toNat:Nat):Int):=by
  unfold HB;rw[show IntKind.u16.bits=16 from rfl,BitVec.toNat_or,N7 ha,N7 hb];exact RU (Nat.or_lt_two_pow (n:=16) (by have:=ha.2;omega) (by have:=hb.2;omega))
 rw[e];refine⟨RT (Nat.or_lt_two_pow (n:=16) (by have:=ha.2;omega) (by have:=hb.2;omega)),fun i=>?_⟩;simp[bt,Nat.testBit_or]
theorem RV{a b:Int}(ha:FV a)(hb:FV b):FV (I7 IntKind.u16 a b)/\∀i,bt (I7 IntKind.u16 a b) i=(bt a i&&bt b i):=by
 have e:I7 IntKind.u16 a b=((a.toNat &&& b.toNat:Nat):Int):=by
  unfold I7;rw[show IntKind.u16.bits=16 from rfl,BitVec.toNat_and,N7 ha,N7 hb];exact RU (Nat.and_lt_two_pow (n:=16) _ (by have:=hb.2;omega))
 rw[e];refine⟨RT (Nat.and_lt_two_pow (n:=16) _ (by have:=hb.2;omega)),fun i=>?_⟩;simp[bt,Nat.testBit_and]
theorem A5T{a b:Int}(ha:FV a)(hb:FV b):FV (MC IntKind.u16 a b)/\∀i,bt (MC IntKind.u16 a b) i=(bt a i && !bt b i):=by
 have hlt:(BitVec.ofInt 16 a &&& ~~~BitVec.ofInt 16 b).toNat<65536:=(BitVec.ofInt 16 a &&& ~~~BitVec.ofInt 16 b).isLt;have e:MC IntKind.u16 a b=((BitVec.ofInt 16 a &&& ~~~BitVec.ofInt 16 b).toNat:Int):=RU hlt;rw[e];refine⟨RT hlt,fun i=>?_⟩;unfold bt;rw[B6,<-BitVec.getLsbD,BitVec.getLsbD_and];by_cases hi:i<16
 ·rw[BitVec.getLsbD_not,A6 hi];unfold BitVec.getLsbD;rw[N7 ha,N7 hb];rfl
 ·have h1:=A5S ha (i:=i) (by omega);unfold bt at h1;rw[h1];unfold BitVec.getLsbD;rw[N7 ha,h1];rfl
theorem IQ{i:Nat}(h:i<=15):shl? IntKind.u16 (1:Int) (i:Int)=some ((2 ^ i:Nat):Int)/\FV ((2 ^ i:Nat):Int):=by
 have hp:2 ^ i<65536:=Nat.lt_of_le_of_lt (DD (by decide) h) (by decide:2 ^ 15<65536);refine⟨?_,RT hp⟩;unfold shl?
 rw [A9 (by omega),show min (i:Int).toNat IntKind.u16.bits=i by
  show min (i:Int).toNat 16=i;omega]
 show some _=_
 congr 1
 rw[Int.one_mul];have:=RU hp;rw[show(((2 ^ i:Nat)):Int)=(2:Int) ^ i by simp]at this ⊢;exact this
theorem KV(i j:Nat):bt ((2 ^ i:Nat):Int) j=decide (i=j):=by
 unfold bt;rw[B6,Nat.testBit_two_pow]
theorem qS{n:Nat}(h:n<=15):UQ (n:Int)=some ((2 ^ n-1:Nat):Int)/\FV ((2 ^ n-1:Nat):Int):=by
 have hp:2 ^ n<65536:=Nat.lt_of_le_of_lt (DD (by decide) h) (by decide:2 ^ 15<65536);have h0:0<2 ^ n:=Nat.pow_pos (by decide);refine⟨?_,RT (by omega)⟩;unfold UQ;rw[(IQ h).1];show some _=_
 congr 1
 have:=RU (n:=2 ^ n-1) (by omega);rwa[show((2 ^ n-1:Nat):Int)=((2 ^ n:Nat):Int)-1 by omega]at this ⊢
theorem A5U(n j:Nat):bt ((2 ^ n-1:Nat):Int) j=decide (j<n):=by
 unfold bt;rw[B6,Nat.testBit_two_pow_sub_one]
theorem P5(j:Nat):bt 0 j=false:=by simp[bt]
theorem NV:FV 0:=⟨by decide,by decide⟩
theorem P6{s:Int}(h:FV s)(i:Nat):LY (s,(i:Int))=some (bt s i):=by
 obtain⟨h0,h1⟩:=h;unfold LY shr?;dsimp only;rw[A9 (by omega)];show some _=_
 congr 1
 have hs:s=((s.toNat:Nat):Int):=by omega
 have hq:s.fdiv (2 ^ min (i:Int).toNat IntKind.u16.bits)=((s.toNat / 2 ^ min i 16:Nat):Int):=by
  rw[show(min (i:Int).toNat IntKind.u16.bits)=min i 16 from by show min (i:Int).toNat 16=_;omega];rw[DP _ (by exact Int.pow_nonneg (by decide))];conv=>lhs;rw[hs]
  simp
 rw[hq];have hlt:s.toNat / 2 ^ min i 16<65536:=Nat.lt_of_le_of_lt (Nat.div_le_self _ _) (by omega);have ha:=RV (RT hlt) (b:=1) ⟨by decide,by decide⟩
 have e:bt s i=(s.toNat / 2 ^ min i 16).testBit 0:=by
  rcases C4 i 16 with hi|hi
  ·rw[DY (by omega),Nat.testBit_div_two_pow];simp[bt]
  ·rw[A5S ⟨h0,h1⟩ hi,Nat.min_eq_right hi,Nat.div_eq_of_lt (by omega)];rfl
 have hb:∀j,bt (I7 IntKind.u16 ((s.toNat / 2 ^ min i 16:Nat):Int) 1) j=(bt s i&&decide (j=0)):=by
  intro j;rw[ha.2 j]
  have:bt 1 j=decide (j=0):=by
   have:=KV 0 j;simp only[Nat.pow_zero]at this;rw[show((1:Nat):Int)=1 from rfl]at this;rw[this];by_cases hj:j=0<;>simp[hj,eq_comm]
  rw[this];by_cases hj:j=0
  ·subst hj;rw[e];unfold bt;rw[B6];first|done|simp
  ·simp[hj]
 rw[E2];cases hbi:bt s i with
 |true=>
  apply A6;refine dP ha.1 ⟨by decide,by decide⟩ fun j=>?_;rw[hb,hbi];have:=KV 0 j;simp only[Nat.pow_zero]at this;rw[show((1:Nat):Int)=1 from rfl]at this;rw[this];by_cases hj:j=0<;>simp[hj,eq_comm]
 |false=>
  apply A9;intro he;have h2:=hb 0;rw[he,hbi]at h2;revert h2;decide
theorem qT{s:Int}(h:FV s):E4 s 0=false<->∃i,bt s i=true:=by
 rw[E2];constructor
 ·intro hs;apply C2;intro hn
  have:s=0:=dP h NV fun i=>by
   rw[P5];cases hb:bt s i with
   |false=>rfl
   |true=>exact absurd ⟨i,hb⟩ hn
  exact AG hs this
 ·rintro⟨i,hi⟩;apply A9;rintro rfl;rw[P5]at hi;cases hi
abbrev FW:=DZ×(Int×List ((Bool×Bool×DZ)×(Bool×Bool×DZ)))×Int
abbrev GJ:=DZ×DZ×List FW×Bool
abbrev FC:=DZ×DZ
abbrev ANZ:=Int×(List (DZ×(List DZ)×DZ×Int×Bool×DZ×(List (DZ×Int×(List (Int×DZ))×(List DZ)×(List DZ)))))×(List Int)
abbrev FG:=List GJ×List FW×Int×List FC×List DZ×Bool×ANZ
abbrev VE:=FG×List DZ×List (List DZ)×List (List Int)×List (List (List Int))×List Int×Int
theorem A5V{α:Type}{p:α->Bool}{s:List α}{x:α}(h:p x=true):s++[x]=s++[x].filter p:=by simp[h]
theorem A5W{α:Type}{p:α->Bool}{s:List α}{x:α}(h:p x=false):s=s++[x].filter p:=by simp[h]
def IG{α:Type}(p:α->Bool)(l:List α):Int:=match l.findIdx? p with
 |some i=>i
 |none=>-1
theorem dR{α:Type}{p:α->Bool}{l:List α}{i:Nat}{x:α}(h:l[i]?=some x)(hp:p x=true)(hn:∀y∈l.take i,p y=false):IG p l=i:=by
 have:l.findIdx? p=some i:=by
  rw[List.findIdx?_eq_some_iff_getElem];obtain⟨hi,hx⟩:=AC.1 h;refine⟨hi,by rw[hx];exact hp,fun j hj=>?_⟩;have:=hn l[j] (CB.2 ⟨j,by omega,rfl⟩);simp[this]
 unfold IG;rw[this]
theorem qU{α:Type}{p:α->Bool}{l:List α}(hn:∀y∈l,p y=false):IG p l= -1:=by
 have:l.findIdx? p=none:=by
  rw[List.findIdx?_eq_none_iff];exact hn
 unfold IG;rw[this]
theorem M6{α:Type}(p:α->Bool)(l:List α):(IG p l= -1/\∀y∈l,p y=false)\/∃(i:Nat) (x:α),IG p l=i/\l[i]?=some x/\p x=true/\∀(j:Nat) (y:α),j<i->l[j]?=some y->p y=false:=by
 cases h:l.findIdx? p with
 |none=>
  left;refine⟨?_,List.findIdx?_eq_none_iff.1 h⟩;unfold IG;rw[h]
 |some i=>
  right;rw[List.findIdx?_eq_some_iff_getElem]at h;obtain⟨hi,hp,hn⟩:=h;refine⟨i,l[i],?_,A0 hi,hp,fun j y hj hy=>?_⟩
  ·refine dR (A0 hi) hp fun y hy=>?_;obtain⟨j,hj,rfl⟩:=CB.1 hy;have:=hn j (by omega);simpa using this
  ·obtain⟨hj',rfl⟩:=AC.1 hy;have:=hn j hj;simpa using this
theorem AN_(v:DZ)(l:List DZ):IG (fun x=>decide (v=x)) l<0<->v ∉ l:=by
 rcases M6 (fun x=>decide (v=x)) l with⟨h1,h2⟩|⟨i,x,h1,h2,h3,_⟩
 ·rw[h1];refine⟨fun _ h=>?_,fun _=>by decide⟩;have:=h2 v h;simp at this
 ·rw[h1];have:v=x:=A8 h3;subst this;refine⟨fun h=>by omega,fun h=>absurd (AX h2) h⟩
theorem RW(l:List DZ)(v:DZ)(hl:l.length<4611686018427387904):MQ (l,v)=some (IG (fun x=>decide (v=x)) l):=by
 unfold MQ;dsimp only
 have:Tot (ZV (l,v,(l.length:Int),(0:Int))) (fun q=>(match q with| .inl _=>-1| .inr y=>y)=IG (fun x=>decide (v=x)) l):=by
  refine F_ (σ:=Unit) l.length (fun _ i=>(l,v,(l.length:Int),i)) (fun i _=>∀y∈l.take i,decide (v=y)=false) hl (fun next _ i hi hj hn=>?_) (fun next _ hj=>?_) () (by simp)
  ·unfold ZU;dsimp only;rw[F7,A6 hi,AB,FK (A0 hi),A1];refine E1.2 ⟨fun h=>E0.2 ?_,fun h=>?_⟩
   ·exact(dR (A0 hi) (by rwa[E6]at h) hj).symm
   ·rw[FR (by omega)];refine hn () ?_;intro y hy;rw[GN (A0 hi),AQ,AR]at hy;rcases hy with hy|rfl
    ·exact hj y hy
    ·rwa[E6]at h
  ·unfold ZU;dsimp only;rw[F7,A9 (AI _),AD];exact E0.2 (qU (by rwa[B5]at hj)).symm
 obtain⟨q,h1,h2⟩:=this;rw[h1,A1];rcases q with y|y<;>· dsimp only at h2 ⊢;rw[<-h2]
theorem ANa(l:List FC)(f:FC->Option Bool)(p:FC->Bool)(hf:∀x,f x=some (p x))(hl:l.length<4611686018427387904):aC (l,f)=some (IG p l):=by
 unfold aC;dsimp only
 have:Tot (kV (l,f,(l.length:Int),(0:Int))) (fun q=>(match q with| .inl _=>-1| .inr y=>y)=IG p l):=by
  refine F_ (σ:=Unit) l.length (fun _ i=>(l,f,(l.length:Int),i)) (fun i _=>∀y∈l.take i,p y=false) hl (fun next _ i hi hj hn=>?_) (fun next _ hj=>?_) () (by simp)
  ·unfold kU;dsimp only;rw[F7,A6 hi,AB,FK (A0 hi),A1,hf,A1];refine E1.2 ⟨fun h=>E0.2 ?_,fun h=>?_⟩
   ·exact(dR (A0 hi) h hj).symm
   ·rw[FR (by omega)];refine hn () ?_;intro y hy;rw[GN (A0 hi),AQ,AR]at hy;rcases hy with hy|rfl
    ·exact hj y hy
    ·exact h
  ·unfold kU;dsimp only;rw[F7,A9 (AI _),AD];exact E0.2 (qU (by rwa[B5]at hj)).symm
 obtain⟨q,h1,h2⟩:=this;rw[h1,A1];rcases q with y|y<;>· dsimp only at h2 ⊢;rw[<-h2]
theorem ANb(l:List FW)(f:FW->Option Bool)(p:FW->Bool)(hf:∀x,f x=some (p x))(hl:l.length<4611686018427387904):ZY (l,f)=some (IG p l):=by
 unfold ZY;dsimp only
 have:Tot (kQ (l,f,(l.length:Int),(0:Int))) (fun q=>(match q with| .inl _=>-1| .inr y=>y)=IG p l):=by
  refine F_ (σ:=Unit) l.length (fun _ i=>(l,f,(l.length:Int),i)) (fun i _=>∀y∈l.take i,p y=false) hl (fun next _ i hi hj hn=>?_) (fun next _ hj=>?_) () (by simp)
  ·unfold kP;dsimp only;rw[F7,A6 hi,AB,FK (A0 hi),A1,hf,A1];refine E1.2 ⟨fun h=>E0.2 ?_,fun h=>?_⟩
   ·exact(dR (A0 hi) h hj).symm
   ·rw[FR (by omega)];refine hn () ?_;intro y hy;rw[GN (A0 hi),AQ,AR]at hy;rcases hy with hy|rfl
    ·exact hj y hy
    ·exact h
  ·unfold kP;dsimp only;rw[F7,A9 (AI _),AD];exact E0.2 (qU (by rwa[B5]at hj)).symm
 obtain⟨q,h1,h2⟩:=this;rw[h1,A1];rcases q with y|y<;>· dsimp only at h2 ⊢;rw[<-h2]
def FD(l:List FC)(name:DZ):DZ×Bool:=match l.find? (fun p=>decide (p.1=name))with
 |some p=>(p.2,true)
 |none=>([],false)
theorem NW(l:List FC)(name:DZ):(FD l name=([],false)/\∀p∈l,p.1≠name)\/∃v,FD l name=(v,true)/\(name,v)∈l:=by
 unfold FD;cases h:l.find? (fun p=>decide (p.1=name))with
 |none=>exact .inl ⟨rfl,fun p hp=>by have:=List.find?_eq_none.1 h p hp;simpa using this⟩
 |some p=>
  have h1:=List.find?_some h;have h2:=DE h;have h1:p.1=name:=by simpa using h1
  exact .inr ⟨p.2,rfl,by rw[<-h1];exact h2⟩
theorem P7(l:List FC)(name:DZ)(hl:l.length<4611686018427387904):M1 (l,name)=some (FD l name):=by
 unfold M1;dsimp only;rw[ANa l _ (fun p=>decide (p.1=name)) (fun x=>by unfold kT;dsimp only;rw[A1,A1,E6]) hl,A1];unfold FD;rcases M6 (fun p:FC=>decide (p.1=name)) l with⟨h1,h2⟩|⟨i,x,h1,h2,h3,h4⟩
 ·rw[h1,List.find?_eq_none.2 fun p hp=>by simp[h2 p hp]];rfl
 ·rw[h1,A9 (by omega),AD,FK h2,A1]
  have:l.find? (fun p=>decide (p.1=name))=some x:=by
   rw[List.find?_eq_some_iff_getElem];obtain⟨hi,hx⟩:=AC.1 h2;refine⟨h3,i,hi,hx,fun j hj=>?_⟩;have:=h4 j l[j] hj (A0 (by omega));simpa using this
  rw[this]
theorem ANc(l:List GJ)(name:DZ)(hl:l.length<=1048576):bI (l,name)=some (l.filter fun o=>decide (o.1=name)):=by
 unfold bI;dsimp only
 have:Tot (m7 (name,[],l,(l.length:Int),(0:Int))) (fun q=>q=l.filter fun o=>decide (o.1=name)):=by
  refine F_ (σ:=List GJ) l.length (fun s i=>(name,s,l,(l.length:Int),i)) (fun i s=>s=(l.take i).filter fun o=>decide (o.1=name)) (by omega) (fun next s i hi hj hn=>?_) (fun next s hj=>?_) [] (by simp)
  ·unfold m6;dsimp only;rw[F7,A6 hi,AB,FK (A0 hi),A1,FR (by omega)];have hle:s.length<=i:=by rw[hj];exact A_ (BN _ _) (by rw[B4];omega)
   refine E1.2 ⟨fun h=>D_.2 (FZ.2 ⟨by simp only[AE,AL];omega,?_⟩),fun h=>?_⟩
   ·refine hn _ ?_;rw[GN (A0 hi),D2,<-hj];rw[E6]at h;exact A5V h
   ·refine hn _ ?_;rw[GN (A0 hi),D2,<-hj];rw[E6]at h;exact A5W h
  ·unfold m6;dsimp only;rw[F7,A9 (AI _),AD];exact E0.2 (by rw[hj,B5])
 rw[J3 this];rfl
def IR(sc:Int)(l:List FW):List FW:=l.filter fun n=>decide (n.2.2<=sc)
theorem dS(t:FG)(l:List FW)(hl:l.length<=1048576):OT (t,l)=some (IR t.2.2.1 l):=by
 unfold OT;dsimp only
 have:Tot (mH (t,[],l,(l.length:Int),(0:Int))) (fun q=>q=IR t.2.2.1 l):=by
  refine F_ (σ:=List FW) l.length (fun s i=>(t,s,l,(l.length:Int),i)) (fun i s=>s=IR t.2.2.1 (l.take i)) (by omega) (fun next s i hi hj hn=>?_) (fun next s hj=>?_) [] (by simp[IR])
  ·unfold mG;dsimp only;rw[F7,A6 hi,AB,FK (A0 hi),A1,FR (by omega)];have hle:s.length<=i:=by rw[hj];exact A_ (BN _ _) (by rw[B4];omega)
   refine E1.2 ⟨fun h=>D_.2 (FZ.2 ⟨by simp only[AE,AL];omega,?_⟩),fun h=>?_⟩
   ·refine hn _ ?_;unfold IR at hj ⊢;rw[GN (A0 hi),D2,<-hj];exact A5V h
   ·refine hn _ ?_;unfold IR at hj ⊢;rw[GN (A0 hi),D2,<-hj];exact A5W h
  ·unfold mG;dsimp only;rw[F7,A9 (AI _),AD];exact E0.2 (by rw[hj,B5])
 rw[J3 this];rfl
def HH(t:FG)(p:FC):List FW:=match t.1.find? (fun o=>decide (o.1=p.1)&&decide (o.2.1=p.2))with
 |some o=>IR t.2.2.1 o.2.2.1
 |none=>[]
theorem qV(t:FG)(p:FC)(hl:t.1.length<=1048576)(ho:∀o∈t.1,o.2.2.1.length<=1048576):RE (t,p)=some (HH t p):=by
 unfold RE;dsimp only
 have:Tot (mJ (t,p,t.1,(t.1.length:Int),(0:Int))) (fun q=>(match q with| .inl _=>[]| .inr y=>y)=HH t p):=by
  refine F_ (σ:=Unit) t.1.length (fun s i=>(t,p,t.1,(t.1.length:Int),i)) (fun i s=>∀o∈t.1.take i,(decide (o.1=p.1)&&decide (o.2.1=p.2))=false) (by omega) (fun next s i hi hj hn=>?_) (fun next s hj=>?_) () (by simp)
  ·unfold mI;dsimp only;rw[F7,A6 hi,AB,FK (A0 hi),A1,FR (by omega),E6,E6];refine E1.2 ⟨fun h=>?_,fun h=>?_⟩
   ·rw[dS _ _ (ho _ (B9 hi)),A1];refine E0.2 ?_;unfold HH
    have:t.1.find? (fun o=>decide (o.1=p.1)&&decide (o.2.1=p.2))=some t.1[i]:=by
     rw[List.find?_eq_some_iff_getElem];refine⟨h,i,hi,rfl,fun j hj'=>?_⟩;have:=hj t.1[j] (CB.2 ⟨j,by omega,rfl⟩);simp only[this,CW]
    rw[this]
   ·refine hn () ?_;intro o ho';rw[GN (A0 hi),AQ,AR]at ho';rcases ho' with ho'|rfl
    ·exact hj o ho'
    ·exact h
  ·unfold mI;dsimp only;rw[F7,A9 (AI _),AD];refine E0.2 ?_;unfold HH;rw[B5]at hj;rw[List.find?_eq_none.2 fun o ho'=>by rw[hj o ho'];exact Bool.false_ne_true]
 obtain⟨q,h1,h2⟩:=this;rw[h1,A1];rcases q with y|y<;>· dsimp only at h2 ⊢;rw[<-h2]
theorem ANd{k:Int}{w:DZ}{v:Vr}(h:IL (k,w)=some (v,0)):w.length<=100:=by
 apply C2;intro hn;have hd:decide ((100:Int)<(w.length:Int))=true:=A6 (by omega);unfold IL at h;dsimp only at h;rw[hd,Bool.or_true,AB]at h;cases hk:(decide (k<(1:Int)))||(decide ((5:Int)<k))with
 |true=>rw[hk]at h;cases h
 |false=>rw[hk]at h;cases h
theorem A5X(x:Int×(Bool×Bool×(List UInt8)))(h:x.2.2.2.length<=1048576):Tot (MT x) (fun r:(List UInt8)×Int=>r.2=0->x.2.2.2.length<=100):=by
 unfold MT;refine E1.2 ⟨fun _=>E1.2 ⟨fun _=>E0.2 (by simp),fun hb=>E0.2 fun _=>?_⟩,fun _=>?_⟩
 ·have:=(BM.1 hb).2;rw[E6]at this;have:x.2.2.2=[]:=by simpa using this
  rw[this];simp
 obtain⟨r1,e1,h1⟩:=NU (x.1,x.2.2.2) h;rw[e1];refine D_.2 (E0.2 ?_);refine E1.2 ⟨fun he=>E0.2 fun h0=>(by dsimp only at h0;rw[h0]at he;cases he),fun he=>?_⟩;have h0:r1.2=0:=by rw[E2]at he;simpa using he
 have hv:=h1 h0;have hlen:x.2.2.2.length<=100:=ANd (v:=r1.1) (by rw[<-h0];exact e1);revert hv;generalize r1.1=v;intro hv;refine D_.2 (Tot.mono (P:=fun r:List UInt8=>r.length<=10000000) ?_ fun r2 hr=>?_)
 ·rcases v with x|x|x|x|x|x
  ·exact D_.2 ((qK _ hv).mono fun _ h=>E0.2 (by omega))
  ·exact D_.2 ((qL _ hv).mono fun _ h=>E0.2 (by omega))
  ·exact D_.2 ((qM _ hv).mono fun _ h=>E0.2 (by omega))
  ·exact D_.2 ((qN _ hv).mono fun _ h=>E0.2 (by omega))
  ·exact D_.2 ((qO _ trivial).mono fun _ h=>E0.2 (by omega))
  ·exact hv.elim
 refine E1.2 ⟨fun _=>E0.2 fun _=>hlen,fun _=>?_⟩;refine D_.2 (Tot.mono (P:=fun r:List UInt8=>r.length<=10000000) ?_ fun r2 hr=>E0.2 fun _=>hlen)
 ·rcases v with x|x|x|x|x|x
  ·exact D_.2 ((dJ _ hv).mono fun _ h=>E0.2 (by omega))
  ·exact D_.2 ((dK _ hv).mono fun _ h=>E0.2 (by omega))
  ·exact D_.2 ((dL _ hv).mono fun _ h=>E0.2 (by omega))
  ·exact D_.2 ((dM _ hv).mono fun _ h=>E0.2 (by omega))
  ·exact D_.2 ((dN _ hv).mono fun _ h=>E0.2 (by omega))
  ·exact hv.elim
abbrev RX(s:RR):Prop:=s.1.2.2.length<=1048576/\s.2.2.2.length<=1048576
theorem ANe(r:Rg)(hr:∀s∈r.2,RX s)(hl:r.2.length<=200):
 Tot (kM (r,([]:List HG),r.2,(r.2.length:Int),0)) (fun q=>(∀y,q=.inl y->y.length<=200)/\∀y,q=.inr y->y.1=[]/\y.2≠0):=by
 refine F3 (R:=fun q:Sum (List HG) ((List HG)×Int)=>(∀y,q=.inl y->y.length<=200)/\∀y,q=.inr y->y.1=[]/\y.2≠0)
  (fun y:Rg×(List HG)×(List RR)×Int×Int=>y.1=r/\y.2.2.1=r.2/\y.2.2.2.1=r.2.length/\0<=y.2.2.2.2/\y.2.2.2.2<=r.2.length/\y.2.1.length<=y.2.2.2.2/\∀x∈y.2.1,H1 x)
  (fun y=>((r.2.length:Int)-y.2.2.2.2).toNat) ?_ _ _ ⟨rfl,rfl,rfl,B7 _,BJ _,by simp,by simp⟩ (by unfold fuel;dsimp only;omega)
 rintro next ⟨r',o,l',n,i⟩ hI hn
 dsimp only at hI hn;obtain⟨rfl,rfl,rfl,i0,i1,h5,h6⟩:=hI;unfold xQ;dsimp only;refine E1.2 ⟨fun hc=>?_,fun hc=>E0.2 ⟨fun y e=>?_,fun y e=>(by cases e)⟩⟩
 ·have hc:=A8 hc;rw[EY (n:=i+1) (by omega) (by omega),EY (n:=(o.length:Int)-1) (by omega) (by omega)];refine D_.2 (E_.2 ⟨⟨i0,hc⟩,fun s hx=>?_⟩);obtain⟨s1',s2'⟩:=hr s (N6 hx);refine D_.2 ((A5X _ (by dsimp only;omega)).mono fun c1 k1=>E1.2 ⟨fun he=>E0.2 ⟨fun y e=>(by cases e),fun y e=>?_⟩,fun hz1=>?_⟩)
  ·cases e;rw[E2]at he;exact⟨rfl,by simpa using he⟩
  refine D_.2 ((A5X _ (by dsimp only;omega)).mono fun c2 k2=>E1.2 ⟨fun he=>E0.2 ⟨fun y e=>(by cases e),fun y e=>?_⟩,fun hz2=>?_⟩)
  ·cases e;rw[E2]at he;exact⟨rfl,by simpa using he⟩
  have s1:s.1.2.2.length<=100:=k1 (by rw[E2]at hz1;simpa using hz1);have s2:s.2.2.2.length<=100:=k2 (by rw[E2]at hz2;simpa using hz2);refine D_.2 ((A5P _ s1).mono fun e1 he1=>D_.2 ((A5Q _ s2).mono fun e2 he2=>?_));refine D_.2 ((P3 _ trivial).mono fun r7 _=>?_);refine D_.2 (Tot.mono (P:=fun _=>True) (E1.2 ⟨fun hz=>?_,fun _=>E0.2 trivial⟩) fun y8 _=>?_)
  ·have hz:=A8 (D5.1 hz).2;exact E_.2 ⟨⟨by omega,by omega⟩,fun _ _=>trivial⟩
  refine D_.2 (Tot.mono (P:=fun _=>True) (E1.2 ⟨fun hz=>P3 _ trivial,fun _=>E0.2 trivial⟩) fun r9 _=>?_);refine E1.2 ⟨fun _=>E0.2 ⟨fun y e=>(by cases e),fun y e=>(by cases e;exact⟨rfl,by decide⟩)⟩,fun _=>?_⟩
  have hgo:Tot (next (r',o++[(e1,e2)],r'.2,(r'.2.length:Int),i+1)) (fun q:Sum (List HG) ((List HG)×Int)=>(∀y,q=.inl y->y.length<=200)/\∀y,q=.inr y->y.1=[]/\y.2≠0):=by
   refine hn _ ⟨rfl,rfl,rfl,by dsimp only;omega,by dsimp only;omega,?_,fun x hx=>?_⟩ (by dsimp only;omega)
   ·dsimp only;rw[A7];simp only[AE,AL];omega
   ·dsimp only at hx;rw[AQ]at hx;rcases hx with hx|hx
    ·exact h6 x hx
    ·cases AR.1 hx;exact⟨he1,he2⟩
  have hap:(o.length+1)*192<=70368744177664:=by omega
  refine E1.2 ⟨fun _=>?_,fun _=>D_.2 (FZ.2 ⟨hap,hgo⟩)⟩;refine D_.2 ((ANP s o ⟨s1,s2⟩ h6 (by omega)).mono fun r11 _=>E1.2 ⟨fun he=>E0.2 ⟨fun y e=>(by cases e),fun y e=>?_⟩,fun _=>D_.2 (FZ.2 ⟨hap,hgo⟩)⟩);cases e;rw[E2]at he;exact⟨rfl,by simpa using he⟩
 ·cases e;omega
theorem A5Y(r:Rg)(hr:∀s∈r.2,RX s):Tot (QY r) (fun q=>q.1.length<=200):=by
 unfold QY;refine E1.2 ⟨fun _=>E0.2 (by simp),fun _=>E1.2 ⟨fun _=>E0.2 (by simp),fun hc=>?_⟩⟩;have hc:=AG hc;refine D_.2 ((ANe r hr (by omega)).mono fun q hq=>?_);rcases q with y|y
 ·exact E0.2 (hq.1 y rfl)
 ·refine E0.2 ?_;rw[(hq.2 y rfl).1];simp
noncomputable def NX(r:Rg)(w:DZ):Bool:=((RG (r,w)).getD (false,0)).1
theorem A5Z(r:Rg)(w:DZ)(hr:∀s∈r.2,RX s)(hw:w.length<=1048576):Tot (RG (r,w)) (fun q=>q.1=NX r w):=by
 suffices h:∃q,RG (r,w)=some q by
  obtain⟨q,h⟩:=h;exact⟨q,h,by unfold NX;rw[h];rfl⟩
 show ∃q,((QY r).bind fun r1=>bif (!(E4 r1.2 (0:Int)))then some (false,r1.2)else(IL (r.1,w)).bind fun r2=>bif (!(E4 r2.2 (0:Int)))then some (false,r2.2)else(P4 r2.1).bind fun r3=>(RF (r1.1,r3)).bind fun r4=>some ((decide ((0:Int)<=r4)),(0:Int)))=some q;obtain⟨⟨L,e⟩,h1,h2⟩:=A5Y r hr;rw[h1,A1];dsimp only;cases he:!(E4 e 0)with
 |true=>exact⟨_,rfl⟩
 |false=>
  rw[AD];obtain⟨⟨v,e'⟩,h3,h4⟩:=NU (r.1,w) hw;rw[h3,A1];dsimp only;cases he':!(E4 e' 0)with
  |true=>exact⟨_,rfl⟩
  |false=>
   rw[AD];have h5:e'=0:=by rw[E2]at he';simpa using he'
   obtain⟨k,h6,_⟩:=A5R (h4 h5);obtain⟨n,h7,_⟩:=ANQ L k (by have:L.length<=200:=h2;omega);rw[h6,A1,h7];exact⟨_,rfl⟩
noncomputable def JR(name:DZ):Int×Bool:=(NN name).getD (0,false)
theorem qW(name:DZ)(h:name.length<=1048576):NN name=some (JR name):=by
 suffices hh:∃q,NN name=some q by
  obtain⟨q,hq⟩:=hh;unfold JR;rw[hq];rfl
 refine pX.1 ?_;unfold NN;refine D_.2 ((A5K name h).mono fun r1 h1=>E1.2 ⟨fun _=>E0.2 trivial,fun he=>?_⟩);have h0:r1.2.2=0:=by rw[E2]at he;simpa using he
 refine D_.2 ((A4y _ (h1 h0)).mono fun r2 _=>E1.2 ⟨fun _=>E0.2 trivial,fun _=>?_⟩);exact D_.2 ((qB _ trivial).mono fun r3 _=>E0.2 trivial)
noncomputable def qX(k:Int)(w:DZ):Bool:=((RD (k,w)).getD (false,0)).1
theorem ANf(l:List (Bool×DZ×Int))(f:(Bool×DZ×Int)->Option Bool)(hf:∀x,Tot (f x) fun _=>True)(hl:l.length<4611686018427387904):Tot (bJ (l,f)) fun _=>True:=by
 unfold bJ;dsimp only;refine D_.2 (Tot.mono (P:=fun _=>True) ?_ fun q _=>by rcases q with y|y<;>exact E0.2 trivial);refine F_ (σ:=Unit) l.length (fun _ i=>(l,f,(l.length:Int),i)) (fun i _=>True) hl (fun next _ i hi hj hn=>?_) (fun next _ hj=>?_) () trivial
 ·unfold m9;dsimp only;rw[F7,A6 hi,AB,FK (A0 hi),A1,FR (by omega)];refine D_.2 ((hf _).mono fun b _=>E1.2 ⟨fun h=>E0.2 trivial,fun h=>hn () trivial⟩)
 ·unfold m9;dsimp only;rw[F7,A9 (AI _),AD];exact E0.2 trivial
theorem ANg(k:Int)(w:DZ)(hw:w.length<=1048576):Tot (RD (k,w)) (fun q=>q.1=qX k w):=by
 suffices h:∃q,RD (k,w)=some q by
  obtain⟨q,h⟩:=h;exact⟨q,h,by unfold qX;rw[h];rfl⟩
 refine pX.1 ?_;unfold RD;dsimp only;refine D_.2 ((NU (k,w) hw).mono fun r h1=>E1.2 ⟨fun _=>E0.2 trivial,fun he=>?_⟩);have h0:r.2=0:=by rw[E2]at he;simpa using he
 have hv:=h1 h0;revert hv;generalize r.1=v;intro hv;refine D_.2 (Tot.mono (P:=fun _=>True) ?_ fun r2 hr=>E0.2 trivial);rcases v with x|x|x|x|x|x
 ·exact D_.2 (E0.2 (E0.2 trivial))
 ·refine D_.2 (Tot.mono (P:=fun _=>True) ?_ fun _ _=>E0.2 trivial);unfold m8;refine D_.2 ((P0 _ (by have:=hv;simp only[J2,P2]at this;dsimp only;omega)).mono fun r1 _=>?_);refine D_.2 (Tot.mono (P:=fun _=>True) (E1.2 ⟨fun _=>(P0 _ (by have:=hv;simp only[J2,P2]at this;dsimp only;omega)).mono fun _ _=>trivial,fun _=>E0.2 trivial⟩) fun _ _=>E0.2 trivial)
 ·exact D_.2 (E0.2 (E0.2 trivial))
 ·refine D_.2 (Tot.mono (P:=fun _=>True) ?_ fun _ _=>E0.2 trivial);unfold mC mA;dsimp only;refine D_.2 (D_.2 ((ANf x _ (fun y=>?_) (by have:=hv;simp only[J2,TS]at this;omega)).mono fun _ _=>E0.2 (E0.2 trivial)));unfold mB;exact D_.2 (D_.2 ((qP _ trivial).mono fun _ _=>E0.2 (E0.2 trivial)))
 ·exact D_.2 (E0.2 (E0.2 trivial))
 ·exact hv.elim
noncomputable def P8(t:FG)(name:DZ)(o:GJ):Bool:=((FD t.2.2.2.1 name).2&&decide (o.2.1=(FD t.2.2.2.1 name).1))||((!o.2.2.2)&&(t.2.2.2.2.2.1||(!qX (JR name).1 o.2.1)))
noncomputable def I5(t:FG)(name:DZ):List DZ:=((t.1.filter fun o=>decide (o.1=name)).filter (P8 t name)).map fun o=>o.2.1
def JS(n:FW):Prop:=n.1.length<=1048576/\∀s∈n.2.1.2,RX s
structure TkB(t:FG):Prop where
 offers:t.1.length<=1048576
 offer:∀o∈t.1,o.1.length<=1048576/\o.2.1.length<=1048576/\o.2.2.1.length<=1048576/\∀n∈o.2.2.1,JS n
 needs:t.2.1.length<=1048576
 need:∀n∈t.2.1,JS n
 old:t.2.2.2.1.length<=1048576
 pin:∀p∈t.2.2.2.1,p.1.length<=1048576/\p.2.length<=1048576
 frozen:t.2.2.2.2.1.length<=1048576
 name:∀s∈t.2.2.2.2.1,s.length<=1048576
theorem A5_(t:FG)(name:DZ)(ht:TkB t)(hn:name.length<=1048576):UP (t,name)=some (I5 t name):=by
 unfold UP;dsimp only;rw[P7 _ _ (by have:=ht.old;omega),A1,ANc _ _ ht.offers,A1];have hfl:(t.1.filter fun o=>decide (o.1=name)).length<=1048576:=A_ (BN _ _) ht.offers;have hfm:∀o∈(t.1.filter fun o=>decide (o.1=name)),o.2.1.length<=1048576:=fun o ho=>(ht.offer o (CD.1 ho).1).2.1;unfold I5;generalize (t.1.filter fun o=>decide (o.1=name))=l at hfl hfm ⊢
 have:Tot (mE (name,t,(FD t.2.2.2.1 name).1,(FD t.2.2.2.1 name).2,[],l,(l.length:Int),(0:Int))) (fun q=>q=(l.filter (P8 t name)).map fun o=>o.2.1):=by
  refine F_ (σ:=List DZ) l.length (fun s i=>(name,t,(FD t.2.2.2.1 name).1,(FD t.2.2.2.1 name).2,s,l,(l.length:Int),i)) (fun i s=>s=((l.take i).filter (P8 t name)).map fun o=>o.2.1) (by omega) (fun next s i hi hj hn=>?_) (fun next s hj=>?_) [] (by simp)
  ·unfold mD;dsimp only;rw[F7,A6 hi,AB,FK (A0 hi),A1,FR (by omega),qW _ (by assumption),A1];obtain⟨q,h1,h2⟩:=ANg (JR name).1 l[i].2.1 (hfm _ (B9 hi));rw[h1,A1,h2,E6];have hle:s.length<=i:=by rw[hj,AK];exact A_ (BN _ _) (by rw[B4];omega)
   refine E1.2 ⟨fun h=>D_.2 (FZ.2 ⟨by simp only[AE,AL];omega,?_⟩),fun h=>?_⟩
   ·refine hn _ ?_;rw[GN (A0 hi),D2,CM,<-hj];have h:P8 t name l[i]=true:=h;simp[h]
   ·refine hn _ ?_;rw[GN (A0 hi),D2,CM,<-hj];have h:P8 t name l[i]=false:=h;simp[h]
  ·unfold mD;dsimp only;rw[F7,A9 (AI _),AD];exact E0.2 (by rw[hj,B5])
 rw[J3 this];rfl
theorem ANh(l:List DZ)(hl:l.length<=1048576):bK l=some l.reverse:=by
 unfold bK;rw[EY (n:=(l.length:Int)-1) (by omega) (by omega)]
 have:Tot (mF (l,(0:Int),(l.length:Int)-1)) (fun q=>q=l.reverse):=by
  refine F3 (R:=fun q=>q=l.reverse) (fun y:List DZ×Int×Int=>y.1.length=l.length/\0<=y.2.1/\y.2.1+y.2.2=(l.length:Int)-1/\y.2.1<=l.length/\(l.length:Int)-1<=y.2.1+y.2.2/\y.2.1<=y.2.2+2/\∀k:Nat,k<l.length->y.1[k]?=if(k:Int)<y.2.1\/y.2.2<(k:Int)then l[l.length-1-k]? else l[k]?)
   (fun y=>(y.2.2-y.2.1+1).toNat) ?_ _ _ ⟨rfl,B7 _,by dsimp only;omega,by dsimp only;omega,by dsimp only;omega,by dsimp only;omega,fun k hk=>?_⟩ (by unfold fuel;dsimp only;omega)
  ·rintro next ⟨s,i,j⟩ hI hn
   dsimp only at hI hn;obtain⟨h1,h2,h3,h4,h5,h6,h7⟩:=hI;unfold y_;dsimp only;refine E1.2 ⟨fun hc=>?_,fun hc=>E0.2 ?_⟩
   ·have hc:=A8 hc;obtain⟨i,rfl⟩:=Int.eq_ofNat_of_zero_le h2;obtain⟨j,rfl⟩:=Int.eq_ofNat_of_zero_le (show 0<=j by omega);have hil:i<s.length:=by omega
    have hjl:j<s.length:=by omega
    rw[H8 hjl,A1,H8 hil,A1,A1,H8 (by rw[AF];exact hjl),A1];rw[EY (n:=(i:Int)+1) (by omega) (by omega),EY (n:=(j:Int)-1) (by omega) (by omega)];refine hn _ ⟨by dsimp only;rw[AF,AF];exact h1,by dsimp only;omega,by dsimp only;omega,by dsimp only;omega,by dsimp only;omega,by dsimp only;omega,fun k hk=>?_⟩ (by dsimp only;omega);dsimp only;rw[B6,B6,List.getElem?_set,List.getElem?_set,AF];have e1:=h7 j (by omega);have e2:=h7 i (by omega);rw[if_neg (by omega)]at e1 e2;by_cases hkj:j=k
    ·subst hkj;rw[if_pos rfl,if_pos hjl,if_pos (by omega),A2,e2];rw[show l.length-1-j=i by omega,A0 (by omega)];rfl
    ·rw[if_neg hkj];by_cases hki:i=k
     ·subst hki;rw[if_pos rfl,if_pos hil,if_pos (by omega),A2,e1];rw[show l.length-1-i=j by omega,A0 (by omega)];rfl
     ·rw[if_neg hki,h7 k hk];by_cases hh:(k:Int)<i\/(j:Int)<k
      ·rw[if_pos hh,if_pos (by omega)]
      ·rw[if_neg hh,if_neg (by omega)]
   ·have hc:=AG hc;apply BW;intro k;by_cases hk:k<l.length
    ·rw[h7 k hk,List.getElem?_reverse hk];by_cases hh:(k:Int)<i\/j<(k:Int)
     ·rw[if_pos hh]
     ·rw[if_neg hh,show l.length-1-k=k by omega]
    ·rw[B3 (by omega),B3 (by rw[DG];omega)]
  ·dsimp only;rw[if_neg (by omega)]
 rw[J3 this];rfl
def M7(l:List FC)(nd:FW):Prop:=(FD l nd.1).2=true/\NX nd.2.1 (FD l nd.1).1=true
def dT(l:List FC):Prop:=l.length<=12/\∀p∈l,p.1.length<=1048576/\p.2.length<=1048576
theorem ANi{l:List FC}(h:dT l)(name:DZ):(FD l name).1.length<=1048576:=by
 rcases NW l name with⟨e,_⟩|⟨v,e,hm⟩
 ·rw[e];decide
 ·rw[e];exact(h.2 _ hm).2
theorem VF{α:Type}{l:List α}{a:α}:l++[a]=[]<->False:=by simp
theorem A5a(l:List FC)(hl:dT l)(needs:List FW)(by':DZ)(hn:needs.length<=1048576)(hb:∀nd∈needs,JS nd):
 Tot (UV (l,needs,by')) (fun q=>q.length<=needs.length/\(q=[]<->∀nd∈needs,M7 l nd)):=by
 unfold UV;dsimp only;refine D_.2 (Tot.mono (P:=fun q=>q.length<=needs.length/\(q=[]<->∀nd∈needs,M7 l nd)) ?_ fun _ h=>E0.2 h);refine F_ (σ:=List (Int×DZ×DZ)) needs.length (fun s i=>(l,by',s,needs,(needs.length:Int),i)) (fun m s=>s.length<=m/\(s=[]<->∀nd∈needs.take m,M7 l nd)) (by omega) (fun next s i hi hs hnx=>?_) (fun next s hs=>?_) [] ⟨AJ _,by simp⟩
 ·obtain⟨hle,hs⟩:=hs;unfold nZ;dsimp only;have hl12:=hl.1;rw[F7,A6 hi,AB,FK (A0 hi),A1,P7 _ _ (by omega),A1,FR (by omega)];obtain⟨q,h1,h2⟩:=A5Z needs[i].2.1 (FD l needs[i].1).1 (hb _ (B9 hi)).2 (ANi hl _);rw[h1,A1,h2]
  have htk:∀P:FW->Prop,(∀nd∈needs.take (i+1),P nd)<->(∀nd∈needs.take i,P nd)/\P needs[i]:=by
   intro P;rw[GN (A0 hi)];constructor
   ·intro h;exact⟨fun nd hnd=>h nd (AP _ hnd),h _ (AT _ (AR.2 rfl))⟩
   ·rintro⟨h1,h2⟩ nd hnd;rw[AQ,AR]at hnd;rcases hnd with h|rfl
    ·exact h1 nd h
    ·exact h2
  refine E1.2 ⟨fun hc=>D_.2 (FZ.2 ⟨by simp only[AE,AL];omega,hnx _ ⟨by simp only[A7,AE,AL];omega,?_⟩⟩),fun hc=>E1.2 ⟨fun hd=>D_.2 (FZ.2 ⟨by simp only[AE,AL];omega,hnx _ ⟨by simp only[A7,AE,AL];omega,?_⟩⟩),fun hd=>hnx _ ⟨by omega,?_⟩⟩⟩
  ·rw[htk,VF];refine⟨False.elim,fun h=>?_⟩;have:=h.2.1;rw[this]at hc;cases hc
  ·rw[htk,VF];refine⟨False.elim,fun h=>?_⟩;have:=h.2.2;rw[this]at hd;cases hd
  ·rw[htk,<-hs];exact⟨fun h=>⟨h,by simpa using hc,by simpa using hd⟩,fun h=>h.1⟩
 ·unfold nZ;dsimp only;rw[F7,A9 (AI _),AD];rw[B5]at hs;exact E0.2 hs
def NY(t:FG):List DZ:=t.2.2.2.2.1++(IR t.2.2.1 t.2.1).map fun nd=>nd.1
inductive CR (t:FG) (l:List FC):DZ->Prop
 |root {s:DZ}:s∈NY t->(FD l s).2=true->CR t l s
 |step {s:DZ} {nd:FW}:CR t l s->nd∈HH t (s,(FD l s).1)->(FD l nd.1).2=true->CR t l nd.1
theorem CR.pinned{t:FG}{l:List FC}{s:DZ}(h:CR t l s):(FD l s).2=true:=by
 cases h with
 |root _ h=>exact h
 |step _ _ h=>exact h
theorem ANj(l:List FW)(s0:List DZ)(hl:l.length+s0.length<=100000000000):o7 (s0,l,(l.length:Int),0)=some (s0++l.map fun nd=>nd.1):=by
 refine J3 ?_;refine F_ (σ:=List DZ) l.length (fun s i=>(s,l,(l.length:Int),i)) (fun m s=>s=s0++(l.take m).map fun nd=>nd.1) (by omega) (fun next s i hi hs hn=>?_) (fun next s hs=>?_) s0 (by simp)
 ·unfold o6;dsimp only;have hsl:s.length<=s0.length+i:=by rw[hs,A7,AK,B4];omega
  rw[F7,A6 hi,AB,FK (A0 hi),A1,FR (by omega)];refine D_.2 (FZ.2 ⟨by simp only[AE,AL];omega,hn _ ?_⟩);rw[GN (A0 hi),CM,hs,BY];rfl
 ·unfold o6;dsimp only;rw[F7,A9 (AI _),AD];exact E0.2 (by rw[hs,B5])
theorem ANk(l:List FW)(s0:List DZ)(hl:l.length+s0.length<=100000000000):o5 (s0,l,(l.length:Int),0)=some (s0++l.map fun nd=>nd.1):=by
 refine J3 ?_;refine F_ (σ:=List DZ) l.length (fun s i=>(s,l,(l.length:Int),i)) (fun m s=>s=s0++(l.take m).map fun nd=>nd.1) (by omega) (fun next s i hi hs hn=>?_) (fun next s hs=>?_) s0 (by simp)
 ·unfold o4;dsimp only;have hsl:s.length<=s0.length+i:=by rw[hs,A7,AK,B4];omega
  rw[F7,A6 hi,AB,FK (A0 hi),A1,FR (by omega)];refine D_.2 (FZ.2 ⟨by simp only[AE,AL];omega,hn _ ?_⟩);rw[GN (A0 hi),CM,hs,BY];rfl
 ·unfold o4;dsimp only;rw[F7,A9 (AI _),AD];exact E0.2 (by rw[hs,B5])
theorem A5b{t:FG}(ht:TkB t)(p:FC):(HH t p).length<=1048576/\∀nd∈HH t p,JS nd:=by
 unfold HH;split
 ·rename_i o ho;have:=ht.offer o (DE ho);exact⟨A_ (BN _ _) this.2.2.1,fun nd h=>this.2.2.2 nd (CD.1 h).1⟩
 ·exact⟨BQ _,fun nd h=>by cases h⟩
def J4(m:List (DZ×Bool))(s:DZ):Bool:=(HL EN s m).getD false
theorem ANl{α:Type}{p q:α->Bool}{l:List α}(h:∀x∈l,q x=true->p x=true){a:α}(ha:a∈l)(h1:p a=true)(h2:q a=false):(l.filter q).length<(l.filter p).length:=by
 induction l with
 |nil=>cases ha
 |cons x l ih=>
  have hsub:(l.filter q).length<=(l.filter p).length:=by
   clear ih ha;induction l with
   |nil=>exact AJ _
   |cons y l ih2=>
    have:=ih2 fun z hz=>h z (by rw[B2]at hz ⊢;exact hz.imp id (AH _));simp only[List.filter_cons];cases hq:q y with
    |true=>rw[h y (by simp) hq];simpa using this
    |false=>cases hp:p y<;>simp<;>omega
  rw[B2]at ha;rcases ha with rfl|ha
  ·simp only[List.filter_cons,h1,h2];simp;omega
  ·have:=ih (fun z hz=>h z (AH _ hz)) ha;simp only[List.filter_cons];cases hq:q x with
   |true=>rw[h x (by simp) hq];simpa using this
   |false=>cases hp:p x<;>simp<;>omega
theorem A5c{f0 f1 tl nl:Nat}(h:f1<f0)(hs:f0*1048577+(tl+1)<=14680076)(hn:nl<=1048576):f1*1048577+(tl+nl)<=14680076/\f1*1048577+(tl+nl)<f0*1048577+(tl+1):=by omega
theorem ANm(t:FG)(ht:TkB t)(l:List FC)(hl:dT l):Tot (bY (t,l)) (fun m=>∀s,J4 m s=true<->CR t l s):=by
 have hl12:=hl.1;unfold bY;dsimp only;have hfr:=ht.frozen;have hnd:=ht.needs;have hcl:(IR t.2.2.1 t.2.1).length<=1048576:=A_ (BN _ _) hnd;rw[ANX hfr,A1,dS _ _ hnd,A1,ANk _ _ (by omega),A1];refine D_.2 (Tot.mono (P:=fun m=>∀s,J4 m s=true<->CR t l s) ?_ fun _ h=>E0.2 h);have hro:t.2.2.2.2.1++(IR t.2.2.1 t.2.1).map (fun nd=>nd.1)=NY t:=rfl;rw[hro];have hrl:(NY t).length<=2097152:=by unfold NY;rw[A7,AK];omega
 let free:List (DZ×Bool)->Nat:=fun m=>(l.filter fun p=>!J4 m p.1).length
 have hfree:∀m,free m<=12:=fun m=>A_ (BN _ _) hl12
 refine F3 (R:=fun m:List (DZ×Bool)=>∀s,J4 m s=true<->CR t l s)
  (fun y:(List FC)×FG×(List (DZ×Bool))×(List DZ)=>y.1=l/\y.2.1=t/\free y.2.2.1*1048577+y.2.2.2.length<=14680076 /\
   (∀s∈y.2.2.2,s∈NY t\/∃c nd,CR t l c/\nd∈HH t (c,(FD l c).1)/\nd.1=s)/\(∀s,J4 y.2.2.1 s=true->CR t l s)/\
   (∀s∈NY t,(FD l s).2=true->J4 y.2.2.1 s=true\/s∈y.2.2.2)/\
   (∀c nd,J4 y.2.2.1 c=true->nd∈HH t (c,(FD l c).1)->(FD l nd.1).2=true->J4 y.2.2.1 nd.1=true\/nd.1∈y.2.2.2))
  (fun y=>free y.2.2.1*1048577+y.2.2.2.length) ?_ _ _ ⟨rfl,rfl,by dsimp only;have:=hfree [];omega,fun s h=>.inl h,fun s h=>(by cases h),fun s h _=>.inr h,fun c nd h=>(by cases h)⟩
  (by unfold fuel;dsimp only;have:=hfree [];omega)
 rintro next ⟨l',t',m,todo⟩ hI hn
 dsimp only at hI hn;obtain⟨rfl,rfl,hsz,h1,h2,h3,h4⟩:=hI;unfold zF;dsimp only;refine E1.2 ⟨fun hc=>?_,fun hc=>?_⟩
 ·obtain⟨s,todo,rfl⟩:∃s r,todo=s::r:=by
   cases todo with
   |nil=>simp at hc
   |cons s r=>exact⟨s,r,rfl⟩
  have hgd:(s::todo).getD 0 []=s:=rfl;have hin:in? (s::todo).length 0=some ():=H8 (i:=0) (by simp);rw[hin,A1,hgd];refine D_.2 (H4.2 ⟨⟨by decide,by simp only[AE];omega,B7 _⟩,?_⟩)
  have hcut:((s::todo).take ((s::todo).length:Int).toNat).drop (1:Int).toNat=todo:=by
   rw[B6,B5];rfl
  rw[hcut,P7 _ _ (by omega),A1];simp only[AE]at hsz;refine E1.2 ⟨fun hp=>?_,fun hp=>?_⟩
  ·refine hn _ ⟨rfl,rfl,by dsimp only;omega,fun x hx=>h1 x (AH _ hx),h2,fun x hx hpx=>?_,fun c nd hc' hnd' hpn=>?_⟩ (by dsimp only;simp only[AE];omega)
   ·rcases h3 x hx hpx with h|h
    ·exact .inl h
    ·rw[B2]at h;rcases h with rfl|h
     ·left;rw[hpx,BU,CC]at hp;exact hp
     ·exact .inr h
   ·rcases h4 c nd hc' hnd' hpn with h|h
    ·exact .inl h
    ·rw[B2]at h;rcases h with h|h
     ·left;rw[<-h,hpn,BU,CC]at hp;exact hp
     ·exact .inr h
  ·have hp1:(FD l' s).2=true:=by have:=(BM.1 hp).1;simpa using this
   have hp2:J4 m s=false:=(BM.1 hp).2
   have hCs:CR t' l' s:=by
    rcases h1 s (AM)with h|⟨c,nd,g1,g2,g3⟩
    ·exact .root h hp1
    ·subst g3;exact .step g1 g2 hp1
   obtain⟨hnl,_⟩:=A5b ht (s,(FD l' s).1);rw[qV _ _ ht.offers (fun o ho=>(ht.offer o ho).2.2.1),A1,ANj _ _ (by omega),A1]
   have hK:∀x,J4 (GM EN s true m) x=(decide (x=s)||J4 m x):=fun x=>by
    unfold J4;rw[ANY];by_cases hx:x=s
    ·rw[if_pos hx,A6 hx];rfl
    ·rw[if_neg hx,A9 hx,CC]
   have hlt:free (GM EN s true m)<free m:=by
    rcases NW l' s with⟨e,_⟩|⟨v,e,hm⟩
    ·rw[e]at hp1;cases hp1
    ·refine ANl (fun p hp h=>?_) hm (by rw[hp2];rfl) (by rw[hK];simp);rw[hK]at h;cases hx:J4 m p.1 with
     |false=>rfl
     |true=>rw[hx]at h;simp at h
   clear_value free;refine hn _ ⟨rfl,rfl,?_,fun x hx=>?_,fun x hx=>?_,fun x hx hpx=>?_,fun c nd hc' hnd' hpn=>?_⟩ ?_
   ·dsimp only;rw[A7,AK];exact(A5c hlt hsz hnl).1
   ·rw[AQ,C3]at hx;rcases hx with hx|⟨nd,hx,rfl⟩
    ·exact h1 x (AH _ hx)
    ·exact .inr ⟨s,nd,hCs,hx,rfl⟩
   ·rw[hK,BF,AS]at hx;rcases hx with rfl|hx
    ·exact hCs
    ·exact h2 x hx
   ·rw[hK,BF,AS];rcases h3 x hx hpx with h|h
    ·exact .inl (.inr h)
    ·rw[B2]at h;rcases h with h|h
     ·exact .inl (.inl h)
     ·exact .inr (AP _ h)
   ·rw[hK,BF,AS]at hc' ⊢;rcases hc' with rfl|hc'
    ·exact .inr (AT _ (C3.2 ⟨nd,hnd',rfl⟩))
    ·rcases h4 c nd hc' hnd' hpn with h|h
     ·exact .inl (.inr h)
     ·rw[B2]at h;rcases h with h|h
      ·exact .inl (.inl h)
      ·exact .inr (AP _ h)
   ·dsimp only;rw[A7,AK];simp only[AE];exact(A5c hlt hsz hnl).2
 ·have hnil:todo=[]:=by
   have:=AG hc;exact CX.1 (by omega)
  subst hnil;refine E0.2 fun s=>⟨h2 s,fun h=>?_⟩;induction h with
  |root g1 g2=>exact(h3 _ g1 g2).elim id fun h=>by cases h
  |step _ g2 g3 ih=>exact(h4 _ _ ih g2 g3).elim id fun h=>by cases h
structure Right(t:FG)(l:List FC):Prop where
 needs:∀nd∈IR t.2.2.1 t.2.1,M7 l nd
 pins:∀p∈l,p.2∈I5 t p.1/\∀nd∈HH t p,M7 l nd
 more:∀p∈l,CR t l p.1
 frozen:∀s∈t.2.2.2.2.1,(FD l s).2=true/\(FD l s).1=(FD t.2.2.2.1 s).1
theorem ANn(l:List DZ)(v:DZ)(hl:l.length<4611686018427387904):Tot (OR (l,v)) (fun q=>q=true<->v∈l):=by
 unfold OR;dsimp only;rw[RW l v hl,A1];refine E0.2 ?_;rw[AS];have:=AN_ v l;constructor
 ·intro h;apply C2;intro hn;have:=this.2 hn;omega
 ·intro h;apply C2;intro hn;exact this.1 (by omega) h
theorem LK{α:Type}{l:List α}{i:Nat}(hi:i<l.length)(P:α->Prop):(∀x∈l.take (i+1),P x)<->(∀x∈l.take i,P x)/\P l[i]:=by
 rw[GN (A0 hi)];constructor
 ·intro h;exact⟨fun nd hnd=>h nd (AP _ hnd),h _ (AT _ (AR.2 rfl))⟩
 ·rintro⟨h1,h2⟩ nd hnd;rw[AQ,AR]at hnd;rcases hnd with h|rfl
  ·exact h1 nd h
  ·exact h2
theorem ANo(t:FG)(ht:TkB t)(l:List FC)(hl:dT l):Tot (bZ (t,l)) (fun q=>q=[]<->Right t l):=by
 have hl12:=hl.1;have hnd:=ht.needs;have hfr:=ht.frozen;unfold bZ;dsimp only;have hcl:(IR t.2.2.1 t.2.1).length<=1048576:=A_ (BN _ _) hnd;rw[dS _ _ hnd,A1];refine D_.2 ((A5a l hl (IR t.2.2.1 t.2.1) [] hcl (fun nd h=>ht.need nd (CD.1 h).1)).mono fun r2 h2=>?_);obtain⟨h2l,h2⟩:=h2
 have k1:Tot (o9 (l,t,r2,l,(l.length:Int),0)) (fun q=>q.1=t/\q.2.length<=14680076/\(q.2=[]<->r2=[]/\∀p∈l,p.2∈I5 t p.1/\∀nd∈HH t p,M7 l nd)):=by
  refine F_ (σ:=List (Int×DZ×DZ)) l.length (fun s i=>(l,t,s,l,(l.length:Int),i)) (fun m s=>s.length<=1048576+m*1048576/\(s=[]<->r2=[]/\∀p∈l.take m,p.2∈I5 t p.1/\∀nd∈HH t p,M7 l nd)) (by omega) (fun next s i hi hs hn=>?_) (fun next s hs=>?_) r2 ⟨by omega,by simp⟩
  ·obtain⟨hle,hs⟩:=hs;unfold o8;dsimp only;have hp:=hl.2 _ (B9 hi);rw[F7,A6 hi,AB,FK (A0 hi),A1,A5_ t _ ht hp.1,A1,FR (by omega)]
   have hchl:(I5 t l[i].1).length<=1048576:=by
    unfold I5;rw[AK];exact A_ (BN _ _) (A_ (BN _ _) ht.offers)
   refine D_.2 ((ANn (I5 t l[i].1) l[i].2 (by omega)).mono fun b hb=>E1.2 ⟨fun hc=>?_,fun hc=>?_⟩)
   ·refine D_.2 (FZ.2 ⟨by simp only[AE,AL];omega,hn _ ⟨by simp only[A7,AE,AL];omega,?_⟩⟩);rw[LK hi,VF];refine⟨False.elim,fun h=>?_⟩;have:=hb.2 h.2.2.1;rw[this]at hc;cases hc
   ·have hbt:b=true:=by simpa using hc
    obtain⟨n1,n2⟩:=A5b ht l[i];rw[qV _ _ ht.offers (fun o ho=>(ht.offer o ho).2.2.1),A1];refine D_.2 ((A5a l hl (HH t l[i]) l[i].1 n1 n2).mono fun r9 h9=>?_);obtain⟨h9l,h9⟩:=h9;refine D_.2 (FZ.2 ⟨by omega,hn _ ⟨by rw[A7];omega,?_⟩⟩);rw[LK hi,List.append_eq_nil_iff,hs,h9];exact⟨fun⟨⟨x,y⟩,z⟩=>⟨x,y,hb.1 hbt,z⟩,fun⟨x,y,_,z⟩=>⟨⟨x,y⟩,z⟩⟩
  ·obtain⟨hle,hs⟩:=hs;unfold o8;dsimp only;rw[F7,A9 (AI _),AD];rw[B5]at hs;exact E0.2 ⟨rfl,by dsimp only;omega,hs⟩
 refine D_.2 (k1.mono fun r11 h11=>?_);obtain⟨e11,h11l,h11⟩:=h11;rw[e11];refine D_.2 ((ANm t ht l hl).mono fun m hm=>?_)
 have k2:Tot (oB (r11.2,m,l,(l.length:Int),0)) (fun q=>q.length<=14680088/\(q=[]<->r11.2=[]/\∀p∈l,CR t l p.1)):=by
  refine F_ (σ:=List (Int×DZ×DZ)) l.length (fun s i=>(s,m,l,(l.length:Int),i)) (fun k s=>s.length<=14680076+k/\(s=[]<->r11.2=[]/\∀p∈l.take k,CR t l p.1)) (by omega) (fun next s i hi hs hn=>?_) (fun next s hs=>?_) r11.2 ⟨by omega,by simp⟩
  ·obtain⟨hle,hs⟩:=hs;unfold oA;dsimp only;rw[F7,A6 hi,AB,FK (A0 hi),A1,FR (by omega)];refine E1.2 ⟨fun hc=>?_,fun hc=>?_⟩
   ·refine D_.2 (FZ.2 ⟨by simp only[AE,AL];omega,hn _ ⟨by simp only[A7,AE,AL];omega,?_⟩⟩);rw[LK hi,VF];refine⟨False.elim,fun h=>?_⟩;have:=(hm _).2 h.2.2;unfold J4 at this;rw[this]at hc;cases hc
   ·refine hn _ ⟨by omega,?_⟩;rw[LK hi,hs];have:J4 m l[i].1=true:=by unfold J4;simpa using hc
    exact⟨fun⟨x,y⟩=>⟨x,y,(hm _).1 this⟩,fun⟨x,y,_⟩=>⟨x,y⟩⟩
  ·obtain⟨hle,hs⟩:=hs;unfold oA;dsimp only;rw[F7,A9 (AI _),AD];rw[B5]at hs;exact E0.2 ⟨by omega,hs⟩
 refine D_.2 (k2.mono fun r16 h16=>?_);obtain⟨h16l,h16⟩:=h16
 have k3:Tot (oD (l,t,r16,t.2.2.2.2.1,(t.2.2.2.2.1.length:Int),0)) (fun q=>q=[]<->r16=[]/\∀s∈t.2.2.2.2.1,(FD l s).2=true/\(FD l s).1=(FD t.2.2.2.1 s).1):=by
  have hold:=ht.old;refine F_ (σ:=List (Int×DZ×DZ)) t.2.2.2.2.1.length (fun s i=>(l,t,s,t.2.2.2.2.1,(t.2.2.2.2.1.length:Int),i)) (fun k s=>s.length<=14680088+k/\(s=[]<->r16=[]/\∀s∈t.2.2.2.2.1.take k,(FD l s).2=true/\(FD l s).1=(FD t.2.2.2.1 s).1)) (by omega) (fun next s i hi hs hn=>?_) (fun next s hs=>?_) r16 ⟨by omega,by simp⟩
  ·obtain⟨hle,hs⟩:=hs;unfold oC;dsimp only;rw[F7,A6 hi,AB,FK (A0 hi),A1,P7 _ _ (by omega),A1,P7 _ _ (by omega),A1,FR (by omega),E6];refine E1.2 ⟨fun hc=>?_,fun hc=>?_⟩
   ·refine D_.2 (FZ.2 ⟨by simp only[AE,AL];omega,hn _ ⟨by simp only[A7,AE,AL];omega,?_⟩⟩);rw[LK hi,VF];refine⟨False.elim,fun h=>?_⟩;obtain⟨g1,g2⟩:=h.2.2;rw[g1,A6 g2]at hc;cases hc
   ·refine hn _ ⟨by omega,?_⟩;rw[LK hi,hs];obtain⟨g1,g2⟩:=BM.1 hc;have g1:(FD l t.2.2.2.2.1[i]).2=true:=by simpa using g1
    have g2:(FD l t.2.2.2.2.1[i]).1=(FD t.2.2.2.1 t.2.2.2.2.1[i]).1:=by simpa using g2
    exact⟨fun⟨x,y⟩=>⟨x,y,g1,g2⟩,fun⟨x,y,_⟩=>⟨x,y⟩⟩
  ·obtain⟨hle,hs⟩:=hs;unfold oC;dsimp only;rw[F7,A9 (AI _),AD];rw[B5]at hs;exact E0.2 hs
 refine D_.2 (k3.mono fun q hq=>E0.2 ?_);rw[hq,h16,h11,h2];exact⟨fun⟨⟨⟨a,b⟩,c⟩,d⟩=>⟨a,b,c,d⟩,fun h=>⟨⟨⟨h.needs,h.pins⟩,h.more⟩,h.frozen⟩⟩
theorem dU{α:Type}{motive:List α->Prop}(nil:motive [])(append_singleton:∀l a,motive l->motive (l++[a]))(l:List α):motive l:=by
 have:∀r:List α,motive r.reverse:=by
  intro r;induction r with
  |nil=>exact nil
  |cons a r ih=>rw[List.reverse_cons];exact append_singleton _ _ ih
 have:=this l.reverse;rwa[List.reverse_reverse]at this
def LL(s:List DZ)(o:GJ):List DZ:=if o.1∈s then s else s++[o.1]
def F8(l:List GJ):List DZ:=l.foldl LL []
theorem P9(l:List GJ)(o:GJ):F8 (l++[o])=LL (F8 l) o:=by
 unfold F8;rw[List.foldl_append];rfl
theorem A5d(l:List GJ):(F8 l).length<=l.length:=by
 induction l using dU with
 |nil=>exact AJ _
 |append_singleton l o ih=>
  rw[P9];unfold LL;split
  ·simp only[A7,AE,AL];omega
  ·simp only[A7,AE,AL];omega
theorem RY(l:List GJ)(s:DZ):s∈F8 l<->∃o∈l,o.1=s:=by
 induction l using dU with
 |nil=>simp[F8]
 |append_singleton l o ih=>
  rw[P9];unfold LL;split
  ·rename_i h;rw[ih];constructor
   ·rintro⟨x,hx,rfl⟩;exact⟨x,AP _ hx,rfl⟩
   ·rintro⟨x,hx,rfl⟩;rw[AQ,AR]at hx;rcases hx with hx|rfl
    ·exact⟨x,hx,rfl⟩
    ·exact ih.1 h
  ·rw[AQ,ih,AR];constructor
   ·rintro(⟨x,hx,rfl⟩|rfl)
    ·exact⟨x,AP _ hx,rfl⟩
    ·exact⟨o,by simp,rfl⟩
   ·rintro⟨x,hx,rfl⟩;rw[AQ,AR]at hx;rcases hx with hx|rfl
    ·exact .inl ⟨x,hx,rfl⟩
    ·exact .inr rfl
theorem ANp(l:List GJ):(F8 l).Nodup:=by
 induction l using dU with
 |nil=>exact BC
 |append_singleton l o ih=>
  rw[P9];unfold LL;split
  ·exact ih
  ·rename_i h;rw[BA];refine⟨ih,by simp,fun a ha b hb=>?_⟩;rw[AR]at hb;rintro rfl;subst hb;exact h ha
theorem VG(v:DZ)(l:List DZ):IG (fun x=>decide (v=x)) l<0<->v ∉ l:=by
 rcases M6 (fun x=>decide (v=x)) l with⟨h1,h2⟩|⟨i,x,h1,h2,h3,_⟩
 ·rw[h1];refine⟨fun _ h=>?_,fun _=>by decide⟩;have:=h2 v h;simp at this
 ·rw[h1];have:v=x:=A8 h3;subst this;refine⟨fun h=>by omega,fun h=>absurd (AX h2) h⟩
theorem ANq(t:FG)(l:List GJ)(hl:l.length<=1048576):
 nE ((t,([]:List DZ),([]:List (List DZ)),([]:List (List Int)),([]:List (List (List Int))),([]:List Int),(0:Int)),l,(l.length:Int),0)=
  some (t,F8 l,([]:List (List DZ)),([]:List (List Int)),([]:List (List (List Int))),([]:List Int),(0:Int)):=by
 refine J3 ?_;refine F_ (σ:=List DZ) l.length (fun s i=>((t,s,([]:List (List DZ)),([]:List (List Int)),([]:List (List (List Int))),([]:List Int),(0:Int)),l,(l.length:Int),i)) (fun i s=>s=F8 (l.take i)) (by omega) (fun next s i hi hj hn=>?_) (fun next s hj=>?_) [] (by simp[F8])
 ·unfold nD;dsimp only;have hle:s.length<=i:=by rw[hj];exact A_ (A5d _) (by rw[B4];omega)
  rw[F7,A6 hi,AB,FK (A0 hi),A1,FR (by omega)];unfold MW;dsimp only;rw[A1,RW _ _ (by dsimp only;omega),A1,A1];refine E1.2 ⟨fun h=>D_.2 (FZ.2 ⟨by simp only[AE,AL];omega,?_⟩),fun h=>?_⟩
  ·have h:=(VG _ _).1 (A8 h);refine hn _ ?_;rw[GN (A0 hi),P9,<-hj];unfold LL;rw[if_neg h]
  ·have h:¬_:=AG h;rw[VG,Classical.not_not]at h;refine hn _ ?_;rw[GN (A0 hi),P9,<-hj];unfold LL;rw[if_pos h]
 ·unfold nD;dsimp only;rw[F7,A9 (AI _),AD];exact E0.2 (by rw[hj,B5])
noncomputable def IH(t:FG)(name:DZ):List DZ:=(I5 t name).reverse
def KF(n:Nat):Int:=((2 ^ n-1:Nat):Int)
theorem ANr(t:FG)(ht:TkB t)(ns:List DZ)(hl:ns.length<=1048576)(hn:∀s∈ns,s.length<=1048576/\(IH t s).length<=8):
 nG (t,(t,ns,([]:List (List DZ)),([]:List (List Int)),([]:List (List (List Int))),([]:List Int),(0:Int)),ns,(ns.length:Int),0)=
  some (t,ns,ns.map (IH t),([]:List (List Int)),([]:List (List (List Int))),ns.map (fun s=>KF ((IH t s).length+1)),(0:Int)):=by
 refine J3 ?_;refine F_ (σ:=Nat) ns.length (fun s i=>(t,(t,ns,(ns.take s).map (IH t),([]:List (List Int)),([]:List (List (List Int))),(ns.take s).map (fun s=>KF ((IH t s).length+1)),(0:Int)),ns,(ns.length:Int),i)) (fun i s=>s=i) (by omega) (fun next s i hi hj hnx=>?_) (fun next s hj=>?_) 0 rfl
 ·subst hj;unfold nF;dsimp only;obtain⟨h1,h2⟩:=hn _ (B9 hi);rw[F7,A6 hi,AB,FK (A0 hi),A1,FR (by omega),A5_ t _ ht h1,A1];have h3:(I5 t ns[s]).length<=8:=by have:=h2;unfold IH at this;rwa[DG]at this
  rw[ANh _ (by omega),A1];refine D_.2 (FZ.2 ⟨by simp only[AK,B4,AE,AL];omega,?_⟩);rw[FR (by rw[DG];omega)];have h4:=(qS (n:=(I5 t ns[s]).reverse.length+1) (by rw[DG];omega)).1;rw[show(((I5 t ns[s]).reverse.length+1:Nat):Int)=((I5 t ns[s]).reverse.length:Int)+1 by omega]at h4;rw[h4,A1];refine D_.2 (FZ.2 ⟨by simp only[AK,B4,AE,AL];omega,?_⟩);have:=hnx (s+1) rfl;rw[GN (A0 hi),CM,CM]at this;exact this
 ·unfold nF;dsimp only;rw[F7,A9 (AI _),AD];exact E0.2 (by rw[hj,B5])
section
variable{α:Type}{R:α->α->Prop}
theorem PA(tr:∀a b c,R a b->R b c->R a c){l:List α}{i:Nat}(hi:i<l.length):(l.take (i+1)).Pairwise R<->(l.take i).Pairwise R/\∀(_:0<i) (y:α),l[i-1]?=some y->R y l[i]:=by
 rw[GN (A0 hi),DO];constructor
 ·rintro⟨h1,_,h3⟩;refine⟨h1,fun h0 y hy=>h3 y ?_ _ (AR.2 rfl)⟩;rw[CB];obtain⟨h4,h5⟩:=AC.1 hy;exact⟨i-1,by omega,h5⟩
 ·rintro⟨h1,h2⟩;refine⟨h1,DX _ _,fun a ha b hb=>?_⟩;cases AR.1 hb;obtain⟨j,hj,rfl⟩:=CB.1 ha;have h0:0<i:=by omega
  have hy:l[i-1]?=some (l[i-1]'(by omega)):=A0 _;have hl:=h2 h0 _ hy;by_cases hji:j=i-1
  ·subst hji;exact hl
  ·refine tr _ _ _ ?_ hl;have:=CI.1 h1 j (i-1) (by rw[B4];omega) (by rw[B4];omega) (by omega);simpa using this
end
theorem ANs{α:Type}{l:List α}{i:Nat}(hi:i<l.length)(d:α):Tot (bif decide ((0:Int)<(i:Int))then at? l (IntKind.i64.wrap ((i:Int)-1))else some d) (fun y=>0<i->l[i-1]?=some y)\/l.length ≥ 4611686018427387904:=by
 by_cases hb:l.length<4611686018427387904
 ·left;refine E1.2 ⟨fun hz=>?_,fun hz=>E0.2 fun h0=>?_⟩
  ·have hz:=A8 hz;rw[EY (by omega) (by omega)];refine E_.2 ⟨⟨by omega,by omega⟩,fun w hw _=>?_⟩;rw[show i-1=((i:Int)-1).toNat by omega];exact hw
  ·have hz:=AG hz;omega
 ·right;omega
theorem qY{α:Type}{l:List α}{i:Nat}(hi:i<l.length)(hb:l.length<4611686018427387904)(d:α):Tot (bif decide ((0:Int)<(i:Int))then at? l (IntKind.i64.wrap ((i:Int)-1))else some d) (fun y=>0<i->l[i-1]?=some y):=
 (ANs hi d).elim id fun h=>by omega
noncomputable def dV(r:Rg):Int:=(QZ r).getD 0
theorem ANt(r:Rg)(hr:∀s∈r.2,RX s):QZ r=some (dV r):=by
 suffices h:∃q,QZ r=some q by
  obtain⟨q,h⟩:=h;unfold dV;rw[h];rfl
 refine pX.1 ?_;unfold QZ;exact D_.2 ((A5Y r hr).mono fun _ _=>E0.2 trivial)
structure NdOk(nd:FW):Prop where
 kind:(JR nd.1).2=true
 range:dV nd.2.1=0
 same:nd.2.1.1=(JR nd.1).1
 scope:1<=nd.2.2/\nd.2.2<=4
structure NdsOk(l:List FW):Prop where
 few:l.length<=12
 ok:∀nd∈l,NdOk nd
 asc:l.Pairwise fun a b=>a.1<b.1
theorem RZ{α:Type}(f:α->DZ):∀a b c:α,f a<f b->f b<f c->f a<f c:=fun _ _ _=>NT
theorem A5e(l:List FW)(hl:l.length<=1048576)(hb:∀nd∈l,JS nd):Tot (UL l) (fun e=>e=0<->NdsOk l):=by
 unfold UL;refine E1.2 ⟨fun hc=>E0.2 ⟨fun h=>absurd h (by decide),fun h=>?_⟩,fun hc=>?_⟩
 ·have:=A8 hc;have:=h.few;omega
 have hc:=AG hc
 refine D_.2 (Tot.mono (P:=fun q:Sum Unit Int=>match q with
  | .inl _=>(∀nd∈l,NdOk nd)/\l.Pairwise fun a b=>a.1<b.1
  | .inr e=>e≠0/\¬((∀nd∈l,NdOk nd)/\l.Pairwise fun a b=>a.1<b.1)) ?_ fun q hq=>?_)
 ·refine F_ (σ:=Unit) l.length (fun _ i=>(l,l,(l.length:Int),i)) (fun m _=>(∀nd∈l.take m,NdOk nd)/\(l.take m).Pairwise fun a b=>a.1<b.1) (by omega) (fun next s i hi hs hn=>?_) (fun next s hs=>?_) () (by simp)
  ·unfold kN;dsimp only;have hnd:=hb _ (B9 hi);rw[F7,A6 hi,AB,FK (A0 hi),A1,qW _ hnd.1,A1,ANt _ hnd.2,FR (by omega)];have hall:(∀nd∈l,NdOk nd)->NdOk l[i]:=fun h=>h _ (B9 hi);refine E1.2 ⟨fun h1=>E0.2 ⟨by decide,fun h=>?_⟩,fun h1=>?_⟩
   ·rw[(hall h.1).kind]at h1;cases h1
   refine D_.2 (E0.2 ?_);refine E1.2 ⟨fun h2=>E0.2 ?_,fun h2=>?_⟩
   ·rw[E2]at h2;have h2:¬dV l[i].2.1=0:=by simpa using h2
    exact⟨h2,fun h=>h2 (hall h.1).range⟩
   refine E1.2 ⟨fun h3=>E0.2 ⟨by decide,fun h=>?_⟩,fun h3=>?_⟩
   ·rw[(hall h.1).same,E2]at h3;simp at h3
   refine E1.2 ⟨fun h4=>E0.2 ⟨by decide,fun h=>?_⟩,fun h4=>?_⟩
   ·have:=(hall h.1).scope;rw[BF,AS,AS]at h4;omega
   refine D_.2 ((qY hi (by omega) _).mono fun y hy=>?_);rw[dO];refine E1.2 ⟨fun h5=>E0.2 ⟨by decide,fun h=>?_⟩,fun h5=>hn () ⟨?_,?_⟩⟩
   ·obtain⟨h6,h7⟩:=D5.1 h5;have h6:=A8 h6;have hy:=hy (by omega);have h8:=((PA (RZ fun nd:FW=>nd.1) hi).1 (h.2.sublist (List.take_sublist _ _))).2 (by omega) y hy;have h8:y.1<l[i].1:=h8;rw[A6 h8]at h7;cases h7
   ·rw[LK hi];refine⟨hs.1,⟨by simpa using h1,?_,?_,?_⟩⟩
    ·rw[E2]at h2;simpa using h2
    ·rw[E2]at h3;simpa using h3
    ·obtain⟨g1,g2⟩:=BM.1 h4;have:=AG g1;have:=AG g2;omega
   ·rw[PA (RZ fun nd:FW=>nd.1) hi];refine⟨hs.2,fun h0 y' hy'=>?_⟩;have hy:=hy h0;rw[hy]at hy';cases hy';rw[A6 (show(0:Int)<(i:Int) by omega),CF]at h5;have h5:decide (y.1<l[i].1)=true:=by simpa using h5
    exact A8 h5
  ·unfold kN;dsimp only;rw[F7,A9 (AI _),AD];rw[B5]at hs;exact E0.2 hs
 ·rcases q with u|e
  ·exact E0.2 ⟨fun _=>⟨by omega,hq.1,hq.2⟩,fun _=>rfl⟩
  ·exact E0.2 ⟨fun h=>absurd h hq.1,fun h=>absurd ⟨h.ok,h.asc⟩ hq.2⟩
noncomputable def JT(name v:DZ):Int×Int:=(OP (name,v)).getD (0,0)
theorem A5f(name v:DZ)(h1:name.length<=1048576)(h2:v.length<=1048576):Tot (OP (name,v)) (fun q=>q.2=0->(JR name).2=true/\q.1=(JR name).1/\Ok (JR name).1 v):=by
 unfold OP;dsimp only;rw[qW _ h1,A1];refine E1.2 ⟨fun _=>E0.2 fun h=>absurd h (by decide),fun hc=>?_⟩;exact D_.2 ((ANO _ v h2).mono fun e he=>E0.2 fun h=>⟨by simpa using hc,rfl,he h⟩)
theorem A5g(name v:DZ)(h1:name.length<=1048576)(h2:v.length<=1048576):OP (name,v)=some (JT name v):=by
 obtain⟨q,hq,_⟩:=A5f name v h1 h2;unfold JT;rw[hq];rfl
theorem A5h{name v:DZ}(h1:name.length<=1048576)(h2:v.length<=1048576)(h:(JT name v).2=0):(JR name).2=true/\(JT name v).1=(JR name).1/\Ok (JR name).1 v:=by
 obtain⟨q,hq,h3⟩:=A5f name v h1 h2;have:JT name v=q:=by unfold JT;rw[hq];rfl
 rw[this]at h ⊢;exact h3 h
structure LkOk(l:List FC):Prop where
 few:l.length<=12
 ok:∀p∈l,(JT p.1 p.2).2=0
 asc:l.Pairwise fun a b=>a.1<b.1
theorem A5i(l:List FC)(hl:l.length<=1048576)(hb:∀p∈l,p.1.length<=1048576/\p.2.length<=1048576):Tot (UM l) (fun e=>e=0<->LkOk l):=by
 unfold UM;refine E1.2 ⟨fun hc=>E0.2 ⟨fun h=>absurd h (by decide),fun h=>?_⟩,fun hc=>?_⟩
 ·have:=A8 hc;have:=h.few;omega
 have hc:=AG hc
 refine D_.2 (Tot.mono (P:=fun q:Sum Unit Int=>match q with
  | .inl _=>(∀p∈l,(JT p.1 p.2).2=0)/\l.Pairwise fun a b=>a.1<b.1
  | .inr e=>e≠0/\¬((∀p∈l,(JT p.1 p.2).2=0)/\l.Pairwise fun a b=>a.1<b.1)) ?_ fun q hq=>?_)
 ·refine F_ (σ:=Unit) l.length (fun _ i=>(l,l,(l.length:Int),i)) (fun m _=>(∀p∈l.take m,(JT p.1 p.2).2=0)/\(l.take m).Pairwise fun a b=>a.1<b.1) (by omega) (fun next s i hi hs hn=>?_) (fun next s hs=>?_) () (by simp)
  ·unfold kS;dsimp only;have hp:=hb _ (B9 hi);rw[F7,A6 hi,AB,FK (A0 hi),A1,A5g _ _ hp.1 hp.2,A1,FR (by omega)];refine E1.2 ⟨fun h2=>E0.2 ?_,fun h2=>?_⟩
   ·rw[E2]at h2;have h2:¬(JT l[i].1 l[i].2).2=0:=by simpa using h2
    exact⟨h2,fun h=>h2 (h.1 _ (B9 hi))⟩
   refine D_.2 ((qY hi (by omega) _).mono fun y hy=>?_);rw[dO];refine E1.2 ⟨fun h5=>E0.2 ⟨by decide,fun h=>?_⟩,fun h5=>hn () ⟨?_,?_⟩⟩
   ·obtain⟨h6,h7⟩:=D5.1 h5;have h6:=A8 h6;have hy:=hy (by omega);have h8:=((PA (RZ fun nd:FC=>nd.1) hi).1 (h.2.sublist (List.take_sublist _ _))).2 (by omega) y hy;have h8:y.1<l[i].1:=h8;rw[A6 h8]at h7;cases h7
   ·rw[LK hi];refine⟨hs.1,?_⟩;rw[E2]at h2;simpa using h2
   ·rw[PA (RZ fun nd:FC=>nd.1) hi];refine⟨hs.2,fun h0 y' hy'=>?_⟩;have hy:=hy h0;rw[hy]at hy';cases hy';rw[A6 (show(0:Int)<(i:Int) by omega),CF]at h5;have h5:decide (y.1<l[i].1)=true:=by simpa using h5
    exact A8 h5
  ·unfold kS;dsimp only;rw[F7,A9 (AI _),AD];rw[B5]at hs;exact E0.2 hs
 ·rcases q with u|e
  ·exact E0.2 ⟨fun _=>⟨by omega,hq.1,hq.2⟩,fun _=>rfl⟩
  ·exact E0.2 ⟨fun h=>absurd h hq.1,fun h=>absurd ⟨h.ok,h.asc⟩ hq.2⟩
def VH(o:GJ):Prop:=o.1.length<=1048576/\o.2.1.length<=1048576/\o.2.2.1.length<=1048576/\∀n∈o.2.2.1,JS n
structure OfOk(o:GJ):Prop where
 pin:(JT o.1 o.2.1).2=0
 needs:NdsOk o.2.2.1
 other:∀nd∈o.2.2.1,nd.1≠o.1
def KW(a b:GJ):Prop:=a.1<b.1\/a.1=b.1/\ky (JR a.1).1 a.2.1<ky (JR b.1).1 b.2.1
theorem ANu(a b c:GJ):KW a b->KW b c->KW a c:=by
 rintro(h1|⟨h1,h1'⟩) (h2|⟨h2,h2'⟩)
 ·exact .inl (NT h1 h2)
 ·exact .inl (h2▸h1)
 ·exact .inl (h1▸h2)
 ·exact .inr ⟨h1.trans h2,NT h1' h2'⟩
theorem ANv(l:List FW)(f:FW->Option Bool)(p:FW->Bool)(hf:∀x,f x=some (p x))(hl:l.length<4611686018427387904):∃b,ZZ (l,f)=some b/\(b=true<->∃nd∈l,p nd=true):=by
 unfold ZZ;dsimp only;rw[ANb l f p hf hl,A1];refine⟨_,rfl,?_⟩;rw[AS];rcases M6 p l with⟨h1,h2⟩|⟨i,x,h1,h2,h3,_⟩
 ·rw[h1];refine⟨fun h=>absurd h (by decide),fun⟨nd,h,h'⟩=>?_⟩;rw[h2 nd h]at h';cases h'
 ·rw[h1];exact⟨fun _=>⟨x,AX h2,h3⟩,fun _=>by omega⟩
theorem ANw(o:GJ)(before:List GJ)(ho:VH o)(hb:∀a∈before,VH a)(hbo:∀a∈before,(JT a.1 a.2.1).2=0)(hbl:before.length<4611686018427387904):
 Tot (aB (o,before)) (fun e=>e=0->OfOk o/\∀(_:0<before.length) (y:GJ),before[before.length-1]?=some y->KW y o):=by
 unfold aB;dsimp only;rw[A5g _ _ ho.1 ho.2.1,A1];refine E1.2 ⟨fun h=>E0.2 fun h0=>?_,fun h=>?_⟩
 ·rw[E2,A6 h0]at h;cases h
 have hpin:(JT o.1 o.2.1).2=0:=by rw[E2]at h;simpa using h
 refine D_.2 ((A5e o.2.2.1 ho.2.2.1 ho.2.2.2).mono fun e he=>E1.2 ⟨fun h2=>E0.2 fun h0=>?_,fun h2=>?_⟩)
 ·rw[E2,A6 h0]at h2;cases h2
 have hnds:NdsOk o.2.2.1:=he.1 (by rw[E2]at h2;simpa using h2);obtain⟨b,h3,h4⟩:=ANv o.2.2.1 (fun x=>(kO (x,(some o))).bind fun r=>some r) (fun nd=>EN nd.1 o.1) (fun x=>rfl) (by have:=ho.2.2.1;omega);rw[h3,A1];refine E1.2 ⟨fun _=>E0.2 fun h0=>absurd h0 (by decide),fun hb0=>?_⟩
 have hoth:∀nd∈o.2.2.1,nd.1≠o.1:=by
  intro nd hnd e;have:=h4.2 ⟨nd,hnd,by rw[E6];exact A6 e⟩;rw[hb0]at this;cases this
 have hok:OfOk o:=⟨hpin,hnds,hoth⟩;refine E1.2 ⟨fun hz=>E0.2 fun _=>⟨hok,fun h0=>?_⟩,fun hz=>?_⟩
 ·rw[E2]at hz;have:=A8 hz;omega
 have hpos:0<before.length:=by
  rw[E2]at hz;have:=AG hz;omega
 rw[EY (by omega) (by omega)];refine D_.2 (E_.2 ⟨⟨by omega,by omega⟩,fun y hy=>?_⟩);rw[show((before.length:Int)-1).toNat=before.length-1 by omega]at hy;have hym:=AX hy;rw[qH,E6];refine E1.2 ⟨fun _=>E0.2 fun h0=>absurd h0 (by decide),fun hlt=>E1.2 ⟨fun heq=>?_,fun hne=>E0.2 fun _=>⟨hok,fun _ y' hy'=>?_⟩⟩⟩
 ·have heq:=A8 heq;obtain⟨_,k1,k2⟩:=A5h ho.1 ho.2.1 hpin;obtain⟨_,_,k3⟩:=A5h (hb y hym).1 (hb y hym).2.1 (hbo y hym);rw[<-heq]at k3;rw[k1,ANS k3 k2,A1];refine E1.2 ⟨fun _=>E0.2 fun h0=>absurd h0 (by decide),fun hc=>E0.2 fun _=>⟨hok,fun _ y' hy'=>?_⟩⟩;rw[hy]at hy';cases hy';have hc:=AG hc;refine .inr ⟨heq.symm,?_⟩;rw[<-heq];exact(ALM _ _).1 (by dsimp only at hc;omega)
 ·rw[hy]at hy';cases hy';have hlt:=AG hlt;have hne:=AG hne;rcases VC o.1 y.1 with h|h|h
  ·exact absurd h hlt
  ·exact absurd h hne
  ·exact .inl h
def LM(l:List GJ)(nm:DZ):Nat:=(l.filter fun o=>decide (o.1=nm)).length
theorem ANx(l:List GJ)(o:GJ)(nm:DZ):LM (l++[o]) nm=LM l nm+if o.1=nm then 1 else 0:=by
 unfold LM;rw[D2,A7];by_cases h:o.1=nm<;>simp[h]
structure RegOk(l:List GJ):Prop where
 ok:∀o∈l,OfOk o
 asc:l.Pairwise KW
 few:(F8 l).length<=12
 few8:∀nm,LM l nm<=8
theorem ANy(l:List GJ)(hl:l.length<=1048576)(hb:∀o∈l,VH o):Tot (Q_ l) (fun e=>e=0->RegOk l):=by
 unfold Q_
 refine D_.2 (Tot.mono (P:=fun q:Sum Unit Int=>match q with
  | .inl _=>RegOk l
  | .inr e=>e≠0) ?_ fun q hq=>?_)
 ·refine F_ (σ:=Int×Int) l.length (fun s i=>(l,s.1,s.2,l,(l.length:Int),i)) (fun m s=>(∀o∈l.take m,OfOk o)/\(l.take m).Pairwise KW/\s.1=((F8 (l.take m)).length:Int)/\(F8 (l.take m)).length<=12/\(∀nm,LM (l.take m) nm<=8)/\∀(_:0<m) (y:GJ),l[m-1]?=some y->s.2=(LM (l.take m) y.1:Int))
   (by omega) (fun next s i hi hs hn=>?_) (fun next s hs=>?_) (0,0) ⟨by simp,by simp,rfl,by rw[D1];exact BQ _,fun nm=>by simp[LM],fun h=>by omega⟩
  ·obtain⟨g1,g2,g3,g4,g5,g6⟩:=hs;unfold kR;dsimp only
   have hcut:cut? l 0 (i:Int)=some (l.take i):=by
    refine J3 (H4.2 ⟨⟨B7 _,by omega,by omega⟩,?_⟩);rw[B6];rfl
   rw[F7,A6 hi,AB,FK (A0 hi),A1,hcut,A1,FR (by omega)];have htl:(l.take i).length=i:=by rw[B4];omega
   refine D_.2 ((ANw l[i] (l.take i) (hb _ (B9 hi)) (fun a ha=>hb a (DC ha)) (fun a ha=>(g1 a ha).pin) (by omega)).mono fun e he=>E1.2 ⟨fun h=>E0.2 ?_,fun h=>?_⟩)
   ·rw[E2]at h;simpa using h
   have he:=he (by rw[E2]at h;simpa using h);obtain⟨hok,hlast⟩:=he;have hprev:∀(_:0<i) (y:GJ),l[i-1]?=some y->KW y l[i]:=fun h0 y hy=>hlast (by omega) y (by rw[htl,AV,if_pos (by omega)];exact hy);have hasc:(l.take (i+1)).Pairwise KW:=(PA ANu hi).2 ⟨g2,hprev⟩;have hoks:∀o∈l.take (i+1),OfOk o:=(LK hi _).2 ⟨g1,hok⟩;have hsn:=GN (A0 hi)
   have hbef:∀a∈l.take i,KW a l[i]:=by
    rw[hsn,DO]at hasc;exact fun a ha=>hasc.2.2 a ha _ (AR.2 rfl)
   have hcnt:∀nm,LM (l.take (i+1)) nm=LM (l.take i) nm+if l[i].1=nm then 1 else 0:=fun nm=>by rw[hsn,ANx]
   have hnames:F8 (l.take (i+1))=LL (F8 (l.take i)) l[i]:=by rw[hsn,P9]
   have hni:(F8 (l.take i)).length<=i:=A_ (A5d _) (by omega);rw[EY (n:=s.1+1) (by rw[g3];omega) (by rw[g3];omega)]
   have hat:Tot (bif (!(E4 (i:Int) 0))then at? l (IntKind.i64.wrap ((i:Int)-1))else some (([]:List UInt8),(([]:List UInt8),(([]:List FW),false)))) (fun y:GJ=>0<i->l[i-1]?=some y):=by
    refine E1.2 ⟨fun hz=>?_,fun hz=>E0.2 fun h0=>?_⟩
    ·have hz:¬((i:Int)=0):=by rw[E2]at hz;simpa using hz
     rw[EY (by omega) (by omega)];refine E_.2 ⟨⟨by omega,by omega⟩,fun w hw _=>?_⟩;rw[show i-1=((i:Int)-1).toNat by omega];exact hw
    ·have hz:((i:Int)=0):=by rw[E2]at hz;simpa using hz
     omega
   refine D_.2 (hat.mono fun y hy=>?_)
   have hnew:(∀a∈l.take i,a.1≠l[i].1)->F8 (l.take (i+1))=F8 (l.take i)++[l[i].1]/\LM (l.take i) l[i].1=0:=by
    intro h;constructor
    ·rw[hnames];unfold LL;rw[if_neg];rw[RY];rintro⟨a,ha,e⟩;exact h a ha e
    ·unfold LM;rw[CX,List.filter_eq_nil_iff];intro a ha;simp[h a ha]
   refine E1.2 ⟨fun hc=>?_,fun hc=>?_⟩
   ·have hne:∀a∈l.take i,a.1≠l[i].1:=by
     rcases DJ i with h0|h0
     ·subst h0;intro a ha;simp at ha
     have hy:=hy h0;rw[E2,A9 (by omega),CC,E6]at hc;have hc:¬y.1=l[i].1:=by simpa using hc
     have hyl:y.1<l[i].1:=(hprev h0 y hy).elim id fun h=>absurd h.1 hc;intro a ha e;obtain⟨j,hj,rfl⟩:=CB.1 ha
     have hyy:y=l[i-1]:=by
      have:=hy;rw[A0 (by omega)]at this;exact(A4 this).symm
     by_cases hji:j=i-1
     ·subst hji;rw[<-hyy]at e;exact hc e
     ·have:=CI.1 g2 j (i-1) (by omega) (by omega) (by omega);have this:KW l[j] l[i-1]:=by simpa using this
      rw[<-hyy]at this;rcases this with h|h
      ·rw[e]at h;exact I4 _ (NT h hyl)
      ·rw[e]at h;rw[h.1]at hyl;exact I4 _ hyl
    obtain⟨n1,n2⟩:=hnew hne;refine E1.2 ⟨fun _=>E0.2 (show(3:Int)≠0 by decide),fun hd=>hn (s.1+1,1) ⟨hoks,hasc,?_,?_,?_,?_⟩⟩
    ·dsimp only;rw[n1,A7,g3];simp
    ·rw[n1,A7];have:=AG (BM.1 hd).2;rw[g3]at this;simp only[AE,AL];omega
    ·intro nm;rw[hcnt];have:=g5 nm;split
     ·rename_i h;rw[<-h,n2];decide
     ·exact this
    ·intro _ y' hy';rw[Nat.add_sub_cancel,A0 hi]at hy';cases hy';dsimp only;rw[hcnt,n2,if_pos rfl];rfl
   ·obtain⟨hc1,hc2⟩:=BM.1 hc;have h0:0<i:=by rw[E2]at hc1;have:=AG hc1;omega
    have hy:=hy h0;have hye:y.1=l[i].1:=by rw[E6]at hc2;simpa using hc2
    have g6:=g6 h0 y hy
    have hym:y∈l.take i:=CB.2 ⟨i-1,by omega,by
     have:=hy;rw[A0 (by omega)]at this;exact A4 this⟩
    have n1:F8 (l.take (i+1))=F8 (l.take i):=by
     rw[hnames];unfold LL;rw[if_pos];rw[RY];exact⟨y,hym,hye⟩
    have h8:=g5 y.1;rw[EY (n:=s.2+1) (by rw[g6];omega) (by rw[g6];omega)];refine E1.2 ⟨fun _=>E0.2 (show(3:Int)≠0 by decide),fun hd=>hn (s.1,s.2+1) ⟨hoks,hasc,by rw[n1];exact g3,by rw[n1];exact g4,?_,?_⟩⟩
    ·intro nm;rw[hcnt];have:=g5 nm;split
     ·rename_i h;have:=AG (BM.1 hd).1;rw[g6]at this;rw[<-h,<-hye];omega
     ·exact this
    ·intro _ y' hy';rw[Nat.add_sub_cancel,A0 hi]at hy';cases hy';dsimp only;rw[hcnt,if_pos rfl,g6,hye];rfl
  ·obtain⟨g1,g2,g3,g4,g5,g6⟩:=hs;unfold kR;dsimp only;rw[F7,A9 (AI _),AD];rw[B5]at g1 g2 g4 g5;exact E0.2 ⟨g1,g2,g4,g5⟩
 ·rcases q with u|e
  ·exact E0.2 fun _=>hq
  ·exact E0.2 fun h=>absurd h hq
structure TaskOk(t:FG):Prop where
 reg:RegOk t.1
 needs:NdsOk t.2.1
 scope:1<=t.2.2.1/\t.2.2.1<=4
 old:LkOk t.2.2.2.1
 frozen:∀s∈t.2.2.2.2.1,(FD t.2.2.2.1 s).2=true
 asc:t.2.2.2.2.1.Pairwise fun a b=>a<b
 base:qQ t.2.2.2.2.2.2
theorem ANz(t:FG)(ht:TkB t):
 Tot (l_ (t,t.2.2.2.2.1,(t.2.2.2.2.1.length:Int),0)) (fun q=>match q with
  | .inl t'=>t'=t/\(∀s∈t.2.2.2.2.1,(FD t.2.2.2.1 s).2=true)/\t.2.2.2.2.1.Pairwise fun a b=>a<b
  | .inr e=>e≠0/\¬((∀s∈t.2.2.2.2.1,(FD t.2.2.2.1 s).2=true)/\t.2.2.2.2.1.Pairwise fun a b=>a<b)):=by
 have hfr:=ht.frozen;have hold:=ht.old;refine F_ (σ:=Unit) t.2.2.2.2.1.length (fun _ i=>(t,t.2.2.2.2.1,(t.2.2.2.2.1.length:Int),i)) (fun m _=>(∀s∈t.2.2.2.2.1.take m,(FD t.2.2.2.1 s).2=true)/\(t.2.2.2.2.1.take m).Pairwise fun a b=>a<b) (by omega) (fun next s i hi hs hn=>?_) (fun next s hs=>?_) () (by simp)
 ·unfold lZ;dsimp only;rw[F7,A6 hi,AB,FK (A0 hi),A1,P7 _ _ (by omega),A1,FR (by omega)];refine E1.2 ⟨fun h1=>E0.2 ⟨by decide,fun h=>?_⟩,fun h1=>?_⟩
  ·rw[h.1 _ (B9 hi)]at h1;cases h1
  refine D_.2 ((qY hi (by omega) _).mono fun y hy=>?_);rw[dO];refine E1.2 ⟨fun h5=>E0.2 ⟨by decide,fun h=>?_⟩,fun h5=>hn () ⟨?_,?_⟩⟩
  ·obtain⟨h6,h7⟩:=D5.1 h5;have h6:=A8 h6;have hy:=hy (by omega);have h8:=((PA (RZ fun nd:DZ=>nd) hi).1 (h.2.sublist (List.take_sublist _ _))).2 (by omega) y hy;have h8:y<t.2.2.2.2.1[i]:=h8;rw[A6 h8]at h7;cases h7
  ·rw[LK hi];exact⟨hs.1,by simpa using h1⟩
  ·rw[PA (RZ fun nd:DZ=>nd) hi];refine⟨hs.2,fun h0 y' hy'=>?_⟩;have hy:=hy h0;rw[hy]at hy';cases hy';rw[A6 (show(0:Int)<(i:Int) by omega),CF]at h5;have h5:decide (y<t.2.2.2.2.1[i])=true:=by simpa using h5
   exact A8 h5
 ·unfold lZ;dsimp only;rw[F7,A9 (AI _),AD];rw[B5]at hs;exact E0.2 ⟨rfl,hs⟩
noncomputable def R_(l:List GJ):Int:=(Q_ l).getD 0
theorem AO0(l:List GJ)(hl:l.length<=1048576)(hb:∀o∈l,VH o):Q_ l=some (R_ l)/\(R_ l=0->RegOk l):=by
 obtain⟨e,h1,h2⟩:=ANy l hl hb;have:R_ l=e:=by unfold R_;rw[h1];rfl
 rw[this];exact⟨h1,h2⟩
theorem AO1(t:FG)(ht:TkB t)(hB:BB t.2.2.2.2.2.2):Tot (MV t) (fun e=>e=0<->(R_ t.1=0/\TaskOk t)):=by
 obtain⟨r1,r2⟩:=AO0 t.1 ht.offers ht.offer;unfold MV;rw[r1,A1];refine E1.2 ⟨fun h=>E0.2 ⟨fun h0=>?_,fun h0=>?_⟩,fun h=>?_⟩
 ·rw[E2,A6 h0]at h;cases h
 ·exact h0.1
 have hr0:R_ t.1=0:=by rw[E2]at h;simpa using h
 refine D_.2 ((A5e t.2.1 ht.needs ht.need).mono fun e2 he2=>E1.2 ⟨fun h=>E0.2 ⟨fun h0=>?_,fun h0=>?_⟩,fun h=>?_⟩)
 ·rw[E2,A6 h0]at h;cases h
 ·exact he2.2 h0.2.needs
 have hn0:=he2.1 (by rw[E2]at h;simpa using h);refine E1.2 ⟨fun h=>E0.2 ⟨fun h0=>absurd h0 (by decide),fun h0=>?_⟩,fun h=>?_⟩
 ·have:=h0.2.scope;rw[BF,AS,AS]at h;omega
 have hsc:1<=t.2.2.1/\t.2.2.1<=4:=by
  obtain⟨g1,g2⟩:=BM.1 h;have:=AG g1;have:=AG g2;omega
 refine D_.2 ((A5i t.2.2.2.1 ht.old ht.pin).mono fun e2 he2=>E1.2 ⟨fun h=>E0.2 ⟨fun h0=>?_,fun h0=>?_⟩,fun h=>?_⟩)
 ·rw[E2,A6 h0]at h;cases h
 ·exact he2.2 h0.2.old
 have hl0:=he2.1 (by rw[E2]at h;simpa using h);refine D_.2 ((ANz t ht).mono fun q hq=>?_);rcases q with t'|e
 ·obtain⟨rfl,h1,h2⟩:=hq;refine D_.2 ((ANV _ hB).mono fun e he=>E0.2 ⟨fun h0=>⟨hr0,r2 hr0,hn0,hsc,hl0,h1,h2,he.1 h0⟩,fun h0=>he.2 h0.2.base⟩)
 ·exact E0.2 ⟨fun h0=>absurd h0 hq.1,fun h0=>absurd ⟨h0.2.frozen,h0.2.asc⟩ hq.2⟩
def H9(os:List (List DZ)):List Int:=os.map fun o=>KF (o.length+1)
theorem IS{α:Type}{l:List α}{i:Nat}{x d:α}(h:i<l.length):(l.set i x).getD i d=x:=by
 rw[A2,CG h];rfl
theorem getD_set_ne{α:Type}{l:List α}{i j:Nat}{x d:α}(h:i≠j):(l.set i x).getD j d=l.getD j d:=by
 rw[A2,CV h,A2]
theorem qZ{α:Type}{l:List α}{i:Nat}{d:α}(h:i<l.length):l.set i (l.getD i d)=l:=by
 rw[A2,A0 h];exact List.set_getElem_self h
theorem A5j{α:Type}{f v:List α}{j:Nat}{x:α}(hl:f.length=v.length)(hx:f[j]?=some x):(f.take j++v.drop j).set j x=f.take (j+1)++v.drop (j+1):=by
 have hj:=(AC.1 hx).1;have hlt:(f.take j).length=j:=by rw[B4];omega
 rw[List.set_append_right _ _ (by omega),hlt,DM];have:v.drop j=v[j]'(by omega)::v.drop (j+1):=by rw[CH]
 rw[this,List.set_cons_zero,GN hx,BY];rfl
structure Fx(ns:List DZ)(os:List (List DZ)):Prop where
 len:os.length=ns.length
 few:ns.length<=12
 small:∀o∈os,o.length<=8
theorem q_{α:Type}{n:Nat}(h:n<=1000000)(z:α):mks? 24 (n:Int) (n:Int) z=some (List.replicate n z):=by
 unfold mks?;rw[A6 (BJ n),A6 (B7 _),A6 (by rw[B6];omega),B6];rfl
section
variable(t:FG)(ns:List DZ)(os:List (List DZ))(hF:Fx ns os)
include hF
theorem AO2(wants:List (List Int))(X:List (List (List Int)))(st:List Int)(rt:Int)(i a:Nat)(hi:i<X.length)(ha:a<(X.getD i []).length)(hv:((X.getD i []).getD a []).length=ns.length):
 mO ((t,ns,os,wants,X,st,rt),(i:Int),(a:Int),(ns.length:Int),0)=some (t,ns,os,wants,X.set i ((X.getD i []).set a (H9 os)),st,rt):=by
 refine J3 ?_;have hfl:(H9 os).length=ns.length:=by unfold H9;rw[AK,hF.len]
 refine F_ (σ:=List (List (List Int))) ns.length (fun s j=>((t,ns,os,wants,s,st,rt),(i:Int),(a:Int),(ns.length:Int),j)) (fun j s=>s=X.set i ((X.getD i []).set a ((H9 os).take j++((X.getD i []).getD a []).drop j))) (by have:=hF.few;omega) (fun next s j hj hs hn=>?_) (fun next s hs=>?_) X ?_
 ·unfold mN;dsimp only;have e1:s.getD i []=(X.getD i []).set a ((H9 os).take j++((X.getD i []).getD a []).drop j):=by rw[hs];exact IS hi
  have e2:(s.getD i []).getD a []=(H9 os).take j++((X.getD i []).getD a []).drop j:=by rw[e1];exact IS ha
  have hsl:s.length=X.length:=by rw[hs,AF]
  have hfew:=hF.few;have hjo:j<os.length:=by rw[hF.len];exact hj
  rw[F7,A6 hj,AB,B6,B6,B6,H8 (by omega),A1,H8 (by rw[e1,AF];exact ha),A1,FK (A0 hjo),A1];have hsm:=hF.small _ (B9 hjo);rw[FR (by omega),FR (by omega)];have h4:=(qS (n:=os[j].length+1) (by omega)).1;rw[show((os[j].length+1:Nat):Int)=(os[j].length:Int)+1 by omega]at h4;rw[h4,A1,H8 (by rw[e2,A7,B4,CE];omega),A1];refine hn _ ?_;rw[e2,e1,hs,List.set_set,List.set_set];rw[A5j (by omega) (x:=KF (os[j].length+1)) (by unfold H9;rw[AO,A0 hjo];rfl)|>.symm];rfl
 ·unfold mN;dsimp only;rw[F7,A9 (AI _),AD];refine E0.2 ?_;rw[hs,BR (by omega),CZ (by omega),C1]
 ·rw[D1,D8,DR,qZ ha,qZ hi]
theorem AO3(wants:List (List Int))(X:List (List (List Int)))(st:List Int)(rt:Int)(i c:Nat)(hi:i<X.length)(hc:c<=1000)(hx:X.getD i []=List.replicate c []):
 mQ ((t,ns,os,wants,X,st,rt),(ns.length:Int),(i:Int),(c:Int),0)=some (t,ns,os,wants,X.set i (List.replicate c (H9 os)),st,rt):=by
 refine J3 ?_;refine F_ (σ:=List (List (List Int))) c (fun s a=>((t,ns,os,wants,s,st,rt),(ns.length:Int),(i:Int),(c:Int),a)) (fun a s=>s=X.set i ((List.replicate c (H9 os)).take a++(List.replicate c []).drop a)) (by omega) (fun next s a ha hs hn=>?_) (fun next s hs=>?_) X ?_
 ·unfold mP;dsimp only;have e1:s.getD i []=(List.replicate c (H9 os)).take a++(List.replicate c []).drop a:=by rw[hs];exact IS hi
  have e1l:(s.getD i []).length=c:=by rw[e1];simp;omega
  have hsl:s.length=X.length:=by rw[hs,AF]
  have hfew:=hF.few;rw[F7,A6 ha,AB,B6,B6,H8 (by omega),A1,q_ (by omega),A1,H8 (by omega),A1];have h4:=AO2 t ns os hF wants (s.set i ((s.getD i []).set a (List.replicate ns.length 0))) st rt i a (by rw[AF];omega) (by rw[IS (by omega),AF];omega) (by rw[IS (by omega),IS (by omega),BD]);rw[IS (by omega),List.set_set,List.set_set]at h4;rw[h4,A1,FR (by omega)];refine hn _ ?_;dsimp only;rw[e1,hs,List.set_set,A5j (by simp) (x:=H9 os) (by simp[ha])]
 ·unfold mP;dsimp only;rw[F7,A9 (AI _),AD];refine E0.2 ?_;rw[hs,BR (by simp),CZ (by simp),C1]
 ·rw[D1,D8,DR,<-hx,qZ hi]
theorem AO4(st:List Int)(rt:Int):
 mS ((t,ns,os,([]:List (List Int)),([]:List (List (List Int))),st,rt),(ns.length:Int),(ns.length:Int),0)=
  some (t,ns,os,os.map (fun o=>List.replicate (o.length+1) 0),os.map (fun o=>List.replicate (o.length+1) (H9 os)),st,rt):=by
 refine J3 ?_;refine F_ (σ:=Nat) ns.length (fun s i=>((t,ns,os,(os.take s).map (fun o=>List.replicate (o.length+1) 0),(os.take s).map (fun o=>List.replicate (o.length+1) (H9 os)),st,rt),(ns.length:Int),(ns.length:Int),i)) (fun i s=>s=i) (by have:=hF.few;omega) (fun next s i hi hj hn=>?_) (fun next s hj=>?_) 0 rfl
 ·subst hj;unfold mR;dsimp only;have hfew:=hF.few;have hso:s<os.length:=by rw[hF.len];exact hi
  have hsm:=hF.small _ (B9 hso);rw[F7,A6 hi,AB,FK (A0 hso),A1,FR (by omega),FR (by omega)];rw[show((os[s].length:Int)+1)=((os[s].length+1:Nat):Int) by omega,q_ (by omega),A1];refine D_.2 (FZ.2 ⟨by simp only[AK,B4,AE,AL];omega,?_⟩);rw[q_ (by omega),A1];refine D_.2 (FZ.2 ⟨by simp only[AK,B4,AE,AL];omega,?_⟩);have hlen:((os.take s).map (fun o=>List.replicate (o.length+1) (H9 os))).length=s:=by rw[AK,B4];omega
  rw[AO3 (i:=s) (c:=os[s].length+1) (hi:=by rw[A7,hlen];simp) (hc:=by omega) (hx:=by rw[A2,AY (by omega),hlen,DM];rfl) (hF:=hF),A1];have:=hn (s+1) rfl;rw[GN (A0 hso),CM,CM]at this;rw[List.set_append_right _ _ (by omega),hlen,DM];exact this
 ·unfold mR;dsimp only;rw[F7,A9 (AI _),AD];exact E0.2 (by rw[hj,BR (by rw[hF.len];exact AJ _)])
end
def wa(W:List (List Int))(i a:Nat):Int:=(W.getD i []).getD a 0
def al(A:List (List (List Int)))(i a j:Nat):Int:=((A.getD i []).getD a []).getD j 0
def cnt(os:List (List DZ))(i:Nat):Nat:=(os.getD i []).length
structure ShW(n:Nat)(os:List (List DZ))(W:List (List Int)):Prop where
 len:W.length=n
 row:∀i<n,(W.getD i []).length=cnt os i+1
 in16:∀i a,FV (wa W i a)
structure ShA(n:Nat)(os:List (List DZ))(A:List (List (List Int))):Prop where
 len:A.length=n
 row:∀i<n,(A.getD i []).length=cnt os i+1
 cell:∀i<n,∀a,a<cnt os i+1->((A.getD i []).getD a []).length=n
 in16:∀i a j,FV (al A i a j)
structure ShS(n:Nat)(st:List Int):Prop where
 len:st.length=n
 in16:∀i,FV (st.getD i 0)
theorem NZ{α:Type}{l:List α}{i:Nat}{d:α}(h:l.length<=i):l.getD i d=d:=by
 rw[A2,B3 h];rfl
theorem dW{n:Nat}{st:List Int}(h:ShS n st){i:Nat}{x:Int}(hi:i<n)(hx:FV x):ShS n (st.set i x)/\∀i',(st.set i x).getD i' 0=if i'=i then x else st.getD i' 0:=by
 have e:∀i',(st.set i x).getD i' 0=if i'=i then x else st.getD i' 0:=by
  intro i';by_cases hii:i'=i
  ·subst hii;rw[if_pos rfl,IS (by rw[h.len];exact hi)]
  ·rw[if_neg hii,getD_set_ne (fun e=>hii e.symm)]
 refine⟨⟨by rw[AF,h.len],fun i'=>?_⟩,e⟩;rw[e];split
 ·exact hx
 ·exact h.in16 _
theorem AO5{n:Nat}{os:List (List DZ)}{W:List (List Int)}(h:ShW n os W){i a:Nat}{x:Int}(hi:i<n)(ha:a<cnt os i+1)(hx:FV x):
 ShW n os (W.set i ((W.getD i []).set a x))/\∀i' a',wa (W.set i ((W.getD i []).set a x)) i' a'=if i'=i/\a'=a then x else wa W i' a':=by
 have hl:=h.len;have hr:=h.row i hi
 have e:∀i' a',wa (W.set i ((W.getD i []).set a x)) i' a'=if i'=i/\a'=a then x else wa W i' a':=by
  intro i' a';unfold wa;by_cases hii:i'=i
  ·subst hii;rw[IS (by omega)];by_cases haa:a'=a
   ·subst haa;rw[if_pos ⟨rfl,rfl⟩,IS (by omega)]
   ·rw[if_neg (fun e=>haa e.2),getD_set_ne (fun e=>haa e.symm)]
  ·rw[if_neg (fun e=>hii e.1),getD_set_ne (fun e=>hii e.symm)]
 refine⟨⟨by rw[AF,hl],fun i' hi'=>?_,fun i' a'=>?_⟩,e⟩
 ·by_cases hii:i'=i
  ·subst hii;rw[IS (by omega),AF,hr]
  ·rw[getD_set_ne (fun e=>hii e.symm)];exact h.row _ hi'
 ·rw[e];split
  ·exact hx
  ·exact h.in16 _ _
theorem A5k{n:Nat}{os:List (List DZ)}{A:List (List (List Int))}(h:ShA n os A){i a j:Nat}{x:Int}(hi:i<n)(ha:a<cnt os i+1)(hj:j<n)(hx:FV x):
 ShA n os (A.set i ((A.getD i []).set a (((A.getD i []).getD a []).set j x)))/\
 ∀i' a' j',al (A.set i ((A.getD i []).set a (((A.getD i []).getD a []).set j x))) i' a' j'=if i'=i/\a'=a/\j'=j then x else al A i' a' j':=by
 have hl:=h.len;have hr:=h.row i hi;have hc:=h.cell i hi a ha
 have e:∀i' a' j',al (A.set i ((A.getD i []).set a (((A.getD i []).getD a []).set j x))) i' a' j'=if i'=i/\a'=a/\j'=j then x else al A i' a' j':=by
  intro i' a' j';unfold al;by_cases hii:i'=i
  ·subst hii;rw[IS (by omega)];by_cases haa:a'=a
   ·subst haa;rw[IS (by omega)];by_cases hjj:j'=j
    ·subst hjj;rw[if_pos ⟨rfl,rfl,rfl⟩,IS (by omega)]
    ·rw[if_neg (fun e=>hjj e.2.2),getD_set_ne (fun e=>hjj e.symm)]
   ·rw[if_neg (fun e=>haa e.2.1),getD_set_ne (fun e=>haa e.symm)]
  ·rw[if_neg (fun e=>hii e.1),getD_set_ne (fun e=>hii e.symm)]
 refine⟨⟨by rw[AF,hl],fun i' hi'=>?_,fun i' hi' a' ha'=>?_,fun i' a' j'=>?_⟩,e⟩
 ·by_cases hii:i'=i
  ·subst hii;rw[IS (by omega),AF,hr]
  ·rw[getD_set_ne (fun e=>hii e.symm)];exact h.row _ hi'
 ·by_cases hii:i'=i
  ·subst hii;rw[IS (by omega)];by_cases haa:a'=a
   ·subst haa;rw[IS (by omega),AF,hc]
   ·rw[getD_set_ne (fun e=>haa e.symm)];exact h.cell _ hi' _ ha'
  ·rw[getD_set_ne (fun e=>hii e.symm)];exact h.cell _ hi' _ ha'
 ·rw[e];split
  ·exact hx
  ·exact h.in16 _ _ _
noncomputable def IT(o:List DZ)(r:Rg):Nat->Bool
 |0=>false
 |k+1=>match o[k]? with
  |some v=>NX r v
  |none=>false
theorem A5l{o:List DZ}{r:Rg}{k:Nat}{v:DZ}(h:o[k]?=some v):IT o r (k+1)=NX r v:=by
 show(match o[k]? with|some v=>NX r v|none=>false)=_;rw[h]
theorem AO6{o:List DZ}{r:Rg}{k:Nat}(h:o[k]?=none):IT o r (k+1)=false:=by
 show(match o[k]? with|some v=>NX r v|none=>false)=_;rw[h]
theorem AO7{o:List DZ}{r:Rg}{b:Nat}(h:IT o r b=true):1<=b/\b<=o.length:=by
 cases b with
 |zero=>cases h
 |succ k=>
  refine⟨by omega,?_⟩;cases hk:o[k]? with
  |none=>rw[AO6 hk]at h;cases h
  |some v=>exact(AC.1 hk).1
theorem A5m(S:VE)(i:Nat)(o:List DZ)(r:Rg)(ho:S.2.2.1[i]?=some o)(hl:o.length<=8)(hv:∀v∈o,v.length<=1048576)(hr:∀s∈r.2,RX s):
 Tot (UR (some S,(i:Int),r)) (fun w=>FV w/\∀b,bt w b=IT o r b):=by
 unfold UR;dsimp only;rw[A1,FK ho,A1];refine D_.2 (Tot.mono (P:=fun w=>FV w/\∀b,bt w b=IT o r b) ?_ fun _ h=>E0.2 h);refine F_ (σ:=Int) o.length (fun s k=>(r,s,o,(o.length:Int),k)) (fun k s=>FV s/\∀b,bt s b=(IT o r b&&decide (b<=k))) (by omega) (fun next s k hk hs hn=>?_) (fun next s hs=>?_) 0 ⟨NV,fun b=>?_⟩
 ·unfold mL;dsimp only;rw[F7,A6 hk,AB,FK (A0 hk),A1,FR (by omega)];obtain⟨q,h1,h2⟩:=A5Z r o[k] hr (hv _ (B9 hk));rw[h1,A1,h2];have hin:IT o r (k+1)=NX r o[k]:=A5l (A0 hk);refine E1.2 ⟨fun hc=>?_,fun hc=>?_⟩
  ·rw[show((k:Int)+1)=((k+1:Nat):Int) by omega,(IQ (i:=k+1) (by omega)).1,A1,<-show((k:Int)+1)=((k+1:Nat):Int) by omega];obtain⟨g1,g2⟩:=dQ hs.1 (IQ (i:=k+1) (by omega)).2;refine hn _ ⟨g1,fun b=>?_⟩;rw[g2,hs.2,KV];by_cases hb:b=k+1
   ·subst hb;rw[hin,hc];simp
   ·have e1:decide (k+1=b)=false:=A9 (fun e=>hb e.symm);have e2:decide (b<=k+1)=decide (b<=k):=by by_cases h:b<=k<;>simp[h]<;>omega
    rw[e1,e2,Bool.or_false]
  ·refine hn _ ⟨hs.1,fun b=>?_⟩;rw[hs.2];by_cases hb:b=k+1
   ·subst hb;rw[hin,hc];simp
   ·have e2:decide (b<=k+1)=decide (b<=k):=by by_cases h:b<=k<;>simp[h]<;>omega
    rw[e2]
 ·unfold mL;dsimp only;rw[F7,A9 (AI _),AD];refine E0.2 ⟨hs.1,fun b=>?_⟩;rw[hs.2];cases hb:IT o r b with
  |false=>rfl
  |true=>rw[A6 (AO7 hb).2];rfl
 ·rw[P5];cases b with
  |zero=>rfl
  |succ b=>simp
structure Fy(ns:List DZ)(os:List (List DZ)):Prop extends Fx ns os where
 nodup:ns.Nodup
 vers:∀o∈os,∀v∈o,v.length<=1048576
theorem M8{l:List DZ}(h:l.Nodup){i j:Nat}{x:DZ}(hi:l[i]?=some x)(hj:l[j]?=some x):i=j:=by
 obtain⟨h1,h2⟩:=AC.1 hi;obtain⟨h3,h4⟩:=AC.1 hj;exact(List.getElem_inj h).1 (h2.trans h4.symm)
structure Rel(ns:List DZ)(os:List (List DZ))(M:Nat->Nat->FW->Prop)(W:List (List Int))(A:List (List (List Int)))(st:List Int):Prop where
 shW:ShW ns.length os W
 shA:ShA ns.length os A
 shS:ShS ns.length st
 st:∀i<ns.length,∀a,bt (st.getD i 0) a=true<->a<=cnt os i/\∀nd,M i a nd->nd.1∈ns
 wa:∀i<ns.length,∀a≤cnt os i,∀k,bt (wa W i a) k=true<->∃nd,M i a nd/\ns[k]?=some nd.1
 al:∀i<ns.length,∀a≤cnt os i,∀j<ns.length,∀b,bt (al A i a j) b=true<->b<=cnt os j/\(∀nd,M i a nd->ns[j]?=some nd.1->IT (os.getD j []) nd.2.1 b=true)/\
  (∀nd,M j b nd->ns[i]?=some nd.1->IT (os.getD i []) nd.2.1 a=true)
theorem Rel.congr{ns:List DZ}{os:List (List DZ)}{M M':Nat->Nat->FW->Prop}{W:List (List Int)}{A:List (List (List Int))}{st:List Int}(h:Rel ns os M W A st)(e:∀i a nd,M i a nd<->M' i a nd):Rel ns os M' W A st:=by
 have:M=M':=funext fun i=>funext fun a=>funext fun nd=>propext (e i a nd);rwa[<-this]
theorem A5n{α:Type}{l:List α}{i:Nat}{d:α}(h:i<l.length):l.getD i d∈l:=by
 rw[A2,A0 h];exact B9 h
section
variable{t:FG}{ns:List DZ}{os:List (List DZ)}(hF:Fy ns os)
include hF
theorem LN(i:Nat):cnt os i<=8:=by
 unfold cnt;rcases C4 i os.length with h|h
 ·exact hF.small _ (A5n h)
 ·rw[NZ h];decide
theorem AO8(W:List (List Int))(A:List (List (List Int)))(st:List Int)(rt:Int)(hA:ShA ns.length os A)(i a j:Nat)(hi:i<ns.length)(ha:a<=cnt os i)(hj:j<ns.length)(w:Int)(hw:FV w):
 Tot (mM ((t,ns,os,W,A,st,rt),(i:Int),(a:Int),(j:Int),w,(((A.getD j []).length:Nat):Int),0)) (fun S'=>∃ A',S'=(t,ns,os,W,A',st,rt)/\ShA ns.length os A' /\
  ∀i' a' j' b,(i'=j->a'<=cnt os j)->bt (al A' i' a' j') b=(bt (al A i' a' j') b && !(decide (i'=j/\j'=i/\b=a) && !bt w a'))):=by
 have hrow:=hA.row j hj;have hcn:=LN hF j;have hci:=LN hF i;rw[hrow]
 have:=F_ (r:=bM) (R:=VE) (σ:=List (List (List Int))) (cnt os j+1) (fun s b=>((t,ns,os,W,s,st,rt),(i:Int),(a:Int),(j:Int),w,((cnt os j+1:Nat):Int),b))
  (fun b0 s=>ShA ns.length os s/\∀i' a' j' b,bt (al s i' a' j') b=(bt (al A i' a' j') b && !(decide (i'=j/\j'=i/\b=a)&&(!bt w a'&&decide (a'<b0)))))
  (Q:=fun S'=>∃ A',S'=(t,ns,os,W,A',st,rt)/\ShA ns.length os A' /\
   ∀i' a' j' b,(i'=j->a'<=cnt os j)->bt (al A' i' a' j') b=(bt (al A i' a' j') b && !(decide (i'=j/\j'=i/\b=a) && !bt w a')))
  (by omega) (fun next s b0 hb hs hn=>?_) (fun next s hs=>?_) A ⟨hA,fun i' a' j' b=>by simp⟩
 ·exact this
 ·obtain⟨hsA,hs⟩:=hs;unfold bM;dsimp only;rw[F7,A6 hb,AB,P6 hw,A1,FR (by omega)];have hsr:=hsA.row j hj;have hsc:=hsA.cell j hj b0 hb;refine E1.2 ⟨fun hc=>?_,fun hc=>?_⟩
  ·have hc:bt w b0=false:=by simpa using hc
   rw[B6,B6,B6,H8 (by rw[hsA.len];exact hj),A1,H8 (by omega),A1,H8 (by omega),A1,(IQ (i:=a) (by omega)).1,A1,A1];obtain⟨g1,g2⟩:=A5T (hsA.in16 j b0 i) (IQ (i:=a) (by omega)).2;obtain⟨k1,k2⟩:=A5k hsA hj hb hi g1;refine hn _ ⟨k1,fun i' a' j' b=>?_⟩;have e:=k2 i' a' j';have e':al (s.set j ((s.getD j []).set b0 (((s.getD j []).getD b0 []).set i (MC IntKind.u16 (((s.getD j []).getD b0 []).getD i 0) ((2 ^ a:Nat):Int))))) i' a' j'=if i'=j/\a'=b0/\j'=i then MC IntKind.u16 (al s j b0 i) ((2 ^ a:Nat):Int)else al s i' a' j':=e;rw[e'];split
   ·rename_i h;obtain⟨rfl,rfl,rfl⟩:=h;rw[g2,hs,KV,hc];by_cases hba:b=a
    ·subst hba;simp
    ·have:¬a=b:=fun e=>hba e.symm;simp[hba,this]
   ·rename_i h;rw[hs];by_cases h1:i'=j/\j'=i/\b=a
    ·have:¬a'=b0:=fun e=>h ⟨h1.1,e,h1.2.1⟩;have e2:decide (a'<b0+1)=decide (a'<b0):=by by_cases h:a'<b0<;>simp[h]<;>omega
     rw[e2]
    ·rw[A9 h1];simp
  ·have hc:bt w b0=true:=by simpa using hc
   refine hn _ ⟨hsA,fun i' a' j' b=>?_⟩;rw[hs];by_cases hab:a'=b0
   ·subst hab;rw[hc];simp
   ·have e2:decide (a'<b0+1)=decide (a'<b0):=by by_cases h:a'<b0<;>simp[h]<;>omega
    rw[e2]
 ·obtain⟨hsA,hs⟩:=hs;unfold bM;dsimp only;rw[F7,A9 (AI _),AD];refine E0.2 ⟨s,rfl,hsA,fun i' a' j' b ha'=>?_⟩;rw[hs];by_cases hij:i'=j
  ·have:=ha' hij;rw[A6 (by omega:a'<cnt os j+1),Bool.and_true]
  ·rw[A9 (fun h=>hij h.1)];simp
theorem AO9{M:Nat->Nat->FW->Prop}{W:List (List Int)}{A:List (List (List Int))}{st:List Int}{rt:Int}(hR:Rel ns os M W A st)(i a:Nat)(hi:i<ns.length)(ha0:1<=a)(ha:a<=cnt os i)(nd:FW)(hnd:JS nd)(hself:ns[i]?≠some nd.1):
 Tot (bN ((t,ns,os,W,A,st,rt),(i:Int),(a:Int),nd)) (fun S'=>∃W' A' st',S'=(t,ns,os,W',A',st',rt)/\Rel ns os (fun i' a' nd'=>M i' a' nd'\/(i'=i/\a'=a/\nd'=nd)) W' A' st'):=by
 have hcn:=LN hF i;have hfew:=hF.few;unfold bN MW;dsimp only;rw[A1,RW _ _ (by dsimp only;omega),A1,A1];refine E1.2 ⟨fun hc=>?_,fun hc=>?_⟩
 ·have hno:=(VG _ _).1 (A8 hc);rw[B6,H8 (by rw[hR.shS.len];exact hi),A1,(IQ (i:=a) (by omega)).1,A1,A1];obtain⟨g1,g2⟩:=A5T (hR.shS.in16 i) (IQ (i:=a) (by omega)).2;obtain⟨k1,k2⟩:=dW hR.shS hi g1;refine E0.2 ⟨_,_,_,rfl,⟨hR.shW,hR.shA,k1,fun i' hi' a'=>?_,fun i' hi' a' ha' k=>?_,fun i' hi' a' ha' j' hj' b=>?_⟩⟩
  ·rw[k2];split
   ·rename_i h;subst h;rw[g2,KV,A5,hR.st _ hi'];constructor
    ·rintro⟨⟨h1,h2⟩,h3⟩;refine⟨h1,fun nd' h=>?_⟩;rcases h with h|⟨_,rfl,_⟩
     ·exact h2 _ h
     ·simp at h3
    ·rintro⟨h1,h2⟩;refine⟨⟨h1,fun nd' h=>h2 _ (.inl h)⟩,?_⟩;by_cases haa:a=a'
     ·subst haa;exact absurd (h2 nd (.inr ⟨rfl,rfl,rfl⟩)) hno
     ·simp[haa]
   ·rename_i h;rw[hR.st _ hi'];constructor
    ·rintro⟨h1,h2⟩;exact⟨h1,fun nd' hh=>hh.elim (h2 _) fun hh=>absurd hh.1 h⟩
    ·rintro⟨h1,h2⟩;exact⟨h1,fun nd' hh=>h2 _ (.inl hh)⟩
  ·rw[hR.wa _ hi' _ ha'];constructor
   ·rintro⟨nd',h1,h2⟩;exact⟨nd',.inl h1,h2⟩
   ·rintro⟨nd',h1|⟨_,_,rfl⟩,h2⟩
    ·exact⟨nd',h1,h2⟩
    ·exact absurd (AX h2) hno
  ·rw[hR.al _ hi' _ ha' _ hj'];constructor
   ·rintro⟨h1,h2,h3⟩;refine⟨h1,fun nd' hh he=>hh.elim (fun hh=>h2 _ hh he) fun hh=>?_,fun nd' hh he=>hh.elim (fun hh=>h3 _ hh he) fun hh=>?_⟩
    ·obtain⟨_,_,rfl⟩:=hh;exact absurd (AX he) hno
    ·obtain⟨_,_,rfl⟩:=hh;exact absurd (AX he) hno
   ·rintro⟨h1,h2,h3⟩;exact⟨h1,fun nd' hh he=>h2 _ (.inl hh) he,fun nd' hh he=>h3 _ (.inl hh) he⟩
 ·have hyes:¬_:=AG hc;rcases M6 (fun x=>decide (nd.1=x)) ns with⟨h1,_⟩|⟨j,x,h1,hjn,h3,_⟩
  ·rw[h1]at hyes;exact absurd (by decide) hyes
  rw[h1];have hx:nd.1=x:=A8 h3;subst hx;have hj:=(AC.1 hjn).1;have hij:i≠j:=fun e=>hself (by rw[e];exact hjn)
  have hjo:os[j]?=some (os.getD j []):=by
   rw[A2,A0 (by rw[hF.len];exact hj)];rfl
  have hmem:os.getD j []∈os:=AX hjo;have hWi:=hR.shW.row i hi;have hAi:=hR.shA.row i hi;have hAc:=hR.shA.cell i hi a (by omega);rw[B6,B6,B6,H8 (by rw[hR.shW.len];exact hi),A1,H8 (by omega),A1,(IQ (i:=j) (by omega)).1,A1,A1];obtain⟨g1,g2⟩:=dQ (hR.shW.in16 i a) (IQ (i:=j) (by omega)).2;obtain⟨k1,k2⟩:=AO5 hR.shW hi (show a<cnt os i+1 by omega) g1;refine D_.2 ((A5m _ j (os.getD j []) nd.2.1 hjo (hF.small _ hmem) (hF.vers _ hmem) hnd.2).mono fun w hw=>?_);rw[H8 (by rw[hR.shA.len];exact hi),A1,H8 (by omega),A1,H8 (by omega),A1,A1];obtain⟨m1,m2⟩:=RV (hR.shA.in16 i a j) hw.1;obtain⟨n1,n2⟩:=A5k hR.shA hi (show a<cnt os i+1 by omega) hj m1;rw[H8 (by rw[AF,hR.shA.len];exact hj),A1];refine D_.2 ((AO8 hF _ _ st rt n1 i a j hi ha hj w hw.1).mono fun S' hS=>?_);obtain⟨A',rfl,hA',hal⟩:=hS;refine E0.2 ⟨_,A',st,rfl,⟨k1,hA',hR.shS,fun i' hi' a'=>?_,fun i' hi' a' ha' k=>?_,fun i' hi' a' ha' j' hj' b=>?_⟩⟩
  ·rw[hR.st _ hi'];constructor
   ·rintro⟨h1,h2⟩;exact⟨h1,fun nd' hh=>hh.elim (h2 _) fun hh=>by obtain⟨_,_,rfl⟩:=hh;exact AX hjn⟩
   ·rintro⟨h1,h2⟩;exact⟨h1,fun nd' hh=>h2 _ (.inl hh)⟩
  ·have e:wa (W.set i ((W.getD i []).set a (HB IntKind.u16 ((W.getD i []).getD a 0) ((2 ^ j:Nat):Int)))) i' a'=if i'=i/\a'=a then HB IntKind.u16 (wa W i a) ((2 ^ j:Nat):Int)else wa W i' a':=k2 i' a';rw[e];split
   ·rename_i h;obtain⟨rfl,rfl⟩:=h;rw[g2,KV,BF,hR.wa _ hi' _ ha'];constructor
    ·rintro(⟨nd',h1,h2⟩|h)
     ·exact⟨nd',.inl h1,h2⟩
     ·have:=A8 h;subst this;exact⟨nd,.inr ⟨rfl,rfl,rfl⟩,hjn⟩
    ·rintro⟨nd',h1|⟨_,_,rfl⟩,h2⟩
     ·exact .inl ⟨nd',h1,h2⟩
     ·exact .inr (A6 (M8 hF.nodup hjn h2))
   ·rename_i h;rw[hR.wa _ hi' _ ha'];constructor
    ·rintro⟨nd',h1,h2⟩;exact⟨nd',.inl h1,h2⟩
    ·rintro⟨nd',h1|⟨e1,e2,rfl⟩,h2⟩
     ·exact⟨nd',h1,h2⟩
     ·exact absurd ⟨e1,e2⟩ h
  ·have base:=hR.al _ hi' _ ha' _ hj' b;by_cases hcase:i'=j
   ·
    rw[hal _ _ _ _ (fun h=>by rw[<-h];exact ha'),n2,if_neg (fun h=>hij (h.1.symm.trans hcase)),A5,base];by_cases h2:j'=i/\b=a
    ·have hw':bt w a'=IT (os.getD i' []) nd.2.1 a':=by rw[hcase];exact hw.2 a'
     have hin:ns[i']?=some nd.1:=by rw[hcase];exact hjn
     rw[A6 ⟨hcase,h2.1,h2.2⟩,CF,Bool.not_not,hw'];constructor
     ·rintro⟨⟨h1,h2',h3⟩,h4⟩;refine⟨h1,fun nd' hh he=>hh.elim (fun hh=>h2' _ hh he) fun hh=>absurd (hh.1.symm.trans hcase) hij,fun nd' hh he=>hh.elim (fun hh=>h3 _ hh he) fun hh=>?_⟩;rw[hh.2.2];exact h4
     ·rintro⟨h1,h2',h3⟩;exact⟨⟨h1,fun nd' hh he=>h2' _ (.inl hh) he,fun nd' hh he=>h3 _ (.inl hh) he⟩,h3 nd (.inr ⟨h2.1,h2.2,rfl⟩) hin⟩
    ·rw[A9 (fun h=>h2 h.2),BZ,CW];constructor
     ·rintro⟨⟨h1,h2',h3⟩,_⟩;exact⟨h1,fun nd' hh he=>hh.elim (fun hh=>h2' _ hh he) fun hh=>absurd (hh.1.symm.trans hcase) hij,fun nd' hh he=>hh.elim (fun hh=>h3 _ hh he) fun hh=>absurd ⟨hh.1,hh.2.1⟩ h2⟩
     ·rintro⟨h1,h2',h3⟩;exact⟨⟨h1,fun nd' hh he=>h2' _ (.inl hh) he,fun nd' hh he=>h3 _ (.inl hh) he⟩,rfl⟩
   ·
    rw[hal _ _ _ _ (fun h=>absurd h hcase),n2,A9 (fun h=>hcase h.1),BZ,CW,Bool.and_true];split
    ·rename_i h;obtain⟨rfl,rfl,rfl⟩:=h;rw[m2,A5,base,hw.2];constructor
     ·rintro⟨⟨h1,h2',h3⟩,h4⟩;refine⟨h1,fun nd' hh he=>hh.elim (fun hh=>h2' _ hh he) fun hh=>?_,fun nd' hh he=>hh.elim (fun hh=>h3 _ hh he) fun hh=>absurd hh.1.symm hij⟩;rw[hh.2.2];exact h4
     ·rintro⟨h1,h2',h3⟩;exact⟨⟨h1,fun nd' hh he=>h2' _ (.inl hh) he,fun nd' hh he=>h3 _ (.inl hh) he⟩,h2' nd (.inr ⟨rfl,rfl,rfl⟩) hjn⟩
    ·rename_i h;rw[base];constructor
     ·rintro⟨h1,h2',h3⟩;refine⟨h1,fun nd' hh he=>hh.elim (fun hh=>h2' _ hh he) fun hh=>?_,fun nd' hh he=>hh.elim (fun hh=>h3 _ hh he) fun hh=>?_⟩
      ·rw[hh.2.2]at he;exact absurd ⟨hh.1,hh.2.1,M8 hF.nodup he hjn⟩ h
      ·rw[hh.2.2]at he;exact absurd (M8 hF.nodup he hjn) hcase
     ·rintro⟨h1,h2',h3⟩;exact⟨h1,fun nd' hh he=>h2' _ (.inl hh) he,fun nd' hh he=>h3 _ (.inl hh) he⟩
end
def I6(t:FG)(ns:List DZ)(os:List (List DZ))(i:Nat):Nat->List FW
 |0=>[]
 |k+1=>match(os.getD i [])[k]?,ns[i]? with
  |some v,some nm=>HH t (nm,v)
  |_,_=>[]
theorem A5o{t:FG}{ns:List DZ}{os:List (List DZ)}{i k:Nat}{v nm:DZ}(h1:(os.getD i [])[k]?=some v)(h2:ns[i]?=some nm):I6 t ns os i (k+1)=HH t (nm,v):=by
 show(match(os.getD i [])[k]?,ns[i]? with|some v,some nm=>HH t (nm,v)|_,_=>[])=_;rw[h1,h2]
theorem S0{t:FG}{ns:List DZ}{os:List (List DZ)}{i a:Nat}{nd:FW}(h:nd∈I6 t ns os i a):∃k v nm,a=k+1/\(os.getD i [])[k]?=some v/\ns[i]?=some nm/\nd∈HH t (nm,v):=by
 cases a with
 |zero=>cases h
 |succ k=>
  have h:nd∈(match(os.getD i [])[k]?,ns[i]? with|some v,some nm=>HH t (nm,v)|_,_=>[]):=h;split at h
  ·rename_i v nm h1 h2;exact⟨k,v,nm,rfl,h1,h2,h⟩
  ·cases h
section
variable{t:FG}{ns:List DZ}{os:List (List DZ)}(hF:Fy ns os)(ht:TkB t)(hN:∀i a nd,nd∈I6 t ns os i a->JS nd/\ns[i]?≠some nd.1)
include hF ht hN
theorem AOA{M:Nat->Nat->FW->Prop}{W:List (List Int)}{A:List (List (List Int))}{st:List Int}{rt:Int}(hR:Rel ns os M W A st)(i k:Nat)(hi:i<ns.length)(hk:k<cnt os i)(l:List FW)(hl:l.length<=1048576)(hnd:∀nd∈l,JS nd/\ns[i]?≠some nd.1):
 Tot (mU ((t,ns,os,W,A,st,rt),(i:Int),(k:Int),l,(l.length:Int),0)) (fun S'=>∃W' A' st',S'=(t,ns,os,W',A',st',rt)/\Rel ns os (fun i' a' nd'=>M i' a' nd'\/(i'=i/\a'=k+1/\nd'∈l)) W' A' st'):=by
 have hcn:=LN hF i
 refine F_ (σ:=List (List Int)×List (List (List Int))×List Int) l.length (fun s m=>((t,ns,os,s.1,s.2.1,s.2.2,rt),(i:Int),(k:Int),l,(l.length:Int),m))
  (fun m s=>Rel ns os (fun i' a' nd'=>M i' a' nd'\/(i'=i/\a'=k+1/\nd'∈l.take m)) s.1 s.2.1 s.2.2) (by omega) (fun next s m hm hs hn=>?_) (fun next s hs=>?_) (W,A,st) ?_
 ·unfold mT;dsimp only;rw[F7,A6 hm,AB,FK (A0 hm),A1,FR (by omega),FR (by omega)];obtain⟨n1,n2⟩:=hnd _ (B9 hm);have:=AO9 (t:=t) (rt:=rt) hF hs i (k+1) hi (by omega) (by omega) l[m] n1 n2;rw[show((k+1:Nat):Int)=(k:Int)+1 by omega]at this;refine D_.2 (this.mono fun S' hS=>?_);obtain⟨W',A',st',rfl,hR'⟩:=hS;refine hn (W',A',st') (hR'.congr fun i' a' nd'=>?_);rw[GN (A0 hm),AQ,AR];constructor
  ·rintro((h|⟨h1,h2,h3⟩)|⟨h1,h2,h3⟩)
   ·exact .inl h
   ·exact .inr ⟨h1,h2,.inl h3⟩
   ·exact .inr ⟨h1,h2,.inr h3⟩
  ·rintro(h|⟨h1,h2,h3|h3⟩)
   ·exact .inl (.inl h)
   ·exact .inl (.inr ⟨h1,h2,h3⟩)
   ·exact .inr ⟨h1,h2,h3⟩
 ·unfold mT;dsimp only;rw[F7,A9 (AI _),AD];rw[B5]at hs;exact E0.2 ⟨_,_,_,rfl,hs⟩
 ·exact hR.congr fun i' a' nd'=>⟨.inl,fun h=>h.elim id fun h=>by simp at h⟩
theorem AOB{M:Nat->Nat->FW->Prop}{W:List (List Int)}{A:List (List (List Int))}{st:List Int}{rt:Int}(hR:Rel ns os M W A st)(i:Nat)(hi:i<ns.length):
 Tot (mW ((t,ns,os,W,A,st,rt),(i:Int),os.getD i [],((os.getD i []).length:Int),0)) (fun S'=>∃W' A' st',S'=(t,ns,os,W',A',st',rt)/\Rel ns os (fun i' a' nd'=>M i' a' nd'\/(i'=i/\nd'∈I6 t ns os i a')) W' A' st'):=by
 have hcn:=LN hF i;have hcd:cnt os i=(os.getD i []).length:=rfl
 refine F_ (σ:=List (List Int)×List (List (List Int))×List Int) (os.getD i []).length (fun s m=>((t,ns,os,s.1,s.2.1,s.2.2,rt),(i:Int),os.getD i [],((os.getD i []).length:Int),m))
  (fun m s=>Rel ns os (fun i' a' nd'=>M i' a' nd'\/(i'=i/\a'<=m/\nd'∈I6 t ns os i a')) s.1 s.2.1 s.2.2) (by omega) (fun next s k hk hs hn=>?_) (fun next s hs=>?_) (W,A,st) ?_
 ·unfold mV;dsimp only;have hv:(os.getD i [])[k]?=some (os.getD i [])[k]:=A0 hk;have hnm:ns[i]?=some ns[i]:=A0 hi;rw[F7,A6 hk,AB,FK hv,A1,FK hnm,A1,qV _ _ ht.offers (fun o ho=>(ht.offer o ho).2.2.1),A1,FR (by omega)];have hnd:=A5o (t:=t) hv hnm;rw[<-hnd]
  have hlen:(I6 t ns os i (k+1)).length<=1048576:=by
   rw[hnd];unfold HH;split
   ·rename_i o ho;exact A_ (BN _ _) (ht.offer o (DE ho)).2.2.1
   ·exact BQ _
  have:=AOA hF ht hN (rt:=rt) hs i k hi (by omega) (I6 t ns os i (k+1)) hlen (fun nd h=>hN i (k+1) nd h);refine D_.2 (this.mono fun S' hS=>?_);obtain⟨W',A',st',rfl,hR'⟩:=hS;refine hn (W',A',st') (hR'.congr fun i' a' nd'=>?_);constructor
  ·rintro((h|⟨h1,h2,h3⟩)|⟨h1,h2,h3⟩)
   ·exact .inl h
   ·exact .inr ⟨h1,by omega,h3⟩
   ·subst h2;exact .inr ⟨h1,by omega,h3⟩
  ·rintro(h|⟨h1,h2,h3⟩)
   ·exact .inl (.inl h)
   ·by_cases he:a'=k+1
    ·subst he;exact .inr ⟨h1,rfl,h3⟩
    ·exact .inl (.inr ⟨h1,by omega,h3⟩)
 ·unfold mV;dsimp only;rw[F7,A9 (AI _),AD];refine E0.2 ⟨_,_,_,rfl,hs.congr fun i' a' nd'=>?_⟩;constructor
  ·rintro(h|⟨h1,h2,h3⟩)
   ·exact .inl h
   ·exact .inr ⟨h1,h3⟩
  ·rintro(h|⟨h1,h3⟩)
   ·exact .inl h
   ·obtain⟨k,v,nm,rfl,h4,h5,h6⟩:=S0 h3;have:=(AC.1 h4).1;exact .inr ⟨h1,by omega,h3⟩
 ·refine hR.congr fun i' a' nd'=>⟨.inl,fun h=>h.elim id fun h=>?_⟩;obtain⟨h1,h2,h3⟩:=h;obtain⟨k,v,nm,rfl,_⟩:=S0 h3;omega
theorem AOC{W:List (List Int)}{A:List (List (List Int))}{st:List Int}{rt:Int}(hR:Rel ns os (fun _ _ _=>False) W A st):
 Tot (mY ((t,ns,os,W,A,st,rt),(ns.length:Int),0)) (fun S'=>∃W' A' st',S'=(t,ns,os,W',A',st',rt)/\Rel ns os (fun i' a' nd'=>nd'∈I6 t ns os i' a') W' A' st'):=by
 refine F_ (σ:=List (List Int)×List (List (List Int))×List Int) ns.length (fun s m=>((t,ns,os,s.1,s.2.1,s.2.2,rt),(ns.length:Int),m))
  (fun m s=>Rel ns os (fun i' a' nd'=>i'<m/\nd'∈I6 t ns os i' a') s.1 s.2.1 s.2.2) (by have:=hF.few;omega) (fun next s i hi hs hn=>?_) (fun next s hs=>?_) (W,A,st) ?_
 ·unfold mX;dsimp only;have hio:i<os.length:=by rw[hF.len];exact hi
  have ho:os[i]?=some (os.getD i []):=by
   rw[A2,A0 hio];rfl
  rw[F7,A6 hi,AB,FK ho,A1,FR (by have:=hF.few;omega)];refine D_.2 ((AOB hF ht hN (rt:=rt) hs i hi).mono fun S' hS=>?_);obtain⟨W',A',st',rfl,hR'⟩:=hS;refine hn (W',A',st') (hR'.congr fun i' a' nd'=>?_);constructor
  ·rintro(⟨h1,h2⟩|⟨rfl,h2⟩)
   ·exact⟨by omega,h2⟩
   ·exact⟨by omega,h2⟩
  ·rintro⟨h1,h2⟩;by_cases he:i'=i
   ·subst he;exact .inr ⟨rfl,h2⟩
   ·exact .inl ⟨by omega,h2⟩
 ·unfold mX;dsimp only;rw[F7,A9 (AI _),AD];refine E0.2 ⟨_,_,_,rfl,hs.congr fun i' a' nd'=>⟨fun h=>h.2,fun h=>⟨?_,h⟩⟩⟩;obtain⟨k,v,nm,rfl,h4,h5,h6⟩:=S0 h;exact(AC.1 h5).1
 ·exact hR.congr fun i' a' nd'=>⟨fun h=>h.elim,fun h=>by omega⟩
omit hN ht in
theorem AOD:Rel ns os (fun _ _ _=>False) (os.map fun o=>List.replicate (o.length+1) 0) (os.map fun o=>List.replicate (o.length+1) (H9 os)) (os.map fun o=>KF (o.length+1)):=by
 have hlen:=hF.len;have hcd:∀i,cnt os i=(os.getD i []).length:=fun _=>rfl
 have hop:∀i,i<ns.length->os[i]?=some (os.getD i []):=fun i hi=>by
  rw[A2,A0 (by omega)];rfl
 have hW:∀i,(os.map fun o=>List.replicate (o.length+1) (0:Int)).getD i []=if i<ns.length then List.replicate (cnt os i+1) 0 else []:=by
  intro i;split
  ·rename_i hi;rw[A2,AO,hop i hi];rfl
  ·rw[NZ (by rw[AK];omega)]
 have hA:∀i,(os.map fun o=>List.replicate (o.length+1) (H9 os)).getD i []=if i<ns.length then List.replicate (cnt os i+1) (H9 os)else []:=by
  intro i;split
  ·rename_i hi;rw[A2,AO,hop i hi];rfl
  ·rw[NZ (by rw[AK];omega)]
 have hrow:∀j,(H9 os).getD j 0=if j<ns.length then KF (cnt os j+1)else 0:=by
  intro j;unfold H9;split
  ·rename_i hi;rw[A2,AO,hop j hi];rfl
  ·rw[NZ (by rw[AK];omega)]
 have hfull:∀j,FV ((H9 os).getD j 0):=by
  intro j;rw[hrow];split
  ·exact(qS (n:=cnt os j+1) (by have:=LN hF j;omega)).2
  ·exact NV
 have hwa:∀i a,wa (os.map fun o=>List.replicate (o.length+1) (0:Int)) i a=0:=by
  intro i a;unfold wa;rw[hW];split
  ·rcases C4 a (cnt os i+1)with h|h
   ·rw[A2,CP,if_pos h];rfl
   ·rw[NZ (by rw[BD];exact h)]
  ·rfl
 have hal:∀i a j,al (os.map fun o=>List.replicate (o.length+1) (H9 os)) i a j=if i<ns.length/\a<cnt os i+1 then(H9 os).getD j 0 else 0:=by
  intro i a j;unfold al;rw[hA];by_cases hi:i<ns.length
  ·rw[if_pos hi];rcases C4 a (cnt os i+1)with h|h
   ·rw[if_pos ⟨hi,h⟩]
    congr 1
    rw[A2,CP,if_pos h];rfl
   ·rw[if_neg (by omega)];rw[NZ (l:=List.replicate _ _) (by rw[BD];exact h)];rfl
  ·rw[if_neg hi,if_neg (by omega)];rfl
 have hst:∀i,(os.map fun o=>KF (o.length+1)).getD i 0=if i<ns.length then KF (cnt os i+1)else 0:=hrow
 refine ⟨⟨by rw [AK,hlen],fun i hi=>by rw [hW,if_pos hi,BD],fun i a=>by rw [hwa]; exact NV⟩,
  ⟨by rw[AK,hlen],fun i hi=>by rw[hA,if_pos hi,BD],fun i hi a ha=>?_,fun i a j=>?_⟩,
  ⟨by rw[AK,hlen],hfull⟩,fun i hi a=>?_,fun i hi a ha k=>?_,fun i hi a ha j hj b=>?_⟩
 ·rw[hA,if_pos hi,A2,CP,if_pos ha];show(H9 os).length=_;unfold H9;rw[AK,hlen]
 ·rw[hal];split
  ·exact hfull j
  ·exact NV
 ·rw[hst,if_pos hi];unfold KF;rw[A5U];simp only[AS,false_implies,implies_true,and_true];omega
 ·rw[hwa,P5];simp
 ·rw[hal,if_pos ⟨hi,by omega⟩,hrow,if_pos hj];unfold KF;rw[A5U];simp only[AS,false_implies,implies_true,and_true];omega
theorem AOE(rt:Int):Tot (bO (t,ns,os,([]:List (List Int)),([]:List (List (List Int))),os.map (fun o=>KF (o.length+1)),rt)) (fun S'=>∃W' A' st',S'=(t,ns,os,W',A',st',rt)/\Rel ns os (fun i' a' nd'=>nd'∈I6 t ns os i' a') W' A' st'):=by
 unfold bO;dsimp only;rw[AO4 t ns os hF.toFx,A1];exact D_.2 ((AOC hF ht hN (AOD hF)).mono fun S' h=>E0.2 h)
end
structure Dm(n:Nat)(P:Nat->Nat->Prop)(R:Nat->Prop)(st:List Int)(rt:Int):Prop where
 shS:ShS n st
 in16:FV rt
 st:∀i<n,∀a,bt (st.getD i 0) a=true<->P i a
 rt:∀i,bt rt i=true<->R i
theorem Dm.congr{n:Nat}{P P':Nat->Nat->Prop}{R R':Nat->Prop}{st:List Int}{rt:Int}(h:Dm n P R st rt)(e:∀i<n,∀a,P i a<->P' i a)(e':∀i,R i<->R' i):Dm n P' R' st rt:=
 ⟨h.shS,h.in16,fun i hi a=>(h.st i hi a).trans (e i hi a),fun i=>(h.rt i).trans (e' i)⟩
theorem A5p{n:Nat}{P:Nat->Nat->Prop}{R:Nat->Prop}{st:List Int}{rt:Int}(h:Dm n P R st rt){j:Nat}(hj:j<n)(hj':j<=15){w:Int}(hw:FV w):
 Dm n (fun i a=>P i a/\(i=j->bt w a=true)) (fun i=>R i\/i=j) (st.set j (I7 IntKind.u16 (st.getD j 0) w)) (HB IntKind.u16 rt ((2 ^ j:Nat):Int)):=by
 obtain⟨g1,g2⟩:=RV (h.shS.in16 j) hw;obtain⟨k1,k2⟩:=dW h.shS hj g1;obtain⟨m1,m2⟩:=dQ h.in16 (IQ hj').2;refine⟨k1,m1,fun i hi a=>?_,fun i=>?_⟩
 ·rw[k2];split
  ·rename_i e;subst e;rw[g2,A5,h.st _ hi];exact⟨fun⟨x,y⟩=>⟨x,fun _=>y⟩,fun⟨x,y⟩=>⟨x,y rfl⟩⟩
  ·rename_i e;rw[h.st _ hi];exact⟨fun x=>⟨x,fun y=>absurd y e⟩,fun x=>x.1⟩
 ·rw[m2,KV,BF,h.rt,AS];exact⟨fun x=>x.imp id Eq.symm,fun x=>x.imp id Eq.symm⟩
def oF(o:List DZ)(v:DZ)(a:Nat):Bool:=match IG (fun x=>decide (v=x)) o with
 | .ofNat k=>decide (a=k+1)
 | .negSucc _=>false
section
variable{t:FG}{ns:List DZ}{os:List (List DZ)}(hF:Fy ns os)(ht:TkB t)
include hF ht
theorem AOF{W:List (List Int)}{A:List (List (List Int))}{st:List Int}{rt:Int}{P:Nat->Nat->Prop}{R:Nat->Prop}(hD:Dm ns.length P R st rt)(l:List FW)(hl:l.length<=1048576)(hnd:∀nd∈l,JS nd):
 Tot (m_ ((t,ns,os,W,A,st,rt),l,(l.length:Int),0)) (fun q=>match q with
  | .inl S'=>∃st' rt',S'=(t,ns,os,W,A,st',rt')/\(∀nd∈l,nd.1∈ns)/\Dm ns.length (fun i a=>P i a/\∀nd∈l,ns[i]?=some nd.1->IT (os.getD i []) nd.2.1 a=true) (fun i=>R i\/∃nd∈l,ns[i]?=some nd.1) st' rt'
  | .inr y=>y.2=false/\∃nd∈l,nd.1 ∉ ns):=by
 have hfew:=hF.few
 refine F_ (σ:=List Int×Int) l.length (fun s m=>((t,ns,os,W,A,s.1,s.2),l,(l.length:Int),m))
  (fun m s=>(∀nd∈l.take m,nd.1∈ns)/\Dm ns.length (fun i a=>P i a/\∀nd∈l.take m,ns[i]?=some nd.1->IT (os.getD i []) nd.2.1 a=true) (fun i=>R i\/∃nd∈l.take m,ns[i]?=some nd.1) s.1 s.2)
  (by omega) (fun next s m hm hs hn=>?_) (fun next s hs=>?_) (st,rt) ⟨by simp,hD.congr (fun i _ a=>by simp) (fun i=>by simp)⟩
 ·obtain⟨hall,hs⟩:=hs;unfold mZ MW;dsimp only;rw[F7,A6 hm,AB,FK (A0 hm),A1,A1,RW _ _ (by dsimp only;omega),A1,A1,FR (by omega)];refine E1.2 ⟨fun hc=>?_,fun hc=>?_⟩
  ·exact E0.2 ⟨rfl,l[m],B9 hm,(VG _ _).1 (A8 hc)⟩
  ·have hyes:¬_:=AG hc;rcases M6 (fun x=>decide (l[m].1=x)) ns with⟨h1,_⟩|⟨j,x,h1,hjn,h3,_⟩
   ·rw[h1]at hyes;exact absurd (by decide) hyes
   rw[h1];have hx:l[m].1=x:=A8 h3;subst hx;have hj:=(AC.1 hjn).1
   have hjo:os[j]?=some (os.getD j []):=by
    rw[A2,A0 (by rw[hF.len];exact hj)];rfl
   have hmem:os.getD j []∈os:=AX hjo;rw[B6,H8 (by rw[hs.shS.len];exact hj),A1];refine D_.2 ((A5m _ j (os.getD j []) l[m].2.1 hjo (hF.small _ hmem) (hF.vers _ hmem) (hnd _ (B9 hm)).2).mono fun w hw=>?_);rw[A1,(IQ (i:=j) (by omega)).1,A1];have hstep:=A5p hs hj (by omega) hw.1;refine hn (_,_) ⟨fun nd h=>?_,hstep.congr (fun i hi a=>?_) (fun i=>?_)⟩
   ·rw[GN (A0 hm),AQ,AR]at h;rcases h with h|rfl
    ·exact hall _ h
    ·exact AX hjn
   ·rw[GN (A0 hm)];constructor
    ·rintro⟨⟨h1,h2⟩,h3⟩;refine⟨h1,fun nd h he=>?_⟩;rw[AQ,AR]at h;rcases h with h|rfl
     ·exact h2 _ h he
     ·have:=M8 hF.nodup he hjn;subst this;rw[<-hw.2];exact h3 rfl
    ·rintro⟨h1,h2⟩;refine⟨⟨h1,fun nd h he=>h2 _ (AP _ h) he⟩,fun h=>?_⟩;subst h;rw[hw.2];exact h2 _ (AT _ (AR.2 rfl)) hjn
   ·rw[GN (A0 hm)];constructor
    ·rintro((h|⟨nd,h,he⟩)|rfl)
     ·exact .inl h
     ·exact .inr ⟨nd,AP _ h,he⟩
     ·exact .inr ⟨l[m],AT _ (AR.2 rfl),hjn⟩
    ·rintro(h|⟨nd,h,he⟩)
     ·exact .inl (.inl h)
     ·rw[AQ,AR]at h;rcases h with h|rfl
      ·exact .inl (.inr ⟨nd,h,he⟩)
      ·exact .inr (M8 hF.nodup he hjn)
 ·unfold mZ;dsimp only;rw[F7,A9 (AI _),AD];rw[B5]at hs;exact E0.2 ⟨_,_,rfl,hs⟩
theorem AOG(o:List DZ)(v:DZ)(ho:o.length<=8):Tot (bP ((0:Int),IG (fun x=>decide (v=x)) o,decide ((0:Int)<=IG (fun x=>decide (v=x)) o))) (fun w=>FV w/\∀a,bt w a=oF o v a):=by
 unfold bP oF;dsimp only;rcases M6 (fun x=>decide (v=x)) o with⟨h1,_⟩|⟨j,x,h1,hjn,h3,_⟩
 ·rw[h1];exact E0.2 ⟨NV,fun a=>P5 a⟩
 ·have hj:=(AC.1 hjn).1;rw[h1,A6 (by omega),AB,FR (by omega)];have:=IQ (i:=j+1) (by omega);rw[show((j:Int)+1)=((j+1:Nat):Int) by omega,this.1,A1];refine E0.2 ⟨this.2,fun a=>?_⟩;rw[KV];show _=decide (a=j+1);by_cases h:a=j+1
  ·subst h;simp
  ·rw[A9 h,A9 (fun e=>h e.symm)]
theorem AOH{W:List (List Int)}{A:List (List (List Int))}{st:List Int}{rt:Int}{P:Nat->Nat->Prop}{R:Nat->Prop}(hD:Dm ns.length P R st rt)(l:List DZ)(hl:l.length<=1048576):
 Tot (nB ((t,ns,os,W,A,st,rt),l,(l.length:Int),0)) (fun q=>match q with
  | .inl S'=>∃st' rt',S'=(t,ns,os,W,A,st',rt')/\(∀fz∈l,fz∈ns)/\Dm ns.length (fun i a=>P i a/\∀fz∈l,ns[i]?=some fz->oF (os.getD i []) (FD t.2.2.2.1 fz).1 a=true) (fun i=>R i\/∃fz∈l,ns[i]?=some fz) st' rt'
  | .inr y=>y.2=false/\∃fz∈l,fz ∉ ns):=by
 have hfew:=hF.few
 refine F_ (σ:=List Int×Int) l.length (fun s m=>((t,ns,os,W,A,s.1,s.2),l,(l.length:Int),m))
  (fun m s=>(∀fz∈l.take m,fz∈ns)/\Dm ns.length (fun i a=>P i a/\∀fz∈l.take m,ns[i]?=some fz->oF (os.getD i []) (FD t.2.2.2.1 fz).1 a=true) (fun i=>R i\/∃fz∈l.take m,ns[i]?=some fz) s.1 s.2)
  (by omega) (fun next s m hm hs hn=>?_) (fun next s hs=>?_) (st,rt) ⟨by simp,hD.congr (fun i _ a=>by simp) (fun i=>by simp)⟩
 ·obtain⟨hall,hs⟩:=hs;unfold nA MW;dsimp only;rw[F7,A6 hm,AB,FK (A0 hm),A1,A1,RW _ _ (by dsimp only;omega),A1,A1,FR (by omega)];refine E1.2 ⟨fun hc=>?_,fun hc=>?_⟩
  ·exact E0.2 ⟨rfl,l[m],B9 hm,(VG _ _).1 (A8 hc)⟩
  ·have hyes:¬_:=AG hc;rcases M6 (fun x=>decide (l[m]=x)) ns with⟨h1,_⟩|⟨j,x,h1,hjn,h3,_⟩
   ·rw[h1]at hyes;exact absurd (by decide) hyes
   rw[h1];have hx:l[m]=x:=A8 h3;subst hx;have hj:=(AC.1 hjn).1
   have hjo:os[j]?=some (os.getD j []):=by
    rw[A2,A0 (by rw[hF.len];exact hj)];rfl
   have hmem:os.getD j []∈os:=AX hjo;have hsm:=hF.small _ hmem;rw[P7 _ _ (by have:=ht.old;omega),A1,FK hjo,A1,RW _ _ (by omega),A1];refine D_.2 ((AOG hF ht (os.getD j []) (FD t.2.2.2.1 l[m]).1 hsm).mono fun w hw=>?_);rw[B6,H8 (by rw[hs.shS.len];exact hj),A1,A1,(IQ (i:=j) (by omega)).1,A1];have hstep:=A5p hs hj (by omega) hw.1;refine hn (_,_) ⟨fun fz h=>?_,hstep.congr (fun i hi a=>?_) (fun i=>?_)⟩
   ·rw[GN (A0 hm),AQ,AR]at h;rcases h with h|rfl
    ·exact hall _ h
    ·exact AX hjn
   ·rw[GN (A0 hm)];constructor
    ·rintro⟨⟨h1,h2⟩,h3⟩;refine⟨h1,fun fz h he=>?_⟩;rw[AQ,AR]at h;rcases h with h|rfl
     ·exact h2 _ h he
     ·have:=M8 hF.nodup he hjn;subst this;rw[<-hw.2];exact h3 rfl
    ·rintro⟨h1,h2⟩;refine⟨⟨h1,fun fz h he=>h2 _ (AP _ h) he⟩,fun h=>?_⟩;subst h;rw[hw.2];exact h2 _ (AT _ (AR.2 rfl)) hjn
   ·rw[GN (A0 hm)];constructor
    ·rintro((h|⟨fz,h,he⟩)|rfl)
     ·exact .inl h
     ·exact .inr ⟨fz,AP _ h,he⟩
     ·exact .inr ⟨l[m],AT _ (AR.2 rfl),hjn⟩
    ·rintro(h|⟨fz,h,he⟩)
     ·exact .inl (.inl h)
     ·rw[AQ,AR]at h;rcases h with h|rfl
      ·exact .inl (.inr ⟨fz,h,he⟩)
      ·exact .inr (M8 hF.nodup he hjn)
 ·unfold nA;dsimp only;rw[F7,A9 (AI _),AD];rw[B5]at hs;exact E0.2 ⟨_,_,rfl,hs⟩
end
structure Good(t:FG)(ns:List DZ)(os:List (List DZ))(W:List (List Int))(A:List (List (List Int)))(st:List Int)(rt:Int):Prop where
 shW:ShW ns.length os W
 shA:ShA ns.length os A
 shS:ShS ns.length st
 in16:FV rt
 st:∀i<ns.length,∀a,bt (st.getD i 0) a=true<->a<=cnt os i/\(∀nd∈I6 t ns os i a,nd.1∈ns)/\(∀nd∈IR t.2.2.1 t.2.1,ns[i]?=some nd.1->IT (os.getD i []) nd.2.1 a=true)/\
  (∀fz∈t.2.2.2.2.1,ns[i]?=some fz->oF (os.getD i []) (FD t.2.2.2.1 fz).1 a=true)
 wa:∀i<ns.length,∀a≤cnt os i,∀k,bt (wa W i a) k=true<->∃nd∈I6 t ns os i a,ns[k]?=some nd.1
 al:∀i<ns.length,∀a≤cnt os i,∀j<ns.length,∀b,bt (al A i a j) b=true<->b<=cnt os j/\(∀nd∈I6 t ns os i a,ns[j]?=some nd.1->IT (os.getD j []) nd.2.1 b=true)/\
  (∀nd∈I6 t ns os j b,ns[i]?=some nd.1->IT (os.getD i []) nd.2.1 a=true)
 rt:∀i,bt rt i=true<->(∃nd∈IR t.2.2.1 t.2.1,ns[i]?=some nd.1)\/∃fz∈t.2.2.2.2.1,ns[i]?=some fz
def dX(t:FG)(ns:List DZ):Prop:=(∀nd∈IR t.2.2.1 t.2.1,nd.1∈ns)/\∀fz∈t.2.2.2.2.1,fz∈ns
noncomputable def GB(t:FG):List (List DZ):=(F8 t.1).map (IH t)
theorem AOI(t:FG)(ht:TkB t)(hF:Fy (F8 t.1) (GB t))(hN:∀i a nd,nd∈I6 t (F8 t.1) (GB t) i a->JS nd/\(F8 t.1)[i]?≠some nd.1):
 Tot (bQ t) (fun q=>(q.2=false/\¬dX t (F8 t.1))\/(q.2=true/\dX t (F8 t.1)/\∃W A st rt,q.1=some (t,F8 t.1,GB t,W,A,st,rt)/\Good t (F8 t.1) (GB t) W A st rt)):=by
 have hlen:(F8 t.1).length<=12:=hF.few;unfold bQ;rw[ANq t t.1 ht.offers,A1];dsimp only;rw[ANr t ht (F8 t.1) (by omega) (fun s hs=>?_),A1]
 ·dsimp only
  have hmap:(F8 t.1).map (fun s=>KF ((IH t s).length+1))=(GB t).map (fun o=>KF (o.length+1)):=by
   unfold GB;rw[List.map_map];rfl
  rw[hmap];refine D_.2 ((AOE hF ht hN 0).mono fun S' hS=>?_);obtain⟨W,A,st,rfl,hR⟩:=hS;refine D_.2 ?_;unfold nC;dsimp only;rw[dS _ _ ht.needs,A1];have hD:Dm (F8 t.1).length (fun i a=>a<=cnt (GB t) i/\∀nd,nd∈I6 t (F8 t.1) (GB t) i a->nd.1∈F8 t.1) (fun _=>False) st 0:=⟨hR.shS,NV,hR.st,fun i=>by simp[P5]⟩;refine D_.2 ((AOF hF ht hD (IR t.2.2.1 t.2.1) (A_ (BN _ _) ht.needs) (fun nd h=>ht.need nd (CD.1 h).1)).mono fun q hq=>?_);rcases q with S'|y
  ·obtain⟨st',rt',rfl,hall,hD'⟩:=hq;dsimp only;refine D_.2 ((AOH hF ht hD' t.2.2.2.2.1 ht.frozen).mono fun q hq=>?_);rcases q with S'|y
   ·obtain⟨st2,rt2,rfl,hall2,hD2⟩:=hq;refine E0.2 (E0.2 (.inr ⟨rfl,⟨hall,hall2⟩,W,A,st2,rt2,rfl,⟨hR.shW,hR.shA,hD2.shS,hD2.in16,fun i hi a=>?_,hR.wa,hR.al,fun i=>?_⟩⟩))
    ·rw[hD2.st i hi];exact⟨fun⟨⟨⟨x,y⟩,z⟩,u⟩=>⟨x,y,z,u⟩,fun⟨x,y,z,u⟩=>⟨⟨⟨x,y⟩,z⟩,u⟩⟩
    ·rw[hD2.rt];simp
   ·obtain⟨h1,fz,h2,h3⟩:=hq;exact E0.2 (E0.2 (.inl ⟨h1,fun h=>h3 (h.2 fz h2)⟩))
  ·obtain⟨h1,nd,h2,h3⟩:=hq;exact E0.2 (E0.2 (.inl ⟨h1,fun h=>h3 (h.1 nd h2)⟩))
 ·obtain⟨o,ho,rfl⟩:=(RY _ _).1 hs;exact⟨(ht.offer o ho).1,hF.small _ (List.mem_map_of_mem hs)⟩
inductive Reach (n:Nat) (os:List (List DZ)) (W:List (List Int)) (rt:Int) (h:Nat->Nat->Prop):Nat->Prop
 |root {i:Nat}:bt rt i=true->Reach n os W rt h i
 |step {i a j:Nat}:Reach n os W rt h i->i<n->a<=cnt os i->h i a->bt (wa W i a) j=true->Reach n os W rt h j
theorem Reach.mono{n:Nat}{os:List (List DZ)}{W:List (List Int)}{rt:Int}{h h':Nat->Nat->Prop}(hh:∀i<n,∀a,h i a->h' i a){j:Nat}(r:Reach n os W rt h j):Reach n os W rt h' j:=by
 induction r with
 |root h1=>exact .root h1
 |step _ h1 h2 h3 h4 ih=>exact .step ih h1 h2 (hh _ h1 _ h3) h4
theorem AOJ{a b:Int}(ha:FV a)(hb:FV b):a<=HB IntKind.u16 a b:=by
 have e:HB IntKind.u16 a b=((a.toNat|||b.toNat:Nat):Int):=by
  unfold HB;rw[show IntKind.u16.bits=16 from rfl,BitVec.toNat_or,N7 ha,N7 hb];exact RU (Nat.or_lt_two_pow (n:=16) (by have:=ha.2;omega) (by have:=hb.2;omega))
 rw[e];have:=Nat.left_le_or (n:=a.toNat) (m:=b.toNat);have:=ha.1;omega
section
variable{t:FG}{ns:List DZ}{os:List (List DZ)}{W:List (List Int)}{A:List (List (List Int))}{st:List Int}{rt:Int}(hF:Fy ns os)(hG:Good t ns os W A st rt)
include hF hG
structure Pass(P:Prop)(R:Nat->Prop)(o:Int)(g:Bool)(o':Int)(g':Bool):Prop where
 in16:FV o'
 le:o<=o'
 sub:∀k,bt o k=true->bt o' k=true
 snd:(∀k,bt o k=true->R k)->∀k,bt o' k=true->R k
 up:g'=true->g=true\/o<o'
 cl:g'=false->g=false/\o'=o/\P
omit hF hG in
theorem Pass.next{P P':Prop}{R:Nat->Prop}{o o1 o2:Int}{g g1 g2:Bool}(h1:Pass P R o g o1 g1)(h2:Pass P' R o1 g1 o2 g2):Pass (P/\(o1=o->P')) R o g o2 g2:=
 ⟨h2.in16,Int.le_trans h1.le h2.le,fun k h=>h2.sub k (h1.sub k h),fun h=>h2.snd (h1.snd h),
  fun h=>(h2.up h).elim (fun h=>(h1.up h).imp id fun h=>Int.lt_of_lt_of_le h h2.le) fun h=>.inr (Int.lt_of_le_of_lt h1.le h),
  fun h=>by
   obtain⟨a1,a2,a3⟩:=h2.cl h;obtain⟨b1,b2,b3⟩:=h1.cl a1;exact⟨b1,a2.trans b2,b3,fun _=>a3⟩⟩
theorem AOK(left:List Int)(hl:ShS ns.length left)(R:Nat->Prop)(i:Nat)(hi:i<ns.length)(o:Int)(ho:FV o)(g:Bool)
 (hR:∀a≤cnt os i,bt (left.getD i 0) a=true->∀k,bt (wa W i a) k=true->R k):
 Tot (nK (some (t,ns,os,W,A,st,rt),left,o,g,(i:Int),(((W.getD i []).length:Nat):Int),0)) (fun q=>Pass (∀a≤cnt os i,bt (left.getD i 0) a=true->∀k,bt (wa W i a) k=true->bt o k=true) R o g q.1 q.2):=by
 have hcn:=LN hF i;have hrow:=hG.shW.row i hi
 refine F_ (σ:=Int×Bool) (W.getD i []).length (fun s a=>(some (t,ns,os,W,A,st,rt),left,s.1,s.2,(i:Int),(((W.getD i []).length:Nat):Int),a))
  (fun m s=>Pass (∀a,a<m->bt (left.getD i 0) a=true->∀k,bt (wa W i a) k=true->bt o k=true) R o g s.1 s.2) (by omega) (fun next s a ha hs hn=>?_) (fun next s hs=>?_) (o,g)
  ⟨ho,B7 _,fun _ h=>h,fun h=>h,.inl,fun h=>⟨h,rfl,fun a ha=>by omega⟩⟩
 ·unfold nJ;dsimp only;have hlv:left[i]?=some (left.getD i 0):=by rw[A2,A0 (by rw[hl.len];exact hi)];rfl
  have hWi:W[i]?=some (W.getD i []):=by rw[A2,A0 (by rw[hG.shW.len];exact hi)];rfl
  have hWa:(W.getD i [])[a]?=some (wa W i a):=by unfold wa;rw[A2 (l:=W.getD i []),A0 ha];rfl
  rw[F7,A6 ha,AB,FK hlv,A1,P6 (hl.in16 i),A1,FR (by omega)];have hor:=dQ hs.in16 (hG.shW.in16 i a);cases hb:bt (left.getD i 0) a with
  |false=>
   simp only[AD,A1,BZ];refine hn s ⟨hs.in16,hs.le,hs.sub,hs.snd,hs.up,fun h=>?_⟩;obtain⟨h1,h2,h3⟩:=hs.cl h;refine⟨h1,h2,fun a' ha' hb' k hk=>?_⟩;by_cases he:a'=a
   ·subst he;rw[hb]at hb';cases hb'
   ·exact h3 a' (by omega) hb' k hk
  |true=>
   simp only[AB,A1,CF];rw[FK hWi,A1,FK hWa,A1];refine E1.2 ⟨fun hc=>?_,fun hc=>?_⟩
   ·rw[A1,FK hWa,A1]
    have hne:HB IntKind.u16 s.1 (wa W i a)≠s.1:=by
     rw[E2]at hc;have:decide (HB IntKind.u16 s.1 (wa W i a)=s.1)=false:=by simpa using hc
     exact AG this
    have hle:=AOJ hs.in16 (hG.shW.in16 i a);refine hn (HB IntKind.u16 s.1 (wa W i a),true) ⟨hor.1,Int.le_trans hs.le hle,fun k h=>(hor.2 k).trans (by rw[hs.sub k h];rfl),fun h k hk=>?_,fun _=>.inr (Int.lt_of_le_of_lt hs.le (Int.lt_iff_le_and_ne.2 ⟨hle,Ne.symm hne⟩)),fun h=>(by cases h)⟩;have hk:=(hor.2 k).symm.trans hk;rw[BF]at hk;rcases hk with hk|hk
    ·exact hs.snd h k hk
    ·exact hR a (by omega) hb k hk
   ·have he:HB IntKind.u16 s.1 (wa W i a)=s.1:=by
     rw[E2]at hc;have:decide (HB IntKind.u16 s.1 (wa W i a)=s.1)=true:=by simpa using hc
     exact A8 this
    refine hn s ⟨hs.in16,hs.le,hs.sub,hs.snd,hs.up,fun h=>?_⟩;obtain⟨h1,h2,h3⟩:=hs.cl h;refine⟨h1,h2,fun a' ha' hb' k hk=>?_⟩;by_cases hae:a'=a
    ·subst hae;have:=hor.2 k;rw[he,hk,Bool.or_true]at this;rw[←h2];exact this
    ·exact h3 a' (by omega) hb' k hk
 ·unfold nJ;dsimp only;rw[F7,A9 (AI _),AD];refine E0.2 ⟨hs.in16,hs.le,hs.sub,hs.snd,hs.up,fun h=>?_⟩;obtain⟨h1,h2,h3⟩:=hs.cl h;exact⟨h1,h2,fun a ha=>h3 a (by omega)⟩
theorem AOL(left:List Int)(hl:ShS ns.length left)(R:Nat->Prop)(o:Int)(ho:FV o)(hRo:∀k,bt o k=true->R k)
 (hR:∀i<ns.length,R i->∀a≤cnt os i,bt (left.getD i 0) a=true->∀k,bt (wa W i a) k=true->R k):
 Tot (nM (some (t,ns,os,W,A,st,rt),left,o,false,(ns.length:Int),0)) (fun q=>Pass (∀i<ns.length,bt o i=true->∀a≤cnt os i,bt (left.getD i 0) a=true->∀k,bt (wa W i a) k=true->bt o k=true) R o false q.1 q.2):=by
 have hfew:=hF.few
 refine F_ (σ:=Int×Bool) ns.length (fun s i=>(some (t,ns,os,W,A,st,rt),left,s.1,s.2,(ns.length:Int),i))
  (fun m s=>Pass (∀i,i<m->bt o i=true->∀a≤cnt os i,bt (left.getD i 0) a=true->∀k,bt (wa W i a) k=true->bt o k=true) R o false s.1 s.2) (by omega) (fun next s i hi hs hn=>?_) (fun next s hs=>?_) (o,false)
  ⟨ho,B7 _,fun _ h=>h,fun h=>h,.inl,fun h=>⟨h,rfl,fun a ha=>by omega⟩⟩
 ·unfold nL;dsimp only;have hWi:W[i]?=some (W.getD i []):=by rw[A2,A0 (by rw[hG.shW.len];exact hi)];rfl
  rw[F7,A6 hi,AB,P6 hs.in16,A1,FR (by omega)];refine E1.2 ⟨fun hc=>?_,fun hc=>?_⟩
  ·have hc:bt s.1 i=false:=by simpa using hc
   refine hn s ⟨hs.in16,hs.le,hs.sub,hs.snd,hs.up,fun h=>?_⟩;obtain⟨h1,h2,h3⟩:=hs.cl h;refine⟨h1,h2,fun i' hi' hb'=>?_⟩;by_cases he:i'=i
   ·subst he;rw[h2,hb']at hc;cases hc
   ·exact h3 i' (by omega) hb'
  ·have hc:bt s.1 i=true:=by simpa using hc
   rw[A1,FK hWi,A1];refine D_.2 ((AOK hF hG left hl R i hi s.1 hs.in16 s.2 (hR i hi (hs.snd hRo i hc))).mono fun q hq=>?_);have hp:=hs.next hq;refine hn q ⟨hp.in16,hp.le,hp.sub,hp.snd,hp.up,fun h=>?_⟩;obtain⟨h1,h2,h3,h4⟩:=hp.cl h;obtain⟨_,h5,_⟩:=hs.cl (hq.cl h).1;refine⟨h1,h2,fun i' hi' hb'=>?_⟩;by_cases he:i'=i
   ·subst he;have:=h4 h5;rw[h5]at this;exact this
   ·exact h3 i' (by omega) hb'
 ·unfold nL;dsimp only;rw[F7,A9 (AI _),AD];exact E0.2 hs
theorem AOM(left:List Int)(hl:ShS ns.length left):
 Tot (bR (some (t,ns,os,W,A,st,rt),left)) (fun q=>FV q/\∀k,bt q k=true<->Reach ns.length os W rt (fun i a=>bt (left.getD i 0) a=true) k):=by
 unfold bR;dsimp only;rw[A1];refine D_.2 (Tot.mono (P:=fun q=>FV q/\∀k,bt q k=true<->Reach ns.length os W rt (fun i a=>bt (left.getD i 0) a=true) k) ?_ fun q hq=>E0.2 hq)
 refine F3 (R:=fun q=>FV q/\∀k,bt q k=true<->Reach ns.length os W rt (fun i a=>bt (left.getD i 0) a=true) k)
  (fun y:(Option VE)×List Int×Int×Bool=>y.1=some (t,ns,os,W,A,st,rt)/\y.2.1=left/\FV y.2.2.1/\(∀ k,bt rt k=true->bt y.2.2.1 k=true)/\(∀ k,bt y.2.2.1 k=true->Reach ns.length os W rt (fun i a=>bt (left.getD i 0) a=true) k) /\
   (y.2.2.2=false->∀i<ns.length,bt y.2.2.1 i=true->∀a≤cnt os i,bt (left.getD i 0) a=true->∀k,bt (wa W i a) k=true->bt y.2.2.1 k=true))
  (fun y=>2*(65536-y.2.2.1.toNat)+if y.2.2.2 then 1 else 0) ?_ _ _ ⟨rfl,rfl,hG.in16,fun _ h=>h,fun k h=>.root h,fun h=>by cases h⟩ (by unfold fuel;dsimp only;split<;>omega)
 rintro next ⟨s,l,o,g⟩ hI hn
 dsimp only at hI hn;obtain⟨rfl,rfl,ho,h1,h2,h3⟩:=hI;unfold zB;dsimp only;refine E1.2 ⟨fun hc=>?_,fun hc=>?_⟩
 ·subst hc;rw[A1];dsimp only;refine D_.2 ((AOL hF hG l hl _ o ho h2 (fun i hi hr a ha hb k hk=>.step hr hi ha hb hk)).mono fun q hq=>?_);refine hn (_,l,q.1,q.2) ⟨rfl,rfl,hq.in16,fun k h=>hq.sub k (h1 k h),hq.snd h2,fun h=>?_⟩ ?_
  ·obtain⟨_,e,h4⟩:=hq.cl h;dsimp only;rw[e];exact h4
  ·dsimp only;have hle:=hq.le;have:=hq.in16;have h0:=ho.1;have hi2:=this.2;cases hg:q.2 with
   |false=>
    simp only[if_true,CN,CJ];omega
   |true=>
    have:=(hq.up hg).elim (fun h=>by cases h) id;simp only[if_true];omega
 ·refine E0.2 ⟨ho,fun k=>⟨h2 k,fun hr=>?_⟩⟩;induction hr with
  |root h=>exact h1 _ h
  |step _ a1 a2 a3 a4 ih=>exact h3 hc _ a1 ih _ a2 a3 _ a4
def PN(ns:List DZ)(os:List (List DZ))(W:List (List Int))(rt:Int)(h:Nat->Nat->Prop):Prop:=∀i<ns.length,h i 0\/Reach ns.length os W rt h i
theorem A5q(left:List Int)(hl:ShS ns.length left):
 Tot (US (some (t,ns,os,W,A,st,rt),left)) (fun q=>q=true<->PN ns os W rt (fun i a=>bt (left.getD i 0) a=true)):=by
 have hfew:=hF.few;unfold US;dsimp only;refine D_.2 ((AOM hF hG left hl).mono fun w hw=>?_);have hw0:=hw.1;have hlen:=hl.len
 have key:Tot (nO (w,left,(left.length:Int),0)) (fun q=>match q with
  | .inl _=>PN ns os W rt (fun i a=>bt (left.getD i 0) a=true)
  | .inr b=>b=false/\¬PN ns os W rt (fun i a=>bt (left.getD i 0) a=true)):=by
  refine F_ (σ:=Unit) left.length (fun s i=>(w,left,(left.length:Int),i)) (fun m _=>∀i,i<m->bt (left.getD i 0) 0=true\/Reach ns.length os W rt (fun i a=>bt (left.getD i 0) a=true) i) (by omega) (fun next s i hi hs hn=>?_) (fun next s hs=>?_) () (fun i h=>by omega)
  ·unfold nN;dsimp only;have hlv:left[i]?=some (left.getD i 0):=by rw[A2,A0 hi];rfl
   have h0:=P6 (hl.in16 i) 0;rw[show((0:Nat):Int)=0 from rfl]at h0;rw[F7,A6 hi,AB,FK hlv,A1,h0,A1,FR (by omega)];cases hb:bt (left.getD i 0) 0 with
   |true=>
    simp only[BU,AD,A1,BZ];refine hn () fun i' hi'=>?_;by_cases he:i'=i
    ·subst he;exact .inl hb
    ·exact hs i' (by omega)
   |false=>
    simp only[CW,AB,CF];rw[P6 hw0,A1];refine E1.2 ⟨fun hc=>?_,fun hc=>?_⟩
    ·refine E0.2 ⟨rfl,fun h=>?_⟩;rcases h i (by omega)with h|h
     ·rw[hb]at h;cases h
     ·have:=(hw.2 i).2 h;rw[this]at hc;cases hc
    ·have hc:bt w i=true:=by simpa using hc
     refine hn () fun i' hi'=>?_;by_cases he:i'=i
     ·subst he;exact .inr ((hw.2 _).1 hc)
     ·exact hs i' (by omega)
  ·unfold nN;dsimp only;rw[F7,A9 (AI _),AD];exact E0.2 fun i hi=>hs i (by omega)
 refine D_.2 (key.mono fun q hq=>?_);rcases q with y|y
 ·exact E0.2 ⟨fun _=>hq,fun _=>rfl⟩
 ·obtain⟨h1,h2⟩:=hq;subst h1;exact E0.2 ⟨fun h=>(by cases h),fun h=>absurd h h2⟩
end
section
variable{t:FG}{ns:List DZ}{os:List (List DZ)}{W:List (List Int)}{A:List (List (List Int))}{st:List Int}{rt:Int}(hF:Fy ns os)(hG:Good t ns os W A st rt)
include hF hG
structure Tk(n:Nat)(A:List (List (List Int)))(left:List Int)(i a:Nat)(m:Nat)(o:List Int):Prop where
 sh:ShS n o
 bit:∀j<n,∀b,bt (o.getD j 0) b=true<->(if j=i then b=a else bt (left.getD j 0) b=true/\(j<m->bt (al A i a j) b=true))
theorem AON(left:List Int)(hl:ShS ns.length left)(i a:Nat)(hi:i<ns.length)(ha:a<=cnt os i):
 Tot (bT (some (t,ns,os,W,A,st,rt),left,(i:Int),(a:Int))) (fun q =>
  (q.2=true->Tk ns.length A left i a ns.length q.1/\(∀j<ns.length,∃b,bt (q.1.getD j 0) b=true)/\PN ns os W rt (fun j b=>bt (q.1.getD j 0) b=true))/\
  (q.2=false->∀o,Tk ns.length A left i a ns.length o->¬((∀j<ns.length,∃b,bt (o.getD j 0) b=true)/\PN ns os W rt (fun j b=>bt (o.getD j 0) b=true)))):=by
 have hfew:=hF.few;have hcn:=LN hF i;have hlen:=hl.len;unfold bT nI nH;dsimp only;refine D_.2 (D_.2 (FZ.2 ⟨by simp only[AL];omega,?_⟩));rw[DR];refine E0.2 ?_;have hone:=IQ (i:=a) (by omega);rw[hone.1,A1,H8 (by omega),A1,B6];obtain⟨k1,k2⟩:=dW hl hi hone.2;have hlen2:(left.set i ((2 ^ a:Nat):Int)).length=ns.length:=k1.len;rw[hlen2]
 have key:Tot (nQ (some (t,ns,os,W,A,st,rt),(i:Int),(a:Int),left.set i ((2 ^ a:Nat):Int),(ns.length:Int),0)) (fun q=>match q with
  | .inl o=>Tk ns.length A left i a ns.length o/\∀j<ns.length,∃b,bt (o.getD j 0) b=true\/(j=i)
  | .inr y=>y.2=false/\∀o,Tk ns.length A left i a ns.length o->¬(∀j<ns.length,∃b,bt (o.getD j 0) b=true)):=by
  refine F_ (σ:=List Int) ns.length (fun s j=>(some (t,ns,os,W,A,st,rt),(i:Int),(a:Int),s,(ns.length:Int),j)) (fun m s=>Tk ns.length A left i a m s/\∀j,j<m->∃b,bt (s.getD j 0) b=true\/(j=i)) (by omega) (fun next s j hj hs hn=>?_) (fun next s hs=>?_) _ ⟨⟨k1,fun j hj b=>?_⟩,fun j h=>by omega⟩
  ·obtain⟨hs,hnz⟩:=hs;unfold nP;dsimp only;rw[F7,A6 hj,AB,FR (by omega)];refine E1.2 ⟨fun hc=>?_,fun hc=>?_⟩
   ·have hji:j=i:=by rw[E2]at hc;have:=A8 hc;omega
    refine hn s ⟨⟨hs.sh,fun j' hj' b=>?_⟩,fun j' hj'=>?_⟩
    ·rw[hs.bit j' hj' b];split
     ·rfl
     ·rename_i h;exact⟨fun⟨x,y⟩=>⟨x,fun z=>y (by omega)⟩,fun⟨x,y⟩=>⟨x,fun z=>y (by omega)⟩⟩
    ·by_cases h:j'=j
     ·exact⟨0,.inr (h.trans hji)⟩
     ·exact hnz j' (by omega)
   ·have hji:j≠i:=by rw[E2]at hc;have:=AG hc;omega
    have hsl:=hs.sh.len;have hAi:A[i]?=some (A.getD i []):=by rw[A2,A0 (by rw[hG.shA.len];exact hi)];rfl
    have hAr:=hG.shA.row i hi;have hAa:(A.getD i [])[a]?=some ((A.getD i []).getD a []):=by rw[A2 (l:=A.getD i []),A0 (by omega)];rfl
    have hAc:=hG.shA.cell i hi a (by omega);have hAj:((A.getD i []).getD a [])[j]?=some (al A i a j):=by unfold al;rw[A2 (l:=(A.getD i []).getD a []),A0 (by omega)];rfl
    rw[H8 (by omega),A1,A1];dsimp only;rw[FK hAi,A1,FK hAa,A1,FK hAj,A1,A1,B6,H8 (by rw[AF];omega),A1];obtain⟨g1,g2⟩:=RV (hs.sh.in16 j) (hG.shA.in16 i a j);obtain⟨m1,m2⟩:=dW hs.sh hj g1
    have hT:Tk ns.length A left i a (j+1) (s.set j (I7 IntKind.u16 (s.getD j 0) (al A i a j))):=by
     refine⟨m1,fun j' hj' b=>?_⟩;rw[m2];by_cases h:j'=j
     ·subst h;rw[if_pos rfl,g2,A5,hs.bit _ hj',if_neg hji,if_neg hji];exact⟨fun⟨⟨x,y⟩,z⟩=>⟨x,fun _=>z⟩,fun⟨x,y⟩=>⟨⟨x,fun h=>absurd h (AI _)⟩,y (by omega)⟩⟩
     ·rw[if_neg h,hs.bit j' hj' b];split
      ·rfl
      ·exact⟨fun⟨x,y⟩=>⟨x,fun z=>y (by omega)⟩,fun⟨x,y⟩=>⟨x,fun z=>y (by omega)⟩⟩
    have hgd:(s.set j (I7 IntKind.u16 (s.getD j 0) (al A i a j))).getD j 0=I7 IntKind.u16 (s.getD j 0) (al A i a j):=by rw[m2,if_pos rfl]
    rw[hgd];refine E1.2 ⟨fun hz=>?_,fun hz=>?_⟩
    ·refine E0.2 ⟨rfl,fun o ho hall=>?_⟩;obtain⟨b,hb⟩:=hall j hj;rw[ho.bit j hj,if_neg hji]at hb
     have:∃ b,bt (I7 IntKind.u16 (s.getD j 0) (al A i a j)) b=true:=⟨b,by
      rw[g2,A5,hs.bit j hj,if_neg hji];exact⟨⟨hb.1,fun h=>absurd h (AI _)⟩,hb.2 hj⟩⟩
     have:=(qT g1).2 this;rw[this]at hz;cases hz
    ·refine hn _ ⟨hT,fun j' hj'=>?_⟩;by_cases h:j'=j
     ·subst h;obtain⟨b,hb⟩:=(qT g1).1 hz;exact⟨b,.inl (by rw[hgd];exact hb)⟩
     ·rw[m2,if_neg h];exact hnz j' (by omega)
  ·unfold nP;dsimp only;rw[F7,A9 (AI _),AD];exact E0.2 hs
  ·rw[k2];split
   ·rw[KV,AS];exact eq_comm
   ·simp
 refine D_.2 (key.mono fun q hq=>?_);rcases q with o|y
 ·obtain⟨h1,h2⟩:=hq
  have hall:∀j<ns.length,∃b,bt (o.getD j 0) b=true:=fun j hj=>by
   obtain⟨b,h|h⟩:=h2 j hj
   ·exact⟨b,h⟩
   ·exact⟨a,by rw[h1.bit j hj,if_pos h]⟩
  refine D_.2 ((A5q hF hG o h1.sh).mono fun b hb=>E0.2 ⟨fun h=>⟨h1,hall,hb.1 h⟩,fun h o' ho' hn=>?_⟩)
  have:o'=o:=by
   apply BW;intro j;by_cases hj:j<ns.length
   ·have e1:o'[j]?=some (o'.getD j 0):=by rw[A2,A0 (by rw[ho'.sh.len];exact hj)];rfl
    have e2:o[j]?=some (o.getD j 0):=by rw[A2,A0 (by rw[h1.sh.len];exact hj)];rfl
    rw[e1,e2]
    congr 1
    refine dP (ho'.sh.in16 j) (h1.sh.in16 j) fun b=>?_;rw[Bool.eq_iff_iff,ho'.bit j hj,h1.bit j hj]
   ·rw[B3 (by rw[ho'.sh.len];omega),B3 (by rw[h1.sh.len];omega)]
  rw[this]at hn;have:=hb.2 hn.2;have h:b=false:=h;rw[h]at this;cases this
 ·obtain⟨h1,h2⟩:=hq;refine E0.2 ⟨fun h=>?_,fun _ o ho hn=>h2 o ho hn.1⟩;dsimp only at h;rw[h1]at h;cases h
end
theorem AOO(a:Nat)(ha:a<=15):Y0 ((2 ^ a:Nat):Int)=some (a:Int):=by
 have hone:=(IQ ha).2;unfold Y0
 have key:Tot (iM (((2 ^ a:Nat):Int),(0:Int))) (fun q=>q=.inr (a:Int)):=by
  refine F_ (σ:=Unit) 16 (fun s i=>(((2 ^ a:Nat):Int),i)) (fun m _=>m<=a) (by omega) (fun next s i hi hs hn=>?_) (fun next s hs=>by omega) () (BQ _);unfold w4;dsimp only;rw[A6 (by omega),AB,P6 hone,A1,KV,FR (by omega)];refine E1.2 ⟨fun hc=>?_,fun hc=>?_⟩
  ·rw[<-A8 hc];exact E0.2 rfl
  ·exact hn () (by have:=AG hc;omega)
 rw[J3 key];rfl
def HI(ns:List DZ)(os:List (List DZ))(p:List Nat):List FC:=(List.range ns.length).filterMap fun j=>match p.getD j 0 with
 |0=>none
 |k+1=>some (ns.getD j [],(os.getD j []).getD k [])
theorem AOP{t:FG}{ns:List DZ}{os:List (List DZ)}{W:List (List Int)}{A:List (List (List Int))}{st:List Int}{rt:Int}(hF:Fy ns os)(p:List Nat)(left:List Int)(hl:left.length=ns.length)
 (hp:∀j<ns.length,left.getD j 0=((2 ^ p.getD j 0:Nat):Int)/\p.getD j 0<=cnt os j):
 Y1 (some (t,ns,os,W,A,st,rt),left)=some (HI ns os p):=by
 have hfew:=hF.few;unfold Y1;dsimp only
 have key:Tot (iO (some (t,ns,os,W,A,st,rt),[],left,(left.length:Int),0)) (fun q=>q=HI ns os p):=by
  let f:Nat->Option FC:=fun j=>match p.getD j 0 with
   |0=>none
   |k+1=>some (ns.getD j [],(os.getD j []).getD k [])
  refine F_ (σ:=List FC) left.length (fun s i=>(some (t,ns,os,W,A,st,rt),s,left,(left.length:Int),i)) (fun m s=>s=(List.range m).filterMap f) (by omega) (fun next s i hi hs hn=>?_) (fun next s hs=>?_) [] (by simp)
  ·unfold iN;dsimp only;obtain⟨h1,h2⟩:=hp i (by omega);have hcn:=LN hF i;have hlv:left[i]?=some (left.getD i 0):=by rw[A2,A0 hi];rfl
   have hsl:s.length<=i:=by rw[hs];exact A_ (List.length_filterMap_le _ _) (by rw[CY];exact AJ _)
   rw[F7,A6 hi,AB,FK hlv,A1,h1,AOO _ (by omega),A1,FR (by omega)];have hr:List.range (i+1)=List.range i++[i]:=List.range_succ;refine E1.2 ⟨fun hc=>?_,fun hc=>?_⟩
   ·have hc:=A8 hc;obtain⟨k,hk⟩:∃k,p.getD i 0=k+1:=⟨p.getD i 0-1,by omega⟩;have hnm:ns[i]?=some (ns.getD i []):=by rw[A2,A0 (by omega)];rfl
    have hop:os[i]?=some (os.getD i []):=by rw[A2,A0 (by rw[hF.len];omega)];rfl
    have hov:(os.getD i [])[k]?=some ((os.getD i []).getD k []):=by
     rw[A2 (l:=os.getD i []),A0 (by unfold cnt at h2;omega)];rfl
    rw[A1];dsimp only;rw[FK hnm,A1,A1];dsimp only;rw[FK hop,A1,EY (by omega) (by omega),show((p.getD i 0:Nat):Int)-1=(k:Int) by omega,FK hov,A1];refine D_.2 (FZ.2 ⟨by simp only[AE,AL];omega,?_⟩);refine hn _ ?_;rw[hr,List.filterMap_append,<-hs]
    have hfi:f i=some (ns.getD i [],(os.getD i []).getD k []):=by
     show(match p.getD i 0 with|0=>none|k+1=>some (ns.getD i [],(os.getD i []).getD k []))=_;rw[hk]
    rw[DT hfi];rfl
   ·have hc:=AG hc;have hk:p.getD i 0=0:=by omega
    refine hn _ ?_;rw[hr,List.filterMap_append,<-hs]
    have hfi:f i=none:=by
     show(match p.getD i 0 with|0=>none|k+1=>some (ns.getD i [],(os.getD i []).getD k []))=_;rw[hk]
    rw[List.filterMap_cons_none hfi];simp
  ·unfold iN;dsimp only;rw[F7,A9 (AI _),AD];refine E0.2 ?_;rw[hs,hl];rfl
 rw[J3 key];rfl
section
variable(ns:List DZ)(os:List (List DZ))(W:List (List Int))(A:List (List (List Int)))(st:List Int)(rt:Int)
structure Val(p:List Nat):Prop where
 len:p.length=ns.length
 st:∀j<ns.length,bt (st.getD j 0) (p.getD j 0)=true
 al:∀j<ns.length,∀k<ns.length,k≠j->bt (al A k (p.getD k 0) j) (p.getD j 0)=true
 pn:PN ns os W rt (fun i a=>p.getD i 0=a)
open Classical in
noncomputable def GK:Nat->List Nat->List (List Nat)
 |0,pre=>if Val ns os W A st rt pre then [pre]else []
 |d+1,pre=>(List.range (cnt os pre.length+1)).flatMap fun a=>GK d (pre++[a])
structure Dp(pre:List Nat)(left:List Int):Prop where
 sh:ShS ns.length left
 bit:∀j<ns.length,∀b,bt (left.getD j 0) b=true<->bt (st.getD j 0) b=true/\(j<pre.length->b=pre.getD j 0)/\∀k<pre.length,k≠j->bt (al A k (pre.getD k 0) j) b=true
end
theorem N_{pre:List Nat}{a j:Nat}:(pre++[a]).getD j 0=if j=pre.length then a else pre.getD j 0:=by
 rw[A2,A2];by_cases h:j<pre.length
 ·rw[AW h,if_neg (by omega)]
 ·rw[AY (by omega)];by_cases h2:j=pre.length
  ·subst h2;rw[if_pos rfl,DM];rfl
  ·rw[if_neg h2,B3 (by simp only[AE,AL];omega),B3 (by omega)]
theorem rA{pre p:List Nat}(h:pre <+:p){j:Nat}(hj:j<pre.length):p.getD j 0=pre.getD j 0:=by
 obtain⟨r,rfl⟩:=h;rw[A2,AW hj,A2]
section
variable{t:FG}{ns:List DZ}{os:List (List DZ)}{W:List (List Int)}{A:List (List (List Int))}{st:List Int}{rt:Int}(hF:Fy ns os)(hG:Good t ns os W A st rt)
include hG
theorem rB{p:List Nat}(h:Val ns os W A st rt p){j:Nat}(hj:j<ns.length):p.getD j 0<=cnt os j:=((hG.st j hj _).1 (h.st j hj)).1
theorem VI(p:List Nat):∀(d:Nat) (pre:List Nat),pre.length+d=ns.length->(p∈GK ns os W A st rt d pre<->Val ns os W A st rt p/\pre <+:p):=by
 intro d;induction d with
 |zero=>
  intro pre hl;unfold GK;constructor
  ·intro h;split at h
   ·rename_i hv;cases AR.1 h;exact⟨hv,List.prefix_refl _⟩
   ·cases h
  ·rintro⟨hv,hp⟩;have:pre=p:=hp.eq_of_length (by rw[hv.len];omega);subst this;rw[if_pos hv];exact AR.2 rfl
 |succ d ih=>
  intro pre hl;unfold GK;rw[List.mem_flatMap];constructor
  ·rintro⟨a,ha,h⟩;obtain⟨h1,h2⟩:=(ih (pre++[a]) (by rw[A7];simp only[AE,AL];omega)).1 h;exact⟨h1,(List.prefix_append _ _).trans h2⟩
  ·rintro⟨hv,r,rfl⟩;have hr:r.length=d+1:=by have:=hv.len;rw[A7]at this;omega
   obtain⟨a,r,rfl⟩:∃a r',r=a::r':=by
    cases r with
    |nil=>cases hr
    |cons a r=>exact⟨a,r,rfl⟩
   have hle:=rB hG hv (j:=pre.length) (by omega)
   have e:(pre++a::r).getD pre.length 0=a:=by
    rw[A2,AY (AJ _),DM];rfl
   rw[e]at hle;refine⟨a,CS.2 (by omega),(ih (pre++[a]) (by rw[A7];simp only[AE,AL];omega)).2 ⟨hv,r,by rw[BY];rfl⟩⟩
theorem A5r{d:Nat}{pre:List Nat}(hl:pre.length+d=ns.length)(h:∀p,Val ns os W A st rt p->¬pre <+:p):GK ns os W A st rt d pre=[]:=by
 apply DI.2;intro p hp;obtain⟨h1,h2⟩:=(VI hG p d pre hl).1 hp;exact h p h1 h2
theorem A5s{pre p:List Nat}{left:List Int}(hD:Dp ns A st pre left)(hv:Val ns os W A st rt p)(hp:pre <+:p)(hle:pre.length<=ns.length):∀j<ns.length,bt (left.getD j 0) (p.getD j 0)=true:=by
 intro j hj;rw[hD.bit j hj];refine⟨hv.st j hj,fun h=>rA hp h,fun k hk hkj=>?_⟩;rw[<-rA hp hk];exact hv.al j hj k (by omega) hkj
omit hG in
theorem rC{h h':Nat->Nat->Prop}(hh:∀i<ns.length,∀a,h i a->h' i a)(hp:PN ns os W rt h):PN ns os W rt h':=fun i hi=>(hp i hi).imp (hh i hi 0) fun r=>r.mono hh
include hF in
theorem AOQ(d:Nat)(slf:Int×(List Int)×Unit×(Option VE)×Unit×Unit×(List (List FC))×(Option VE)×Int->Option (Bool×(List (List FC))))(M:Nat)(hM:M<=1000)(pre:List Nat)(left:List Int)(hl:pre.length+(d+1)=ns.length)(hD:Dp ns A st pre left)(q0:List (List FC))(hq0:q0.length<M)
 (ih:∀ a left' q,Dp ns A st (pre++[a]) left'->(∀ j<ns.length,∃ b,bt (left'.getD j 0) b=true)->PN ns os W rt (fun j b=>bt (left'.getD j 0) b=true)->q.length<M ->
  slf (((pre.length:Nat):Int)+1,left',(),some (t,ns,os,W,A,st,rt),(),(),q,some (t,ns,os,W,A,st,rt),(M:Int))=
   some (decide (q.length+(GK ns os W A st rt d (pre++[a])).length<M),q++((GK ns os W A st rt d (pre++[a])).map (HI ns os)).take (M-q.length))):
 Tot (nS slf (((pre.length:Nat):Int),left,some (t,ns,os,W,A,st,rt),(((W.getD pre.length []).length:Nat):Int),0,q0,some (t,ns,os,W,A,st,rt),(M:Int))) (fun r=>match r with
  | .inl y=>y.1=q0++(GK ns os W A st rt (d+1) pre).map (HI ns os)/\q0.length+(GK ns os W A st rt (d+1) pre).length<M
  | .inr y=>y.1=false/\y.2.1=q0++((GK ns os W A st rt (d+1) pre).map (HI ns os)).take (M-q0.length)/\M<=q0.length+(GK ns os W A st rt (d+1) pre).length):=by
 have hfew:=hF.few;have hi:pre.length<ns.length:=by omega
 have hrow:=hG.shW.row _ hi;have hcn:=LN hF pre.length;let L:Nat->List (List Nat):=fun m=>(List.range m).flatMap fun a=>GK ns os W A st rt d (pre++[a])
 have hLs:∀m,L (m+1)=L m++GK ns os W A st rt d (pre++[m]):=fun m=>by
  show(List.range (m+1)).flatMap _=_;rw[List.range_succ,List.flatMap_append];simp[L]
 have hLt:L (cnt os pre.length+1)=GK ns os W A st rt (d+1) pre:=rfl
 have hLp:∀m,m<=cnt os pre.length+1->∃R,GK ns os W A st rt (d+1) pre=L m++R:=by
  intro m hm;rw[<-hLt]
  have:∀k,∃R,L (m+k)=L m++R:=by
   intro k;induction k with
   |zero=>exact⟨[],by simp⟩
   |succ k ih=>
    obtain⟨R,hR⟩:=ih;refine⟨R++GK ns os W A st rt d (pre++[m+k]),?_⟩;rw[show m+(k+1)=(m+k)+1 by omega,hLs,hR,BY]
  obtain⟨R,hR⟩:=this (cnt os pre.length+1-m);rw[show m+(cnt os pre.length+1-m)=cnt os pre.length+1 by omega]at hR;exact⟨R,hR⟩
 refine F_ (σ:=List (List FC)) (W.getD pre.length []).length (fun s a=>(((pre.length:Nat):Int),left,some (t,ns,os,W,A,st,rt),(((W.getD pre.length []).length:Nat):Int),a,s,some (t,ns,os,W,A,st,rt),(M:Int)))
  (fun m s=>s=q0++(L m).map (HI ns os)/\q0.length+(L m).length<M) (by omega) (fun next s a ha hs hn=>?_) (fun next s hs=>?_) q0 ⟨by simp[L],by simp[L];exact hq0⟩
 ·obtain⟨hs,hlt⟩:=hs;unfold nR;dsimp only;have hlv:left[pre.length]?=some (left.getD pre.length 0):=by rw[A2,A0 (by rw[hD.sh.len];exact hi)];rfl
  rw[F7,A6 ha,AB,FK hlv,A1,P6 (hD.sh.in16 _),A1,FR (by omega),FR (by omega)]
  have hnone:(∀p,Val ns os W A st rt p->¬(pre++[a]) <+:p)->Tot (next (((pre.length:Nat):Int),left,some (t,ns,os,W,A,st,rt),(((W.getD pre.length []).length:Nat):Int),(a:Int)+1,s,some (t,ns,os,W,A,st,rt),(M:Int))) _:=fun h=>by
   have h0:=A5r hG (d:=d) (pre:=pre++[a]) (by rw[A7];simp only[AE,AL];omega) h;refine hn s ⟨?_,?_⟩
   ·rw[hLs,h0,C1];exact hs
   ·rw[hLs,h0,C1];exact hlt
  have hpa:∀p,(pre++[a]) <+:p->pre <+:p/\p.getD pre.length 0=a:=fun p hp=>
   ⟨(List.prefix_append _ _).trans hp,by rw[rA hp (by rw[A7];simp only[AE,AL];omega),N_,if_pos rfl]⟩
  refine E1.2 ⟨fun hc=>?_,fun hc=>?_⟩
  ·have hc:bt (left.getD pre.length 0) a=false:=by simpa using hc
   refine hnone fun p hv hp=>?_;obtain⟨h1,h2⟩:=hpa p hp;have:=A5s hG hD hv h1 (by omega) _ hi;rw[h2,hc]at this;cases this
  ·have hc:bt (left.getD pre.length 0) a=true:=by simpa using hc
   have hac:a<=cnt os pre.length:=((hG.st _ hi _).1 ((hD.bit _ hi _).1 hc).1).1;obtain⟨q,hq,hq1,hq2⟩:=AON hF hG left hD.sh pre.length a hi hac;rw[hq,A1]
   have hDp:∀o,Tk ns.length A left pre.length a ns.length o<->Dp ns A st (pre++[a]) o:=by
    have hcb:=(hD.bit _ hi _).1 hc
    have bits:∀j<ns.length,∀b,(if j=pre.length then b=a else bt (left.getD j 0) b=true/\(j<ns.length->bt (al A pre.length a j) b=true))<->
     (bt (st.getD j 0) b=true/\(j<(pre++[a]).length->b=(pre++[a]).getD j 0)/\∀k<(pre++[a]).length,k≠j->bt (al A k ((pre++[a]).getD k 0) j) b=true):=by
     intro j hj b;have hlen:(pre++[a]).length=pre.length+1:=by rw[A7];rfl
     rw[hlen];split
     ·rename_i h;subst h;rw[N_,if_pos rfl];constructor
      ·rintro rfl;refine⟨hcb.1,fun _=>rfl,fun k hk hkj=>?_⟩;rw[N_,if_neg hkj];exact hcb.2.2 k (by omega) hkj
      ·rintro⟨_,h,_⟩;exact h (by omega)
     ·rename_i h;rw[hD.bit j hj];constructor
      ·rintro⟨⟨h1,h2,h3⟩,h4⟩;refine⟨h1,fun hh=>?_,fun k hk hkj=>?_⟩
       ·rw[N_,if_neg h];exact h2 (by omega)
       ·rw[N_];split
        ·rename_i hk';subst hk';exact h4 hj
        ·exact h3 k (by omega) hkj
      ·rintro⟨h1,h2,h3⟩;refine⟨⟨h1,fun hh=>?_,fun k hk hkj=>?_⟩,fun _=>?_⟩
       ·have:=h2 (by omega);rwa[N_,if_neg h]at this
       ·have:=h3 k (by omega) hkj;rwa[N_,if_neg (by omega)]at this
       ·have:=h3 pre.length (by omega) (fun e=>h e.symm);rwa[N_,if_pos rfl]at this
    intro o;exact⟨fun h=>⟨h.sh,fun j hj b=>(h.bit j hj b).trans (bits j hj b)⟩,fun h=>⟨h.sh,fun j hj b=>(h.bit j hj b).trans (bits j hj b).symm⟩⟩
   cases hq2b:q.2 with
   |false=>
    simp only[AD,A1,BZ];refine hnone fun p hv hp=>?_
    have hex:∃o,Tk ns.length A left pre.length a ns.length o:=by
     refine⟨(List.range ns.length).map fun j=>if j=pre.length then((2 ^ a:Nat):Int)else I7 IntKind.u16 (left.getD j 0) (al A pre.length a j),⟨by rw[AK,CY],fun j=>?_⟩,fun j hj b=>?_⟩
     ·rcases C4 j ns.length with hj|hj
      ·rw[A2,AO,C6 hj];show FV (if j=pre.length then _ else _);split
       ·exact(IQ (by omega)).2
       ·exact(RV (hD.sh.in16 j) (hG.shA.in16 _ _ _)).1
      ·rw[NZ (by rw[AK,CY];exact hj)];exact NV
     ·rw[A2,AO,C6 hj];show bt (if j=pre.length then _ else _) b=true<->_;split
      ·rw[KV,AS];exact eq_comm
      ·rw[(RV (hD.sh.in16 j) (hG.shA.in16 _ _ _)).2,A5];exact⟨fun⟨x,y⟩=>⟨x,fun _=>y⟩,fun⟨x,y⟩=>⟨x,y hj⟩⟩
    obtain⟨o,ho⟩:=hex;have hval:=A5s hG ((hDp o).1 ho) hv hp (by rw[A7];simp only[AE,AL];omega);exact hq2 hq2b o ho ⟨fun j hj=>⟨_,hval j hj⟩,rC (fun i hi a' h=>by rw[<-h];exact hval i hi) hv.pn⟩
   |true=>
    obtain⟨h1,h2,h3⟩:=hq1 hq2b;have hsl:s.length=q0.length+(L a).length:=by rw[hs,A7,AK]
    simp only[AB,CF];rw[ih a q.1 s ((hDp _).1 h1) h2 h3 (by omega),A1];dsimp only;refine E1.2 ⟨fun hb=>?_,fun hb=>?_⟩
    ·have hb:M<=s.length+(GK ns os W A st rt d (pre++[a])).length:=by
      have:decide (s.length+(GK ns os W A st rt d (pre++[a])).length<M)=false:=by simpa using hb
      have:=AG this;omega
     obtain⟨R,hR⟩:=hLp (a+1) (by omega);refine E0.2 ⟨rfl,?_,?_⟩
     ·dsimp only;rw[hR,hLs,hs];simp only[CM,BY,A7,AK]
      congr 1
      rw[List.take_append,List.take_append];simp only[AK];have e1:((L a).map (HI ns os)).take (M-q0.length)=(L a).map (HI ns os):=BR (by rw[AK];omega);rw[e1,show M-q0.length-(L a).length=M-(q0.length+(L a).length) by omega];rw[show M-(q0.length+(L a).length)-(GK ns os W A st rt d (pre++[a])).length=0 by omega,D1,C1]
     ·rw[hR,hLs,A7,A7];omega
    ·have hb:s.length+(GK ns os W A st rt d (pre++[a])).length<M:=by
      have:decide (s.length+(GK ns os W A st rt d (pre++[a])).length<M)=true:=by simpa using hb
      exact A8 this
     refine hn _ ⟨?_,?_⟩
     ·rw[BR (by rw[AK];omega),hLs,hs,CM,BY]
     ·rw[hLs,A7];omega
 ·obtain⟨hs,hlt⟩:=hs;unfold nR;dsimp only;rw[F7,A9 (AI _),AD];rw[hrow,hLt]at hs hlt;exact E0.2 ⟨hs,hlt⟩
end
theorem AOR(l:List Int)(v:Int)(hl:l.length<4611686018427387904):Tot (bU (l,v)) (fun q=>q=true<->v∈l):=by
 unfold bU nW;dsimp only
 have key:Tot (nV (l,v,(l.length:Int),0)) (fun q=>match q with
  | .inl _=>v ∉ l
  | .inr y=>0<=y/\v∈l):=by
  refine F_ (σ:=Unit) l.length (fun s i=>(l,v,(l.length:Int),i)) (fun m _=>v ∉ l.take m) (by omega) (fun next s i hi hs hn=>?_) (fun next s hs=>?_) () (by simp)
  ·unfold nU;dsimp only;rw[F7,A6 hi,AB,FK (A0 hi),A1,FR (by omega),E2];refine E1.2 ⟨fun hc=>E0.2 ⟨by omega,by rw[A8 hc];exact B9 hi⟩,fun hc=>hn () ?_⟩;rw[GN (A0 hi),AQ,AR];exact fun h=>h.elim hs (AG hc)
  ·unfold nU;dsimp only;rw[F7,A9 (AI _),AD];rw[B5]at hs;exact E0.2 hs
 refine D_.2 (D_.2 (key.mono fun q hq=>?_));rcases q with y|y
 ·exact E0.2 (E0.2 ⟨fun h=>by simp at h,fun h=>absurd h hq⟩)
 ·exact E0.2 (E0.2 ⟨fun _=>hq.2,fun _=>A6 hq.1⟩)
section
variable{t:FG}{ns:List DZ}{os:List (List DZ)}{W:List (List Int)}{A:List (List (List Int))}{st:List Int}{rt:Int}(hF:Fy ns os)(hG:Good t ns os W A st rt)
include hF hG
theorem AOS(M:Nat)(hM:M<=1000):∀(d k:Nat) (pre:List Nat) (left:List Int) (q0:List (List FC)),d<k->pre.length+d=ns.length->Dp ns A st pre left->(∀j<ns.length,∃b,bt (left.getD j 0) b=true)->
 PN ns os W rt (fun j b=>bt (left.getD j 0) b=true)->q0.length<M->
 NO k (((pre.length:Nat):Int),left,(),some (t,ns,os,W,A,st,rt),(),(),q0,some (t,ns,os,W,A,st,rt),(M:Int))=
  some (decide (q0.length+(GK ns os W A st rt d pre).length<M),q0++((GK ns os W A st rt d pre).map (HI ns os)).take (M-q0.length)):=by
 have hfew:=hF.few;intro d;induction d with
 |zero=>
  intro k pre left q0 hk hl hD hnz hpn hq;obtain⟨k,rfl⟩:∃k',k=k'+1:=⟨k-1,by omega⟩;show UT (NO k) _=_;unfold UT X_;dsimp only
  have hone:∀j<ns.length,left.getD j 0=((2 ^ pre.getD j 0:Nat):Int)/\pre.getD j 0<=cnt os j/\bt (left.getD j 0) (pre.getD j 0)=true:=by
   intro j hj;obtain⟨b,hb⟩:=hnz j hj;have hbp:=((hD.bit j hj b).1 hb).2.1 (by omega);rw[<-hbp];have hbc:b<=cnt os j:=((hG.st j hj b).1 ((hD.bit j hj b).1 hb).1).1;refine⟨dP (hD.sh.in16 j) (IQ (by have:=LN hF j;omega)).2 fun b'=>?_,hbc,hb⟩;rw[KV,Bool.eq_iff_iff,AS];constructor
   ·intro h;have:=((hD.bit j hj b').1 h).2.1 (by omega);rw[hbp,this]
   ·rintro rfl;exact hb
  have hv:Val ns os W A st rt pre:=by
   refine⟨by omega,fun j hj=>((hD.bit j hj _).1 (hone j hj).2.2).1,fun j hj k hk hkj=>((hD.bit j hj _).1 (hone j hj).2.2).2.2 k (by omega) hkj,rC (fun i hi a h=>?_) hpn⟩;exact(((hD.bit i hi a).1 h).2.1 (by omega)).symm
  have hs:GK ns os W A st rt 0 pre=[pre]:=by unfold GK;rw[if_pos hv]
  rw[hs];simp only[A1,BU,AD];rw[E2,A6 (by omega),AB];unfold iP;dsimp only;rw[AOP hF pre left hD.sh.len (fun j hj=>⟨(hone j hj).1,(hone j hj).2.1⟩),A1]
  have happ:app? 24 q0 [HI ns os pre]=some (q0++[HI ns os pre]):=by
   unfold app?;rw[A6 (by simp only[AE,AL];omega)];rfl
  rw[happ];simp only[A1,A7,AE,AL,D6,List.map_nil]
  congr 1
  refine Prod.ext ?_ ?_
  ·dsimp only;by_cases h:q0.length+1<M
   ·rw[A6 (by omega),A6 (by omega)]
   ·rw[A9 (by omega),A9 (by omega)]
  ·dsimp only;rw[BR (by simp only[AE,AL];omega)]
 |succ d ih=>
  intro k pre left q0 hk hl hD hnz hpn hq;obtain⟨k,rfl⟩:∃k',k=k'+1:=⟨k-1,by omega⟩;show UT (NO k) _=_;unfold UT X_;dsimp only;simp only[A1,BU,AD];rw[E2,A9 (by omega),AD];have hWi:W[pre.length]?=some (W.getD pre.length []):=by rw[A2,A0 (by rw[hG.shW.len];omega)];rfl
  rw[FK hWi,A1]
  have:=AOQ hF hG d (NO k) M hM pre left hl hD q0 hq (fun a left' q h1 h2 h3 h4=>by
   have:=ih k (pre++[a]) left' q (by omega) (by rw[A7];simp only[AE,AL];omega) h1 h2 h3 h4;rw[A7]at this;exact this)
  obtain⟨r,hr,hq⟩:=this;rw[hr,A1];rcases r with y|y
  ·obtain⟨h1,h2⟩:=hq;dsimp only;rw[h1,A6 h2,BR (by rw[AK];omega)]
  ·obtain⟨h1,h2,h3⟩:=hq;dsimp only;rw[h1,h2,A9 (by omega)]
theorem AOT(M:Nat)(hM:M<=1000)(hM0:0<M):
 UU (some (t,ns,os,W,A,st,rt),(),(),[],some (t,ns,os,W,A,st,rt),(M:Int))=some (((GK ns os W A st rt ns.length []).map (HI ns os)).take M):=by
 have hfew:=hF.few;have hD:Dp ns A st [] st:=⟨hG.shS,fun j hj b=>⟨fun h=>⟨h,fun h=>absurd h (Nat.not_lt_zero _),fun k h=>absurd h (Nat.not_lt_zero _)⟩,fun h=>h.1⟩⟩;have hlen:=hG.shS.len;unfold UU;dsimp only;rw[A1];dsimp only;obtain⟨b,hb,hb2⟩:=AOR st 0 (by omega);rw[hb,A1];have hzero:∀j,j<ns.length->st.getD j 0∈st:=fun j hj=>A5n (by omega);have hsn:(∀p,¬Val ns os W A st rt p)->GK ns os W A st rt ns.length []=[]:=fun h=>A5r hG (by simp) fun p hv=>absurd hv (h p);cases b with
 |true=>
  simp only[BU,AD,A1,BZ];have hm:=hb2.1 rfl;obtain⟨j,hj,hj2⟩:=D7 hm;rw[hsn fun p hv=>?_];· simp
  have:=hv.st j (by omega);rw[A2,A0 hj]at this;have this:bt st[j] (p.getD j 0)=true:=this;rw[hj2,P5]at this;cases this
 |false=>
  have hnm:(0:Int) ∉ st:=fun h=>by have:=hb2.2 h;cases this
  have hnz:∀ j<ns.length,∃ b,bt (st.getD j 0) b=true:=fun j hj=>(qT (hG.shS.in16 j)).1 (by
   rw[E2];exact A9 fun e=>hnm (by rw[<-e];exact hzero j hj))
  simp only[CW,AB,A1,CF];obtain⟨b,hp,hp2⟩:=A5q hF hG st hG.shS;rw[hp,A1];cases b with
  |true=>
   rw[AB];have hv:=AOS hF hG M hM ns.length 100 [] st [] (by omega) (by simp) hD hnz (hp2.1 rfl) (by simpa using hM0);have hv:nT (0,st,(),some (t,ns,os,W,A,st,rt),(),(),[],some (t,ns,os,W,A,st,rt),(M:Int))=_:=hv;rw[hv];simp
  |false=>
   rw[AD,hsn fun p hv=>?_];· simp
   have:=hp2.2 (rC (fun i hi a h=>by rw[<-h];exact hv.st i hi) hv.pn);cases this
end
section
variable{α:Type}{f:α->DZ}
theorem AOU{l:List α}(h:l.Pairwise fun a b=>f a<f b){a b:α}(ha:a∈l)(hb:b∈l)(e:f a=f b):a=b:=by
 obtain⟨i,hi,rfl⟩:=D7 ha;obtain⟨j,hj,rfl⟩:=D7 hb;rcases Nat.lt_trichotomy i j with h1|h1|h1
 ·have:=CI.1 h i j hi hj h1;rw[e]at this;exact absurd this (I4 _)
 ·subst h1;rfl
 ·have:=CI.1 h j i hj hi h1;rw[e]at this;exact absurd this (I4 _)
theorem AOV{l:List α}(h:l.Pairwise fun a b=>f a<f b):l.Nodup:=h.imp fun {a b} hab e=>by subst e;exact I4 _ hab
theorem AOW:∀{l l':List α},(l.Pairwise fun a b=>f a<f b)->(l'.Pairwise fun a b=>f a<f b)->(∀x,x∈l<->x∈l')->l=l':=by
 intro l;induction l with
 |nil=>
  intro l' _ _ h;exact(DI.2 fun x hx=>by have:=(h x).2 hx;cases this).symm
 |cons a l ih=>
  intro l' h1 h2 h;cases l' with
  |nil=>have:=(h a).1 (by simp);cases this
  |cons b l'=>
   rw[List.pairwise_cons]at h1 h2
   have hab:a=b:=by
    rcases B2.1 ((h a).1 (by simp))with e|e
    ·exact e
    rcases B2.1 ((h b).2 (by simp))with e'|e'
    ·exact e'.symm
    exact absurd (NT (h1.1 _ e') (h2.1 _ e)) (I4 _)
   subst hab;rw[ih h1.2 h2.2 fun x=>?_];constructor
   ·intro hx;rcases B2.1 ((h x).1 (AH _ hx))with e|e
    ·subst e;exact absurd (h1.1 _ hx) (I4 _)
    ·exact e
   ·intro hx;rcases B2.1 ((h x).2 (AH _ hx))with e|e
    ·subst e;exact absurd (h2.1 _ hx) (I4 _)
    ·exact e
end
theorem PB{l:List FC}(h:l.Pairwise fun a b=>a.1<b.1)(nm v:DZ):FD l nm=(v,true)<->(nm,v)∈l:=by
 rcases NW l nm with⟨e,hn⟩|⟨v',e,hm⟩
 ·rw[e];exact⟨fun h=>by simp at h,fun h=>absurd rfl (hn _ h)⟩
 ·rw[e];constructor
  ·intro h';have:v'=v:=congrArg Prod.fst h';subst this;exact hm
  ·intro h';have:=AOU (f:=fun p:FC=>p.1) h hm h' rfl;rw[show v'=v from congrArg Prod.snd this]
theorem AOX{l:List GJ}(h:l.Pairwise KW):(F8 l).Pairwise fun a b=>a<b:=by
 induction l using dU with
 |nil=>exact List.Pairwise.nil
 |append_singleton l o ih=>
  rw[DO]at h;obtain⟨h1,_,h3⟩:=h;rw[P9];unfold LL;split
  ·exact ih h1
  ·rename_i hn;rw[DO];refine⟨ih h1,DX _ _,fun a ha b hb=>?_⟩;cases AR.1 hb;obtain⟨x,hx,rfl⟩:=(RY _ _).1 ha;rcases h3 x hx o (by simp)with h|h
   ·exact h
   ·exact absurd (by rw[<-h.1];exact ha) hn
theorem VJ{t:FG}{nm v:DZ}:v∈I5 t nm<->∃o∈t.1,o.1=nm/\P8 t nm o=true/\o.2.1=v:=by
 unfold I5;simp only[C3,CD,AS];constructor
 ·rintro⟨o,⟨⟨h1,h2⟩,h3⟩,h4⟩;exact⟨o,h1,h2,h3,h4⟩
 ·rintro⟨o,h1,h2,h3,h4⟩;exact⟨o,⟨⟨h1,h2⟩,h3⟩,h4⟩
theorem AOY{t:FG}{nm v:DZ}{nd:FW}(h:nd∈HH t (nm,v)):∃o∈t.1,o.1=nm/\nd∈o.2.2.1:=by
 unfold HH at h;split at h
 ·rename_i o ho;have h1:=List.find?_some ho;have h2:=DE ho;rw[A5,AS]at h1;exact⟨o,h2,h1.1,(CD.1 h).1⟩
 ·cases h
section
variable{t:FG}(ht:TkB t)(hR:RegOk t.1)
include ht hR
theorem rD:Fy (F8 t.1) (GB t):=by
 have hopt:∀o∈GB t,∃s∈F8 t.1,IH t s=o:=fun o ho=>C3.1 ho;refine⟨⟨by unfold GB;rw[AK],hR.few,fun o ho=>?_⟩,ANp _,fun o ho v hv=>?_⟩
 ·obtain⟨s,_,rfl⟩:=hopt o ho;unfold IH I5;rw[DG,AK];exact A_ (BN _ _) (hR.few8 s)
 ·obtain⟨s,_,rfl⟩:=hopt o ho;have hv:v∈I5 t s:=List.mem_reverse.1 hv;obtain⟨o,ho,_,_,rfl⟩:=VJ.1 hv;exact(ht.offer o ho).2.1
theorem rE:∀i a nd,nd∈I6 t (F8 t.1) (GB t) i a->JS nd/\(F8 t.1)[i]?≠some nd.1:=by
 intro i a nd h;obtain⟨k,v,nm,rfl,h1,h2,h3⟩:=S0 h;obtain⟨o,ho,e,hm⟩:=AOY h3;refine⟨(ht.offer o ho).2.2.2 nd hm,?_⟩;rw[h2];intro he;have he:=A4 he;exact(hR.ok o ho).other nd hm (by rw[e,he])
theorem dY{j:Nat}{nm:DZ}(h:(F8 t.1)[j]?=some nm):(GB t).getD j []=IH t nm:=by
 unfold GB;rw[A2,AO,h];rfl
theorem A5t(nm:DZ):(IH t nm).Nodup:=by
 unfold IH I5;unfold List.Nodup;rw[List.pairwise_reverse];have h1:((t.1.filter fun o=>decide (o.1=nm)).filter (P8 t nm)).Pairwise KW:=hR.asc.sublist (List.filter_sublist.trans List.filter_sublist);rw[List.pairwise_map];refine h1.imp_of_mem fun {a b} ha hb hab e=>?_;have ea:a.1=nm:=A8 (CD.1 (CD.1 ha).1).2;have eb:b.1=nm:=A8 (CD.1 (CD.1 hb).1).2;rcases hab with h|h
 ·rw[ea,eb]at h;exact I4 _ h
 ·have:=h.2;rw[ea,eb,<-e]at this;exact I4 _ this
end
theorem dZ{ns:List DZ}{os:List (List DZ)}{p:List Nat}{x:FC}:x∈HI ns os p<->∃j,j<ns.length/\∃k,p.getD j 0=k+1/\x=(ns.getD j [],(os.getD j []).getD k []):=by
 unfold HI;rw[List.mem_filterMap];constructor
 ·rintro⟨j,hj,h⟩;refine⟨j,CS.1 hj,?_⟩;split at h
  ·cases h
  ·rename_i k hk;exact⟨k,hk,(A4 h).symm⟩
 ·rintro⟨j,hj,k,hk,rfl⟩;refine⟨j,CS.2 hj,?_⟩;rw[hk]
theorem O0{α:Type}{l:List α}{i:Nat}{x d:α}(h:l[i]?=some x):l.getD i d=x:=by
 rw[A2,h];rfl
theorem PC{α:Type}{l:List α}{i:Nat}{d:α}(h:i<l.length):l[i]?=some (l.getD i d):=by
 rw[A2,A0 h];rfl
theorem rF{ns:List DZ}{os:List (List DZ)}(h:ns.Pairwise fun a b=>a<b)(p:List Nat):(HI ns os p).Pairwise fun a b=>a.1<b.1:=by
 unfold HI;rw[List.pairwise_filterMap];refine(List.pairwise_lt_range (n:=ns.length)).imp_of_mem fun {i j} hi hj hij b hb b' hb'=>?_;have hi:=CS.1 hi;have hj:=CS.1 hj;split at hb
 ·cases hb
 split at hb'
 ·cases hb'
 cases hb;cases hb';dsimp only;have:=CI.1 h i j hi hj hij;rw[O0 (A0 hi),O0 (A0 hj)];exact this
structure Of(ns:List DZ)(os:List (List DZ))(p:List Nat)(l:List FC):Prop where
 pin:∀j nm,ns[j]?=some nm->(p.getD j 0=0/\FD l nm=([],false))\/∃k v,p.getD j 0=k+1/\(os.getD j [])[k]?=some v/\FD l nm=(v,true)
 inn:∀nm,(FD l nm).2=true->nm∈ns
theorem AOZ{ns:List DZ}{os:List (List DZ)}(h:ns.Pairwise fun a b=>a<b){p:List Nat}(hp:∀j<ns.length,p.getD j 0<=cnt os j):Of ns os p (HI ns os p):=by
 have hasc:=rF (os:=os) h p;have hnd:ns.Nodup:=AOV (f:=fun s:DZ=>s) h;refine⟨fun j nm hj=>?_,fun nm h=>?_⟩
 ·have hjl:=(AC.1 hj).1;cases hk:p.getD j 0 with
  |zero=>
   refine .inl ⟨rfl,?_⟩;rcases NW (HI ns os p) nm with⟨e,_⟩|⟨v,e,hm⟩
   ·exact e
   ·obtain⟨j',hj',k,hk',e'⟩:=dZ.1 hm;have e1:nm=ns.getD j' []:=congrArg Prod.fst e';have:j'=j:=M8 hnd (by rw[e1];exact PC hj') hj;subst this;rw[hk]at hk';cases hk'
  |succ k=>
   have hle:=hp j hjl;rw[hk]at hle;have hv:(os.getD j [])[k]?=some ((os.getD j []).getD k []):=PC (by unfold cnt at hle;omega);refine .inr ⟨k,_,rfl,hv,?_⟩;rw[PB hasc,dZ];exact⟨j,hjl,k,hk,by rw[O0 hj]⟩
 ·rcases NW (HI ns os p) nm with⟨e,_⟩|⟨v,e,hm⟩
  ·rw[e]at h;cases h
  ·obtain⟨j,hj,k,_,e'⟩:=dZ.1 hm;have e1:nm=ns.getD j []:=congrArg Prod.fst e';rw[e1];exact AX (PC hj)
theorem AO_{ns:List DZ}{os:List (List DZ)}(h:ns.Pairwise fun a b=>a<b){p:List Nat}{l:List FC}(hl:l.Pairwise fun a b=>a.1<b.1)(ho:Of ns os p l):HI ns os p=l:=by
 refine AOW (f:=fun p:FC=>p.1) (rF h p) hl fun x=>?_;obtain⟨nm,v⟩:=x;rw[dZ,<-PB hl];constructor
 ·rintro⟨j,hj,k,hk,e⟩;have e1:nm=ns.getD j []:=congrArg Prod.fst e;have e2:v=(os.getD j []).getD k []:=congrArg Prod.snd e;rcases ho.pin j nm (by rw[e1];exact PC hj)with⟨h0,_⟩|⟨k',v',h1,h2,h3⟩
  ·rw[h0]at hk;cases hk
  ·rw[hk]at h1;cases h1;rw[h3,e2,O0 h2]
 ·intro hp;obtain⟨j,hj,he⟩:=D7 (ho.inn nm (by rw[hp]));have hjn:ns[j]?=some nm:=by rw[A0 hj,he]
  rcases ho.pin j nm hjn with⟨_,h0⟩|⟨k,v',h1,h2,h3⟩
  ·rw[hp]at h0;cases h0
  ·rw[hp]at h3;cases h3;exact⟨j,hj,k,h1,by rw[O0 hjn,O0 h2]⟩
theorem AOa{ns:List DZ}{os:List (List DZ)}(hn:∀j,(os.getD j []).Nodup){p p':List Nat}{l:List FC}(hl:p.length=ns.length)(hl':p'.length=ns.length)(h:Of ns os p l)(h':Of ns os p' l):p=p':=by
 have hd:∀j<ns.length,p.getD j 0=p'.getD j 0:=by
  intro j hj;have hjn:=PC (d:=([]:DZ)) hj;rcases h.pin j _ hjn with⟨h0,h1⟩|⟨k,v,h1,h2,h3⟩
  ·rcases h'.pin j _ hjn with⟨h0',h1'⟩|⟨k',v',h1',h2',h3'⟩
   ·rw[h0,h0']
   ·rw[h1]at h3';cases h3'
  ·rcases h'.pin j _ hjn with⟨h0',h1'⟩|⟨k',v',h1',h2',h3'⟩
   ·rw[h3]at h1';cases h1'
   ·rw[h3]at h3';cases h3';rw[h1,h1',M8 (hn j) h2 h2']
 apply List.ext_getElem (by omega);intro j h1 h2;have:=hd j (by omega);rwa[O0 (A0 h1),O0 (A0 h2)]at this
section
variable{t:FG}(ht:TkB t)(hR:RegOk t.1){W:List (List Int)}{A:List (List (List Int))}{st:List Int}{rt:Int}(hG:Good t (F8 t.1) (GB t) W A st rt)(hH:dX t (F8 t.1)){p:List Nat}{l:List FC}(hO:Of (F8 t.1) (GB t) p l)
include hO
theorem VK(nd:FW){j:Nat}(hj:(F8 t.1)[j]?=some nd.1):M7 l nd<->IT ((GB t).getD j []) nd.2.1 (p.getD j 0)=true:=by
 unfold M7;rcases hO.pin j _ hj with⟨h0,h1⟩|⟨k,v,h1,h2,h3⟩
 ·rw[h0,h1];exact⟨fun h=>absurd h.1 (by simp),fun h=>by cases h⟩
 ·rw[h1,h3,A5l h2];exact⟨fun h=>h.2,fun h=>⟨rfl,h⟩⟩
theorem rG{nm v:DZ}(h:FD l nm=(v,true)):∃j k,(F8 t.1)[j]?=some nm/\p.getD j 0=k+1/\((GB t).getD j [])[k]?=some v/\I6 t (F8 t.1) (GB t) j (k+1)=HH t (nm,v):=by
 obtain⟨j,hj,he⟩:=D7 (hO.inn nm (by rw[h]));have hjn:(F8 t.1)[j]?=some nm:=by rw[A0 hj,he]
 rcases hO.pin j nm hjn with⟨_,h0⟩|⟨k,v',h1,h2,h3⟩
 ·rw[h]at h0;cases h0
 ·rw[h]at h3;cases h3;exact⟨j,k,hjn,h1,h2,A5o h2 hjn⟩
include ht hR hG hH
theorem AOb(hasc:l.Pairwise fun a b=>a.1<b.1)(hv:Val (F8 t.1) (GB t) W A st rt p):Right t l:=by
 have hF:=rD ht hR;have hN:=rE ht hR;have hlen:∀{j nm},(F8 t.1)[j]?=some nm->j<(F8 t.1).length:=fun h=>(AC.1 h).1;have hst:∀{j nm},(F8 t.1)[j]?=some nm->_:=fun {j nm} h=>(hG.st j (hlen h) _).1 (hv.st j (hlen h))
 have hidx:∀{nm},nm∈F8 t.1->∃j,(F8 t.1)[j]?=some nm:=fun {nm} h=>by
  obtain⟨j,hj,he⟩:=D7 h;exact⟨j,by rw[A0 hj,he]⟩
 refine⟨fun nd hnd=>?_,fun x hx=>?_,fun x hx=>?_,fun s hs=>?_⟩
 ·obtain⟨j,hj⟩:=hidx (hH.1 nd hnd);exact(VK hO nd hj).2 ((hst hj).2.2.1 nd hnd hj)
 ·obtain⟨nm,v⟩:=x;obtain⟨j,k,hj,hk,hkv,hnd⟩:=rG hO ((PB hasc nm v).2 hx);refine⟨?_,fun nd h=>?_⟩
  ·rw[dY ht hR hj]at hkv;exact List.mem_reverse.1 (AX hkv)
  ·rw[<-hnd]at h;obtain⟨i,hi⟩:=hidx ((hst hj).2.1 nd (by rw[hk];exact h));rw[VK hO nd hi];have hij:j≠i:=fun e=>(hN j _ nd h).2 (by rw[e];exact hi);have:=hv.al i (hlen hi) j (hlen hj) hij;rw[hk]at this;have hle:=rB hG hv (hlen hj);rw[hk]at hle;exact((hG.al j (hlen hj) (k+1) hle i (hlen hi) _).1 this).2.1 nd h hi
 ·obtain⟨nm,v⟩:=x
  have key:∀i,Reach (F8 t.1).length (GB t) W rt (fun i a=>p.getD i 0=a) i->∀nm,(F8 t.1)[i]?=some nm->(FD l nm).2=true->CR t l nm:=by
   intro i hr;induction hr with
   |root h=>
    intro nm hnm hp;refine .root ?_ hp;unfold NY;rw[AQ,C3];rcases(hG.rt _).1 h with⟨nd,hnd,he⟩|⟨fz,hfz,he⟩
    ·rw[hnm]at he;exact .inr ⟨nd,hnd,(A4 he).symm⟩
    ·rw[hnm]at he;rw[A4 he];exact .inl hfz
   |step h1 h2 h3 h4 h5 ih=>
    rename_i i a j;intro nm hnm hp;obtain⟨nd,hnd,he⟩:=(hG.wa i h2 a h3 j).1 h5;obtain⟨k,v,nm',rfl,g1,g2,g3⟩:=S0 hnd
    have hpi:(FD l nm').1=v/\(FD l nm').2=true:=by
     rcases hO.pin i nm' g2 with⟨z,_⟩|⟨k',v',z1,z2,z3⟩
     ·rw[h4]at z;cases z
     ·rw[h4]at z1;cases z1;rw[g1]at z2;cases z2;rw[z3];exact⟨rfl,rfl⟩
    have:=ih nm' g2 hpi.2;rw[hnm]at he;cases he;exact .step this (by rw[hpi.1];exact g3) hp
  obtain⟨j,k,hj,hk,hkv,hnd⟩:=rG hO ((PB hasc nm v).2 hx);have hp2:(FD l nm).2=true:=by rw[(PB hasc nm v).2 hx]
  rcases hv.pn j (hlen hj)with h|h
  ·rw[hk]at h;cases h
  ·exact key j h nm hj hp2
 ·obtain⟨j,hj⟩:=hidx (hH.2 s hs);have h4:=(hst hj).2.2.2 s hs hj;unfold oF at h4;split at h4
  ·rename_i k hk;have hp1:p.getD j 0=k+1:=A8 h4;rcases M6 (fun x=>decide ((FD t.2.2.2.1 s).1=x)) ((GB t).getD j [])with⟨e,_⟩|⟨i,x,e,e2,e3,_⟩
   ·rw[e]at hk;cases hk
   ·rw[e]at hk;have hk:i=k:=by have:=hk;injection this
    subst hk;have e3:(FD t.2.2.2.1 s).1=x:=A8 e3;rcases hO.pin j s hj with⟨z,_⟩|⟨k',v',z1,z2,z3⟩
    ·rw[hp1]at z;cases z
    ·rw[hp1]at z1;cases z1;rw[e2]at z2;cases z2;rw[z3,e3];exact⟨rfl,rfl⟩
  ·cases h4
omit hH in
theorem AOc(hasc:l.Pairwise fun a b=>a.1<b.1)(hp:p.length=(F8 t.1).length)(hr:Right t l):Val (F8 t.1) (GB t) W A st rt p:=by
 have hF:=rD ht hR;have hN:=rE ht hR;have hgn:∀{j},j<(F8 t.1).length->(F8 t.1)[j]?=some ((F8 t.1).getD j []):=fun h=>PC h
 have hcn:∀j<(F8 t.1).length,p.getD j 0<=cnt (GB t) j:=fun j hj=>by
  rcases hO.pin j _ (hgn hj)with⟨h,_⟩|⟨k,v,h1,h2,_⟩
  ·rw[h];exact BQ _
  ·rw[h1];exact(AC.1 h2).1
 have hnds:∀j<(F8 t.1).length,∀nd∈I6 t (F8 t.1) (GB t) j (p.getD j 0),M7 l nd:=fun j hj nd h=>by
  obtain⟨k,v,nm,e,h1,h2,h3⟩:=S0 h;rcases hO.pin j _ h2 with⟨z,_⟩|⟨k',v',z1,z2,z3⟩
  ·rw[e]at z;cases z
  ·rw[e]at z1;cases z1;rw[h1]at z2;cases z2;exact(hr.pins (nm,v) ((PB hasc _ _).1 z3)).2 nd h3
 refine⟨hp,fun j hj=>?_,fun j hj k hk hkj=>?_,fun i hi=>?_⟩
 ·rw[hG.st j hj];refine⟨hcn j hj,fun nd h=>hO.inn _ (hnds j hj nd h).1,fun nd h he=>?_,fun fz h he=>?_⟩
  ·exact(VK hO nd he).1 (hr.needs nd h)
  ·obtain⟨h1,h2⟩:=hr.frozen fz h;rcases hO.pin j _ he with⟨_,z⟩|⟨k,v,z1,z2,z3⟩
   ·rw[z]at h1;cases h1
   ·rw[z3]at h2;have h2:v=(FD t.2.2.2.1 fz).1:=h2;rw[z1];unfold oF;rcases M6 (fun x=>decide ((FD t.2.2.2.1 fz).1=x)) ((GB t).getD j [])with⟨_,e⟩|⟨i,x,e,e2,e3,_⟩
    ·have:=e v (AX z2);rw[h2]at this;simp at this
    ·have e3:(FD t.2.2.2.1 fz).1=x:=A8 e3;rw[<-e3,<-h2]at e2;have hnd:((GB t).getD j []).Nodup:=by rw[dY ht hR he];exact A5t ht hR fz
     have:=M8 hnd e2 z2;subst this;rw[e];exact A6 rfl
 ·rw[hG.al k hk _ (hcn k hk) j hj];exact⟨hcn j hj,fun nd h he=>(VK hO nd he).1 (hnds k hk nd h),fun nd h he=>(VK hO nd he).1 (hnds j hj nd h)⟩
 ·have key:∀s,CR t l s->∀i,(F8 t.1)[i]?=some s->Reach (F8 t.1).length (GB t) W rt (fun i a=>p.getD i 0=a) i:=by
   intro s hs;induction hs with
   |root h _=>
    intro i hi;refine .root ((hG.rt i).2 ?_);unfold NY at h;rw[AQ,C3]at h;rcases h with h|⟨nd,h,e⟩
    ·exact .inr ⟨_,h,hi⟩
    ·subst e;exact .inl ⟨nd,h,hi⟩
   |step h1 h2 h3 ih=>
    rename_i s nd;intro i hi;have hps:=h1.pinned;obtain⟨j,k,hj,hk,hkv,hnd⟩:=rG (v:=(FD l s).1) hO (by rw[<-hps]);have hjl:=(AC.1 hj).1;refine .step (ih j hj) hjl (a:=p.getD j 0) (hcn j hjl) rfl ((hG.wa j hjl _ (hcn j hjl) i).2 ⟨nd,?_,hi⟩);rw[hk,hnd];exact h2
  rcases hO.pin i _ (hgn hi)with⟨h,_⟩|⟨k,v,h1,h2,h3⟩
  ·exact .inl h
  ·exact .inr (key _ (hr.more (_,v) ((PB hasc _ _).1 h3)) i (hgn hi))
end
theorem AOd{t:FG}(ht:TkB t)(hR:RegOk t.1){l:List FC}(hasc:l.Pairwise fun a b=>a.1<b.1)(hc:∀x∈l,x.2∈I5 t x.1):∃p:List Nat,p.length=(F8 t.1).length/\Of (F8 t.1) (GB t) p l:=by
 let f:DZ->Nat:=fun nm=>match FD l nm with
  |(v,true)=>(IH t nm).idxOf v+1
  |_=>0
 refine⟨(F8 t.1).map f,by rw[AK],fun j nm hj=>?_,fun nm h=>?_⟩
 ·have e:((F8 t.1).map f).getD j 0=f nm:=by
   rw[A2,AO,hj];rfl
  rw[e];rcases NW l nm with⟨h,_⟩|⟨v,h,hm⟩
  ·refine .inl ⟨?_,h⟩;show(match FD l nm with|(v,true)=>(IH t nm).idxOf v+1|_=>0)=0;rw[h]
  ·have hmem:v∈IH t nm:=List.mem_reverse.2 (hc _ hm);refine .inr ⟨(IH t nm).idxOf v,v,?_,?_,h⟩
   ·show(match FD l nm with|(v,true)=>(IH t nm).idxOf v+1|_=>0)=_;rw[h]
   ·rw[dY ht hR hj];have:=List.idxOf_lt_length_iff.2 hmem;rw[A0 this,List.getElem_idxOf this]
 ·rcases NW l nm with⟨e,_⟩|⟨v,e,hm⟩
  ·rw[e]at h;cases h
  ·obtain⟨o,ho,e2,_⟩:=VJ.1 (hc _ hm);exact(RY _ _).2 ⟨o,ho,e2⟩
theorem AOe{t:FG}{l:List FC}(hr:Right t l):dX t (F8 t.1):=by
 have hin:∀nm,(FD l nm).2=true->nm∈F8 t.1:=fun nm h=>by
  rcases NW l nm with⟨e,_⟩|⟨v,e,hm⟩
  ·rw[e]at h;cases h
  ·obtain⟨o,ho,e2,_⟩:=VJ.1 (hr.pins _ hm).1;exact(RY _ _).2 ⟨o,ho,e2⟩
 exact⟨fun nd h=>hin _ (hr.needs nd h).1,fun fz h=>hin _ (hr.frozen fz h).1⟩
theorem AOf{t:FG}{ns:List DZ}{os:List (List DZ)}{W:List (List Int)}{A:List (List (List Int))}{st:List Int}{rt:Int}(hG:Good t ns os W A st rt):∀(d:Nat) (pre:List Nat),pre.length+d=ns.length->(GK ns os W A st rt d pre).Nodup:=by
 intro d;induction d with
 |zero=>
  intro pre _;unfold GK;split
  ·exact DX _ _
  ·exact List.Pairwise.nil
 |succ d ih=>
  intro pre hl;unfold GK List.Nodup;have hl':∀a,(pre++[a]).length+d=ns.length:=fun a=>by rw[A7];simp only[AE,AL];omega
  rw[List.pairwise_flatMap];refine⟨fun a _=>ih _ (hl' a),(List.pairwise_lt_range).imp fun {a b} hab x hx y hy e=>?_⟩;subst e;obtain⟨_,r,hr⟩:=(VI hG x d _ (hl' a)).1 hx;obtain⟨_,r',hr'⟩:=(VI hG x d _ (hl' b)).1 hy;have:=hr.trans hr'.symm;rw[BY,BY]at this;have:=List.append_cancel_left this;simp at this;omega
theorem AOg{t:FG}(ht:TkB t)(hR:RegOk t.1):∃S:List (List FC),S.Nodup/\(∀l,l∈S<->LkOk l/\Right t l)/\M2 (t,0)=some []/\∀M:Nat,0<M->M<=1000->M2 (t,(M:Int))=some (S.take M):=by
 have hF:=rD ht hR;obtain⟨q,hq,hq2⟩:=AOI t ht hF (rE ht hR)
 have hdef:∀m:Int,M2 (t,m)=bif ((!q.2)||(E4 m (0:Int)))then some ([]:List (List FC))else(UU (q.1,(),(),[],q.1,m)).bind fun r2=>some r2:=by
  intro m;unfold M2;dsimp only;rw[hq,A1]
 have h0:M2 (t,0)=some []:=by
  rw[hdef,show E4 (0:Int) 0=true from rfl,Bool.or_true,AB]
 rcases hq2 with⟨h1,h2⟩|⟨h1,h2,W,A,st,rt,h3,hG⟩
 ·refine⟨[],List.Pairwise.nil,fun l=>⟨fun h=>(by cases h),fun h=>absurd (AOe h.2) h2⟩,h0,fun M _ _=>?_⟩;rw[hdef,h1];simp
 ·have hasc:=AOX hR.asc
  have hval:∀x∈GK (F8 t.1) (GB t) W A st rt (F8 t.1).length [],Val (F8 t.1) (GB t) W A st rt x/\Of (F8 t.1) (GB t) x (HI (F8 t.1) (GB t) x):=fun x hx=>by
   have hv:=((VI hG x _ [] (by simp)).1 hx).1;exact⟨hv,AOZ hasc fun j hj=>rB hG hv hj⟩
  refine⟨(GK (F8 t.1) (GB t) W A st rt (F8 t.1).length []).map (HI (F8 t.1) (GB t)),?_,fun l=>?_,h0,fun M hM hM2=>?_⟩
  ·unfold List.Nodup;rw[List.pairwise_map];refine(AOf hG _ [] (by simp)).imp_of_mem fun {a b} ha hb hab e=>hab ?_;obtain⟨v1,o1⟩:=hval a ha;obtain⟨v2,o2⟩:=hval b hb;refine AOa (fun j=>?_) v1.len v2.len o1 (by rw[e];exact o2);rcases C4 j (F8 t.1).length with hj|hj
   ·rw[dY ht hR (PC (d:=([]:DZ)) hj)];exact A5t ht hR _
   ·rw[NZ (by rw[hF.len];exact hj)];exact List.Pairwise.nil
  ·rw[C3];constructor
   ·rintro⟨x,hx,rfl⟩;obtain⟨hv,ho⟩:=hval x hx;have hla:=rF (os:=GB t) hasc x;have hr:=AOb ht hR hG h2 ho hla hv;refine⟨⟨?_,fun y hy=>?_,hla⟩,hr⟩
    ·unfold HI;exact A_ (List.length_filterMap_le _ _) (by rw[CY];exact hR.few)
    ·obtain⟨o,ho,e1,_,e2⟩:=VJ.1 (hr.pins y hy).1;rw[<-e1,<-e2];exact(hR.ok o ho).pin
   ·rintro⟨hl,hr⟩;obtain⟨x,hx,ho⟩:=AOd ht hR hl.asc fun x hx=>(hr.pins x hx).1;refine⟨x,(VI hG x _ [] (by simp)).2 ⟨AOc ht hR hG ho hl.asc hx hr,List.nil_prefix⟩,AO_ hasc hl.asc ho⟩
  ·rw[hdef,h1,BU,CC,E2,A9 (by omega),AD,h3,AOT hF hG M hM2 hM,A1]
theorem d_:bW ()=some true:=by kernel_rfl
theorem A5u(a b:List FC)(hl:a.length<4611686018427387904):MX (a,b)=some (decide (a=b)):=by
 unfold MX;dsimp only;cases hc:E4 (a.length:Int) (b.length:Int)with
 |false=>
  rw[E2]at hc;have:=AG hc;rw[CW,AB,A9 fun e=>this (by rw[e])]
 |true=>
  rw[E2]at hc;have hlen:a.length=b.length:=by have:=A8 hc;omega
  rw[BU,AD]
  have:Tot (oG (a,b,(a.length:Int),(0:Int))) (fun q=>match q with
   | .inl _=>a=b
   | .inr y=>y=false/\a≠b):=by
   refine F_ (σ:=Unit) a.length (fun _ i=>(a,b,(a.length:Int),i)) (fun m _=>a.take m=b.take m) hl (fun next _ i hi hs hn=>?_) (fun next _ hs=>?_) () (by simp)
   ·unfold oE;dsimp only;have hib:i<b.length:=by omega
    rw[F7,A6 hi,AB,FK (A0 hi),A1,FK (A0 hib),A1,E6,E6,FR (by omega)];refine E1.2 ⟨fun h=>E0.2 ⟨rfl,fun e=>?_⟩,fun h=>hn () ?_⟩
    ·subst e;simp at h
    ·have h:(decide (a[i].1=b[i].1)&&decide (a[i].2=b[i].2))=true:=by simpa using h
     rw[A5,AS,AS]at h;rw[GN (A0 hi),GN (A0 hib),hs,Prod.ext h.1 h.2]
   ·unfold oE;dsimp only;rw[F7,A9 (AI _),AD];rw[B5,hlen,B5]at hs;exact E0.2 hs
  obtain⟨q,h1,h2⟩:=this;rw[h1,A1];rcases q with y|y
  ·dsimp only at h2 ⊢;rw[A6 h2]
  ·dsimp only at h2 ⊢;rw[h2.1,A9 h2.2]
theorem A5v(y l:List FC)(hl:l.length<=1048576):MX (y,l)=some (decide (y=l)):=by
 by_cases hyl:y.length<4611686018427387904
 ·exact A5u _ _ hyl
 ·unfold MX;dsimp only;have hne:y.length≠l.length:=by omega
  rw[E2,A9 (by omega),CW,AB,A9 fun e=>hne (by rw[e])]
theorem AOh(y l:List FC)(hl:l.length<=1048576):(UX (y,(some l))).bind (fun r=>some r)=some (decide (y=l)):=by
 unfold UX;dsimp only;rw[A1,A5v y l hl];rfl
theorem AOi(y l:List FC)(hl:l.length<=1048576):(UZ (y,(some l))).bind (fun r=>some r)=some (decide (y=l)):=by
 unfold UZ;dsimp only;rw[A1,A5v y l hl];rfl
theorem A5w(l:List (List FC))(f:List FC->Option Bool)(p:List FC->Bool)(hf:∀x,f x=some (p x))(hl:l.length<4611686018427387904):∃b,UY (l,f)=some b/\(b=true<->∃x∈l,p x=true):=by
 unfold UY oJ;dsimp only
 have:Tot (oI (l,f,(l.length:Int),(0:Int))) (fun q=>match q with
  | .inl _=>∀x∈l,p x=false
  | .inr y=>0<=y/\∃x∈l,p x=true):=by
  refine F_ (σ:=Unit) l.length (fun _ i=>(l,f,(l.length:Int),i)) (fun m _=>∀x∈l.take m,p x=false) hl (fun next _ i hi hs hn=>?_) (fun next _ hs=>?_) () (by simp)
  ·unfold oH;dsimp only;rw[F7,A6 hi,AB,FK (A0 hi),A1,hf,A1,FR (by omega)];refine E1.2 ⟨fun h=>E0.2 ⟨by omega,_,B9 hi,h⟩,fun h=>hn () ?_⟩;rw[LK hi];exact⟨hs,h⟩
  ·unfold oH;dsimp only;rw[F7,A9 (AI _),AD];rw[B5]at hs;exact E0.2 hs
 obtain⟨q,h1,h2⟩:=this;rw[h1,A1];rcases q with y|y
 ·refine⟨_,rfl,?_⟩;dsimp only at h2;rw[AS];exact⟨fun h=>absurd h (by decide),fun⟨x,hx,h⟩=>by rw[h2 x hx]at h;cases h⟩
 ·refine⟨_,rfl,?_⟩;dsimp only at h2;rw[AS];exact⟨fun _=>h2.2,fun _=>h2.1⟩
theorem A5x{t:FG}(ht:TkB t)(hc:MV t=some 0)(l:List FC)(hl:l.length<=1048576)(hb:∀p∈l,p.1.length<=1048576/\p.2.length<=1048576):
 Tot (UW (t,l)) (fun q=>(q.2=0<->LkOk l)/\(q.2=0->(q.1=[]<->Right t l))):=by
 unfold UW nY;dsimp only;rw[hc,A1,show(!(E4 (0:Int) 0))=false from rfl,AD];refine D_.2 (D_.2 ((A5i l hl hb).mono fun e he=>E0.2 (E1.2 ⟨fun h=>E0.2 ?_,fun h=>?_⟩)))
 ·rw[E2]at h;have h:¬e=0:=by simpa using h
  exact⟨he,fun h0=>absurd h0 h⟩
 ·have h:e=0:=by rw[E2]at h;simpa using h
  have hk:=he.1 h;exact D_.2 ((ANo t ht l ⟨hk.few,hb⟩).mono fun q hq=>E0.2 ⟨⟨fun _=>hk,fun _=>rfl⟩,fun _=>hq⟩)
theorem AOj{t:FG}(ht:TkB t){l:List FC}(hk:LkOk l)(hr:Right t l):l.length<=1048576/\∀p∈l,p.1.length<=1048576/\p.2.length<=1048576:=by
 refine⟨by have:=hk.few;omega,fun p hp=>?_⟩;obtain⟨o,ho,e1,_,e2⟩:=VJ.1 (hr.pins p hp).1;have:=ht.offer o ho;rw[<-e1,<-e2];exact⟨this.1,this.2.1⟩
theorem AOk{t:FG}(ht:TkB t)(hc:MV t=some 0)(x:List (List FC))(hl:x.length<=1048576)(hnd:x.Nodup)(hx:∀l∈x,LkOk l/\Right t l):
 oL (t,x,x,(x.length:Int),0)=some (.inl t):=by
 refine J3 ?_;refine F_ (σ:=Unit) x.length (fun _ i=>(t,x,x,(x.length:Int),i)) (fun _ _=>True) (by omega) (fun next s i hi hs hn=>?_) (fun next s hs=>?_) () trivial
 ·unfold oK;dsimp only;obtain⟨hk,hr⟩:=hx _ (B9 hi);obtain⟨k1,k2⟩:=AOj ht hk hr;rw[F7,A6 hi,AB,FK (A0 hi),A1,FR (by omega)];refine D_.2 ((A5x ht hc _ k1 k2).mono fun q hq=>?_);have hq2:=hq.1.2 hk;have hq1:=(hq.2 hq2).2 hr
  have hv:((!(E4 q.2 (0:Int)))||(decide ((0:Int)<(q.1.length:Int))))=false:=by
   rw[hq2,hq1];rfl
  rw[hv]
  have hcut:cut? x 0 (i:Int)=some (x.take i):=by
   refine J3 (H4.2 ⟨⟨B7 _,by omega,by omega⟩,?_⟩);rw[B6];rfl
  simp only[CW,AB,CC];rw[hcut,A1];obtain⟨b,hb,hb2⟩:=A5w (x.take i) (fun y=>(UX (y,(some x[i]))).bind fun r=>some r) (fun y=>decide (y=x[i])) (fun y=>AOh y _ (by omega)) (by rw[B4];omega)
  ·rw[hb,A1]
   have:b=false:=by
    cases hbb:b with
    |false=>rfl
    |true=>
     obtain⟨y,hy,he⟩:=hb2.1 hbb;have he:=A8 he;obtain⟨j,hj,e⟩:=CB.1 hy;have:=CI.1 hnd j i (by omega) hi (by omega);exact absurd (e.trans he) this
   rw[this,AD];exact hn () trivial
 ·unfold oK;dsimp only;rw[F7,A9 (AI _),AD];exact E0.2 rfl
theorem AOl(t:FG)(l:List FC)(most:Int)(ht:TkB t)(hB:BB t.2.2.2.2.2.2)(hl:l.length<=1048576)(hb:∀p∈l,p.1.length<=1048576/\p.2.length<=1048576):
 b_ (t,l,most)=some true:=by
 obtain⟨e,hc,he⟩:=AO1 t ht hB;unfold b_ nX bV;dsimp only;simp only[hc,A1];by_cases h0:e=0
 ·subst h0;have hk:=(he.1 rfl).2;obtain⟨S,hnd,hS,hf0,hf⟩:=AOg ht hk.reg;have hf1:=hf 1 (by decide) (by decide);rw[show((1:Nat):Int)=1 from rfl]at hf1;simp only[show(!(E4 (0:Int) 0))=false from rfl,AD,hf1,A1];cases hm:(decide (most<(0:Int))||decide ((1000:Int)<most))with
  |true=>
   simp only[AB,A1];have:(M2 (t,(1:Int))).isSome:=by rw[hf1];rfl
   rcases S with _|⟨s,S⟩
   ·simp[d_,E4]
   ·simp only[List.take_succ_cons,D1,AE,AL];rw[show E4 (((0+1:Nat)):Int) 0=false from rfl,AD,show at? [s] (0:Int)=some s from rfl];simp[d_,E4]
  |false=>
   rw[AD];obtain⟨m1,m2⟩:=BM.1 hm;have m1:=AG m1;have m2:=AG m2;obtain⟨M,rfl⟩:=Int.eq_ofNat_of_zero_le (show 0<=most by omega)
   have hfM:M2 (t,(M:Int))=some (S.take M):=by
    rcases DJ M with h|h
    ·subst h;exact hf0
    ·exact hf M h (by omega)
   rw[hfM];simp only[A1]
   have hres:∃a:List FC,(bif E4 ((S.take 1).length:Int) 0 then some (([]:List FC),false,(0:Int))else(at? (S.take 1) (0:Int)).bind fun y3=>some (y3,true,(0:Int)))=some (a,decide (0<S.length),0)/\∀s,S[0]?=some s->a=s:=by
    rcases S with _|⟨s,S⟩
    ·exact⟨[],rfl,fun s h=>by cases h⟩
    ·exact⟨s,rfl,fun s' h=>by cases h;rfl⟩
   obtain⟨a,ha,ha2⟩:=hres;rw[ha];simp only[A1];rw[show(!(E4 (0:Int) 0))=false from rfl,Bool.or_self,AD];have hxl:(S.take M).length<=M:=by rw[B4];omega
   rw[AOk ht hc (S.take M) (by omega) (hnd.sublist (List.take_sublist _ _)) (fun l h=>(hS l).1 (DC h))];simp only[A1]
   have hpos:decide ((0:Int)<(M:Int))=true->decide ((0:Int)<((S.take M).length:Int))=decide (0<S.length):=by
    intro h;have h:=A8 h;rw[B4];by_cases hs:0<S.length
    ·rw[A6 hs,A6 (by omega)]
    ·rw[A9 hs,A9 (by omega)]
   have hfst:(bif (((decide ((0:Int)<(M:Int)))&&(!(!(HU (decide (0<S.length)) (decide ((0:Int)<((S.take M).length:Int)))))))&&decide (0<S.length))then at? (S.take M) (0:Int)else some ([]:List FC))=
    some (if(0:Int)<(M:Int)/\0<S.length then a else []):=by
    by_cases hM:(0:Int)<(M:Int)
    ·by_cases hs:0<S.length
     ·rw[hpos (A6 hM),qR,A6 hM,A6 hs,if_pos ⟨hM,hs⟩];obtain⟨s,hs'⟩:∃s,S[0]?=some s:=⟨S[0],A0 hs⟩;rw[ha2 s hs'];have:(S.take M)[0]?=some s:=by rw[AV,if_pos (by omega)];exact hs'
      have:=FK this;simpa using this
     ·rw[A9 hs,Bool.and_false,AD,if_neg fun h=>hs h.2]
    ·rw[A9 hM,BZ,BZ,AD,if_neg fun h=>hM h.1]
   rw[hfst];simp only[A1]
   have hal:a.length<4611686018427387904\/¬0<S.length:=by
    by_cases hs:0<S.length
    ·left;obtain⟨s,hs'⟩:∃s,S[0]?=some s:=⟨S[0],A0 hs⟩;rw[ha2 s hs'];have:=((hS s).1 (AX hs')).1.few;omega
    ·exact .inr hs
   have hsnd:(bif (((decide ((0:Int)<(M:Int)))&&(!(!(HU (decide (0<S.length)) (decide ((0:Int)<((S.take M).length:Int)))))))&&decide (0<S.length))then MX (a,(if(0:Int)<(M:Int)/\0<S.length then a else []))else some false)=
    some (decide ((0:Int)<(M:Int)/\0<S.length)):=by
    by_cases hM:(0:Int)<(M:Int)
    ·by_cases hs:0<S.length
     ·rw[hpos (A6 hM),qR,A6 hM,A6 hs,if_pos ⟨hM,hs⟩,A5u _ _ (hal.resolve_right fun h=>h hs),A6 rfl,A6 ⟨hM,hs⟩];rfl
     ·rw[A9 hs,Bool.and_false,AD,A9 fun h=>hs h.2]
    ·rw[A9 hM,BZ,BZ,AD,A9 fun h=>hM h.1]
   rw[hsnd];simp only[A1]
   have hthird:(((decide ((0:Int)<(M:Int)))&&((!(HU (decide (0<S.length)) (decide ((0:Int)<((S.take M).length:Int)))))||(decide (0<S.length)&&(!(decide ((0:Int)<(M:Int)/\0<S.length))))))||(decide ((M:Int)<((S.take M).length:Int))))=false:=by
    rw[A9 (show ¬(M:Int)<((S.take M).length:Int) by omega),Bool.or_false];by_cases hM:(0:Int)<(M:Int)
    ·rw[hpos (A6 hM),qR,A6 hM];by_cases hs:0<S.length
     ·rw[A6 hs,A6 ⟨hM,hs⟩];rfl
     ·rw[A9 hs];rfl
    ·rw[A9 hM,BZ]
   rw[hthird,AD];obtain⟨q,hq,hq1,hq2⟩:=A5x ht hc l hl hb;rw[hq,A1];obtain⟨b,hb1,hb2⟩:=A5w (S.take M) (fun y=>(UZ (y,(some l))).bind fun r=>some r) (fun y=>decide (y=l)) (fun y=>AOi y _ (by omega)) (by omega)
   ·rw[hb1,A1]
    have hor:(((!(E4 q.2 (0:Int)))||(decide ((0:Int)<(q.1.length:Int))))||b||(E4 ((S.take M).length:Int) (M:Int)))=true:=by
     by_cases g0:q.2=0
     ·by_cases g1:q.1=[]
      ·have hr:=(hq2 g0).1 g1;have hk:=hq1.1 g0;have hm:=(hS l).2 ⟨hk,hr⟩;by_cases g2:l∈S.take M
       ·rw[hb2.2 ⟨l,g2,A6 rfl⟩,Bool.or_true,Bool.true_or]
       ·have:(S.take M).length=M:=by
         rw[B4];rcases C4 S.length M with h|h
         ·rw[BR (by omega)]at g2;exact absurd hm g2
         ·omega
        rw[this,show E4 (M:Int) (M:Int)=true by rw[E2];exact A6 rfl,Bool.or_true]
      ·have:0<q.1.length:=List.length_pos_iff.2 g1;rw[A6 (show(0:Int)<(q.1.length:Int) by omega)];simp
     ·rw[E2,A9 g0];simp
    rw[hor,AB,d_];rfl
 ·have h1:(!(E4 e (0:Int)))=true:=by rw[E2,A9 h0];rfl
  simp only[A1,h1,Bool.true_or,AB,d_]
abbrev wN(t:FG)(l:List FW):FG:=(t.1,(l,t.2.2))
def AOm(t:FG)(l:List FW):Prop:=∃k,LkOk k/\Right (wN t l) k
noncomputable instance decSolv(t:FG)(l:List FW):Decidable (AOm t l):=Classical.propDecidable _
section
variable{t:FG}(ht:TkB t)(hB:BB t.2.2.2.2.2.2)(hc:MV t=some 0)
include ht hB hc
end
end Go.Ev.Pv
