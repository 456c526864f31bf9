/-
  The law as plain Lean, second part: the solver's tables, what it goes through, what is wrong with a lock.
-/
import Derived.Test.YtlljgbmoloklgaaGreatDoorLD
import Derived.Test.YtlljgbmoloklgaaGreatDoorLA1
import Derived.KernelRfl
set_option linter.unusedVariables false
set_option linter.unusedSimpArgs false
set_option linter.unusedSectionVars false
set_option maxRecDepth 100000
namespace Go.Ev.Pv
theorem JQ{α:Type}{m:Option α}{v:α}(h:Tot m fun r=>r=v):m=some v:=let ⟨_,h1,h2⟩:=h;h2▸h1
theorem GI{X R σ:Type}{r:(X->Option R)->X->Option R}(n:Nat)(enc:σ->Int->X)(J:Nat->σ->Prop){Q:R->Prop}(hn:n<4611686018427387904)
 (hstep:∀next s (i:Nat),i<n->J i s->(∀s',J (i+1) s'->Tot (next (enc s' ((i:Int)+1))) Q)->Tot (r next (enc s (i:Int))) Q)
 (hend:∀next s,J n s->Tot (r next (enc s (n:Int))) Q)(s0:σ)(h0:J 0 s0):Tot (EK r fuel (enc s0 0)) Q:=by
 have key:∀(m i k:Nat) s,i+m=n->m<k->J i s->Tot (EK r k (enc s (i:Int))) Q:=by
  intro m;induction m with
  |zero=>
   intro i k s hi hk hj;cases k with
   |zero=>omega
   |succ k=>
    rw[show i=n by omega]at hj ⊢;exact hend _ s hj
  |succ m ih=>
   intro i k s hi hk hj;cases k with
   |zero=>omega
   |succ k=>
    refine hstep _ s i (by omega) hj fun s' hs'=>?_;have:=ih (i+1) k s' (by omega) (by omega) hs';rwa[show((i+1:Nat):Int)=(i:Int)+1 by omega]at this
 have:=key n 0 fuel s0 (by omega) (by unfold fuel;omega) h0;exact this
theorem FX{i:Nat}(h:i<4611686018427387904):IntKind.i64.wrap ((i:Int)+1)=(i:Int)+1:=EY (by omega) (by omega)
theorem FW{α:Type}{l:List α}{i:Nat}{x:α}(h:l[i]?=some x):at? l (i:Int)=some x:=by
 unfold at?;rw[A7 (BI i)];exact h
theorem HI{n i:Nat}(h:i<n):in? n (i:Int)=some ():=by
 unfold in?;rw[A7 (BI i),A7 (by omega:(i:Int)<n)];rfl
theorem FD(i n:Nat):decide ((i:Int)<(n:Int))=decide (i<n):=by
 by_cases h:i<n
 ·rw[A7 h,A7 (by omega)]
 ·rw[AC h,AC (by omega)]
def FV(s:Int):Prop:=0<=s/\s<65536
def bt(s:Int)(i:Nat):Bool:=s.toNat.testBit i
theorem RL{n:Nat}(h:n<65536):FV (n:Int):=⟨by omega,by omega⟩
theorem RM{n:Nat}(h:n<65536):IntKind.u16.wrap (n:Int)=n:=by
 simp only[IntKind.wrap,IntKind.bits,IntKind.signed];simp;omega
theorem N2{s:Int}(h:FV s):(BitVec.ofInt 16 s).toNat=s.toNat:=by
 obtain⟨h0,h1⟩:=h;rw[BitVec.toNat_ofInt];omega
theorem A4s{s:Int}(h:FV s){i:Nat}(hi:16<=i):bt s i=false:=by
 unfold bt;apply Nat.testBit_lt_two_pow;have:2 ^ 16<=2 ^ i:=DD (by decide) hi;have h1:=h.2;have h0:=h.1;omega
theorem dB{a b:Int}(ha:FV a)(hb:FV b)(h:∀i,bt a i=bt b i):a=b:=by
 have:a.toNat=b.toNat:=Nat.eq_of_testBit_eq h;have:=ha.1;have:=hb.1;omega
theorem dC{a b:Int}(ha:FV a)(hb:FV b):FV (HB IntKind.u16 a b)/\∀i,bt (HB IntKind.u16 a b) i=(bt a i||bt b i):=by
 have e:HB IntKind.u16 a b=((a.toNat|||b.toNat:Nat):Int):=by
  unfold HB;rw[show IntKind.u16.bits=16 from rfl,BitVec.toNat_or,N2 ha,N2 hb];exact RM (Nat.or_lt_two_pow (n:=16) (by have:=ha.2;omega) (by have:=hb.2;omega))
 rw[e];refine⟨RL (Nat.or_lt_two_pow (n:=16) (by have:=ha.2;omega) (by have:=hb.2;omega)),fun i=>?_⟩;simp[bt,Nat.testBit_or]
theorem RN{a b:Int}(ha:FV a)(hb:FV b):FV (I6 IntKind.u16 a b)/\∀i,bt (I6 IntKind.u16 a b) i=(bt a i&&bt b i):=by
 have e:I6 IntKind.u16 a b=((a.toNat &&& b.toNat:Nat):Int):=by
  unfold I6;rw[show IntKind.u16.bits=16 from rfl,BitVec.toNat_and,N2 ha,N2 hb];exact RM (Nat.and_lt_two_pow (n:=16) _ (by have:=hb.2;omega))
 rw[e];refine⟨RL (Nat.and_lt_two_pow (n:=16) _ (by have:=hb.2;omega)),fun i=>?_⟩;simp[bt,Nat.testBit_and]
theorem A4t{a b:Int}(ha:FV a)(hb:FV b):FV (M8 IntKind.u16 a b)/\∀i,bt (M8 IntKind.u16 a b) i=(bt a i && !bt b i):=by
 have hlt:(BitVec.ofInt 16 a &&& ~~~BitVec.ofInt 16 b).toNat<65536:=(BitVec.ofInt 16 a &&& ~~~BitVec.ofInt 16 b).isLt;have e:M8 IntKind.u16 a b=((BitVec.ofInt 16 a &&& ~~~BitVec.ofInt 16 b).toNat:Int):=RM hlt;rw[e];refine⟨RL hlt,fun i=>?_⟩;unfold bt;rw[B4,<-BitVec.getLsbD,BitVec.getLsbD_and];by_cases hi:i<16
 ·rw[BitVec.getLsbD_not,A7 hi];unfold BitVec.getLsbD;rw[N2 ha,N2 hb];rfl
 ·have h1:=A4s ha (i:=i) (by omega);unfold bt at h1;rw[h1];unfold BitVec.getLsbD;rw[N2 ha,h1];rfl
theorem IP{i:Nat}(h:i<=15):shl? IntKind.u16 (1:Int) (i:Int)=some ((2 ^ i:Nat):Int)/\FV ((2 ^ i:Nat):Int):=by
 have hp:2 ^ i<65536:=Nat.lt_of_le_of_lt (DD (by decide) h) (by decide:2 ^ 15<65536);refine⟨?_,RL hp⟩;unfold shl?
 rw [AC (by omega),show min (i:Int).toNat IntKind.u16.bits=i by
  show min (i:Int).toNat 16=i;omega]
 show some _=_
 congr 1
 rw[Int.one_mul];have:=RM hp;rw[show(((2 ^ i:Nat)):Int)=(2:Int) ^ i by simp]at this ⊢;exact this
theorem KU(i j:Nat):bt ((2 ^ i:Nat):Int) j=decide (i=j):=by
 unfold bt;rw[B4,Nat.testBit_two_pow]
theorem pQ{n:Nat}(h:n<=15):UG (n:Int)=some ((2 ^ n-1:Nat):Int)/\FV ((2 ^ n-1:Nat):Int):=by
 have hp:2 ^ n<65536:=Nat.lt_of_le_of_lt (DD (by decide) h) (by decide:2 ^ 15<65536);have h0:0<2 ^ n:=Nat.pow_pos (by decide);refine⟨?_,RL (by omega)⟩;unfold UG;rw[(IP h).1];show some _=_
 congr 1
 have:=RM (n:=2 ^ n-1) (by omega);rwa[show((2 ^ n-1:Nat):Int)=((2 ^ n:Nat):Int)-1 by omega]at this ⊢
theorem A4u(n j:Nat):bt ((2 ^ n-1:Nat):Int) j=decide (j<n):=by
 unfold bt;rw[B4,Nat.testBit_two_pow_sub_one]
theorem P1(j:Nat):bt 0 j=false:=by simp[bt]
theorem NU:FV 0:=⟨by decide,by decide⟩
theorem P2{s:Int}(h:FV s)(i:Nat):LW (s,(i:Int))=some (bt s i):=by
 obtain⟨h0,h1⟩:=h;unfold LW shr?;dsimp only;rw[AC (by omega)];show some _=_
 congr 1
 have hs:s=((s.toNat:Nat):Int):=by omega
 have hq:s.fdiv (2 ^ min (i:Int).toNat IntKind.u16.bits)=((s.toNat / 2 ^ min i 16:Nat):Int):=by
  rw[show(min (i:Int).toNat IntKind.u16.bits)=min i 16 from by show min (i:Int).toNat 16=_;omega];rw[DO _ (by exact Int.pow_nonneg (by decide))];conv=>lhs;rw[hs]
  simp
 rw[hq];have hlt:s.toNat / 2 ^ min i 16<65536:=Nat.lt_of_le_of_lt (Nat.div_le_self _ _) (by omega);have ha:=RN (RL hlt) (b:=1) ⟨by decide,by decide⟩
 have e:bt s i=(s.toNat / 2 ^ min i 16).testBit 0:=by
  rcases C8 i 16 with hi|hi
  ·rw[D_ (by omega),Nat.testBit_div_two_pow];simp[bt]
  ·rw[A4s ⟨h0,h1⟩ hi,Nat.min_eq_right hi,Nat.div_eq_of_lt (by omega)];rfl
 have hb:∀j,bt (I6 IntKind.u16 ((s.toNat / 2 ^ min i 16:Nat):Int) 1) j=(bt s i&&decide (j=0)):=by
  intro j;rw[ha.2 j]
  have:bt 1 j=decide (j=0):=by
   have:=KU 0 j;simp only[Nat.pow_zero]at this;rw[show((1:Nat):Int)=1 from rfl]at this;rw[this];by_cases hj:j=0<;>simp[hj,eq_comm]
  rw[this];by_cases hj:j=0
  ·subst hj;rw[e];unfold bt;rw[B4];first|done|simp
  ·simp[hj]
 rw[E4];cases hbi:bt s i with
 |true=>
  apply A7;refine dB ha.1 ⟨by decide,by decide⟩ fun j=>?_;rw[hb,hbi];have:=KU 0 j;simp only[Nat.pow_zero]at this;rw[show((1:Nat):Int)=1 from rfl]at this;rw[this];by_cases hj:j=0<;>simp[hj,eq_comm]
 |false=>
  apply AC;intro he;have h2:=hb 0;rw[he,hbi]at h2;revert h2;decide
theorem pR{s:Int}(h:FV s):E6 s 0=false<->∃i,bt s i=true:=by
 rw[E4];constructor
 ·intro hs;apply CD;intro hn
  have:s=0:=dB h NU fun i=>by
   rw[P1];cases hb:bt s i with
   |false=>rfl
   |true=>exact absurd ⟨i,hb⟩ hn
  exact AF hs this
 ·rintro⟨i,hi⟩;apply AC;rintro rfl;rw[P1]at hi;cases hi
end Go.Ev.Pv
namespace Go.Ev.Pv
abbrev FI:=E0×(Int×List ((Bool×Bool×E0)×(Bool×Bool×E0)))×Int
abbrev GN:=E0×E0×List FI×Bool
abbrev G5:=E0×E0
abbrev AMd:=Int×(List (E0×(List E0)×E0×Int×Bool×E0×(List (E0×Int×(List (Int×E0))×(List E0)×(List E0)))))×(List Int)
abbrev FK:=List GN×List FI×Int×List G5×List E0×Bool×AMd
abbrev V1:=FK×List E0×List (List E0)×List (List Int)×List (List (List Int))×List Int×Int
theorem A4v{α:Type}{p:α->Bool}{s:List α}{x:α}(h:p x=true):s++[x]=s++[x].filter p:=by simp[h]
theorem A4w{α:Type}{p:α->Bool}{s:List α}{x:α}(h:p x=false):s=s++[x].filter p:=by simp[h]
def IQ{α:Type}(p:α->Bool)(l:List α):Int:=match l.findIdx? p with
 |some i=>i
 |none=>-1
theorem dD{α:Type}{p:α->Bool}{l:List α}{i:Nat}{x:α}(h:l[i]?=some x)(hp:p x=true)(hn:∀y∈l.take i,p y=false):IQ p l=i:=by
 have:l.findIdx? p=some i:=by
  rw[List.findIdx?_eq_some_iff_getElem];obtain⟨hi,hx⟩:=AA.1 h;refine⟨hi,by rw[hx];exact hp,fun j hj=>?_⟩;have:=hn l[j] (CE.2 ⟨j,by omega,rfl⟩);simp[this]
 unfold IQ;rw[this]
theorem pS{α:Type}{p:α->Bool}{l:List α}(hn:∀y∈l,p y=false):IQ p l= -1:=by
 have:l.findIdx? p=none:=by
  rw[List.findIdx?_eq_none_iff];exact hn
 unfold IQ;rw[this]
theorem N3{α:Type}(p:α->Bool)(l:List α):(IQ p l= -1/\∀y∈l,p y=false)\/∃(i:Nat) (x:α),IQ p l=i/\l[i]?=some x/\p x=true/\∀(j:Nat) (y:α),j<i->l[j]?=some y->p y=false:=by
 cases h:l.findIdx? p with
 |none=>
  left;refine⟨?_,List.findIdx?_eq_none_iff.1 h⟩;unfold IQ;rw[h]
 |some i=>
  right;rw[List.findIdx?_eq_some_iff_getElem]at h;obtain⟨hi,hp,hn⟩:=h;refine⟨i,l[i],?_,A0 hi,hp,fun j y hj hy=>?_⟩
  ·refine dD (A0 hi) hp fun y hy=>?_;obtain⟨j,hj,rfl⟩:=CE.1 hy;have:=hn j (by omega);simpa using this
  ·obtain⟨hj',rfl⟩:=AA.1 hy;have:=hn j hj;simpa using this
theorem V2(l:List E0)(v:E0)(hl:l.length<4611686018427387904):MO (l,v)=some (IQ (fun x=>decide (v=x)) l):=by
 unfold MO;dsimp only
 have:Tot (ZK (l,v,(l.length:Int),(0:Int))) (fun q=>(match q with| .inl _=>-1| .inr y=>y)=IQ (fun x=>decide (v=x)) l):=by
  refine GI (σ:=Unit) l.length (fun _ i=>(l,v,(l.length:Int),i)) (fun i _=>∀y∈l.take i,decide (v=y)=false) hl (fun next _ i hi hj hn=>?_) (fun next _ hj=>?_) () (by simp)
  ·unfold ZJ;dsimp only;rw[FD,A7 hi,AB,FW (A0 hi),A1];refine E3.2 ⟨fun h=>E2.2 ?_,fun h=>?_⟩
   ·exact(dD (A0 hi) (by rwa[EA]at h) hj).symm
   ·rw[FX (by omega)];refine hn () ?_;intro y hy;rw[H4 (A0 hi),AP,AU]at hy;rcases hy with hy|rfl
    ·exact hj y hy
    ·rwa[EA]at h
  ·unfold ZJ;dsimp only;rw[FD,AC (AJ _),AE];exact E2.2 (pS (by rwa[BL]at hj)).symm
 obtain⟨q,h1,h2⟩:=this;rw[h1,A1];rcases q with y|y<;>· dsimp only at h2 ⊢;rw[<-h2]
theorem AMe(l:List G5)(f:G5->Option Bool)(p:G5->Bool)(hf:∀x,f x=some (p x))(hl:l.length<4611686018427387904):ZU (l,f)=some (IQ p l):=by
 unfold ZU;dsimp only
 have:Tot (kH (l,f,(l.length:Int),(0:Int))) (fun q=>(match q with| .inl _=>-1| .inr y=>y)=IQ p l):=by
  refine GI (σ:=Unit) l.length (fun _ i=>(l,f,(l.length:Int),i)) (fun i _=>∀y∈l.take i,p y=false) hl (fun next _ i hi hj hn=>?_) (fun next _ hj=>?_) () (by simp)
  ·unfold kG;dsimp only;rw[FD,A7 hi,AB,FW (A0 hi),A1,hf,A1];refine E3.2 ⟨fun h=>E2.2 ?_,fun h=>?_⟩
   ·exact(dD (A0 hi) h hj).symm
   ·rw[FX (by omega)];refine hn () ?_;intro y hy;rw[H4 (A0 hi),AP,AU]at hy;rcases hy with hy|rfl
    ·exact hj y hy
    ·exact h
  ·unfold kG;dsimp only;rw[FD,AC (AJ _),AE];exact E2.2 (pS (by rwa[BL]at hj)).symm
 obtain⟨q,h1,h2⟩:=this;rw[h1,A1];rcases q with y|y<;>· dsimp only at h2 ⊢;rw[<-h2]
theorem AMf(l:List FI)(f:FI->Option Bool)(p:FI->Bool)(hf:∀x,f x=some (p x))(hl:l.length<4611686018427387904):ZO (l,f)=some (IQ p l):=by
 unfold ZO;dsimp only
 have:Tot (kC (l,f,(l.length:Int),(0:Int))) (fun q=>(match q with| .inl _=>-1| .inr y=>y)=IQ p l):=by
  refine GI (σ:=Unit) l.length (fun _ i=>(l,f,(l.length:Int),i)) (fun i _=>∀y∈l.take i,p y=false) hl (fun next _ i hi hj hn=>?_) (fun next _ hj=>?_) () (by simp)
  ·unfold kB;dsimp only;rw[FD,A7 hi,AB,FW (A0 hi),A1,hf,A1];refine E3.2 ⟨fun h=>E2.2 ?_,fun h=>?_⟩
   ·exact(dD (A0 hi) h hj).symm
   ·rw[FX (by omega)];refine hn () ?_;intro y hy;rw[H4 (A0 hi),AP,AU]at hy;rcases hy with hy|rfl
    ·exact hj y hy
    ·exact h
  ·unfold kB;dsimp only;rw[FD,AC (AJ _),AE];exact E2.2 (pS (by rwa[BL]at hj)).symm
 obtain⟨q,h1,h2⟩:=this;rw[h1,A1];rcases q with y|y<;>· dsimp only at h2 ⊢;rw[<-h2]
def FP(l:List G5)(name:E0):E0×Bool:=match l.find? (fun p=>decide (p.1=name))with
 |some p=>(p.2,true)
 |none=>([],false)
theorem P3(l:List G5)(name:E0):(FP l name=([],false)/\∀p∈l,p.1≠name)\/∃v,FP l name=(v,true)/\(name,v)∈l:=by
 unfold FP;cases h:l.find? (fun p=>decide (p.1=name))with
 |none=>exact .inl ⟨rfl,fun p hp=>by have:=List.find?_eq_none.1 h p hp;simpa using this⟩
 |some p=>
  have h1:=List.find?_some h;have h2:=DT h;have h1:p.1=name:=by simpa using h1
  exact .inr ⟨p.2,rfl,by rw[<-h1];exact h2⟩
theorem pT(l:List G5)(name:E0)(hl:l.length<4611686018427387904):QV (l,name)=some (FP l name):=by
 unfold QV;dsimp only;rw[AMe l _ (fun p=>decide (p.1=name)) (fun x=>by unfold kF;dsimp only;rw[A1,A1,EA]) hl,A1];unfold FP;rcases N3 (fun p:G5=>decide (p.1=name)) l with⟨h1,h2⟩|⟨i,x,h1,h2,h3,h4⟩
 ·rw[h1,List.find?_eq_none.2 fun p hp=>by simp[h2 p hp]];rfl
 ·rw[h1,AC (by omega),AE,FW h2,A1]
  have:l.find? (fun p=>decide (p.1=name))=some x:=by
   rw[List.find?_eq_some_iff_getElem];obtain⟨hi,hx⟩:=AA.1 h2;refine⟨h3,i,hi,hx,fun j hj=>?_⟩;have:=h4 j l[j] hj (A0 (by omega));simpa using this
  rw[this]
theorem AMg(l:List GN)(name:E0)(hl:l.length<=1048576):b9 (l,name)=some (l.filter fun o=>decide (o.1=name)):=by
 unfold b9;dsimp only
 have:Tot (lO (name,[],l,(l.length:Int),(0:Int))) (fun q=>q=l.filter fun o=>decide (o.1=name)):=by
  refine GI (σ:=List GN) l.length (fun s i=>(name,s,l,(l.length:Int),i)) (fun i s=>s=(l.take i).filter fun o=>decide (o.1=name)) (by omega) (fun next s i hi hj hn=>?_) (fun next s hj=>?_) [] (by simp)
  ·unfold lN;dsimp only;rw[FD,A7 hi,AB,FW (A0 hi),A1,FX (by omega)];have hle:s.length<=i:=by rw[hj];exact AY (CH _ _) (by rw[B2];omega)
   refine E3.2 ⟨fun h=>E1.2 (GH.2 ⟨by simp only[AG,AV];omega,?_⟩),fun h=>?_⟩
   ·refine hn _ ?_;rw[H4 (A0 hi),D1,<-hj];rw[EA]at h;exact A4v h
   ·refine hn _ ?_;rw[H4 (A0 hi),D1,<-hj];rw[EA]at h;exact A4w h
  ·unfold lN;dsimp only;rw[FD,AC (AJ _),AE];exact E2.2 (by rw[hj,BL])
 rw[JQ this];rfl
def GU(sc:Int)(l:List FI):List FI:=l.filter fun n=>decide (n.2.2<=sc)
theorem pU(t:FK)(l:List FI)(hl:l.length<=1048576):R0 (t,l)=some (GU t.2.2.1 l):=by
 unfold R0;dsimp only
 have:Tot (lY (t,[],l,(l.length:Int),(0:Int))) (fun q=>q=GU t.2.2.1 l):=by
  refine GI (σ:=List FI) l.length (fun s i=>(t,s,l,(l.length:Int),i)) (fun i s=>s=GU t.2.2.1 (l.take i)) (by omega) (fun next s i hi hj hn=>?_) (fun next s hj=>?_) [] (by simp[GU])
  ·unfold lX;dsimp only;rw[FD,A7 hi,AB,FW (A0 hi),A1,FX (by omega)];have hle:s.length<=i:=by rw[hj];exact AY (CH _ _) (by rw[B2];omega)
   refine E3.2 ⟨fun h=>E1.2 (GH.2 ⟨by simp only[AG,AV];omega,?_⟩),fun h=>?_⟩
   ·refine hn _ ?_;unfold GU at hj ⊢;rw[H4 (A0 hi),D1,<-hj];exact A4v h
   ·refine hn _ ?_;unfold GU at hj ⊢;rw[H4 (A0 hi),D1,<-hj];exact A4w h
  ·unfold lX;dsimp only;rw[FD,AC (AJ _),AE];exact E2.2 (by rw[hj,BL])
 rw[JQ this];rfl
def JC(t:FK)(p:G5):List FI:=match t.1.find? (fun o=>decide (o.1=p.1)&&decide (o.2.1=p.2))with
 |some o=>GU t.2.2.1 o.2.2.1
 |none=>[]
theorem AMh(t:FK)(p:G5)(hl:t.1.length<=1048576)(ho:∀o∈t.1,o.2.2.1.length<=1048576):bD (t,p)=some (JC t p):=by
 unfold bD;dsimp only
 have:Tot (l_ (t,p,t.1,(t.1.length:Int),(0:Int))) (fun q=>(match q with| .inl _=>[]| .inr y=>y)=JC t p):=by
  refine GI (σ:=Unit) t.1.length (fun s i=>(t,p,t.1,(t.1.length:Int),i)) (fun i s=>∀o∈t.1.take i,(decide (o.1=p.1)&&decide (o.2.1=p.2))=false) (by omega) (fun next s i hi hj hn=>?_) (fun next s hj=>?_) () (by simp)
  ·unfold lZ;dsimp only;rw[FD,A7 hi,AB,FW (A0 hi),A1,FX (by omega),EA,EA];refine E3.2 ⟨fun h=>?_,fun h=>?_⟩
   ·rw[pU _ _ (ho _ (BF hi)),A1];refine E2.2 ?_;unfold JC
    have:t.1.find? (fun o=>decide (o.1=p.1)&&decide (o.2.1=p.2))=some t.1[i]:=by
     rw[List.find?_eq_some_iff_getElem];refine⟨h,i,hi,rfl,fun j hj'=>?_⟩;have:=hj t.1[j] (CE.2 ⟨j,by omega,rfl⟩);simp only[this,D9]
    rw[this]
   ·refine hn () ?_;intro o ho';rw[H4 (A0 hi),AP,AU]at ho';rcases ho' with ho'|rfl
    ·exact hj o ho'
    ·exact h
  ·unfold lZ;dsimp only;rw[FD,AC (AJ _),AE];refine E2.2 ?_;unfold JC;rw[BL]at hj;rw[List.find?_eq_none.2 fun o ho'=>by rw[hj o ho'];exact Bool.false_ne_true]
 obtain⟨q,h1,h2⟩:=this;rw[h1,A1];rcases q with y|y<;>· dsimp only at h2 ⊢;rw[<-h2]
end Go.Ev.Pv
namespace Go.Ev.Pv
theorem AMi{k:Int}{w:E0}{v:Vr}(h:IJ (k,w)=some (v,0)):w.length<=100:=by
 apply CD;intro hn;have hd:decide ((100:Int)<(w.length:Int))=true:=A7 (by omega);unfold IJ at h;dsimp only at h;rw[hd,Bool.or_true,AB]at h;cases hk:(decide (k<(1:Int)))||(decide ((5:Int)<k))with
 |true=>rw[hk]at h;cases h
 |false=>rw[hk]at h;cases h
theorem A4x(x:Int×(Bool×Bool×(List UInt8)))(h:x.2.2.2.length<=1048576):Tot (MR x) (fun r:(List UInt8)×Int=>r.2=0->x.2.2.2.length<=100):=by
 unfold MR;refine E3.2 ⟨fun _=>E3.2 ⟨fun _=>E2.2 (by simp),fun hb=>E2.2 fun _=>?_⟩,fun _=>?_⟩
 ·have:=(BZ.1 hb).2;rw[EA]at this;have:x.2.2.2=[]:=by simpa using this
  rw[this];simp
 obtain⟨r1,e1,h1⟩:=NT (x.1,x.2.2.2) h;rw[e1];refine E1.2 (E2.2 ?_);refine E3.2 ⟨fun he=>E2.2 fun h0=>(by dsimp only at h0;rw[h0]at he;cases he),fun he=>?_⟩;have h0:r1.2=0:=by rw[E4]at he;simpa using he
 have hv:=h1 h0;have hlen:x.2.2.2.length<=100:=AMi (v:=r1.1) (by rw[<-h0];exact e1);revert hv;generalize r1.1=v;intro hv;refine E1.2 (Tot.mono (P:=fun r:List UInt8=>r.length<=10000000) ?_ fun r2 hr=>?_)
 ·rcases v with x|x|x|x|x|x
  ·exact E1.2 ((pJ _ hv).mono fun _ h=>E2.2 (by omega))
  ·exact E1.2 ((pK _ hv).mono fun _ h=>E2.2 (by omega))
  ·exact E1.2 ((pL _ hv).mono fun _ h=>E2.2 (by omega))
  ·exact E1.2 ((pM _ hv).mono fun _ h=>E2.2 (by omega))
  ·exact E1.2 ((pN _ trivial).mono fun _ h=>E2.2 (by omega))
  ·exact hv.elim
 refine E3.2 ⟨fun _=>E2.2 fun _=>hlen,fun _=>?_⟩;refine E1.2 (Tot.mono (P:=fun r:List UInt8=>r.length<=10000000) ?_ fun r2 hr=>E2.2 fun _=>hlen)
 ·rcases v with x|x|x|x|x|x
  ·exact E1.2 ((cW _ hv).mono fun _ h=>E2.2 (by omega))
  ·exact E1.2 ((cX _ hv).mono fun _ h=>E2.2 (by omega))
  ·exact E1.2 ((cY _ hv).mono fun _ h=>E2.2 (by omega))
  ·exact E1.2 ((cZ _ hv).mono fun _ h=>E2.2 (by omega))
  ·exact E1.2 ((c_ _ hv).mono fun _ h=>E2.2 (by omega))
  ·exact hv.elim
abbrev RO(s:NR):Prop:=s.1.2.2.length<=1048576/\s.2.2.2.length<=1048576
theorem AMj(r:Rg)(hr:∀s∈r.2,RO s)(hl:r.2.length<=200):
 Tot (j_ (r,([]:List HH),r.2,(r.2.length:Int),0)) (fun q=>(∀y,q=.inl y->y.length<=200)/\∀y,q=.inr y->y.1=[]/\y.2≠0):=by
 refine F4 (R:=fun q:Sum (List HH) ((List HH)×Int)=>(∀y,q=.inl y->y.length<=200)/\∀y,q=.inr y->y.1=[]/\y.2≠0)
  (fun y:Rg×(List HH)×(List NR)×Int×Int=>y.1=r/\y.2.2.1=r.2/\y.2.2.2.1=r.2.length/\0<=y.2.2.2.2/\y.2.2.2.2<=r.2.length/\y.2.1.length<=y.2.2.2.2/\∀x∈y.2.1,H3 x)
  (fun y=>((r.2.length:Int)-y.2.2.2.2).toNat) ?_ _ _ ⟨rfl,rfl,rfl,B6 _,BI _,by simp,by simp⟩ (by unfold fuel;dsimp only;omega)
 rintro next ⟨r',o,l',n,i⟩ hI hn
 dsimp only at hI hn;obtain⟨rfl,rfl,rfl,i0,i1,h5,h6⟩:=hI;unfold wY;dsimp only;refine E3.2 ⟨fun hc=>?_,fun hc=>E2.2 ⟨fun y e=>?_,fun y e=>(by cases e)⟩⟩
 ·have hc:=A6 hc;rw[EY (n:=i+1) (by omega) (by omega),EY (n:=(o.length:Int)-1) (by omega) (by omega)];refine E1.2 (F0.2 ⟨⟨i0,hc⟩,fun s hx=>?_⟩);obtain⟨s1',s2'⟩:=hr s (N1 hx);refine E1.2 ((A4x _ (by dsimp only;omega)).mono fun c1 k1=>E3.2 ⟨fun he=>E2.2 ⟨fun y e=>(by cases e),fun y e=>?_⟩,fun hz1=>?_⟩)
  ·cases e;rw[E4]at he;exact⟨rfl,by simpa using he⟩
  refine E1.2 ((A4x _ (by dsimp only;omega)).mono fun c2 k2=>E3.2 ⟨fun he=>E2.2 ⟨fun y e=>(by cases e),fun y e=>?_⟩,fun hz2=>?_⟩)
  ·cases e;rw[E4]at he;exact⟨rfl,by simpa using he⟩
  have s1:s.1.2.2.length<=100:=k1 (by rw[E4]at hz1;simpa using hz1);have s2:s.2.2.2.length<=100:=k2 (by rw[E4]at hz2;simpa using hz2);refine E1.2 ((A4p _ s1).mono fun e1 he1=>E1.2 ((A4q _ s2).mono fun e2 he2=>?_));refine E1.2 ((O_ _ trivial).mono fun r7 _=>?_);refine E1.2 (Tot.mono (P:=fun _=>True) (E3.2 ⟨fun hz=>?_,fun _=>E2.2 trivial⟩) fun y8 _=>?_)
  ·have hz:=A6 (D5.1 hz).2;exact F0.2 ⟨⟨by omega,by omega⟩,fun _ _=>trivial⟩
  refine E1.2 (Tot.mono (P:=fun _=>True) (E3.2 ⟨fun hz=>O_ _ trivial,fun _=>E2.2 trivial⟩) fun r9 _=>?_);refine E3.2 ⟨fun _=>E2.2 ⟨fun y e=>(by cases e),fun y e=>(by cases e;exact⟨rfl,by decide⟩)⟩,fun _=>?_⟩
  have hgo:Tot (next (r',o++[(e1,e2)],r'.2,(r'.2.length:Int),i+1)) (fun q:Sum (List HH) ((List HH)×Int)=>(∀y,q=.inl y->y.length<=200)/\∀y,q=.inr y->y.1=[]/\y.2≠0):=by
   refine hn _ ⟨rfl,rfl,rfl,by dsimp only;omega,by dsimp only;omega,?_,fun x hx=>?_⟩ (by dsimp only;omega)
   ·dsimp only;rw[A9];simp only[AG,AV];omega
   ·dsimp only at hx;rw[AP]at hx;rcases hx with hx|hx
    ·exact h6 x hx
    ·cases AU.1 hx;exact⟨he1,he2⟩
  have hap:(o.length+1)*192<=70368744177664:=by omega
  refine E3.2 ⟨fun _=>?_,fun _=>E1.2 (GH.2 ⟨hap,hgo⟩)⟩;refine E1.2 ((AMX s o ⟨s1,s2⟩ h6 (by omega)).mono fun r11 _=>E3.2 ⟨fun he=>E2.2 ⟨fun y e=>(by cases e),fun y e=>?_⟩,fun _=>E1.2 (GH.2 ⟨hap,hgo⟩)⟩);cases e;rw[E4]at he;exact⟨rfl,by simpa using he⟩
 ·cases e;omega
theorem A4y(r:Rg)(hr:∀s∈r.2,RO s):Tot (QS r) (fun q=>q.1.length<=200):=by
 unfold QS;refine E3.2 ⟨fun _=>E2.2 (by simp),fun _=>E3.2 ⟨fun _=>E2.2 (by simp),fun hc=>?_⟩⟩;have hc:=AF hc;refine E1.2 ((AMj r hr (by omega)).mono fun q hq=>?_);rcases q with y|y
 ·exact E2.2 (hq.1 y rfl)
 ·refine E2.2 ?_;rw[(hq.2 y rfl).1];simp
noncomputable def NV(r:Rg)(w:E0):Bool:=((UH (r,w)).getD (false,0)).1
theorem AMk(r:Rg)(w:E0)(hr:∀s∈r.2,RO s)(hw:w.length<=1048576):Tot (UH (r,w)) (fun q=>q.1=NV r w):=by
 suffices h:∃q,UH (r,w)=some q by
  obtain⟨q,h⟩:=h;exact⟨q,h,by unfold NV;rw[h];rfl⟩
 show ∃q,((QS r).bind fun r1=>bif (!(E6 r1.2 (0:Int)))then some (false,r1.2)else(IJ (r.1,w)).bind fun r2=>bif (!(E6 r2.2 (0:Int)))then some (false,r2.2)else(P0 r2.1).bind fun r3=>(RA (r1.1,r3)).bind fun r4=>some ((decide ((0:Int)<=r4)),(0:Int)))=some q;obtain⟨⟨L,e⟩,h1,h2⟩:=A4y r hr;rw[h1,A1];dsimp only;cases he:!(E6 e 0)with
 |true=>exact⟨_,rfl⟩
 |false=>
  rw[AE];obtain⟨⟨v,e'⟩,h3,h4⟩:=NT (r.1,w) hw;rw[h3,A1];dsimp only;cases he':!(E6 e' 0)with
  |true=>exact⟨_,rfl⟩
  |false=>
   rw[AE];have h5:e'=0:=by rw[E4]at he';simpa using he'
   obtain⟨k,h6,_⟩:=A4r (h4 h5);obtain⟨n,h7,_⟩:=AMY L k (by have:L.length<=200:=h2;omega);rw[h6,A1,h7];exact⟨_,rfl⟩
noncomputable def JR(name:E0):Int×Bool:=(NL name).getD (0,false)
theorem pV(name:E0)(h:name.length<=1048576):NL name=some (JR name):=by
 suffices hh:∃q,NL name=some q by
  obtain⟨q,hq⟩:=hh;unfold JR;rw[hq];rfl
 refine oW.1 ?_;unfold NL;refine E1.2 ((A4k name h).mono fun r1 h1=>E3.2 ⟨fun _=>E2.2 trivial,fun he=>?_⟩);have h0:r1.2.2=0:=by rw[E4]at he;simpa using he
 refine E1.2 ((A4P _ (h1 h0)).mono fun r2 _=>E3.2 ⟨fun _=>E2.2 trivial,fun _=>?_⟩);exact E1.2 ((pA _ trivial).mono fun r3 _=>E2.2 trivial)
noncomputable def pW(k:Int)(w:E0):Bool:=((Q_ (k,w)).getD (false,0)).1
theorem AMl(l:List (Bool×E0×Int))(f:(Bool×E0×Int)->Option Bool)(hf:∀x,Tot (f x) fun _=>True)(hl:l.length<4611686018427387904):Tot (bA (l,f)) fun _=>True:=by
 unfold bA;dsimp only;refine E1.2 (Tot.mono (P:=fun _=>True) ?_ fun q _=>by rcases q with y|y<;>exact E2.2 trivial);refine GI (σ:=Unit) l.length (fun _ i=>(l,f,(l.length:Int),i)) (fun i _=>True) hl (fun next _ i hi hj hn=>?_) (fun next _ hj=>?_) () trivial
 ·unfold lQ;dsimp only;rw[FD,A7 hi,AB,FW (A0 hi),A1,FX (by omega)];refine E1.2 ((hf _).mono fun b _=>E3.2 ⟨fun h=>E2.2 trivial,fun h=>hn () trivial⟩)
 ·unfold lQ;dsimp only;rw[FD,AC (AJ _),AE];exact E2.2 trivial
theorem AMm(k:Int)(w:E0)(hw:w.length<=1048576):Tot (Q_ (k,w)) (fun q=>q.1=pW k w):=by
 suffices h:∃q,Q_ (k,w)=some q by
  obtain⟨q,h⟩:=h;exact⟨q,h,by unfold pW;rw[h];rfl⟩
 refine oW.1 ?_;unfold Q_;dsimp only;refine E1.2 ((NT (k,w) hw).mono fun r h1=>E3.2 ⟨fun _=>E2.2 trivial,fun he=>?_⟩);have h0:r.2=0:=by rw[E4]at he;simpa using he
 have hv:=h1 h0;revert hv;generalize r.1=v;intro hv;refine E1.2 (Tot.mono (P:=fun _=>True) ?_ fun r2 hr=>E2.2 trivial);rcases v with x|x|x|x|x|x
 ·exact E1.2 (E2.2 (E2.2 trivial))
 ·refine E1.2 (Tot.mono (P:=fun _=>True) ?_ fun _ _=>E2.2 trivial);unfold lP;refine E1.2 ((OX _ (by have:=hv;simp only[J3,OZ]at this;dsimp only;omega)).mono fun r1 _=>?_);refine E1.2 (Tot.mono (P:=fun _=>True) (E3.2 ⟨fun _=>(OX _ (by have:=hv;simp only[J3,OZ]at this;dsimp only;omega)).mono fun _ _=>trivial,fun _=>E2.2 trivial⟩) fun _ _=>E2.2 trivial)
 ·exact E1.2 (E2.2 (E2.2 trivial))
 ·refine E1.2 (Tot.mono (P:=fun _=>True) ?_ fun _ _=>E2.2 trivial);unfold lT lR;dsimp only;refine E1.2 (E1.2 ((AMl x _ (fun y=>?_) (by have:=hv;simp only[J3,TS]at this;omega)).mono fun _ _=>E2.2 (E2.2 trivial)));unfold lS;exact E1.2 (E1.2 ((pO _ trivial).mono fun _ _=>E2.2 (E2.2 trivial)))
 ·exact E1.2 (E2.2 (E2.2 trivial))
 ·exact hv.elim
end Go.Ev.Pv
namespace Go.Ev.Pv
noncomputable def P4(t:FK)(name:E0)(o:GN):Bool:=((FP t.2.2.2.1 name).2&&decide (o.2.1=(FP t.2.2.2.1 name).1))||((!o.2.2.2)&&(t.2.2.2.2.2.1||(!pW (JR name).1 o.2.1)))
noncomputable def JS(t:FK)(name:E0):List E0:=((t.1.filter fun o=>decide (o.1=name)).filter (P4 t name)).map fun o=>o.2.1
def KV(n:FI):Prop:=n.1.length<=1048576/\∀s∈n.2.1.2,RO s
structure TkB(t:FK):Prop where
 offers:t.1.length<=1048576
 offer:∀o∈t.1,o.1.length<=1048576/\o.2.1.length<=1048576/\o.2.2.1.length<=1048576/\∀n∈o.2.2.1,KV n
 needs:t.2.1.length<=1048576
 need:∀n∈t.2.1,KV n
 old:t.2.2.2.1.length<=1048576
 pin:∀p∈t.2.2.2.1,p.1.length<=1048576/\p.2.length<=1048576
 frozen:t.2.2.2.2.1.length<=1048576
 name:∀s∈t.2.2.2.2.1,s.length<=1048576
theorem AMn(t:FK)(name:E0)(ht:TkB t)(hn:name.length<=1048576):bB (t,name)=some (JS t name):=by
 unfold bB;dsimp only;rw[pT _ _ (by have:=ht.old;omega),A1,AMg _ _ ht.offers,A1];have hfl:(t.1.filter fun o=>decide (o.1=name)).length<=1048576:=AY (CH _ _) ht.offers;have hfm:∀o∈(t.1.filter fun o=>decide (o.1=name)),o.2.1.length<=1048576:=fun o ho=>(ht.offer o (C0.1 ho).1).2.1;unfold JS;generalize (t.1.filter fun o=>decide (o.1=name))=l at hfl hfm ⊢
 have:Tot (lV (name,t,(FP t.2.2.2.1 name).1,(FP t.2.2.2.1 name).2,[],l,(l.length:Int),(0:Int))) (fun q=>q=(l.filter (P4 t name)).map fun o=>o.2.1):=by
  refine GI (σ:=List E0) l.length (fun s i=>(name,t,(FP t.2.2.2.1 name).1,(FP t.2.2.2.1 name).2,s,l,(l.length:Int),i)) (fun i s=>s=((l.take i).filter (P4 t name)).map fun o=>o.2.1) (by omega) (fun next s i hi hj hn=>?_) (fun next s hj=>?_) [] (by simp)
  ·unfold lU;dsimp only;rw[FD,A7 hi,AB,FW (A0 hi),A1,FX (by omega),pV _ (by assumption),A1];obtain⟨q,h1,h2⟩:=AMm (JR name).1 l[i].2.1 (hfm _ (BF hi));rw[h1,A1,h2,EA];have hle:s.length<=i:=by rw[hj,AO];exact AY (CH _ _) (by rw[B2];omega)
   refine E3.2 ⟨fun h=>E1.2 (GH.2 ⟨by simp only[AG,AV];omega,?_⟩),fun h=>?_⟩
   ·refine hn _ ?_;rw[H4 (A0 hi),D1,CY,<-hj];have h:P4 t name l[i]=true:=h;simp[h]
   ·refine hn _ ?_;rw[H4 (A0 hi),D1,CY,<-hj];have h:P4 t name l[i]=false:=h;simp[h]
  ·unfold lU;dsimp only;rw[FD,AC (AJ _),AE];exact E2.2 (by rw[hj,BL])
 rw[JQ this];rfl
theorem AMo(l:List E0)(hl:l.length<=1048576):bC l=some l.reverse:=by
 unfold bC;rw[EY (n:=(l.length:Int)-1) (by omega) (by omega)]
 have:Tot (lW (l,(0:Int),(l.length:Int)-1)) (fun q=>q=l.reverse):=by
  refine F4 (R:=fun q=>q=l.reverse) (fun y:List E0×Int×Int=>y.1.length=l.length/\0<=y.2.1/\y.2.1+y.2.2=(l.length:Int)-1/\y.2.1<=l.length/\(l.length:Int)-1<=y.2.1+y.2.2/\y.2.1<=y.2.2+2/\∀k:Nat,k<l.length->y.1[k]?=if(k:Int)<y.2.1\/y.2.2<(k:Int)then l[l.length-1-k]? else l[k]?)
   (fun y=>(y.2.2-y.2.1+1).toNat) ?_ _ _ ⟨rfl,B6 _,by dsimp only;omega,by dsimp only;omega,by dsimp only;omega,by dsimp only;omega,fun k hk=>?_⟩ (by unfold fuel;dsimp only;omega)
  ·rintro next ⟨s,i,j⟩ hI hn
   dsimp only at hI hn;obtain⟨h1,h2,h3,h4,h5,h6,h7⟩:=hI;unfold yA;dsimp only;refine E3.2 ⟨fun hc=>?_,fun hc=>E2.2 ?_⟩
   ·have hc:=A6 hc;obtain⟨i,rfl⟩:=Int.eq_ofNat_of_zero_le h2;obtain⟨j,rfl⟩:=Int.eq_ofNat_of_zero_le (show 0<=j by omega);have hil:i<s.length:=by omega
    have hjl:j<s.length:=by omega
    rw[HI hjl,A1,HI hil,A1,A1,HI (by rw[AD];exact hjl),A1];rw[EY (n:=(i:Int)+1) (by omega) (by omega),EY (n:=(j:Int)-1) (by omega) (by omega)];refine hn _ ⟨by dsimp only;rw[AD,AD];exact h1,by dsimp only;omega,by dsimp only;omega,by dsimp only;omega,by dsimp only;omega,by dsimp only;omega,fun k hk=>?_⟩ (by dsimp only;omega);dsimp only;rw[B4,B4,List.getElem?_set,List.getElem?_set,AD];have e1:=h7 j (by omega);have e2:=h7 i (by omega);rw[if_neg (by omega)]at e1 e2;by_cases hkj:j=k
    ·subst hkj;rw[if_pos rfl,if_pos hjl,if_pos (by omega),A2,e2];rw[show l.length-1-j=i by omega,A0 (by omega)];rfl
    ·rw[if_neg hkj];by_cases hki:i=k
     ·subst hki;rw[if_pos rfl,if_pos hil,if_pos (by omega),A2,e1];rw[show l.length-1-i=j by omega,A0 (by omega)];rfl
     ·rw[if_neg hki,h7 k hk];by_cases hh:(k:Int)<i\/(j:Int)<k
      ·rw[if_pos hh,if_pos (by omega)]
      ·rw[if_neg hh,if_neg (by omega)]
   ·have hc:=AF hc;apply BN;intro k;by_cases hk:k<l.length
    ·rw[h7 k hk,List.getElem?_reverse hk];by_cases hh:(k:Int)<i\/j<(k:Int)
     ·rw[if_pos hh]
     ·rw[if_neg hh,show l.length-1-k=k by omega]
    ·rw[B3 (by omega),B3 (by rw[DF];omega)]
  ·dsimp only;rw[if_neg (by omega)]
 rw[JQ this];rfl
end Go.Ev.Pv
namespace Go.Ev.Pv
def N4(l:List G5)(nd:FI):Prop:=(FP l nd.1).2=true/\NV nd.2.1 (FP l nd.1).1=true
def V3(t:FK):List E0:=t.2.2.2.2.1++(GU t.2.2.1 t.2.1).map fun nd=>nd.1
inductive CR (t:FK) (l:List G5):E0->Prop
 |root {s:E0}:s∈V3 t->(FP l s).2=true->CR t l s
 |step {s:E0} {nd:FI}:CR t l s->nd∈JC t (s,(FP l s).1)->(FP l nd.1).2=true->CR t l nd.1
theorem CR.pinned{t:FK}{l:List G5}{s:E0}(h:CR t l s):(FP l s).2=true:=by
 cases h with
 |root _ h=>exact h
 |step _ _ h=>exact h
end Go.Ev.Pv
namespace Go.Ev.Pv
structure Right(t:FK)(l:List G5):Prop where
 needs:∀nd∈GU t.2.2.1 t.2.1,N4 l nd
 pins:∀p∈l,p.2∈JS t p.1/\∀nd∈JC t p,N4 l nd
 more:∀p∈l,CR t l p.1
 frozen:∀s∈t.2.2.2.2.1,(FP l s).2=true/\(FP l s).1=(FP t.2.2.2.1 s).1
theorem dE{α:Type}{l:List α}{i:Nat}(hi:i<l.length)(P:α->Prop):(∀x∈l.take (i+1),P x)<->(∀x∈l.take i,P x)/\P l[i]:=by
 rw[H4 (A0 hi)];constructor
 ·intro h;exact⟨fun nd hnd=>h nd (AQ _ hnd),h _ (AW _ (AU.2 rfl))⟩
 ·rintro⟨h1,h2⟩ nd hnd;rw[AP,AU]at hnd;rcases hnd with h|rfl
  ·exact h1 nd h
  ·exact h2
end Go.Ev.Pv
namespace Go.Ev.Pv
theorem dF{α:Type}{motive:List α->Prop}(nil:motive [])(append_singleton:∀l a,motive l->motive (l++[a]))(l:List α):motive l:=by
 have:∀r:List α,motive r.reverse:=by
  intro r;induction r with
  |nil=>exact nil
  |cons a r ih=>rw[List.reverse_cons];exact append_singleton _ _ ih
 have:=this l.reverse;rwa[List.reverse_reverse]at this
def LJ(s:List E0)(o:GN):List E0:=if o.1∈s then s else s++[o.1]
def F9(l:List GN):List E0:=l.foldl LJ []
theorem P5(l:List GN)(o:GN):F9 (l++[o])=LJ (F9 l) o:=by
 unfold F9;rw[List.foldl_append];rfl
theorem A4z(l:List GN):(F9 l).length<=l.length:=by
 induction l using dF with
 |nil=>exact AI _
 |append_singleton l o ih=>
  rw[P5];unfold LJ;split
  ·simp only[A9,AG,AV];omega
  ·simp only[A9,AG,AV];omega
theorem RP(l:List GN)(s:E0):s∈F9 l<->∃o∈l,o.1=s:=by
 induction l using dF with
 |nil=>simp[F9]
 |append_singleton l o ih=>
  rw[P5];unfold LJ;split
  ·rename_i h;rw[ih];constructor
   ·rintro⟨x,hx,rfl⟩;exact⟨x,AQ _ hx,rfl⟩
   ·rintro⟨x,hx,rfl⟩;rw[AP,AU]at hx;rcases hx with hx|rfl
    ·exact⟨x,hx,rfl⟩
    ·exact ih.1 h
  ·rw[AP,ih,AU];constructor
   ·rintro(⟨x,hx,rfl⟩|rfl)
    ·exact⟨x,AQ _ hx,rfl⟩
    ·exact⟨o,by simp,rfl⟩
   ·rintro⟨x,hx,rfl⟩;rw[AP,AU]at hx;rcases hx with hx|rfl
    ·exact .inl ⟨x,hx,rfl⟩
    ·exact .inr rfl
theorem AMp(l:List GN):(F9 l).Nodup:=by
 induction l using dF with
 |nil=>exact BA
 |append_singleton l o ih=>
  rw[P5];unfold LJ;split
  ·exact ih
  ·rename_i h;rw[B9];refine⟨ih,by simp,fun a ha b hb=>?_⟩;rw[AU]at hb;rintro rfl;subst hb;exact h ha
theorem V4(v:E0)(l:List E0):IQ (fun x=>decide (v=x)) l<0<->v ∉ l:=by
 rcases N3 (fun x=>decide (v=x)) l with⟨h1,h2⟩|⟨i,x,h1,h2,h3,_⟩
 ·rw[h1];refine⟨fun _ h=>?_,fun _=>by decide⟩;have:=h2 v h;simp at this
 ·rw[h1];have:v=x:=A6 h3;subst this;refine⟨fun h=>by omega,fun h=>absurd (B0 h2) h⟩
theorem AMq(t:FK)(l:List GN)(hl:l.length<=1048576):
 mR ((t,([]:List E0),([]:List (List E0)),([]:List (List Int)),([]:List (List (List Int))),([]:List Int),(0:Int)),l,(l.length:Int),0)=
  some (t,F9 l,([]:List (List E0)),([]:List (List Int)),([]:List (List (List Int))),([]:List Int),(0:Int)):=by
 refine JQ ?_;refine GI (σ:=List E0) l.length (fun s i=>((t,s,([]:List (List E0)),([]:List (List Int)),([]:List (List (List Int))),([]:List Int),(0:Int)),l,(l.length:Int),i)) (fun i s=>s=F9 (l.take i)) (by omega) (fun next s i hi hj hn=>?_) (fun next s hj=>?_) [] (by simp[F9])
 ·unfold mQ;dsimp only;have hle:s.length<=i:=by rw[hj];exact AY (A4z _) (by rw[B2];omega)
  rw[FD,A7 hi,AB,FW (A0 hi),A1,FX (by omega)];unfold MT;dsimp only;rw[A1,V2 _ _ (by dsimp only;omega),A1,A1];refine E3.2 ⟨fun h=>E1.2 (GH.2 ⟨by simp only[AG,AV];omega,?_⟩),fun h=>?_⟩
  ·have h:=(V4 _ _).1 (A6 h);refine hn _ ?_;rw[H4 (A0 hi),P5,<-hj];unfold LJ;rw[if_neg h]
  ·have h:¬_:=AF h;rw[V4,Classical.not_not]at h;refine hn _ ?_;rw[H4 (A0 hi),P5,<-hj];unfold LJ;rw[if_pos h]
 ·unfold mQ;dsimp only;rw[FD,AC (AJ _),AE];exact E2.2 (by rw[hj,BL])
noncomputable def IE(t:FK)(name:E0):List E0:=(JS t name).reverse
def KE(n:Nat):Int:=((2 ^ n-1:Nat):Int)
theorem AMr(t:FK)(ht:TkB t)(ns:List E0)(hl:ns.length<=1048576)(hn:∀s∈ns,s.length<=1048576/\(IE t s).length<=8):
 mT (t,(t,ns,([]:List (List E0)),([]:List (List Int)),([]:List (List (List Int))),([]:List Int),(0:Int)),ns,(ns.length:Int),0)=
  some (t,ns,ns.map (IE t),([]:List (List Int)),([]:List (List (List Int))),ns.map (fun s=>KE ((IE t s).length+1)),(0:Int)):=by
 refine JQ ?_;refine GI (σ:=Nat) ns.length (fun s i=>(t,(t,ns,(ns.take s).map (IE t),([]:List (List Int)),([]:List (List (List Int))),(ns.take s).map (fun s=>KE ((IE t s).length+1)),(0:Int)),ns,(ns.length:Int),i)) (fun i s=>s=i) (by omega) (fun next s i hi hj hnx=>?_) (fun next s hj=>?_) 0 rfl
 ·subst hj;unfold mS;dsimp only;obtain⟨h1,h2⟩:=hn _ (BF hi);rw[FD,A7 hi,AB,FW (A0 hi),A1,FX (by omega),AMn t _ ht h1,A1];have h3:(JS t ns[s]).length<=8:=by have:=h2;unfold IE at this;rwa[DF]at this
  rw[AMo _ (by omega),A1];refine E1.2 (GH.2 ⟨by simp only[AO,B2,AG,AV];omega,?_⟩);rw[FX (by rw[DF];omega)];have h4:=(pQ (n:=(JS t ns[s]).reverse.length+1) (by rw[DF];omega)).1;rw[show(((JS t ns[s]).reverse.length+1:Nat):Int)=((JS t ns[s]).reverse.length:Int)+1 by omega]at h4;rw[h4,A1];refine E1.2 (GH.2 ⟨by simp only[AO,B2,AG,AV];omega,?_⟩);have:=hnx (s+1) rfl;rw[H4 (A0 hi),CY,CY]at this;exact this
 ·unfold mS;dsimp only;rw[FD,AC (AJ _),AE];exact E2.2 (by rw[hj,BL])
end Go.Ev.Pv
namespace Go.Ev.Pv
section
variable{α:Type}{R:α->α->Prop}
theorem P6(tr:∀a b c,R a b->R b c->R a c){l:List α}{i:Nat}(hi:i<l.length):(l.take (i+1)).Pairwise R<->(l.take i).Pairwise R/\∀(_:0<i) (y:α),l[i-1]?=some y->R y l[i]:=by
 rw[H4 (A0 hi),DN];constructor
 ·rintro⟨h1,_,h3⟩;refine⟨h1,fun h0 y hy=>h3 y ?_ _ (AU.2 rfl)⟩;rw[CE];obtain⟨h4,h5⟩:=AA.1 hy;exact⟨i-1,by omega,h5⟩
 ·rintro⟨h1,h2⟩;refine⟨h1,DY _ _,fun a ha b hb=>?_⟩;cases AU.1 hb;obtain⟨j,hj,rfl⟩:=CE.1 ha;have h0:0<i:=by omega
  have hy:l[i-1]?=some (l[i-1]'(by omega)):=A0 _;have hl:=h2 h0 _ hy;by_cases hji:j=i-1
  ·subst hji;exact hl
  ·refine tr _ _ _ ?_ hl;have:=CS.1 h1 j (i-1) (by rw[B2];omega) (by rw[B2];omega) (by omega);simpa using this
end
theorem AMs{α:Type}{l:List α}{i:Nat}(hi:i<l.length)(d:α):Tot (bif decide ((0:Int)<(i:Int))then at? l (IntKind.i64.wrap ((i:Int)-1))else some d) (fun y=>0<i->l[i-1]?=some y)\/l.length ≥ 4611686018427387904:=by
 by_cases hb:l.length<4611686018427387904
 ·left;refine E3.2 ⟨fun hz=>?_,fun hz=>E2.2 fun h0=>?_⟩
  ·have hz:=A6 hz;rw[EY (by omega) (by omega)];refine F0.2 ⟨⟨by omega,by omega⟩,fun w hw _=>?_⟩;rw[show i-1=((i:Int)-1).toNat by omega];exact hw
  ·have hz:=AF hz;omega
 ·right;omega
theorem pX{α:Type}{l:List α}{i:Nat}(hi:i<l.length)(hb:l.length<4611686018427387904)(d:α):Tot (bif decide ((0:Int)<(i:Int))then at? l (IntKind.i64.wrap ((i:Int)-1))else some d) (fun y=>0<i->l[i-1]?=some y):=
 (AMs hi d).elim id fun h=>by omega
noncomputable def dG(r:Rg):Int:=(QT r).getD 0
theorem AMt(r:Rg)(hr:∀s∈r.2,RO s):QT r=some (dG r):=by
 suffices h:∃q,QT r=some q by
  obtain⟨q,h⟩:=h;unfold dG;rw[h];rfl
 refine oW.1 ?_;unfold QT;exact E1.2 ((A4y r hr).mono fun _ _=>E2.2 trivial)
structure NdOk(nd:FI):Prop where
 kind:(JR nd.1).2=true
 range:dG nd.2.1=0
 same:nd.2.1.1=(JR nd.1).1
 scope:1<=nd.2.2/\nd.2.2<=4
structure NdsOk(l:List FI):Prop where
 few:l.length<=12
 ok:∀nd∈l,NdOk nd
 asc:l.Pairwise fun a b=>a.1<b.1
theorem RQ{α:Type}(f:α->E0):∀a b c:α,f a<f b->f b<f c->f a<f c:=fun _ _ _=>NQ
theorem A50(l:List FI)(hl:l.length<=1048576)(hb:∀nd∈l,KV nd):Tot (UD l) (fun e=>e=0<->NdsOk l):=by
 unfold UD;refine E3.2 ⟨fun hc=>E2.2 ⟨fun h=>absurd h (by decide),fun h=>?_⟩,fun hc=>?_⟩
 ·have:=A6 hc;have:=h.few;omega
 have hc:=AF hc
 refine E1.2 (Tot.mono (P:=fun q:Sum Unit Int=>match q with
  | .inl _=>(∀nd∈l,NdOk nd)/\l.Pairwise fun a b=>a.1<b.1
  | .inr e=>e≠0/\¬((∀nd∈l,NdOk nd)/\l.Pairwise fun a b=>a.1<b.1)) ?_ fun q hq=>?_)
 ·refine GI (σ:=Unit) l.length (fun _ i=>(l,l,(l.length:Int),i)) (fun m _=>(∀nd∈l.take m,NdOk nd)/\(l.take m).Pairwise fun a b=>a.1<b.1) (by omega) (fun next s i hi hs hn=>?_) (fun next s hs=>?_) () (by simp)
  ·unfold k9;dsimp only;have hnd:=hb _ (BF hi);rw[FD,A7 hi,AB,FW (A0 hi),A1,pV _ hnd.1,A1,AMt _ hnd.2,FX (by omega)];have hall:(∀nd∈l,NdOk nd)->NdOk l[i]:=fun h=>h _ (BF hi);refine E3.2 ⟨fun h1=>E2.2 ⟨by decide,fun h=>?_⟩,fun h1=>?_⟩
   ·rw[(hall h.1).kind]at h1;cases h1
   refine E1.2 (E2.2 ?_);refine E3.2 ⟨fun h2=>E2.2 ?_,fun h2=>?_⟩
   ·rw[E4]at h2;have h2:¬dG l[i].2.1=0:=by simpa using h2
    exact⟨h2,fun h=>h2 (hall h.1).range⟩
   refine E3.2 ⟨fun h3=>E2.2 ⟨by decide,fun h=>?_⟩,fun h3=>?_⟩
   ·rw[(hall h.1).same,E4]at h3;simp at h3
   refine E3.2 ⟨fun h4=>E2.2 ⟨by decide,fun h=>?_⟩,fun h4=>?_⟩
   ·have:=(hall h.1).scope;rw[BJ,AZ,AZ]at h4;omega
   refine E1.2 ((pX hi (by omega) _).mono fun y hy=>?_);rw[dA];refine E3.2 ⟨fun h5=>E2.2 ⟨by decide,fun h=>?_⟩,fun h5=>hn () ⟨?_,?_⟩⟩
   ·obtain⟨h6,h7⟩:=D5.1 h5;have h6:=A6 h6;have hy:=hy (by omega);have h8:=((P6 (RQ fun nd:FI=>nd.1) hi).1 (h.2.sublist (List.take_sublist _ _))).2 (by omega) y hy;have h8:y.1<l[i].1:=h8;rw[A7 h8]at h7;cases h7
   ·rw[dE hi];refine⟨hs.1,⟨by simpa using h1,?_,?_,?_⟩⟩
    ·rw[E4]at h2;simpa using h2
    ·rw[E4]at h3;simpa using h3
    ·obtain⟨g1,g2⟩:=BZ.1 h4;have:=AF g1;have:=AF g2;omega
   ·rw[P6 (RQ fun nd:FI=>nd.1) hi];refine⟨hs.2,fun h0 y' hy'=>?_⟩;have hy:=hy h0;rw[hy]at hy';cases hy';rw[A7 (show(0:Int)<(i:Int) by omega),CA]at h5;have h5:decide (y.1<l[i].1)=true:=by simpa using h5
    exact A6 h5
  ·unfold k9;dsimp only;rw[FD,AC (AJ _),AE];rw[BL]at hs;exact E2.2 hs
 ·rcases q with u|e
  ·exact E2.2 ⟨fun _=>⟨by omega,hq.1,hq.2⟩,fun _=>rfl⟩
  ·exact E2.2 ⟨fun h=>absurd h hq.1,fun h=>absurd ⟨h.ok,h.asc⟩ hq.2⟩
noncomputable def JT(name v:E0):Int×Int:=(OL (name,v)).getD (0,0)
theorem A51(name v:E0)(h1:name.length<=1048576)(h2:v.length<=1048576):Tot (OL (name,v)) (fun q=>q.2=0->(JR name).2=true/\q.1=(JR name).1/\Ok (JR name).1 v):=by
 unfold OL;dsimp only;rw[pV _ h1,A1];refine E3.2 ⟨fun _=>E2.2 fun h=>absurd h (by decide),fun hc=>?_⟩;exact E1.2 ((AMW _ v h2).mono fun e he=>E2.2 fun h=>⟨by simpa using hc,rfl,he h⟩)
theorem A52(name v:E0)(h1:name.length<=1048576)(h2:v.length<=1048576):OL (name,v)=some (JT name v):=by
 obtain⟨q,hq,_⟩:=A51 name v h1 h2;unfold JT;rw[hq];rfl
theorem A53{name v:E0}(h1:name.length<=1048576)(h2:v.length<=1048576)(h:(JT name v).2=0):(JR name).2=true/\(JT name v).1=(JR name).1/\Ok (JR name).1 v:=by
 obtain⟨q,hq,h3⟩:=A51 name v h1 h2;have:JT name v=q:=by unfold JT;rw[hq];rfl
 rw[this]at h ⊢;exact h3 h
structure LkOk(l:List G5):Prop where
 few:l.length<=12
 ok:∀p∈l,(JT p.1 p.2).2=0
 asc:l.Pairwise fun a b=>a.1<b.1
theorem AMu(l:List G5)(hl:l.length<=1048576)(hb:∀p∈l,p.1.length<=1048576/\p.2.length<=1048576):Tot (ZT l) (fun e=>e=0<->LkOk l):=by
 unfold ZT;refine E3.2 ⟨fun hc=>E2.2 ⟨fun h=>absurd h (by decide),fun h=>?_⟩,fun hc=>?_⟩
 ·have:=A6 hc;have:=h.few;omega
 have hc:=AF hc
 refine E1.2 (Tot.mono (P:=fun q:Sum Unit Int=>match q with
  | .inl _=>(∀p∈l,(JT p.1 p.2).2=0)/\l.Pairwise fun a b=>a.1<b.1
  | .inr e=>e≠0/\¬((∀p∈l,(JT p.1 p.2).2=0)/\l.Pairwise fun a b=>a.1<b.1)) ?_ fun q hq=>?_)
 ·refine GI (σ:=Unit) l.length (fun _ i=>(l,l,(l.length:Int),i)) (fun m _=>(∀p∈l.take m,(JT p.1 p.2).2=0)/\(l.take m).Pairwise fun a b=>a.1<b.1) (by omega) (fun next s i hi hs hn=>?_) (fun next s hs=>?_) () (by simp)
  ·unfold kE;dsimp only;have hp:=hb _ (BF hi);rw[FD,A7 hi,AB,FW (A0 hi),A1,A52 _ _ hp.1 hp.2,A1,FX (by omega)];refine E3.2 ⟨fun h2=>E2.2 ?_,fun h2=>?_⟩
   ·rw[E4]at h2;have h2:¬(JT l[i].1 l[i].2).2=0:=by simpa using h2
    exact⟨h2,fun h=>h2 (h.1 _ (BF hi))⟩
   refine E1.2 ((pX hi (by omega) _).mono fun y hy=>?_);rw[dA];refine E3.2 ⟨fun h5=>E2.2 ⟨by decide,fun h=>?_⟩,fun h5=>hn () ⟨?_,?_⟩⟩
   ·obtain⟨h6,h7⟩:=D5.1 h5;have h6:=A6 h6;have hy:=hy (by omega);have h8:=((P6 (RQ fun nd:G5=>nd.1) hi).1 (h.2.sublist (List.take_sublist _ _))).2 (by omega) y hy;have h8:y.1<l[i].1:=h8;rw[A7 h8]at h7;cases h7
   ·rw[dE hi];refine⟨hs.1,?_⟩;rw[E4]at h2;simpa using h2
   ·rw[P6 (RQ fun nd:G5=>nd.1) hi];refine⟨hs.2,fun h0 y' hy'=>?_⟩;have hy:=hy h0;rw[hy]at hy';cases hy';rw[A7 (show(0:Int)<(i:Int) by omega),CA]at h5;have h5:decide (y.1<l[i].1)=true:=by simpa using h5
    exact A6 h5
  ·unfold kE;dsimp only;rw[FD,AC (AJ _),AE];rw[BL]at hs;exact E2.2 hs
 ·rcases q with u|e
  ·exact E2.2 ⟨fun _=>⟨by omega,hq.1,hq.2⟩,fun _=>rfl⟩
  ·exact E2.2 ⟨fun h=>absurd h hq.1,fun h=>absurd ⟨h.ok,h.asc⟩ hq.2⟩
end Go.Ev.Pv
namespace Go.Ev.Pv
def V5(o:GN):Prop:=o.1.length<=1048576/\o.2.1.length<=1048576/\o.2.2.1.length<=1048576/\∀n∈o.2.2.1,KV n
structure OfOk(o:GN):Prop where
 pin:(JT o.1 o.2.1).2=0
 needs:NdsOk o.2.2.1
 other:∀nd∈o.2.2.1,nd.1≠o.1
def KW(a b:GN):Prop:=a.1<b.1\/a.1=b.1/\ky (JR a.1).1 a.2.1<ky (JR b.1).1 b.2.1
theorem AMv(a b c:GN):KW a b->KW b c->KW a c:=by
 rintro(h1|⟨h1,h1'⟩) (h2|⟨h2,h2'⟩)
 ·exact .inl (NQ h1 h2)
 ·exact .inl (h2▸h1)
 ·exact .inl (h1▸h2)
 ·exact .inr ⟨h1.trans h2,NQ h1' h2'⟩
theorem AMw(l:List FI)(f:FI->Option Bool)(p:FI->Bool)(hf:∀x,f x=some (p x))(hl:l.length<4611686018427387904):∃b,ZP (l,f)=some b/\(b=true<->∃nd∈l,p nd=true):=by
 unfold ZP;dsimp only;rw[AMf l f p hf hl,A1];refine⟨_,rfl,?_⟩;rw[AZ];rcases N3 p l with⟨h1,h2⟩|⟨i,x,h1,h2,h3,_⟩
 ·rw[h1];refine⟨fun h=>absurd h (by decide),fun⟨nd,h,h'⟩=>?_⟩;rw[h2 nd h]at h';cases h'
 ·rw[h1];exact⟨fun _=>⟨x,B0 h2,h3⟩,fun _=>by omega⟩
theorem AMx(o:GN)(before:List GN)(ho:V5 o)(hb:∀a∈before,V5 a)(hbo:∀a∈before,(JT a.1 a.2.1).2=0)(hbl:before.length<4611686018427387904):
 Tot (ZS (o,before)) (fun e=>e=0->OfOk o/\∀(_:0<before.length) (y:GN),before[before.length-1]?=some y->KW y o):=by
 unfold ZS;dsimp only;rw[A52 _ _ ho.1 ho.2.1,A1];refine E3.2 ⟨fun h=>E2.2 fun h0=>?_,fun h=>?_⟩
 ·rw[E4,A7 h0]at h;cases h
 have hpin:(JT o.1 o.2.1).2=0:=by rw[E4]at h;simpa using h
 refine E1.2 ((A50 o.2.2.1 ho.2.2.1 ho.2.2.2).mono fun e he=>E3.2 ⟨fun h2=>E2.2 fun h0=>?_,fun h2=>?_⟩)
 ·rw[E4,A7 h0]at h2;cases h2
 have hnds:NdsOk o.2.2.1:=he.1 (by rw[E4]at h2;simpa using h2);obtain⟨b,h3,h4⟩:=AMw o.2.2.1 (fun x=>(kA (x,(some o))).bind fun r=>some r) (fun nd=>EW nd.1 o.1) (fun x=>rfl) (by have:=ho.2.2.1;omega);rw[h3,A1];refine E3.2 ⟨fun _=>E2.2 fun h0=>absurd h0 (by decide),fun hb0=>?_⟩
 have hoth:∀nd∈o.2.2.1,nd.1≠o.1:=by
  intro nd hnd e;have:=h4.2 ⟨nd,hnd,by rw[EA];exact A7 e⟩;rw[hb0]at this;cases this
 have hok:OfOk o:=⟨hpin,hnds,hoth⟩;refine E3.2 ⟨fun hz=>E2.2 fun _=>⟨hok,fun h0=>?_⟩,fun hz=>?_⟩
 ·rw[E4]at hz;have:=A6 hz;omega
 have hpos:0<before.length:=by
  rw[E4]at hz;have:=AF hz;omega
 rw[EY (by omega) (by omega)];refine E1.2 (F0.2 ⟨⟨by omega,by omega⟩,fun y hy=>?_⟩);rw[show((before.length:Int)-1).toNat=before.length-1 by omega]at hy;have hym:=B0 hy;rw[pG,EA];refine E3.2 ⟨fun _=>E2.2 fun h0=>absurd h0 (by decide),fun hlt=>E3.2 ⟨fun heq=>?_,fun hne=>E2.2 fun _=>⟨hok,fun _ y' hy'=>?_⟩⟩⟩
 ·have heq:=A6 heq;obtain⟨_,k1,k2⟩:=A53 ho.1 ho.2.1 hpin;obtain⟨_,_,k3⟩:=A53 (hb y hym).1 (hb y hym).2.1 (hbo y hym);rw[<-heq]at k3;rw[k1,AM_ k3 k2,A1];refine E3.2 ⟨fun _=>E2.2 fun h0=>absurd h0 (by decide),fun hc=>E2.2 fun _=>⟨hok,fun _ y' hy'=>?_⟩⟩;rw[hy]at hy';cases hy';have hc:=AF hc;refine .inr ⟨heq.symm,?_⟩;rw[<-heq];exact(AKU _ _).1 (by dsimp only at hc;omega)
 ·rw[hy]at hy';cases hy';have hlt:=AF hlt;have hne:=AF hne;rcases U_ o.1 y.1 with h|h|h
  ·exact absurd h hlt
  ·exact absurd h hne
  ·exact .inl h
def LK(l:List GN)(nm:E0):Nat:=(l.filter fun o=>decide (o.1=nm)).length
theorem AMy(l:List GN)(o:GN)(nm:E0):LK (l++[o]) nm=LK l nm+if o.1=nm then 1 else 0:=by
 unfold LK;rw[D1,A9];by_cases h:o.1=nm<;>simp[h]
structure RegOk(l:List GN):Prop where
 ok:∀o∈l,OfOk o
 asc:l.Pairwise KW
 few:(F9 l).length<=12
 few8:∀nm,LK l nm<=8
theorem AMz(l:List GN)(hl:l.length<=1048576)(hb:∀o∈l,V5 o):Tot (QU l) (fun e=>e=0->RegOk l):=by
 unfold QU
 refine E1.2 (Tot.mono (P:=fun q:Sum Unit Int=>match q with
  | .inl _=>RegOk l
  | .inr e=>e≠0) ?_ fun q hq=>?_)
 ·refine GI (σ:=Int×Int) l.length (fun s i=>(l,s.1,s.2,l,(l.length:Int),i)) (fun m s=>(∀o∈l.take m,OfOk o)/\(l.take m).Pairwise KW/\s.1=((F9 (l.take m)).length:Int)/\(F9 (l.take m)).length<=12/\(∀nm,LK (l.take m) nm<=8)/\∀(_:0<m) (y:GN),l[m-1]?=some y->s.2=(LK (l.take m) y.1:Int))
   (by omega) (fun next s i hi hs hn=>?_) (fun next s hs=>?_) (0,0) ⟨by simp,by simp,rfl,by rw[D8];exact BQ _,fun nm=>by simp[LK],fun h=>by omega⟩
  ·obtain⟨g1,g2,g3,g4,g5,g6⟩:=hs;unfold kD;dsimp only
   have hcut:cut? l 0 (i:Int)=some (l.take i):=by
    refine JQ (HG.2 ⟨⟨B6 _,by omega,by omega⟩,?_⟩);rw[B4];rfl
   rw[FD,A7 hi,AB,FW (A0 hi),A1,hcut,A1,FX (by omega)];have htl:(l.take i).length=i:=by rw[B2];omega
   refine E1.2 ((AMx l[i] (l.take i) (hb _ (BF hi)) (fun a ha=>hb a (DM ha)) (fun a ha=>(g1 a ha).pin) (by omega)).mono fun e he=>E3.2 ⟨fun h=>E2.2 ?_,fun h=>?_⟩)
   ·rw[E4]at h;simpa using h
   have he:=he (by rw[E4]at h;simpa using h);obtain⟨hok,hlast⟩:=he;have hprev:∀(_:0<i) (y:GN),l[i-1]?=some y->KW y l[i]:=fun h0 y hy=>hlast (by omega) y (by rw[htl,AM,if_pos (by omega)];exact hy);have hasc:(l.take (i+1)).Pairwise KW:=(P6 AMv hi).2 ⟨g2,hprev⟩;have hoks:∀o∈l.take (i+1),OfOk o:=(dE hi _).2 ⟨g1,hok⟩;have hsn:=H4 (A0 hi)
   have hbef:∀a∈l.take i,KW a l[i]:=by
    rw[hsn,DN]at hasc;exact fun a ha=>hasc.2.2 a ha _ (AU.2 rfl)
   have hcnt:∀nm,LK (l.take (i+1)) nm=LK (l.take i) nm+if l[i].1=nm then 1 else 0:=fun nm=>by rw[hsn,AMy]
   have hnames:F9 (l.take (i+1))=LJ (F9 (l.take i)) l[i]:=by rw[hsn,P5]
   have hni:(F9 (l.take i)).length<=i:=AY (A4z _) (by omega);rw[EY (n:=s.1+1) (by rw[g3];omega) (by rw[g3];omega)]
   have hat:Tot (bif (!(E6 (i:Int) 0))then at? l (IntKind.i64.wrap ((i:Int)-1))else some (([]:List UInt8),(([]:List UInt8),(([]:List FI),false)))) (fun y:GN=>0<i->l[i-1]?=some y):=by
    refine E3.2 ⟨fun hz=>?_,fun hz=>E2.2 fun h0=>?_⟩
    ·have hz:¬((i:Int)=0):=by rw[E4]at hz;simpa using hz
     rw[EY (by omega) (by omega)];refine F0.2 ⟨⟨by omega,by omega⟩,fun w hw _=>?_⟩;rw[show i-1=((i:Int)-1).toNat by omega];exact hw
    ·have hz:((i:Int)=0):=by rw[E4]at hz;simpa using hz
     omega
   refine E1.2 (hat.mono fun y hy=>?_)
   have hnew:(∀a∈l.take i,a.1≠l[i].1)->F9 (l.take (i+1))=F9 (l.take i)++[l[i].1]/\LK (l.take i) l[i].1=0:=by
    intro h;constructor
    ·rw[hnames];unfold LJ;rw[if_neg];rw[RP];rintro⟨a,ha,e⟩;exact h a ha e
    ·unfold LK;rw[CW,List.filter_eq_nil_iff];intro a ha;simp[h a ha]
   refine E3.2 ⟨fun hc=>?_,fun hc=>?_⟩
   ·have hne:∀a∈l.take i,a.1≠l[i].1:=by
     rcases DH i with h0|h0
     ·subst h0;intro a ha;simp at ha
     have hy:=hy h0;rw[E4,AC (by omega),CM,EA]at hc;have hc:¬y.1=l[i].1:=by simpa using hc
     have hyl:y.1<l[i].1:=(hprev h0 y hy).elim id fun h=>absurd h.1 hc;intro a ha e;obtain⟨j,hj,rfl⟩:=CE.1 ha
     have hyy:y=l[i-1]:=by
      have:=hy;rw[A0 (by omega)]at this;exact(A4 this).symm
     by_cases hji:j=i-1
     ·subst hji;rw[<-hyy]at e;exact hc e
     ·have:=CS.1 g2 j (i-1) (by omega) (by omega) (by omega);have this:KW l[j] l[i-1]:=by simpa using this
      rw[<-hyy]at this;rcases this with h|h
      ·rw[e]at h;exact I4 _ (NQ h hyl)
      ·rw[e]at h;rw[h.1]at hyl;exact I4 _ hyl
    obtain⟨n1,n2⟩:=hnew hne;refine E3.2 ⟨fun _=>E2.2 (show(3:Int)≠0 by decide),fun hd=>hn (s.1+1,1) ⟨hoks,hasc,?_,?_,?_,?_⟩⟩
    ·dsimp only;rw[n1,A9,g3];simp
    ·rw[n1,A9];have:=AF (BZ.1 hd).2;rw[g3]at this;simp only[AG,AV];omega
    ·intro nm;rw[hcnt];have:=g5 nm;split
     ·rename_i h;rw[<-h,n2];decide
     ·exact this
    ·intro _ y' hy';rw[Nat.add_sub_cancel,A0 hi]at hy';cases hy';dsimp only;rw[hcnt,n2,if_pos rfl];rfl
   ·obtain⟨hc1,hc2⟩:=BZ.1 hc;have h0:0<i:=by rw[E4]at hc1;have:=AF hc1;omega
    have hy:=hy h0;have hye:y.1=l[i].1:=by rw[EA]at hc2;simpa using hc2
    have g6:=g6 h0 y hy
    have hym:y∈l.take i:=CE.2 ⟨i-1,by omega,by
     have:=hy;rw[A0 (by omega)]at this;exact A4 this⟩
    have n1:F9 (l.take (i+1))=F9 (l.take i):=by
     rw[hnames];unfold LJ;rw[if_pos];rw[RP];exact⟨y,hym,hye⟩
    have h8:=g5 y.1;rw[EY (n:=s.2+1) (by rw[g6];omega) (by rw[g6];omega)];refine E3.2 ⟨fun _=>E2.2 (show(3:Int)≠0 by decide),fun hd=>hn (s.1,s.2+1) ⟨hoks,hasc,by rw[n1];exact g3,by rw[n1];exact g4,?_,?_⟩⟩
    ·intro nm;rw[hcnt];have:=g5 nm;split
     ·rename_i h;have:=AF (BZ.1 hd).1;rw[g6]at this;rw[<-h,<-hye];omega
     ·exact this
    ·intro _ y' hy';rw[Nat.add_sub_cancel,A0 hi]at hy';cases hy';dsimp only;rw[hcnt,if_pos rfl,g6,hye];rfl
  ·obtain⟨g1,g2,g3,g4,g5,g6⟩:=hs;unfold kD;dsimp only;rw[FD,AC (AJ _),AE];rw[BL]at g1 g2 g4 g5;exact E2.2 ⟨g1,g2,g4,g5⟩
 ·rcases q with u|e
  ·exact E2.2 fun _=>hq
  ·exact E2.2 fun h=>absurd h hq
structure TaskOk(t:FK):Prop where
 reg:RegOk t.1
 needs:NdsOk t.2.1
 scope:1<=t.2.2.1/\t.2.2.1<=4
 old:LkOk t.2.2.2.1
 frozen:∀s∈t.2.2.2.2.1,(FP t.2.2.2.1 s).2=true
 asc:t.2.2.2.2.1.Pairwise fun a b=>a<b
 base:pP t.2.2.2.2.2.2
theorem AN0(t:FK)(ht:TkB t):
 Tot (lM (t,t.2.2.2.2.1,(t.2.2.2.2.1.length:Int),0)) (fun q=>match q with
  | .inl t'=>t'=t/\(∀s∈t.2.2.2.2.1,(FP t.2.2.2.1 s).2=true)/\t.2.2.2.2.1.Pairwise fun a b=>a<b
  | .inr e=>e≠0/\¬((∀s∈t.2.2.2.2.1,(FP t.2.2.2.1 s).2=true)/\t.2.2.2.2.1.Pairwise fun a b=>a<b)):=by
 have hfr:=ht.frozen;have hold:=ht.old;refine GI (σ:=Unit) t.2.2.2.2.1.length (fun _ i=>(t,t.2.2.2.2.1,(t.2.2.2.2.1.length:Int),i)) (fun m _=>(∀s∈t.2.2.2.2.1.take m,(FP t.2.2.2.1 s).2=true)/\(t.2.2.2.2.1.take m).Pairwise fun a b=>a<b) (by omega) (fun next s i hi hs hn=>?_) (fun next s hs=>?_) () (by simp)
 ·unfold lL;dsimp only;rw[FD,A7 hi,AB,FW (A0 hi),A1,pT _ _ (by omega),A1,FX (by omega)];refine E3.2 ⟨fun h1=>E2.2 ⟨by decide,fun h=>?_⟩,fun h1=>?_⟩
  ·rw[h.1 _ (BF hi)]at h1;cases h1
  refine E1.2 ((pX hi (by omega) _).mono fun y hy=>?_);rw[dA];refine E3.2 ⟨fun h5=>E2.2 ⟨by decide,fun h=>?_⟩,fun h5=>hn () ⟨?_,?_⟩⟩
  ·obtain⟨h6,h7⟩:=D5.1 h5;have h6:=A6 h6;have hy:=hy (by omega);have h8:=((P6 (RQ fun nd:E0=>nd) hi).1 (h.2.sublist (List.take_sublist _ _))).2 (by omega) y hy;have h8:y<t.2.2.2.2.1[i]:=h8;rw[A7 h8]at h7;cases h7
  ·rw[dE hi];exact⟨hs.1,by simpa using h1⟩
  ·rw[P6 (RQ fun nd:E0=>nd) hi];refine⟨hs.2,fun h0 y' hy'=>?_⟩;have hy:=hy h0;rw[hy]at hy';cases hy';rw[A7 (show(0:Int)<(i:Int) by omega),CA]at h5;have h5:decide (y<t.2.2.2.2.1[i])=true:=by simpa using h5
   exact A6 h5
 ·unfold lL;dsimp only;rw[FD,AC (AJ _),AE];rw[BL]at hs;exact E2.2 ⟨rfl,hs⟩
noncomputable def RR(l:List GN):Int:=(QU l).getD 0
theorem AN1(l:List GN)(hl:l.length<=1048576)(hb:∀o∈l,V5 o):QU l=some (RR l)/\(RR l=0->RegOk l):=by
 obtain⟨e,h1,h2⟩:=AMz l hl hb;have:RR l=e:=by unfold RR;rw[h1];rfl
 rw[this];exact⟨h1,h2⟩
theorem pY(t:FK)(ht:TkB t)(hB:BB t.2.2.2.2.2.2):Tot (OO t) (fun e=>e=0<->(RR t.1=0/\TaskOk t)):=by
 obtain⟨r1,r2⟩:=AN1 t.1 ht.offers ht.offer;unfold OO;rw[r1,A1];refine E3.2 ⟨fun h=>E2.2 ⟨fun h0=>?_,fun h0=>?_⟩,fun h=>?_⟩
 ·rw[E4,A7 h0]at h;cases h
 ·exact h0.1
 have hr0:RR t.1=0:=by rw[E4]at h;simpa using h
 refine E1.2 ((A50 t.2.1 ht.needs ht.need).mono fun e2 he2=>E3.2 ⟨fun h=>E2.2 ⟨fun h0=>?_,fun h0=>?_⟩,fun h=>?_⟩)
 ·rw[E4,A7 h0]at h;cases h
 ·exact he2.2 h0.2.needs
 have hn0:=he2.1 (by rw[E4]at h;simpa using h);refine E3.2 ⟨fun h=>E2.2 ⟨fun h0=>absurd h0 (by decide),fun h0=>?_⟩,fun h=>?_⟩
 ·have:=h0.2.scope;rw[BJ,AZ,AZ]at h;omega
 have hsc:1<=t.2.2.1/\t.2.2.1<=4:=by
  obtain⟨g1,g2⟩:=BZ.1 h;have:=AF g1;have:=AF g2;omega
 refine E1.2 ((AMu t.2.2.2.1 ht.old ht.pin).mono fun e2 he2=>E3.2 ⟨fun h=>E2.2 ⟨fun h0=>?_,fun h0=>?_⟩,fun h=>?_⟩)
 ·rw[E4,A7 h0]at h;cases h
 ·exact he2.2 h0.2.old
 have hl0:=he2.1 (by rw[E4]at h;simpa using h);refine E1.2 ((AN0 t ht).mono fun q hq=>?_);rcases q with t'|e
 ·obtain⟨rfl,h1,h2⟩:=hq;refine E1.2 ((AMc _ hB).mono fun e he=>E2.2 ⟨fun h0=>⟨hr0,r2 hr0,hn0,hsc,hl0,h1,h2,he.1 h0⟩,fun h0=>he.2 h0.2.base⟩)
 ·exact E2.2 ⟨fun h0=>absurd h0 hq.1,fun h0=>absurd ⟨h0.2.frozen,h0.2.asc⟩ hq.2⟩
end Go.Ev.Pv
namespace Go.Ev.Pv
def H9(os:List (List E0)):List Int:=os.map fun o=>KE (o.length+1)
theorem IR{α:Type}{l:List α}{i:Nat}{x d:α}(h:i<l.length):(l.set i x).getD i d=x:=by
 rw[A2,CB h];rfl
theorem getD_set_ne{α:Type}{l:List α}{i j:Nat}{x d:α}(h:i≠j):(l.set i x).getD j d=l.getD j d:=by
 rw[A2,CV h,A2]
theorem pZ{α:Type}{l:List α}{i:Nat}{d:α}(h:i<l.length):l.set i (l.getD i d)=l:=by
 rw[A2,A0 h];exact List.set_getElem_self h
theorem A54{α:Type}{f v:List α}{j:Nat}{x:α}(hl:f.length=v.length)(hx:f[j]?=some x):(f.take j++v.drop j).set j x=f.take (j+1)++v.drop (j+1):=by
 have hj:=(AA.1 hx).1;have hlt:(f.take j).length=j:=by rw[B2];omega
 rw[List.set_append_right _ _ (by omega),hlt,DK];have:v.drop j=v[j]'(by omega)::v.drop (j+1):=by rw[CC]
 rw[this,List.set_cons_zero,H4 hx,C7];rfl
structure Fx(ns:List E0)(os:List (List E0)):Prop where
 len:os.length=ns.length
 few:ns.length<=12
 small:∀o∈os,o.length<=8
theorem p_{α:Type}{n:Nat}(h:n<=1000000)(z:α):mks? 24 (n:Int) (n:Int) z=some (List.replicate n z):=by
 unfold mks?;rw[A7 (BI n),A7 (B6 _),A7 (by rw[B4];omega),B4];rfl
section
variable(t:FK)(ns:List E0)(os:List (List E0))(hF:Fx ns os)
include hF
theorem AN2(wants:List (List Int))(X:List (List (List Int)))(st:List Int)(rt:Int)(i a:Nat)(hi:i<X.length)(ha:a<(X.getD i []).length)(hv:((X.getD i []).getD a []).length=ns.length):
 mA ((t,ns,os,wants,X,st,rt),(i:Int),(a:Int),(ns.length:Int),0)=some (t,ns,os,wants,X.set i ((X.getD i []).set a (H9 os)),st,rt):=by
 refine JQ ?_;have hfl:(H9 os).length=ns.length:=by unfold H9;rw[AO,hF.len]
 refine GI (σ:=List (List (List Int))) ns.length (fun s j=>((t,ns,os,wants,s,st,rt),(i:Int),(a:Int),(ns.length:Int),j)) (fun j s=>s=X.set i ((X.getD i []).set a ((H9 os).take j++((X.getD i []).getD a []).drop j))) (by have:=hF.few;omega) (fun next s j hj hs hn=>?_) (fun next s hs=>?_) X ?_
 ·unfold m9;dsimp only;have e1:s.getD i []=(X.getD i []).set a ((H9 os).take j++((X.getD i []).getD a []).drop j):=by rw[hs];exact IR hi
  have e2:(s.getD i []).getD a []=(H9 os).take j++((X.getD i []).getD a []).drop j:=by rw[e1];exact IR ha
  have hsl:s.length=X.length:=by rw[hs,AD]
  have hfew:=hF.few;have hjo:j<os.length:=by rw[hF.len];exact hj
  rw[FD,A7 hj,AB,B4,B4,B4,HI (by omega),A1,HI (by rw[e1,AD];exact ha),A1,FW (A0 hjo),A1];have hsm:=hF.small _ (BF hjo);rw[FX (by omega),FX (by omega)];have h4:=(pQ (n:=os[j].length+1) (by omega)).1;rw[show((os[j].length+1:Nat):Int)=(os[j].length:Int)+1 by omega]at h4;rw[h4,A1,HI (by rw[e2,A9,B2,C5];omega),A1];refine hn _ ?_;rw[e2,e1,hs,List.set_set,List.set_set];rw[A54 (by omega) (x:=KE (os[j].length+1)) (by unfold H9;rw[AL,A0 hjo];rfl)|>.symm];rfl
 ·unfold m9;dsimp only;rw[FD,AC (AJ _),AE];refine E2.2 ?_;rw[hs,BR (by omega),C_ (by omega),BY]
 ·rw[D8,D7,DR,pZ ha,pZ hi]
theorem AN3(wants:List (List Int))(X:List (List (List Int)))(st:List Int)(rt:Int)(i c:Nat)(hi:i<X.length)(hc:c<=1000)(hx:X.getD i []=List.replicate c []):
 mC ((t,ns,os,wants,X,st,rt),(ns.length:Int),(i:Int),(c:Int),0)=some (t,ns,os,wants,X.set i (List.replicate c (H9 os)),st,rt):=by
 refine JQ ?_;refine GI (σ:=List (List (List Int))) c (fun s a=>((t,ns,os,wants,s,st,rt),(ns.length:Int),(i:Int),(c:Int),a)) (fun a s=>s=X.set i ((List.replicate c (H9 os)).take a++(List.replicate c []).drop a)) (by omega) (fun next s a ha hs hn=>?_) (fun next s hs=>?_) X ?_
 ·unfold mB;dsimp only;have e1:s.getD i []=(List.replicate c (H9 os)).take a++(List.replicate c []).drop a:=by rw[hs];exact IR hi
  have e1l:(s.getD i []).length=c:=by rw[e1];simp;omega
  have hsl:s.length=X.length:=by rw[hs,AD]
  have hfew:=hF.few;rw[FD,A7 ha,AB,B4,B4,HI (by omega),A1,p_ (by omega),A1,HI (by omega),A1];have h4:=AN2 t ns os hF wants (s.set i ((s.getD i []).set a (List.replicate ns.length 0))) st rt i a (by rw[AD];omega) (by rw[IR (by omega),AD];omega) (by rw[IR (by omega),IR (by omega),BC]);rw[IR (by omega),List.set_set,List.set_set]at h4;rw[h4,A1,FX (by omega)];refine hn _ ?_;dsimp only;rw[e1,hs,List.set_set,A54 (by simp) (x:=H9 os) (by simp[ha])]
 ·unfold mB;dsimp only;rw[FD,AC (AJ _),AE];refine E2.2 ?_;rw[hs,BR (by simp),C_ (by simp),BY]
 ·rw[D8,D7,DR,<-hx,pZ hi]
theorem AN4(st:List Int)(rt:Int):
 mE ((t,ns,os,([]:List (List Int)),([]:List (List (List Int))),st,rt),(ns.length:Int),(ns.length:Int),0)=
  some (t,ns,os,os.map (fun o=>List.replicate (o.length+1) 0),os.map (fun o=>List.replicate (o.length+1) (H9 os)),st,rt):=by
 refine JQ ?_;refine GI (σ:=Nat) ns.length (fun s i=>((t,ns,os,(os.take s).map (fun o=>List.replicate (o.length+1) 0),(os.take s).map (fun o=>List.replicate (o.length+1) (H9 os)),st,rt),(ns.length:Int),(ns.length:Int),i)) (fun i s=>s=i) (by have:=hF.few;omega) (fun next s i hi hj hn=>?_) (fun next s hj=>?_) 0 rfl
 ·subst hj;unfold mD;dsimp only;have hfew:=hF.few;have hso:s<os.length:=by rw[hF.len];exact hi
  have hsm:=hF.small _ (BF hso);rw[FD,A7 hi,AB,FW (A0 hso),A1,FX (by omega),FX (by omega)];rw[show((os[s].length:Int)+1)=((os[s].length+1:Nat):Int) by omega,p_ (by omega),A1];refine E1.2 (GH.2 ⟨by simp only[AO,B2,AG,AV];omega,?_⟩);rw[p_ (by omega),A1];refine E1.2 (GH.2 ⟨by simp only[AO,B2,AG,AV];omega,?_⟩);have hlen:((os.take s).map (fun o=>List.replicate (o.length+1) (H9 os))).length=s:=by rw[AO,B2];omega
  rw[AN3 (i:=s) (c:=os[s].length+1) (hi:=by rw[A9,hlen];simp) (hc:=by omega) (hx:=by rw[A2,AX (by omega),hlen,DK];rfl) (hF:=hF),A1];have:=hn (s+1) rfl;rw[H4 (A0 hso),CY,CY]at this;rw[List.set_append_right _ _ (by omega),hlen,DK];exact this
 ·unfold mD;dsimp only;rw[FD,AC (AJ _),AE];exact E2.2 (by rw[hj,BR (by rw[hF.len];exact AI _)])
end
end Go.Ev.Pv
namespace Go.Ev.Pv
def wa(W:List (List Int))(i a:Nat):Int:=(W.getD i []).getD a 0
def al(A:List (List (List Int)))(i a j:Nat):Int:=((A.getD i []).getD a []).getD j 0
def cnt(os:List (List E0))(i:Nat):Nat:=(os.getD i []).length
structure ShW(n:Nat)(os:List (List E0))(W:List (List Int)):Prop where
 len:W.length=n
 row:∀i<n,(W.getD i []).length=cnt os i+1
 in16:∀i a,FV (wa W i a)
structure ShA(n:Nat)(os:List (List E0))(A:List (List (List Int))):Prop where
 len:A.length=n
 row:∀i<n,(A.getD i []).length=cnt os i+1
 cell:∀i<n,∀a,a<cnt os i+1->((A.getD i []).getD a []).length=n
 in16:∀i a j,FV (al A i a j)
structure ShS(n:Nat)(st:List Int):Prop where
 len:st.length=n
 in16:∀i,FV (st.getD i 0)
theorem NW{α:Type}{l:List α}{i:Nat}{d:α}(h:l.length<=i):l.getD i d=d:=by
 rw[A2,B3 h];rfl
theorem dH{n:Nat}{st:List Int}(h:ShS n st){i:Nat}{x:Int}(hi:i<n)(hx:FV x):ShS n (st.set i x)/\∀i',(st.set i x).getD i' 0=if i'=i then x else st.getD i' 0:=by
 have e:∀i',(st.set i x).getD i' 0=if i'=i then x else st.getD i' 0:=by
  intro i';by_cases hii:i'=i
  ·subst hii;rw[if_pos rfl,IR (by rw[h.len];exact hi)]
  ·rw[if_neg hii,getD_set_ne (fun e=>hii e.symm)]
 refine⟨⟨by rw[AD,h.len],fun i'=>?_⟩,e⟩;rw[e];split
 ·exact hx
 ·exact h.in16 _
theorem AN5{n:Nat}{os:List (List E0)}{W:List (List Int)}(h:ShW n os W){i a:Nat}{x:Int}(hi:i<n)(ha:a<cnt os i+1)(hx:FV x):
 ShW n os (W.set i ((W.getD i []).set a x))/\∀i' a',wa (W.set i ((W.getD i []).set a x)) i' a'=if i'=i/\a'=a then x else wa W i' a':=by
 have hl:=h.len;have hr:=h.row i hi
 have e:∀i' a',wa (W.set i ((W.getD i []).set a x)) i' a'=if i'=i/\a'=a then x else wa W i' a':=by
  intro i' a';unfold wa;by_cases hii:i'=i
  ·subst hii;rw[IR (by omega)];by_cases haa:a'=a
   ·subst haa;rw[if_pos ⟨rfl,rfl⟩,IR (by omega)]
   ·rw[if_neg (fun e=>haa e.2),getD_set_ne (fun e=>haa e.symm)]
  ·rw[if_neg (fun e=>hii e.1),getD_set_ne (fun e=>hii e.symm)]
 refine⟨⟨by rw[AD,hl],fun i' hi'=>?_,fun i' a'=>?_⟩,e⟩
 ·by_cases hii:i'=i
  ·subst hii;rw[IR (by omega),AD,hr]
  ·rw[getD_set_ne (fun e=>hii e.symm)];exact h.row _ hi'
 ·rw[e];split
  ·exact hx
  ·exact h.in16 _ _
theorem A55{n:Nat}{os:List (List E0)}{A:List (List (List Int))}(h:ShA n os A){i a j:Nat}{x:Int}(hi:i<n)(ha:a<cnt os i+1)(hj:j<n)(hx:FV x):
 ShA n os (A.set i ((A.getD i []).set a (((A.getD i []).getD a []).set j x)))/\
 ∀i' a' j',al (A.set i ((A.getD i []).set a (((A.getD i []).getD a []).set j x))) i' a' j'=if i'=i/\a'=a/\j'=j then x else al A i' a' j':=by
 have hl:=h.len;have hr:=h.row i hi;have hc:=h.cell i hi a ha
 have e:∀i' a' j',al (A.set i ((A.getD i []).set a (((A.getD i []).getD a []).set j x))) i' a' j'=if i'=i/\a'=a/\j'=j then x else al A i' a' j':=by
  intro i' a' j';unfold al;by_cases hii:i'=i
  ·subst hii;rw[IR (by omega)];by_cases haa:a'=a
   ·subst haa;rw[IR (by omega)];by_cases hjj:j'=j
    ·subst hjj;rw[if_pos ⟨rfl,rfl,rfl⟩,IR (by omega)]
    ·rw[if_neg (fun e=>hjj e.2.2),getD_set_ne (fun e=>hjj e.symm)]
   ·rw[if_neg (fun e=>haa e.2.1),getD_set_ne (fun e=>haa e.symm)]
  ·rw[if_neg (fun e=>hii e.1),getD_set_ne (fun e=>hii e.symm)]
 refine⟨⟨by rw[AD,hl],fun i' hi'=>?_,fun i' hi' a' ha'=>?_,fun i' a' j'=>?_⟩,e⟩
 ·by_cases hii:i'=i
  ·subst hii;rw[IR (by omega),AD,hr]
  ·rw[getD_set_ne (fun e=>hii e.symm)];exact h.row _ hi'
 ·by_cases hii:i'=i
  ·subst hii;rw[IR (by omega)];by_cases haa:a'=a
   ·subst haa;rw[IR (by omega),AD,hc]
   ·rw[getD_set_ne (fun e=>haa e.symm)];exact h.cell _ hi' _ ha'
  ·rw[getD_set_ne (fun e=>hii e.symm)];exact h.cell _ hi' _ ha'
 ·rw[e];split
  ·exact hx
  ·exact h.in16 _ _ _
noncomputable def IS(o:List E0)(r:Rg):Nat->Bool
 |0=>false
 |k+1=>match o[k]? with
  |some v=>NV r v
  |none=>false
theorem A56{o:List E0}{r:Rg}{k:Nat}{v:E0}(h:o[k]?=some v):IS o r (k+1)=NV r v:=by
 show(match o[k]? with|some v=>NV r v|none=>false)=_;rw[h]
theorem AN6{o:List E0}{r:Rg}{k:Nat}(h:o[k]?=none):IS o r (k+1)=false:=by
 show(match o[k]? with|some v=>NV r v|none=>false)=_;rw[h]
theorem AN7{o:List E0}{r:Rg}{b:Nat}(h:IS o r b=true):1<=b/\b<=o.length:=by
 cases b with
 |zero=>cases h
 |succ k=>
  refine⟨by omega,?_⟩;cases hk:o[k]? with
  |none=>rw[AN6 hk]at h;cases h
  |some v=>exact(AA.1 hk).1
theorem A57(S:V1)(i:Nat)(o:List E0)(r:Rg)(ho:S.2.2.1[i]?=some o)(hl:o.length<=8)(hv:∀v∈o,v.length<=1048576)(hr:∀s∈r.2,RO s):
 Tot (UI (some S,(i:Int),r)) (fun w=>FV w/\∀b,bt w b=IS o r b):=by
 unfold UI;dsimp only;rw[A1,FW ho,A1];refine E1.2 (Tot.mono (P:=fun w=>FV w/\∀b,bt w b=IS o r b) ?_ fun _ h=>E2.2 h);refine GI (σ:=Int) o.length (fun s k=>(r,s,o,(o.length:Int),k)) (fun k s=>FV s/\∀b,bt s b=(IS o r b&&decide (b<=k))) (by omega) (fun next s k hk hs hn=>?_) (fun next s hs=>?_) 0 ⟨NU,fun b=>?_⟩
 ·unfold m7;dsimp only;rw[FD,A7 hk,AB,FW (A0 hk),A1,FX (by omega)];obtain⟨q,h1,h2⟩:=AMk r o[k] hr (hv _ (BF hk));rw[h1,A1,h2];have hin:IS o r (k+1)=NV r o[k]:=A56 (A0 hk);refine E3.2 ⟨fun hc=>?_,fun hc=>?_⟩
  ·rw[show((k:Int)+1)=((k+1:Nat):Int) by omega,(IP (i:=k+1) (by omega)).1,A1,<-show((k:Int)+1)=((k+1:Nat):Int) by omega];obtain⟨g1,g2⟩:=dC hs.1 (IP (i:=k+1) (by omega)).2;refine hn _ ⟨g1,fun b=>?_⟩;rw[g2,hs.2,KU];by_cases hb:b=k+1
   ·subst hb;rw[hin,hc];simp
   ·have e1:decide (k+1=b)=false:=AC (fun e=>hb e.symm);have e2:decide (b<=k+1)=decide (b<=k):=by by_cases h:b<=k<;>simp[h]<;>omega
    rw[e1,e2,Bool.or_false]
  ·refine hn _ ⟨hs.1,fun b=>?_⟩;rw[hs.2];by_cases hb:b=k+1
   ·subst hb;rw[hin,hc];simp
   ·have e2:decide (b<=k+1)=decide (b<=k):=by by_cases h:b<=k<;>simp[h]<;>omega
    rw[e2]
 ·unfold m7;dsimp only;rw[FD,AC (AJ _),AE];refine E2.2 ⟨hs.1,fun b=>?_⟩;rw[hs.2];cases hb:IS o r b with
  |false=>rfl
  |true=>rw[A7 (AN7 hb).2];rfl
 ·rw[P1];cases b with
  |zero=>rfl
  |succ b=>simp
structure Fy(ns:List E0)(os:List (List E0)):Prop extends Fx ns os where
 nodup:ns.Nodup
 vers:∀o∈os,∀v∈o,v.length<=1048576
theorem M3{l:List E0}(h:l.Nodup){i j:Nat}{x:E0}(hi:l[i]?=some x)(hj:l[j]?=some x):i=j:=by
 obtain⟨h1,h2⟩:=AA.1 hi;obtain⟨h3,h4⟩:=AA.1 hj;exact(List.getElem_inj h).1 (h2.trans h4.symm)
structure Rel(ns:List E0)(os:List (List E0))(M:Nat->Nat->FI->Prop)(W:List (List Int))(A:List (List (List Int)))(st:List Int):Prop where
 shW:ShW ns.length os W
 shA:ShA ns.length os A
 shS:ShS ns.length st
 st:∀i<ns.length,∀a,bt (st.getD i 0) a=true<->a<=cnt os i/\∀nd,M i a nd->nd.1∈ns
 wa:∀i<ns.length,∀a≤cnt os i,∀k,bt (wa W i a) k=true<->∃nd,M i a nd/\ns[k]?=some nd.1
 al:∀i<ns.length,∀a≤cnt os i,∀j<ns.length,∀b,bt (al A i a j) b=true<->b<=cnt os j/\(∀nd,M i a nd->ns[j]?=some nd.1->IS (os.getD j []) nd.2.1 b=true)/\
  (∀nd,M j b nd->ns[i]?=some nd.1->IS (os.getD i []) nd.2.1 a=true)
theorem Rel.congr{ns:List E0}{os:List (List E0)}{M M':Nat->Nat->FI->Prop}{W:List (List Int)}{A:List (List (List Int))}{st:List Int}(h:Rel ns os M W A st)(e:∀i a nd,M i a nd<->M' i a nd):Rel ns os M' W A st:=by
 have:M=M':=funext fun i=>funext fun a=>funext fun nd=>propext (e i a nd);rwa[<-this]
end Go.Ev.Pv
namespace Go.Ev.Pv
theorem A58{α:Type}{l:List α}{i:Nat}{d:α}(h:i<l.length):l.getD i d∈l:=by
 rw[A2,A0 h];exact BF h
section
variable{t:FK}{ns:List E0}{os:List (List E0)}(hF:Fy ns os)
include hF
theorem LL(i:Nat):cnt os i<=8:=by
 unfold cnt;rcases C8 i os.length with h|h
 ·exact hF.small _ (A58 h)
 ·rw[NW h];decide
theorem AN8(W:List (List Int))(A:List (List (List Int)))(st:List Int)(rt:Int)(hA:ShA ns.length os A)(i a j:Nat)(hi:i<ns.length)(ha:a<=cnt os i)(hj:j<ns.length)(w:Int)(hw:FV w):
 Tot (m8 ((t,ns,os,W,A,st,rt),(i:Int),(a:Int),(j:Int),w,(((A.getD j []).length:Nat):Int),0)) (fun S'=>∃ A',S'=(t,ns,os,W,A',st,rt)/\ShA ns.length os A' /\
  ∀i' a' j' b,(i'=j->a'<=cnt os j)->bt (al A' i' a' j') b=(bt (al A i' a' j') b && !(decide (i'=j/\j'=i/\b=a) && !bt w a'))):=by
 have hrow:=hA.row j hj;have hcn:=LL hF j;have hci:=LL hF i;rw[hrow]
 have:=GI (r:=bF) (R:=V1) (σ:=List (List (List Int))) (cnt os j+1) (fun s b=>((t,ns,os,W,s,st,rt),(i:Int),(a:Int),(j:Int),w,((cnt os j+1:Nat):Int),b))
  (fun b0 s=>ShA ns.length os s/\∀i' a' j' b,bt (al s i' a' j') b=(bt (al A i' a' j') b && !(decide (i'=j/\j'=i/\b=a)&&(!bt w a'&&decide (a'<b0)))))
  (Q:=fun S'=>∃ A',S'=(t,ns,os,W,A',st,rt)/\ShA ns.length os A' /\
   ∀i' a' j' b,(i'=j->a'<=cnt os j)->bt (al A' i' a' j') b=(bt (al A i' a' j') b && !(decide (i'=j/\j'=i/\b=a) && !bt w a')))
  (by omega) (fun next s b0 hb hs hn=>?_) (fun next s hs=>?_) A ⟨hA,fun i' a' j' b=>by simp⟩
 ·exact this
 ·obtain⟨hsA,hs⟩:=hs;unfold bF;dsimp only;rw[FD,A7 hb,AB,P2 hw,A1,FX (by omega)];have hsr:=hsA.row j hj;have hsc:=hsA.cell j hj b0 hb;refine E3.2 ⟨fun hc=>?_,fun hc=>?_⟩
  ·have hc:bt w b0=false:=by simpa using hc
   rw[B4,B4,B4,HI (by rw[hsA.len];exact hj),A1,HI (by omega),A1,HI (by omega),A1,(IP (i:=a) (by omega)).1,A1,A1];obtain⟨g1,g2⟩:=A4t (hsA.in16 j b0 i) (IP (i:=a) (by omega)).2;obtain⟨k1,k2⟩:=A55 hsA hj hb hi g1;refine hn _ ⟨k1,fun i' a' j' b=>?_⟩;have e:=k2 i' a' j';have e':al (s.set j ((s.getD j []).set b0 (((s.getD j []).getD b0 []).set i (M8 IntKind.u16 (((s.getD j []).getD b0 []).getD i 0) ((2 ^ a:Nat):Int))))) i' a' j'=if i'=j/\a'=b0/\j'=i then M8 IntKind.u16 (al s j b0 i) ((2 ^ a:Nat):Int)else al s i' a' j':=e;rw[e'];split
   ·rename_i h;obtain⟨rfl,rfl,rfl⟩:=h;rw[g2,hs,KU,hc];by_cases hba:b=a
    ·subst hba;simp
    ·have:¬a=b:=fun e=>hba e.symm;simp[hba,this]
   ·rename_i h;rw[hs];by_cases h1:i'=j/\j'=i/\b=a
    ·have:¬a'=b0:=fun e=>h ⟨h1.1,e,h1.2.1⟩;have e2:decide (a'<b0+1)=decide (a'<b0):=by by_cases h:a'<b0<;>simp[h]<;>omega
     rw[e2]
    ·rw[AC h1];simp
  ·have hc:bt w b0=true:=by simpa using hc
   refine hn _ ⟨hsA,fun i' a' j' b=>?_⟩;rw[hs];by_cases hab:a'=b0
   ·subst hab;rw[hc];simp
   ·have e2:decide (a'<b0+1)=decide (a'<b0):=by by_cases h:a'<b0<;>simp[h]<;>omega
    rw[e2]
 ·obtain⟨hsA,hs⟩:=hs;unfold bF;dsimp only;rw[FD,AC (AJ _),AE];refine E2.2 ⟨s,rfl,hsA,fun i' a' j' b ha'=>?_⟩;rw[hs];by_cases hij:i'=j
  ·have:=ha' hij;rw[A7 (by omega:a'<cnt os j+1),Bool.and_true]
  ·rw[AC (fun h=>hij h.1)];simp
theorem AN9{M:Nat->Nat->FI->Prop}{W:List (List Int)}{A:List (List (List Int))}{st:List Int}{rt:Int}(hR:Rel ns os M W A st)(i a:Nat)(hi:i<ns.length)(ha0:1<=a)(ha:a<=cnt os i)(nd:FI)(hnd:KV nd)(hself:ns[i]?≠some nd.1):
 Tot (bG ((t,ns,os,W,A,st,rt),(i:Int),(a:Int),nd)) (fun S'=>∃W' A' st',S'=(t,ns,os,W',A',st',rt)∧Rel ns os (fun i' a' nd'=>M i' a' nd'∨(i'=i∧a'=a∧nd'=nd)) W' A' st'):=by
 have hcn:=LL hF i;have hfew:=hF.few;unfold bG MT;dsimp only;rw[A1,V2 _ _ (by dsimp only;omega),A1,A1];refine E3.2 ⟨fun hc=>?_,fun hc=>?_⟩
 ·have hno:=(V4 _ _).1 (A6 hc);rw[B4,HI (by rw[hR.shS.len];exact hi),A1,(IP (i:=a) (by omega)).1,A1,A1];obtain⟨g1,g2⟩:=A4t (hR.shS.in16 i) (IP (i:=a) (by omega)).2;obtain⟨k1,k2⟩:=dH hR.shS hi g1;refine E2.2 ⟨_,_,_,rfl,⟨hR.shW,hR.shA,k1,fun i' hi' a'=>?_,fun i' hi' a' ha' k=>?_,fun i' hi' a' ha' j' hj' b=>?_⟩⟩
  ·rw[k2];split
   ·rename_i h;subst h;rw[g2,KU,A5,hR.st _ hi'];constructor
    ·rintro⟨⟨h1,h2⟩,h3⟩;refine⟨h1,fun nd' h=>?_⟩;rcases h with h|⟨_,rfl,_⟩
     ·exact h2 _ h
     ·simp at h3
    ·rintro⟨h1,h2⟩;refine⟨⟨h1,fun nd' h=>h2 _ (.inl h)⟩,?_⟩;by_cases haa:a=a'
     ·subst haa;exact absurd (h2 nd (.inr ⟨rfl,rfl,rfl⟩)) hno
     ·simp[haa]
   ·rename_i h;rw[hR.st _ hi'];constructor
    ·rintro⟨h1,h2⟩;exact⟨h1,fun nd' hh=>hh.elim (h2 _) fun hh=>absurd hh.1 h⟩
    ·rintro⟨h1,h2⟩;exact⟨h1,fun nd' hh=>h2 _ (.inl hh)⟩
  ·rw[hR.wa _ hi' _ ha'];constructor
   ·rintro⟨nd',h1,h2⟩;exact⟨nd',.inl h1,h2⟩
   ·rintro⟨nd',h1|⟨_,_,rfl⟩,h2⟩
    ·exact⟨nd',h1,h2⟩
    ·exact absurd (B0 h2) hno
  ·rw[hR.al _ hi' _ ha' _ hj'];constructor
   ·rintro⟨h1,h2,h3⟩;refine⟨h1,fun nd' hh he=>hh.elim (fun hh=>h2 _ hh he) fun hh=>?_,fun nd' hh he=>hh.elim (fun hh=>h3 _ hh he) fun hh=>?_⟩
    ·obtain⟨_,_,rfl⟩:=hh;exact absurd (B0 he) hno
    ·obtain⟨_,_,rfl⟩:=hh;exact absurd (B0 he) hno
   ·rintro⟨h1,h2,h3⟩;exact⟨h1,fun nd' hh he=>h2 _ (.inl hh) he,fun nd' hh he=>h3 _ (.inl hh) he⟩
 ·have hyes:¬_:=AF hc;rcases N3 (fun x=>decide (nd.1=x)) ns with⟨h1,_⟩|⟨j,x,h1,hjn,h3,_⟩
  ·rw[h1]at hyes;exact absurd (by decide) hyes
  rw[h1];have hx:nd.1=x:=A6 h3;subst hx;have hj:=(AA.1 hjn).1;have hij:i≠j:=fun e=>hself (by rw[e];exact hjn)
  have hjo:os[j]?=some (os.getD j []):=by
   rw[A2,A0 (by rw[hF.len];exact hj)];rfl
  have hmem:os.getD j []∈os:=B0 hjo;have hWi:=hR.shW.row i hi;have hAi:=hR.shA.row i hi;have hAc:=hR.shA.cell i hi a (by omega);rw[B4,B4,B4,HI (by rw[hR.shW.len];exact hi),A1,HI (by omega),A1,(IP (i:=j) (by omega)).1,A1,A1];obtain⟨g1,g2⟩:=dC (hR.shW.in16 i a) (IP (i:=j) (by omega)).2;obtain⟨k1,k2⟩:=AN5 hR.shW hi (show a<cnt os i+1 by omega) g1;refine E1.2 ((A57 _ j (os.getD j []) nd.2.1 hjo (hF.small _ hmem) (hF.vers _ hmem) hnd.2).mono fun w hw=>?_);rw[HI (by rw[hR.shA.len];exact hi),A1,HI (by omega),A1,HI (by omega),A1,A1];obtain⟨m1,m2⟩:=RN (hR.shA.in16 i a j) hw.1;obtain⟨n1,n2⟩:=A55 hR.shA hi (show a<cnt os i+1 by omega) hj m1;rw[HI (by rw[AD,hR.shA.len];exact hj),A1];refine E1.2 ((AN8 hF _ _ st rt n1 i a j hi ha hj w hw.1).mono fun S' hS=>?_);obtain⟨A',rfl,hA',hal⟩:=hS;refine E2.2 ⟨_,A',st,rfl,⟨k1,hA',hR.shS,fun i' hi' a'=>?_,fun i' hi' a' ha' k=>?_,fun i' hi' a' ha' j' hj' b=>?_⟩⟩
  ·rw[hR.st _ hi'];constructor
   ·rintro⟨h1,h2⟩;exact⟨h1,fun nd' hh=>hh.elim (h2 _) fun hh=>by obtain⟨_,_,rfl⟩:=hh;exact B0 hjn⟩
   ·rintro⟨h1,h2⟩;exact⟨h1,fun nd' hh=>h2 _ (.inl hh)⟩
  ·have e:wa (W.set i ((W.getD i []).set a (HB IntKind.u16 ((W.getD i []).getD a 0) ((2 ^ j:Nat):Int)))) i' a'=if i'=i/\a'=a then HB IntKind.u16 (wa W i a) ((2 ^ j:Nat):Int)else wa W i' a':=k2 i' a';rw[e];split
   ·rename_i h;obtain⟨rfl,rfl⟩:=h;rw[g2,KU,BJ,hR.wa _ hi' _ ha'];constructor
    ·rintro(⟨nd',h1,h2⟩|h)
     ·exact⟨nd',.inl h1,h2⟩
     ·have:=A6 h;subst this;exact⟨nd,.inr ⟨rfl,rfl,rfl⟩,hjn⟩
    ·rintro⟨nd',h1|⟨_,_,rfl⟩,h2⟩
     ·exact .inl ⟨nd',h1,h2⟩
     ·exact .inr (A7 (M3 hF.nodup hjn h2))
   ·rename_i h;rw[hR.wa _ hi' _ ha'];constructor
    ·rintro⟨nd',h1,h2⟩;exact⟨nd',.inl h1,h2⟩
    ·rintro⟨nd',h1|⟨e1,e2,rfl⟩,h2⟩
     ·exact⟨nd',h1,h2⟩
     ·exact absurd ⟨e1,e2⟩ h
  ·have base:=hR.al _ hi' _ ha' _ hj' b;by_cases hcase:i'=j
   ·
    rw[hal _ _ _ _ (fun h=>by rw[<-h];exact ha'),n2,if_neg (fun h=>hij (h.1.symm.trans hcase)),A5,base];by_cases h2:j'=i/\b=a
    ·have hw':bt w a'=IS (os.getD i' []) nd.2.1 a':=by rw[hcase];exact hw.2 a'
     have hin:ns[i']?=some nd.1:=by rw[hcase];exact hjn
     rw[A7 ⟨hcase,h2.1,h2.2⟩,CA,Bool.not_not,hw'];constructor
     ·rintro⟨⟨h1,h2',h3⟩,h4⟩;refine⟨h1,fun nd' hh he=>hh.elim (fun hh=>h2' _ hh he) fun hh=>absurd (hh.1.symm.trans hcase) hij,fun nd' hh he=>hh.elim (fun hh=>h3 _ hh he) fun hh=>?_⟩;rw[hh.2.2];exact h4
     ·rintro⟨h1,h2',h3⟩;exact⟨⟨h1,fun nd' hh he=>h2' _ (.inl hh) he,fun nd' hh he=>h3 _ (.inl hh) he⟩,h3 nd (.inr ⟨h2.1,h2.2,rfl⟩) hin⟩
    ·rw[AC (fun h=>h2 h.2),CJ,D9];constructor
     ·rintro⟨⟨h1,h2',h3⟩,_⟩;exact⟨h1,fun nd' hh he=>hh.elim (fun hh=>h2' _ hh he) fun hh=>absurd (hh.1.symm.trans hcase) hij,fun nd' hh he=>hh.elim (fun hh=>h3 _ hh he) fun hh=>absurd ⟨hh.1,hh.2.1⟩ h2⟩
     ·rintro⟨h1,h2',h3⟩;exact⟨⟨h1,fun nd' hh he=>h2' _ (.inl hh) he,fun nd' hh he=>h3 _ (.inl hh) he⟩,rfl⟩
   ·
    rw[hal _ _ _ _ (fun h=>absurd h hcase),n2,AC (fun h=>hcase h.1),CJ,D9,Bool.and_true];split
    ·rename_i h;obtain⟨rfl,rfl,rfl⟩:=h;rw[m2,A5,base,hw.2];constructor
     ·rintro⟨⟨h1,h2',h3⟩,h4⟩;refine⟨h1,fun nd' hh he=>hh.elim (fun hh=>h2' _ hh he) fun hh=>?_,fun nd' hh he=>hh.elim (fun hh=>h3 _ hh he) fun hh=>absurd hh.1.symm hij⟩;rw[hh.2.2];exact h4
     ·rintro⟨h1,h2',h3⟩;exact⟨⟨h1,fun nd' hh he=>h2' _ (.inl hh) he,fun nd' hh he=>h3 _ (.inl hh) he⟩,h2' nd (.inr ⟨rfl,rfl,rfl⟩) hjn⟩
    ·rename_i h;rw[base];constructor
     ·rintro⟨h1,h2',h3⟩;refine⟨h1,fun nd' hh he=>hh.elim (fun hh=>h2' _ hh he) fun hh=>?_,fun nd' hh he=>hh.elim (fun hh=>h3 _ hh he) fun hh=>?_⟩
      ·rw[hh.2.2]at he;exact absurd ⟨hh.1,hh.2.1,M3 hF.nodup he hjn⟩ h
      ·rw[hh.2.2]at he;exact absurd (M3 hF.nodup he hjn) hcase
     ·rintro⟨h1,h2',h3⟩;exact⟨h1,fun nd' hh he=>h2' _ (.inl hh) he,fun nd' hh he=>h3 _ (.inl hh) he⟩
end
end Go.Ev.Pv
namespace Go.Ev.Pv
def I5(t:FK)(ns:List E0)(os:List (List E0))(i:Nat):Nat->List FI
 |0=>[]
 |k+1=>match(os.getD i [])[k]?,ns[i]? with
  |some v,some nm=>JC t (nm,v)
  |_,_=>[]
theorem A59{t:FK}{ns:List E0}{os:List (List E0)}{i k:Nat}{v nm:E0}(h1:(os.getD i [])[k]?=some v)(h2:ns[i]?=some nm):I5 t ns os i (k+1)=JC t (nm,v):=by
 show(match(os.getD i [])[k]?,ns[i]? with|some v,some nm=>JC t (nm,v)|_,_=>[])=_;rw[h1,h2]
theorem RS{t:FK}{ns:List E0}{os:List (List E0)}{i a:Nat}{nd:FI}(h:nd∈I5 t ns os i a):∃k v nm,a=k+1/\(os.getD i [])[k]?=some v/\ns[i]?=some nm/\nd∈JC t (nm,v):=by
 cases a with
 |zero=>cases h
 |succ k=>
  have h:nd∈(match(os.getD i [])[k]?,ns[i]? with|some v,some nm=>JC t (nm,v)|_,_=>[]):=h;split at h
  ·rename_i v nm h1 h2;exact⟨k,v,nm,rfl,h1,h2,h⟩
  ·cases h
section
variable{t:FK}{ns:List E0}{os:List (List E0)}(hF:Fy ns os)(ht:TkB t)(hN:∀i a nd,nd∈I5 t ns os i a->KV nd/\ns[i]?≠some nd.1)
include hF ht hN
theorem ANA{M:Nat->Nat->FI->Prop}{W:List (List Int)}{A:List (List (List Int))}{st:List Int}{rt:Int}(hR:Rel ns os M W A st)(i k:Nat)(hi:i<ns.length)(hk:k<cnt os i)(l:List FI)(hl:l.length<=1048576)(hnd:∀nd∈l,KV nd/\ns[i]?≠some nd.1):
 Tot (mG ((t,ns,os,W,A,st,rt),(i:Int),(k:Int),l,(l.length:Int),0)) (fun S'=>∃W' A' st',S'=(t,ns,os,W',A',st',rt)/\Rel ns os (fun i' a' nd'=>M i' a' nd'\/(i'=i/\a'=k+1/\nd'∈l)) W' A' st'):=by
 have hcn:=LL hF i
 refine GI (σ:=List (List Int)×List (List (List Int))×List Int) l.length (fun s m=>((t,ns,os,s.1,s.2.1,s.2.2,rt),(i:Int),(k:Int),l,(l.length:Int),m))
  (fun m s=>Rel ns os (fun i' a' nd'=>M i' a' nd'\/(i'=i/\a'=k+1/\nd'∈l.take m)) s.1 s.2.1 s.2.2) (by omega) (fun next s m hm hs hn=>?_) (fun next s hs=>?_) (W,A,st) ?_
 ·unfold mF;dsimp only;rw[FD,A7 hm,AB,FW (A0 hm),A1,FX (by omega),FX (by omega)];obtain⟨n1,n2⟩:=hnd _ (BF hm);have:=AN9 (t:=t) (rt:=rt) hF hs i (k+1) hi (by omega) (by omega) l[m] n1 n2;rw[show((k+1:Nat):Int)=(k:Int)+1 by omega]at this;refine E1.2 (this.mono fun S' hS=>?_);obtain⟨W',A',st',rfl,hR'⟩:=hS;refine hn (W',A',st') (hR'.congr fun i' a' nd'=>?_);rw[H4 (A0 hm),AP,AU];constructor
  ·rintro((h|⟨h1,h2,h3⟩)|⟨h1,h2,h3⟩)
   ·exact .inl h
   ·exact .inr ⟨h1,h2,.inl h3⟩
   ·exact .inr ⟨h1,h2,.inr h3⟩
  ·rintro(h|⟨h1,h2,h3|h3⟩)
   ·exact .inl (.inl h)
   ·exact .inl (.inr ⟨h1,h2,h3⟩)
   ·exact .inr ⟨h1,h2,h3⟩
 ·unfold mF;dsimp only;rw[FD,AC (AJ _),AE];rw[BL]at hs;exact E2.2 ⟨_,_,_,rfl,hs⟩
 ·exact hR.congr fun i' a' nd'=>⟨.inl,fun h=>h.elim id fun h=>by simp at h⟩
theorem ANB{M:Nat->Nat->FI->Prop}{W:List (List Int)}{A:List (List (List Int))}{st:List Int}{rt:Int}(hR:Rel ns os M W A st)(i:Nat)(hi:i<ns.length):
 Tot (mI ((t,ns,os,W,A,st,rt),(i:Int),os.getD i [],((os.getD i []).length:Int),0)) (fun S'=>∃W' A' st',S'=(t,ns,os,W',A',st',rt)/\Rel ns os (fun i' a' nd'=>M i' a' nd'\/(i'=i/\nd'∈I5 t ns os i a')) W' A' st'):=by
 have hcn:=LL hF i;have hcd:cnt os i=(os.getD i []).length:=rfl
 refine GI (σ:=List (List Int)×List (List (List Int))×List Int) (os.getD i []).length (fun s m=>((t,ns,os,s.1,s.2.1,s.2.2,rt),(i:Int),os.getD i [],((os.getD i []).length:Int),m))
  (fun m s=>Rel ns os (fun i' a' nd'=>M i' a' nd'\/(i'=i/\a'<=m/\nd'∈I5 t ns os i a')) s.1 s.2.1 s.2.2) (by omega) (fun next s k hk hs hn=>?_) (fun next s hs=>?_) (W,A,st) ?_
 ·unfold mH;dsimp only;have hv:(os.getD i [])[k]?=some (os.getD i [])[k]:=A0 hk;have hnm:ns[i]?=some ns[i]:=A0 hi;rw[FD,A7 hk,AB,FW hv,A1,FW hnm,A1,AMh _ _ ht.offers (fun o ho=>(ht.offer o ho).2.2.1),A1,FX (by omega)];have hnd:=A59 (t:=t) hv hnm;rw[<-hnd]
  have hlen:(I5 t ns os i (k+1)).length<=1048576:=by
   rw[hnd];unfold JC;split
   ·rename_i o ho;exact AY (CH _ _) (ht.offer o (DT ho)).2.2.1
   ·exact BQ _
  have:=ANA hF ht hN (rt:=rt) hs i k hi (by omega) (I5 t ns os i (k+1)) hlen (fun nd h=>hN i (k+1) nd h);refine E1.2 (this.mono fun S' hS=>?_);obtain⟨W',A',st',rfl,hR'⟩:=hS;refine hn (W',A',st') (hR'.congr fun i' a' nd'=>?_);constructor
  ·rintro((h|⟨h1,h2,h3⟩)|⟨h1,h2,h3⟩)
   ·exact .inl h
   ·exact .inr ⟨h1,by omega,h3⟩
   ·subst h2;exact .inr ⟨h1,by omega,h3⟩
  ·rintro(h|⟨h1,h2,h3⟩)
   ·exact .inl (.inl h)
   ·by_cases he:a'=k+1
    ·subst he;exact .inr ⟨h1,rfl,h3⟩
    ·exact .inl (.inr ⟨h1,by omega,h3⟩)
 ·unfold mH;dsimp only;rw[FD,AC (AJ _),AE];refine E2.2 ⟨_,_,_,rfl,hs.congr fun i' a' nd'=>?_⟩;constructor
  ·rintro(h|⟨h1,h2,h3⟩)
   ·exact .inl h
   ·exact .inr ⟨h1,h3⟩
  ·rintro(h|⟨h1,h3⟩)
   ·exact .inl h
   ·obtain⟨k,v,nm,rfl,h4,h5,h6⟩:=RS h3;have:=(AA.1 h4).1;exact .inr ⟨h1,by omega,h3⟩
 ·refine hR.congr fun i' a' nd'=>⟨.inl,fun h=>h.elim id fun h=>?_⟩;obtain⟨h1,h2,h3⟩:=h;obtain⟨k,v,nm,rfl,_⟩:=RS h3;omega
theorem ANC{W:List (List Int)}{A:List (List (List Int))}{st:List Int}{rt:Int}(hR:Rel ns os (fun _ _ _=>False) W A st):
 Tot (mK ((t,ns,os,W,A,st,rt),(ns.length:Int),0)) (fun S'=>∃W' A' st',S'=(t,ns,os,W',A',st',rt)/\Rel ns os (fun i' a' nd'=>nd'∈I5 t ns os i' a') W' A' st'):=by
 refine GI (σ:=List (List Int)×List (List (List Int))×List Int) ns.length (fun s m=>((t,ns,os,s.1,s.2.1,s.2.2,rt),(ns.length:Int),m))
  (fun m s=>Rel ns os (fun i' a' nd'=>i'<m/\nd'∈I5 t ns os i' a') s.1 s.2.1 s.2.2) (by have:=hF.few;omega) (fun next s i hi hs hn=>?_) (fun next s hs=>?_) (W,A,st) ?_
 ·unfold mJ;dsimp only;have hio:i<os.length:=by rw[hF.len];exact hi
  have ho:os[i]?=some (os.getD i []):=by
   rw[A2,A0 hio];rfl
  rw[FD,A7 hi,AB,FW ho,A1,FX (by have:=hF.few;omega)];refine E1.2 ((ANB hF ht hN (rt:=rt) hs i hi).mono fun S' hS=>?_);obtain⟨W',A',st',rfl,hR'⟩:=hS;refine hn (W',A',st') (hR'.congr fun i' a' nd'=>?_);constructor
  ·rintro(⟨h1,h2⟩|⟨rfl,h2⟩)
   ·exact⟨by omega,h2⟩
   ·exact⟨by omega,h2⟩
  ·rintro⟨h1,h2⟩;by_cases he:i'=i
   ·subst he;exact .inr ⟨rfl,h2⟩
   ·exact .inl ⟨by omega,h2⟩
 ·unfold mJ;dsimp only;rw[FD,AC (AJ _),AE];refine E2.2 ⟨_,_,_,rfl,hs.congr fun i' a' nd'=>⟨fun h=>h.2,fun h=>⟨?_,h⟩⟩⟩;obtain⟨k,v,nm,rfl,h4,h5,h6⟩:=RS h;exact(AA.1 h5).1
 ·exact hR.congr fun i' a' nd'=>⟨fun h=>h.elim,fun h=>by omega⟩
omit hN ht in
theorem AND:Rel ns os (fun _ _ _=>False) (os.map fun o=>List.replicate (o.length+1) 0) (os.map fun o=>List.replicate (o.length+1) (H9 os)) (os.map fun o=>KE (o.length+1)):=by
 have hlen:=hF.len;have hcd:∀i,cnt os i=(os.getD i []).length:=fun _=>rfl
 have hop:∀i,i<ns.length->os[i]?=some (os.getD i []):=fun i hi=>by
  rw[A2,A0 (by omega)];rfl
 have hW:∀i,(os.map fun o=>List.replicate (o.length+1) (0:Int)).getD i []=if i<ns.length then List.replicate (cnt os i+1) 0 else []:=by
  intro i;split
  ·rename_i hi;rw[A2,AL,hop i hi];rfl
  ·rw[NW (by rw[AO];omega)]
 have hA:∀i,(os.map fun o=>List.replicate (o.length+1) (H9 os)).getD i []=if i<ns.length then List.replicate (cnt os i+1) (H9 os)else []:=by
  intro i;split
  ·rename_i hi;rw[A2,AL,hop i hi];rfl
  ·rw[NW (by rw[AO];omega)]
 have hrow:∀j,(H9 os).getD j 0=if j<ns.length then KE (cnt os j+1)else 0:=by
  intro j;unfold H9;split
  ·rename_i hi;rw[A2,AL,hop j hi];rfl
  ·rw[NW (by rw[AO];omega)]
 have hfull:∀j,FV ((H9 os).getD j 0):=by
  intro j;rw[hrow];split
  ·exact(pQ (n:=cnt os j+1) (by have:=LL hF j;omega)).2
  ·exact NU
 have hwa:∀i a,wa (os.map fun o=>List.replicate (o.length+1) (0:Int)) i a=0:=by
  intro i a;unfold wa;rw[hW];split
  ·rcases C8 a (cnt os i+1)with h|h
   ·rw[A2,CL,if_pos h];rfl
   ·rw[NW (by rw[BC];exact h)]
  ·rfl
 have hal:∀i a j,al (os.map fun o=>List.replicate (o.length+1) (H9 os)) i a j=if i<ns.length/\a<cnt os i+1 then(H9 os).getD j 0 else 0:=by
  intro i a j;unfold al;rw[hA];by_cases hi:i<ns.length
  ·rw[if_pos hi];rcases C8 a (cnt os i+1)with h|h
   ·rw[if_pos ⟨hi,h⟩]
    congr 1
    rw[A2,CL,if_pos h];rfl
   ·rw[if_neg (by omega)];rw[NW (l:=List.replicate _ _) (by rw[BC];exact h)];rfl
  ·rw[if_neg hi,if_neg (by omega)];rfl
 have hst:∀i,(os.map fun o=>KE (o.length+1)).getD i 0=if i<ns.length then KE (cnt os i+1)else 0:=hrow
 refine ⟨⟨by rw [AO,hlen],fun i hi=>by rw [hW,if_pos hi,BC],fun i a=>by rw [hwa]; exact NU⟩,
  ⟨by rw[AO,hlen],fun i hi=>by rw[hA,if_pos hi,BC],fun i hi a ha=>?_,fun i a j=>?_⟩,
  ⟨by rw[AO,hlen],hfull⟩,fun i hi a=>?_,fun i hi a ha k=>?_,fun i hi a ha j hj b=>?_⟩
 ·rw[hA,if_pos hi,A2,CL,if_pos ha];show(H9 os).length=_;unfold H9;rw[AO,hlen]
 ·rw[hal];split
  ·exact hfull j
  ·exact NU
 ·rw[hst,if_pos hi];unfold KE;rw[A4u];simp only[AZ,false_implies,implies_true,and_true];omega
 ·rw[hwa,P1];simp
 ·rw[hal,if_pos ⟨hi,by omega⟩,hrow,if_pos hj];unfold KE;rw[A4u];simp only[AZ,false_implies,implies_true,and_true];omega
theorem ANE(rt:Int):Tot (bH (t,ns,os,([]:List (List Int)),([]:List (List (List Int))),os.map (fun o=>KE (o.length+1)),rt)) (fun S'=>∃W' A' st',S'=(t,ns,os,W',A',st',rt)/\Rel ns os (fun i' a' nd'=>nd'∈I5 t ns os i' a') W' A' st'):=by
 unfold bH;dsimp only;rw[AN4 t ns os hF.toFx,A1];exact E1.2 ((ANC hF ht hN (AND hF)).mono fun S' h=>E2.2 h)
end
end Go.Ev.Pv
namespace Go.Ev.Pv
structure Dm(n:Nat)(P:Nat->Nat->Prop)(R:Nat->Prop)(st:List Int)(rt:Int):Prop where
 shS:ShS n st
 in16:FV rt
 st:∀i<n,∀a,bt (st.getD i 0) a=true<->P i a
 rt:∀i,bt rt i=true<->R i
theorem Dm.congr{n:Nat}{P P':Nat→Nat→Prop}{R R':Nat→Prop}{st:List Int}{rt:Int}(h:Dm n P R st rt)(e:∀i<n,∀a,P i a↔P' i a)(e':∀i,R i↔R' i):Dm n P' R' st rt:=
 ⟨h.shS,h.in16,fun i hi a=>(h.st i hi a).trans (e i hi a),fun i=>(h.rt i).trans (e' i)⟩
theorem A5A{n:Nat}{P:Nat->Nat->Prop}{R:Nat->Prop}{st:List Int}{rt:Int}(h:Dm n P R st rt){j:Nat}(hj:j<n)(hj':j<=15){w:Int}(hw:FV w):
 Dm n (fun i a=>P i a/\(i=j->bt w a=true)) (fun i=>R i\/i=j) (st.set j (I6 IntKind.u16 (st.getD j 0) w)) (HB IntKind.u16 rt ((2 ^ j:Nat):Int)):=by
 obtain⟨g1,g2⟩:=RN (h.shS.in16 j) hw;obtain⟨k1,k2⟩:=dH h.shS hj g1;obtain⟨m1,m2⟩:=dC h.in16 (IP hj').2;refine⟨k1,m1,fun i hi a=>?_,fun i=>?_⟩
 ·rw[k2];split
  ·rename_i e;subst e;rw[g2,A5,h.st _ hi];exact⟨fun⟨x,y⟩=>⟨x,fun _=>y⟩,fun⟨x,y⟩=>⟨x,y rfl⟩⟩
  ·rename_i e;rw[h.st _ hi];exact⟨fun x=>⟨x,fun y=>absurd y e⟩,fun x=>x.1⟩
 ·rw[m2,KU,BJ,h.rt,AZ];exact⟨fun x=>x.imp id Eq.symm,fun x=>x.imp id Eq.symm⟩
def oF(o:List E0)(v:E0)(a:Nat):Bool:=match IQ (fun x=>decide (v=x)) o with
 | .ofNat k=>decide (a=k+1)
 | .negSucc _=>false
section
variable{t:FK}{ns:List E0}{os:List (List E0)}(hF:Fy ns os)(ht:TkB t)
include hF ht
theorem ANF{W:List (List Int)}{A:List (List (List Int))}{st:List Int}{rt:Int}{P:Nat->Nat->Prop}{R:Nat->Prop}(hD:Dm ns.length P R st rt)(l:List FI)(hl:l.length<=1048576)(hnd:∀nd∈l,KV nd):
 Tot (mM ((t,ns,os,W,A,st,rt),l,(l.length:Int),0)) (fun q=>match q with
  | .inl S'=>∃st' rt',S'=(t,ns,os,W,A,st',rt')/\(∀nd∈l,nd.1∈ns)/\Dm ns.length (fun i a=>P i a/\∀nd∈l,ns[i]?=some nd.1->IS (os.getD i []) nd.2.1 a=true) (fun i=>R i\/∃nd∈l,ns[i]?=some nd.1) st' rt'
  | .inr y=>y.2=false/\∃nd∈l,nd.1 ∉ ns):=by
 have hfew:=hF.few
 refine GI (σ:=List Int×Int) l.length (fun s m=>((t,ns,os,W,A,s.1,s.2),l,(l.length:Int),m))
  (fun m s=>(∀nd∈l.take m,nd.1∈ns)/\Dm ns.length (fun i a=>P i a/\∀nd∈l.take m,ns[i]?=some nd.1->IS (os.getD i []) nd.2.1 a=true) (fun i=>R i\/∃nd∈l.take m,ns[i]?=some nd.1) s.1 s.2)
  (by omega) (fun next s m hm hs hn=>?_) (fun next s hs=>?_) (st,rt) ⟨by simp,hD.congr (fun i _ a=>by simp) (fun i=>by simp)⟩
 ·obtain⟨hall,hs⟩:=hs;unfold mL MT;dsimp only;rw[FD,A7 hm,AB,FW (A0 hm),A1,A1,V2 _ _ (by dsimp only;omega),A1,A1,FX (by omega)];refine E3.2 ⟨fun hc=>?_,fun hc=>?_⟩
  ·exact E2.2 ⟨rfl,l[m],BF hm,(V4 _ _).1 (A6 hc)⟩
  ·have hyes:¬_:=AF hc;rcases N3 (fun x=>decide (l[m].1=x)) ns with⟨h1,_⟩|⟨j,x,h1,hjn,h3,_⟩
   ·rw[h1]at hyes;exact absurd (by decide) hyes
   rw[h1];have hx:l[m].1=x:=A6 h3;subst hx;have hj:=(AA.1 hjn).1
   have hjo:os[j]?=some (os.getD j []):=by
    rw[A2,A0 (by rw[hF.len];exact hj)];rfl
   have hmem:os.getD j []∈os:=B0 hjo;rw[B4,HI (by rw[hs.shS.len];exact hj),A1];refine E1.2 ((A57 _ j (os.getD j []) l[m].2.1 hjo (hF.small _ hmem) (hF.vers _ hmem) (hnd _ (BF hm)).2).mono fun w hw=>?_);rw[A1,(IP (i:=j) (by omega)).1,A1];have hstep:=A5A hs hj (by omega) hw.1;refine hn (_,_) ⟨fun nd h=>?_,hstep.congr (fun i hi a=>?_) (fun i=>?_)⟩
   ·rw[H4 (A0 hm),AP,AU]at h;rcases h with h|rfl
    ·exact hall _ h
    ·exact B0 hjn
   ·rw[H4 (A0 hm)];constructor
    ·rintro⟨⟨h1,h2⟩,h3⟩;refine⟨h1,fun nd h he=>?_⟩;rw[AP,AU]at h;rcases h with h|rfl
     ·exact h2 _ h he
     ·have:=M3 hF.nodup he hjn;subst this;rw[<-hw.2];exact h3 rfl
    ·rintro⟨h1,h2⟩;refine⟨⟨h1,fun nd h he=>h2 _ (AQ _ h) he⟩,fun h=>?_⟩;subst h;rw[hw.2];exact h2 _ (AW _ (AU.2 rfl)) hjn
   ·rw[H4 (A0 hm)];constructor
    ·rintro((h|⟨nd,h,he⟩)|rfl)
     ·exact .inl h
     ·exact .inr ⟨nd,AQ _ h,he⟩
     ·exact .inr ⟨l[m],AW _ (AU.2 rfl),hjn⟩
    ·rintro(h|⟨nd,h,he⟩)
     ·exact .inl (.inl h)
     ·rw[AP,AU]at h;rcases h with h|rfl
      ·exact .inl (.inr ⟨nd,h,he⟩)
      ·exact .inr (M3 hF.nodup he hjn)
 ·unfold mL;dsimp only;rw[FD,AC (AJ _),AE];rw[BL]at hs;exact E2.2 ⟨_,_,rfl,hs⟩
theorem ANG(o:List E0)(v:E0)(ho:o.length<=8):Tot (bI ((0:Int),IQ (fun x=>decide (v=x)) o,decide ((0:Int)<=IQ (fun x=>decide (v=x)) o))) (fun w=>FV w/\∀a,bt w a=oF o v a):=by
 unfold bI oF;dsimp only;rcases N3 (fun x=>decide (v=x)) o with⟨h1,_⟩|⟨j,x,h1,hjn,h3,_⟩
 ·rw[h1];exact E2.2 ⟨NU,fun a=>P1 a⟩
 ·have hj:=(AA.1 hjn).1;rw[h1,A7 (by omega),AB,FX (by omega)];have:=IP (i:=j+1) (by omega);rw[show((j:Int)+1)=((j+1:Nat):Int) by omega,this.1,A1];refine E2.2 ⟨this.2,fun a=>?_⟩;rw[KU];show _=decide (a=j+1);by_cases h:a=j+1
  ·subst h;simp
  ·rw[AC h,AC (fun e=>h e.symm)]
theorem ANH{W:List (List Int)}{A:List (List (List Int))}{st:List Int}{rt:Int}{P:Nat->Nat->Prop}{R:Nat->Prop}(hD:Dm ns.length P R st rt)(l:List E0)(hl:l.length<=1048576):
 Tot (mO ((t,ns,os,W,A,st,rt),l,(l.length:Int),0)) (fun q=>match q with
  | .inl S'=>∃st' rt',S'=(t,ns,os,W,A,st',rt')/\(∀fz∈l,fz∈ns)/\Dm ns.length (fun i a=>P i a/\∀fz∈l,ns[i]?=some fz->oF (os.getD i []) (FP t.2.2.2.1 fz).1 a=true) (fun i=>R i\/∃fz∈l,ns[i]?=some fz) st' rt'
  | .inr y=>y.2=false/\∃fz∈l,fz ∉ ns):=by
 have hfew:=hF.few
 refine GI (σ:=List Int×Int) l.length (fun s m=>((t,ns,os,W,A,s.1,s.2),l,(l.length:Int),m))
  (fun m s=>(∀fz∈l.take m,fz∈ns)/\Dm ns.length (fun i a=>P i a/\∀fz∈l.take m,ns[i]?=some fz->oF (os.getD i []) (FP t.2.2.2.1 fz).1 a=true) (fun i=>R i\/∃fz∈l.take m,ns[i]?=some fz) s.1 s.2)
  (by omega) (fun next s m hm hs hn=>?_) (fun next s hs=>?_) (st,rt) ⟨by simp,hD.congr (fun i _ a=>by simp) (fun i=>by simp)⟩
 ·obtain⟨hall,hs⟩:=hs;unfold mN MT;dsimp only;rw[FD,A7 hm,AB,FW (A0 hm),A1,A1,V2 _ _ (by dsimp only;omega),A1,A1,FX (by omega)];refine E3.2 ⟨fun hc=>?_,fun hc=>?_⟩
  ·exact E2.2 ⟨rfl,l[m],BF hm,(V4 _ _).1 (A6 hc)⟩
  ·have hyes:¬_:=AF hc;rcases N3 (fun x=>decide (l[m]=x)) ns with⟨h1,_⟩|⟨j,x,h1,hjn,h3,_⟩
   ·rw[h1]at hyes;exact absurd (by decide) hyes
   rw[h1];have hx:l[m]=x:=A6 h3;subst hx;have hj:=(AA.1 hjn).1
   have hjo:os[j]?=some (os.getD j []):=by
    rw[A2,A0 (by rw[hF.len];exact hj)];rfl
   have hmem:os.getD j []∈os:=B0 hjo;have hsm:=hF.small _ hmem;rw[pT _ _ (by have:=ht.old;omega),A1,FW hjo,A1,V2 _ _ (by omega),A1];refine E1.2 ((ANG hF ht (os.getD j []) (FP t.2.2.2.1 l[m]).1 hsm).mono fun w hw=>?_);rw[B4,HI (by rw[hs.shS.len];exact hj),A1,A1,(IP (i:=j) (by omega)).1,A1];have hstep:=A5A hs hj (by omega) hw.1;refine hn (_,_) ⟨fun fz h=>?_,hstep.congr (fun i hi a=>?_) (fun i=>?_)⟩
   ·rw[H4 (A0 hm),AP,AU]at h;rcases h with h|rfl
    ·exact hall _ h
    ·exact B0 hjn
   ·rw[H4 (A0 hm)];constructor
    ·rintro⟨⟨h1,h2⟩,h3⟩;refine⟨h1,fun fz h he=>?_⟩;rw[AP,AU]at h;rcases h with h|rfl
     ·exact h2 _ h he
     ·have:=M3 hF.nodup he hjn;subst this;rw[<-hw.2];exact h3 rfl
    ·rintro⟨h1,h2⟩;refine⟨⟨h1,fun fz h he=>h2 _ (AQ _ h) he⟩,fun h=>?_⟩;subst h;rw[hw.2];exact h2 _ (AW _ (AU.2 rfl)) hjn
   ·rw[H4 (A0 hm)];constructor
    ·rintro((h|⟨fz,h,he⟩)|rfl)
     ·exact .inl h
     ·exact .inr ⟨fz,AQ _ h,he⟩
     ·exact .inr ⟨l[m],AW _ (AU.2 rfl),hjn⟩
    ·rintro(h|⟨fz,h,he⟩)
     ·exact .inl (.inl h)
     ·rw[AP,AU]at h;rcases h with h|rfl
      ·exact .inl (.inr ⟨fz,h,he⟩)
      ·exact .inr (M3 hF.nodup he hjn)
 ·unfold mN;dsimp only;rw[FD,AC (AJ _),AE];rw[BL]at hs;exact E2.2 ⟨_,_,rfl,hs⟩
end
structure Good(t:FK)(ns:List E0)(os:List (List E0))(W:List (List Int))(A:List (List (List Int)))(st:List Int)(rt:Int):Prop where
 shW:ShW ns.length os W
 shA:ShA ns.length os A
 shS:ShS ns.length st
 in16:FV rt
 st:∀i<ns.length,∀a,bt (st.getD i 0) a=true<->a<=cnt os i/\(∀nd∈I5 t ns os i a,nd.1∈ns)/\(∀nd∈GU t.2.2.1 t.2.1,ns[i]?=some nd.1->IS (os.getD i []) nd.2.1 a=true)/\
  (∀fz∈t.2.2.2.2.1,ns[i]?=some fz->oF (os.getD i []) (FP t.2.2.2.1 fz).1 a=true)
 wa:∀i<ns.length,∀a≤cnt os i,∀k,bt (wa W i a) k=true<->∃nd∈I5 t ns os i a,ns[k]?=some nd.1
 al:∀i<ns.length,∀a≤cnt os i,∀j<ns.length,∀b,bt (al A i a j) b=true<->b<=cnt os j/\(∀nd∈I5 t ns os i a,ns[j]?=some nd.1->IS (os.getD j []) nd.2.1 b=true)/\
  (∀nd∈I5 t ns os j b,ns[i]?=some nd.1->IS (os.getD i []) nd.2.1 a=true)
 rt:∀i,bt rt i=true<->(∃nd∈GU t.2.2.1 t.2.1,ns[i]?=some nd.1)\/∃fz∈t.2.2.2.2.1,ns[i]?=some fz
def dI(t:FK)(ns:List E0):Prop:=(∀nd∈GU t.2.2.1 t.2.1,nd.1∈ns)/\∀fz∈t.2.2.2.2.1,fz∈ns
noncomputable def GD(t:FK):List (List E0):=(F9 t.1).map (IE t)
theorem ANI(t:FK)(ht:TkB t)(hF:Fy (F9 t.1) (GD t))(hN:∀i a nd,nd∈I5 t (F9 t.1) (GD t) i a->KV nd/\(F9 t.1)[i]?≠some nd.1):
 Tot (bJ t) (fun q=>(q.2=false/\¬dI t (F9 t.1))\/(q.2=true/\dI t (F9 t.1)/\∃W A st rt,q.1=some (t,F9 t.1,GD t,W,A,st,rt)/\Good t (F9 t.1) (GD t) W A st rt)):=by
 have hlen:(F9 t.1).length<=12:=hF.few;unfold bJ;rw[AMq t t.1 ht.offers,A1];dsimp only;rw[AMr t ht (F9 t.1) (by omega) (fun s hs=>?_),A1]
 ·dsimp only
  have hmap:(F9 t.1).map (fun s=>KE ((IE t s).length+1))=(GD t).map (fun o=>KE (o.length+1)):=by
   unfold GD;rw[List.map_map];rfl
  rw[hmap];refine E1.2 ((ANE hF ht hN 0).mono fun S' hS=>?_);obtain⟨W,A,st,rfl,hR⟩:=hS;refine E1.2 ?_;unfold mP;dsimp only;rw[pU _ _ ht.needs,A1];have hD:Dm (F9 t.1).length (fun i a=>a<=cnt (GD t) i/\∀nd,nd∈I5 t (F9 t.1) (GD t) i a->nd.1∈F9 t.1) (fun _=>False) st 0:=⟨hR.shS,NU,hR.st,fun i=>by simp[P1]⟩;refine E1.2 ((ANF hF ht hD (GU t.2.2.1 t.2.1) (AY (CH _ _) ht.needs) (fun nd h=>ht.need nd (C0.1 h).1)).mono fun q hq=>?_);rcases q with S'|y
  ·obtain⟨st',rt',rfl,hall,hD'⟩:=hq;dsimp only;refine E1.2 ((ANH hF ht hD' t.2.2.2.2.1 ht.frozen).mono fun q hq=>?_);rcases q with S'|y
   ·obtain⟨st2,rt2,rfl,hall2,hD2⟩:=hq;refine E2.2 (E2.2 (.inr ⟨rfl,⟨hall,hall2⟩,W,A,st2,rt2,rfl,⟨hR.shW,hR.shA,hD2.shS,hD2.in16,fun i hi a=>?_,hR.wa,hR.al,fun i=>?_⟩⟩))
    ·rw[hD2.st i hi];exact⟨fun⟨⟨⟨x,y⟩,z⟩,u⟩=>⟨x,y,z,u⟩,fun⟨x,y,z,u⟩=>⟨⟨⟨x,y⟩,z⟩,u⟩⟩
    ·rw[hD2.rt];simp
   ·obtain⟨h1,fz,h2,h3⟩:=hq;exact E2.2 (E2.2 (.inl ⟨h1,fun h=>h3 (h.2 fz h2)⟩))
  ·obtain⟨h1,nd,h2,h3⟩:=hq;exact E2.2 (E2.2 (.inl ⟨h1,fun h=>h3 (h.1 nd h2)⟩))
 ·obtain⟨o,ho,rfl⟩:=(RP _ _).1 hs;exact⟨(ht.offer o ho).1,hF.small _ (List.mem_map_of_mem hs)⟩
end Go.Ev.Pv
namespace Go.Ev.Pv
inductive Reach (n:Nat) (os:List (List E0)) (W:List (List Int)) (rt:Int) (h:Nat->Nat->Prop):Nat->Prop
 |root {i:Nat}:bt rt i=true->Reach n os W rt h i
 |step {i a j:Nat}:Reach n os W rt h i->i<n->a<=cnt os i->h i a->bt (wa W i a) j=true->Reach n os W rt h j
theorem Reach.mono{n:Nat}{os:List (List E0)}{W:List (List Int)}{rt:Int}{h h':Nat->Nat->Prop}(hh:∀i<n,∀a,h i a->h' i a){j:Nat}(r:Reach n os W rt h j):Reach n os W rt h' j:=by
 induction r with
 |root h1=>exact .root h1
 |step _ h1 h2 h3 h4 ih=>exact .step ih h1 h2 (hh _ h1 _ h3) h4
theorem ANJ{a b:Int}(ha:FV a)(hb:FV b):a<=HB IntKind.u16 a b:=by
 have e:HB IntKind.u16 a b=((a.toNat|||b.toNat:Nat):Int):=by
  unfold HB;rw[show IntKind.u16.bits=16 from rfl,BitVec.toNat_or,N2 ha,N2 hb];exact RM (Nat.or_lt_two_pow (n:=16) (by have:=ha.2;omega) (by have:=hb.2;omega))
 rw[e];have:=Nat.left_le_or (n:=a.toNat) (m:=b.toNat);have:=ha.1;omega
section
variable{t:FK}{ns:List E0}{os:List (List E0)}{W:List (List Int)}{A:List (List (List Int))}{st:List Int}{rt:Int}(hF:Fy ns os)(hG:Good t ns os W A st rt)
include hF hG
structure Pass(P:Prop)(R:Nat->Prop)(o:Int)(g:Bool)(o':Int)(g':Bool):Prop where
 in16:FV o'
 le:o<=o'
 sub:∀k,bt o k=true->bt o' k=true
 snd:(∀k,bt o k=true->R k)->∀k,bt o' k=true->R k
 up:g'=true->g=true\/o<o'
 cl:g'=false->g=false/\o'=o/\P
omit hF hG in
theorem Pass.next{P P':Prop}{R:Nat->Prop}{o o1 o2:Int}{g g1 g2:Bool}(h1:Pass P R o g o1 g1)(h2:Pass P' R o1 g1 o2 g2):Pass (P/\(o1=o->P')) R o g o2 g2:=
 ⟨h2.in16,Int.le_trans h1.le h2.le,fun k h=>h2.sub k (h1.sub k h),fun h=>h2.snd (h1.snd h),
  fun h=>(h2.up h).elim (fun h=>(h1.up h).imp id fun h=>Int.lt_of_lt_of_le h h2.le) fun h=>.inr (Int.lt_of_le_of_lt h1.le h),
  fun h=>by
   obtain⟨a1,a2,a3⟩:=h2.cl h;obtain⟨b1,b2,b3⟩:=h1.cl a1;exact⟨b1,a2.trans b2,b3,fun _=>a3⟩⟩
theorem ANK(left:List Int)(hl:ShS ns.length left)(R:Nat->Prop)(i:Nat)(hi:i<ns.length)(o:Int)(ho:FV o)(g:Bool)
 (hR:∀a≤cnt os i,bt (left.getD i 0) a=true->∀k,bt (wa W i a) k=true->R k):
 Tot (mX (some (t,ns,os,W,A,st,rt),left,o,g,(i:Int),(((W.getD i []).length:Nat):Int),0)) (fun q=>Pass (∀a≤cnt os i,bt (left.getD i 0) a=true->∀k,bt (wa W i a) k=true->bt o k=true) R o g q.1 q.2):=by
 have hcn:=LL hF i;have hrow:=hG.shW.row i hi
 refine GI (σ:=Int×Bool) (W.getD i []).length (fun s a=>(some (t,ns,os,W,A,st,rt),left,s.1,s.2,(i:Int),(((W.getD i []).length:Nat):Int),a))
  (fun m s=>Pass (∀a,a<m->bt (left.getD i 0) a=true->∀k,bt (wa W i a) k=true->bt o k=true) R o g s.1 s.2) (by omega) (fun next s a ha hs hn=>?_) (fun next s hs=>?_) (o,g)
  ⟨ho,B6 _,fun _ h=>h,fun h=>h,.inl,fun h=>⟨h,rfl,fun a ha=>by omega⟩⟩
 ·unfold mW;dsimp only;have hlv:left[i]?=some (left.getD i 0):=by rw[A2,A0 (by rw[hl.len];exact hi)];rfl
  have hWi:W[i]?=some (W.getD i []):=by rw[A2,A0 (by rw[hG.shW.len];exact hi)];rfl
  have hWa:(W.getD i [])[a]?=some (wa W i a):=by unfold wa;rw[A2 (l:=W.getD i []),A0 ha];rfl
  rw[FD,A7 ha,AB,FW hlv,A1,P2 (hl.in16 i),A1,FX (by omega)];have hor:=dC hs.in16 (hG.shW.in16 i a);cases hb:bt (left.getD i 0) a with
  |false=>
   simp only[AE,A1,CJ];refine hn s ⟨hs.in16,hs.le,hs.sub,hs.snd,hs.up,fun h=>?_⟩;obtain⟨h1,h2,h3⟩:=hs.cl h;refine⟨h1,h2,fun a' ha' hb' k hk=>?_⟩;by_cases he:a'=a
   ·subst he;rw[hb]at hb';cases hb'
   ·exact h3 a' (by omega) hb' k hk
  |true=>
   simp only[AB,A1,CA];rw[FW hWi,A1,FW hWa,A1];refine E3.2 ⟨fun hc=>?_,fun hc=>?_⟩
   ·rw[A1,FW hWa,A1]
    have hne:HB IntKind.u16 s.1 (wa W i a)≠s.1:=by
     rw[E4]at hc;have:decide (HB IntKind.u16 s.1 (wa W i a)=s.1)=false:=by simpa using hc
     exact AF this
    have hle:=ANJ hs.in16 (hG.shW.in16 i a);refine hn (HB IntKind.u16 s.1 (wa W i a),true) ⟨hor.1,Int.le_trans hs.le hle,fun k h=>(hor.2 k).trans (by rw[hs.sub k h];rfl),fun h k hk=>?_,fun _=>.inr (Int.lt_of_le_of_lt hs.le (Int.lt_iff_le_and_ne.2 ⟨hle,Ne.symm hne⟩)),fun h=>(by cases h)⟩;have hk:=(hor.2 k).symm.trans hk;rw[BJ]at hk;rcases hk with hk|hk
    ·exact hs.snd h k hk
    ·exact hR a (by omega) hb k hk
   ·have he:HB IntKind.u16 s.1 (wa W i a)=s.1:=by
     rw[E4]at hc;have:decide (HB IntKind.u16 s.1 (wa W i a)=s.1)=true:=by simpa using hc
     exact A6 this
    refine hn s ⟨hs.in16,hs.le,hs.sub,hs.snd,hs.up,fun h=>?_⟩;obtain⟨h1,h2,h3⟩:=hs.cl h;refine⟨h1,h2,fun a' ha' hb' k hk=>?_⟩;by_cases hae:a'=a
    ·subst hae;have:=hor.2 k;rw[he,hk,Bool.or_true]at this;rw[<-h2];exact this
    ·exact h3 a' (by omega) hb' k hk
 ·unfold mW;dsimp only;rw[FD,AC (AJ _),AE];refine E2.2 ⟨hs.in16,hs.le,hs.sub,hs.snd,hs.up,fun h=>?_⟩;obtain⟨h1,h2,h3⟩:=hs.cl h;exact⟨h1,h2,fun a ha=>h3 a (by omega)⟩
theorem ANL(left:List Int)(hl:ShS ns.length left)(R:Nat->Prop)(o:Int)(ho:FV o)(hRo:∀k,bt o k=true->R k)
 (hR:∀i<ns.length,R i->∀a≤cnt os i,bt (left.getD i 0) a=true->∀k,bt (wa W i a) k=true->R k):
 Tot (mZ (some (t,ns,os,W,A,st,rt),left,o,false,(ns.length:Int),0)) (fun q=>Pass (∀i<ns.length,bt o i=true->∀a≤cnt os i,bt (left.getD i 0) a=true->∀k,bt (wa W i a) k=true->bt o k=true) R o false q.1 q.2):=by
 have hfew:=hF.few
 refine GI (σ:=Int×Bool) ns.length (fun s i=>(some (t,ns,os,W,A,st,rt),left,s.1,s.2,(ns.length:Int),i))
  (fun m s=>Pass (∀i,i<m->bt o i=true->∀a≤cnt os i,bt (left.getD i 0) a=true->∀k,bt (wa W i a) k=true->bt o k=true) R o false s.1 s.2) (by omega) (fun next s i hi hs hn=>?_) (fun next s hs=>?_) (o,false)
  ⟨ho,B6 _,fun _ h=>h,fun h=>h,.inl,fun h=>⟨h,rfl,fun a ha=>by omega⟩⟩
 ·unfold mY;dsimp only;have hWi:W[i]?=some (W.getD i []):=by rw[A2,A0 (by rw[hG.shW.len];exact hi)];rfl
  rw[FD,A7 hi,AB,P2 hs.in16,A1,FX (by omega)];refine E3.2 ⟨fun hc=>?_,fun hc=>?_⟩
  ·have hc:bt s.1 i=false:=by simpa using hc
   refine hn s ⟨hs.in16,hs.le,hs.sub,hs.snd,hs.up,fun h=>?_⟩;obtain⟨h1,h2,h3⟩:=hs.cl h;refine⟨h1,h2,fun i' hi' hb'=>?_⟩;by_cases he:i'=i
   ·subst he;rw[h2,hb']at hc;cases hc
   ·exact h3 i' (by omega) hb'
  ·have hc:bt s.1 i=true:=by simpa using hc
   rw[A1,FW hWi,A1];refine E1.2 ((ANK hF hG left hl R i hi s.1 hs.in16 s.2 (hR i hi (hs.snd hRo i hc))).mono fun q hq=>?_);have hp:=hs.next hq;refine hn q ⟨hp.in16,hp.le,hp.sub,hp.snd,hp.up,fun h=>?_⟩;obtain⟨h1,h2,h3,h4⟩:=hp.cl h;obtain⟨_,h5,_⟩:=hs.cl (hq.cl h).1;refine⟨h1,h2,fun i' hi' hb'=>?_⟩;by_cases he:i'=i
   ·subst he;have:=h4 h5;rw[h5]at this;exact this
   ·exact h3 i' (by omega) hb'
 ·unfold mY;dsimp only;rw[FD,AC (AJ _),AE];exact E2.2 hs
theorem ANM(left:List Int)(hl:ShS ns.length left):
 Tot (bK (some (t,ns,os,W,A,st,rt),left)) (fun q=>FV q/\∀k,bt q k=true<->Reach ns.length os W rt (fun i a=>bt (left.getD i 0) a=true) k):=by
 unfold bK;dsimp only;rw[A1];refine E1.2 (Tot.mono (P:=fun q=>FV q/\∀k,bt q k=true<->Reach ns.length os W rt (fun i a=>bt (left.getD i 0) a=true) k) ?_ fun q hq=>E2.2 hq)
 refine F4 (R:=fun q=>FV q/\∀k,bt q k=true<->Reach ns.length os W rt (fun i a=>bt (left.getD i 0) a=true) k)
  (fun y:(Option V1)×List Int×Int×Bool=>y.1=some (t,ns,os,W,A,st,rt)/\y.2.1=left/\FV y.2.2.1/\(∀ k,bt rt k=true->bt y.2.2.1 k=true)/\(∀ k,bt y.2.2.1 k=true->Reach ns.length os W rt (fun i a=>bt (left.getD i 0) a=true) k) /\
   (y.2.2.2=false->∀i<ns.length,bt y.2.2.1 i=true->∀a≤cnt os i,bt (left.getD i 0) a=true->∀k,bt (wa W i a) k=true->bt y.2.2.1 k=true))
  (fun y=>2*(65536-y.2.2.1.toNat)+if y.2.2.2 then 1 else 0) ?_ _ _ ⟨rfl,rfl,hG.in16,fun _ h=>h,fun k h=>.root h,fun h=>by cases h⟩ (by unfold fuel;dsimp only;split<;>omega)
 rintro next ⟨s,l,o,g⟩ hI hn
 dsimp only at hI hn;obtain⟨rfl,rfl,ho,h1,h2,h3⟩:=hI;unfold yE;dsimp only;refine E3.2 ⟨fun hc=>?_,fun hc=>?_⟩
 ·subst hc;rw[A1];dsimp only;refine E1.2 ((ANL hF hG l hl _ o ho h2 (fun i hi hr a ha hb k hk=>.step hr hi ha hb hk)).mono fun q hq=>?_);refine hn (_,l,q.1,q.2) ⟨rfl,rfl,hq.in16,fun k h=>hq.sub k (h1 k h),hq.snd h2,fun h=>?_⟩ ?_
  ·obtain⟨_,e,h4⟩:=hq.cl h;dsimp only;rw[e];exact h4
  ·dsimp only;have hle:=hq.le;have:=hq.in16;have h0:=ho.1;have hi2:=this.2;cases hg:q.2 with
   |false=>
    simp only[if_true,CK,CF];omega
   |true=>
    have:=(hq.up hg).elim (fun h=>by cases h) id;simp only[if_true];omega
 ·refine E2.2 ⟨ho,fun k=>⟨h2 k,fun hr=>?_⟩⟩;induction hr with
  |root h=>exact h1 _ h
  |step _ a1 a2 a3 a4 ih=>exact h3 hc _ a1 ih _ a2 a3 _ a4
def PN(ns:List E0)(os:List (List E0))(W:List (List Int))(rt:Int)(h:Nat->Nat->Prop):Prop:=∀i<ns.length,h i 0\/Reach ns.length os W rt h i
theorem A5B(left:List Int)(hl:ShS ns.length left):
 Tot (UJ (some (t,ns,os,W,A,st,rt),left)) (fun q=>q=true<->PN ns os W rt (fun i a=>bt (left.getD i 0) a=true)):=by
 have hfew:=hF.few;unfold UJ;dsimp only;refine E1.2 ((ANM hF hG left hl).mono fun w hw=>?_);have hw0:=hw.1;have hlen:=hl.len
 have key:Tot (nA (w,left,(left.length:Int),0)) (fun q=>match q with
  | .inl _=>PN ns os W rt (fun i a=>bt (left.getD i 0) a=true)
  | .inr b=>b=false/\¬PN ns os W rt (fun i a=>bt (left.getD i 0) a=true)):=by
  refine GI (σ:=Unit) left.length (fun s i=>(w,left,(left.length:Int),i)) (fun m _=>∀i,i<m->bt (left.getD i 0) 0=true\/Reach ns.length os W rt (fun i a=>bt (left.getD i 0) a=true) i) (by omega) (fun next s i hi hs hn=>?_) (fun next s hs=>?_) () (fun i h=>by omega)
  ·unfold m_;dsimp only;have hlv:left[i]?=some (left.getD i 0):=by rw[A2,A0 hi];rfl
   have h0:=P2 (hl.in16 i) 0;rw[show((0:Nat):Int)=0 from rfl]at h0;rw[FD,A7 hi,AB,FW hlv,A1,h0,A1,FX (by omega)];cases hb:bt (left.getD i 0) 0 with
   |true=>
    simp only[BV,AE,A1,CJ];refine hn () fun i' hi'=>?_;by_cases he:i'=i
    ·subst he;exact .inl hb
    ·exact hs i' (by omega)
   |false=>
    simp only[D9,AB,CA];rw[P2 hw0,A1];refine E3.2 ⟨fun hc=>?_,fun hc=>?_⟩
    ·refine E2.2 ⟨rfl,fun h=>?_⟩;rcases h i (by omega)with h|h
     ·rw[hb]at h;cases h
     ·have:=(hw.2 i).2 h;rw[this]at hc;cases hc
    ·have hc:bt w i=true:=by simpa using hc
     refine hn () fun i' hi'=>?_;by_cases he:i'=i
     ·subst he;exact .inr ((hw.2 _).1 hc)
     ·exact hs i' (by omega)
  ·unfold m_;dsimp only;rw[FD,AC (AJ _),AE];exact E2.2 fun i hi=>hs i (by omega)
 refine E1.2 (key.mono fun q hq=>?_);rcases q with y|y
 ·exact E2.2 ⟨fun _=>hq,fun _=>rfl⟩
 ·obtain⟨h1,h2⟩:=hq;subst h1;exact E2.2 ⟨fun h=>(by cases h),fun h=>absurd h h2⟩
end
end Go.Ev.Pv
namespace Go.Ev.Pv
section
variable{t:FK}{ns:List E0}{os:List (List E0)}{W:List (List Int)}{A:List (List (List Int))}{st:List Int}{rt:Int}(hF:Fy ns os)(hG:Good t ns os W A st rt)
include hF hG
structure Tk(n:Nat)(A:List (List (List Int)))(left:List Int)(i a:Nat)(m:Nat)(o:List Int):Prop where
 sh:ShS n o
 bit:∀j<n,∀b,bt (o.getD j 0) b=true<->(if j=i then b=a else bt (left.getD j 0) b=true/\(j<m->bt (al A i a j) b=true))
theorem ANN(left:List Int)(hl:ShS ns.length left)(i a:Nat)(hi:i<ns.length)(ha:a<=cnt os i):
 Tot (bL (some (t,ns,os,W,A,st,rt),left,(i:Int),(a:Int))) (fun q =>
  (q.2=true->Tk ns.length A left i a ns.length q.1/\(∀j<ns.length,∃b,bt (q.1.getD j 0) b=true)/\PN ns os W rt (fun j b=>bt (q.1.getD j 0) b=true))/\
  (q.2=false->∀o,Tk ns.length A left i a ns.length o->¬((∀j<ns.length,∃b,bt (o.getD j 0) b=true)/\PN ns os W rt (fun j b=>bt (o.getD j 0) b=true)))):=by
 have hfew:=hF.few;have hcn:=LL hF i;have hlen:=hl.len;unfold bL mV mU;dsimp only;refine E1.2 (E1.2 (GH.2 ⟨by simp only[AV];omega,?_⟩));rw[DR];refine E2.2 ?_;have hone:=IP (i:=a) (by omega);rw[hone.1,A1,HI (by omega),A1,B4];obtain⟨k1,k2⟩:=dH hl hi hone.2;have hlen2:(left.set i ((2 ^ a:Nat):Int)).length=ns.length:=k1.len;rw[hlen2]
 have key:Tot (nC (some (t,ns,os,W,A,st,rt),(i:Int),(a:Int),left.set i ((2 ^ a:Nat):Int),(ns.length:Int),0)) (fun q=>match q with
  | .inl o=>Tk ns.length A left i a ns.length o/\∀j<ns.length,∃b,bt (o.getD j 0) b=true\/(j=i)
  | .inr y=>y.2=false/\∀o,Tk ns.length A left i a ns.length o->¬(∀j<ns.length,∃b,bt (o.getD j 0) b=true)):=by
  refine GI (σ:=List Int) ns.length (fun s j=>(some (t,ns,os,W,A,st,rt),(i:Int),(a:Int),s,(ns.length:Int),j)) (fun m s=>Tk ns.length A left i a m s/\∀j,j<m->∃b,bt (s.getD j 0) b=true\/(j=i)) (by omega) (fun next s j hj hs hn=>?_) (fun next s hs=>?_) _ ⟨⟨k1,fun j hj b=>?_⟩,fun j h=>by omega⟩
  ·obtain⟨hs,hnz⟩:=hs;unfold nB;dsimp only;rw[FD,A7 hj,AB,FX (by omega)];refine E3.2 ⟨fun hc=>?_,fun hc=>?_⟩
   ·have hji:j=i:=by rw[E4]at hc;have:=A6 hc;omega
    refine hn s ⟨⟨hs.sh,fun j' hj' b=>?_⟩,fun j' hj'=>?_⟩
    ·rw[hs.bit j' hj' b];split
     ·rfl
     ·rename_i h;exact⟨fun⟨x,y⟩=>⟨x,fun z=>y (by omega)⟩,fun⟨x,y⟩=>⟨x,fun z=>y (by omega)⟩⟩
    ·by_cases h:j'=j
     ·exact⟨0,.inr (h.trans hji)⟩
     ·exact hnz j' (by omega)
   ·have hji:j≠i:=by rw[E4]at hc;have:=AF hc;omega
    have hsl:=hs.sh.len;have hAi:A[i]?=some (A.getD i []):=by rw[A2,A0 (by rw[hG.shA.len];exact hi)];rfl
    have hAr:=hG.shA.row i hi;have hAa:(A.getD i [])[a]?=some ((A.getD i []).getD a []):=by rw[A2 (l:=A.getD i []),A0 (by omega)];rfl
    have hAc:=hG.shA.cell i hi a (by omega);have hAj:((A.getD i []).getD a [])[j]?=some (al A i a j):=by unfold al;rw[A2 (l:=(A.getD i []).getD a []),A0 (by omega)];rfl
    rw[HI (by omega),A1,A1];dsimp only;rw[FW hAi,A1,FW hAa,A1,FW hAj,A1,A1,B4,HI (by rw[AD];omega),A1];obtain⟨g1,g2⟩:=RN (hs.sh.in16 j) (hG.shA.in16 i a j);obtain⟨m1,m2⟩:=dH hs.sh hj g1
    have hT:Tk ns.length A left i a (j+1) (s.set j (I6 IntKind.u16 (s.getD j 0) (al A i a j))):=by
     refine⟨m1,fun j' hj' b=>?_⟩;rw[m2];by_cases h:j'=j
     ·subst h;rw[if_pos rfl,g2,A5,hs.bit _ hj',if_neg hji,if_neg hji];exact⟨fun⟨⟨x,y⟩,z⟩=>⟨x,fun _=>z⟩,fun⟨x,y⟩=>⟨⟨x,fun h=>absurd h (AJ _)⟩,y (by omega)⟩⟩
     ·rw[if_neg h,hs.bit j' hj' b];split
      ·rfl
      ·exact⟨fun⟨x,y⟩=>⟨x,fun z=>y (by omega)⟩,fun⟨x,y⟩=>⟨x,fun z=>y (by omega)⟩⟩
    have hgd:(s.set j (I6 IntKind.u16 (s.getD j 0) (al A i a j))).getD j 0=I6 IntKind.u16 (s.getD j 0) (al A i a j):=by rw[m2,if_pos rfl]
    rw[hgd];refine E3.2 ⟨fun hz=>?_,fun hz=>?_⟩
    ·refine E2.2 ⟨rfl,fun o ho hall=>?_⟩;obtain⟨b,hb⟩:=hall j hj;rw[ho.bit j hj,if_neg hji]at hb
     have:∃ b,bt (I6 IntKind.u16 (s.getD j 0) (al A i a j)) b=true:=⟨b,by
      rw[g2,A5,hs.bit j hj,if_neg hji];exact⟨⟨hb.1,fun h=>absurd h (AJ _)⟩,hb.2 hj⟩⟩
     have:=(pR g1).2 this;rw[this]at hz;cases hz
    ·refine hn _ ⟨hT,fun j' hj'=>?_⟩;by_cases h:j'=j
     ·subst h;obtain⟨b,hb⟩:=(pR g1).1 hz;exact⟨b,.inl (by rw[hgd];exact hb)⟩
     ·rw[m2,if_neg h];exact hnz j' (by omega)
  ·unfold nB;dsimp only;rw[FD,AC (AJ _),AE];exact E2.2 hs
  ·rw[k2];split
   ·rw[KU,AZ];exact eq_comm
   ·simp
 refine E1.2 (key.mono fun q hq=>?_);rcases q with o|y
 ·obtain⟨h1,h2⟩:=hq
  have hall:∀j<ns.length,∃b,bt (o.getD j 0) b=true:=fun j hj=>by
   obtain⟨b,h|h⟩:=h2 j hj
   ·exact⟨b,h⟩
   ·exact⟨a,by rw[h1.bit j hj,if_pos h]⟩
  refine E1.2 ((A5B hF hG o h1.sh).mono fun b hb=>E2.2 ⟨fun h=>⟨h1,hall,hb.1 h⟩,fun h o' ho' hn=>?_⟩)
  have:o'=o:=by
   apply BN;intro j;by_cases hj:j<ns.length
   ·have e1:o'[j]?=some (o'.getD j 0):=by rw[A2,A0 (by rw[ho'.sh.len];exact hj)];rfl
    have e2:o[j]?=some (o.getD j 0):=by rw[A2,A0 (by rw[h1.sh.len];exact hj)];rfl
    rw[e1,e2]
    congr 1
    refine dB (ho'.sh.in16 j) (h1.sh.in16 j) fun b=>?_;rw[Bool.eq_iff_iff,ho'.bit j hj,h1.bit j hj]
   ·rw[B3 (by rw[ho'.sh.len];omega),B3 (by rw[h1.sh.len];omega)]
  rw[this]at hn;have:=hb.2 hn.2;have h:b=false:=h;rw[h]at this;cases this
 ·obtain⟨h1,h2⟩:=hq;refine E2.2 ⟨fun h=>?_,fun _ o ho hn=>h2 o ho hn.1⟩;dsimp only at h;rw[h1]at h;cases h
end
theorem ANO(a:Nat)(ha:a<=15):XQ ((2 ^ a:Nat):Int)=some (a:Int):=by
 have hone:=(IP ha).2;unfold XQ
 have key:Tot (hY (((2 ^ a:Nat):Int),(0:Int))) (fun q=>q=.inr (a:Int)):=by
  refine GI (σ:=Unit) 16 (fun s i=>(((2 ^ a:Nat):Int),i)) (fun m _=>m<=a) (by omega) (fun next s i hi hs hn=>?_) (fun next s hs=>by omega) () (BQ _);unfold vB;dsimp only;rw[A7 (by omega),AB,P2 hone,A1,KU,FX (by omega)];refine E3.2 ⟨fun hc=>?_,fun hc=>?_⟩
  ·rw[<-A6 hc];exact E2.2 rfl
  ·exact hn () (by have:=AF hc;omega)
 rw[JQ key];rfl
def HJ(ns:List E0)(os:List (List E0))(p:List Nat):List G5:=(List.range ns.length).filterMap fun j=>match p.getD j 0 with
 |0=>none
 |k+1=>some (ns.getD j [],(os.getD j []).getD k [])
theorem ANP{t:FK}{ns:List E0}{os:List (List E0)}{W:List (List Int)}{A:List (List (List Int))}{st:List Int}{rt:Int}(hF:Fy ns os)(p:List Nat)(left:List Int)(hl:left.length=ns.length)
 (hp:∀j<ns.length,left.getD j 0=((2 ^ p.getD j 0:Nat):Int)/\p.getD j 0<=cnt os j):
 XR (some (t,ns,os,W,A,st,rt),left)=some (HJ ns os p):=by
 have hfew:=hF.few;unfold XR;dsimp only
 have key:Tot (iA (some (t,ns,os,W,A,st,rt),[],left,(left.length:Int),0)) (fun q=>q=HJ ns os p):=by
  let f:Nat->Option G5:=fun j=>match p.getD j 0 with
   |0=>none
   |k+1=>some (ns.getD j [],(os.getD j []).getD k [])
  refine GI (σ:=List G5) left.length (fun s i=>(some (t,ns,os,W,A,st,rt),s,left,(left.length:Int),i)) (fun m s=>s=(List.range m).filterMap f) (by omega) (fun next s i hi hs hn=>?_) (fun next s hs=>?_) [] (by simp)
  ·unfold hZ;dsimp only;obtain⟨h1,h2⟩:=hp i (by omega);have hcn:=LL hF i;have hlv:left[i]?=some (left.getD i 0):=by rw[A2,A0 hi];rfl
   have hsl:s.length<=i:=by rw[hs];exact AY (List.length_filterMap_le _ _) (by rw[CX];exact AI _)
   rw[FD,A7 hi,AB,FW hlv,A1,h1,ANO _ (by omega),A1,FX (by omega)];have hr:List.range (i+1)=List.range i++[i]:=List.range_succ;refine E3.2 ⟨fun hc=>?_,fun hc=>?_⟩
   ·have hc:=A6 hc;obtain⟨k,hk⟩:∃k,p.getD i 0=k+1:=⟨p.getD i 0-1,by omega⟩;have hnm:ns[i]?=some (ns.getD i []):=by rw[A2,A0 (by omega)];rfl
    have hop:os[i]?=some (os.getD i []):=by rw[A2,A0 (by rw[hF.len];omega)];rfl
    have hov:(os.getD i [])[k]?=some ((os.getD i []).getD k []):=by
     rw[A2 (l:=os.getD i []),A0 (by unfold cnt at h2;omega)];rfl
    rw[A1];dsimp only;rw[FW hnm,A1,A1];dsimp only;rw[FW hop,A1,EY (by omega) (by omega),show((p.getD i 0:Nat):Int)-1=(k:Int) by omega,FW hov,A1];refine E1.2 (GH.2 ⟨by simp only[AG,AV];omega,?_⟩);refine hn _ ?_;rw[hr,List.filterMap_append,<-hs]
    have hfi:f i=some (ns.getD i [],(os.getD i []).getD k []):=by
     show(match p.getD i 0 with|0=>none|k+1=>some (ns.getD i [],(os.getD i []).getD k []))=_;rw[hk]
    rw[DU hfi];rfl
   ·have hc:=AF hc;have hk:p.getD i 0=0:=by omega
    refine hn _ ?_;rw[hr,List.filterMap_append,<-hs]
    have hfi:f i=none:=by
     show(match p.getD i 0 with|0=>none|k+1=>some (ns.getD i [],(os.getD i []).getD k []))=_;rw[hk]
    rw[List.filterMap_cons_none hfi];simp
  ·unfold hZ;dsimp only;rw[FD,AC (AJ _),AE];refine E2.2 ?_;rw[hs,hl];rfl
 rw[JQ key];rfl
end Go.Ev.Pv
namespace Go.Ev.Pv
section
variable(ns:List E0)(os:List (List E0))(W:List (List Int))(A:List (List (List Int)))(st:List Int)(rt:Int)
structure Val(p:List Nat):Prop where
 len:p.length=ns.length
 st:∀j<ns.length,bt (st.getD j 0) (p.getD j 0)=true
 al:∀j<ns.length,∀k<ns.length,k≠j->bt (al A k (p.getD k 0) j) (p.getD j 0)=true
 pn:PN ns os W rt (fun i a=>p.getD i 0=a)
open Classical in
noncomputable def GO:Nat->List Nat->List (List Nat)
 |0,pre=>if Val ns os W A st rt pre then [pre]else []
 |d+1,pre=>(List.range (cnt os pre.length+1)).flatMap fun a=>GO d (pre++[a])
structure Dp(pre:List Nat)(left:List Int):Prop where
 sh:ShS ns.length left
 bit:∀j<ns.length,∀b,bt (left.getD j 0) b=true<->bt (st.getD j 0) b=true/\(j<pre.length->b=pre.getD j 0)/\∀k<pre.length,k≠j->bt (al A k (pre.getD k 0) j) b=true
end
theorem NX{pre:List Nat}{a j:Nat}:(pre++[a]).getD j 0=if j=pre.length then a else pre.getD j 0:=by
 rw[A2,A2];by_cases h:j<pre.length
 ·rw[AR h,if_neg (by omega)]
 ·rw[AX (by omega)];by_cases h2:j=pre.length
  ·subst h2;rw[if_pos rfl,DK];rfl
  ·rw[if_neg h2,B3 (by simp only[AG,AV];omega),B3 (by omega)]
theorem qA{pre p:List Nat}(h:pre <+:p){j:Nat}(hj:j<pre.length):p.getD j 0=pre.getD j 0:=by
 obtain⟨r,rfl⟩:=h;rw[A2,AR hj,A2]
section
variable{t:FK}{ns:List E0}{os:List (List E0)}{W:List (List Int)}{A:List (List (List Int))}{st:List Int}{rt:Int}(hF:Fy ns os)(hG:Good t ns os W A st rt)
include hG
theorem qB{p:List Nat}(h:Val ns os W A st rt p){j:Nat}(hj:j<ns.length):p.getD j 0<=cnt os j:=((hG.st j hj _).1 (h.st j hj)).1
theorem V6(p:List Nat):∀(d:Nat) (pre:List Nat),pre.length+d=ns.length->(p∈GO ns os W A st rt d pre<->Val ns os W A st rt p/\pre <+:p):=by
 intro d;induction d with
 |zero=>
  intro pre hl;unfold GO;constructor
  ·intro h;split at h
   ·rename_i hv;cases AU.1 h;exact⟨hv,List.prefix_refl _⟩
   ·cases h
  ·rintro⟨hv,hp⟩;have:pre=p:=hp.eq_of_length (by rw[hv.len];omega);subst this;rw[if_pos hv];exact AU.2 rfl
 |succ d ih=>
  intro pre hl;unfold GO;rw[List.mem_flatMap];constructor
  ·rintro⟨a,ha,h⟩;obtain⟨h1,h2⟩:=(ih (pre++[a]) (by rw[A9];simp only[AG,AV];omega)).1 h;exact⟨h1,(List.prefix_append _ _).trans h2⟩
  ·rintro⟨hv,r,rfl⟩;have hr:r.length=d+1:=by have:=hv.len;rw[A9]at this;omega
   obtain⟨a,r,rfl⟩:∃a r',r=a::r':=by
    cases r with
    |nil=>cases hr
    |cons a r=>exact⟨a,r,rfl⟩
   have hle:=qB hG hv (j:=pre.length) (by omega)
   have e:(pre++a::r).getD pre.length 0=a:=by
    rw[A2,AX (AI _),DK];rfl
   rw[e]at hle;refine⟨a,CP.2 (by omega),(ih (pre++[a]) (by rw[A9];simp only[AG,AV];omega)).2 ⟨hv,r,by rw[C7];rfl⟩⟩
theorem A5C{d:Nat}{pre:List Nat}(hl:pre.length+d=ns.length)(h:∀p,Val ns os W A st rt p->¬pre <+:p):GO ns os W A st rt d pre=[]:=by
 apply D2.2;intro p hp;obtain⟨h1,h2⟩:=(V6 hG p d pre hl).1 hp;exact h p h1 h2
theorem A5D{pre p:List Nat}{left:List Int}(hD:Dp ns A st pre left)(hv:Val ns os W A st rt p)(hp:pre <+:p)(hle:pre.length<=ns.length):∀j<ns.length,bt (left.getD j 0) (p.getD j 0)=true:=by
 intro j hj;rw[hD.bit j hj];refine⟨hv.st j hj,fun h=>qA hp h,fun k hk hkj=>?_⟩;rw[<-qA hp hk];exact hv.al j hj k (by omega) hkj
omit hG in
theorem qC{h h':Nat->Nat->Prop}(hh:∀i<ns.length,∀a,h i a->h' i a)(hp:PN ns os W rt h):PN ns os W rt h':=fun i hi=>(hp i hi).imp (hh i hi 0) fun r=>r.mono hh
include hF in
theorem ANQ(d:Nat)(slf:Int×(List Int)×Unit×(Option V1)×Unit×Unit×(List (List G5))×(Option V1)×Int->Option (Bool×(List (List G5))))(M:Nat)(hM:M<=1000)(pre:List Nat)(left:List Int)(hl:pre.length+(d+1)=ns.length)(hD:Dp ns A st pre left)(q0:List (List G5))(hq0:q0.length<M)
 (ih:∀ a left' q,Dp ns A st (pre++[a]) left'->(∀ j<ns.length,∃ b,bt (left'.getD j 0) b=true)->PN ns os W rt (fun j b=>bt (left'.getD j 0) b=true)->q.length<M ->
  slf (((pre.length:Nat):Int)+1,left',(),some (t,ns,os,W,A,st,rt),(),(),q,some (t,ns,os,W,A,st,rt),(M:Int))=
   some (decide (q.length+(GO ns os W A st rt d (pre++[a])).length<M),q++((GO ns os W A st rt d (pre++[a])).map (HJ ns os)).take (M-q.length))):
 Tot (nE slf (((pre.length:Nat):Int),left,some (t,ns,os,W,A,st,rt),(((W.getD pre.length []).length:Nat):Int),0,q0,some (t,ns,os,W,A,st,rt),(M:Int))) (fun r=>match r with
  | .inl y=>y.1=q0++(GO ns os W A st rt (d+1) pre).map (HJ ns os)/\q0.length+(GO ns os W A st rt (d+1) pre).length<M
  | .inr y=>y.1=false/\y.2.1=q0++((GO ns os W A st rt (d+1) pre).map (HJ ns os)).take (M-q0.length)/\M<=q0.length+(GO ns os W A st rt (d+1) pre).length):=by
 have hfew:=hF.few;have hi:pre.length<ns.length:=by omega
 have hrow:=hG.shW.row _ hi;have hcn:=LL hF pre.length;let L:Nat->List (List Nat):=fun m=>(List.range m).flatMap fun a=>GO ns os W A st rt d (pre++[a])
 have hLs:∀m,L (m+1)=L m++GO ns os W A st rt d (pre++[m]):=fun m=>by
  show(List.range (m+1)).flatMap _=_;rw[List.range_succ,List.flatMap_append];simp[L]
 have hLt:L (cnt os pre.length+1)=GO ns os W A st rt (d+1) pre:=rfl
 have hLp:∀m,m<=cnt os pre.length+1->∃R,GO ns os W A st rt (d+1) pre=L m++R:=by
  intro m hm;rw[<-hLt]
  have:∀k,∃R,L (m+k)=L m++R:=by
   intro k;induction k with
   |zero=>exact⟨[],by simp⟩
   |succ k ih=>
    obtain⟨R,hR⟩:=ih;refine⟨R++GO ns os W A st rt d (pre++[m+k]),?_⟩;rw[show m+(k+1)=(m+k)+1 by omega,hLs,hR,C7]
  obtain⟨R,hR⟩:=this (cnt os pre.length+1-m);rw[show m+(cnt os pre.length+1-m)=cnt os pre.length+1 by omega]at hR;exact⟨R,hR⟩
 refine GI (σ:=List (List G5)) (W.getD pre.length []).length (fun s a=>(((pre.length:Nat):Int),left,some (t,ns,os,W,A,st,rt),(((W.getD pre.length []).length:Nat):Int),a,s,some (t,ns,os,W,A,st,rt),(M:Int)))
  (fun m s=>s=q0++(L m).map (HJ ns os)/\q0.length+(L m).length<M) (by omega) (fun next s a ha hs hn=>?_) (fun next s hs=>?_) q0 ⟨by simp[L],by simp[L];exact hq0⟩
 ·obtain⟨hs,hlt⟩:=hs;unfold nD;dsimp only;have hlv:left[pre.length]?=some (left.getD pre.length 0):=by rw[A2,A0 (by rw[hD.sh.len];exact hi)];rfl
  rw[FD,A7 ha,AB,FW hlv,A1,P2 (hD.sh.in16 _),A1,FX (by omega),FX (by omega)]
  have hnone:(∀p,Val ns os W A st rt p->¬(pre++[a]) <+:p)->Tot (next (((pre.length:Nat):Int),left,some (t,ns,os,W,A,st,rt),(((W.getD pre.length []).length:Nat):Int),(a:Int)+1,s,some (t,ns,os,W,A,st,rt),(M:Int))) _:=fun h=>by
   have h0:=A5C hG (d:=d) (pre:=pre++[a]) (by rw[A9];simp only[AG,AV];omega) h;refine hn s ⟨?_,?_⟩
   ·rw[hLs,h0,BY];exact hs
   ·rw[hLs,h0,BY];exact hlt
  have hpa:∀p,(pre++[a]) <+:p->pre <+:p/\p.getD pre.length 0=a:=fun p hp=>
   ⟨(List.prefix_append _ _).trans hp,by rw[qA hp (by rw[A9];simp only[AG,AV];omega),NX,if_pos rfl]⟩
  refine E3.2 ⟨fun hc=>?_,fun hc=>?_⟩
  ·have hc:bt (left.getD pre.length 0) a=false:=by simpa using hc
   refine hnone fun p hv hp=>?_;obtain⟨h1,h2⟩:=hpa p hp;have:=A5D hG hD hv h1 (by omega) _ hi;rw[h2,hc]at this;cases this
  ·have hc:bt (left.getD pre.length 0) a=true:=by simpa using hc
   have hac:a<=cnt os pre.length:=((hG.st _ hi _).1 ((hD.bit _ hi _).1 hc).1).1;obtain⟨q,hq,hq1,hq2⟩:=ANN hF hG left hD.sh pre.length a hi hac;rw[hq,A1]
   have hDp:∀o,Tk ns.length A left pre.length a ns.length o<->Dp ns A st (pre++[a]) o:=by
    have hcb:=(hD.bit _ hi _).1 hc
    have bits:∀j<ns.length,∀b,(if j=pre.length then b=a else bt (left.getD j 0) b=true/\(j<ns.length->bt (al A pre.length a j) b=true))<->
     (bt (st.getD j 0) b=true/\(j<(pre++[a]).length->b=(pre++[a]).getD j 0)/\∀k<(pre++[a]).length,k≠j->bt (al A k ((pre++[a]).getD k 0) j) b=true):=by
     intro j hj b;have hlen:(pre++[a]).length=pre.length+1:=by rw[A9];rfl
     rw[hlen];split
     ·rename_i h;subst h;rw[NX,if_pos rfl];constructor
      ·rintro rfl;refine⟨hcb.1,fun _=>rfl,fun k hk hkj=>?_⟩;rw[NX,if_neg hkj];exact hcb.2.2 k (by omega) hkj
      ·rintro⟨_,h,_⟩;exact h (by omega)
     ·rename_i h;rw[hD.bit j hj];constructor
      ·rintro⟨⟨h1,h2,h3⟩,h4⟩;refine⟨h1,fun hh=>?_,fun k hk hkj=>?_⟩
       ·rw[NX,if_neg h];exact h2 (by omega)
       ·rw[NX];split
        ·rename_i hk';subst hk';exact h4 hj
        ·exact h3 k (by omega) hkj
      ·rintro⟨h1,h2,h3⟩;refine⟨⟨h1,fun hh=>?_,fun k hk hkj=>?_⟩,fun _=>?_⟩
       ·have:=h2 (by omega);rwa[NX,if_neg h]at this
       ·have:=h3 k (by omega) hkj;rwa[NX,if_neg (by omega)]at this
       ·have:=h3 pre.length (by omega) (fun e=>h e.symm);rwa[NX,if_pos rfl]at this
    intro o;exact⟨fun h=>⟨h.sh,fun j hj b=>(h.bit j hj b).trans (bits j hj b)⟩,fun h=>⟨h.sh,fun j hj b=>(h.bit j hj b).trans (bits j hj b).symm⟩⟩
   cases hq2b:q.2 with
   |false=>
    simp only[AE,A1,CJ];refine hnone fun p hv hp=>?_
    have hex:∃o,Tk ns.length A left pre.length a ns.length o:=by
     refine⟨(List.range ns.length).map fun j=>if j=pre.length then((2 ^ a:Nat):Int)else I6 IntKind.u16 (left.getD j 0) (al A pre.length a j),⟨by rw[AO,CX],fun j=>?_⟩,fun j hj b=>?_⟩
     ·rcases C8 j ns.length with hj|hj
      ·rw[A2,AL,C2 hj];show FV (if j=pre.length then _ else _);split
       ·exact(IP (by omega)).2
       ·exact(RN (hD.sh.in16 j) (hG.shA.in16 _ _ _)).1
      ·rw[NW (by rw[AO,CX];exact hj)];exact NU
     ·rw[A2,AL,C2 hj];show bt (if j=pre.length then _ else _) b=true<->_;split
      ·rw[KU,AZ];exact eq_comm
      ·rw[(RN (hD.sh.in16 j) (hG.shA.in16 _ _ _)).2,A5];exact⟨fun⟨x,y⟩=>⟨x,fun _=>y⟩,fun⟨x,y⟩=>⟨x,y hj⟩⟩
    obtain⟨o,ho⟩:=hex;have hval:=A5D hG ((hDp o).1 ho) hv hp (by rw[A9];simp only[AG,AV];omega);exact hq2 hq2b o ho ⟨fun j hj=>⟨_,hval j hj⟩,qC (fun i hi a' h=>by rw[<-h];exact hval i hi) hv.pn⟩
   |true=>
    obtain⟨h1,h2,h3⟩:=hq1 hq2b;have hsl:s.length=q0.length+(L a).length:=by rw[hs,A9,AO]
    simp only[AB,CA];rw[ih a q.1 s ((hDp _).1 h1) h2 h3 (by omega),A1];dsimp only;refine E3.2 ⟨fun hb=>?_,fun hb=>?_⟩
    ·have hb:M<=s.length+(GO ns os W A st rt d (pre++[a])).length:=by
      have:decide (s.length+(GO ns os W A st rt d (pre++[a])).length<M)=false:=by simpa using hb
      have:=AF this;omega
     obtain⟨R,hR⟩:=hLp (a+1) (by omega);refine E2.2 ⟨rfl,?_,?_⟩
     ·dsimp only;rw[hR,hLs,hs];simp only[CY,C7,A9,AO]
      congr 1
      rw[List.take_append,List.take_append];simp only[AO];have e1:((L a).map (HJ ns os)).take (M-q0.length)=(L a).map (HJ ns os):=BR (by rw[AO];omega);rw[e1,show M-q0.length-(L a).length=M-(q0.length+(L a).length) by omega];rw[show M-(q0.length+(L a).length)-(GO ns os W A st rt d (pre++[a])).length=0 by omega,D8,BY]
     ·rw[hR,hLs,A9,A9];omega
    ·have hb:s.length+(GO ns os W A st rt d (pre++[a])).length<M:=by
      have:decide (s.length+(GO ns os W A st rt d (pre++[a])).length<M)=true:=by simpa using hb
      exact A6 this
     refine hn _ ⟨?_,?_⟩
     ·rw[BR (by rw[AO];omega),hLs,hs,CY,C7]
     ·rw[hLs,A9];omega
 ·obtain⟨hs,hlt⟩:=hs;unfold nD;dsimp only;rw[FD,AC (AJ _),AE];rw[hrow,hLt]at hs hlt;exact E2.2 ⟨hs,hlt⟩
end
end Go.Ev.Pv
namespace Go.Ev.Pv
theorem ANR(l:List Int)(v:Int)(hl:l.length<4611686018427387904):Tot (bM (l,v)) (fun q=>q=true<->v∈l):=by
 unfold bM nI;dsimp only
 have key:Tot (nH (l,v,(l.length:Int),0)) (fun q=>match q with
  | .inl _=>v ∉ l
  | .inr y=>0<=y/\v∈l):=by
  refine GI (σ:=Unit) l.length (fun s i=>(l,v,(l.length:Int),i)) (fun m _=>v ∉ l.take m) (by omega) (fun next s i hi hs hn=>?_) (fun next s hs=>?_) () (by simp)
  ·unfold nG;dsimp only;rw[FD,A7 hi,AB,FW (A0 hi),A1,FX (by omega),E4];refine E3.2 ⟨fun hc=>E2.2 ⟨by omega,by rw[A6 hc];exact BF hi⟩,fun hc=>hn () ?_⟩;rw[H4 (A0 hi),AP,AU];exact fun h=>h.elim hs (AF hc)
  ·unfold nG;dsimp only;rw[FD,AC (AJ _),AE];rw[BL]at hs;exact E2.2 hs
 refine E1.2 (E1.2 (key.mono fun q hq=>?_));rcases q with y|y
 ·exact E2.2 (E2.2 ⟨fun h=>by simp at h,fun h=>absurd h hq⟩)
 ·exact E2.2 (E2.2 ⟨fun _=>hq.2,fun _=>A7 hq.1⟩)
section
variable{t:FK}{ns:List E0}{os:List (List E0)}{W:List (List Int)}{A:List (List (List Int))}{st:List Int}{rt:Int}(hF:Fy ns os)(hG:Good t ns os W A st rt)
include hF hG
theorem ANS(M:Nat)(hM:M<=1000):∀(d k:Nat) (pre:List Nat) (left:List Int) (q0:List (List G5)),d<k->pre.length+d=ns.length->Dp ns A st pre left->(∀j<ns.length,∃b,bt (left.getD j 0) b=true)->
 PN ns os W rt (fun j b=>bt (left.getD j 0) b=true)->q0.length<M->
 NM k (((pre.length:Nat):Int),left,(),some (t,ns,os,W,A,st,rt),(),(),q0,some (t,ns,os,W,A,st,rt),(M:Int))=
  some (decide (q0.length+(GO ns os W A st rt d pre).length<M),q0++((GO ns os W A st rt d pre).map (HJ ns os)).take (M-q0.length)):=by
 have hfew:=hF.few;intro d;induction d with
 |zero=>
  intro k pre left q0 hk hl hD hnz hpn hq;obtain⟨k,rfl⟩:∃k',k=k'+1:=⟨k-1,by omega⟩;show UK (NM k) _=_;unfold UK XP;dsimp only
  have hone:∀j<ns.length,left.getD j 0=((2 ^ pre.getD j 0:Nat):Int)/\pre.getD j 0<=cnt os j/\bt (left.getD j 0) (pre.getD j 0)=true:=by
   intro j hj;obtain⟨b,hb⟩:=hnz j hj;have hbp:=((hD.bit j hj b).1 hb).2.1 (by omega);rw[<-hbp];have hbc:b<=cnt os j:=((hG.st j hj b).1 ((hD.bit j hj b).1 hb).1).1;refine⟨dB (hD.sh.in16 j) (IP (by have:=LL hF j;omega)).2 fun b'=>?_,hbc,hb⟩;rw[KU,Bool.eq_iff_iff,AZ];constructor
   ·intro h;have:=((hD.bit j hj b').1 h).2.1 (by omega);rw[hbp,this]
   ·rintro rfl;exact hb
  have hv:Val ns os W A st rt pre:=by
   refine⟨by omega,fun j hj=>((hD.bit j hj _).1 (hone j hj).2.2).1,fun j hj k hk hkj=>((hD.bit j hj _).1 (hone j hj).2.2).2.2 k (by omega) hkj,qC (fun i hi a h=>?_) hpn⟩;exact(((hD.bit i hi a).1 h).2.1 (by omega)).symm
  have hs:GO ns os W A st rt 0 pre=[pre]:=by unfold GO;rw[if_pos hv]
  rw[hs];simp only[A1,BV,AE];rw[E4,A7 (by omega),AB];unfold iB;dsimp only;rw[ANP hF pre left hD.sh.len (fun j hj=>⟨(hone j hj).1,(hone j hj).2.1⟩),A1]
  have happ:app? 24 q0 [HJ ns os pre]=some (q0++[HJ ns os pre]):=by
   unfold app?;rw[A7 (by simp only[AG,AV];omega)];rfl
  rw[happ];simp only[A1,A9,AG,AV,D6,List.map_nil]
  congr 1
  refine Prod.ext ?_ ?_
  ·dsimp only;by_cases h:q0.length+1<M
   ·rw[A7 (by omega),A7 (by omega)]
   ·rw[AC (by omega),AC (by omega)]
  ·dsimp only;rw[BR (by simp only[AG,AV];omega)]
 |succ d ih=>
  intro k pre left q0 hk hl hD hnz hpn hq;obtain⟨k,rfl⟩:∃k',k=k'+1:=⟨k-1,by omega⟩;show UK (NM k) _=_;unfold UK XP;dsimp only;simp only[A1,BV,AE];rw[E4,AC (by omega),AE];have hWi:W[pre.length]?=some (W.getD pre.length []):=by rw[A2,A0 (by rw[hG.shW.len];omega)];rfl
  rw[FW hWi,A1]
  have:=ANQ hF hG d (NM k) M hM pre left hl hD q0 hq (fun a left' q h1 h2 h3 h4=>by
   have:=ih k (pre++[a]) left' q (by omega) (by rw[A9];simp only[AG,AV];omega) h1 h2 h3 h4;rw[A9]at this;exact this)
  obtain⟨r,hr,hq⟩:=this;rw[hr,A1];rcases r with y|y
  ·obtain⟨h1,h2⟩:=hq;dsimp only;rw[h1,A7 h2,BR (by rw[AO];omega)]
  ·obtain⟨h1,h2,h3⟩:=hq;dsimp only;rw[h1,h2,AC (by omega)]
theorem ANT(M:Nat)(hM:M<=1000)(hM0:0<M):
 UL (some (t,ns,os,W,A,st,rt),(),(),[],some (t,ns,os,W,A,st,rt),(M:Int))=some (((GO ns os W A st rt ns.length []).map (HJ ns os)).take M):=by
 have hfew:=hF.few;have hD:Dp ns A st [] st:=⟨hG.shS,fun j hj b=>⟨fun h=>⟨h,fun h=>absurd h (Nat.not_lt_zero _),fun k h=>absurd h (Nat.not_lt_zero _)⟩,fun h=>h.1⟩⟩;have hlen:=hG.shS.len;unfold UL;dsimp only;rw[A1];dsimp only;obtain⟨b,hb,hb2⟩:=ANR st 0 (by omega);rw[hb,A1];have hzero:∀j,j<ns.length->st.getD j 0∈st:=fun j hj=>A58 (by omega);have hsn:(∀p,¬Val ns os W A st rt p)->GO ns os W A st rt ns.length []=[]:=fun h=>A5C hG (by simp) fun p hv=>absurd hv (h p);cases b with
 |true=>
  simp only[BV,AE,A1,CJ];have hm:=hb2.1 rfl;obtain⟨j,hj,hj2⟩:=CZ hm;rw[hsn fun p hv=>?_];· simp
  have:=hv.st j (by omega);rw[A2,A0 hj]at this;have this:bt st[j] (p.getD j 0)=true:=this;rw[hj2,P1]at this;cases this
 |false=>
  have hnm:(0:Int) ∉ st:=fun h=>by have:=hb2.2 h;cases this
  have hnz:∀ j<ns.length,∃ b,bt (st.getD j 0) b=true:=fun j hj=>(pR (hG.shS.in16 j)).1 (by
   rw[E4];exact AC fun e=>hnm (by rw[<-e];exact hzero j hj))
  simp only[D9,AB,A1,CA];obtain⟨b,hp,hp2⟩:=A5B hF hG st hG.shS;rw[hp,A1];cases b with
  |true=>
   rw[AB];have hv:=ANS hF hG M hM ns.length 100 [] st [] (by omega) (by simp) hD hnz (hp2.1 rfl) (by simpa using hM0);have hv:nF (0,st,(),some (t,ns,os,W,A,st,rt),(),(),[],some (t,ns,os,W,A,st,rt),(M:Int))=_:=hv;rw[hv];simp
  |false=>
   rw[AE,hsn fun p hv=>?_];· simp
   have:=hp2.2 (qC (fun i hi a h=>by rw[<-h];exact hv.st i hi) hv.pn);cases this
end
end Go.Ev.Pv
namespace Go.Ev.Pv
section
variable{α:Type}{f:α->E0}
theorem ANU{l:List α}(h:l.Pairwise fun a b=>f a<f b){a b:α}(ha:a∈l)(hb:b∈l)(e:f a=f b):a=b:=by
 obtain⟨i,hi,rfl⟩:=CZ ha;obtain⟨j,hj,rfl⟩:=CZ hb;rcases Nat.lt_trichotomy i j with h1|h1|h1
 ·have:=CS.1 h i j hi hj h1;rw[e]at this;exact absurd this (I4 _)
 ·subst h1;rfl
 ·have:=CS.1 h j i hj hi h1;rw[e]at this;exact absurd this (I4 _)
theorem ANV{l:List α}(h:l.Pairwise fun a b=>f a<f b):l.Nodup:=h.imp fun {a b} hab e=>by subst e;exact I4 _ hab
theorem ANW:∀{l l':List α},(l.Pairwise fun a b=>f a<f b)->(l'.Pairwise fun a b=>f a<f b)->(∀x,x∈l<->x∈l')->l=l':=by
 intro l;induction l with
 |nil=>
  intro l' _ _ h;exact(D2.2 fun x hx=>by have:=(h x).2 hx;cases this).symm
 |cons a l ih=>
  intro l' h1 h2 h;cases l' with
  |nil=>have:=(h a).1 (by simp);cases this
  |cons b l'=>
   rw[List.pairwise_cons]at h1 h2
   have hab:a=b:=by
    rcases B7.1 ((h a).1 (by simp))with e|e
    ·exact e
    rcases B7.1 ((h b).2 (by simp))with e'|e'
    ·exact e'.symm
    exact absurd (NQ (h1.1 _ e') (h2.1 _ e)) (I4 _)
   subst hab;rw[ih h1.2 h2.2 fun x=>?_];constructor
   ·intro hx;rcases B7.1 ((h x).1 (AH _ hx))with e|e
    ·subst e;exact absurd (h1.1 _ hx) (I4 _)
    ·exact e
   ·intro hx;rcases B7.1 ((h x).2 (AH _ hx))with e|e
    ·subst e;exact absurd (h2.1 _ hx) (I4 _)
    ·exact e
end
theorem N5{l:List G5}(h:l.Pairwise fun a b=>a.1<b.1)(nm v:E0):FP l nm=(v,true)<->(nm,v)∈l:=by
 rcases P3 l nm with⟨e,hn⟩|⟨v',e,hm⟩
 ·rw[e];exact⟨fun h=>by simp at h,fun h=>absurd rfl (hn _ h)⟩
 ·rw[e];constructor
  ·intro h';have:v'=v:=congrArg Prod.fst h';subst this;exact hm
  ·intro h';have:=ANU (f:=fun p:G5=>p.1) h hm h' rfl;rw[show v'=v from congrArg Prod.snd this]
theorem ANX{l:List GN}(h:l.Pairwise KW):(F9 l).Pairwise fun a b=>a<b:=by
 induction l using dF with
 |nil=>exact List.Pairwise.nil
 |append_singleton l o ih=>
  rw[DN]at h;obtain⟨h1,_,h3⟩:=h;rw[P5];unfold LJ;split
  ·exact ih h1
  ·rename_i hn;rw[DN];refine⟨ih h1,DY _ _,fun a ha b hb=>?_⟩;cases AU.1 hb;obtain⟨x,hx,rfl⟩:=(RP _ _).1 ha;rcases h3 x hx o (by simp)with h|h
   ·exact h
   ·exact absurd (by rw[<-h.1];exact ha) hn
theorem dJ{t:FK}{nm v:E0}:v∈JS t nm<->∃o∈t.1,o.1=nm/\P4 t nm o=true/\o.2.1=v:=by
 unfold JS;simp only[B_,C0,AZ];constructor
 ·rintro⟨o,⟨⟨h1,h2⟩,h3⟩,h4⟩;exact⟨o,h1,h2,h3,h4⟩
 ·rintro⟨o,h1,h2,h3,h4⟩;exact⟨o,⟨⟨h1,h2⟩,h3⟩,h4⟩
theorem ANY{t:FK}{nm v:E0}{nd:FI}(h:nd∈JC t (nm,v)):∃o∈t.1,o.1=nm/\nd∈o.2.2.1:=by
 unfold JC at h;split at h
 ·rename_i o ho;have h1:=List.find?_some ho;have h2:=DT ho;rw[A5,AZ]at h1;exact⟨o,h2,h1.1,(C0.1 h).1⟩
 ·cases h
section
variable{t:FK}(ht:TkB t)(hR:RegOk t.1)
include ht hR
theorem qD:Fy (F9 t.1) (GD t):=by
 have hopt:∀o∈GD t,∃s∈F9 t.1,IE t s=o:=fun o ho=>B_.1 ho;refine⟨⟨by unfold GD;rw[AO],hR.few,fun o ho=>?_⟩,AMp _,fun o ho v hv=>?_⟩
 ·obtain⟨s,_,rfl⟩:=hopt o ho;unfold IE JS;rw[DF,AO];exact AY (CH _ _) (hR.few8 s)
 ·obtain⟨s,_,rfl⟩:=hopt o ho;have hv:v∈JS t s:=List.mem_reverse.1 hv;obtain⟨o,ho,_,_,rfl⟩:=dJ.1 hv;exact(ht.offer o ho).2.1
theorem qE:∀i a nd,nd∈I5 t (F9 t.1) (GD t) i a->KV nd/\(F9 t.1)[i]?≠some nd.1:=by
 intro i a nd h;obtain⟨k,v,nm,rfl,h1,h2,h3⟩:=RS h;obtain⟨o,ho,e,hm⟩:=ANY h3;refine⟨(ht.offer o ho).2.2.2 nd hm,?_⟩;rw[h2];intro he;have he:=A4 he;exact(hR.ok o ho).other nd hm (by rw[e,he])
theorem dK{j:Nat}{nm:E0}(h:(F9 t.1)[j]?=some nm):(GD t).getD j []=IE t nm:=by
 unfold GD;rw[A2,AL,h];rfl
theorem A5E(nm:E0):(IE t nm).Nodup:=by
 unfold IE JS;unfold List.Nodup;rw[List.pairwise_reverse];have h1:((t.1.filter fun o=>decide (o.1=nm)).filter (P4 t nm)).Pairwise KW:=hR.asc.sublist (List.filter_sublist.trans DQ);rw[List.pairwise_map];refine h1.imp_of_mem fun {a b} ha hb hab e=>?_;have ea:a.1=nm:=A6 (C0.1 (C0.1 ha).1).2;have eb:b.1=nm:=A6 (C0.1 (C0.1 hb).1).2;rcases hab with h|h
 ·rw[ea,eb]at h;exact I4 _ h
 ·have:=h.2;rw[ea,eb,<-e]at this;exact I4 _ this
end
theorem dL{ns:List E0}{os:List (List E0)}{p:List Nat}{x:G5}:x∈HJ ns os p<->∃j,j<ns.length/\∃k,p.getD j 0=k+1/\x=(ns.getD j [],(os.getD j []).getD k []):=by
 unfold HJ;rw[List.mem_filterMap];constructor
 ·rintro⟨j,hj,h⟩;refine⟨j,CP.1 hj,?_⟩;split at h
  ·cases h
  ·rename_i k hk;exact⟨k,hk,(A4 h).symm⟩
 ·rintro⟨j,hj,k,hk,rfl⟩;refine⟨j,CP.2 hj,?_⟩;rw[hk]
theorem NY{α:Type}{l:List α}{i:Nat}{x d:α}(h:l[i]?=some x):l.getD i d=x:=by
 rw[A2,h];rfl
theorem P7{α:Type}{l:List α}{i:Nat}{d:α}(h:i<l.length):l[i]?=some (l.getD i d):=by
 rw[A2,A0 h];rfl
theorem qF{ns:List E0}{os:List (List E0)}(h:ns.Pairwise fun a b=>a<b)(p:List Nat):(HJ ns os p).Pairwise fun a b=>a.1<b.1:=by
 unfold HJ;rw[List.pairwise_filterMap];refine(List.pairwise_lt_range (n:=ns.length)).imp_of_mem fun {i j} hi hj hij b hb b' hb'=>?_;have hi:=CP.1 hi;have hj:=CP.1 hj;split at hb
 ·cases hb
 split at hb'
 ·cases hb'
 cases hb;cases hb';dsimp only;have:=CS.1 h i j hi hj hij;rw[NY (A0 hi),NY (A0 hj)];exact this
structure Of(ns:List E0)(os:List (List E0))(p:List Nat)(l:List G5):Prop where
 pin:∀j nm,ns[j]?=some nm->(p.getD j 0=0/\FP l nm=([],false))\/∃k v,p.getD j 0=k+1/\(os.getD j [])[k]?=some v/\FP l nm=(v,true)
 inn:∀nm,(FP l nm).2=true->nm∈ns
theorem ANZ{ns:List E0}{os:List (List E0)}(h:ns.Pairwise fun a b=>a<b){p:List Nat}(hp:∀j<ns.length,p.getD j 0<=cnt os j):Of ns os p (HJ ns os p):=by
 have hasc:=qF (os:=os) h p;have hnd:ns.Nodup:=ANV (f:=fun s:E0=>s) h;refine⟨fun j nm hj=>?_,fun nm h=>?_⟩
 ·have hjl:=(AA.1 hj).1;cases hk:p.getD j 0 with
  |zero=>
   refine .inl ⟨rfl,?_⟩;rcases P3 (HJ ns os p) nm with⟨e,_⟩|⟨v,e,hm⟩
   ·exact e
   ·obtain⟨j',hj',k,hk',e'⟩:=dL.1 hm;have e1:nm=ns.getD j' []:=congrArg Prod.fst e';have:j'=j:=M3 hnd (by rw[e1];exact P7 hj') hj;subst this;rw[hk]at hk';cases hk'
  |succ k=>
   have hle:=hp j hjl;rw[hk]at hle;have hv:(os.getD j [])[k]?=some ((os.getD j []).getD k []):=P7 (by unfold cnt at hle;omega);refine .inr ⟨k,_,rfl,hv,?_⟩;rw[N5 hasc,dL];exact⟨j,hjl,k,hk,by rw[NY hj]⟩
 ·rcases P3 (HJ ns os p) nm with⟨e,_⟩|⟨v,e,hm⟩
  ·rw[e]at h;cases h
  ·obtain⟨j,hj,k,_,e'⟩:=dL.1 hm;have e1:nm=ns.getD j []:=congrArg Prod.fst e';rw[e1];exact B0 (P7 hj)
theorem AN_{ns:List E0}{os:List (List E0)}(h:ns.Pairwise fun a b=>a<b){p:List Nat}{l:List G5}(hl:l.Pairwise fun a b=>a.1<b.1)(ho:Of ns os p l):HJ ns os p=l:=by
 refine ANW (f:=fun p:G5=>p.1) (qF h p) hl fun x=>?_;obtain⟨nm,v⟩:=x;rw[dL,<-N5 hl];constructor
 ·rintro⟨j,hj,k,hk,e⟩;have e1:nm=ns.getD j []:=congrArg Prod.fst e;have e2:v=(os.getD j []).getD k []:=congrArg Prod.snd e;rcases ho.pin j nm (by rw[e1];exact P7 hj)with⟨h0,_⟩|⟨k',v',h1,h2,h3⟩
  ·rw[h0]at hk;cases hk
  ·rw[hk]at h1;cases h1;rw[h3,e2,NY h2]
 ·intro hp;obtain⟨j,hj,he⟩:=CZ (ho.inn nm (by rw[hp]));have hjn:ns[j]?=some nm:=by rw[A0 hj,he]
  rcases ho.pin j nm hjn with⟨_,h0⟩|⟨k,v',h1,h2,h3⟩
  ·rw[hp]at h0;cases h0
  ·rw[hp]at h3;cases h3;exact⟨j,hj,k,h1,by rw[NY hjn,NY h2]⟩
theorem ANa{ns:List E0}{os:List (List E0)}(hn:∀j,(os.getD j []).Nodup){p p':List Nat}{l:List G5}(hl:p.length=ns.length)(hl':p'.length=ns.length)(h:Of ns os p l)(h':Of ns os p' l):p=p':=by
 have hd:∀j<ns.length,p.getD j 0=p'.getD j 0:=by
  intro j hj;have hjn:=P7 (d:=([]:E0)) hj;rcases h.pin j _ hjn with⟨h0,h1⟩|⟨k,v,h1,h2,h3⟩
  ·rcases h'.pin j _ hjn with⟨h0',h1'⟩|⟨k',v',h1',h2',h3'⟩
   ·rw[h0,h0']
   ·rw[h1]at h3';cases h3'
  ·rcases h'.pin j _ hjn with⟨h0',h1'⟩|⟨k',v',h1',h2',h3'⟩
   ·rw[h3]at h1';cases h1'
   ·rw[h3]at h3';cases h3';rw[h1,h1',M3 (hn j) h2 h2']
 apply List.ext_getElem (by omega);intro j h1 h2;have:=hd j (by omega);rwa[NY (A0 h1),NY (A0 h2)]at this
end Go.Ev.Pv
namespace Go.Ev.Pv
section
variable{t:FK}(ht:TkB t)(hR:RegOk t.1){W:List (List Int)}{A:List (List (List Int))}{st:List Int}{rt:Int}(hG:Good t (F9 t.1) (GD t) W A st rt)(hH:dI t (F9 t.1)){p:List Nat}{l:List G5}(hO:Of (F9 t.1) (GD t) p l)
include hO
theorem V7(nd:FI){j:Nat}(hj:(F9 t.1)[j]?=some nd.1):N4 l nd<->IS ((GD t).getD j []) nd.2.1 (p.getD j 0)=true:=by
 unfold N4;rcases hO.pin j _ hj with⟨h0,h1⟩|⟨k,v,h1,h2,h3⟩
 ·rw[h0,h1];exact⟨fun h=>absurd h.1 (by simp),fun h=>by cases h⟩
 ·rw[h1,h3,A56 h2];exact⟨fun h=>h.2,fun h=>⟨rfl,h⟩⟩
theorem qG{nm v:E0}(h:FP l nm=(v,true)):∃j k,(F9 t.1)[j]?=some nm/\p.getD j 0=k+1/\((GD t).getD j [])[k]?=some v/\I5 t (F9 t.1) (GD t) j (k+1)=JC t (nm,v):=by
 obtain⟨j,hj,he⟩:=CZ (hO.inn nm (by rw[h]));have hjn:(F9 t.1)[j]?=some nm:=by rw[A0 hj,he]
 rcases hO.pin j nm hjn with⟨_,h0⟩|⟨k,v',h1,h2,h3⟩
 ·rw[h]at h0;cases h0
 ·rw[h]at h3;cases h3;exact⟨j,k,hjn,h1,h2,A59 h2 hjn⟩
include ht hR hG hH
theorem ANb(hasc:l.Pairwise fun a b=>a.1<b.1)(hv:Val (F9 t.1) (GD t) W A st rt p):Right t l:=by
 have hF:=qD ht hR;have hN:=qE ht hR;have hlen:∀{j nm},(F9 t.1)[j]?=some nm->j<(F9 t.1).length:=fun h=>(AA.1 h).1;have hst:∀{j nm},(F9 t.1)[j]?=some nm->_:=fun {j nm} h=>(hG.st j (hlen h) _).1 (hv.st j (hlen h))
 have hidx:∀{nm},nm∈F9 t.1->∃j,(F9 t.1)[j]?=some nm:=fun {nm} h=>by
  obtain⟨j,hj,he⟩:=CZ h;exact⟨j,by rw[A0 hj,he]⟩
 refine⟨fun nd hnd=>?_,fun x hx=>?_,fun x hx=>?_,fun s hs=>?_⟩
 ·obtain⟨j,hj⟩:=hidx (hH.1 nd hnd);exact(V7 hO nd hj).2 ((hst hj).2.2.1 nd hnd hj)
 ·obtain⟨nm,v⟩:=x;obtain⟨j,k,hj,hk,hkv,hnd⟩:=qG hO ((N5 hasc nm v).2 hx);refine⟨?_,fun nd h=>?_⟩
  ·rw[dK ht hR hj]at hkv;exact List.mem_reverse.1 (B0 hkv)
  ·rw[<-hnd]at h;obtain⟨i,hi⟩:=hidx ((hst hj).2.1 nd (by rw[hk];exact h));rw[V7 hO nd hi];have hij:j≠i:=fun e=>(hN j _ nd h).2 (by rw[e];exact hi);have:=hv.al i (hlen hi) j (hlen hj) hij;rw[hk]at this;have hle:=qB hG hv (hlen hj);rw[hk]at hle;exact((hG.al j (hlen hj) (k+1) hle i (hlen hi) _).1 this).2.1 nd h hi
 ·obtain⟨nm,v⟩:=x
  have key:∀i,Reach (F9 t.1).length (GD t) W rt (fun i a=>p.getD i 0=a) i->∀nm,(F9 t.1)[i]?=some nm->(FP l nm).2=true->CR t l nm:=by
   intro i hr;induction hr with
   |root h=>
    intro nm hnm hp;refine .root ?_ hp;unfold V3;rw[AP,B_];rcases(hG.rt _).1 h with⟨nd,hnd,he⟩|⟨fz,hfz,he⟩
    ·rw[hnm]at he;exact .inr ⟨nd,hnd,(A4 he).symm⟩
    ·rw[hnm]at he;rw[A4 he];exact .inl hfz
   |step h1 h2 h3 h4 h5 ih=>
    rename_i i a j;intro nm hnm hp;obtain⟨nd,hnd,he⟩:=(hG.wa i h2 a h3 j).1 h5;obtain⟨k,v,nm',rfl,g1,g2,g3⟩:=RS hnd
    have hpi:(FP l nm').1=v/\(FP l nm').2=true:=by
     rcases hO.pin i nm' g2 with⟨z,_⟩|⟨k',v',z1,z2,z3⟩
     ·rw[h4]at z;cases z
     ·rw[h4]at z1;cases z1;rw[g1]at z2;cases z2;rw[z3];exact⟨rfl,rfl⟩
    have:=ih nm' g2 hpi.2;rw[hnm]at he;cases he;exact .step this (by rw[hpi.1];exact g3) hp
  obtain⟨j,k,hj,hk,hkv,hnd⟩:=qG hO ((N5 hasc nm v).2 hx);have hp2:(FP l nm).2=true:=by rw[(N5 hasc nm v).2 hx]
  rcases hv.pn j (hlen hj)with h|h
  ·rw[hk]at h;cases h
  ·exact key j h nm hj hp2
 ·obtain⟨j,hj⟩:=hidx (hH.2 s hs);have h4:=(hst hj).2.2.2 s hs hj;unfold oF at h4;split at h4
  ·rename_i k hk;have hp1:p.getD j 0=k+1:=A6 h4;rcases N3 (fun x=>decide ((FP t.2.2.2.1 s).1=x)) ((GD t).getD j [])with⟨e,_⟩|⟨i,x,e,e2,e3,_⟩
   ·rw[e]at hk;cases hk
   ·rw[e]at hk;have hk:i=k:=by have:=hk;injection this
    subst hk;have e3:(FP t.2.2.2.1 s).1=x:=A6 e3;rcases hO.pin j s hj with⟨z,_⟩|⟨k',v',z1,z2,z3⟩
    ·rw[hp1]at z;cases z
    ·rw[hp1]at z1;cases z1;rw[e2]at z2;cases z2;rw[z3,e3];exact⟨rfl,rfl⟩
  ·cases h4
omit hH in
theorem ANc(hasc:l.Pairwise fun a b=>a.1<b.1)(hp:p.length=(F9 t.1).length)(hr:Right t l):Val (F9 t.1) (GD t) W A st rt p:=by
 have hF:=qD ht hR;have hN:=qE ht hR;have hgn:∀{j},j<(F9 t.1).length->(F9 t.1)[j]?=some ((F9 t.1).getD j []):=fun h=>P7 h
 have hcn:∀j<(F9 t.1).length,p.getD j 0<=cnt (GD t) j:=fun j hj=>by
  rcases hO.pin j _ (hgn hj)with⟨h,_⟩|⟨k,v,h1,h2,_⟩
  ·rw[h];exact BQ _
  ·rw[h1];exact(AA.1 h2).1
 have hnds:∀j<(F9 t.1).length,∀nd∈I5 t (F9 t.1) (GD t) j (p.getD j 0),N4 l nd:=fun j hj nd h=>by
  obtain⟨k,v,nm,e,h1,h2,h3⟩:=RS h;rcases hO.pin j _ h2 with⟨z,_⟩|⟨k',v',z1,z2,z3⟩
  ·rw[e]at z;cases z
  ·rw[e]at z1;cases z1;rw[h1]at z2;cases z2;exact(hr.pins (nm,v) ((N5 hasc _ _).1 z3)).2 nd h3
 refine⟨hp,fun j hj=>?_,fun j hj k hk hkj=>?_,fun i hi=>?_⟩
 ·rw[hG.st j hj];refine⟨hcn j hj,fun nd h=>hO.inn _ (hnds j hj nd h).1,fun nd h he=>?_,fun fz h he=>?_⟩
  ·exact(V7 hO nd he).1 (hr.needs nd h)
  ·obtain⟨h1,h2⟩:=hr.frozen fz h;rcases hO.pin j _ he with⟨_,z⟩|⟨k,v,z1,z2,z3⟩
   ·rw[z]at h1;cases h1
   ·rw[z3]at h2;have h2:v=(FP t.2.2.2.1 fz).1:=h2;rw[z1];unfold oF;rcases N3 (fun x=>decide ((FP t.2.2.2.1 fz).1=x)) ((GD t).getD j [])with⟨_,e⟩|⟨i,x,e,e2,e3,_⟩
    ·have:=e v (B0 z2);rw[h2]at this;simp at this
    ·have e3:(FP t.2.2.2.1 fz).1=x:=A6 e3;rw[<-e3,<-h2]at e2;have hnd:((GD t).getD j []).Nodup:=by rw[dK ht hR he];exact A5E ht hR fz
     have:=M3 hnd e2 z2;subst this;rw[e];exact A7 rfl
 ·rw[hG.al k hk _ (hcn k hk) j hj];exact⟨hcn j hj,fun nd h he=>(V7 hO nd he).1 (hnds k hk nd h),fun nd h he=>(V7 hO nd he).1 (hnds j hj nd h)⟩
 ·have key:∀s,CR t l s->∀i,(F9 t.1)[i]?=some s->Reach (F9 t.1).length (GD t) W rt (fun i a=>p.getD i 0=a) i:=by
   intro s hs;induction hs with
   |root h _=>
    intro i hi;refine .root ((hG.rt i).2 ?_);unfold V3 at h;rw[AP,B_]at h;rcases h with h|⟨nd,h,e⟩
    ·exact .inr ⟨_,h,hi⟩
    ·subst e;exact .inl ⟨nd,h,hi⟩
   |step h1 h2 h3 ih=>
    rename_i s nd;intro i hi;have hps:=h1.pinned;obtain⟨j,k,hj,hk,hkv,hnd⟩:=qG (v:=(FP l s).1) hO (by rw[<-hps]);have hjl:=(AA.1 hj).1;refine .step (ih j hj) hjl (a:=p.getD j 0) (hcn j hjl) rfl ((hG.wa j hjl _ (hcn j hjl) i).2 ⟨nd,?_,hi⟩);rw[hk,hnd];exact h2
  rcases hO.pin i _ (hgn hi)with⟨h,_⟩|⟨k,v,h1,h2,h3⟩
  ·exact .inl h
  ·exact .inr (key _ (hr.more (_,v) ((N5 hasc _ _).1 h3)) i (hgn hi))
end
theorem ANd{t:FK}(ht:TkB t)(hR:RegOk t.1){l:List G5}(hasc:l.Pairwise fun a b=>a.1<b.1)(hc:∀x∈l,x.2∈JS t x.1):∃p:List Nat,p.length=(F9 t.1).length/\Of (F9 t.1) (GD t) p l:=by
 let f:E0->Nat:=fun nm=>match FP l nm with
  |(v,true)=>(IE t nm).idxOf v+1
  |_=>0
 refine⟨(F9 t.1).map f,by rw[AO],fun j nm hj=>?_,fun nm h=>?_⟩
 ·have e:((F9 t.1).map f).getD j 0=f nm:=by
   rw[A2,AL,hj];rfl
  rw[e];rcases P3 l nm with⟨h,_⟩|⟨v,h,hm⟩
  ·refine .inl ⟨?_,h⟩;show(match FP l nm with|(v,true)=>(IE t nm).idxOf v+1|_=>0)=0;rw[h]
  ·have hmem:v∈IE t nm:=List.mem_reverse.2 (hc _ hm);refine .inr ⟨(IE t nm).idxOf v,v,?_,?_,h⟩
   ·show(match FP l nm with|(v,true)=>(IE t nm).idxOf v+1|_=>0)=_;rw[h]
   ·rw[dK ht hR hj];have:=List.idxOf_lt_length_iff.2 hmem;rw[A0 this,List.getElem_idxOf this]
 ·rcases P3 l nm with⟨e,_⟩|⟨v,e,hm⟩
  ·rw[e]at h;cases h
  ·obtain⟨o,ho,e2,_⟩:=dJ.1 (hc _ hm);exact(RP _ _).2 ⟨o,ho,e2⟩
theorem ANe{t:FK}{l:List G5}(hr:Right t l):dI t (F9 t.1):=by
 have hin:∀nm,(FP l nm).2=true->nm∈F9 t.1:=fun nm h=>by
  rcases P3 l nm with⟨e,_⟩|⟨v,e,hm⟩
  ·rw[e]at h;cases h
  ·obtain⟨o,ho,e2,_⟩:=dJ.1 (hr.pins _ hm).1;exact(RP _ _).2 ⟨o,ho,e2⟩
 exact⟨fun nd h=>hin _ (hr.needs nd h).1,fun fz h=>hin _ (hr.frozen fz h).1⟩
theorem ANf{t:FK}{ns:List E0}{os:List (List E0)}{W:List (List Int)}{A:List (List (List Int))}{st:List Int}{rt:Int}(hG:Good t ns os W A st rt):∀(d:Nat) (pre:List Nat),pre.length+d=ns.length->(GO ns os W A st rt d pre).Nodup:=by
 intro d;induction d with
 |zero=>
  intro pre _;unfold GO;split
  ·exact DY _ _
  ·exact List.Pairwise.nil
 |succ d ih=>
  intro pre hl;unfold GO List.Nodup;have hl':∀a,(pre++[a]).length+d=ns.length:=fun a=>by rw[A9];simp only[AG,AV];omega
  rw[List.pairwise_flatMap];refine⟨fun a _=>ih _ (hl' a),(List.pairwise_lt_range).imp fun {a b} hab x hx y hy e=>?_⟩;subst e;obtain⟨_,r,hr⟩:=(V6 hG x d _ (hl' a)).1 hx;obtain⟨_,r',hr'⟩:=(V6 hG x d _ (hl' b)).1 hy;have:=hr.trans hr'.symm;rw[C7,C7]at this;have:=List.append_cancel_left this;simp at this;omega
theorem ANg{t:FK}(ht:TkB t)(hR:RegOk t.1):∃S:List (List G5),S.Nodup/\(∀l,l∈S<->LkOk l/\Right t l)/\L_ (t,0)=some []/\∀M:Nat,0<M->M<=1000->L_ (t,(M:Int))=some (S.take M):=by
 have hF:=qD ht hR;obtain⟨q,hq,hq2⟩:=ANI t ht hF (qE ht hR)
 have hdef:∀m:Int,L_ (t,m)=bif ((!q.2)||(E6 m (0:Int)))then some ([]:List (List G5))else(UL (q.1,(),(),[],q.1,m)).bind fun r2=>some r2:=by
  intro m;unfold L_;dsimp only;rw[hq,A1]
 have h0:L_ (t,0)=some []:=by
  rw[hdef,show E6 (0:Int) 0=true from rfl,Bool.or_true,AB]
 rcases hq2 with⟨h1,h2⟩|⟨h1,h2,W,A,st,rt,h3,hG⟩
 ·refine⟨[],List.Pairwise.nil,fun l=>⟨fun h=>(by cases h),fun h=>absurd (ANe h.2) h2⟩,h0,fun M _ _=>?_⟩;rw[hdef,h1];simp
 ·have hasc:=ANX hR.asc
  have hval:∀x∈GO (F9 t.1) (GD t) W A st rt (F9 t.1).length [],Val (F9 t.1) (GD t) W A st rt x/\Of (F9 t.1) (GD t) x (HJ (F9 t.1) (GD t) x):=fun x hx=>by
   have hv:=((V6 hG x _ [] (by simp)).1 hx).1;exact⟨hv,ANZ hasc fun j hj=>qB hG hv hj⟩
  refine⟨(GO (F9 t.1) (GD t) W A st rt (F9 t.1).length []).map (HJ (F9 t.1) (GD t)),?_,fun l=>?_,h0,fun M hM hM2=>?_⟩
  ·unfold List.Nodup;rw[List.pairwise_map];refine(ANf hG _ [] (by simp)).imp_of_mem fun {a b} ha hb hab e=>hab ?_;obtain⟨v1,o1⟩:=hval a ha;obtain⟨v2,o2⟩:=hval b hb;refine ANa (fun j=>?_) v1.len v2.len o1 (by rw[e];exact o2);rcases C8 j (F9 t.1).length with hj|hj
   ·rw[dK ht hR (P7 (d:=([]:E0)) hj)];exact A5E ht hR _
   ·rw[NW (by rw[hF.len];exact hj)];exact List.Pairwise.nil
  ·rw[B_];constructor
   ·rintro⟨x,hx,rfl⟩;obtain⟨hv,ho⟩:=hval x hx;have hla:=qF (os:=GD t) hasc x;have hr:=ANb ht hR hG h2 ho hla hv;refine⟨⟨?_,fun y hy=>?_,hla⟩,hr⟩
    ·unfold HJ;exact AY (List.length_filterMap_le _ _) (by rw[CX];exact hR.few)
    ·obtain⟨o,ho,e1,_,e2⟩:=dJ.1 (hr.pins y hy).1;rw[<-e1,<-e2];exact(hR.ok o ho).pin
   ·rintro⟨hl,hr⟩;obtain⟨x,hx,ho⟩:=ANd ht hR hl.asc fun x hx=>(hr.pins x hx).1;refine⟨x,(V6 hG x _ [] (by simp)).2 ⟨ANc ht hR hG ho hl.asc hx hr,List.nil_prefix⟩,AN_ hasc hl.asc ho⟩
  ·rw[hdef,h1,BV,CM,E4,AC (by omega),AE,h3,ANT hF hG M hM2 hM,A1]
end Go.Ev.Pv
namespace Go.Ev.Pv
theorem qH:UM ()=some true:=by kernel_rfl
end Go.Ev.Pv
namespace Go.Ev.Pv
end Go.Ev.Pv
namespace Go.Ev.Pv
abbrev wN(t:FK)(l:List FI):FK:=(t.1,(l,t.2.2))
def IT(t:FK)(l:List FI):Prop:=∃k,LkOk k/\Right (wN t l) k
noncomputable instance decSolv(t:FK)(l:List FI):Decidable (IT t l):=Classical.propDecidable _
open Classical in
theorem qI{t:FK}{a b:List FI}(h:∀nd∈GU t.2.2.1 a,nd∈GU t.2.2.1 b)(hb:IT t b):IT t a:=by
 obtain⟨k,hk,hr⟩:=hb;let k':=k.filter fun x=>decide (CR (wN t a) k x.1)
 have hsub:List.Sublist k' k:=DQ;have hasc':k'.Pairwise fun a b=>a.1<b.1:=hk.asc.sublist hsub
 have hpin:∀nm,CR (wN t a) k nm->FP k' nm=FP k nm:=by
  intro nm hc;have h2:=hc.pinned;rcases P3 k nm with⟨e,_⟩|⟨v,e,hm⟩
  ·rw[e]at h2;cases h2
  ·rw[e,N5 hasc'];exact C0.2 ⟨hm,A7 hc⟩
 have hmet:∀nd,N4 k nd->CR (wN t a) k nd.1->N4 k' nd:=fun nd hm hc=>by
  unfold N4 at hm ⊢;rw[hpin _ hc];exact hm
 have hcr:∀s,CR (wN t a) k s->CR (wN t a) k' s:=by
  intro s hc;induction hc with
  |root h1 h2=>exact .root h1 (by rw[hpin _ (.root h1 h2)];exact h2)
  |step h1 h2 h3 ih=>exact .step ih (by rw[hpin _ h1];exact h2) (by rw[hpin _ (.step h1 h2 h3)];exact h3)
 refine⟨k',⟨AY hsub.length_le hk.few,fun p hp=>hk.ok p (hsub.subset hp),hasc'⟩,fun nd hnd=>?_,fun p hp=>?_,fun p hp=>?_,fun s hs=>?_⟩
 ·have hm:N4 k nd:=hr.needs nd (h nd hnd);refine hmet nd hm (.root ?_ hm.1);unfold V3;rw[AP,B_];exact .inr ⟨nd,hnd,rfl⟩
 ·obtain⟨h1,h2⟩:=C0.1 hp;have h2:CR (wN t a) k p.1:=A6 h2;obtain⟨g1,g2⟩:=hr.pins p h1;refine⟨g1,fun nd hnd=>?_⟩;have hm:=g2 nd hnd;refine hmet nd hm (.step h2 ?_ hm.1);have:FP k p.1=(p.2,true):=(N5 hk.asc _ _).2 h1;rw[this];exact hnd
 ·obtain⟨_,h2⟩:=C0.1 hp;exact hcr _ (A6 h2)
 ·obtain⟨g1,g2⟩:=hr.frozen s hs;have hc:CR (wN t a) k s:=.root (by unfold V3;rw[AP];exact .inl hs) g1;rw[hpin _ hc];exact⟨g1,g2⟩
theorem A5F(s:Int)(l:List FI):GU s (GU s l)=GU s l:=by
 unfold GU;rw[List.filter_filter];simp
theorem ANh{s:Int}{a b:List FI}(h:List.Sublist a b):∀nd∈GU s a,nd∈GU s b:=fun nd hnd=>(h.filter _).subset hnd
section
variable{t:FK}(ht:TkB t)(hB:BB t.2.2.2.2.2.2)(hc:OO t=some 0)
include ht hB hc
theorem A5G{l:List FI}(hl:List.Sublist l t.2.1):TkB (wN t l):=
 ⟨ht.offers,ht.offer,AY hl.length_le ht.needs,fun nd h=>ht.need nd (hl.subset h),ht.old,ht.pin,ht.frozen,ht.name⟩
theorem A5H{l:List FI}(hl:List.Sublist l t.2.1):OO (wN t l)=some 0/\TaskOk (wN t l):=by
 obtain⟨e,h1,h2⟩:=pY t ht hB;rw[hc]at h1;cases h1;obtain⟨hr,hk⟩:=h2.1 rfl;obtain⟨e',h1',h2'⟩:=pY (wN t l) (A5G ht hB hc hl) hB;have hk':TaskOk (wN t l):=⟨hk.reg,⟨AY hl.length_le hk.needs.few,fun nd h=>hk.needs.ok nd (hl.subset h),hk.needs.asc.sublist hl⟩,hk.scope,hk.old,hk.frozen,hk.asc,hk.base⟩;rw[h1',h2'.2 ⟨hr,hk'⟩];exact⟨rfl,hk'⟩
theorem qJ{l:List FI}(hl:List.Sublist l t.2.1):∃S,L_ (wN t l,1)=some S/\decide ((0:Int)<(S.length:Int))=decide (IT t l)/\S.length<=1:=by
 have hk:=(A5H ht hB hc hl).2;obtain⟨S,_,hS,_,hf⟩:=ANg (A5G ht hB hc hl) hk.reg;refine⟨S.take 1,hf 1 (by decide) (by decide),?_,by rw[B2];omega⟩;rw[B2];by_cases hs:IT t l
 ·obtain⟨k,k1,k2⟩:=hs;have:=List.length_pos_of_mem ((hS k).2 ⟨k1,k2⟩);rw[A7 (by omega),A7 ⟨k,k1,k2⟩]
 ·have:S=[]:=D2.2 fun k hk=>hs ⟨k,(hS k).1 hk⟩;subst this;rw[AC hs];rfl
theorem qK{l:List FI}(hl:List.Sublist l t.2.1):∃a,OP (wN t l)=some (a,decide (IT t l),0):=by
 obtain⟨S,h1,h2,h3⟩:=qJ ht hB hc hl;unfold OP;rw[(A5H ht hB hc hl).1,A1,show(!(E6 (0:Int) 0))=false from rfl,AE,h1,A1];rcases S with _|⟨s,S⟩
 ·rw[←h2];exact⟨[],rfl⟩
 ·rw[<-h2];refine⟨s,?_⟩;rw[E4,AC (by simp only[AG];omega),AE,A7 (by simp only[AG];omega)];rfl
omit ht hB hc in
theorem A5I(l:List FI)(i:Nat)(hi:i<l.length)(hl:l.length<4611686018427387904):TJ (l,(i:Int),IntKind.i64.wrap ((i:Int)+1))=some (l.eraseIdx i):=by
 unfold TJ XO;dsimp only;rw[FX (by omega),if_pos ⟨by omega,by omega,by omega⟩,B4,show((i:Int)+1).toNat=i+1 by omega,List.eraseIdx_eq_take_drop_succ]
omit ht hB hc in
theorem A5J(l:List FI)(hl:l.length<=1048576):bN l=some l:=by
 show(app? 96 ([]:List FI) l).bind (fun l2=>some l2)=_;unfold app?;rw[A7 (by simp only[AV];omega)];rfl
omit ht hB hc in
theorem ANi(l:List NR)(hl:l.length<=1048576):nJ l=some l:=by
 show(app? 144 ([]:List NR) l).bind (fun l2=>some l2)=_;unfold app?;rw[A7 (by simp only[AV];omega)];rfl
omit ht hB hc in
theorem ANj{α:Type}{l:List α}{i j:Nat}(h:j<i):List.Sublist ((l.eraseIdx i).eraseIdx j) (l.eraseIdx j):=by
 have:(l.eraseIdx i).eraseIdx j=(l.eraseIdx j).eraseIdx (i-1):=by
  apply BN;intro k;simp only[List.getElem?_eraseIdx]
  repeat' split
  all_goals first
   |rfl
   |omega
   |(congr 1;omega)
 rw[this];exact List.eraseIdx_sublist _ _
theorem ANk(h0:¬IT t (GU t.2.2.1 t.2.1)):Tot (nK (t,GU t.2.2.1 t.2.1,0)) (fun q=>List.Sublist q (GU t.2.2.1 t.2.1)/\¬IT t q/\∀j<q.length,IT t (q.eraseIdx j)):=by
 have hsubt:List.Sublist (GU t.2.2.1 t.2.1) t.2.1:=DQ;have hnd:=ht.needs;have hcl:(GU t.2.2.1 t.2.1).length<=1048576:=AY hsubt.length_le hnd
 refine F4 (R:=fun q=>List.Sublist q (GU t.2.2.1 t.2.1)/\¬IT t q/\∀j<q.length,IT t (q.eraseIdx j))
  (fun y:FK×List FI×Int=>(∃l,y.1=wN t l)/\List.Sublist y.2.1 (GU t.2.2.1 t.2.1)/\¬IT t y.2.1/\∃i:Nat,y.2.2=(i:Int)/\i<=y.2.1.length/\∀j<i,IT t (y.2.1.eraseIdx j))
  (fun y=>y.2.1.length-y.2.2.toNat) ?_ _ _ ⟨⟨t.2.1,rfl⟩,List.Sublist.refl _,h0,0,rfl,BQ _,fun j h=>by omega⟩ (by unfold fuel;dsimp only;omega)
 rintro next ⟨t1,left,i⟩ hI hn
 dsimp only at hI hn;obtain⟨⟨l,rfl⟩,h1,h2,i,rfl,h3,h4⟩:=hI;have hll:left.length<=1048576:=AY h1.length_le hcl;unfold yI;dsimp only;rw[FD];refine E3.2 ⟨fun hlt=>?_,fun hlt=>?_⟩
 ·have hlt:=A6 hlt;have hsub:List.Sublist (left.eraseIdx i) (GU t.2.2.1 t.2.1):=(List.eraseIdx_sublist _ _).trans h1;obtain⟨S,g1,g2,_⟩:=qJ ht hB hc (hsub.trans hsubt);have hel:(left.eraseIdx i).length=left.length-1:=by rw[List.length_eraseIdx,if_pos hlt]
  rw[A5J left hll,A1,A5I left i hlt (by omega),A1,g1,A1,FX (by omega),g2];refine E3.2 ⟨fun hs=>?_,fun hs=>?_⟩
  ·have hs:=A6 hs;refine hn _ ⟨⟨_,rfl⟩,h1,h2,i+1,by simp,hlt,fun j hj=>?_⟩ (by dsimp only;omega);by_cases hji:j=i
   ·subst hji;exact hs
   ·exact h4 j (by omega)
  ·have hs:=AF hs;refine hn _ ⟨⟨_,rfl⟩,hsub,hs,i,rfl,by dsimp only;omega,fun j hj=>?_⟩ (by dsimp only;omega);exact qI (ANh (ANj hj)) (h4 j hj)
 ·have hlt:=AF hlt;exact E2.2 ⟨h1,h2,fun j hj=>h4 j (by omega)⟩
omit ht hB hc in
theorem ANl(l:List FI)(hl:l.length<=1048576)(hs:∀nd∈l,nd.2.1.2.length<=1048576):nM ([],l,(l.length:Int),0)=some l:=by
 refine JQ ?_;refine GI (σ:=List FI) l.length (fun s i=>(s,l,(l.length:Int),i)) (fun m s=>s=l.take m) (by omega) (fun next s i hi hj hn=>?_) (fun next s hj=>?_) [] (by simp)
 ·unfold nL;dsimp only;rw[FD,A7 hi,AB,FW (A0 hi),A1,ANi _ (hs _ (BF hi)),A1,FX (by omega)];have hsl:s.length<=i:=by rw[hj,B2];omega
  refine E1.2 (GH.2 ⟨by simp only[AG,AV];omega,hn _ ?_⟩);rw[H4 (A0 hi),hj]
 ·unfold nL;dsimp only;rw[FD,AC (AJ _),AE];exact E2.2 (by rw[hj,BL])
theorem ANm(l:List FI)(l0:List FI)(hl:List.Sublist l t.2.1)(hs:∀j<l.length,IT t (l.eraseIdx j)):nP (wN t l0,l,(l.length:Int),0)=some (.inl ()):=by
 have hll:l.length<=1048576:=AY hl.length_le ht.needs;refine JQ ?_;refine GI (σ:=List FI) l.length (fun s i=>(wN t s,l,(l.length:Int),i)) (fun _ _=>True) (by omega) (fun next s i hi _ hn=>?_) (fun next s _=>?_) l0 trivial
 ·unfold nO;dsimp only;obtain⟨a,ha⟩:=qK ht hB hc ((List.eraseIdx_sublist l i).trans hl);rw[FD,A7 hi,AB,A5J l hll,A1,A5I l i hi (by omega),A1,ha,A1,FX (by omega),A7 (hs i hi)];exact hn _ trivial
 ·unfold nO;dsimp only;rw[FD,AC (AJ _),AE];exact E2.2 rfl
end
theorem ANn(t:FK)(ht:TkB t)(hB:BB t.2.2.2.2.2.2)(hsp:∀nd∈t.2.1,nd.2.1.2.length<=1048576):bO t=some true:=by
 obtain⟨e,hc,he⟩:=pY t ht hB;unfold bO nN;simp only[hc,A1];by_cases h0:e=0
 ·subst h0;simp only[show(!(E6 (0:Int) 0))=false from rfl,AE];obtain⟨S,f1,f2,_⟩:=qJ ht hB hc (List.Sublist.refl t.2.1);obtain⟨a,ha⟩:=qK ht hB hc (List.Sublist.refl t.2.1);have ht':wN t t.2.1=t:=rfl;rw[ht']at f1 ha;rw[f1,A1,f2];have hequ:IT t (GU t.2.2.1 t.2.1)<->IT t t.2.1:=⟨qI (by rw[A5F];exact fun _ h=>h),qI (by rw[A5F];exact fun _ h=>h)⟩;by_cases hs:IT t t.2.1
  ·rw[A7 hs]at ha;rw[A7 hs,AB,A1];simp only[show(!(E6 (0:Int) 0))=false from rfl,AE,D9,AB];rw[ha];simp[E6,IV,qH]
  ·rw[AC hs]at ha;rw[AC hs,AE,pU _ _ ht.needs,A1];obtain⟨q,q1,q2,q3,q4⟩:=ANk ht hB hc (fun h=>hs (hequ.1 h));have hsub:List.Sublist q t.2.1:=q2.trans DQ;rw[q1,A1,ANl q (AY hsub.length_le ht.needs) (fun nd h=>hsp nd (hsub.subset h))];obtain⟨b,hb⟩:=qK ht hB hc hsub;rw[AC q3]at hb;simp only[A1,show(!(E6 (0:Int) 0))=false from rfl,AE];rw[ha];simp only[A1,show(!(E6 (0:Int) 0))=false from rfl,CM,show IV false true=false from rfl,AE,BV];rw[hb];simp only[A1,show(!(E6 (0:Int) 0))=false from rfl,Bool.or_self,AE];rw[ANm ht hB hc q q hsub q4];simp[qH]
 ·have h1:(!(E6 e (0:Int)))=true:=by rw[E4,AC h0];rfl
  simp only[h1,AB,A1,qH]
end Go.Ev.Pv
