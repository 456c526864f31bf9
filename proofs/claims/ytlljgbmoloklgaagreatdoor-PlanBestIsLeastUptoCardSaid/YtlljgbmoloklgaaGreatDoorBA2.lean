/-
  The law as plain Lean, second part: the solver's tables, what it goes through, what is wrong with a lock.
-/
import Derived.Test.YtlljgbmoloklgaaGreatDoorBD
import Derived.Test.YtlljgbmoloklgaaGreatDoorBA1
import Derived.KernelRfl
set_option linter.unusedVariables false
set_option linter.unusedSimpArgs false
set_option linter.unusedSectionVars false
set_option maxRecDepth 100000
open Go.IntKind hiding min max bits signed
namespace Go.Ev.Pv
theorem IG{α:Type}{m:Option α}{v:α}(h:Tot m fun r=>r=v):m=some v:=let ⟨_,h1,h2⟩:=h;h2▸h1
theorem FY{X R σ:Type}{r:(X->Option R)->X->Option R}(n:Nat)(enc:σ->Int->X)(J:Nat->σ->Prop){Q:R->Prop}(hn:n<4611686018427387904)
 (hstep:∀next s (i:Nat),i<n->J i s->(∀s',J (i+1) s'->Tot (next (enc s' ((i:Int)+1))) Q)->Tot (r next (enc s (i:Int))) Q)
 (hend:∀next s,J n s->Tot (r next (enc s (n:Int))) Q)(s0:σ)(h0:J 0 s0):Tot (EL r fuel (enc s0 0)) Q:=by
 have key:∀(m i k:Nat) s,i+m=n->m<k->J i s->Tot (EL r k (enc s (i:Int))) Q:=by
  intro m;induction m with
  |zero=>
   intro i k s hi hk hj;cases k with
   |zero=>omega
   |succ k=>
    rw[show i=n by omega]at hj ⊢;exact hend _ s hj
  |succ m ih=>
   intro i k s hi hk hj;cases k with
   |zero=>omega
   |succ k=>
    refine hstep _ s i (by omega) hj fun s' hs'=>?_;have:=ih (i+1) k s' (by omega) (by omega) hs';rwa[show((i+1:Nat):Int)=(i:Int)+1 by omega]at this
 have:=key n 0 fuel s0 (by omega) (by unfold fuel;omega) h0;exact this
theorem FQ{i:Nat}(h:i<4611686018427387904):i64.wrap ((i:Int)+1)=(i:Int)+1:=E_ (by omega) (by omega)
theorem FH{α:Type}{l:List α}{i:Nat}{x:α}(h:l[i]?=some x):at? l (i:Int)=some x:=by
 unfold at?;rw[A6 (BC i)];exact h
theorem HH{n i:Nat}(h:i<n):in? n (i:Int)=some ():=by
 unfold in?;rw[A6 (BC i),A6 (by omega:(i:Int)<n)];rfl
theorem F9(i n:Nat):decide ((i:Int)<(n:Int))=decide (i<n):=by
 by_cases h:i<n
 ·rw[A6 h,A6 (by omega)]
 ·rw[AB h,AB (by omega)]
def G4(s:Int):Prop:=0<=s/\s<65536
def bt(s:Int)(i:Nat):Bool:=s.toNat.testBit i
theorem SZ{n:Nat}(h:n<65536):G4 (n:Int):=⟨by omega,by omega⟩
theorem S_{n:Nat}(h:n<65536):u16.wrap (n:Int)=n:=by
 simp only[IntKind.wrap,IntKind.bits,IntKind.signed];simp;omega
theorem NQ{s:Int}(h:G4 s):(BitVec.ofInt 16 s).toNat=s.toNat:=by
 obtain⟨h0,h1⟩:=h;rw[BitVec.toNat_ofInt];omega
theorem A7U{s:Int}(h:G4 s){i:Nat}(hi:16<=i):bt s i=false:=by
 unfold bt;apply Nat.testBit_lt_two_pow;have:2 ^ 16<=2 ^ i:=DG (by decide) hi;have h1:=h.2;have h0:=h.1;omega
theorem XA{a b:Int}(ha:G4 a)(hb:G4 b)(h:∀i,bt a i=bt b i):a=b:=by
 have:a.toNat=b.toNat:=Nat.eq_of_testBit_eq h;have:=ha.1;have:=hb.1;omega
theorem gH{a b:Int}(ha:G4 a)(hb:G4 b):G4 (HK u16 a b)/\∀i,bt (HK u16 a b) i=(bt a i||bt b i):=by
 have e:HK u16 a b=((a.toNat|||b.toNat:Nat):Int):=by
  unfold HK;rw[show u16.bits=16 from rfl,BitVec.toNat_or,NQ ha,NQ hb];exact S_ (Nat.or_lt_two_pow (n:=16) (by have:=ha.2;omega) (by have:=hb.2;omega))
 rw[e];refine⟨SZ (Nat.or_lt_two_pow (n:=16) (by have:=ha.2;omega) (by have:=hb.2;omega)),fun i=>?_⟩;simp[bt,Nat.testBit_or]
theorem T0{a b:Int}(ha:G4 a)(hb:G4 b):G4 (IH u16 a b)/\∀i,bt (IH u16 a b) i=(bt a i&&bt b i):=by
 have e:IH u16 a b=((a.toNat &&& b.toNat:Nat):Int):=by
  unfold IH;rw[show u16.bits=16 from rfl,BitVec.toNat_and,NQ ha,NQ hb];exact S_ (Nat.and_lt_two_pow (n:=16) _ (by have:=hb.2;omega))
 rw[e];refine⟨SZ (Nat.and_lt_two_pow (n:=16) _ (by have:=hb.2;omega)),fun i=>?_⟩;simp[bt,Nat.testBit_and]
theorem A7V{a b:Int}(ha:G4 a)(hb:G4 b):G4 (N1 u16 a b)/\∀i,bt (N1 u16 a b) i=(bt a i && !bt b i):=by
 have hlt:(BitVec.ofInt 16 a &&& ~~~BitVec.ofInt 16 b).toNat<65536:=(BitVec.ofInt 16 a &&& ~~~BitVec.ofInt 16 b).isLt;have e:N1 u16 a b=((BitVec.ofInt 16 a &&& ~~~BitVec.ofInt 16 b).toNat:Int):=S_ hlt;rw[e];refine⟨SZ hlt,fun i=>?_⟩;unfold bt;rw[B7,<-BitVec.getLsbD,BitVec.getLsbD_and];by_cases hi:i<16
 ·rw[BitVec.getLsbD_not,A6 hi];unfold BitVec.getLsbD;rw[NQ ha,NQ hb];rfl
 ·have h1:=A7U ha (i:=i) (by omega);unfold bt at h1;rw[h1];unfold BitVec.getLsbD;rw[NQ ha,h1];rfl
theorem IU{i:Nat}(h:i<=15):shl? u16 (1:Int) (i:Int)=some ((2 ^ i:Nat):Int)/\G4 ((2 ^ i:Nat):Int):=by
 have hp:2 ^ i<65536:=Nat.lt_of_le_of_lt (DG (by decide) h) (by decide:2 ^ 15<65536);refine⟨?_,SZ hp⟩;unfold shl?
 rw [AB (by omega),show min (i:Int).toNat u16.bits=i by
  show min (i:Int).toNat 16=i;omega]
 show some _=_
 congr 1
 rw[Int.one_mul];have:=S_ hp;rw[show(((2 ^ i:Nat)):Int)=(2:Int) ^ i by simp]at this ⊢;exact this
theorem KR(i j:Nat):bt ((2 ^ i:Nat):Int) j=decide (i=j):=by
 unfold bt;rw[B7,Nat.testBit_two_pow]
theorem uM{n:Nat}(h:n<=15):VW (n:Int)=some ((2 ^ n-1:Nat):Int)/\G4 ((2 ^ n-1:Nat):Int):=by
 have hp:2 ^ n<65536:=Nat.lt_of_le_of_lt (DG (by decide) h) (by decide:2 ^ 15<65536);have h0:0<2 ^ n:=Nat.pow_pos (by decide);refine⟨?_,SZ (by omega)⟩;unfold VW;rw[(IU h).1];show some _=_
 congr 1
 have:=S_ (n:=2 ^ n-1) (by omega);rwa[show((2 ^ n-1:Nat):Int)=((2 ^ n:Nat):Int)-1 by omega]at this ⊢
theorem A7W(n j:Nat):bt ((2 ^ n-1:Nat):Int) j=decide (j<n):=by
 unfold bt;rw[B7,Nat.testBit_two_pow_sub_one]
theorem OI(j:Nat):bt 0 j=false:=by simp[bt]
theorem OJ:G4 0:=⟨by decide,by decide⟩
theorem MU{s:Int}(h:G4 s)(i:Nat):L6 (s,(i:Int))=some (bt s i):=by
 obtain⟨h0,h1⟩:=h;unfold L6 shr?;dsimp only;rw[AB (by omega)];show some _=_
 congr 1
 have hs:s=((s.toNat:Nat):Int):=by omega
 have hq:s.fdiv (2 ^ min (i:Int).toNat u16.bits)=((s.toNat / 2 ^ min i 16:Nat):Int):=by
  rw[show(min (i:Int).toNat u16.bits)=min i 16 from by show min (i:Int).toNat 16=_;omega];rw[DU _ (by exact Int.pow_nonneg (by decide))];conv=>lhs;rw[hs]
  simp
 rw[hq];have hlt:s.toNat / 2 ^ min i 16<65536:=Nat.lt_of_le_of_lt (Nat.div_le_self _ _) (by omega);have ha:=T0 (SZ hlt) (b:=1) ⟨by decide,by decide⟩
 have e:bt s i=(s.toNat / 2 ^ min i 16).testBit 0:=by
  rcases CG i 16 with hi|hi
  ·rw[E0 (by omega),Nat.testBit_div_two_pow];simp[bt]
  ·rw[A7U ⟨h0,h1⟩ hi,Nat.min_eq_right hi,Nat.div_eq_of_lt (by omega)];rfl
 have hb:∀j,bt (IH u16 ((s.toNat / 2 ^ min i 16:Nat):Int) 1) j=(bt s i&&decide (j=0)):=by
  intro j;rw[ha.2 j]
  have:bt 1 j=decide (j=0):=by
   have:=KR 0 j;simp only[Nat.pow_zero]at this;rw[show((1:Nat):Int)=1 from rfl]at this;rw[this];by_cases hj:j=0<;>simp[hj,eq_comm]
  rw[this];by_cases hj:j=0
  ·subst hj;rw[e];unfold bt;rw[B7];first|done|simp
  ·simp[hj]
 rw[E5];cases hbi:bt s i with
 |true=>
  apply A6;refine XA ha.1 ⟨by decide,by decide⟩ fun j=>?_;rw[hb,hbi];have:=KR 0 j;simp only[Nat.pow_zero]at this;rw[show((1:Nat):Int)=1 from rfl]at this;rw[this];by_cases hj:j=0<;>simp[hj,eq_comm]
 |false=>
  apply AB;intro he;have h2:=hb 0;rw[he,hbi]at h2;revert h2;decide
theorem gI{s:Int}(h:G4 s):E6 s 0=false<->∃i,bt s i=true:=by
 rw[E5];constructor
 ·intro hs;apply C2;intro hn
  have:s=0:=XA h OJ fun i=>by
   rw[OI];cases hb:bt s i with
   |false=>rfl
   |true=>exact absurd ⟨i,hb⟩ hn
  exact AG hs this
 ·rintro⟨i,hi⟩;apply AB;rintro rfl;rw[OI]at hi;cases hi
abbrev GA:=E1×(Int×List ((Bool×Bool×E1)×(Bool×Bool×E1)))×Int
abbrev GS:=E1×E1×List GA×Bool
abbrev FR:=E1×E1
abbrev AQG:=Int×(List (E1×(List E1)×E1×Int×Bool×E1×(List (E1×Int×(List (Int×E1))×(List E1)×(List E1)))))×(List Int)
abbrev FI:=List GS×List GA×Int×List FR×List E1×Bool×AQG
abbrev T1:=FI×List E1×List (List E1)×List (List Int)×List (List (List Int))×List Int×Int
theorem A7X{α:Type}{p:α->Bool}{s:List α}{x:α}(h:p x=true):s++[x]=s++[x].filter p:=by simp[h]
theorem A7Y{α:Type}{p:α->Bool}{s:List α}{x:α}(h:p x=false):s=s++[x].filter p:=by simp[h]
def IV{α:Type}(p:α->Bool)(l:List α):Int:=match l.findIdx? p with
 |some i=>i
 |none=>-1
theorem gJ{α:Type}{p:α->Bool}{l:List α}{i:Nat}{x:α}(h:l[i]?=some x)(hp:p x=true)(hn:∀y∈l.take i,p y=false):IV p l=i:=by
 have:l.findIdx? p=some i:=by
  rw[List.findIdx?_eq_some_iff_getElem];obtain⟨hi,hx⟩:=AE.1 h;refine⟨hi,by rw[hx];exact hp,fun j hj=>?_⟩;have:=hn l[j] (CN.2 ⟨j,by omega,rfl⟩);simp[this]
 unfold IV;rw[this]
theorem uN{α:Type}{p:α->Bool}{l:List α}(hn:∀y∈l,p y=false):IV p l= -1:=by
 have:l.findIdx? p=none:=by
  rw[List.findIdx?_eq_none_iff];exact hn
 unfold IV;rw[this]
theorem NR{α:Type}(p:α->Bool)(l:List α):(IV p l= -1/\∀y∈l,p y=false)\/∃(i:Nat) (x:α),IV p l=i/\l[i]?=some x/\p x=true/\∀(j:Nat) (y:α),j<i->l[j]?=some y->p y=false:=by
 cases h:l.findIdx? p with
 |none=>
  left;refine⟨?_,List.findIdx?_eq_none_iff.1 h⟩;unfold IV;rw[h]
 |some i=>
  right;rw[List.findIdx?_eq_some_iff_getElem]at h;obtain⟨hi,hp,hn⟩:=h;refine⟨i,l[i],?_,A1 hi,hp,fun j y hj hy=>?_⟩
  ·refine gJ (A1 hi) hp fun y hy=>?_;obtain⟨j,hj,rfl⟩:=CN.1 hy;have:=hn j (by omega);simpa using this
  ·obtain⟨hj',rfl⟩:=AE.1 hy;have:=hn j hj;simpa using this
theorem AQH(v:E1)(l:List E1):IV (fun x=>decide (v=x)) l<0<->v ∉ l:=by
 rcases NR (fun x=>decide (v=x)) l with⟨h1,h2⟩|⟨i,x,h1,h2,h3,_⟩
 ·rw[h1];refine⟨fun _ h=>?_,fun _=>by decide⟩;have:=h2 v h;simp at this
 ·rw[h1];have:v=x:=A9 h3;subst this;refine⟨fun h=>by omega,fun h=>absurd (AP h2) h⟩
theorem T2(l:List E1)(v:E1)(hl:l.length<4611686018427387904):ND (l,v)=some (IV (fun x=>decide (v=x)) l):=by
 unfold ND;dsimp only
 have:Tot (cL (l,v,(l.length:Int),(0:Int))) (fun q=>(match q with| .inl _=>-1| .inr y=>y)=IV (fun x=>decide (v=x)) l):=by
  refine FY (σ:=Unit) l.length (fun _ i=>(l,v,(l.length:Int),i)) (fun i _=>∀y∈l.take i,decide (v=y)=false) hl (fun next _ i hi hj hn=>?_) (fun next _ hj=>?_) () (by simp)
  ·unfold cK;dsimp only;rw[F9,A6 hi,AA,FH (A1 hi),A0];refine E4.2 ⟨fun h=>E3.2 ?_,fun h=>?_⟩
   ·exact(gJ (A1 hi) (by rwa[E9]at h) hj).symm
   ·rw[FQ (by omega)];refine hn () ?_;intro y hy;rw[GR (A1 hi),AR,AQ]at hy;rcases hy with hy|rfl
    ·exact hj y hy
    ·rwa[E9]at h
  ·unfold cK;dsimp only;rw[F9,AB (AH _),AC];exact E3.2 (uN (by rwa[B5]at hj)).symm
 obtain⟨q,h1,h2⟩:=this;rw[h1,A0];rcases q with y|y<;>· dsimp only at h2 ⊢;rw[<-h2]
theorem AQI(l:List FR)(f:FR->Option Bool)(p:FR->Bool)(hf:∀x,f x=some (p x))(hl:l.length<4611686018427387904):cT (l,f)=some (IV p l):=by
 unfold cT;dsimp only
 have:Tot (nS (l,f,(l.length:Int),(0:Int))) (fun q=>(match q with| .inl _=>-1| .inr y=>y)=IV p l):=by
  refine FY (σ:=Unit) l.length (fun _ i=>(l,f,(l.length:Int),i)) (fun i _=>∀y∈l.take i,p y=false) hl (fun next _ i hi hj hn=>?_) (fun next _ hj=>?_) () (by simp)
  ·unfold nR;dsimp only;rw[F9,A6 hi,AA,FH (A1 hi),A0,hf,A0];refine E4.2 ⟨fun h=>E3.2 ?_,fun h=>?_⟩
   ·exact(gJ (A1 hi) h hj).symm
   ·rw[FQ (by omega)];refine hn () ?_;intro y hy;rw[GR (A1 hi),AR,AQ]at hy;rcases hy with hy|rfl
    ·exact hj y hy
    ·exact h
  ·unfold nR;dsimp only;rw[F9,AB (AH _),AC];exact E3.2 (uN (by rwa[B5]at hj)).symm
 obtain⟨q,h1,h2⟩:=this;rw[h1,A0];rcases q with y|y<;>· dsimp only at h2 ⊢;rw[<-h2]
theorem AQJ(l:List GA)(f:GA->Option Bool)(p:GA->Bool)(hf:∀x,f x=some (p x))(hl:l.length<4611686018427387904):cO (l,f)=some (IV p l):=by
 unfold cO;dsimp only
 have:Tot (nN (l,f,(l.length:Int),(0:Int))) (fun q=>(match q with| .inl _=>-1| .inr y=>y)=IV p l):=by
  refine FY (σ:=Unit) l.length (fun _ i=>(l,f,(l.length:Int),i)) (fun i _=>∀y∈l.take i,p y=false) hl (fun next _ i hi hj hn=>?_) (fun next _ hj=>?_) () (by simp)
  ·unfold nM;dsimp only;rw[F9,A6 hi,AA,FH (A1 hi),A0,hf,A0];refine E4.2 ⟨fun h=>E3.2 ?_,fun h=>?_⟩
   ·exact(gJ (A1 hi) h hj).symm
   ·rw[FQ (by omega)];refine hn () ?_;intro y hy;rw[GR (A1 hi),AR,AQ]at hy;rcases hy with hy|rfl
    ·exact hj y hy
    ·exact h
  ·unfold nM;dsimp only;rw[F9,AB (AH _),AC];exact E3.2 (uN (by rwa[B5]at hj)).symm
 obtain⟨q,h1,h2⟩:=this;rw[h1,A0];rcases q with y|y<;>· dsimp only at h2 ⊢;rw[<-h2]
def FE(l:List FR)(name:E1):E1×Bool:=match l.find? (fun p=>decide (p.1=name))with
 |some p=>(p.2,true)
 |none=>([],false)
theorem QE(l:List FR)(name:E1):(FE l name=([],false)/\∀p∈l,p.1≠name)\/∃v,FE l name=(v,true)/\(name,v)∈l:=by
 unfold FE;cases h:l.find? (fun p=>decide (p.1=name))with
 |none=>exact .inl ⟨rfl,fun p hp=>by have:=List.find?_eq_none.1 h p hp;simpa using this⟩
 |some p=>
  have h1:=List.find?_some h;have h2:=DH h;have h1:p.1=name:=by simpa using h1
  exact .inr ⟨p.2,rfl,by rw[<-h1];exact h2⟩
theorem NT(l:List FR)(name:E1)(hl:l.length<4611686018427387904):L8 (l,name)=some (FE l name):=by
 unfold L8;dsimp only;rw[AQI l _ (fun p=>decide (p.1=name)) (fun x=>by unfold nQ;dsimp only;rw[A0,A0,E9]) hl,A0];unfold FE;rcases NR (fun p:FR=>decide (p.1=name)) l with⟨h1,h2⟩|⟨i,x,h1,h2,h3,h4⟩
 ·rw[h1,List.find?_eq_none.2 fun p hp=>by simp[h2 p hp]];rfl
 ·rw[h1,AB (by omega),AC,FH h2,A0]
  have:l.find? (fun p=>decide (p.1=name))=some x:=by
   rw[List.find?_eq_some_iff_getElem];obtain⟨hi,hx⟩:=AE.1 h2;refine⟨h3,i,hi,hx,fun j hj=>?_⟩;have:=h4 j l[j] hj (A1 (by omega));simpa using this
  rw[this]
theorem AQK(l:List GS)(name:E1)(hl:l.length<=1048576):dY (l,name)=some (l.filter fun o=>decide (o.1=name)):=by
 unfold dY;dsimp only
 have:Tot (oT (name,[],l,(l.length:Int),(0:Int))) (fun q=>q=l.filter fun o=>decide (o.1=name)):=by
  refine FY (σ:=List GS) l.length (fun s i=>(name,s,l,(l.length:Int),i)) (fun i s=>s=(l.take i).filter fun o=>decide (o.1=name)) (by omega) (fun next s i hi hj hn=>?_) (fun next s hj=>?_) [] (by simp)
  ·unfold oS;dsimp only;rw[F9,A6 hi,AA,FH (A1 hi),A0,FQ (by omega)];have hle:s.length<=i:=by rw[hj];exact AZ (BN _ _) (by rw[B4];omega)
   refine E4.2 ⟨fun h=>E2.2 (G7.2 ⟨by simp only[AD,AJ];omega,?_⟩),fun h=>?_⟩
   ·refine hn _ ?_;rw[GR (A1 hi),CY,<-hj];rw[E9]at h;exact A7X h
   ·refine hn _ ?_;rw[GR (A1 hi),CY,<-hj];rw[E9]at h;exact A7Y h
  ·unfold oS;dsimp only;rw[F9,AB (AH _),AC];exact E3.2 (by rw[hj,B5])
 rw[IG this];rfl
def J4(sc:Int)(l:List GA):List GA:=l.filter fun n=>decide (n.2.2<=sc)
theorem gK(t:FI)(l:List GA)(hl:l.length<=1048576):PL (t,l)=some (J4 t.2.2.1 l):=by
 unfold PL;dsimp only
 have:Tot (pC (t,[],l,(l.length:Int),(0:Int))) (fun q=>q=J4 t.2.2.1 l):=by
  refine FY (σ:=List GA) l.length (fun s i=>(t,s,l,(l.length:Int),i)) (fun i s=>s=J4 t.2.2.1 (l.take i)) (by omega) (fun next s i hi hj hn=>?_) (fun next s hj=>?_) [] (by simp[J4])
  ·unfold pB;dsimp only;rw[F9,A6 hi,AA,FH (A1 hi),A0,FQ (by omega)];have hle:s.length<=i:=by rw[hj];exact AZ (BN _ _) (by rw[B4];omega)
   refine E4.2 ⟨fun h=>E2.2 (G7.2 ⟨by simp only[AD,AJ];omega,?_⟩),fun h=>?_⟩
   ·refine hn _ ?_;unfold J4 at hj ⊢;rw[GR (A1 hi),CY,<-hj];exact A7X h
   ·refine hn _ ?_;unfold J4 at hj ⊢;rw[GR (A1 hi),CY,<-hj];exact A7Y h
  ·unfold pB;dsimp only;rw[F9,AB (AH _),AC];exact E3.2 (by rw[hj,B5])
 rw[IG this];rfl
def HP(t:FI)(p:FR):List GA:=match t.1.find? (fun o=>decide (o.1=p.1)&&decide (o.2.1=p.2))with
 |some o=>J4 t.2.2.1 o.2.2.1
 |none=>[]
theorem uO(t:FI)(p:FR)(hl:t.1.length<=1048576)(ho:∀o∈t.1,o.2.2.1.length<=1048576):SG (t,p)=some (HP t p):=by
 unfold SG;dsimp only
 have:Tot (pE (t,p,t.1,(t.1.length:Int),(0:Int))) (fun q=>(match q with| .inl _=>[]| .inr y=>y)=HP t p):=by
  refine FY (σ:=Unit) t.1.length (fun s i=>(t,p,t.1,(t.1.length:Int),i)) (fun i s=>∀o∈t.1.take i,(decide (o.1=p.1)&&decide (o.2.1=p.2))=false) (by omega) (fun next s i hi hj hn=>?_) (fun next s hj=>?_) () (by simp)
  ·unfold pD;dsimp only;rw[F9,A6 hi,AA,FH (A1 hi),A0,FQ (by omega),E9,E9];refine E4.2 ⟨fun h=>?_,fun h=>?_⟩
   ·rw[gK _ _ (ho _ (BA hi)),A0];refine E3.2 ?_;unfold HP
    have:t.1.find? (fun o=>decide (o.1=p.1)&&decide (o.2.1=p.2))=some t.1[i]:=by
     rw[List.find?_eq_some_iff_getElem];refine⟨h,i,hi,rfl,fun j hj'=>?_⟩;have:=hj t.1[j] (CN.2 ⟨j,by omega,rfl⟩);simp only[this,CV]
    rw[this]
   ·refine hn () ?_;intro o ho';rw[GR (A1 hi),AR,AQ]at ho';rcases ho' with ho'|rfl
    ·exact hj o ho'
    ·exact h
  ·unfold pD;dsimp only;rw[F9,AB (AH _),AC];refine E3.2 ?_;unfold HP;rw[B5]at hj;rw[List.find?_eq_none.2 fun o ho'=>by rw[hj o ho'];exact Bool.false_ne_true]
 obtain⟨q,h1,h2⟩:=this;rw[h1,A0];rcases q with y|y<;>· dsimp only at h2 ⊢;rw[<-h2]
theorem AQL{k:Int}{w:E1}{v:Vr}(h:IN (k,w)=some (v,0)):w.length<=100:=by
 apply C2;intro hn;have hd:decide ((100:Int)<(w.length:Int))=true:=A6 (by omega);unfold IN at h;dsimp only at h;rw[hd,Bool.or_true,AA]at h;cases hk:(decide (k<(1:Int)))||(decide ((5:Int)<k))with
 |true=>rw[hk]at h;cases h
 |false=>rw[hk]at h;cases h
theorem A7Z(x:Int×(Bool×Bool×(List UInt8)))(h:x.2.2.2.length<=1048576):Tot (NE x) (fun r:(List UInt8)×Int=>r.2=0->x.2.2.2.length<=100):=by
 unfold NE;refine E4.2 ⟨fun _=>E4.2 ⟨fun _=>E3.2 (by simp),fun hb=>E3.2 fun _=>?_⟩,fun _=>?_⟩
 ·have:=(BO.1 hb).2;rw[E9]at this;have:x.2.2.2=[]:=by simpa using this
  rw[this];simp
 obtain⟨r1,e1,h1⟩:=MT (x.1,x.2.2.2) h;rw[e1];refine E2.2 (E3.2 ?_);refine E4.2 ⟨fun he=>E3.2 fun h0=>(by dsimp only at h0;rw[h0]at he;cases he),fun he=>?_⟩;have h0:r1.2=0:=by rw[E5]at he;simpa using he
 have hv:=h1 h0;have hlen:x.2.2.2.length<=100:=AQL (v:=r1.1) (by rw[<-h0];exact e1);revert hv;generalize r1.1=v;intro hv;refine E2.2 (Tot.mono (P:=fun r:List UInt8=>r.length<=10000000) ?_ fun r2 hr=>?_)
 ·rcases v with x|x|x|x|x|x
  ·exact E2.2 ((uD _ hv).mono fun _ h=>E3.2 (by omega))
  ·exact E2.2 ((uF _ hv).mono fun _ h=>E3.2 (by omega))
  ·exact E2.2 ((uG _ hv).mono fun _ h=>E3.2 (by omega))
  ·exact E2.2 ((uH _ hv).mono fun _ h=>E3.2 (by omega))
  ·exact E2.2 ((uI _ trivial).mono fun _ h=>E3.2 (by omega))
  ·exact hv.elim
 refine E4.2 ⟨fun _=>E3.2 fun _=>hlen,fun _=>?_⟩;refine E2.2 (Tot.mono (P:=fun r:List UInt8=>r.length<=10000000) ?_ fun r2 hr=>E3.2 fun _=>hlen)
 ·rcases v with x|x|x|x|x|x
  ·exact E2.2 ((gA _ hv).mono fun _ h=>E3.2 (by omega))
  ·exact E2.2 ((gB _ hv).mono fun _ h=>E3.2 (by omega))
  ·exact E2.2 ((gC _ hv).mono fun _ h=>E3.2 (by omega))
  ·exact E2.2 ((gD _ hv).mono fun _ h=>E3.2 (by omega))
  ·exact E2.2 ((gE _ hv).mono fun _ h=>E3.2 (by omega))
  ·exact hv.elim
abbrev T3(s:SX):Prop:=s.1.2.2.length<=1048576/\s.2.2.2.length<=1048576
theorem AQM(r:Rg)(hr:∀s∈r.2,T3 s)(hl:r.2.length<=200):
 Tot (nJ (r,([]:List HO),r.2,(r.2.length:Int),0)) (fun q=>(∀y,q=.inl y->y.length<=200)/\∀y,q=.inr y->y.1=[]/\y.2≠0):=by
 refine F7 (R:=fun q:Sum (List HO) ((List HO)×Int)=>(∀y,q=.inl y->y.length<=200)/\∀y,q=.inr y->y.1=[]/\y.2≠0)
  (fun y:Rg×(List HO)×(List SX)×Int×Int=>y.1=r/\y.2.2.1=r.2/\y.2.2.2.1=r.2.length/\0<=y.2.2.2.2/\y.2.2.2.2<=r.2.length/\y.2.1.length<=y.2.2.2.2/\∀x∈y.2.1,HB x)
  (fun y=>((r.2.length:Int)-y.2.2.2.2).toNat) ?_ _ _ ⟨rfl,rfl,rfl,B0 _,BC _,by simp,by simp⟩ (by unfold fuel;dsimp only;omega)
 rintro next ⟨r',o,l',n,i⟩ hI hn
 dsimp only at hI hn;obtain⟨rfl,rfl,rfl,i0,i1,h5,h6⟩:=hI;unfold A0g;dsimp only;refine E4.2 ⟨fun hc=>?_,fun hc=>E3.2 ⟨fun y e=>?_,fun y e=>(by cases e)⟩⟩
 ·have hc:=A9 hc;rw[E_ (n:=i+1) (by omega) (by omega),E_ (n:=(o.length:Int)-1) (by omega) (by omega)];refine E2.2 (F4.2 ⟨⟨i0,hc⟩,fun s hx=>?_⟩);obtain⟨s1',s2'⟩:=hr s (LC hx);refine E2.2 ((A7Z _ (by dsimp only;omega)).mono fun c1 k1=>E4.2 ⟨fun he=>E3.2 ⟨fun y e=>(by cases e),fun y e=>?_⟩,fun hz1=>?_⟩)
  ·cases e;rw[E5]at he;exact⟨rfl,by simpa using he⟩
  refine E2.2 ((A7Z _ (by dsimp only;omega)).mono fun c2 k2=>E4.2 ⟨fun he=>E3.2 ⟨fun y e=>(by cases e),fun y e=>?_⟩,fun hz2=>?_⟩)
  ·cases e;rw[E5]at he;exact⟨rfl,by simpa using he⟩
  have s1:s.1.2.2.length<=100:=k1 (by rw[E5]at hz1;simpa using hz1);have s2:s.2.2.2.length<=100:=k2 (by rw[E5]at hz2;simpa using hz2);refine E2.2 ((A7O _ s1).mono fun e1 he1=>E2.2 ((A7P _ s2).mono fun e2 he2=>?_));refine E2.2 ((QC _ trivial).mono fun r7 _=>?_);refine E2.2 (Tot.mono (P:=fun _=>True) (E4.2 ⟨fun hz=>?_,fun _=>E3.2 trivial⟩) fun y8 _=>?_)
  ·have hz:=A9 (D8.1 hz).2;exact F4.2 ⟨⟨by omega,by omega⟩,fun _ _=>trivial⟩
  refine E2.2 (Tot.mono (P:=fun _=>True) (E4.2 ⟨fun hz=>QC _ trivial,fun _=>E3.2 trivial⟩) fun r9 _=>?_);refine E4.2 ⟨fun _=>E3.2 ⟨fun y e=>(by cases e),fun y e=>(by cases e;exact⟨rfl,by decide⟩)⟩,fun _=>?_⟩
  have hgo:Tot (next (r',o++[(e1,e2)],r'.2,(r'.2.length:Int),i+1)) (fun q:Sum (List HO) ((List HO)×Int)=>(∀y,q=.inl y->y.length<=200)/\∀y,q=.inr y->y.1=[]/\y.2≠0):=by
   refine hn _ ⟨rfl,rfl,rfl,by dsimp only;omega,by dsimp only;omega,?_,fun x hx=>?_⟩ (by dsimp only;omega)
   ·dsimp only;rw[A7];simp only[AD,AJ];omega
   ·dsimp only at hx;rw[AR]at hx;rcases hx with hx|hx
    ·exact h6 x hx
    ·cases AQ.1 hx;exact⟨he1,he2⟩
  have hap:(o.length+1)*192<=70368744177664:=by omega
  refine E4.2 ⟨fun _=>?_,fun _=>E2.2 (G7.2 ⟨hap,hgo⟩)⟩;refine E2.2 ((AQ6 s o ⟨s1,s2⟩ h6 (by omega)).mono fun r11 _=>E4.2 ⟨fun he=>E3.2 ⟨fun y e=>(by cases e),fun y e=>?_⟩,fun _=>E2.2 (G7.2 ⟨hap,hgo⟩)⟩);cases e;rw[E5]at he;exact⟨rfl,by simpa using he⟩
 ·cases e;omega
theorem A7_(r:Rg)(hr:∀s∈r.2,T3 s):Tot (S7 r) (fun q=>q.1.length<=200):=by
 unfold S7;refine E4.2 ⟨fun _=>E3.2 (by simp),fun _=>E4.2 ⟨fun _=>E3.2 (by simp),fun hc=>?_⟩⟩;have hc:=AG hc;refine E2.2 ((AQM r hr (by omega)).mono fun q hq=>?_);rcases q with y|y
 ·exact E3.2 (hq.1 y rfl)
 ·refine E3.2 ?_;rw[(hq.2 y rfl).1];simp
noncomputable def OK(r:Rg)(w:E1):Bool:=((PM (r,w)).getD (false,0)).1
theorem uP(r:Rg)(w:E1)(hr:∀s∈r.2,T3 s)(hw:w.length<=1048576):Tot (PM (r,w)) (fun q=>q.1=OK r w):=by
 suffices h:∃q,PM (r,w)=some q by
  obtain⟨q,h⟩:=h;exact⟨q,h,by unfold OK;rw[h];rfl⟩
 show ∃q,((S7 r).bind fun r1=>bif (!(E6 r1.2 (0:Int)))then some (false,r1.2)else(IN (r.1,w)).bind fun r2=>bif (!(E6 r2.2 (0:Int)))then some (false,r2.2)else(QD r2.1).bind fun r3=>(SH (r1.1,r3)).bind fun r4=>some ((decide ((0:Int)<=r4)),(0:Int)))=some q;obtain⟨⟨L,e⟩,h1,h2⟩:=A7_ r hr;rw[h1,A0];dsimp only;cases he:!(E6 e 0)with
 |true=>exact⟨_,rfl⟩
 |false=>
  rw[AC];obtain⟨⟨v,e'⟩,h3,h4⟩:=MT (r.1,w) hw;rw[h3,A0];dsimp only;cases he':!(E6 e' 0)with
  |true=>exact⟨_,rfl⟩
  |false=>
   rw[AC];have h5:e'=0:=by rw[E5]at he';simpa using he'
   obtain⟨k,h6,_⟩:=gF (h4 h5);obtain⟨n,h7,_⟩:=AQ7 L k (by have:L.length<=200:=h2;omega);rw[h6,A0,h7];exact⟨_,rfl⟩
noncomputable def HQ(name:E1):Int×Bool:=(MM name).getD (0,false)
theorem XB(name:E1)(h:name.length<=1048576):MM name=some (HQ name):=by
 suffices hh:∃q,MM name=some q by
  obtain⟨q,hq⟩:=hh;unfold HQ;rw[hq];rfl
 refine tS.1 ?_;unfold MM;refine E2.2 ((uJ name h).mono fun r1 h1=>E4.2 ⟨fun _=>E3.2 trivial,fun he=>?_⟩);have h0:r1.2.2=0:=by rw[E5]at he;simpa using he
 refine E2.2 ((t_ _ (h1 h0)).mono fun r2 _=>E4.2 ⟨fun _=>E3.2 trivial,fun _=>?_⟩);exact E2.2 ((tW _ trivial).mono fun r3 _=>E3.2 trivial)
noncomputable def uQ(k:Int)(w:E1):Bool:=((SF (k,w)).getD (false,0)).1
theorem AQN(l:List (Bool×E1×Int))(f:(Bool×E1×Int)->Option Bool)(hf:∀x,Tot (f x) fun _=>True)(hl:l.length<4611686018427387904):Tot (dZ (l,f)) fun _=>True:=by
 unfold dZ;dsimp only;refine E2.2 (Tot.mono (P:=fun _=>True) ?_ fun q _=>by rcases q with y|y<;>exact E3.2 trivial);refine FY (σ:=Unit) l.length (fun _ i=>(l,f,(l.length:Int),i)) (fun i _=>True) hl (fun next _ i hi hj hn=>?_) (fun next _ hj=>?_) () trivial
 ·unfold oV;dsimp only;rw[F9,A6 hi,AA,FH (A1 hi),A0,FQ (by omega)];refine E2.2 ((hf _).mono fun b _=>E4.2 ⟨fun h=>E3.2 trivial,fun h=>hn () trivial⟩)
 ·unfold oV;dsimp only;rw[F9,AB (AH _),AC];exact E3.2 trivial
theorem AQO(k:Int)(w:E1)(hw:w.length<=1048576):Tot (SF (k,w)) (fun q=>q.1=uQ k w):=by
 suffices h:∃q,SF (k,w)=some q by
  obtain⟨q,h⟩:=h;exact⟨q,h,by unfold uQ;rw[h];rfl⟩
 refine tS.1 ?_;unfold SF;dsimp only;refine E2.2 ((MT (k,w) hw).mono fun r h1=>E4.2 ⟨fun _=>E3.2 trivial,fun he=>?_⟩);have h0:r.2=0:=by rw[E5]at he;simpa using he
 have hv:=h1 h0;revert hv;generalize r.1=v;intro hv;refine E2.2 (Tot.mono (P:=fun _=>True) ?_ fun r2 hr=>E3.2 trivial);rcases v with x|x|x|x|x|x
 ·exact E2.2 (E3.2 (E3.2 trivial))
 ·refine E2.2 (Tot.mono (P:=fun _=>True) ?_ fun _ _=>E3.2 trivial);unfold oU;refine E2.2 ((P_ _ (by have:=hv;simp only[J3,QA]at this;dsimp only;omega)).mono fun r1 _=>?_);refine E2.2 (Tot.mono (P:=fun _=>True) (E4.2 ⟨fun _=>(P_ _ (by have:=hv;simp only[J3,QA]at this;dsimp only;omega)).mono fun _ _=>trivial,fun _=>E3.2 trivial⟩) fun _ _=>E3.2 trivial)
 ·exact E2.2 (E3.2 (E3.2 trivial))
 ·refine E2.2 (Tot.mono (P:=fun _=>True) ?_ fun _ _=>E3.2 trivial);unfold oY oW;dsimp only;refine E2.2 (E2.2 ((AQN x _ (fun y=>?_) (by have:=hv;simp only[J3,TS]at this;omega)).mono fun _ _=>E3.2 (E3.2 trivial)));unfold oX;exact E2.2 (E2.2 ((uK _ trivial).mono fun _ _=>E3.2 (E3.2 trivial)))
 ·exact E2.2 (E3.2 (E3.2 trivial))
 ·exact hv.elim
noncomputable def T4(t:FI)(name:E1)(o:GS):Bool:=((FE t.2.2.2.1 name).2&&decide (o.2.1=(FE t.2.2.2.1 name).1))||((!o.2.2.2)&&(t.2.2.2.2.2.1||(!uQ (HQ name).1 o.2.1)))
noncomputable def J5(t:FI)(name:E1):List E1:=((t.1.filter fun o=>decide (o.1=name)).filter (T4 t name)).map fun o=>o.2.1
def K8(n:GA):Prop:=n.1.length<=1048576/\∀s∈n.2.1.2,T3 s
structure TkB(t:FI):Prop where
 offers:t.1.length<=1048576
 offer:∀o∈t.1,o.1.length<=1048576/\o.2.1.length<=1048576/\o.2.2.1.length<=1048576/\∀n∈o.2.2.1,K8 n
 needs:t.2.1.length<=1048576
 need:∀n∈t.2.1,K8 n
 old:t.2.2.2.1.length<=1048576
 pin:∀p∈t.2.2.2.1,p.1.length<=1048576/\p.2.length<=1048576
 frozen:t.2.2.2.2.1.length<=1048576
 name:∀s∈t.2.2.2.2.1,s.length<=1048576
theorem A7a(t:FI)(name:E1)(ht:TkB t)(hn:name.length<=1048576):VV (t,name)=some (J5 t name):=by
 unfold VV;dsimp only;rw[NT _ _ (by have:=ht.old;omega),A0,AQK _ _ ht.offers,A0];have hfl:(t.1.filter fun o=>decide (o.1=name)).length<=1048576:=AZ (BN _ _) ht.offers;have hfm:∀o∈(t.1.filter fun o=>decide (o.1=name)),o.2.1.length<=1048576:=fun o ho=>(ht.offer o (CJ.1 ho).1).2.1;unfold J5;generalize (t.1.filter fun o=>decide (o.1=name))=l at hfl hfm ⊢
 have:Tot (o_ (name,t,(FE t.2.2.2.1 name).1,(FE t.2.2.2.1 name).2,[],l,(l.length:Int),(0:Int))) (fun q=>q=(l.filter (T4 t name)).map fun o=>o.2.1):=by
  refine FY (σ:=List E1) l.length (fun s i=>(name,t,(FE t.2.2.2.1 name).1,(FE t.2.2.2.1 name).2,s,l,(l.length:Int),i)) (fun i s=>s=((l.take i).filter (T4 t name)).map fun o=>o.2.1) (by omega) (fun next s i hi hj hn=>?_) (fun next s hj=>?_) [] (by simp)
  ·unfold oZ;dsimp only;rw[F9,A6 hi,AA,FH (A1 hi),A0,FQ (by omega),XB _ (by assumption),A0];obtain⟨q,h1,h2⟩:=AQO (HQ name).1 l[i].2.1 (hfm _ (BA hi));rw[h1,A0,h2,E9];have hle:s.length<=i:=by rw[hj,AL];exact AZ (BN _ _) (by rw[B4];omega)
   refine E4.2 ⟨fun h=>E2.2 (G7.2 ⟨by simp only[AD,AJ];omega,?_⟩),fun h=>?_⟩
   ·refine hn _ ?_;rw[GR (A1 hi),CY,C4,<-hj];have h:T4 t name l[i]=true:=h;simp[h]
   ·refine hn _ ?_;rw[GR (A1 hi),CY,C4,<-hj];have h:T4 t name l[i]=false:=h;simp[h]
  ·unfold oZ;dsimp only;rw[F9,AB (AH _),AC];exact E3.2 (by rw[hj,B5])
 rw[IG this];rfl
theorem AQP(l:List E1)(hl:l.length<=1048576):d_ l=some l.reverse:=by
 unfold d_;rw[E_ (n:=(l.length:Int)-1) (by omega) (by omega)]
 have:Tot (pA (l,(0:Int),(l.length:Int)-1)) (fun q=>q=l.reverse):=by
  refine F7 (R:=fun q=>q=l.reverse) (fun y:List E1×Int×Int=>y.1.length=l.length/\0<=y.2.1/\y.2.1+y.2.2=(l.length:Int)-1/\y.2.1<=l.length/\(l.length:Int)-1<=y.2.1+y.2.2/\y.2.1<=y.2.2+2/\∀k:Nat,k<l.length->y.1[k]?=if(k:Int)<y.2.1\/y.2.2<(k:Int)then l[l.length-1-k]? else l[k]?)
   (fun y=>(y.2.2-y.2.1+1).toNat) ?_ _ _ ⟨rfl,B0 _,by dsimp only;omega,by dsimp only;omega,by dsimp only;omega,by dsimp only;omega,fun k hk=>?_⟩ (by unfold fuel;dsimp only;omega)
  ·rintro next ⟨s,i,j⟩ hI hn
   dsimp only at hI hn;obtain⟨h1,h2,h3,h4,h5,h6,h7⟩:=hI;unfold A1E;dsimp only;refine E4.2 ⟨fun hc=>?_,fun hc=>E3.2 ?_⟩
   ·have hc:=A9 hc;obtain⟨i,rfl⟩:=Int.eq_ofNat_of_zero_le h2;obtain⟨j,rfl⟩:=Int.eq_ofNat_of_zero_le (show 0<=j by omega);have hil:i<s.length:=by omega
    have hjl:j<s.length:=by omega
    rw[HH hjl,A0,HH hil,A0,A0,HH (by rw[AF];exact hjl),A0];rw[E_ (n:=(i:Int)+1) (by omega) (by omega),E_ (n:=(j:Int)-1) (by omega) (by omega)];refine hn _ ⟨by dsimp only;rw[AF,AF];exact h1,by dsimp only;omega,by dsimp only;omega,by dsimp only;omega,by dsimp only;omega,by dsimp only;omega,fun k hk=>?_⟩ (by dsimp only;omega);dsimp only;rw[B7,B7,List.getElem?_set,List.getElem?_set,AF];have e1:=h7 j (by omega);have e2:=h7 i (by omega);rw[if_neg (by omega)]at e1 e2;by_cases hkj:j=k
    ·subst hkj;rw[if_pos rfl,if_pos hjl,if_pos (by omega),A2,e2];rw[show l.length-1-j=i by omega,A1 (by omega)];rfl
    ·rw[if_neg hkj];by_cases hki:i=k
     ·subst hki;rw[if_pos rfl,if_pos hil,if_pos (by omega),A2,e1];rw[show l.length-1-i=j by omega,A1 (by omega)];rfl
     ·rw[if_neg hki,h7 k hk];by_cases hh:(k:Int)<i\/(j:Int)<k
      ·rw[if_pos hh,if_pos (by omega)]
      ·rw[if_neg hh,if_neg (by omega)]
   ·have hc:=AG hc;apply BW;intro k;by_cases hk:k<l.length
    ·rw[h7 k hk,List.getElem?_reverse hk];by_cases hh:(k:Int)<i\/j<(k:Int)
     ·rw[if_pos hh]
     ·rw[if_neg hh,show l.length-1-k=k by omega]
    ·rw[B1 (by omega),B1 (by rw[DJ];omega)]
  ·dsimp only;rw[if_neg (by omega)]
 rw[IG this];rfl
def NU(l:List FR)(nd:GA):Prop:=(FE l nd.1).2=true/\OK nd.2.1 (FE l nd.1).1=true
def gL(l:List FR):Prop:=l.length<=12/\∀p∈l,p.1.length<=1048576/\p.2.length<=1048576
theorem AQQ{l:List FR}(h:gL l)(name:E1):(FE l name).1.length<=1048576:=by
 rcases QE l name with⟨e,_⟩|⟨v,e,hm⟩
 ·rw[e];decide
 ·rw[e];exact(h.2 _ hm).2
theorem XC{α:Type}{l:List α}{a:α}:l++[a]=[]<->False:=by simp
theorem A7b(l:List FR)(hl:gL l)(needs:List GA)(by':E1)(hn:needs.length<=1048576)(hb:∀nd∈needs,K8 nd):
 Tot (WD (l,needs,by')) (fun q=>q.length<=needs.length/\(q=[]<->∀nd∈needs,NU l nd)):=by
 unfold WD;dsimp only;refine E2.2 (Tot.mono (P:=fun q=>q.length<=needs.length/\(q=[]<->∀nd∈needs,NU l nd)) ?_ fun _ h=>E3.2 h);refine FY (σ:=List (Int×E1×E1)) needs.length (fun s i=>(l,by',s,needs,(needs.length:Int),i)) (fun m s=>s.length<=m/\(s=[]<->∀nd∈needs.take m,NU l nd)) (by omega) (fun next s i hi hs hnx=>?_) (fun next s hs=>?_) [] ⟨AM _,by simp⟩
 ·obtain⟨hle,hs⟩:=hs;unfold qS;dsimp only;have hl12:=hl.1;rw[F9,A6 hi,AA,FH (A1 hi),A0,NT _ _ (by omega),A0,FQ (by omega)];obtain⟨q,h1,h2⟩:=uP needs[i].2.1 (FE l needs[i].1).1 (hb _ (BA hi)).2 (AQQ hl _);rw[h1,A0,h2]
  have htk:∀P:GA->Prop,(∀nd∈needs.take (i+1),P nd)<->(∀nd∈needs.take i,P nd)/\P needs[i]:=by
   intro P;rw[GR (A1 hi)];constructor
   ·intro h;exact⟨fun nd hnd=>h nd (AS _ hnd),h _ (AU _ (AQ.2 rfl))⟩
   ·rintro⟨h1,h2⟩ nd hnd;rw[AR,AQ]at hnd;rcases hnd with h|rfl
    ·exact h1 nd h
    ·exact h2
  refine E4.2 ⟨fun hc=>E2.2 (G7.2 ⟨by simp only[AD,AJ];omega,hnx _ ⟨by simp only[A7,AD,AJ];omega,?_⟩⟩),fun hc=>E4.2 ⟨fun hd=>E2.2 (G7.2 ⟨by simp only[AD,AJ];omega,hnx _ ⟨by simp only[A7,AD,AJ];omega,?_⟩⟩),fun hd=>hnx _ ⟨by omega,?_⟩⟩⟩
  ·rw[htk,XC];refine⟨False.elim,fun h=>?_⟩;have:=h.2.1;rw[this]at hc;cases hc
  ·rw[htk,XC];refine⟨False.elim,fun h=>?_⟩;have:=h.2.2;rw[this]at hd;cases hd
  ·rw[htk,<-hs];exact⟨fun h=>⟨h,by simpa using hc,by simpa using hd⟩,fun h=>h.1⟩
 ·unfold qS;dsimp only;rw[F9,AB (AH _),AC];rw[B5]at hs;exact E3.2 hs
def QF(t:FI):List E1:=t.2.2.2.2.1++(J4 t.2.2.1 t.2.1).map fun nd=>nd.1
inductive CR (t:FI) (l:List FR):E1->Prop
 |root {s:E1}:s∈QF t->(FE l s).2=true->CR t l s
 |step {s:E1} {nd:GA}:CR t l s->nd∈HP t (s,(FE l s).1)->(FE l nd.1).2=true->CR t l nd.1
theorem CR.pinned{t:FI}{l:List FR}{s:E1}(h:CR t l s):(FE l s).2=true:=by
 cases h with
 |root _ h=>exact h
 |step _ _ h=>exact h
theorem AQR(l:List GA)(s0:List E1)(hl:l.length+s0.length<=100000000000):qX (s0,l,(l.length:Int),0)=some (s0++l.map fun nd=>nd.1):=by
 refine IG ?_;refine FY (σ:=List E1) l.length (fun s i=>(s,l,(l.length:Int),i)) (fun m s=>s=s0++(l.take m).map fun nd=>nd.1) (by omega) (fun next s i hi hs hn=>?_) (fun next s hs=>?_) s0 (by simp)
 ·unfold qW;dsimp only;have hsl:s.length<=s0.length+i:=by rw[hs,A7,AL,B4];omega
  rw[F9,A6 hi,AA,FH (A1 hi),A0,FQ (by omega)];refine E2.2 (G7.2 ⟨by simp only[AD,AJ];omega,hn _ ?_⟩);rw[GR (A1 hi),C4,hs,C5];rfl
 ·unfold qW;dsimp only;rw[F9,AB (AH _),AC];exact E3.2 (by rw[hs,B5])
theorem AQS(l:List GA)(s0:List E1)(hl:l.length+s0.length<=100000000000):qV (s0,l,(l.length:Int),0)=some (s0++l.map fun nd=>nd.1):=by
 refine IG ?_;refine FY (σ:=List E1) l.length (fun s i=>(s,l,(l.length:Int),i)) (fun m s=>s=s0++(l.take m).map fun nd=>nd.1) (by omega) (fun next s i hi hs hn=>?_) (fun next s hs=>?_) s0 (by simp)
 ·unfold qU;dsimp only;have hsl:s.length<=s0.length+i:=by rw[hs,A7,AL,B4];omega
  rw[F9,A6 hi,AA,FH (A1 hi),A0,FQ (by omega)];refine E2.2 (G7.2 ⟨by simp only[AD,AJ];omega,hn _ ?_⟩);rw[GR (A1 hi),C4,hs,C5];rfl
 ·unfold qU;dsimp only;rw[F9,AB (AH _),AC];exact E3.2 (by rw[hs,B5])
theorem A7c{t:FI}(ht:TkB t)(p:FR):(HP t p).length<=1048576/\∀nd∈HP t p,K8 nd:=by
 unfold HP;split
 ·rename_i o ho;have:=ht.offer o (DH ho);exact⟨AZ (BN _ _) this.2.2.1,fun nd h=>this.2.2.2 nd (CJ.1 h).1⟩
 ·exact⟨BI _,fun nd h=>by cases h⟩
def JK(m:List (E1×Bool))(s:E1):Bool:=(HT EM s m).getD false
theorem AQT{α:Type}{p q:α->Bool}{l:List α}(h:∀x∈l,q x=true->p x=true){a:α}(ha:a∈l)(h1:p a=true)(h2:q a=false):(l.filter q).length<(l.filter p).length:=by
 induction l with
 |nil=>cases ha
 |cons x l ih=>
  have hsub:(l.filter q).length<=(l.filter p).length:=by
   clear ih ha;induction l with
   |nil=>exact AM _
   |cons y l ih2=>
    have:=ih2 fun z hz=>h z (by rw[B6]at hz ⊢;exact hz.imp id (AI _));simp only[List.filter_cons];cases hq:q y with
    |true=>rw[h y (by simp) hq];simpa using this
    |false=>cases hp:p y<;>simp<;>omega
  rw[B6]at ha;rcases ha with rfl|ha
  ·simp only[List.filter_cons,h1,h2];simp;omega
  ·have:=ih (fun z hz=>h z (AI _ hz)) ha;simp only[List.filter_cons];cases hq:q x with
   |true=>rw[h x (by simp) hq];simpa using this
   |false=>cases hp:p x<;>simp<;>omega
theorem A7d{f0 f1 tl nl:Nat}(h:f1<f0)(hs:f0*1048577+(tl+1)<=14680076)(hn:nl<=1048576):f1*1048577+(tl+nl)<=14680076/\f1*1048577+(tl+nl)<f0*1048577+(tl+1):=by omega
theorem AQU(t:FI)(ht:TkB t)(l:List FR)(hl:gL l):Tot (eF (t,l)) (fun m=>∀s,JK m s=true<->CR t l s):=by
 have hl12:=hl.1;unfold eF;dsimp only;have hfr:=ht.frozen;have hnd:=ht.needs;have hcl:(J4 t.2.2.1 t.2.1).length<=1048576:=AZ (BN _ _) hnd;rw[AQE hfr,A0,gK _ _ hnd,A0,AQS _ _ (by omega),A0];refine E2.2 (Tot.mono (P:=fun m=>∀s,JK m s=true<->CR t l s) ?_ fun _ h=>E3.2 h);have hro:t.2.2.2.2.1++(J4 t.2.2.1 t.2.1).map (fun nd=>nd.1)=QF t:=rfl;rw[hro];have hrl:(QF t).length<=2097152:=by unfold QF;rw[A7,AL];omega
 let free:List (E1×Bool)->Nat:=fun m=>(l.filter fun p=>!JK m p.1).length
 have hfree:∀m,free m<=12:=fun m=>AZ (BN _ _) hl12
 refine F7 (R:=fun m:List (E1×Bool)=>∀s,JK m s=true<->CR t l s)
  (fun y:(List FR)×FI×(List (E1×Bool))×(List E1)=>y.1=l/\y.2.1=t/\free y.2.2.1*1048577+y.2.2.2.length<=14680076 /\
   (∀s∈y.2.2.2,s∈QF t\/∃c nd,CR t l c/\nd∈HP t (c,(FE l c).1)/\nd.1=s)/\(∀s,JK y.2.2.1 s=true->CR t l s)/\
   (∀s∈QF t,(FE l s).2=true->JK y.2.2.1 s=true\/s∈y.2.2.2)/\
   (∀c nd,JK y.2.2.1 c=true->nd∈HP t (c,(FE l c).1)->(FE l nd.1).2=true->JK y.2.2.1 nd.1=true\/nd.1∈y.2.2.2))
  (fun y=>free y.2.2.1*1048577+y.2.2.2.length) ?_ _ _ ⟨rfl,rfl,by dsimp only;have:=hfree [];omega,fun s h=>.inl h,fun s h=>(by cases h),fun s h _=>.inr h,fun c nd h=>(by cases h)⟩
  (by unfold fuel;dsimp only;have:=hfree [];omega)
 rintro next ⟨l',t',m,todo⟩ hI hn
 dsimp only at hI hn;obtain⟨rfl,rfl,hsz,h1,h2,h3,h4⟩:=hI;unfold A1M;dsimp only;refine E4.2 ⟨fun hc=>?_,fun hc=>?_⟩
 ·obtain⟨s,todo,rfl⟩:∃s r,todo=s::r:=by
   cases todo with
   |nil=>simp at hc
   |cons s r=>exact⟨s,r,rfl⟩
  have hgd:(s::todo).getD 0 []=s:=rfl;have hin:in? (s::todo).length 0=some ():=HH (i:=0) (by simp);rw[hin,A0,hgd];refine E2.2 (HG.2 ⟨⟨by decide,by simp only[AD];omega,B0 _⟩,?_⟩)
  have hcut:((s::todo).take ((s::todo).length:Int).toNat).drop (1:Int).toNat=todo:=by
   rw[B7,B5];rfl
  rw[hcut,NT _ _ (by omega),A0];simp only[AD]at hsz;refine E4.2 ⟨fun hp=>?_,fun hp=>?_⟩
  ·refine hn _ ⟨rfl,rfl,by dsimp only;omega,fun x hx=>h1 x (AI _ hx),h2,fun x hx hpx=>?_,fun c nd hc' hnd' hpn=>?_⟩ (by dsimp only;simp only[AD];omega)
   ·rcases h3 x hx hpx with h|h
    ·exact .inl h
    ·rw[B6]at h;rcases h with rfl|h
     ·left;rw[hpx,BP,C6]at hp;exact hp
     ·exact .inr h
   ·rcases h4 c nd hc' hnd' hpn with h|h
    ·exact .inl h
    ·rw[B6]at h;rcases h with h|h
     ·left;rw[<-h,hpn,BP,C6]at hp;exact hp
     ·exact .inr h
  ·have hp1:(FE l' s).2=true:=by have:=(BO.1 hp).1;simpa using this
   have hp2:JK m s=false:=(BO.1 hp).2
   have hCs:CR t' l' s:=by
    rcases h1 s (AN)with h|⟨c,nd,g1,g2,g3⟩
    ·exact .root h hp1
    ·subst g3;exact .step g1 g2 hp1
   obtain⟨hnl,_⟩:=A7c ht (s,(FE l' s).1);rw[uO _ _ ht.offers (fun o ho=>(ht.offer o ho).2.2.1),A0,AQR _ _ (by omega),A0]
   have hK:∀x,JK (GU EM s true m) x=(decide (x=s)||JK m x):=fun x=>by
    unfold JK;rw[AQF];by_cases hx:x=s
    ·rw[if_pos hx,A6 hx];rfl
    ·rw[if_neg hx,AB hx,C6]
   have hlt:free (GU EM s true m)<free m:=by
    rcases QE l' s with⟨e,_⟩|⟨v,e,hm⟩
    ·rw[e]at hp1;cases hp1
    ·refine AQT (fun p hp h=>?_) hm (by rw[hp2];rfl) (by rw[hK];simp);rw[hK]at h;cases hx:JK m p.1 with
     |false=>rfl
     |true=>rw[hx]at h;simp at h
   clear_value free;refine hn _ ⟨rfl,rfl,?_,fun x hx=>?_,fun x hx=>?_,fun x hx hpx=>?_,fun c nd hc' hnd' hpn=>?_⟩ ?_
   ·dsimp only;rw[A7,AL];exact(A7d hlt hsz hnl).1
   ·rw[AR,B_]at hx;rcases hx with hx|⟨nd,hx,rfl⟩
    ·exact h1 x (AI _ hx)
    ·exact .inr ⟨s,nd,hCs,hx,rfl⟩
   ·rw[hK,BG,AV]at hx;rcases hx with rfl|hx
    ·exact hCs
    ·exact h2 x hx
   ·rw[hK,BG,AV];rcases h3 x hx hpx with h|h
    ·exact .inl (.inr h)
    ·rw[B6]at h;rcases h with h|h
     ·exact .inl (.inl h)
     ·exact .inr (AS _ h)
   ·rw[hK,BG,AV]at hc' ⊢;rcases hc' with rfl|hc'
    ·exact .inr (AU _ (B_.2 ⟨nd,hnd',rfl⟩))
    ·rcases h4 c nd hc' hnd' hpn with h|h
     ·exact .inl (.inr h)
     ·rw[B6]at h;rcases h with h|h
      ·exact .inl (.inl h)
      ·exact .inr (AS _ h)
   ·dsimp only;rw[A7,AL];simp only[AD];exact(A7d hlt hsz hnl).2
 ·have hnil:todo=[]:=by
   have:=AG hc;exact D1.1 (by omega)
  subst hnil;refine E3.2 fun s=>⟨h2 s,fun h=>?_⟩;induction h with
  |root g1 g2=>exact(h3 _ g1 g2).elim id fun h=>by cases h
  |step _ g2 g3 ih=>exact(h4 _ _ ih g2 g3).elim id fun h=>by cases h
structure Right(t:FI)(l:List FR):Prop where
 needs:∀nd∈J4 t.2.2.1 t.2.1,NU l nd
 pins:∀p∈l,p.2∈J5 t p.1/\∀nd∈HP t p,NU l nd
 more:∀p∈l,CR t l p.1
 frozen:∀s∈t.2.2.2.2.1,(FE l s).2=true/\(FE l s).1=(FE t.2.2.2.1 s).1
theorem AQV(l:List E1)(v:E1)(hl:l.length<4611686018427387904):Tot (PG (l,v)) (fun q=>q=true<->v∈l):=by
 unfold PG;dsimp only;rw[T2 l v hl,A0];refine E3.2 ?_;rw[AV];have:=AQH v l;constructor
 ·intro h;apply C2;intro hn;have:=this.2 hn;omega
 ·intro h;apply C2;intro hn;exact this.1 (by omega) h
theorem MV{α:Type}{l:List α}{i:Nat}(hi:i<l.length)(P:α->Prop):(∀x∈l.take (i+1),P x)<->(∀x∈l.take i,P x)/\P l[i]:=by
 rw[GR (A1 hi)];constructor
 ·intro h;exact⟨fun nd hnd=>h nd (AS _ hnd),h _ (AU _ (AQ.2 rfl))⟩
 ·rintro⟨h1,h2⟩ nd hnd;rw[AR,AQ]at hnd;rcases hnd with h|rfl
  ·exact h1 nd h
  ·exact h2
theorem AQW(t:FI)(ht:TkB t)(l:List FR)(hl:gL l):Tot (eG (t,l)) (fun q=>q=[]<->Right t l):=by
 have hl12:=hl.1;have hnd:=ht.needs;have hfr:=ht.frozen;unfold eG;dsimp only;have hcl:(J4 t.2.2.1 t.2.1).length<=1048576:=AZ (BN _ _) hnd;rw[gK _ _ hnd,A0];refine E2.2 ((A7b l hl (J4 t.2.2.1 t.2.1) [] hcl (fun nd h=>ht.need nd (CJ.1 h).1)).mono fun r2 h2=>?_);obtain⟨h2l,h2⟩:=h2
 have k1:Tot (qZ (l,t,r2,l,(l.length:Int),0)) (fun q=>q.1=t/\q.2.length<=14680076/\(q.2=[]<->r2=[]/\∀p∈l,p.2∈J5 t p.1/\∀nd∈HP t p,NU l nd)):=by
  refine FY (σ:=List (Int×E1×E1)) l.length (fun s i=>(l,t,s,l,(l.length:Int),i)) (fun m s=>s.length<=1048576+m*1048576/\(s=[]<->r2=[]/\∀p∈l.take m,p.2∈J5 t p.1/\∀nd∈HP t p,NU l nd)) (by omega) (fun next s i hi hs hn=>?_) (fun next s hs=>?_) r2 ⟨by omega,by simp⟩
  ·obtain⟨hle,hs⟩:=hs;unfold qY;dsimp only;have hp:=hl.2 _ (BA hi);rw[F9,A6 hi,AA,FH (A1 hi),A0,A7a t _ ht hp.1,A0,FQ (by omega)]
   have hchl:(J5 t l[i].1).length<=1048576:=by
    unfold J5;rw[AL];exact AZ (BN _ _) (AZ (BN _ _) ht.offers)
   refine E2.2 ((AQV (J5 t l[i].1) l[i].2 (by omega)).mono fun b hb=>E4.2 ⟨fun hc=>?_,fun hc=>?_⟩)
   ·refine E2.2 (G7.2 ⟨by simp only[AD,AJ];omega,hn _ ⟨by simp only[A7,AD,AJ];omega,?_⟩⟩);rw[MV hi,XC];refine⟨False.elim,fun h=>?_⟩;have:=hb.2 h.2.2.1;rw[this]at hc;cases hc
   ·have hbt:b=true:=by simpa using hc
    obtain⟨n1,n2⟩:=A7c ht l[i];rw[uO _ _ ht.offers (fun o ho=>(ht.offer o ho).2.2.1),A0];refine E2.2 ((A7b l hl (HP t l[i]) l[i].1 n1 n2).mono fun r9 h9=>?_);obtain⟨h9l,h9⟩:=h9;refine E2.2 (G7.2 ⟨by omega,hn _ ⟨by rw[A7];omega,?_⟩⟩);rw[MV hi,List.append_eq_nil_iff,hs,h9];exact⟨fun⟨⟨x,y⟩,z⟩=>⟨x,y,hb.1 hbt,z⟩,fun⟨x,y,_,z⟩=>⟨⟨x,y⟩,z⟩⟩
  ·obtain⟨hle,hs⟩:=hs;unfold qY;dsimp only;rw[F9,AB (AH _),AC];rw[B5]at hs;exact E3.2 ⟨rfl,by dsimp only;omega,hs⟩
 refine E2.2 (k1.mono fun r11 h11=>?_);obtain⟨e11,h11l,h11⟩:=h11;rw[e11];refine E2.2 ((AQU t ht l hl).mono fun m hm=>?_)
 have k2:Tot (rA (r11.2,m,l,(l.length:Int),0)) (fun q=>q.length<=14680088/\(q=[]<->r11.2=[]/\∀p∈l,CR t l p.1)):=by
  refine FY (σ:=List (Int×E1×E1)) l.length (fun s i=>(s,m,l,(l.length:Int),i)) (fun k s=>s.length<=14680076+k/\(s=[]<->r11.2=[]/\∀p∈l.take k,CR t l p.1)) (by omega) (fun next s i hi hs hn=>?_) (fun next s hs=>?_) r11.2 ⟨by omega,by simp⟩
  ·obtain⟨hle,hs⟩:=hs;unfold q_;dsimp only;rw[F9,A6 hi,AA,FH (A1 hi),A0,FQ (by omega)];refine E4.2 ⟨fun hc=>?_,fun hc=>?_⟩
   ·refine E2.2 (G7.2 ⟨by simp only[AD,AJ];omega,hn _ ⟨by simp only[A7,AD,AJ];omega,?_⟩⟩);rw[MV hi,XC];refine⟨False.elim,fun h=>?_⟩;have:=(hm _).2 h.2.2;unfold JK at this;rw[this]at hc;cases hc
   ·refine hn _ ⟨by omega,?_⟩;rw[MV hi,hs];have:JK m l[i].1=true:=by unfold JK;simpa using hc
    exact⟨fun⟨x,y⟩=>⟨x,y,(hm _).1 this⟩,fun⟨x,y,_⟩=>⟨x,y⟩⟩
  ·obtain⟨hle,hs⟩:=hs;unfold q_;dsimp only;rw[F9,AB (AH _),AC];rw[B5]at hs;exact E3.2 ⟨by omega,hs⟩
 refine E2.2 (k2.mono fun r16 h16=>?_);obtain⟨h16l,h16⟩:=h16
 have k3:Tot (rC (l,t,r16,t.2.2.2.2.1,(t.2.2.2.2.1.length:Int),0)) (fun q=>q=[]<->r16=[]/\∀s∈t.2.2.2.2.1,(FE l s).2=true/\(FE l s).1=(FE t.2.2.2.1 s).1):=by
  have hold:=ht.old;refine FY (σ:=List (Int×E1×E1)) t.2.2.2.2.1.length (fun s i=>(l,t,s,t.2.2.2.2.1,(t.2.2.2.2.1.length:Int),i)) (fun k s=>s.length<=14680088+k/\(s=[]<->r16=[]/\∀s∈t.2.2.2.2.1.take k,(FE l s).2=true/\(FE l s).1=(FE t.2.2.2.1 s).1)) (by omega) (fun next s i hi hs hn=>?_) (fun next s hs=>?_) r16 ⟨by omega,by simp⟩
  ·obtain⟨hle,hs⟩:=hs;unfold rB;dsimp only;rw[F9,A6 hi,AA,FH (A1 hi),A0,NT _ _ (by omega),A0,NT _ _ (by omega),A0,FQ (by omega),E9];refine E4.2 ⟨fun hc=>?_,fun hc=>?_⟩
   ·refine E2.2 (G7.2 ⟨by simp only[AD,AJ];omega,hn _ ⟨by simp only[A7,AD,AJ];omega,?_⟩⟩);rw[MV hi,XC];refine⟨False.elim,fun h=>?_⟩;obtain⟨g1,g2⟩:=h.2.2;rw[g1,A6 g2]at hc;cases hc
   ·refine hn _ ⟨by omega,?_⟩;rw[MV hi,hs];obtain⟨g1,g2⟩:=BO.1 hc;have g1:(FE l t.2.2.2.2.1[i]).2=true:=by simpa using g1
    have g2:(FE l t.2.2.2.2.1[i]).1=(FE t.2.2.2.1 t.2.2.2.2.1[i]).1:=by simpa using g2
    exact⟨fun⟨x,y⟩=>⟨x,y,g1,g2⟩,fun⟨x,y,_⟩=>⟨x,y⟩⟩
  ·obtain⟨hle,hs⟩:=hs;unfold rB;dsimp only;rw[F9,AB (AH _),AC];rw[B5]at hs;exact E3.2 hs
 refine E2.2 (k3.mono fun q hq=>E3.2 ?_);rw[hq,h16,h11,h2];exact⟨fun⟨⟨⟨a,b⟩,c⟩,d⟩=>⟨a,b,c,d⟩,fun h=>⟨⟨⟨h.needs,h.pins⟩,h.more⟩,h.frozen⟩⟩
theorem gM{α:Type}{motive:List α->Prop}(nil:motive [])(append_singleton:∀l a,motive l->motive (l++[a]))(l:List α):motive l:=by
 have:∀r:List α,motive r.reverse:=by
  intro r;induction r with
  |nil=>exact nil
  |cons a r ih=>rw[List.reverse_cons];exact append_singleton _ _ ih
 have:=this l.reverse;rwa[List.reverse_reverse]at this
def M6(s:List E1)(o:GS):List E1:=if o.1∈s then s else s++[o.1]
def EU(l:List GS):List E1:=l.foldl M6 []
theorem QG(l:List GS)(o:GS):EU (l++[o])=M6 (EU l) o:=by
 unfold EU;rw[List.foldl_append];rfl
theorem A7e(l:List GS):(EU l).length<=l.length:=by
 induction l using gM with
 |nil=>exact AM _
 |append_singleton l o ih=>
  rw[QG];unfold M6;split
  ·simp only[A7,AD,AJ];omega
  ·simp only[A7,AD,AJ];omega
theorem XD(l:List GS)(s:E1):s∈EU l<->∃o∈l,o.1=s:=by
 induction l using gM with
 |nil=>simp[EU]
 |append_singleton l o ih=>
  rw[QG];unfold M6;split
  ·rename_i h;rw[ih];constructor
   ·rintro⟨x,hx,rfl⟩;exact⟨x,AS _ hx,rfl⟩
   ·rintro⟨x,hx,rfl⟩;rw[AR,AQ]at hx;rcases hx with hx|rfl
    ·exact⟨x,hx,rfl⟩
    ·exact ih.1 h
  ·rw[AR,ih,AQ];constructor
   ·rintro(⟨x,hx,rfl⟩|rfl)
    ·exact⟨x,AS _ hx,rfl⟩
    ·exact⟨o,by simp,rfl⟩
   ·rintro⟨x,hx,rfl⟩;rw[AR,AQ]at hx;rcases hx with hx|rfl
    ·exact .inl ⟨x,hx,rfl⟩
    ·exact .inr rfl
theorem A7f(l:List GS):(EU l).Nodup:=by
 induction l using gM with
 |nil=>exact B8
 |append_singleton l o ih=>
  rw[QG];unfold M6;split
  ·exact ih
  ·rename_i h;rw[BD];refine⟨ih,by simp,fun a ha b hb=>?_⟩;rw[AQ]at hb;rintro rfl;subst hb;exact h ha
theorem XE(v:E1)(l:List E1):IV (fun x=>decide (v=x)) l<0<->v ∉ l:=by
 rcases NR (fun x=>decide (v=x)) l with⟨h1,h2⟩|⟨i,x,h1,h2,h3,_⟩
 ·rw[h1];refine⟨fun _ h=>?_,fun _=>by decide⟩;have:=h2 v h;simp at this
 ·rw[h1];have:v=x:=A9 h3;subst this;refine⟨fun h=>by omega,fun h=>absurd (AP h2) h⟩
theorem AQX(t:FI)(l:List GS)(hl:l.length<=1048576):
 p_ ((t,([]:List E1),([]:List (List E1)),([]:List (List Int)),([]:List (List (List Int))),([]:List Int),(0:Int)),l,(l.length:Int),0)=
  some (t,EU l,([]:List (List E1)),([]:List (List Int)),([]:List (List (List Int))),([]:List Int),(0:Int)):=by
 refine IG ?_;refine FY (σ:=List E1) l.length (fun s i=>((t,s,([]:List (List E1)),([]:List (List Int)),([]:List (List (List Int))),([]:List Int),(0:Int)),l,(l.length:Int),i)) (fun i s=>s=EU (l.take i)) (by omega) (fun next s i hi hj hn=>?_) (fun next s hj=>?_) [] (by simp[EU])
 ·unfold pZ;dsimp only;have hle:s.length<=i:=by rw[hj];exact AZ (A7e _) (by rw[B4];omega)
  rw[F9,A6 hi,AA,FH (A1 hi),A0,FQ (by omega)];unfold NH;dsimp only;rw[A0,T2 _ _ (by dsimp only;omega),A0,A0];refine E4.2 ⟨fun h=>E2.2 (G7.2 ⟨by simp only[AD,AJ];omega,?_⟩),fun h=>?_⟩
  ·have h:=(XE _ _).1 (A9 h);refine hn _ ?_;rw[GR (A1 hi),QG,<-hj];unfold M6;rw[if_neg h]
  ·have h:¬_:=AG h;rw[XE,Classical.not_not]at h;refine hn _ ?_;rw[GR (A1 hi),QG,<-hj];unfold M6;rw[if_pos h]
 ·unfold pZ;dsimp only;rw[F9,AB (AH _),AC];exact E3.2 (by rw[hj,B5])
noncomputable def M7(t:FI)(name:E1):List E1:=(J5 t name).reverse
def KS(n:Nat):Int:=((2 ^ n-1:Nat):Int)
theorem AQY(t:FI)(ht:TkB t)(ns:List E1)(hl:ns.length<=1048576)(hn:∀s∈ns,s.length<=1048576/\(M7 t s).length<=8):
 qB (t,(t,ns,([]:List (List E1)),([]:List (List Int)),([]:List (List (List Int))),([]:List Int),(0:Int)),ns,(ns.length:Int),0)=
  some (t,ns,ns.map (M7 t),([]:List (List Int)),([]:List (List (List Int))),ns.map (fun s=>KS ((M7 t s).length+1)),(0:Int)):=by
 refine IG ?_;refine FY (σ:=Nat) ns.length (fun s i=>(t,(t,ns,(ns.take s).map (M7 t),([]:List (List Int)),([]:List (List (List Int))),(ns.take s).map (fun s=>KS ((M7 t s).length+1)),(0:Int)),ns,(ns.length:Int),i)) (fun i s=>s=i) (by omega) (fun next s i hi hj hnx=>?_) (fun next s hj=>?_) 0 rfl
 ·subst hj;unfold qA;dsimp only;obtain⟨h1,h2⟩:=hn _ (BA hi);rw[F9,A6 hi,AA,FH (A1 hi),A0,FQ (by omega),A7a t _ ht h1,A0];have h3:(J5 t ns[s]).length<=8:=by have:=h2;unfold M7 at this;rwa[DJ]at this
  rw[AQP _ (by omega),A0];refine E2.2 (G7.2 ⟨by simp only[AL,B4,AD,AJ];omega,?_⟩);rw[FQ (by rw[DJ];omega)];have h4:=(uM (n:=(J5 t ns[s]).reverse.length+1) (by rw[DJ];omega)).1;rw[show(((J5 t ns[s]).reverse.length+1:Nat):Int)=((J5 t ns[s]).reverse.length:Int)+1 by omega]at h4;rw[h4,A0];refine E2.2 (G7.2 ⟨by simp only[AL,B4,AD,AJ];omega,?_⟩);have:=hnx (s+1) rfl;rw[GR (A1 hi),C4,C4]at this;exact this
 ·unfold qA;dsimp only;rw[F9,AB (AH _),AC];exact E3.2 (by rw[hj,B5])
section
variable{α:Type}{R:α->α->Prop}
theorem QH(tr:∀a b c,R a b->R b c->R a c){l:List α}{i:Nat}(hi:i<l.length):(l.take (i+1)).Pairwise R<->(l.take i).Pairwise R/\∀(_:0<i) (y:α),l[i-1]?=some y->R y l[i]:=by
 rw[GR (A1 hi),DT];constructor
 ·rintro⟨h1,_,h3⟩;refine⟨h1,fun h0 y hy=>h3 y ?_ _ (AQ.2 rfl)⟩;rw[CN];obtain⟨h4,h5⟩:=AE.1 hy;exact⟨i-1,by omega,h5⟩
 ·rintro⟨h1,h2⟩;refine⟨h1,List.pairwise_singleton _ _,fun a ha b hb=>?_⟩;cases AQ.1 hb;obtain⟨j,hj,rfl⟩:=CN.1 ha;have h0:0<i:=by omega
  have hy:l[i-1]?=some (l[i-1]'(by omega)):=A1 _;have hl:=h2 h0 _ hy;by_cases hji:j=i-1
  ·subst hji;exact hl
  ·refine tr _ _ _ ?_ hl;have:=CX.1 h1 j (i-1) (by rw[B4];omega) (by rw[B4];omega) (by omega);simpa using this
end
theorem AQZ{α:Type}{l:List α}{i:Nat}(hi:i<l.length)(d:α):Tot (bif decide ((0:Int)<(i:Int))then at? l (i64.wrap ((i:Int)-1))else some d) (fun y=>0<i->l[i-1]?=some y)\/l.length ≥ 4611686018427387904:=by
 by_cases hb:l.length<4611686018427387904
 ·left;refine E4.2 ⟨fun hz=>?_,fun hz=>E3.2 fun h0=>?_⟩
  ·have hz:=A9 hz;rw[E_ (by omega) (by omega)];refine F4.2 ⟨⟨by omega,by omega⟩,fun w hw _=>?_⟩;rw[show i-1=((i:Int)-1).toNat by omega];exact hw
  ·have hz:=AG hz;omega
 ·right;omega
theorem uR{α:Type}{l:List α}{i:Nat}(hi:i<l.length)(hb:l.length<4611686018427387904)(d:α):Tot (bif decide ((0:Int)<(i:Int))then at? l (i64.wrap ((i:Int)-1))else some d) (fun y=>0<i->l[i-1]?=some y):=
 (AQZ hi d).elim id fun h=>by omega
noncomputable def gN(r:Rg):Int:=(S8 r).getD 0
theorem AQ_(r:Rg)(hr:∀s∈r.2,T3 s):S8 r=some (gN r):=by
 suffices h:∃q,S8 r=some q by
  obtain⟨q,h⟩:=h;unfold gN;rw[h];rfl
 refine tS.1 ?_;unfold S8;exact E2.2 ((A7_ r hr).mono fun _ _=>E3.2 trivial)
structure NdOk(nd:GA):Prop where
 kind:(HQ nd.1).2=true
 range:gN nd.2.1=0
 same:nd.2.1.1=(HQ nd.1).1
 scope:1<=nd.2.2/\nd.2.2<=4
structure NdsOk(l:List GA):Prop where
 few:l.length<=12
 ok:∀nd∈l,NdOk nd
 asc:l.Pairwise fun a b=>a.1<b.1
theorem T5{α:Type}(f:α->E1):∀a b c:α,f a<f b->f b<f c->f a<f c:=fun _ _ _=>QB
theorem A7g(l:List GA)(hl:l.length<=1048576)(hb:∀nd∈l,K8 nd):Tot (VP l) (fun e=>e=0<->NdsOk l):=by
 unfold VP;refine E4.2 ⟨fun hc=>E3.2 ⟨fun h=>absurd h (by decide),fun h=>?_⟩,fun hc=>?_⟩
 ·have:=A9 hc;have:=h.few;omega
 have hc:=AG hc
 refine E2.2 (Tot.mono (P:=fun q:Sum Unit Int=>match q with
  | .inl _=>(∀nd∈l,NdOk nd)/\l.Pairwise fun a b=>a.1<b.1
  | .inr e=>e≠0/\¬((∀nd∈l,NdOk nd)/\l.Pairwise fun a b=>a.1<b.1)) ?_ fun q hq=>?_)
 ·refine FY (σ:=Unit) l.length (fun _ i=>(l,l,(l.length:Int),i)) (fun m _=>(∀nd∈l.take m,NdOk nd)/\(l.take m).Pairwise fun a b=>a.1<b.1) (by omega) (fun next s i hi hs hn=>?_) (fun next s hs=>?_) () (by simp)
  ·unfold nK;dsimp only;have hnd:=hb _ (BA hi);rw[F9,A6 hi,AA,FH (A1 hi),A0,XB _ hnd.1,A0,AQ_ _ hnd.2,FQ (by omega)];have hall:(∀nd∈l,NdOk nd)->NdOk l[i]:=fun h=>h _ (BA hi);refine E4.2 ⟨fun h1=>E3.2 ⟨by decide,fun h=>?_⟩,fun h1=>?_⟩
   ·rw[(hall h.1).kind]at h1;cases h1
   refine E2.2 (E3.2 ?_);refine E4.2 ⟨fun h2=>E3.2 ?_,fun h2=>?_⟩
   ·rw[E5]at h2;have h2:¬gN l[i].2.1=0:=by simpa using h2
    exact⟨h2,fun h=>h2 (hall h.1).range⟩
   refine E4.2 ⟨fun h3=>E3.2 ⟨by decide,fun h=>?_⟩,fun h3=>?_⟩
   ·rw[(hall h.1).same,E5]at h3;simp at h3
   refine E4.2 ⟨fun h4=>E3.2 ⟨by decide,fun h=>?_⟩,fun h4=>?_⟩
   ·have:=(hall h.1).scope;rw[BG,AV,AV]at h4;omega
   refine E2.2 ((uR hi (by omega) _).mono fun y hy=>?_);rw[gG];refine E4.2 ⟨fun h5=>E3.2 ⟨by decide,fun h=>?_⟩,fun h5=>hn () ⟨?_,?_⟩⟩
   ·obtain⟨h6,h7⟩:=D8.1 h5;have h6:=A9 h6;have hy:=hy (by omega);have h8:=((QH (T5 fun nd:GA=>nd.1) hi).1 (h.2.sublist (List.take_sublist _ _))).2 (by omega) y hy;have h8:y.1<l[i].1:=h8;rw[A6 h8]at h7;cases h7
   ·rw[MV hi];refine⟨hs.1,⟨by simpa using h1,?_,?_,?_⟩⟩
    ·rw[E5]at h2;simpa using h2
    ·rw[E5]at h3;simpa using h3
    ·obtain⟨g1,g2⟩:=BO.1 h4;have:=AG g1;have:=AG g2;omega
   ·rw[QH (T5 fun nd:GA=>nd.1) hi];refine⟨hs.2,fun h0 y' hy'=>?_⟩;have hy:=hy h0;rw[hy]at hy';cases hy';rw[A6 (show(0:Int)<(i:Int) by omega),C7]at h5;have h5:decide (y.1<l[i].1)=true:=by simpa using h5
    exact A9 h5
  ·unfold nK;dsimp only;rw[F9,AB (AH _),AC];rw[B5]at hs;exact E3.2 hs
 ·rcases q with u|e
  ·exact E3.2 ⟨fun _=>⟨by omega,hq.1,hq.2⟩,fun _=>rfl⟩
  ·exact E3.2 ⟨fun h=>absurd h hq.1,fun h=>absurd ⟨h.ok,h.asc⟩ hq.2⟩
noncomputable def K9(name v:E1):Int×Int:=(PF (name,v)).getD (0,0)
theorem A7h(name v:E1)(h1:name.length<=1048576)(h2:v.length<=1048576):Tot (PF (name,v)) (fun q=>q.2=0->(HQ name).2=true/\q.1=(HQ name).1/\Ok (HQ name).1 v):=by
 unfold PF;dsimp only;rw[XB _ h1,A0];refine E4.2 ⟨fun _=>E3.2 fun h=>absurd h (by decide),fun hc=>?_⟩;exact E2.2 ((A7T _ v h2).mono fun e he=>E3.2 fun h=>⟨by simpa using hc,rfl,he h⟩)
theorem A7i(name v:E1)(h1:name.length<=1048576)(h2:v.length<=1048576):PF (name,v)=some (K9 name v):=by
 obtain⟨q,hq,_⟩:=A7h name v h1 h2;unfold K9;rw[hq];rfl
theorem gO{name v:E1}(h1:name.length<=1048576)(h2:v.length<=1048576)(h:(K9 name v).2=0):(HQ name).2=true/\(K9 name v).1=(HQ name).1/\Ok (HQ name).1 v:=by
 obtain⟨q,hq,h3⟩:=A7h name v h1 h2;have:K9 name v=q:=by unfold K9;rw[hq];rfl
 rw[this]at h ⊢;exact h3 h
structure LkOk(l:List FR):Prop where
 few:l.length<=12
 ok:∀p∈l,(K9 p.1 p.2).2=0
 asc:l.Pairwise fun a b=>a.1<b.1
theorem uS(l:List FR)(hl:l.length<=1048576)(hb:∀p∈l,p.1.length<=1048576/\p.2.length<=1048576):Tot (VQ l) (fun e=>e=0<->LkOk l):=by
 unfold VQ;refine E4.2 ⟨fun hc=>E3.2 ⟨fun h=>absurd h (by decide),fun h=>?_⟩,fun hc=>?_⟩
 ·have:=A9 hc;have:=h.few;omega
 have hc:=AG hc
 refine E2.2 (Tot.mono (P:=fun q:Sum Unit Int=>match q with
  | .inl _=>(∀p∈l,(K9 p.1 p.2).2=0)/\l.Pairwise fun a b=>a.1<b.1
  | .inr e=>e≠0/\¬((∀p∈l,(K9 p.1 p.2).2=0)/\l.Pairwise fun a b=>a.1<b.1)) ?_ fun q hq=>?_)
 ·refine FY (σ:=Unit) l.length (fun _ i=>(l,l,(l.length:Int),i)) (fun m _=>(∀p∈l.take m,(K9 p.1 p.2).2=0)/\(l.take m).Pairwise fun a b=>a.1<b.1) (by omega) (fun next s i hi hs hn=>?_) (fun next s hs=>?_) () (by simp)
  ·unfold nP;dsimp only;have hp:=hb _ (BA hi);rw[F9,A6 hi,AA,FH (A1 hi),A0,A7i _ _ hp.1 hp.2,A0,FQ (by omega)];refine E4.2 ⟨fun h2=>E3.2 ?_,fun h2=>?_⟩
   ·rw[E5]at h2;have h2:¬(K9 l[i].1 l[i].2).2=0:=by simpa using h2
    exact⟨h2,fun h=>h2 (h.1 _ (BA hi))⟩
   refine E2.2 ((uR hi (by omega) _).mono fun y hy=>?_);rw[gG];refine E4.2 ⟨fun h5=>E3.2 ⟨by decide,fun h=>?_⟩,fun h5=>hn () ⟨?_,?_⟩⟩
   ·obtain⟨h6,h7⟩:=D8.1 h5;have h6:=A9 h6;have hy:=hy (by omega);have h8:=((QH (T5 fun nd:FR=>nd.1) hi).1 (h.2.sublist (List.take_sublist _ _))).2 (by omega) y hy;have h8:y.1<l[i].1:=h8;rw[A6 h8]at h7;cases h7
   ·rw[MV hi];refine⟨hs.1,?_⟩;rw[E5]at h2;simpa using h2
   ·rw[QH (T5 fun nd:FR=>nd.1) hi];refine⟨hs.2,fun h0 y' hy'=>?_⟩;have hy:=hy h0;rw[hy]at hy';cases hy';rw[A6 (show(0:Int)<(i:Int) by omega),C7]at h5;have h5:decide (y.1<l[i].1)=true:=by simpa using h5
    exact A9 h5
  ·unfold nP;dsimp only;rw[F9,AB (AH _),AC];rw[B5]at hs;exact E3.2 hs
 ·rcases q with u|e
  ·exact E3.2 ⟨fun _=>⟨by omega,hq.1,hq.2⟩,fun _=>rfl⟩
  ·exact E3.2 ⟨fun h=>absurd h hq.1,fun h=>absurd ⟨h.ok,h.asc⟩ hq.2⟩
def XF(o:GS):Prop:=o.1.length<=1048576/\o.2.1.length<=1048576/\o.2.2.1.length<=1048576/\∀n∈o.2.2.1,K8 n
structure OfOk(o:GS):Prop where
 pin:(K9 o.1 o.2.1).2=0
 needs:NdsOk o.2.2.1
 other:∀nd∈o.2.2.1,nd.1≠o.1
def M8(a b:GS):Prop:=a.1<b.1\/a.1=b.1/\ky (HQ a.1).1 a.2.1<ky (HQ b.1).1 b.2.1
theorem AQa(a b c:GS):M8 a b->M8 b c->M8 a c:=by
 rintro(h1|⟨h1,h1'⟩) (h2|⟨h2,h2'⟩)
 ·exact .inl (QB h1 h2)
 ·exact .inl (h2▸h1)
 ·exact .inl (h1▸h2)
 ·exact .inr ⟨h1.trans h2,QB h1' h2'⟩
theorem AQb(l:List GA)(f:GA->Option Bool)(p:GA->Bool)(hf:∀x,f x=some (p x))(hl:l.length<4611686018427387904):∃b,cQ (l,f)=some b/\(b=true<->∃nd∈l,p nd=true):=by
 unfold cQ;dsimp only;rw[AQJ l f p hf hl,A0];refine⟨_,rfl,?_⟩;rw[AV];rcases NR p l with⟨h1,h2⟩|⟨i,x,h1,h2,h3,_⟩
 ·rw[h1];refine⟨fun h=>absurd h (by decide),fun⟨nd,h,h'⟩=>?_⟩;rw[h2 nd h]at h';cases h'
 ·rw[h1];exact⟨fun _=>⟨x,AP h2,h3⟩,fun _=>by omega⟩
theorem AQc(o:GS)(before:List GS)(ho:XF o)(hb:∀a∈before,XF a)(hbo:∀a∈before,(K9 a.1 a.2.1).2=0)(hbl:before.length<4611686018427387904):
 Tot (cS (o,before)) (fun e=>e=0->OfOk o/\∀(_:0<before.length) (y:GS),before[before.length-1]?=some y->M8 y o):=by
 unfold cS;dsimp only;rw[A7i _ _ ho.1 ho.2.1,A0];refine E4.2 ⟨fun h=>E3.2 fun h0=>?_,fun h=>?_⟩
 ·rw[E5,A6 h0]at h;cases h
 have hpin:(K9 o.1 o.2.1).2=0:=by rw[E5]at h;simpa using h
 refine E2.2 ((A7g o.2.2.1 ho.2.2.1 ho.2.2.2).mono fun e he=>E4.2 ⟨fun h2=>E3.2 fun h0=>?_,fun h2=>?_⟩)
 ·rw[E5,A6 h0]at h2;cases h2
 have hnds:NdsOk o.2.2.1:=he.1 (by rw[E5]at h2;simpa using h2);obtain⟨b,h3,h4⟩:=AQb o.2.2.1 (fun x=>(nL (x,(some o))).bind fun r=>some r) (fun nd=>EM nd.1 o.1) (fun x=>rfl) (by have:=ho.2.2.1;omega);rw[h3,A0];refine E4.2 ⟨fun _=>E3.2 fun h0=>absurd h0 (by decide),fun hb0=>?_⟩
 have hoth:∀nd∈o.2.2.1,nd.1≠o.1:=by
  intro nd hnd e;have:=h4.2 ⟨nd,hnd,by rw[E9];exact A6 e⟩;rw[hb0]at this;cases this
 have hok:OfOk o:=⟨hpin,hnds,hoth⟩;refine E4.2 ⟨fun hz=>E3.2 fun _=>⟨hok,fun h0=>?_⟩,fun hz=>?_⟩
 ·rw[E5]at hz;have:=A9 hz;omega
 have hpos:0<before.length:=by
  rw[E5]at hz;have:=AG hz;omega
 rw[E_ (by omega) (by omega)];refine E2.2 (F4.2 ⟨⟨by omega,by omega⟩,fun y hy=>?_⟩);rw[show((before.length:Int)-1).toNat=before.length-1 by omega]at hy;have hym:=AP hy;rw[uB,E9];refine E4.2 ⟨fun _=>E3.2 fun h0=>absurd h0 (by decide),fun hlt=>E4.2 ⟨fun heq=>?_,fun hne=>E3.2 fun _=>⟨hok,fun _ y' hy'=>?_⟩⟩⟩
 ·have heq:=A9 heq;obtain⟨_,k1,k2⟩:=gO ho.1 ho.2.1 hpin;obtain⟨_,_,k3⟩:=gO (hb y hym).1 (hb y hym).2.1 (hbo y hym);rw[<-heq]at k3;rw[k1,AQ9 k3 k2,A0];refine E4.2 ⟨fun _=>E3.2 fun h0=>absurd h0 (by decide),fun hc=>E3.2 fun _=>⟨hok,fun _ y' hy'=>?_⟩⟩;rw[hy]at hy';cases hy';have hc:=AG hc;refine .inr ⟨heq.symm,?_⟩;rw[<-heq];exact(AO6 _ _).1 (by dsimp only at hc;omega)
 ·rw[hy]at hy';cases hy';have hlt:=AG hlt;have hne:=AG hne;rcases X6 o.1 y.1 with h|h|h
  ·exact absurd h hlt
  ·exact absurd h hne
  ·exact .inl h
def M9(l:List GS)(nm:E1):Nat:=(l.filter fun o=>decide (o.1=nm)).length
theorem AQd(l:List GS)(o:GS)(nm:E1):M9 (l++[o]) nm=M9 l nm+if o.1=nm then 1 else 0:=by
 unfold M9;rw[CY,A7];by_cases h:o.1=nm<;>simp[h]
structure RegOk(l:List GS):Prop where
 ok:∀o∈l,OfOk o
 asc:l.Pairwise M8
 few:(EU l).length<=12
 few8:∀nm,M9 l nm<=8
theorem AQe(l:List GS)(hl:l.length<=1048576)(hb:∀o∈l,XF o):Tot (SA l) (fun e=>e=0->RegOk l):=by
 unfold SA
 refine E2.2 (Tot.mono (P:=fun q:Sum Unit Int=>match q with
  | .inl _=>RegOk l
  | .inr e=>e≠0) ?_ fun q hq=>?_)
 ·refine FY (σ:=Int×Int) l.length (fun s i=>(l,s.1,s.2,l,(l.length:Int),i)) (fun m s=>(∀o∈l.take m,OfOk o)/\(l.take m).Pairwise M8/\s.1=((EU (l.take m)).length:Int)/\(EU (l.take m)).length<=12/\(∀nm,M9 (l.take m) nm<=8)/\∀(_:0<m) (y:GS),l[m-1]?=some y->s.2=(M9 (l.take m) y.1:Int))
   (by omega) (fun next s i hi hs hn=>?_) (fun next s hs=>?_) (0,0) ⟨by simp,by simp,rfl,by rw[DE];exact BI _,fun nm=>by simp[M9],fun h=>by omega⟩
  ·obtain⟨g1,g2,g3,g4,g5,g6⟩:=hs;unfold nO;dsimp only
   have hcut:cut? l 0 (i:Int)=some (l.take i):=by
    refine IG (HG.2 ⟨⟨B0 _,by omega,by omega⟩,?_⟩);rw[B7];rfl
   rw[F9,A6 hi,AA,FH (A1 hi),A0,hcut,A0,FQ (by omega)];have htl:(l.take i).length=i:=by rw[B4];omega
   refine E2.2 ((AQc l[i] (l.take i) (hb _ (BA hi)) (fun a ha=>hb a (D7 ha)) (fun a ha=>(g1 a ha).pin) (by omega)).mono fun e he=>E4.2 ⟨fun h=>E3.2 ?_,fun h=>?_⟩)
   ·rw[E5]at h;simpa using h
   have he:=he (by rw[E5]at h;simpa using h);obtain⟨hok,hlast⟩:=he;have hprev:∀(_:0<i) (y:GS),l[i-1]?=some y->M8 y l[i]:=fun h0 y hy=>hlast (by omega) y (by rw[htl,AX,if_pos (by omega)];exact hy);have hasc:(l.take (i+1)).Pairwise M8:=(QH AQa hi).2 ⟨g2,hprev⟩;have hoks:∀o∈l.take (i+1),OfOk o:=(MV hi _).2 ⟨g1,hok⟩;have hsn:=GR (A1 hi)
   have hbef:∀a∈l.take i,M8 a l[i]:=by
    rw[hsn,DT]at hasc;exact fun a ha=>hasc.2.2 a ha _ (AQ.2 rfl)
   have hcnt:∀nm,M9 (l.take (i+1)) nm=M9 (l.take i) nm+if l[i].1=nm then 1 else 0:=fun nm=>by rw[hsn,AQd]
   have hnames:EU (l.take (i+1))=M6 (EU (l.take i)) l[i]:=by rw[hsn,QG]
   have hni:(EU (l.take i)).length<=i:=AZ (A7e _) (by omega);rw[E_ (n:=s.1+1) (by rw[g3];omega) (by rw[g3];omega)]
   have hat:Tot (bif (!(E6 (i:Int) 0))then at? l (i64.wrap ((i:Int)-1))else some (([]:List UInt8),(([]:List UInt8),(([]:List GA),false)))) (fun y:GS=>0<i->l[i-1]?=some y):=by
    refine E4.2 ⟨fun hz=>?_,fun hz=>E3.2 fun h0=>?_⟩
    ·have hz:¬((i:Int)=0):=by rw[E5]at hz;simpa using hz
     rw[E_ (by omega) (by omega)];refine F4.2 ⟨⟨by omega,by omega⟩,fun w hw _=>?_⟩;rw[show i-1=((i:Int)-1).toNat by omega];exact hw
    ·have hz:((i:Int)=0):=by rw[E5]at hz;simpa using hz
     omega
   refine E2.2 (hat.mono fun y hy=>?_)
   have hnew:(∀a∈l.take i,a.1≠l[i].1)->EU (l.take (i+1))=EU (l.take i)++[l[i].1]/\M9 (l.take i) l[i].1=0:=by
    intro h;constructor
    ·rw[hnames];unfold M6;rw[if_neg];rw[XD];rintro⟨a,ha,e⟩;exact h a ha e
    ·unfold M9;rw[D1,List.filter_eq_nil_iff];intro a ha;simp[h a ha]
   refine E4.2 ⟨fun hc=>?_,fun hc=>?_⟩
   ·have hne:∀a∈l.take i,a.1≠l[i].1:=by
     rcases DN i with h0|h0
     ·subst h0;intro a ha;simp at ha
     have hy:=hy h0;rw[E5,AB (by omega),C6,E9]at hc;have hc:¬y.1=l[i].1:=by simpa using hc
     have hyl:y.1<l[i].1:=(hprev h0 y hy).elim id fun h=>absurd h.1 hc;intro a ha e;obtain⟨j,hj,rfl⟩:=CN.1 ha
     have hyy:y=l[i-1]:=by
      have:=hy;rw[A1 (by omega)]at this;exact(A4 this).symm
     by_cases hji:j=i-1
     ·subst hji;rw[<-hyy]at e;exact hc e
     ·have:=CX.1 g2 j (i-1) (by omega) (by omega) (by omega);have this:M8 l[j] l[i-1]:=by simpa using this
      rw[<-hyy]at this;rcases this with h|h
      ·rw[e]at h;exact JU _ (QB h hyl)
      ·rw[e]at h;rw[h.1]at hyl;exact JU _ hyl
    obtain⟨n1,n2⟩:=hnew hne;refine E4.2 ⟨fun _=>E3.2 (show(3:Int)≠0 by decide),fun hd=>hn (s.1+1,1) ⟨hoks,hasc,?_,?_,?_,?_⟩⟩
    ·dsimp only;rw[n1,A7,g3];simp
    ·rw[n1,A7];have:=AG (BO.1 hd).2;rw[g3]at this;simp only[AD,AJ];omega
    ·intro nm;rw[hcnt];have:=g5 nm;split
     ·rename_i h;rw[<-h,n2];decide
     ·exact this
    ·intro _ y' hy';rw[Nat.add_sub_cancel,A1 hi]at hy';cases hy';dsimp only;rw[hcnt,n2,if_pos rfl];rfl
   ·obtain⟨hc1,hc2⟩:=BO.1 hc;have h0:0<i:=by rw[E5]at hc1;have:=AG hc1;omega
    have hy:=hy h0;have hye:y.1=l[i].1:=by rw[E9]at hc2;simpa using hc2
    have g6:=g6 h0 y hy
    have hym:y∈l.take i:=CN.2 ⟨i-1,by omega,by
     have:=hy;rw[A1 (by omega)]at this;exact A4 this⟩
    have n1:EU (l.take (i+1))=EU (l.take i):=by
     rw[hnames];unfold M6;rw[if_pos];rw[XD];exact⟨y,hym,hye⟩
    have h8:=g5 y.1;rw[E_ (n:=s.2+1) (by rw[g6];omega) (by rw[g6];omega)];refine E4.2 ⟨fun _=>E3.2 (show(3:Int)≠0 by decide),fun hd=>hn (s.1,s.2+1) ⟨hoks,hasc,by rw[n1];exact g3,by rw[n1];exact g4,?_,?_⟩⟩
    ·intro nm;rw[hcnt];have:=g5 nm;split
     ·rename_i h;have:=AG (BO.1 hd).1;rw[g6]at this;rw[<-h,<-hye];omega
     ·exact this
    ·intro _ y' hy';rw[Nat.add_sub_cancel,A1 hi]at hy';cases hy';dsimp only;rw[hcnt,if_pos rfl,g6,hye];rfl
  ·obtain⟨g1,g2,g3,g4,g5,g6⟩:=hs;unfold nO;dsimp only;rw[F9,AB (AH _),AC];rw[B5]at g1 g2 g4 g5;exact E3.2 ⟨g1,g2,g4,g5⟩
 ·rcases q with u|e
  ·exact E3.2 fun _=>hq
  ·exact E3.2 fun h=>absurd h hq
structure TaskOk(t:FI):Prop where
 reg:RegOk t.1
 needs:NdsOk t.2.1
 scope:1<=t.2.2.1/\t.2.2.1<=4
 old:LkOk t.2.2.2.1
 frozen:∀s∈t.2.2.2.2.1,(FE t.2.2.2.1 s).2=true
 asc:t.2.2.2.2.1.Pairwise fun a b=>a<b
 base:uL t.2.2.2.2.2.2
theorem AQf(t:FI)(ht:TkB t):
 Tot (oR (t,t.2.2.2.2.1,(t.2.2.2.2.1.length:Int),0)) (fun q=>match q with
  | .inl t'=>t'=t/\(∀s∈t.2.2.2.2.1,(FE t.2.2.2.1 s).2=true)/\t.2.2.2.2.1.Pairwise fun a b=>a<b
  | .inr e=>e≠0/\¬((∀s∈t.2.2.2.2.1,(FE t.2.2.2.1 s).2=true)/\t.2.2.2.2.1.Pairwise fun a b=>a<b)):=by
 have hfr:=ht.frozen;have hold:=ht.old;refine FY (σ:=Unit) t.2.2.2.2.1.length (fun _ i=>(t,t.2.2.2.2.1,(t.2.2.2.2.1.length:Int),i)) (fun m _=>(∀s∈t.2.2.2.2.1.take m,(FE t.2.2.2.1 s).2=true)/\(t.2.2.2.2.1.take m).Pairwise fun a b=>a<b) (by omega) (fun next s i hi hs hn=>?_) (fun next s hs=>?_) () (by simp)
 ·unfold oQ;dsimp only;rw[F9,A6 hi,AA,FH (A1 hi),A0,NT _ _ (by omega),A0,FQ (by omega)];refine E4.2 ⟨fun h1=>E3.2 ⟨by decide,fun h=>?_⟩,fun h1=>?_⟩
  ·rw[h.1 _ (BA hi)]at h1;cases h1
  refine E2.2 ((uR hi (by omega) _).mono fun y hy=>?_);rw[gG];refine E4.2 ⟨fun h5=>E3.2 ⟨by decide,fun h=>?_⟩,fun h5=>hn () ⟨?_,?_⟩⟩
  ·obtain⟨h6,h7⟩:=D8.1 h5;have h6:=A9 h6;have hy:=hy (by omega);have h8:=((QH (T5 fun nd:E1=>nd) hi).1 (h.2.sublist (List.take_sublist _ _))).2 (by omega) y hy;have h8:y<t.2.2.2.2.1[i]:=h8;rw[A6 h8]at h7;cases h7
  ·rw[MV hi];exact⟨hs.1,by simpa using h1⟩
  ·rw[QH (T5 fun nd:E1=>nd) hi];refine⟨hs.2,fun h0 y' hy'=>?_⟩;have hy:=hy h0;rw[hy]at hy';cases hy';rw[A6 (show(0:Int)<(i:Int) by omega),C7]at h5;have h5:decide (y<t.2.2.2.2.1[i])=true:=by simpa using h5
   exact A9 h5
 ·unfold oQ;dsimp only;rw[F9,AB (AH _),AC];rw[B5]at hs;exact E3.2 ⟨rfl,hs⟩
noncomputable def T6(l:List GS):Int:=(SA l).getD 0
theorem AQg(l:List GS)(hl:l.length<=1048576)(hb:∀o∈l,XF o):SA l=some (T6 l)/\(T6 l=0->RegOk l):=by
 obtain⟨e,h1,h2⟩:=AQe l hl hb;have:T6 l=e:=by unfold T6;rw[h1];rfl
 rw[this];exact⟨h1,h2⟩
theorem AQh(t:FI)(ht:TkB t)(hB:BB t.2.2.2.2.2.2):Tot (MN t) (fun e=>e=0<->(T6 t.1=0/\TaskOk t)):=by
 obtain⟨r1,r2⟩:=AQg t.1 ht.offers ht.offer;unfold MN;rw[r1,A0];refine E4.2 ⟨fun h=>E3.2 ⟨fun h0=>?_,fun h0=>?_⟩,fun h=>?_⟩
 ·rw[E5,A6 h0]at h;cases h
 ·exact h0.1
 have hr0:T6 t.1=0:=by rw[E5]at h;simpa using h
 refine E2.2 ((A7g t.2.1 ht.needs ht.need).mono fun e2 he2=>E4.2 ⟨fun h=>E3.2 ⟨fun h0=>?_,fun h0=>?_⟩,fun h=>?_⟩)
 ·rw[E5,A6 h0]at h;cases h
 ·exact he2.2 h0.2.needs
 have hn0:=he2.1 (by rw[E5]at h;simpa using h);refine E4.2 ⟨fun h=>E3.2 ⟨fun h0=>absurd h0 (by decide),fun h0=>?_⟩,fun h=>?_⟩
 ·have:=h0.2.scope;rw[BG,AV,AV]at h;omega
 have hsc:1<=t.2.2.1/\t.2.2.1<=4:=by
  obtain⟨g1,g2⟩:=BO.1 h;have:=AG g1;have:=AG g2;omega
 refine E2.2 ((uS t.2.2.2.1 ht.old ht.pin).mono fun e2 he2=>E4.2 ⟨fun h=>E3.2 ⟨fun h0=>?_,fun h0=>?_⟩,fun h=>?_⟩)
 ·rw[E5,A6 h0]at h;cases h
 ·exact he2.2 h0.2.old
 have hl0:=he2.1 (by rw[E5]at h;simpa using h);refine E2.2 ((AQf t ht).mono fun q hq=>?_);rcases q with t'|e
 ·obtain⟨rfl,h1,h2⟩:=hq;refine E2.2 ((AQC _ hB).mono fun e he=>E3.2 ⟨fun h0=>⟨hr0,r2 hr0,hn0,hsc,hl0,h1,h2,he.1 h0⟩,fun h0=>he.2 h0.2.base⟩)
 ·exact E3.2 ⟨fun h0=>absurd h0 hq.1,fun h0=>absurd ⟨h0.2.frozen,h0.2.asc⟩ hq.2⟩
def HI(os:List (List E1)):List Int:=os.map fun o=>KS (o.length+1)
theorem J6{α:Type}{l:List α}{i:Nat}{x d:α}(h:i<l.length):(l.set i x).getD i d=x:=by
 rw[A2,CL h];rfl
theorem getD_set_ne{α:Type}{l:List α}{i j:Nat}{x d:α}(h:i≠j):(l.set i x).getD j d=l.getD j d:=by
 rw[A2,D0 h,A2]
theorem uT{α:Type}{l:List α}{i:Nat}{d:α}(h:i<l.length):l.set i (l.getD i d)=l:=by
 rw[A2,A1 h];exact List.set_getElem_self h
theorem A7j{α:Type}{f v:List α}{j:Nat}{x:α}(hl:f.length=v.length)(hx:f[j]?=some x):(f.take j++v.drop j).set j x=f.take (j+1)++v.drop (j+1):=by
 have hj:=(AE.1 hx).1;have hlt:(f.take j).length=j:=by rw[B4];omega
 rw[List.set_append_right _ _ (by omega),hlt,DQ];have:v.drop j=v[j]'(by omega)::v.drop (j+1):=by rw[CM]
 rw[this,List.set_cons_zero,GR hx,C5];rfl
structure Fx(ns:List E1)(os:List (List E1)):Prop where
 len:os.length=ns.length
 few:ns.length<=12
 small:∀o∈os,o.length<=8
theorem uU{α:Type}{n:Nat}(h:n<=1000000)(z:α):mks? 24 (n:Int) (n:Int) z=some (List.replicate n z):=by
 unfold mks?;rw[A6 (BC n),A6 (B0 _),A6 (by rw[B7];omega),B7];rfl
section
variable(t:FI)(ns:List E1)(os:List (List E1))(hF:Fx ns os)
include hF
theorem AQi(wants:List (List Int))(X:List (List (List Int)))(st:List Int)(rt:Int)(i a:Nat)(hi:i<X.length)(ha:a<(X.getD i []).length)(hv:((X.getD i []).getD a []).length=ns.length):
 pJ ((t,ns,os,wants,X,st,rt),(i:Int),(a:Int),(ns.length:Int),0)=some (t,ns,os,wants,X.set i ((X.getD i []).set a (HI os)),st,rt):=by
 refine IG ?_;have hfl:(HI os).length=ns.length:=by unfold HI;rw[AL,hF.len]
 refine FY (σ:=List (List (List Int))) ns.length (fun s j=>((t,ns,os,wants,s,st,rt),(i:Int),(a:Int),(ns.length:Int),j)) (fun j s=>s=X.set i ((X.getD i []).set a ((HI os).take j++((X.getD i []).getD a []).drop j))) (by have:=hF.few;omega) (fun next s j hj hs hn=>?_) (fun next s hs=>?_) X ?_
 ·unfold pI;dsimp only;have e1:s.getD i []=(X.getD i []).set a ((HI os).take j++((X.getD i []).getD a []).drop j):=by rw[hs];exact J6 hi
  have e2:(s.getD i []).getD a []=(HI os).take j++((X.getD i []).getD a []).drop j:=by rw[e1];exact J6 ha
  have hsl:s.length=X.length:=by rw[hs,AF]
  have hfew:=hF.few;have hjo:j<os.length:=by rw[hF.len];exact hj
  rw[F9,A6 hj,AA,B7,B7,B7,HH (by omega),A0,HH (by rw[e1,AF];exact ha),A0,FH (A1 hjo),A0];have hsm:=hF.small _ (BA hjo);rw[FQ (by omega),FQ (by omega)];have h4:=(uM (n:=os[j].length+1) (by omega)).1;rw[show((os[j].length+1:Nat):Int)=(os[j].length:Int)+1 by omega]at h4;rw[h4,A0,HH (by rw[e2,A7,B4,CF];omega),A0];refine hn _ ?_;rw[e2,e1,hs,List.set_set,List.set_set];rw[A7j (by omega) (x:=KS (os[j].length+1)) (by unfold HI;rw[AK,A1 hjo];rfl)|>.symm];rfl
 ·unfold pI;dsimp only;rw[F9,AB (AH _),AC];refine E3.2 ?_;rw[hs,BU (by omega),D2 (by omega),BZ]
 ·rw[DE,DC,DL,uT ha,uT hi]
theorem AQj(wants:List (List Int))(X:List (List (List Int)))(st:List Int)(rt:Int)(i c:Nat)(hi:i<X.length)(hc:c<=1000)(hx:X.getD i []=List.replicate c []):
 pL ((t,ns,os,wants,X,st,rt),(ns.length:Int),(i:Int),(c:Int),0)=some (t,ns,os,wants,X.set i (List.replicate c (HI os)),st,rt):=by
 refine IG ?_;refine FY (σ:=List (List (List Int))) c (fun s a=>((t,ns,os,wants,s,st,rt),(ns.length:Int),(i:Int),(c:Int),a)) (fun a s=>s=X.set i ((List.replicate c (HI os)).take a++(List.replicate c []).drop a)) (by omega) (fun next s a ha hs hn=>?_) (fun next s hs=>?_) X ?_
 ·unfold pK;dsimp only;have e1:s.getD i []=(List.replicate c (HI os)).take a++(List.replicate c []).drop a:=by rw[hs];exact J6 hi
  have e1l:(s.getD i []).length=c:=by rw[e1];simp;omega
  have hsl:s.length=X.length:=by rw[hs,AF]
  have hfew:=hF.few;rw[F9,A6 ha,AA,B7,B7,HH (by omega),A0,uU (by omega),A0,HH (by omega),A0];have h4:=AQi t ns os hF wants (s.set i ((s.getD i []).set a (List.replicate ns.length 0))) st rt i a (by rw[AF];omega) (by rw[J6 (by omega),AF];omega) (by rw[J6 (by omega),J6 (by omega),BE]);rw[J6 (by omega),List.set_set,List.set_set]at h4;rw[h4,A0,FQ (by omega)];refine hn _ ?_;dsimp only;rw[e1,hs,List.set_set,A7j (by simp) (x:=HI os) (by simp[ha])]
 ·unfold pK;dsimp only;rw[F9,AB (AH _),AC];refine E3.2 ?_;rw[hs,BU (by simp),D2 (by simp),BZ]
 ·rw[DE,DC,DL,<-hx,uT hi]
theorem AQk(st:List Int)(rt:Int):
 pN ((t,ns,os,([]:List (List Int)),([]:List (List (List Int))),st,rt),(ns.length:Int),(ns.length:Int),0)=
  some (t,ns,os,os.map (fun o=>List.replicate (o.length+1) 0),os.map (fun o=>List.replicate (o.length+1) (HI os)),st,rt):=by
 refine IG ?_;refine FY (σ:=Nat) ns.length (fun s i=>((t,ns,os,(os.take s).map (fun o=>List.replicate (o.length+1) 0),(os.take s).map (fun o=>List.replicate (o.length+1) (HI os)),st,rt),(ns.length:Int),(ns.length:Int),i)) (fun i s=>s=i) (by have:=hF.few;omega) (fun next s i hi hj hn=>?_) (fun next s hj=>?_) 0 rfl
 ·subst hj;unfold pM;dsimp only;have hfew:=hF.few;have hso:s<os.length:=by rw[hF.len];exact hi
  have hsm:=hF.small _ (BA hso);rw[F9,A6 hi,AA,FH (A1 hso),A0,FQ (by omega),FQ (by omega)];rw[show((os[s].length:Int)+1)=((os[s].length+1:Nat):Int) by omega,uU (by omega),A0];refine E2.2 (G7.2 ⟨by simp only[AL,B4,AD,AJ];omega,?_⟩);rw[uU (by omega),A0];refine E2.2 (G7.2 ⟨by simp only[AL,B4,AD,AJ];omega,?_⟩);have hlen:((os.take s).map (fun o=>List.replicate (o.length+1) (HI os))).length=s:=by rw[AL,B4];omega
  rw[AQj (i:=s) (c:=os[s].length+1) (hi:=by rw[A7,hlen];simp) (hc:=by omega) (hx:=by rw[A2,AY (by omega),hlen,DQ];rfl) (hF:=hF),A0];have:=hn (s+1) rfl;rw[GR (A1 hso),C4,C4]at this;rw[List.set_append_right _ _ (by omega),hlen,DQ];exact this
 ·unfold pM;dsimp only;rw[F9,AB (AH _),AC];exact E3.2 (by rw[hj,BU (by rw[hF.len];exact AM _)])
end
def wa(W:List (List Int))(i a:Nat):Int:=(W.getD i []).getD a 0
def al(A:List (List (List Int)))(i a j:Nat):Int:=((A.getD i []).getD a []).getD j 0
def cnt(os:List (List E1))(i:Nat):Nat:=(os.getD i []).length
structure ShW(n:Nat)(os:List (List E1))(W:List (List Int)):Prop where
 len:W.length=n
 row:∀i<n,(W.getD i []).length=cnt os i+1
 in16:∀i a,G4 (wa W i a)
structure ShA(n:Nat)(os:List (List E1))(A:List (List (List Int))):Prop where
 len:A.length=n
 row:∀i<n,(A.getD i []).length=cnt os i+1
 cell:∀i<n,∀a,a<cnt os i+1->((A.getD i []).getD a []).length=n
 in16:∀i a j,G4 (al A i a j)
structure ShS(n:Nat)(st:List Int):Prop where
 len:st.length=n
 in16:∀i,G4 (st.getD i 0)
theorem QI{α:Type}{l:List α}{i:Nat}{d:α}(h:l.length<=i):l.getD i d=d:=by
 rw[A2,B1 h];rfl
theorem gP{n:Nat}{st:List Int}(h:ShS n st){i:Nat}{x:Int}(hi:i<n)(hx:G4 x):ShS n (st.set i x)/\∀i',(st.set i x).getD i' 0=if i'=i then x else st.getD i' 0:=by
 have e:∀i',(st.set i x).getD i' 0=if i'=i then x else st.getD i' 0:=by
  intro i';by_cases hii:i'=i
  ·subst hii;rw[if_pos rfl,J6 (by rw[h.len];exact hi)]
  ·rw[if_neg hii,getD_set_ne (fun e=>hii e.symm)]
 refine⟨⟨by rw[AF,h.len],fun i'=>?_⟩,e⟩;rw[e];split
 ·exact hx
 ·exact h.in16 _
theorem AQl{n:Nat}{os:List (List E1)}{W:List (List Int)}(h:ShW n os W){i a:Nat}{x:Int}(hi:i<n)(ha:a<cnt os i+1)(hx:G4 x):
 ShW n os (W.set i ((W.getD i []).set a x))/\∀i' a',wa (W.set i ((W.getD i []).set a x)) i' a'=if i'=i/\a'=a then x else wa W i' a':=by
 have hl:=h.len;have hr:=h.row i hi
 have e:∀i' a',wa (W.set i ((W.getD i []).set a x)) i' a'=if i'=i/\a'=a then x else wa W i' a':=by
  intro i' a';unfold wa;by_cases hii:i'=i
  ·subst hii;rw[J6 (by omega)];by_cases haa:a'=a
   ·subst haa;rw[if_pos ⟨rfl,rfl⟩,J6 (by omega)]
   ·rw[if_neg (fun e=>haa e.2),getD_set_ne (fun e=>haa e.symm)]
  ·rw[if_neg (fun e=>hii e.1),getD_set_ne (fun e=>hii e.symm)]
 refine⟨⟨by rw[AF,hl],fun i' hi'=>?_,fun i' a'=>?_⟩,e⟩
 ·by_cases hii:i'=i
  ·subst hii;rw[J6 (by omega),AF,hr]
  ·rw[getD_set_ne (fun e=>hii e.symm)];exact h.row _ hi'
 ·rw[e];split
  ·exact hx
  ·exact h.in16 _ _
theorem A7k{n:Nat}{os:List (List E1)}{A:List (List (List Int))}(h:ShA n os A){i a j:Nat}{x:Int}(hi:i<n)(ha:a<cnt os i+1)(hj:j<n)(hx:G4 x):
 ShA n os (A.set i ((A.getD i []).set a (((A.getD i []).getD a []).set j x)))/\
 ∀i' a' j',al (A.set i ((A.getD i []).set a (((A.getD i []).getD a []).set j x))) i' a' j'=if i'=i/\a'=a/\j'=j then x else al A i' a' j':=by
 have hl:=h.len;have hr:=h.row i hi;have hc:=h.cell i hi a ha
 have e:∀i' a' j',al (A.set i ((A.getD i []).set a (((A.getD i []).getD a []).set j x))) i' a' j'=if i'=i/\a'=a/\j'=j then x else al A i' a' j':=by
  intro i' a' j';unfold al;by_cases hii:i'=i
  ·subst hii;rw[J6 (by omega)];by_cases haa:a'=a
   ·subst haa;rw[J6 (by omega)];by_cases hjj:j'=j
    ·subst hjj;rw[if_pos ⟨rfl,rfl,rfl⟩,J6 (by omega)]
    ·rw[if_neg (fun e=>hjj e.2.2),getD_set_ne (fun e=>hjj e.symm)]
   ·rw[if_neg (fun e=>haa e.2.1),getD_set_ne (fun e=>haa e.symm)]
  ·rw[if_neg (fun e=>hii e.1),getD_set_ne (fun e=>hii e.symm)]
 refine⟨⟨by rw[AF,hl],fun i' hi'=>?_,fun i' hi' a' ha'=>?_,fun i' a' j'=>?_⟩,e⟩
 ·by_cases hii:i'=i
  ·subst hii;rw[J6 (by omega),AF,hr]
  ·rw[getD_set_ne (fun e=>hii e.symm)];exact h.row _ hi'
 ·by_cases hii:i'=i
  ·subst hii;rw[J6 (by omega)];by_cases haa:a'=a
   ·subst haa;rw[J6 (by omega),AF,hc]
   ·rw[getD_set_ne (fun e=>haa e.symm)];exact h.cell _ hi' _ ha'
  ·rw[getD_set_ne (fun e=>hii e.symm)];exact h.cell _ hi' _ ha'
 ·rw[e];split
  ·exact hx
  ·exact h.in16 _ _ _
noncomputable def J7(o:List E1)(r:Rg):Nat->Bool
 |0=>false
 |k+1=>match o[k]? with
  |some v=>OK r v
  |none=>false
theorem A7l{o:List E1}{r:Rg}{k:Nat}{v:E1}(h:o[k]?=some v):J7 o r (k+1)=OK r v:=by
 show(match o[k]? with|some v=>OK r v|none=>false)=_;rw[h]
theorem AQm{o:List E1}{r:Rg}{k:Nat}(h:o[k]?=none):J7 o r (k+1)=false:=by
 show(match o[k]? with|some v=>OK r v|none=>false)=_;rw[h]
theorem AQn{o:List E1}{r:Rg}{b:Nat}(h:J7 o r b=true):1<=b/\b<=o.length:=by
 cases b with
 |zero=>cases h
 |succ k=>
  refine⟨by omega,?_⟩;cases hk:o[k]? with
  |none=>rw[AQm hk]at h;cases h
  |some v=>exact(AE.1 hk).1
theorem A7m(S:T1)(i:Nat)(o:List E1)(r:Rg)(ho:S.2.2.1[i]?=some o)(hl:o.length<=8)(hv:∀v∈o,v.length<=1048576)(hr:∀s∈r.2,T3 s):
 Tot (VX (some S,(i:Int),r)) (fun w=>G4 w/\∀b,bt w b=J7 o r b):=by
 unfold VX;dsimp only;rw[A0,FH ho,A0];refine E2.2 (Tot.mono (P:=fun w=>G4 w/\∀b,bt w b=J7 o r b) ?_ fun _ h=>E3.2 h);refine FY (σ:=Int) o.length (fun s k=>(r,s,o,(o.length:Int),k)) (fun k s=>G4 s/\∀b,bt s b=(J7 o r b&&decide (b<=k))) (by omega) (fun next s k hk hs hn=>?_) (fun next s hs=>?_) 0 ⟨OJ,fun b=>?_⟩
 ·unfold pG;dsimp only;rw[F9,A6 hk,AA,FH (A1 hk),A0,FQ (by omega)];obtain⟨q,h1,h2⟩:=uP r o[k] hr (hv _ (BA hk));rw[h1,A0,h2];have hin:J7 o r (k+1)=OK r o[k]:=A7l (A1 hk);refine E4.2 ⟨fun hc=>?_,fun hc=>?_⟩
  ·rw[show((k:Int)+1)=((k+1:Nat):Int) by omega,(IU (i:=k+1) (by omega)).1,A0,<-show((k:Int)+1)=((k+1:Nat):Int) by omega];obtain⟨g1,g2⟩:=gH hs.1 (IU (i:=k+1) (by omega)).2;refine hn _ ⟨g1,fun b=>?_⟩;rw[g2,hs.2,KR];by_cases hb:b=k+1
   ·subst hb;rw[hin,hc];simp
   ·have e1:decide (k+1=b)=false:=AB (fun e=>hb e.symm);have e2:decide (b<=k+1)=decide (b<=k):=by by_cases h:b<=k<;>simp[h]<;>omega
    rw[e1,e2,Bool.or_false]
  ·refine hn _ ⟨hs.1,fun b=>?_⟩;rw[hs.2];by_cases hb:b=k+1
   ·subst hb;rw[hin,hc];simp
   ·have e2:decide (b<=k+1)=decide (b<=k):=by by_cases h:b<=k<;>simp[h]<;>omega
    rw[e2]
 ·unfold pG;dsimp only;rw[F9,AB (AH _),AC];refine E3.2 ⟨hs.1,fun b=>?_⟩;rw[hs.2];cases hb:J7 o r b with
  |false=>rfl
  |true=>rw[A6 (AQn hb).2];rfl
 ·rw[OI];cases b with
  |zero=>rfl
  |succ b=>simp
structure Fy(ns:List E1)(os:List (List E1)):Prop extends Fx ns os where
 nodup:ns.Nodup
 vers:∀o∈os,∀v∈o,v.length<=1048576
theorem OL{l:List E1}(h:l.Nodup){i j:Nat}{x:E1}(hi:l[i]?=some x)(hj:l[j]?=some x):i=j:=by
 obtain⟨h1,h2⟩:=AE.1 hi;obtain⟨h3,h4⟩:=AE.1 hj;exact(List.getElem_inj h).1 (h2.trans h4.symm)
structure Rel(ns:List E1)(os:List (List E1))(M:Nat->Nat->GA->Prop)(W:List (List Int))(A:List (List (List Int)))(st:List Int):Prop where
 shW:ShW ns.length os W
 shA:ShA ns.length os A
 shS:ShS ns.length st
 st:∀i<ns.length,∀a,bt (st.getD i 0) a=true<->a<=cnt os i/\∀nd,M i a nd->nd.1∈ns
 wa:∀i<ns.length,∀a≤cnt os i,∀k,bt (wa W i a) k=true<->∃nd,M i a nd/\ns[k]?=some nd.1
 al:∀i<ns.length,∀a≤cnt os i,∀j<ns.length,∀b,bt (al A i a j) b=true<->b<=cnt os j/\(∀nd,M i a nd->ns[j]?=some nd.1->J7 (os.getD j []) nd.2.1 b=true)/\
  (∀nd,M j b nd->ns[i]?=some nd.1->J7 (os.getD i []) nd.2.1 a=true)
theorem Rel.congr{ns:List E1}{os:List (List E1)}{M M':Nat->Nat->GA->Prop}{W:List (List Int)}{A:List (List (List Int))}{st:List Int}(h:Rel ns os M W A st)(e:∀i a nd,M i a nd<->M' i a nd):Rel ns os M' W A st:=by
 have:M=M':=funext fun i=>funext fun a=>funext fun nd=>propext (e i a nd);rwa[<-this]
theorem uV{α:Type}{l:List α}{i:Nat}{d:α}(h:i<l.length):l.getD i d∈l:=by
 rw[A2,A1 h];exact BA h
section
variable{t:FI}{ns:List E1}{os:List (List E1)}(hF:Fy ns os)
include hF
theorem JL(i:Nat):cnt os i<=8:=by
 unfold cnt;rcases CG i os.length with h|h
 ·exact hF.small _ (uV h)
 ·rw[QI h];decide
theorem AQo(W:List (List Int))(A:List (List (List Int)))(st:List Int)(rt:Int)(hA:ShA ns.length os A)(i a j:Nat)(hi:i<ns.length)(ha:a<=cnt os i)(hj:j<ns.length)(w:Int)(hw:G4 w):
 Tot (pH ((t,ns,os,W,A,st,rt),(i:Int),(a:Int),(j:Int),w,(((A.getD j []).length:Nat):Int),0)) (fun S'=>∃ A',S'=(t,ns,os,W,A',st,rt)/\ShA ns.length os A' /\
  ∀i' a' j' b,(i'=j->a'<=cnt os j)->bt (al A' i' a' j') b=(bt (al A i' a' j') b && !(decide (i'=j/\j'=i/\b=a) && !bt w a'))):=by
 have hrow:=hA.row j hj;have hcn:=JL hF j;have hci:=JL hF i;rw[hrow]
 have:=FY (r:=e9) (R:=T1) (σ:=List (List (List Int))) (cnt os j+1) (fun s b=>((t,ns,os,W,s,st,rt),(i:Int),(a:Int),(j:Int),w,((cnt os j+1:Nat):Int),b))
  (fun b0 s=>ShA ns.length os s/\∀i' a' j' b,bt (al s i' a' j') b=(bt (al A i' a' j') b && !(decide (i'=j/\j'=i/\b=a)&&(!bt w a'&&decide (a'<b0)))))
  (Q:=fun S'=>∃ A',S'=(t,ns,os,W,A',st,rt)/\ShA ns.length os A' /\
   ∀i' a' j' b,(i'=j->a'<=cnt os j)->bt (al A' i' a' j') b=(bt (al A i' a' j') b && !(decide (i'=j/\j'=i/\b=a) && !bt w a')))
  (by omega) (fun next s b0 hb hs hn=>?_) (fun next s hs=>?_) A ⟨hA,fun i' a' j' b=>by simp⟩
 ·exact this
 ·obtain⟨hsA,hs⟩:=hs;unfold e9;dsimp only;rw[F9,A6 hb,AA,MU hw,A0,FQ (by omega)];have hsr:=hsA.row j hj;have hsc:=hsA.cell j hj b0 hb;refine E4.2 ⟨fun hc=>?_,fun hc=>?_⟩
  ·have hc:bt w b0=false:=by simpa using hc
   rw[B7,B7,B7,HH (by rw[hsA.len];exact hj),A0,HH (by omega),A0,HH (by omega),A0,(IU (i:=a) (by omega)).1,A0,A0];obtain⟨g1,g2⟩:=A7V (hsA.in16 j b0 i) (IU (i:=a) (by omega)).2;obtain⟨k1,k2⟩:=A7k hsA hj hb hi g1;refine hn _ ⟨k1,fun i' a' j' b=>?_⟩;have e:=k2 i' a' j';have e':al (s.set j ((s.getD j []).set b0 (((s.getD j []).getD b0 []).set i (N1 u16 (((s.getD j []).getD b0 []).getD i 0) ((2 ^ a:Nat):Int))))) i' a' j'=if i'=j/\a'=b0/\j'=i then N1 u16 (al s j b0 i) ((2 ^ a:Nat):Int)else al s i' a' j':=e;rw[e'];split
   ·rename_i h;obtain⟨rfl,rfl,rfl⟩:=h;rw[g2,hs,KR,hc];by_cases hba:b=a
    ·subst hba;simp
    ·have:¬a=b:=fun e=>hba e.symm;simp[hba,this]
   ·rename_i h;rw[hs];by_cases h1:i'=j/\j'=i/\b=a
    ·have:¬a'=b0:=fun e=>h ⟨h1.1,e,h1.2.1⟩;have e2:decide (a'<b0+1)=decide (a'<b0):=by by_cases h:a'<b0<;>simp[h]<;>omega
     rw[e2]
    ·rw[AB h1];simp
  ·have hc:bt w b0=true:=by simpa using hc
   refine hn _ ⟨hsA,fun i' a' j' b=>?_⟩;rw[hs];by_cases hab:a'=b0
   ·subst hab;rw[hc];simp
   ·have e2:decide (a'<b0+1)=decide (a'<b0):=by by_cases h:a'<b0<;>simp[h]<;>omega
    rw[e2]
 ·obtain⟨hsA,hs⟩:=hs;unfold e9;dsimp only;rw[F9,AB (AH _),AC];refine E3.2 ⟨s,rfl,hsA,fun i' a' j' b ha'=>?_⟩;rw[hs];by_cases hij:i'=j
  ·have:=ha' hij;rw[A6 (by omega:a'<cnt os j+1),Bool.and_true]
  ·rw[AB (fun h=>hij h.1)];simp
theorem AQp{M:Nat->Nat->GA->Prop}{W:List (List Int)}{A:List (List (List Int))}{st:List Int}{rt:Int}(hR:Rel ns os M W A st)(i a:Nat)(hi:i<ns.length)(ha0:1<=a)(ha:a<=cnt os i)(nd:GA)(hnd:K8 nd)(hself:ns[i]?≠some nd.1):
 Tot (eA ((t,ns,os,W,A,st,rt),(i:Int),(a:Int),nd)) (fun S'=>∃W' A' st',S'=(t,ns,os,W',A',st',rt)/\Rel ns os (fun i' a' nd'=>M i' a' nd'\/(i'=i/\a'=a/\nd'=nd)) W' A' st'):=by
 have hcn:=JL hF i;have hfew:=hF.few;unfold eA NH;dsimp only;rw[A0,T2 _ _ (by dsimp only;omega),A0,A0];refine E4.2 ⟨fun hc=>?_,fun hc=>?_⟩
 ·have hno:=(XE _ _).1 (A9 hc);rw[B7,HH (by rw[hR.shS.len];exact hi),A0,(IU (i:=a) (by omega)).1,A0,A0];obtain⟨g1,g2⟩:=A7V (hR.shS.in16 i) (IU (i:=a) (by omega)).2;obtain⟨k1,k2⟩:=gP hR.shS hi g1;refine E3.2 ⟨_,_,_,rfl,⟨hR.shW,hR.shA,k1,fun i' hi' a'=>?_,fun i' hi' a' ha' k=>?_,fun i' hi' a' ha' j' hj' b=>?_⟩⟩
  ·rw[k2];split
   ·rename_i h;subst h;rw[g2,KR,A5,hR.st _ hi'];constructor
    ·rintro⟨⟨h1,h2⟩,h3⟩;refine⟨h1,fun nd' h=>?_⟩;rcases h with h|⟨_,rfl,_⟩
     ·exact h2 _ h
     ·simp at h3
    ·rintro⟨h1,h2⟩;refine⟨⟨h1,fun nd' h=>h2 _ (.inl h)⟩,?_⟩;by_cases haa:a=a'
     ·subst haa;exact absurd (h2 nd (.inr ⟨rfl,rfl,rfl⟩)) hno
     ·simp[haa]
   ·rename_i h;rw[hR.st _ hi'];constructor
    ·rintro⟨h1,h2⟩;exact⟨h1,fun nd' hh=>hh.elim (h2 _) fun hh=>absurd hh.1 h⟩
    ·rintro⟨h1,h2⟩;exact⟨h1,fun nd' hh=>h2 _ (.inl hh)⟩
  ·rw[hR.wa _ hi' _ ha'];constructor
   ·rintro⟨nd',h1,h2⟩;exact⟨nd',.inl h1,h2⟩
   ·rintro⟨nd',h1|⟨_,_,rfl⟩,h2⟩
    ·exact⟨nd',h1,h2⟩
    ·exact absurd (AP h2) hno
  ·rw[hR.al _ hi' _ ha' _ hj'];constructor
   ·rintro⟨h1,h2,h3⟩;refine⟨h1,fun nd' hh he=>hh.elim (fun hh=>h2 _ hh he) fun hh=>?_,fun nd' hh he=>hh.elim (fun hh=>h3 _ hh he) fun hh=>?_⟩
    ·obtain⟨_,_,rfl⟩:=hh;exact absurd (AP he) hno
    ·obtain⟨_,_,rfl⟩:=hh;exact absurd (AP he) hno
   ·rintro⟨h1,h2,h3⟩;exact⟨h1,fun nd' hh he=>h2 _ (.inl hh) he,fun nd' hh he=>h3 _ (.inl hh) he⟩
 ·have hyes:¬_:=AG hc;rcases NR (fun x=>decide (nd.1=x)) ns with⟨h1,_⟩|⟨j,x,h1,hjn,h3,_⟩
  ·rw[h1]at hyes;exact absurd (by decide) hyes
  rw[h1];have hx:nd.1=x:=A9 h3;subst hx;have hj:=(AE.1 hjn).1;have hij:i≠j:=fun e=>hself (by rw[e];exact hjn)
  have hjo:os[j]?=some (os.getD j []):=by
   rw[A2,A1 (by rw[hF.len];exact hj)];rfl
  have hmem:os.getD j []∈os:=AP hjo;have hWi:=hR.shW.row i hi;have hAi:=hR.shA.row i hi;have hAc:=hR.shA.cell i hi a (by omega);rw[B7,B7,B7,HH (by rw[hR.shW.len];exact hi),A0,HH (by omega),A0,(IU (i:=j) (by omega)).1,A0,A0];obtain⟨g1,g2⟩:=gH (hR.shW.in16 i a) (IU (i:=j) (by omega)).2;obtain⟨k1,k2⟩:=AQl hR.shW hi (show a<cnt os i+1 by omega) g1;refine E2.2 ((A7m _ j (os.getD j []) nd.2.1 hjo (hF.small _ hmem) (hF.vers _ hmem) hnd.2).mono fun w hw=>?_);rw[HH (by rw[hR.shA.len];exact hi),A0,HH (by omega),A0,HH (by omega),A0,A0];obtain⟨m1,m2⟩:=T0 (hR.shA.in16 i a j) hw.1;obtain⟨n1,n2⟩:=A7k hR.shA hi (show a<cnt os i+1 by omega) hj m1;rw[HH (by rw[AF,hR.shA.len];exact hj),A0];refine E2.2 ((AQo hF _ _ st rt n1 i a j hi ha hj w hw.1).mono fun S' hS=>?_);obtain⟨A',rfl,hA',hal⟩:=hS;refine E3.2 ⟨_,A',st,rfl,⟨k1,hA',hR.shS,fun i' hi' a'=>?_,fun i' hi' a' ha' k=>?_,fun i' hi' a' ha' j' hj' b=>?_⟩⟩
  ·rw[hR.st _ hi'];constructor
   ·rintro⟨h1,h2⟩;exact⟨h1,fun nd' hh=>hh.elim (h2 _) fun hh=>by obtain⟨_,_,rfl⟩:=hh;exact AP hjn⟩
   ·rintro⟨h1,h2⟩;exact⟨h1,fun nd' hh=>h2 _ (.inl hh)⟩
  ·have e:wa (W.set i ((W.getD i []).set a (HK u16 ((W.getD i []).getD a 0) ((2 ^ j:Nat):Int)))) i' a'=if i'=i/\a'=a then HK u16 (wa W i a) ((2 ^ j:Nat):Int)else wa W i' a':=k2 i' a';rw[e];split
   ·rename_i h;obtain⟨rfl,rfl⟩:=h;rw[g2,KR,BG,hR.wa _ hi' _ ha'];constructor
    ·rintro(⟨nd',h1,h2⟩|h)
     ·exact⟨nd',.inl h1,h2⟩
     ·have:=A9 h;subst this;exact⟨nd,.inr ⟨rfl,rfl,rfl⟩,hjn⟩
    ·rintro⟨nd',h1|⟨_,_,rfl⟩,h2⟩
     ·exact .inl ⟨nd',h1,h2⟩
     ·exact .inr (A6 (OL hF.nodup hjn h2))
   ·rename_i h;rw[hR.wa _ hi' _ ha'];constructor
    ·rintro⟨nd',h1,h2⟩;exact⟨nd',.inl h1,h2⟩
    ·rintro⟨nd',h1|⟨e1,e2,rfl⟩,h2⟩
     ·exact⟨nd',h1,h2⟩
     ·exact absurd ⟨e1,e2⟩ h
  ·have base:=hR.al _ hi' _ ha' _ hj' b;by_cases hcase:i'=j
   ·
    rw[hal _ _ _ _ (fun h=>by rw[<-h];exact ha'),n2,if_neg (fun h=>hij (h.1.symm.trans hcase)),A5,base];by_cases h2:j'=i/\b=a
    ·have hw':bt w a'=J7 (os.getD i' []) nd.2.1 a':=by rw[hcase];exact hw.2 a'
     have hin:ns[i']?=some nd.1:=by rw[hcase];exact hjn
     rw[A6 ⟨hcase,h2.1,h2.2⟩,C7,Bool.not_not,hw'];constructor
     ·rintro⟨⟨h1,h2',h3⟩,h4⟩;refine⟨h1,fun nd' hh he=>hh.elim (fun hh=>h2' _ hh he) fun hh=>absurd (hh.1.symm.trans hcase) hij,fun nd' hh he=>hh.elim (fun hh=>h3 _ hh he) fun hh=>?_⟩;rw[hh.2.2];exact h4
     ·rintro⟨h1,h2',h3⟩;exact⟨⟨h1,fun nd' hh he=>h2' _ (.inl hh) he,fun nd' hh he=>h3 _ (.inl hh) he⟩,h3 nd (.inr ⟨h2.1,h2.2,rfl⟩) hin⟩
    ·rw[AB (fun h=>h2 h.2),CA,CV];constructor
     ·rintro⟨⟨h1,h2',h3⟩,_⟩;exact⟨h1,fun nd' hh he=>hh.elim (fun hh=>h2' _ hh he) fun hh=>absurd (hh.1.symm.trans hcase) hij,fun nd' hh he=>hh.elim (fun hh=>h3 _ hh he) fun hh=>absurd ⟨hh.1,hh.2.1⟩ h2⟩
     ·rintro⟨h1,h2',h3⟩;exact⟨⟨h1,fun nd' hh he=>h2' _ (.inl hh) he,fun nd' hh he=>h3 _ (.inl hh) he⟩,rfl⟩
   ·
    rw[hal _ _ _ _ (fun h=>absurd h hcase),n2,AB (fun h=>hcase h.1),CA,CV,Bool.and_true];split
    ·rename_i h;obtain⟨rfl,rfl,rfl⟩:=h;rw[m2,A5,base,hw.2];constructor
     ·rintro⟨⟨h1,h2',h3⟩,h4⟩;refine⟨h1,fun nd' hh he=>hh.elim (fun hh=>h2' _ hh he) fun hh=>?_,fun nd' hh he=>hh.elim (fun hh=>h3 _ hh he) fun hh=>absurd hh.1.symm hij⟩;rw[hh.2.2];exact h4
     ·rintro⟨h1,h2',h3⟩;exact⟨⟨h1,fun nd' hh he=>h2' _ (.inl hh) he,fun nd' hh he=>h3 _ (.inl hh) he⟩,h2' nd (.inr ⟨rfl,rfl,rfl⟩) hjn⟩
    ·rename_i h;rw[base];constructor
     ·rintro⟨h1,h2',h3⟩;refine⟨h1,fun nd' hh he=>hh.elim (fun hh=>h2' _ hh he) fun hh=>?_,fun nd' hh he=>hh.elim (fun hh=>h3 _ hh he) fun hh=>?_⟩
      ·rw[hh.2.2]at he;exact absurd ⟨hh.1,hh.2.1,OL hF.nodup he hjn⟩ h
      ·rw[hh.2.2]at he;exact absurd (OL hF.nodup he hjn) hcase
     ·rintro⟨h1,h2',h3⟩;exact⟨h1,fun nd' hh he=>h2' _ (.inl hh) he,fun nd' hh he=>h3 _ (.inl hh) he⟩
end
def IW(t:FI)(ns:List E1)(os:List (List E1))(i:Nat):Nat->List GA
 |0=>[]
 |k+1=>match(os.getD i [])[k]?,ns[i]? with
  |some v,some nm=>HP t (nm,v)
  |_,_=>[]
theorem A7n{t:FI}{ns:List E1}{os:List (List E1)}{i k:Nat}{v nm:E1}(h1:(os.getD i [])[k]?=some v)(h2:ns[i]?=some nm):IW t ns os i (k+1)=HP t (nm,v):=by
 show(match(os.getD i [])[k]?,ns[i]? with|some v,some nm=>HP t (nm,v)|_,_=>[])=_;rw[h1,h2]
theorem XG{t:FI}{ns:List E1}{os:List (List E1)}{i a:Nat}{nd:GA}(h:nd∈IW t ns os i a):∃k v nm,a=k+1/\(os.getD i [])[k]?=some v/\ns[i]?=some nm/\nd∈HP t (nm,v):=by
 cases a with
 |zero=>cases h
 |succ k=>
  have h:nd∈(match(os.getD i [])[k]?,ns[i]? with|some v,some nm=>HP t (nm,v)|_,_=>[]):=h;split at h
  ·rename_i v nm h1 h2;exact⟨k,v,nm,rfl,h1,h2,h⟩
  ·cases h
section
variable{t:FI}{ns:List E1}{os:List (List E1)}(hF:Fy ns os)(ht:TkB t)(hN:∀i a nd,nd∈IW t ns os i a->K8 nd/\ns[i]?≠some nd.1)
include hF ht hN
theorem AQq{M:Nat->Nat->GA->Prop}{W:List (List Int)}{A:List (List (List Int))}{st:List Int}{rt:Int}(hR:Rel ns os M W A st)(i k:Nat)(hi:i<ns.length)(hk:k<cnt os i)(l:List GA)(hl:l.length<=1048576)(hnd:∀nd∈l,K8 nd/\ns[i]?≠some nd.1):
 Tot (pP ((t,ns,os,W,A,st,rt),(i:Int),(k:Int),l,(l.length:Int),0)) (fun S'=>∃W' A' st',S'=(t,ns,os,W',A',st',rt)/\Rel ns os (fun i' a' nd'=>M i' a' nd'\/(i'=i/\a'=k+1/\nd'∈l)) W' A' st'):=by
 have hcn:=JL hF i
 refine FY (σ:=List (List Int)×List (List (List Int))×List Int) l.length (fun s m=>((t,ns,os,s.1,s.2.1,s.2.2,rt),(i:Int),(k:Int),l,(l.length:Int),m))
  (fun m s=>Rel ns os (fun i' a' nd'=>M i' a' nd'\/(i'=i/\a'=k+1/\nd'∈l.take m)) s.1 s.2.1 s.2.2) (by omega) (fun next s m hm hs hn=>?_) (fun next s hs=>?_) (W,A,st) ?_
 ·unfold pO;dsimp only;rw[F9,A6 hm,AA,FH (A1 hm),A0,FQ (by omega),FQ (by omega)];obtain⟨n1,n2⟩:=hnd _ (BA hm);have:=AQp (t:=t) (rt:=rt) hF hs i (k+1) hi (by omega) (by omega) l[m] n1 n2;rw[show((k+1:Nat):Int)=(k:Int)+1 by omega]at this;refine E2.2 (this.mono fun S' hS=>?_);obtain⟨W',A',st',rfl,hR'⟩:=hS;refine hn (W',A',st') (hR'.congr fun i' a' nd'=>?_);rw[GR (A1 hm),AR,AQ];constructor
  ·rintro((h|⟨h1,h2,h3⟩)|⟨h1,h2,h3⟩)
   ·exact .inl h
   ·exact .inr ⟨h1,h2,.inl h3⟩
   ·exact .inr ⟨h1,h2,.inr h3⟩
  ·rintro(h|⟨h1,h2,h3|h3⟩)
   ·exact .inl (.inl h)
   ·exact .inl (.inr ⟨h1,h2,h3⟩)
   ·exact .inr ⟨h1,h2,h3⟩
 ·unfold pO;dsimp only;rw[F9,AB (AH _),AC];rw[B5]at hs;exact E3.2 ⟨_,_,_,rfl,hs⟩
 ·exact hR.congr fun i' a' nd'=>⟨.inl,fun h=>h.elim id fun h=>by simp at h⟩
theorem AQr{M:Nat->Nat->GA->Prop}{W:List (List Int)}{A:List (List (List Int))}{st:List Int}{rt:Int}(hR:Rel ns os M W A st)(i:Nat)(hi:i<ns.length):
 Tot (pR ((t,ns,os,W,A,st,rt),(i:Int),os.getD i [],((os.getD i []).length:Int),0)) (fun S'=>∃W' A' st',S'=(t,ns,os,W',A',st',rt)/\Rel ns os (fun i' a' nd'=>M i' a' nd'\/(i'=i/\nd'∈IW t ns os i a')) W' A' st'):=by
 have hcn:=JL hF i;have hcd:cnt os i=(os.getD i []).length:=rfl
 refine FY (σ:=List (List Int)×List (List (List Int))×List Int) (os.getD i []).length (fun s m=>((t,ns,os,s.1,s.2.1,s.2.2,rt),(i:Int),os.getD i [],((os.getD i []).length:Int),m))
  (fun m s=>Rel ns os (fun i' a' nd'=>M i' a' nd'\/(i'=i/\a'<=m/\nd'∈IW t ns os i a')) s.1 s.2.1 s.2.2) (by omega) (fun next s k hk hs hn=>?_) (fun next s hs=>?_) (W,A,st) ?_
 ·unfold pQ;dsimp only;have hv:(os.getD i [])[k]?=some (os.getD i [])[k]:=A1 hk;have hnm:ns[i]?=some ns[i]:=A1 hi;rw[F9,A6 hk,AA,FH hv,A0,FH hnm,A0,uO _ _ ht.offers (fun o ho=>(ht.offer o ho).2.2.1),A0,FQ (by omega)];have hnd:=A7n (t:=t) hv hnm;rw[<-hnd]
  have hlen:(IW t ns os i (k+1)).length<=1048576:=by
   rw[hnd];unfold HP;split
   ·rename_i o ho;exact AZ (BN _ _) (ht.offer o (DH ho)).2.2.1
   ·exact BI _
  have:=AQq hF ht hN (rt:=rt) hs i k hi (by omega) (IW t ns os i (k+1)) hlen (fun nd h=>hN i (k+1) nd h);refine E2.2 (this.mono fun S' hS=>?_);obtain⟨W',A',st',rfl,hR'⟩:=hS;refine hn (W',A',st') (hR'.congr fun i' a' nd'=>?_);constructor
  ·rintro((h|⟨h1,h2,h3⟩)|⟨h1,h2,h3⟩)
   ·exact .inl h
   ·exact .inr ⟨h1,by omega,h3⟩
   ·subst h2;exact .inr ⟨h1,by omega,h3⟩
  ·rintro(h|⟨h1,h2,h3⟩)
   ·exact .inl (.inl h)
   ·by_cases he:a'=k+1
    ·subst he;exact .inr ⟨h1,rfl,h3⟩
    ·exact .inl (.inr ⟨h1,by omega,h3⟩)
 ·unfold pQ;dsimp only;rw[F9,AB (AH _),AC];refine E3.2 ⟨_,_,_,rfl,hs.congr fun i' a' nd'=>?_⟩;constructor
  ·rintro(h|⟨h1,h2,h3⟩)
   ·exact .inl h
   ·exact .inr ⟨h1,h3⟩
  ·rintro(h|⟨h1,h3⟩)
   ·exact .inl h
   ·obtain⟨k,v,nm,rfl,h4,h5,h6⟩:=XG h3;have:=(AE.1 h4).1;exact .inr ⟨h1,by omega,h3⟩
 ·refine hR.congr fun i' a' nd'=>⟨.inl,fun h=>h.elim id fun h=>?_⟩;obtain⟨h1,h2,h3⟩:=h;obtain⟨k,v,nm,rfl,_⟩:=XG h3;omega
theorem AQs{W:List (List Int)}{A:List (List (List Int))}{st:List Int}{rt:Int}(hR:Rel ns os (fun _ _ _=>False) W A st):
 Tot (pT ((t,ns,os,W,A,st,rt),(ns.length:Int),0)) (fun S'=>∃W' A' st',S'=(t,ns,os,W',A',st',rt)/\Rel ns os (fun i' a' nd'=>nd'∈IW t ns os i' a') W' A' st'):=by
 refine FY (σ:=List (List Int)×List (List (List Int))×List Int) ns.length (fun s m=>((t,ns,os,s.1,s.2.1,s.2.2,rt),(ns.length:Int),m))
  (fun m s=>Rel ns os (fun i' a' nd'=>i'<m/\nd'∈IW t ns os i' a') s.1 s.2.1 s.2.2) (by have:=hF.few;omega) (fun next s i hi hs hn=>?_) (fun next s hs=>?_) (W,A,st) ?_
 ·unfold pS;dsimp only;have hio:i<os.length:=by rw[hF.len];exact hi
  have ho:os[i]?=some (os.getD i []):=by
   rw[A2,A1 hio];rfl
  rw[F9,A6 hi,AA,FH ho,A0,FQ (by have:=hF.few;omega)];refine E2.2 ((AQr hF ht hN (rt:=rt) hs i hi).mono fun S' hS=>?_);obtain⟨W',A',st',rfl,hR'⟩:=hS;refine hn (W',A',st') (hR'.congr fun i' a' nd'=>?_);constructor
  ·rintro(⟨h1,h2⟩|⟨rfl,h2⟩)
   ·exact⟨by omega,h2⟩
   ·exact⟨by omega,h2⟩
  ·rintro⟨h1,h2⟩;by_cases he:i'=i
   ·subst he;exact .inr ⟨rfl,h2⟩
   ·exact .inl ⟨by omega,h2⟩
 ·unfold pS;dsimp only;rw[F9,AB (AH _),AC];refine E3.2 ⟨_,_,_,rfl,hs.congr fun i' a' nd'=>⟨fun h=>h.2,fun h=>⟨?_,h⟩⟩⟩;obtain⟨k,v,nm,rfl,h4,h5,h6⟩:=XG h;exact(AE.1 h5).1
 ·exact hR.congr fun i' a' nd'=>⟨fun h=>h.elim,fun h=>by omega⟩
omit hN ht in
theorem AQt:Rel ns os (fun _ _ _=>False) (os.map fun o=>List.replicate (o.length+1) 0) (os.map fun o=>List.replicate (o.length+1) (HI os)) (os.map fun o=>KS (o.length+1)):=by
 have hlen:=hF.len;have hcd:∀i,cnt os i=(os.getD i []).length:=fun _=>rfl
 have hop:∀i,i<ns.length->os[i]?=some (os.getD i []):=fun i hi=>by
  rw[A2,A1 (by omega)];rfl
 have hW:∀i,(os.map fun o=>List.replicate (o.length+1) (0:Int)).getD i []=if i<ns.length then List.replicate (cnt os i+1) 0 else []:=by
  intro i;split
  ·rename_i hi;rw[A2,AK,hop i hi];rfl
  ·rw[QI (by rw[AL];omega)]
 have hA:∀i,(os.map fun o=>List.replicate (o.length+1) (HI os)).getD i []=if i<ns.length then List.replicate (cnt os i+1) (HI os)else []:=by
  intro i;split
  ·rename_i hi;rw[A2,AK,hop i hi];rfl
  ·rw[QI (by rw[AL];omega)]
 have hrow:∀j,(HI os).getD j 0=if j<ns.length then KS (cnt os j+1)else 0:=by
  intro j;unfold HI;split
  ·rename_i hi;rw[A2,AK,hop j hi];rfl
  ·rw[QI (by rw[AL];omega)]
 have hfull:∀j,G4 ((HI os).getD j 0):=by
  intro j;rw[hrow];split
  ·exact(uM (n:=cnt os j+1) (by have:=JL hF j;omega)).2
  ·exact OJ
 have hwa:∀i a,wa (os.map fun o=>List.replicate (o.length+1) (0:Int)) i a=0:=by
  intro i a;unfold wa;rw[hW];split
  ·rcases CG a (cnt os i+1)with h|h
   ·rw[A2,CS,if_pos h];rfl
   ·rw[QI (by rw[BE];exact h)]
  ·rfl
 have hal:∀i a j,al (os.map fun o=>List.replicate (o.length+1) (HI os)) i a j=if i<ns.length/\a<cnt os i+1 then(HI os).getD j 0 else 0:=by
  intro i a j;unfold al;rw[hA];by_cases hi:i<ns.length
  ·rw[if_pos hi];rcases CG a (cnt os i+1)with h|h
   ·rw[if_pos ⟨hi,h⟩]
    congr 1
    rw[A2,CS,if_pos h];rfl
   ·rw[if_neg (by omega)];rw[QI (l:=List.replicate _ _) (by rw[BE];exact h)];rfl
  ·rw[if_neg hi,if_neg (by omega)];rfl
 have hst:∀i,(os.map fun o=>KS (o.length+1)).getD i 0=if i<ns.length then KS (cnt os i+1)else 0:=hrow
 refine ⟨⟨by rw [AL,hlen],fun i hi=>by rw [hW,if_pos hi,BE],fun i a=>by rw [hwa]; exact OJ⟩,
  ⟨by rw[AL,hlen],fun i hi=>by rw[hA,if_pos hi,BE],fun i hi a ha=>?_,fun i a j=>?_⟩,
  ⟨by rw[AL,hlen],hfull⟩,fun i hi a=>?_,fun i hi a ha k=>?_,fun i hi a ha j hj b=>?_⟩
 ·rw[hA,if_pos hi,A2,CS,if_pos ha];show(HI os).length=_;unfold HI;rw[AL,hlen]
 ·rw[hal];split
  ·exact hfull j
  ·exact OJ
 ·rw[hst,if_pos hi];unfold KS;rw[A7W];simp only[AV,false_implies,implies_true,and_true];omega
 ·rw[hwa,OI];simp
 ·rw[hal,if_pos ⟨hi,by omega⟩,hrow,if_pos hj];unfold KS;rw[A7W];simp only[AV,false_implies,implies_true,and_true];omega
theorem AQu(rt:Int):Tot (eB (t,ns,os,([]:List (List Int)),([]:List (List (List Int))),os.map (fun o=>KS (o.length+1)),rt)) (fun S'=>∃W' A' st',S'=(t,ns,os,W',A',st',rt)/\Rel ns os (fun i' a' nd'=>nd'∈IW t ns os i' a') W' A' st'):=by
 unfold eB;dsimp only;rw[AQk t ns os hF.toFx,A0];exact E2.2 ((AQs hF ht hN (AQt hF)).mono fun S' h=>E3.2 h)
end
structure Dm(n:Nat)(P:Nat->Nat->Prop)(R:Nat->Prop)(st:List Int)(rt:Int):Prop where
 shS:ShS n st
 in16:G4 rt
 st:∀i<n,∀a,bt (st.getD i 0) a=true<->P i a
 rt:∀i,bt rt i=true<->R i
theorem Dm.congr{n:Nat}{P P':Nat->Nat->Prop}{R R':Nat->Prop}{st:List Int}{rt:Int}(h:Dm n P R st rt)(e:∀i<n,∀a,P i a<->P' i a)(e':∀i,R i<->R' i):Dm n P' R' st rt:=
 ⟨h.shS,h.in16,fun i hi a=>(h.st i hi a).trans (e i hi a),fun i=>(h.rt i).trans (e' i)⟩
theorem A7o{n:Nat}{P:Nat->Nat->Prop}{R:Nat->Prop}{st:List Int}{rt:Int}(h:Dm n P R st rt){j:Nat}(hj:j<n)(hj':j<=15){w:Int}(hw:G4 w):
 Dm n (fun i a=>P i a/\(i=j->bt w a=true)) (fun i=>R i\/i=j) (st.set j (IH u16 (st.getD j 0) w)) (HK u16 rt ((2 ^ j:Nat):Int)):=by
 obtain⟨g1,g2⟩:=T0 (h.shS.in16 j) hw;obtain⟨k1,k2⟩:=gP h.shS hj g1;obtain⟨m1,m2⟩:=gH h.in16 (IU hj').2;refine⟨k1,m1,fun i hi a=>?_,fun i=>?_⟩
 ·rw[k2];split
  ·rename_i e;subst e;rw[g2,A5,h.st _ hi];exact⟨fun⟨x,y⟩=>⟨x,fun _=>y⟩,fun⟨x,y⟩=>⟨x,y rfl⟩⟩
  ·rename_i e;rw[h.st _ hi];exact⟨fun x=>⟨x,fun y=>absurd y e⟩,fun x=>x.1⟩
 ·rw[m2,KR,BG,h.rt,AV];exact⟨fun x=>x.imp id Eq.symm,fun x=>x.imp id Eq.symm⟩
def oF(o:List E1)(v:E1)(a:Nat):Bool:=match IV (fun x=>decide (v=x)) o with
 | .ofNat k=>decide (a=k+1)
 | .negSucc _=>false
section
variable{t:FI}{ns:List E1}{os:List (List E1)}(hF:Fy ns os)(ht:TkB t)
include hF ht
theorem AQv{W:List (List Int)}{A:List (List (List Int))}{st:List Int}{rt:Int}{P:Nat->Nat->Prop}{R:Nat->Prop}(hD:Dm ns.length P R st rt)(l:List GA)(hl:l.length<=1048576)(hnd:∀nd∈l,K8 nd):
 Tot (pV ((t,ns,os,W,A,st,rt),l,(l.length:Int),0)) (fun q=>match q with
  | .inl S'=>∃st' rt',S'=(t,ns,os,W,A,st',rt')/\(∀nd∈l,nd.1∈ns)/\Dm ns.length (fun i a=>P i a/\∀nd∈l,ns[i]?=some nd.1->J7 (os.getD i []) nd.2.1 a=true) (fun i=>R i\/∃nd∈l,ns[i]?=some nd.1) st' rt'
  | .inr y=>y.2=false/\∃nd∈l,nd.1 ∉ ns):=by
 have hfew:=hF.few
 refine FY (σ:=List Int×Int) l.length (fun s m=>((t,ns,os,W,A,s.1,s.2),l,(l.length:Int),m))
  (fun m s=>(∀nd∈l.take m,nd.1∈ns)/\Dm ns.length (fun i a=>P i a/\∀nd∈l.take m,ns[i]?=some nd.1->J7 (os.getD i []) nd.2.1 a=true) (fun i=>R i\/∃nd∈l.take m,ns[i]?=some nd.1) s.1 s.2)
  (by omega) (fun next s m hm hs hn=>?_) (fun next s hs=>?_) (st,rt) ⟨by simp,hD.congr (fun i _ a=>by simp) (fun i=>by simp)⟩
 ·obtain⟨hall,hs⟩:=hs;unfold pU NH;dsimp only;rw[F9,A6 hm,AA,FH (A1 hm),A0,A0,T2 _ _ (by dsimp only;omega),A0,A0,FQ (by omega)];refine E4.2 ⟨fun hc=>?_,fun hc=>?_⟩
  ·exact E3.2 ⟨rfl,l[m],BA hm,(XE _ _).1 (A9 hc)⟩
  ·have hyes:¬_:=AG hc;rcases NR (fun x=>decide (l[m].1=x)) ns with⟨h1,_⟩|⟨j,x,h1,hjn,h3,_⟩
   ·rw[h1]at hyes;exact absurd (by decide) hyes
   rw[h1];have hx:l[m].1=x:=A9 h3;subst hx;have hj:=(AE.1 hjn).1
   have hjo:os[j]?=some (os.getD j []):=by
    rw[A2,A1 (by rw[hF.len];exact hj)];rfl
   have hmem:os.getD j []∈os:=AP hjo;rw[B7,HH (by rw[hs.shS.len];exact hj),A0];refine E2.2 ((A7m _ j (os.getD j []) l[m].2.1 hjo (hF.small _ hmem) (hF.vers _ hmem) (hnd _ (BA hm)).2).mono fun w hw=>?_);rw[A0,(IU (i:=j) (by omega)).1,A0];have hstep:=A7o hs hj (by omega) hw.1;refine hn (_,_) ⟨fun nd h=>?_,hstep.congr (fun i hi a=>?_) (fun i=>?_)⟩
   ·rw[GR (A1 hm),AR,AQ]at h;rcases h with h|rfl
    ·exact hall _ h
    ·exact AP hjn
   ·rw[GR (A1 hm)];constructor
    ·rintro⟨⟨h1,h2⟩,h3⟩;refine⟨h1,fun nd h he=>?_⟩;rw[AR,AQ]at h;rcases h with h|rfl
     ·exact h2 _ h he
     ·have:=OL hF.nodup he hjn;subst this;rw[<-hw.2];exact h3 rfl
    ·rintro⟨h1,h2⟩;refine⟨⟨h1,fun nd h he=>h2 _ (AS _ h) he⟩,fun h=>?_⟩;subst h;rw[hw.2];exact h2 _ (AU _ (AQ.2 rfl)) hjn
   ·rw[GR (A1 hm)];constructor
    ·rintro((h|⟨nd,h,he⟩)|rfl)
     ·exact .inl h
     ·exact .inr ⟨nd,AS _ h,he⟩
     ·exact .inr ⟨l[m],AU _ (AQ.2 rfl),hjn⟩
    ·rintro(h|⟨nd,h,he⟩)
     ·exact .inl (.inl h)
     ·rw[AR,AQ]at h;rcases h with h|rfl
      ·exact .inl (.inr ⟨nd,h,he⟩)
      ·exact .inr (OL hF.nodup he hjn)
 ·unfold pU;dsimp only;rw[F9,AB (AH _),AC];rw[B5]at hs;exact E3.2 ⟨_,_,rfl,hs⟩
theorem AQw(o:List E1)(v:E1)(ho:o.length<=8):Tot (eC ((0:Int),IV (fun x=>decide (v=x)) o,decide ((0:Int)<=IV (fun x=>decide (v=x)) o))) (fun w=>G4 w/\∀a,bt w a=oF o v a):=by
 unfold eC oF;dsimp only;rcases NR (fun x=>decide (v=x)) o with⟨h1,_⟩|⟨j,x,h1,hjn,h3,_⟩
 ·rw[h1];exact E3.2 ⟨OJ,fun a=>OI a⟩
 ·have hj:=(AE.1 hjn).1;rw[h1,A6 (by omega),AA,FQ (by omega)];have:=IU (i:=j+1) (by omega);rw[show((j:Int)+1)=((j+1:Nat):Int) by omega,this.1,A0];refine E3.2 ⟨this.2,fun a=>?_⟩;rw[KR];show _=decide (a=j+1);by_cases h:a=j+1
  ·subst h;simp
  ·rw[AB h,AB (fun e=>h e.symm)]
theorem AQx{W:List (List Int)}{A:List (List (List Int))}{st:List Int}{rt:Int}{P:Nat->Nat->Prop}{R:Nat->Prop}(hD:Dm ns.length P R st rt)(l:List E1)(hl:l.length<=1048576):
 Tot (pX ((t,ns,os,W,A,st,rt),l,(l.length:Int),0)) (fun q=>match q with
  | .inl S'=>∃st' rt',S'=(t,ns,os,W,A,st',rt')/\(∀fz∈l,fz∈ns)/\Dm ns.length (fun i a=>P i a/\∀fz∈l,ns[i]?=some fz->oF (os.getD i []) (FE t.2.2.2.1 fz).1 a=true) (fun i=>R i\/∃fz∈l,ns[i]?=some fz) st' rt'
  | .inr y=>y.2=false/\∃fz∈l,fz ∉ ns):=by
 have hfew:=hF.few
 refine FY (σ:=List Int×Int) l.length (fun s m=>((t,ns,os,W,A,s.1,s.2),l,(l.length:Int),m))
  (fun m s=>(∀fz∈l.take m,fz∈ns)/\Dm ns.length (fun i a=>P i a/\∀fz∈l.take m,ns[i]?=some fz->oF (os.getD i []) (FE t.2.2.2.1 fz).1 a=true) (fun i=>R i\/∃fz∈l.take m,ns[i]?=some fz) s.1 s.2)
  (by omega) (fun next s m hm hs hn=>?_) (fun next s hs=>?_) (st,rt) ⟨by simp,hD.congr (fun i _ a=>by simp) (fun i=>by simp)⟩
 ·obtain⟨hall,hs⟩:=hs;unfold pW NH;dsimp only;rw[F9,A6 hm,AA,FH (A1 hm),A0,A0,T2 _ _ (by dsimp only;omega),A0,A0,FQ (by omega)];refine E4.2 ⟨fun hc=>?_,fun hc=>?_⟩
  ·exact E3.2 ⟨rfl,l[m],BA hm,(XE _ _).1 (A9 hc)⟩
  ·have hyes:¬_:=AG hc;rcases NR (fun x=>decide (l[m]=x)) ns with⟨h1,_⟩|⟨j,x,h1,hjn,h3,_⟩
   ·rw[h1]at hyes;exact absurd (by decide) hyes
   rw[h1];have hx:l[m]=x:=A9 h3;subst hx;have hj:=(AE.1 hjn).1
   have hjo:os[j]?=some (os.getD j []):=by
    rw[A2,A1 (by rw[hF.len];exact hj)];rfl
   have hmem:os.getD j []∈os:=AP hjo;have hsm:=hF.small _ hmem;rw[NT _ _ (by have:=ht.old;omega),A0,FH hjo,A0,T2 _ _ (by omega),A0];refine E2.2 ((AQw hF ht (os.getD j []) (FE t.2.2.2.1 l[m]).1 hsm).mono fun w hw=>?_);rw[B7,HH (by rw[hs.shS.len];exact hj),A0,A0,(IU (i:=j) (by omega)).1,A0];have hstep:=A7o hs hj (by omega) hw.1;refine hn (_,_) ⟨fun fz h=>?_,hstep.congr (fun i hi a=>?_) (fun i=>?_)⟩
   ·rw[GR (A1 hm),AR,AQ]at h;rcases h with h|rfl
    ·exact hall _ h
    ·exact AP hjn
   ·rw[GR (A1 hm)];constructor
    ·rintro⟨⟨h1,h2⟩,h3⟩;refine⟨h1,fun fz h he=>?_⟩;rw[AR,AQ]at h;rcases h with h|rfl
     ·exact h2 _ h he
     ·have:=OL hF.nodup he hjn;subst this;rw[<-hw.2];exact h3 rfl
    ·rintro⟨h1,h2⟩;refine⟨⟨h1,fun fz h he=>h2 _ (AS _ h) he⟩,fun h=>?_⟩;subst h;rw[hw.2];exact h2 _ (AU _ (AQ.2 rfl)) hjn
   ·rw[GR (A1 hm)];constructor
    ·rintro((h|⟨fz,h,he⟩)|rfl)
     ·exact .inl h
     ·exact .inr ⟨fz,AS _ h,he⟩
     ·exact .inr ⟨l[m],AU _ (AQ.2 rfl),hjn⟩
    ·rintro(h|⟨fz,h,he⟩)
     ·exact .inl (.inl h)
     ·rw[AR,AQ]at h;rcases h with h|rfl
      ·exact .inl (.inr ⟨fz,h,he⟩)
      ·exact .inr (OL hF.nodup he hjn)
 ·unfold pW;dsimp only;rw[F9,AB (AH _),AC];rw[B5]at hs;exact E3.2 ⟨_,_,rfl,hs⟩
end
structure Good(t:FI)(ns:List E1)(os:List (List E1))(W:List (List Int))(A:List (List (List Int)))(st:List Int)(rt:Int):Prop where
 shW:ShW ns.length os W
 shA:ShA ns.length os A
 shS:ShS ns.length st
 in16:G4 rt
 st:∀i<ns.length,∀a,bt (st.getD i 0) a=true<->a<=cnt os i/\(∀nd∈IW t ns os i a,nd.1∈ns)/\(∀nd∈J4 t.2.2.1 t.2.1,ns[i]?=some nd.1->J7 (os.getD i []) nd.2.1 a=true)/\
  (∀fz∈t.2.2.2.2.1,ns[i]?=some fz->oF (os.getD i []) (FE t.2.2.2.1 fz).1 a=true)
 wa:∀i<ns.length,∀a≤cnt os i,∀k,bt (wa W i a) k=true<->∃nd∈IW t ns os i a,ns[k]?=some nd.1
 al:∀i<ns.length,∀a≤cnt os i,∀j<ns.length,∀b,bt (al A i a j) b=true<->b<=cnt os j/\(∀nd∈IW t ns os i a,ns[j]?=some nd.1->J7 (os.getD j []) nd.2.1 b=true)/\
  (∀nd∈IW t ns os j b,ns[i]?=some nd.1->J7 (os.getD i []) nd.2.1 a=true)
 rt:∀i,bt rt i=true<->(∃nd∈J4 t.2.2.1 t.2.1,ns[i]?=some nd.1)\/∃fz∈t.2.2.2.2.1,ns[i]?=some fz
def uW(t:FI)(ns:List E1):Prop:=(∀nd∈J4 t.2.2.1 t.2.1,nd.1∈ns)/\∀fz∈t.2.2.2.2.1,fz∈ns
noncomputable def FK(t:FI):List (List E1):=(EU t.1).map (M7 t)
theorem AQy(t:FI)(ht:TkB t)(hF:Fy (EU t.1) (FK t))(hN:∀i a nd,nd∈IW t (EU t.1) (FK t) i a->K8 nd/\(EU t.1)[i]?≠some nd.1):
 Tot (VY t) (fun q=>(q.2=false/\¬uW t (EU t.1))\/(q.2=true/\uW t (EU t.1)/\∃W A st rt,q.1=some (t,EU t.1,FK t,W,A,st,rt)/\Good t (EU t.1) (FK t) W A st rt)):=by
 have hlen:(EU t.1).length<=12:=hF.few;unfold VY;rw[AQX t t.1 ht.offers,A0];dsimp only;rw[AQY t ht (EU t.1) (by omega) (fun s hs=>?_),A0]
 ·dsimp only
  have hmap:(EU t.1).map (fun s=>KS ((M7 t s).length+1))=(FK t).map (fun o=>KS (o.length+1)):=by
   unfold FK;rw[List.map_map];rfl
  rw[hmap];refine E2.2 ((AQu hF ht hN 0).mono fun S' hS=>?_);obtain⟨W,A,st,rfl,hR⟩:=hS;refine E2.2 ?_;unfold pY;dsimp only;rw[gK _ _ ht.needs,A0];have hD:Dm (EU t.1).length (fun i a=>a<=cnt (FK t) i/\∀nd,nd∈IW t (EU t.1) (FK t) i a->nd.1∈EU t.1) (fun _=>False) st 0:=⟨hR.shS,OJ,hR.st,fun i=>by simp[OI]⟩;refine E2.2 ((AQv hF ht hD (J4 t.2.2.1 t.2.1) (AZ (BN _ _) ht.needs) (fun nd h=>ht.need nd (CJ.1 h).1)).mono fun q hq=>?_);rcases q with S'|y
  ·obtain⟨st',rt',rfl,hall,hD'⟩:=hq;dsimp only;refine E2.2 ((AQx hF ht hD' t.2.2.2.2.1 ht.frozen).mono fun q hq=>?_);rcases q with S'|y
   ·obtain⟨st2,rt2,rfl,hall2,hD2⟩:=hq;refine E3.2 (E3.2 (.inr ⟨rfl,⟨hall,hall2⟩,W,A,st2,rt2,rfl,⟨hR.shW,hR.shA,hD2.shS,hD2.in16,fun i hi a=>?_,hR.wa,hR.al,fun i=>?_⟩⟩))
    ·rw[hD2.st i hi];exact⟨fun⟨⟨⟨x,y⟩,z⟩,u⟩=>⟨x,y,z,u⟩,fun⟨x,y,z,u⟩=>⟨⟨⟨x,y⟩,z⟩,u⟩⟩
    ·rw[hD2.rt];simp
   ·obtain⟨h1,fz,h2,h3⟩:=hq;exact E3.2 (E3.2 (.inl ⟨h1,fun h=>h3 (h.2 fz h2)⟩))
  ·obtain⟨h1,nd,h2,h3⟩:=hq;exact E3.2 (E3.2 (.inl ⟨h1,fun h=>h3 (h.1 nd h2)⟩))
 ·obtain⟨o,ho,rfl⟩:=(XD _ _).1 hs;exact⟨(ht.offer o ho).1,hF.small _ (List.mem_map_of_mem hs)⟩
inductive Reach (n:Nat) (os:List (List E1)) (W:List (List Int)) (rt:Int) (h:Nat->Nat->Prop):Nat->Prop
 |root {i:Nat}:bt rt i=true->Reach n os W rt h i
 |step {i a j:Nat}:Reach n os W rt h i->i<n->a<=cnt os i->h i a->bt (wa W i a) j=true->Reach n os W rt h j
theorem Reach.mono{n:Nat}{os:List (List E1)}{W:List (List Int)}{rt:Int}{h h':Nat->Nat->Prop}(hh:∀i<n,∀a,h i a->h' i a){j:Nat}(r:Reach n os W rt h j):Reach n os W rt h' j:=by
 induction r with
 |root h1=>exact .root h1
 |step _ h1 h2 h3 h4 ih=>exact .step ih h1 h2 (hh _ h1 _ h3) h4
theorem AQz{a b:Int}(ha:G4 a)(hb:G4 b):a<=HK u16 a b:=by
 have e:HK u16 a b=((a.toNat|||b.toNat:Nat):Int):=by
  unfold HK;rw[show u16.bits=16 from rfl,BitVec.toNat_or,NQ ha,NQ hb];exact S_ (Nat.or_lt_two_pow (n:=16) (by have:=ha.2;omega) (by have:=hb.2;omega))
 rw[e];have:=Nat.left_le_or (n:=a.toNat) (m:=b.toNat);have:=ha.1;omega
section
variable{t:FI}{ns:List E1}{os:List (List E1)}{W:List (List Int)}{A:List (List (List Int))}{st:List Int}{rt:Int}(hF:Fy ns os)(hG:Good t ns os W A st rt)
include hF hG
structure Pass(P:Prop)(R:Nat->Prop)(o:Int)(g:Bool)(o':Int)(g':Bool):Prop where
 in16:G4 o'
 le:o<=o'
 sub:∀k,bt o k=true->bt o' k=true
 snd:(∀k,bt o k=true->R k)->∀k,bt o' k=true->R k
 up:g'=true->g=true\/o<o'
 cl:g'=false->g=false/\o'=o/\P
omit hF hG in
theorem Pass.next{P P':Prop}{R:Nat->Prop}{o o1 o2:Int}{g g1 g2:Bool}(h1:Pass P R o g o1 g1)(h2:Pass P' R o1 g1 o2 g2):Pass (P/\(o1=o->P')) R o g o2 g2:=
 ⟨h2.in16,Int.le_trans h1.le h2.le,fun k h=>h2.sub k (h1.sub k h),fun h=>h2.snd (h1.snd h),
  fun h=>(h2.up h).elim (fun h=>(h1.up h).imp id fun h=>Int.lt_of_lt_of_le h h2.le) fun h=>.inr (Int.lt_of_le_of_lt h1.le h),
  fun h=>by
   obtain⟨a1,a2,a3⟩:=h2.cl h;obtain⟨b1,b2,b3⟩:=h1.cl a1;exact⟨b1,a2.trans b2,b3,fun _=>a3⟩⟩
theorem AR0(left:List Int)(hl:ShS ns.length left)(R:Nat->Prop)(i:Nat)(hi:i<ns.length)(o:Int)(ho:G4 o)(g:Bool)
 (hR:∀a≤cnt os i,bt (left.getD i 0) a=true->∀k,bt (wa W i a) k=true->R k):
 Tot (qF (some (t,ns,os,W,A,st,rt),left,o,g,(i:Int),(((W.getD i []).length:Nat):Int),0)) (fun q=>Pass (∀a≤cnt os i,bt (left.getD i 0) a=true->∀k,bt (wa W i a) k=true->bt o k=true) R o g q.1 q.2):=by
 have hcn:=JL hF i;have hrow:=hG.shW.row i hi
 refine FY (σ:=Int×Bool) (W.getD i []).length (fun s a=>(some (t,ns,os,W,A,st,rt),left,s.1,s.2,(i:Int),(((W.getD i []).length:Nat):Int),a))
  (fun m s=>Pass (∀a,a<m->bt (left.getD i 0) a=true->∀k,bt (wa W i a) k=true->bt o k=true) R o g s.1 s.2) (by omega) (fun next s a ha hs hn=>?_) (fun next s hs=>?_) (o,g)
  ⟨ho,B0 _,fun _ h=>h,fun h=>h,.inl,fun h=>⟨h,rfl,fun a ha=>by omega⟩⟩
 ·unfold qE;dsimp only;have hlv:left[i]?=some (left.getD i 0):=by rw[A2,A1 (by rw[hl.len];exact hi)];rfl
  have hWi:W[i]?=some (W.getD i []):=by rw[A2,A1 (by rw[hG.shW.len];exact hi)];rfl
  have hWa:(W.getD i [])[a]?=some (wa W i a):=by unfold wa;rw[A2 (l:=W.getD i []),A1 ha];rfl
  rw[F9,A6 ha,AA,FH hlv,A0,MU (hl.in16 i),A0,FQ (by omega)];have hor:=gH hs.in16 (hG.shW.in16 i a);cases hb:bt (left.getD i 0) a with
  |false=>
   simp only[AC,A0,CA];refine hn s ⟨hs.in16,hs.le,hs.sub,hs.snd,hs.up,fun h=>?_⟩;obtain⟨h1,h2,h3⟩:=hs.cl h;refine⟨h1,h2,fun a' ha' hb' k hk=>?_⟩;by_cases he:a'=a
   ·subst he;rw[hb]at hb';cases hb'
   ·exact h3 a' (by omega) hb' k hk
  |true=>
   simp only[AA,A0,C7];rw[FH hWi,A0,FH hWa,A0];refine E4.2 ⟨fun hc=>?_,fun hc=>?_⟩
   ·rw[A0,FH hWa,A0]
    have hne:HK u16 s.1 (wa W i a)≠s.1:=by
     rw[E5]at hc;have:decide (HK u16 s.1 (wa W i a)=s.1)=false:=by simpa using hc
     exact AG this
    have hle:=AQz hs.in16 (hG.shW.in16 i a);refine hn (HK u16 s.1 (wa W i a),true) ⟨hor.1,Int.le_trans hs.le hle,fun k h=>(hor.2 k).trans (by rw[hs.sub k h];rfl),fun h k hk=>?_,fun _=>.inr (Int.lt_of_le_of_lt hs.le (Int.lt_iff_le_and_ne.2 ⟨hle,Ne.symm hne⟩)),fun h=>(by cases h)⟩;have hk:=(hor.2 k).symm.trans hk;rw[BG]at hk;rcases hk with hk|hk
    ·exact hs.snd h k hk
    ·exact hR a (by omega) hb k hk
   ·have he:HK u16 s.1 (wa W i a)=s.1:=by
     rw[E5]at hc;have:decide (HK u16 s.1 (wa W i a)=s.1)=true:=by simpa using hc
     exact A9 this
    refine hn s ⟨hs.in16,hs.le,hs.sub,hs.snd,hs.up,fun h=>?_⟩;obtain⟨h1,h2,h3⟩:=hs.cl h;refine⟨h1,h2,fun a' ha' hb' k hk=>?_⟩;by_cases hae:a'=a
    ·subst hae;have:=hor.2 k;rw[he,hk,Bool.or_true]at this;rw[←h2];exact this
    ·exact h3 a' (by omega) hb' k hk
 ·unfold qE;dsimp only;rw[F9,AB (AH _),AC];refine E3.2 ⟨hs.in16,hs.le,hs.sub,hs.snd,hs.up,fun h=>?_⟩;obtain⟨h1,h2,h3⟩:=hs.cl h;exact⟨h1,h2,fun a ha=>h3 a (by omega)⟩
theorem AR1(left:List Int)(hl:ShS ns.length left)(R:Nat->Prop)(o:Int)(ho:G4 o)(hRo:∀k,bt o k=true->R k)
 (hR:∀i<ns.length,R i->∀a≤cnt os i,bt (left.getD i 0) a=true->∀k,bt (wa W i a) k=true->R k):
 Tot (qH (some (t,ns,os,W,A,st,rt),left,o,false,(ns.length:Int),0)) (fun q=>Pass (∀i<ns.length,bt o i=true->∀a≤cnt os i,bt (left.getD i 0) a=true->∀k,bt (wa W i a) k=true->bt o k=true) R o false q.1 q.2):=by
 have hfew:=hF.few
 refine FY (σ:=Int×Bool) ns.length (fun s i=>(some (t,ns,os,W,A,st,rt),left,s.1,s.2,(ns.length:Int),i))
  (fun m s=>Pass (∀i,i<m->bt o i=true->∀a≤cnt os i,bt (left.getD i 0) a=true->∀k,bt (wa W i a) k=true->bt o k=true) R o false s.1 s.2) (by omega) (fun next s i hi hs hn=>?_) (fun next s hs=>?_) (o,false)
  ⟨ho,B0 _,fun _ h=>h,fun h=>h,.inl,fun h=>⟨h,rfl,fun a ha=>by omega⟩⟩
 ·unfold qG;dsimp only;have hWi:W[i]?=some (W.getD i []):=by rw[A2,A1 (by rw[hG.shW.len];exact hi)];rfl
  rw[F9,A6 hi,AA,MU hs.in16,A0,FQ (by omega)];refine E4.2 ⟨fun hc=>?_,fun hc=>?_⟩
  ·have hc:bt s.1 i=false:=by simpa using hc
   refine hn s ⟨hs.in16,hs.le,hs.sub,hs.snd,hs.up,fun h=>?_⟩;obtain⟨h1,h2,h3⟩:=hs.cl h;refine⟨h1,h2,fun i' hi' hb'=>?_⟩;by_cases he:i'=i
   ·subst he;rw[h2,hb']at hc;cases hc
   ·exact h3 i' (by omega) hb'
  ·have hc:bt s.1 i=true:=by simpa using hc
   rw[A0,FH hWi,A0];refine E2.2 ((AR0 hF hG left hl R i hi s.1 hs.in16 s.2 (hR i hi (hs.snd hRo i hc))).mono fun q hq=>?_);have hp:=hs.next hq;refine hn q ⟨hp.in16,hp.le,hp.sub,hp.snd,hp.up,fun h=>?_⟩;obtain⟨h1,h2,h3,h4⟩:=hp.cl h;obtain⟨_,h5,_⟩:=hs.cl (hq.cl h).1;refine⟨h1,h2,fun i' hi' hb'=>?_⟩;by_cases he:i'=i
   ·subst he;have:=h4 h5;rw[h5]at this;exact this
   ·exact h3 i' (by omega) hb'
 ·unfold qG;dsimp only;rw[F9,AB (AH _),AC];exact E3.2 hs
theorem AR2(left:List Int)(hl:ShS ns.length left):
 Tot (eD (some (t,ns,os,W,A,st,rt),left)) (fun q=>G4 q/\∀k,bt q k=true<->Reach ns.length os W rt (fun i a=>bt (left.getD i 0) a=true) k):=by
 unfold eD;dsimp only;rw[A0];refine E2.2 (Tot.mono (P:=fun q=>G4 q/\∀k,bt q k=true<->Reach ns.length os W rt (fun i a=>bt (left.getD i 0) a=true) k) ?_ fun q hq=>E3.2 hq)
 refine F7 (R:=fun q=>G4 q/\∀k,bt q k=true<->Reach ns.length os W rt (fun i a=>bt (left.getD i 0) a=true) k)
  (fun y:(Option T1)×List Int×Int×Bool=>y.1=some (t,ns,os,W,A,st,rt)/\y.2.1=left/\G4 y.2.2.1/\(∀ k,bt rt k=true->bt y.2.2.1 k=true)/\(∀ k,bt y.2.2.1 k=true->Reach ns.length os W rt (fun i a=>bt (left.getD i 0) a=true) k) /\
   (y.2.2.2=false->∀i<ns.length,bt y.2.2.1 i=true->∀a≤cnt os i,bt (left.getD i 0) a=true->∀k,bt (wa W i a) k=true->bt y.2.2.1 k=true))
  (fun y=>2*(65536-y.2.2.1.toNat)+if y.2.2.2 then 1 else 0) ?_ _ _ ⟨rfl,rfl,hG.in16,fun _ h=>h,fun k h=>.root h,fun h=>by cases h⟩ (by unfold fuel;dsimp only;split<;>omega)
 rintro next ⟨s,l,o,g⟩ hI hn
 dsimp only at hI hn;obtain⟨rfl,rfl,ho,h1,h2,h3⟩:=hI;unfold A1I;dsimp only;refine E4.2 ⟨fun hc=>?_,fun hc=>?_⟩
 ·subst hc;rw[A0];dsimp only;refine E2.2 ((AR1 hF hG l hl _ o ho h2 (fun i hi hr a ha hb k hk=>.step hr hi ha hb hk)).mono fun q hq=>?_);refine hn (_,l,q.1,q.2) ⟨rfl,rfl,hq.in16,fun k h=>hq.sub k (h1 k h),hq.snd h2,fun h=>?_⟩ ?_
  ·obtain⟨_,e,h4⟩:=hq.cl h;dsimp only;rw[e];exact h4
  ·dsimp only;have hle:=hq.le;have:=hq.in16;have h0:=ho.1;have hi2:=this.2;cases hg:q.2 with
   |false=>
    simp only[if_true,CH,CK];omega
   |true=>
    have:=(hq.up hg).elim (fun h=>by cases h) id;simp only[if_true];omega
 ·refine E3.2 ⟨ho,fun k=>⟨h2 k,fun hr=>?_⟩⟩;induction hr with
  |root h=>exact h1 _ h
  |step _ a1 a2 a3 a4 ih=>exact h3 hc _ a1 ih _ a2 a3 _ a4
def PN(ns:List E1)(os:List (List E1))(W:List (List Int))(rt:Int)(h:Nat->Nat->Prop):Prop:=∀i<ns.length,h i 0\/Reach ns.length os W rt h i
theorem uX(left:List Int)(hl:ShS ns.length left):
 Tot (SI (some (t,ns,os,W,A,st,rt),left)) (fun q=>q=true<->PN ns os W rt (fun i a=>bt (left.getD i 0) a=true)):=by
 have hfew:=hF.few;unfold SI;dsimp only;refine E2.2 ((AR2 hF hG left hl).mono fun w hw=>?_);have hw0:=hw.1;have hlen:=hl.len
 have key:Tot (qJ (w,left,(left.length:Int),0)) (fun q=>match q with
  | .inl _=>PN ns os W rt (fun i a=>bt (left.getD i 0) a=true)
  | .inr b=>b=false/\¬PN ns os W rt (fun i a=>bt (left.getD i 0) a=true)):=by
  refine FY (σ:=Unit) left.length (fun s i=>(w,left,(left.length:Int),i)) (fun m _=>∀i,i<m->bt (left.getD i 0) 0=true\/Reach ns.length os W rt (fun i a=>bt (left.getD i 0) a=true) i) (by omega) (fun next s i hi hs hn=>?_) (fun next s hs=>?_) () (fun i h=>by omega)
  ·unfold qI;dsimp only;have hlv:left[i]?=some (left.getD i 0):=by rw[A2,A1 hi];rfl
   have h0:=MU (hl.in16 i) 0;rw[show((0:Nat):Int)=0 from rfl]at h0;rw[F9,A6 hi,AA,FH hlv,A0,h0,A0,FQ (by omega)];cases hb:bt (left.getD i 0) 0 with
   |true=>
    simp only[BP,AC,A0,CA];refine hn () fun i' hi'=>?_;by_cases he:i'=i
    ·subst he;exact .inl hb
    ·exact hs i' (by omega)
   |false=>
    simp only[CV,AA,C7];rw[MU hw0,A0];refine E4.2 ⟨fun hc=>?_,fun hc=>?_⟩
    ·refine E3.2 ⟨rfl,fun h=>?_⟩;rcases h i (by omega)with h|h
     ·rw[hb]at h;cases h
     ·have:=(hw.2 i).2 h;rw[this]at hc;cases hc
    ·have hc:bt w i=true:=by simpa using hc
     refine hn () fun i' hi'=>?_;by_cases he:i'=i
     ·subst he;exact .inr ((hw.2 _).1 hc)
     ·exact hs i' (by omega)
  ·unfold qI;dsimp only;rw[F9,AB (AH _),AC];exact E3.2 fun i hi=>hs i (by omega)
 refine E2.2 (key.mono fun q hq=>?_);rcases q with y|y
 ·exact E3.2 ⟨fun _=>hq,fun _=>rfl⟩
 ·obtain⟨h1,h2⟩:=hq;subst h1;exact E3.2 ⟨fun h=>(by cases h),fun h=>absurd h h2⟩
include hF hG
structure Tk(n:Nat)(A:List (List (List Int)))(left:List Int)(i a:Nat)(m:Nat)(o:List Int):Prop where
 sh:ShS n o
 bit:∀j<n,∀b,bt (o.getD j 0) b=true<->(if j=i then b=a else bt (left.getD j 0) b=true/\(j<m->bt (al A i a j) b=true))
theorem AR3(left:List Int)(hl:ShS ns.length left)(i a:Nat)(hi:i<ns.length)(ha:a<=cnt os i):
 Tot (SJ (some (t,ns,os,W,A,st,rt),left,(i:Int),(a:Int))) (fun q =>
  (q.2=true->Tk ns.length A left i a ns.length q.1/\(∀j<ns.length,∃b,bt (q.1.getD j 0) b=true)/\PN ns os W rt (fun j b=>bt (q.1.getD j 0) b=true))/\
  (q.2=false->∀o,Tk ns.length A left i a ns.length o->¬((∀j<ns.length,∃b,bt (o.getD j 0) b=true)/\PN ns os W rt (fun j b=>bt (o.getD j 0) b=true)))):=by
 have hfew:=hF.few;have hcn:=JL hF i;have hlen:=hl.len;unfold SJ qD qC;dsimp only;refine E2.2 (E2.2 (G7.2 ⟨by simp only[AJ];omega,?_⟩));rw[DL];refine E3.2 ?_;have hone:=IU (i:=a) (by omega);rw[hone.1,A0,HH (by omega),A0,B7];obtain⟨k1,k2⟩:=gP hl hi hone.2;have hlen2:(left.set i ((2 ^ a:Nat):Int)).length=ns.length:=k1.len;rw[hlen2]
 have key:Tot (qL (some (t,ns,os,W,A,st,rt),(i:Int),(a:Int),left.set i ((2 ^ a:Nat):Int),(ns.length:Int),0)) (fun q=>match q with
  | .inl o=>Tk ns.length A left i a ns.length o/\∀j<ns.length,∃b,bt (o.getD j 0) b=true\/(j=i)
  | .inr y=>y.2=false/\∀o,Tk ns.length A left i a ns.length o->¬(∀j<ns.length,∃b,bt (o.getD j 0) b=true)):=by
  refine FY (σ:=List Int) ns.length (fun s j=>(some (t,ns,os,W,A,st,rt),(i:Int),(a:Int),s,(ns.length:Int),j)) (fun m s=>Tk ns.length A left i a m s/\∀j,j<m->∃b,bt (s.getD j 0) b=true\/(j=i)) (by omega) (fun next s j hj hs hn=>?_) (fun next s hs=>?_) _ ⟨⟨k1,fun j hj b=>?_⟩,fun j h=>by omega⟩
  ·obtain⟨hs,hnz⟩:=hs;unfold qK;dsimp only;rw[F9,A6 hj,AA,FQ (by omega)];refine E4.2 ⟨fun hc=>?_,fun hc=>?_⟩
   ·have hji:j=i:=by rw[E5]at hc;have:=A9 hc;omega
    refine hn s ⟨⟨hs.sh,fun j' hj' b=>?_⟩,fun j' hj'=>?_⟩
    ·rw[hs.bit j' hj' b];split
     ·rfl
     ·rename_i h;exact⟨fun⟨x,y⟩=>⟨x,fun z=>y (by omega)⟩,fun⟨x,y⟩=>⟨x,fun z=>y (by omega)⟩⟩
    ·by_cases h:j'=j
     ·exact⟨0,.inr (h.trans hji)⟩
     ·exact hnz j' (by omega)
   ·have hji:j≠i:=by rw[E5]at hc;have:=AG hc;omega
    have hsl:=hs.sh.len;have hAi:A[i]?=some (A.getD i []):=by rw[A2,A1 (by rw[hG.shA.len];exact hi)];rfl
    have hAr:=hG.shA.row i hi;have hAa:(A.getD i [])[a]?=some ((A.getD i []).getD a []):=by rw[A2 (l:=A.getD i []),A1 (by omega)];rfl
    have hAc:=hG.shA.cell i hi a (by omega);have hAj:((A.getD i []).getD a [])[j]?=some (al A i a j):=by unfold al;rw[A2 (l:=(A.getD i []).getD a []),A1 (by omega)];rfl
    rw[HH (by omega),A0,A0];dsimp only;rw[FH hAi,A0,FH hAa,A0,FH hAj,A0,A0,B7,HH (by rw[AF];omega),A0];obtain⟨g1,g2⟩:=T0 (hs.sh.in16 j) (hG.shA.in16 i a j);obtain⟨m1,m2⟩:=gP hs.sh hj g1
    have hT:Tk ns.length A left i a (j+1) (s.set j (IH u16 (s.getD j 0) (al A i a j))):=by
     refine⟨m1,fun j' hj' b=>?_⟩;rw[m2];by_cases h:j'=j
     ·subst h;rw[if_pos rfl,g2,A5,hs.bit _ hj',if_neg hji,if_neg hji];exact⟨fun⟨⟨x,y⟩,z⟩=>⟨x,fun _=>z⟩,fun⟨x,y⟩=>⟨⟨x,fun h=>absurd h (AH _)⟩,y (by omega)⟩⟩
     ·rw[if_neg h,hs.bit j' hj' b];split
      ·rfl
      ·exact⟨fun⟨x,y⟩=>⟨x,fun z=>y (by omega)⟩,fun⟨x,y⟩=>⟨x,fun z=>y (by omega)⟩⟩
    have hgd:(s.set j (IH u16 (s.getD j 0) (al A i a j))).getD j 0=IH u16 (s.getD j 0) (al A i a j):=by rw[m2,if_pos rfl]
    rw[hgd];refine E4.2 ⟨fun hz=>?_,fun hz=>?_⟩
    ·refine E3.2 ⟨rfl,fun o ho hall=>?_⟩;obtain⟨b,hb⟩:=hall j hj;rw[ho.bit j hj,if_neg hji]at hb
     have:∃ b,bt (IH u16 (s.getD j 0) (al A i a j)) b=true:=⟨b,by
      rw[g2,A5,hs.bit j hj,if_neg hji];exact⟨⟨hb.1,fun h=>absurd h (AH _)⟩,hb.2 hj⟩⟩
     have:=(gI g1).2 this;rw[this]at hz;cases hz
    ·refine hn _ ⟨hT,fun j' hj'=>?_⟩;by_cases h:j'=j
     ·subst h;obtain⟨b,hb⟩:=(gI g1).1 hz;exact⟨b,.inl (by rw[hgd];exact hb)⟩
     ·rw[m2,if_neg h];exact hnz j' (by omega)
  ·unfold qK;dsimp only;rw[F9,AB (AH _),AC];exact E3.2 hs
  ·rw[k2];split
   ·rw[KR,AV];exact eq_comm
   ·simp
 refine E2.2 (key.mono fun q hq=>?_);rcases q with o|y
 ·obtain⟨h1,h2⟩:=hq
  have hall:∀j<ns.length,∃b,bt (o.getD j 0) b=true:=fun j hj=>by
   obtain⟨b,h|h⟩:=h2 j hj
   ·exact⟨b,h⟩
   ·exact⟨a,by rw[h1.bit j hj,if_pos h]⟩
  refine E2.2 ((uX hF hG o h1.sh).mono fun b hb=>E3.2 ⟨fun h=>⟨h1,hall,hb.1 h⟩,fun h o' ho' hn=>?_⟩)
  have:o'=o:=by
   apply BW;intro j;by_cases hj:j<ns.length
   ·have e1:o'[j]?=some (o'.getD j 0):=by rw[A2,A1 (by rw[ho'.sh.len];exact hj)];rfl
    have e2:o[j]?=some (o.getD j 0):=by rw[A2,A1 (by rw[h1.sh.len];exact hj)];rfl
    rw[e1,e2]
    congr 1
    refine XA (ho'.sh.in16 j) (h1.sh.in16 j) fun b=>?_;rw[Bool.eq_iff_iff,ho'.bit j hj,h1.bit j hj]
   ·rw[B1 (by rw[ho'.sh.len];omega),B1 (by rw[h1.sh.len];omega)]
  rw[this]at hn;have:=hb.2 hn.2;have h:b=false:=h;rw[h]at this;cases this
 ·obtain⟨h1,h2⟩:=hq;refine E3.2 ⟨fun h=>?_,fun _ o ho hn=>h2 o ho hn.1⟩;dsimp only at h;rw[h1]at h;cases h
end
theorem AR4(a:Nat)(ha:a<=15):P8 ((2 ^ a:Nat):Int)=some (a:Int):=by
 have hone:=(IU ha).2;unfold P8
 have key:Tot (ZX (((2 ^ a:Nat):Int),(0:Int))) (fun q=>q=.inr (a:Int)):=by
  refine FY (σ:=Unit) 16 (fun s i=>(((2 ^ a:Nat):Int),i)) (fun m _=>m<=a) (by omega) (fun next s i hi hs hn=>?_) (fun next s hs=>by omega) () (BI _);unfold lG;dsimp only;rw[A6 (by omega),AA,MU hone,A0,KR,FQ (by omega)];refine E4.2 ⟨fun hc=>?_,fun hc=>?_⟩
  ·rw[<-A9 hc];exact E3.2 rfl
  ·exact hn () (by have:=AG hc;omega)
 rw[IG key];rfl
def HD(ns:List E1)(os:List (List E1))(p:List Nat):List FR:=(List.range ns.length).filterMap fun j=>match p.getD j 0 with
 |0=>none
 |k+1=>some (ns.getD j [],(os.getD j []).getD k [])
theorem A7p{t:FI}{ns:List E1}{os:List (List E1)}{W:List (List Int)}{A:List (List (List Int))}{st:List Int}{rt:Int}(hF:Fy ns os)(p:List Nat)(left:List Int)(hl:left.length=ns.length)
 (hp:∀j<ns.length,left.getD j 0=((2 ^ p.getD j 0:Nat):Int)/\p.getD j 0<=cnt os j):
 RZ (some (t,ns,os,W,A,st,rt),left)=some (HD ns os p):=by
 have hfew:=hF.few;unfold RZ;dsimp only
 have key:Tot (lI (some (t,ns,os,W,A,st,rt),[],left,(left.length:Int),0)) (fun q=>q=HD ns os p):=by
  let f:Nat->Option FR:=fun j=>match p.getD j 0 with
   |0=>none
   |k+1=>some (ns.getD j [],(os.getD j []).getD k [])
  refine FY (σ:=List FR) left.length (fun s i=>(some (t,ns,os,W,A,st,rt),s,left,(left.length:Int),i)) (fun m s=>s=(List.range m).filterMap f) (by omega) (fun next s i hi hs hn=>?_) (fun next s hs=>?_) [] (by simp)
  ·unfold lH;dsimp only;obtain⟨h1,h2⟩:=hp i (by omega);have hcn:=JL hF i;have hlv:left[i]?=some (left.getD i 0):=by rw[A2,A1 hi];rfl
   have hsl:s.length<=i:=by rw[hs];exact AZ (List.length_filterMap_le _ _) (by rw[CW];exact AM _)
   rw[F9,A6 hi,AA,FH hlv,A0,h1,AR4 _ (by omega),A0,FQ (by omega)];have hr:List.range (i+1)=List.range i++[i]:=List.range_succ;refine E4.2 ⟨fun hc=>?_,fun hc=>?_⟩
   ·have hc:=A9 hc;obtain⟨k,hk⟩:∃k,p.getD i 0=k+1:=⟨p.getD i 0-1,by omega⟩;have hnm:ns[i]?=some (ns.getD i []):=by rw[A2,A1 (by omega)];rfl
    have hop:os[i]?=some (os.getD i []):=by rw[A2,A1 (by rw[hF.len];omega)];rfl
    have hov:(os.getD i [])[k]?=some ((os.getD i []).getD k []):=by
     rw[A2 (l:=os.getD i []),A1 (by unfold cnt at h2;omega)];rfl
    rw[A0];dsimp only;rw[FH hnm,A0,A0];dsimp only;rw[FH hop,A0,E_ (by omega) (by omega),show((p.getD i 0:Nat):Int)-1=(k:Int) by omega,FH hov,A0];refine E2.2 (G7.2 ⟨by simp only[AD,AJ];omega,?_⟩);refine hn _ ?_;rw[hr,List.filterMap_append,<-hs]
    have hfi:f i=some (ns.getD i [],(os.getD i []).getD k []):=by
     show(match p.getD i 0 with|0=>none|k+1=>some (ns.getD i [],(os.getD i []).getD k []))=_;rw[hk]
    rw[DI hfi];rfl
   ·have hc:=AG hc;have hk:p.getD i 0=0:=by omega
    refine hn _ ?_;rw[hr,List.filterMap_append,<-hs]
    have hfi:f i=none:=by
     show(match p.getD i 0 with|0=>none|k+1=>some (ns.getD i [],(os.getD i []).getD k []))=_;rw[hk]
    rw[DX hfi];simp
  ·unfold lH;dsimp only;rw[F9,AB (AH _),AC];refine E3.2 ?_;rw[hs,hl];rfl
 rw[IG key];rfl
section
variable(ns:List E1)(os:List (List E1))(W:List (List Int))(A:List (List (List Int)))(st:List Int)(rt:Int)
structure Val(p:List Nat):Prop where
 len:p.length=ns.length
 st:∀j<ns.length,bt (st.getD j 0) (p.getD j 0)=true
 al:∀j<ns.length,∀k<ns.length,k≠j->bt (al A k (p.getD k 0) j) (p.getD j 0)=true
 pn:PN ns os W rt (fun i a=>p.getD i 0=a)
open Classical in
noncomputable def GH:Nat->List Nat->List (List Nat)
 |0,pre=>if Val ns os W A st rt pre then [pre]else []
 |d+1,pre=>(List.range (cnt os pre.length+1)).flatMap fun a=>GH d (pre++[a])
structure Dp(pre:List Nat)(left:List Int):Prop where
 sh:ShS ns.length left
 bit:∀j<ns.length,∀b,bt (left.getD j 0) b=true<->bt (st.getD j 0) b=true/\(j<pre.length->b=pre.getD j 0)/\∀k<pre.length,k≠j->bt (al A k (pre.getD k 0) j) b=true
end
theorem OM{pre:List Nat}{a j:Nat}:(pre++[a]).getD j 0=if j=pre.length then a else pre.getD j 0:=by
 rw[A2,A2];by_cases h:j<pre.length
 ·rw[AW h,if_neg (by omega)]
 ·rw[AY (by omega)];by_cases h2:j=pre.length
  ·subst h2;rw[if_pos rfl,DQ];rfl
  ·rw[if_neg h2,B1 (by simp only[AD,AJ];omega),B1 (by omega)]
theorem uY{pre p:List Nat}(h:pre <+:p){j:Nat}(hj:j<pre.length):p.getD j 0=pre.getD j 0:=by
 obtain⟨r,rfl⟩:=h;rw[A2,AW hj,A2]
section
variable{t:FI}{ns:List E1}{os:List (List E1)}{W:List (List Int)}{A:List (List (List Int))}{st:List Int}{rt:Int}(hF:Fy ns os)(hG:Good t ns os W A st rt)
include hG
theorem XH{p:List Nat}(h:Val ns os W A st rt p){j:Nat}(hj:j<ns.length):p.getD j 0<=cnt os j:=((hG.st j hj _).1 (h.st j hj)).1
theorem uZ(p:List Nat):∀(d:Nat) (pre:List Nat),pre.length+d=ns.length->(p∈GH ns os W A st rt d pre<->Val ns os W A st rt p/\pre <+:p):=by
 intro d;induction d with
 |zero=>
  intro pre hl;unfold GH;constructor
  ·intro h;split at h
   ·rename_i hv;cases AQ.1 h;exact⟨hv,List.prefix_refl _⟩
   ·cases h
  ·rintro⟨hv,hp⟩;have:pre=p:=hp.eq_of_length (by rw[hv.len];omega);subst this;rw[if_pos hv];exact AQ.2 rfl
 |succ d ih=>
  intro pre hl;unfold GH;rw[List.mem_flatMap];constructor
  ·rintro⟨a,ha,h⟩;obtain⟨h1,h2⟩:=(ih (pre++[a]) (by rw[A7];simp only[AD,AJ];omega)).1 h;exact⟨h1,(List.prefix_append _ _).trans h2⟩
  ·rintro⟨hv,r,rfl⟩;have hr:r.length=d+1:=by have:=hv.len;rw[A7]at this;omega
   obtain⟨a,r,rfl⟩:∃a r',r=a::r':=by
    cases r with
    |nil=>cases hr
    |cons a r=>exact⟨a,r,rfl⟩
   have hle:=XH hG hv (j:=pre.length) (by omega)
   have e:(pre++a::r).getD pre.length 0=a:=by
    rw[A2,AY (AM _),DQ];rfl
   rw[e]at hle;refine⟨a,CP.2 (by omega),(ih (pre++[a]) (by rw[A7];simp only[AD,AJ];omega)).2 ⟨hv,r,by rw[C5];rfl⟩⟩
theorem gQ{d:Nat}{pre:List Nat}(hl:pre.length+d=ns.length)(h:∀p,Val ns os W A st rt p->¬pre <+:p):GH ns os W A st rt d pre=[]:=by
 apply DM.2;intro p hp;obtain⟨h1,h2⟩:=(uZ hG p d pre hl).1 hp;exact h p h1 h2
theorem u_{pre p:List Nat}{left:List Int}(hD:Dp ns A st pre left)(hv:Val ns os W A st rt p)(hp:pre <+:p)(hle:pre.length<=ns.length):∀j<ns.length,bt (left.getD j 0) (p.getD j 0)=true:=by
 intro j hj;rw[hD.bit j hj];refine⟨hv.st j hj,fun h=>uY hp h,fun k hk hkj=>?_⟩;rw[<-uY hp hk];exact hv.al j hj k (by omega) hkj
omit hG in
theorem XI{h h':Nat->Nat->Prop}(hh:∀i<ns.length,∀a,h i a->h' i a)(hp:PN ns os W rt h):PN ns os W rt h':=fun i hi=>(hp i hi).imp (hh i hi 0) fun r=>r.mono hh
include hF in
theorem A7q(d:Nat)(pre:List Nat)(left:List Int)(hl:pre.length+(d+1)=ns.length)(hD:Dp ns A st pre left)(a:Nat):
 (bt (left.getD pre.length 0) a=false->∀p,Val ns os W A st rt p->¬(pre++[a]) <+:p)/\
 (bt (left.getD pre.length 0) a=true->Tot (SJ (some (t,ns,os,W,A,st,rt),left,((pre.length:Nat):Int),(a:Int))) (fun q =>
  (q.2=false->∀p,Val ns os W A st rt p->¬(pre++[a]) <+:p)/\
  (q.2=true->Dp ns A st (pre++[a]) q.1/\(∀j<ns.length,∃b,bt (q.1.getD j 0) b=true)/\PN ns os W rt (fun j b=>bt (q.1.getD j 0) b=true)))):=by
 have hfew:=hF.few;have hi:pre.length<ns.length:=by omega
 have hcn:=JL hF pre.length
 have hpa:∀p,(pre++[a]) <+:p->pre <+:p/\p.getD pre.length 0=a:=fun p hp=>
  ⟨(List.prefix_append _ _).trans hp,by rw[uY hp (by rw[A7];simp only[AD,AJ];omega),OM,if_pos rfl]⟩
 refine⟨fun hc p hv hp=>?_,fun hc=>?_⟩
 ·obtain⟨h1,h2⟩:=hpa p hp;have:=u_ hG hD hv h1 (by omega) _ hi;rw[h2,hc]at this;cases this
 have hac:a<=cnt os pre.length:=((hG.st _ hi _).1 ((hD.bit _ hi _).1 hc).1).1;refine(AR3 hF hG left hD.sh pre.length a hi hac).mono fun q hq=>?_;obtain⟨hq1,hq2⟩:=hq
 have hDp:∀o,Tk ns.length A left pre.length a ns.length o<->Dp ns A st (pre++[a]) o:=by
  have hcb:=(hD.bit _ hi _).1 hc
  have bits:∀j<ns.length,∀b,(if j=pre.length then b=a else bt (left.getD j 0) b=true/\(j<ns.length->bt (al A pre.length a j) b=true))<->
   (bt (st.getD j 0) b=true/\(j<(pre++[a]).length->b=(pre++[a]).getD j 0)/\∀k<(pre++[a]).length,k≠j->bt (al A k ((pre++[a]).getD k 0) j) b=true):=by
   intro j hj b;have hlen:(pre++[a]).length=pre.length+1:=by rw[A7];rfl
   rw[hlen];split
   ·rename_i h;subst h;rw[OM,if_pos rfl];constructor
    ·rintro rfl;refine⟨hcb.1,fun _=>rfl,fun k hk hkj=>?_⟩;rw[OM,if_neg hkj];exact hcb.2.2 k (by omega) hkj
    ·rintro⟨_,h,_⟩;exact h (by omega)
   ·rename_i h;rw[hD.bit j hj];constructor
    ·rintro⟨⟨h1,h2,h3⟩,h4⟩;refine⟨h1,fun hh=>?_,fun k hk hkj=>?_⟩
     ·rw[OM,if_neg h];exact h2 (by omega)
     ·rw[OM];split
      ·rename_i hk';subst hk';exact h4 hj
      ·exact h3 k (by omega) hkj
    ·rintro⟨h1,h2,h3⟩;refine⟨⟨h1,fun hh=>?_,fun k hk hkj=>?_⟩,fun _=>?_⟩
     ·have:=h2 (by omega);rwa[OM,if_neg h]at this
     ·have:=h3 k (by omega) hkj;rwa[OM,if_neg (by omega)]at this
     ·have:=h3 pre.length (by omega) (fun e=>h e.symm);rwa[OM,if_pos rfl]at this
  intro o;exact⟨fun h=>⟨h.sh,fun j hj b=>(h.bit j hj b).trans (bits j hj b)⟩,fun h=>⟨h.sh,fun j hj b=>(h.bit j hj b).trans (bits j hj b).symm⟩⟩
 refine⟨fun hq2b p hv hp=>?_,fun hq2b=>?_⟩
 ·have hex:∃o,Tk ns.length A left pre.length a ns.length o:=by
   refine⟨(List.range ns.length).map fun j=>if j=pre.length then((2 ^ a:Nat):Int)else IH u16 (left.getD j 0) (al A pre.length a j),⟨by rw[AL,CW],fun j=>?_⟩,fun j hj b=>?_⟩
   ·rcases CG j ns.length with hj|hj
    ·rw[A2,AK,C1 hj];show G4 (if j=pre.length then _ else _);split
     ·exact(IU (by omega)).2
     ·exact(T0 (hD.sh.in16 j) (hG.shA.in16 _ _ _)).1
    ·rw[QI (by rw[AL,CW];exact hj)];exact OJ
   ·rw[A2,AK,C1 hj];show bt (if j=pre.length then _ else _) b=true<->_;split
    ·rw[KR,AV];exact eq_comm
    ·rw[(T0 (hD.sh.in16 j) (hG.shA.in16 _ _ _)).2,A5];exact⟨fun⟨x,y⟩=>⟨x,fun _=>y⟩,fun⟨x,y⟩=>⟨x,y hj⟩⟩
  obtain⟨o,ho⟩:=hex;have hval:=u_ hG ((hDp o).1 ho) hv hp (by rw[A7];simp only[AD,AJ];omega);exact hq2 hq2b o ho ⟨fun j hj=>⟨_,hval j hj⟩,XI (fun i hi a' h=>by rw[<-h];exact hval i hi) hv.pn⟩
 ·obtain⟨h1,h2,h3⟩:=hq1 hq2b;exact⟨(hDp _).1 h1,h2,h3⟩
include hF in
theorem AR5(d:Nat)(slf:Int×(List Int)×Unit×(Option T1)×Unit×Unit×(List (List FR))×(Option T1)×Int->Option (Bool×(List (List FR))))(M:Nat)(hM:M<=1000)(pre:List Nat)(left:List Int)(hl:pre.length+(d+1)=ns.length)(hD:Dp ns A st pre left)(q0:List (List FR))(hq0:q0.length<M)
 (ih:∀ a left' q,Dp ns A st (pre++[a]) left'->(∀ j<ns.length,∃ b,bt (left'.getD j 0) b=true)->PN ns os W rt (fun j b=>bt (left'.getD j 0) b=true)->q.length<M ->
  slf (((pre.length:Nat):Int)+1,left',(),some (t,ns,os,W,A,st,rt),(),(),q,some (t,ns,os,W,A,st,rt),(M:Int))=
   some (decide (q.length+(GH ns os W A st rt d (pre++[a])).length<M),q++((GH ns os W A st rt d (pre++[a])).map (HD ns os)).take (M-q.length))):
 Tot (qN slf (((pre.length:Nat):Int),left,some (t,ns,os,W,A,st,rt),(((W.getD pre.length []).length:Nat):Int),0,q0,some (t,ns,os,W,A,st,rt),(M:Int))) (fun r=>match r with
  | .inl y=>y.1=q0++(GH ns os W A st rt (d+1) pre).map (HD ns os)/\q0.length+(GH ns os W A st rt (d+1) pre).length<M
  | .inr y=>y.1=false/\y.2.1=q0++((GH ns os W A st rt (d+1) pre).map (HD ns os)).take (M-q0.length)/\M<=q0.length+(GH ns os W A st rt (d+1) pre).length):=by
 have hfew:=hF.few;have hi:pre.length<ns.length:=by omega
 have hrow:=hG.shW.row _ hi;have hcn:=JL hF pre.length;let L:Nat->List (List Nat):=fun m=>(List.range m).flatMap fun a=>GH ns os W A st rt d (pre++[a])
 have hLs:∀m,L (m+1)=L m++GH ns os W A st rt d (pre++[m]):=fun m=>by
  show(List.range (m+1)).flatMap _=_;rw[List.range_succ,List.flatMap_append];simp[L]
 have hLt:L (cnt os pre.length+1)=GH ns os W A st rt (d+1) pre:=rfl
 have hLp:∀m,m<=cnt os pre.length+1->∃R,GH ns os W A st rt (d+1) pre=L m++R:=by
  intro m hm;rw[<-hLt]
  have:∀k,∃R,L (m+k)=L m++R:=by
   intro k;induction k with
   |zero=>exact⟨[],by simp⟩
   |succ k ih=>
    obtain⟨R,hR⟩:=ih;refine⟨R++GH ns os W A st rt d (pre++[m+k]),?_⟩;rw[show m+(k+1)=(m+k)+1 by omega,hLs,hR,C5]
  obtain⟨R,hR⟩:=this (cnt os pre.length+1-m);rw[show m+(cnt os pre.length+1-m)=cnt os pre.length+1 by omega]at hR;exact⟨R,hR⟩
 refine FY (σ:=List (List FR)) (W.getD pre.length []).length (fun s a=>(((pre.length:Nat):Int),left,some (t,ns,os,W,A,st,rt),(((W.getD pre.length []).length:Nat):Int),a,s,some (t,ns,os,W,A,st,rt),(M:Int)))
  (fun m s=>s=q0++(L m).map (HD ns os)/\q0.length+(L m).length<M) (by omega) (fun next s a ha hs hn=>?_) (fun next s hs=>?_) q0 ⟨by simp[L],by simp[L];exact hq0⟩
 ·obtain⟨hs,hlt⟩:=hs;unfold qM;dsimp only;have hlv:left[pre.length]?=some (left.getD pre.length 0):=by rw[A2,A1 (by rw[hD.sh.len];exact hi)];rfl
  rw[F9,A6 ha,AA,FH hlv,A0,MU (hD.sh.in16 _),A0,FQ (by omega),FQ (by omega)]
  have hnone:(∀p,Val ns os W A st rt p->¬(pre++[a]) <+:p)->Tot (next (((pre.length:Nat):Int),left,some (t,ns,os,W,A,st,rt),(((W.getD pre.length []).length:Nat):Int),(a:Int)+1,s,some (t,ns,os,W,A,st,rt),(M:Int))) _:=fun h=>by
   have h0:=gQ hG (d:=d) (pre:=pre++[a]) (by rw[A7];simp only[AD,AJ];omega) h;refine hn s ⟨?_,?_⟩
   ·rw[hLs,h0,BZ];exact hs
   ·rw[hLs,h0,BZ];exact hlt
  obtain⟨k1,k2⟩:=A7q hF hG d pre left hl hD a;refine E4.2 ⟨fun hc=>hnone (k1 (by simpa using hc)),fun hc=>?_⟩
  ·have hc:bt (left.getD pre.length 0) a=true:=by simpa using hc
   obtain⟨q,hq,hq0,hq1⟩:=k2 hc;rw[hq,A0];cases hq2b:q.2 with
   |false=>
    simp only[AC,A0,CA];exact hnone (hq0 hq2b)
   |true=>
    obtain⟨h1,h2,h3⟩:=hq1 hq2b;have hsl:s.length=q0.length+(L a).length:=by rw[hs,A7,AL]
    simp only[AA,C7];rw[ih a q.1 s h1 h2 h3 (by omega),A0];dsimp only;refine E4.2 ⟨fun hb=>?_,fun hb=>?_⟩
    ·have hb:M<=s.length+(GH ns os W A st rt d (pre++[a])).length:=by
      have:decide (s.length+(GH ns os W A st rt d (pre++[a])).length<M)=false:=by simpa using hb
      have:=AG this;omega
     obtain⟨R,hR⟩:=hLp (a+1) (by omega);refine E3.2 ⟨rfl,?_,?_⟩
     ·dsimp only;rw[hR,hLs,hs];simp only[C4,C5,A7,AL]
      congr 1
      rw[List.take_append,List.take_append];simp only[AL];have e1:((L a).map (HD ns os)).take (M-q0.length)=(L a).map (HD ns os):=BU (by rw[AL];omega);rw[e1,show M-q0.length-(L a).length=M-(q0.length+(L a).length) by omega];rw[show M-(q0.length+(L a).length)-(GH ns os W A st rt d (pre++[a])).length=0 by omega,DE,BZ]
     ·rw[hR,hLs,A7,A7];omega
    ·have hb:s.length+(GH ns os W A st rt d (pre++[a])).length<M:=by
      have:decide (s.length+(GH ns os W A st rt d (pre++[a])).length<M)=true:=by simpa using hb
      exact A9 this
     refine hn _ ⟨?_,?_⟩
     ·rw[BU (by rw[AL];omega),hLs,hs,C4,C5]
     ·rw[hLs,A7];omega
 ·obtain⟨hs,hlt⟩:=hs;unfold qM;dsimp only;rw[F9,AB (AH _),AC];rw[hrow,hLt]at hs hlt;exact E3.2 ⟨hs,hlt⟩
end
theorem A7r(l:List Int)(v:Int)(hl:l.length<4611686018427387904):Tot (V_ (l,v)) (fun q=>q=true<->v∈l):=by
 unfold V_ qR;dsimp only
 have key:Tot (qQ (l,v,(l.length:Int),0)) (fun q=>match q with
  | .inl _=>v ∉ l
  | .inr y=>0<=y/\v∈l):=by
  refine FY (σ:=Unit) l.length (fun s i=>(l,v,(l.length:Int),i)) (fun m _=>v ∉ l.take m) (by omega) (fun next s i hi hs hn=>?_) (fun next s hs=>?_) () (by simp)
  ·unfold qP;dsimp only;rw[F9,A6 hi,AA,FH (A1 hi),A0,FQ (by omega),E5];refine E4.2 ⟨fun hc=>E3.2 ⟨by omega,by rw[A9 hc];exact BA hi⟩,fun hc=>hn () ?_⟩;rw[GR (A1 hi),AR,AQ];exact fun h=>h.elim hs (AG hc)
  ·unfold qP;dsimp only;rw[F9,AB (AH _),AC];rw[B5]at hs;exact E3.2 hs
 refine E2.2 (E2.2 (key.mono fun q hq=>?_));rcases q with y|y
 ·exact E3.2 (E3.2 ⟨fun h=>by simp at h,fun h=>absurd h hq⟩)
 ·exact E3.2 (E3.2 ⟨fun _=>hq.2,fun _=>A6 hq.1⟩)
section
variable{t:FI}{ns:List E1}{os:List (List E1)}{W:List (List Int)}{A:List (List (List Int))}{st:List Int}{rt:Int}(hF:Fy ns os)(hG:Good t ns os W A st rt)
include hF hG
theorem AR6(M:Nat)(hM:M<=1000):∀(d k:Nat) (pre:List Nat) (left:List Int) (q0:List (List FR)),d<k->pre.length+d=ns.length->Dp ns A st pre left->(∀j<ns.length,∃b,bt (left.getD j 0) b=true)->
 PN ns os W rt (fun j b=>bt (left.getD j 0) b=true)->q0.length<M->
 OB k (((pre.length:Nat):Int),left,(),some (t,ns,os,W,A,st,rt),(),(),q0,some (t,ns,os,W,A,st,rt),(M:Int))=
  some (decide (q0.length+(GH ns os W A st rt d pre).length<M),q0++((GH ns os W A st rt d pre).map (HD ns os)).take (M-q0.length)):=by
 have hfew:=hF.few;intro d;induction d with
 |zero=>
  intro k pre left q0 hk hl hD hnz hpn hq;obtain⟨k,rfl⟩:∃k',k=k'+1:=⟨k-1,by omega⟩;show VZ (OB k) _=_;unfold VZ ZW;dsimp only
  have hone:∀j<ns.length,left.getD j 0=((2 ^ pre.getD j 0:Nat):Int)/\pre.getD j 0<=cnt os j/\bt (left.getD j 0) (pre.getD j 0)=true:=by
   intro j hj;obtain⟨b,hb⟩:=hnz j hj;have hbp:=((hD.bit j hj b).1 hb).2.1 (by omega);rw[<-hbp];have hbc:b<=cnt os j:=((hG.st j hj b).1 ((hD.bit j hj b).1 hb).1).1;refine⟨XA (hD.sh.in16 j) (IU (by have:=JL hF j;omega)).2 fun b'=>?_,hbc,hb⟩;rw[KR,Bool.eq_iff_iff,AV];constructor
   ·intro h;have:=((hD.bit j hj b').1 h).2.1 (by omega);rw[hbp,this]
   ·rintro rfl;exact hb
  have hv:Val ns os W A st rt pre:=by
   refine⟨by omega,fun j hj=>((hD.bit j hj _).1 (hone j hj).2.2).1,fun j hj k hk hkj=>((hD.bit j hj _).1 (hone j hj).2.2).2.2 k (by omega) hkj,XI (fun i hi a h=>?_) hpn⟩;exact(((hD.bit i hi a).1 h).2.1 (by omega)).symm
  have hs:GH ns os W A st rt 0 pre=[pre]:=by unfold GH;rw[if_pos hv]
  rw[hs];simp only[A0,BP,AC];rw[E5,A6 (by omega),AA];unfold lJ;dsimp only;rw[A7p hF pre left hD.sh.len (fun j hj=>⟨(hone j hj).1,(hone j hj).2.1⟩),A0]
  have happ:app? 24 q0 [HD ns os pre]=some (q0++[HD ns os pre]):=by
   unfold app?;rw[A6 (by simp only[AD,AJ];omega)];rfl
  rw[happ];simp only[A0,A7,AD,AJ,CZ,List.map_nil]
  congr 1
  refine Prod.ext ?_ ?_
  ·dsimp only;by_cases h:q0.length+1<M
   ·rw[A6 (by omega),A6 (by omega)]
   ·rw[AB (by omega),AB (by omega)]
  ·dsimp only;rw[BU (by simp only[AD,AJ];omega)]
 |succ d ih=>
  intro k pre left q0 hk hl hD hnz hpn hq;obtain⟨k,rfl⟩:∃k',k=k'+1:=⟨k-1,by omega⟩;show VZ (OB k) _=_;unfold VZ ZW;dsimp only;simp only[A0,BP,AC];rw[E5,AB (by omega),AC];have hWi:W[pre.length]?=some (W.getD pre.length []):=by rw[A2,A1 (by rw[hG.shW.len];omega)];rfl
  rw[FH hWi,A0]
  have:=AR5 hF hG d (OB k) M hM pre left hl hD q0 hq (fun a left' q h1 h2 h3 h4=>by
   have:=ih k (pre++[a]) left' q (by omega) (by rw[A7];simp only[AD,AJ];omega) h1 h2 h3 h4;rw[A7]at this;exact this)
  obtain⟨r,hr,hq⟩:=this;rw[hr,A0];rcases r with y|y
  ·obtain⟨h1,h2⟩:=hq;dsimp only;rw[h1,A6 h2,BU (by rw[AL];omega)]
  ·obtain⟨h1,h2,h3⟩:=hq;dsimp only;rw[h1,h2,AB (by omega)]
theorem AR7(M:Nat)(hM:M<=1000)(hM0:0<M):
 W0 (some (t,ns,os,W,A,st,rt),(),(),[],some (t,ns,os,W,A,st,rt),(M:Int))=some (((GH ns os W A st rt ns.length []).map (HD ns os)).take M):=by
 have hfew:=hF.few;have hD:Dp ns A st [] st:=⟨hG.shS,fun j hj b=>⟨fun h=>⟨h,fun h=>absurd h (Nat.not_lt_zero _),fun k h=>absurd h (Nat.not_lt_zero _)⟩,fun h=>h.1⟩⟩;have hlen:=hG.shS.len;unfold W0;dsimp only;rw[A0];dsimp only;obtain⟨b,hb,hb2⟩:=A7r st 0 (by omega);rw[hb,A0];have hzero:∀j,j<ns.length->st.getD j 0∈st:=fun j hj=>uV (by omega);have hsn:(∀p,¬Val ns os W A st rt p)->GH ns os W A st rt ns.length []=[]:=fun h=>gQ hG (by simp) fun p hv=>absurd hv (h p);cases b with
 |true=>
  simp only[BP,AC,A0,CA];have hm:=hb2.1 rfl;obtain⟨j,hj,hj2⟩:=DA hm;rw[hsn fun p hv=>?_];· simp
  have:=hv.st j (by omega);rw[A2,A1 hj]at this;have this:bt st[j] (p.getD j 0)=true:=this;rw[hj2,OI]at this;cases this
 |false=>
  have hnm:(0:Int) ∉ st:=fun h=>by have:=hb2.2 h;cases this
  have hnz:∀ j<ns.length,∃ b,bt (st.getD j 0) b=true:=fun j hj=>(gI (hG.shS.in16 j)).1 (by
   rw[E5];exact AB fun e=>hnm (by rw[<-e];exact hzero j hj))
  simp only[CV,AA,A0,C7];obtain⟨b,hp,hp2⟩:=uX hF hG st hG.shS;rw[hp,A0];cases b with
  |true=>
   rw[AA];have hv:=AR6 hF hG M hM ns.length 100 [] st [] (by omega) (by simp) hD hnz (hp2.1 rfl) (by simpa using hM0);have hv:qO (0,st,(),some (t,ns,os,W,A,st,rt),(),(),[],some (t,ns,os,W,A,st,rt),(M:Int))=_:=hv;rw[hv];simp
  |false=>
   rw[AC,hsn fun p hv=>?_];· simp
   have:=hp2.2 (XI (fun i hi a h=>by rw[<-h];exact hv.st i hi) hv.pn);cases this
end
section
variable{α:Type}{f:α->E1}
theorem AR8{l:List α}(h:l.Pairwise fun a b=>f a<f b){a b:α}(ha:a∈l)(hb:b∈l)(e:f a=f b):a=b:=by
 obtain⟨i,hi,rfl⟩:=DA ha;obtain⟨j,hj,rfl⟩:=DA hb;rcases Nat.lt_trichotomy i j with h1|h1|h1
 ·have:=CX.1 h i j hi hj h1;rw[e]at this;exact absurd this (JU _)
 ·subst h1;rfl
 ·have:=CX.1 h j i hj hi h1;rw[e]at this;exact absurd this (JU _)
theorem AR9{l:List α}(h:l.Pairwise fun a b=>f a<f b):l.Nodup:=h.imp fun {a b} hab e=>by subst e;exact JU _ hab
end
theorem gR{l:List FR}(h:l.Pairwise fun a b=>a.1<b.1)(nm v:E1):FE l nm=(v,true)<->(nm,v)∈l:=by
 rcases QE l nm with⟨e,hn⟩|⟨v',e,hm⟩
 ·rw[e];exact⟨fun h=>by simp at h,fun h=>absurd rfl (hn _ h)⟩
 ·rw[e];constructor
  ·intro h';have:v'=v:=congrArg Prod.fst h';subst this;exact hm
  ·intro h';have:=AR8 (f:=fun p:FR=>p.1) h hm h' rfl;rw[show v'=v from congrArg Prod.snd this]
theorem A7s{l:List GS}(h:l.Pairwise M8):(EU l).Pairwise fun a b=>a<b:=by
 induction l using gM with
 |nil=>exact List.Pairwise.nil
 |append_singleton l o ih=>
  rw[DT]at h;obtain⟨h1,_,h3⟩:=h;rw[QG];unfold M6;split
  ·exact ih h1
  ·rename_i hn;rw[DT];refine⟨ih h1,List.pairwise_singleton _ _,fun a ha b hb=>?_⟩;cases AQ.1 hb;obtain⟨x,hx,rfl⟩:=(XD _ _).1 ha;rcases h3 x hx o (by simp)with h|h
   ·exact h
   ·exact absurd (by rw[<-h.1];exact ha) hn
theorem vA{t:FI}{nm v:E1}:v∈J5 t nm<->∃o∈t.1,o.1=nm/\T4 t nm o=true/\o.2.1=v:=by
 unfold J5;simp only[B_,CJ,AV];constructor
 ·rintro⟨o,⟨⟨h1,h2⟩,h3⟩,h4⟩;exact⟨o,h1,h2,h3,h4⟩
 ·rintro⟨o,h1,h2,h3,h4⟩;exact⟨o,⟨⟨h1,h2⟩,h3⟩,h4⟩
theorem ARA{t:FI}{nm v:E1}{nd:GA}(h:nd∈HP t (nm,v)):∃o∈t.1,o.1=nm/\nd∈o.2.2.1:=by
 unfold HP at h;split at h
 ·rename_i o ho;have h1:=List.find?_some ho;have h2:=DH ho;rw[A5,AV]at h1;exact⟨o,h2,h1.1,(CJ.1 h).1⟩
 ·cases h
section
variable{t:FI}(ht:TkB t)(hR:RegOk t.1)
include ht hR
theorem gS:Fy (EU t.1) (FK t):=by
 have hopt:∀o∈FK t,∃s∈EU t.1,M7 t s=o:=fun o ho=>B_.1 ho;refine⟨⟨by unfold FK;rw[AL],hR.few,fun o ho=>?_⟩,A7f _,fun o ho v hv=>?_⟩
 ·obtain⟨s,_,rfl⟩:=hopt o ho;unfold M7 J5;rw[DJ,AL];exact AZ (BN _ _) (hR.few8 s)
 ·obtain⟨s,_,rfl⟩:=hopt o ho;have hv:v∈J5 t s:=List.mem_reverse.1 hv;obtain⟨o,ho,_,_,rfl⟩:=vA.1 hv;exact(ht.offer o ho).2.1
theorem A7t:∀i a nd,nd∈IW t (EU t.1) (FK t) i a->K8 nd/\(EU t.1)[i]?≠some nd.1:=by
 intro i a nd h;obtain⟨k,v,nm,rfl,h1,h2,h3⟩:=XG h;obtain⟨o,ho,e,hm⟩:=ARA h3;refine⟨(ht.offer o ho).2.2.2 nd hm,?_⟩;rw[h2];intro he;have he:=A4 he;exact(hR.ok o ho).other nd hm (by rw[e,he])
theorem ARB{j:Nat}{nm:E1}(h:(EU t.1)[j]?=some nm):(FK t).getD j []=M7 t nm:=by
 unfold FK;rw[A2,AK,h];rfl
end
theorem gT{ns:List E1}{os:List (List E1)}{p:List Nat}{x:FR}:x∈HD ns os p<->∃j,j<ns.length/\∃k,p.getD j 0=k+1/\x=(ns.getD j [],(os.getD j []).getD k []):=by
 unfold HD;rw[List.mem_filterMap];constructor
 ·rintro⟨j,hj,h⟩;refine⟨j,CP.1 hj,?_⟩;split at h
  ·cases h
  ·rename_i k hk;exact⟨k,hk,(A4 h).symm⟩
 ·rintro⟨j,hj,k,hk,rfl⟩;refine⟨j,CP.2 hj,?_⟩;rw[hk]
theorem QJ{α:Type}{l:List α}{i:Nat}{x d:α}(h:l[i]?=some x):l.getD i d=x:=by
 rw[A2,h];rfl
theorem LD{α:Type}{l:List α}{i:Nat}{d:α}(h:i<l.length):l[i]?=some (l.getD i d):=by
 rw[A2,A1 h];rfl
theorem vB{ns:List E1}{os:List (List E1)}(h:ns.Pairwise fun a b=>a<b)(p:List Nat):(HD ns os p).Pairwise fun a b=>a.1<b.1:=by
 unfold HD;rw[List.pairwise_filterMap];refine(List.pairwise_lt_range (n:=ns.length)).imp_of_mem fun {i j} hi hj hij b hb b' hb'=>?_;have hi:=CP.1 hi;have hj:=CP.1 hj;split at hb
 ·cases hb
 split at hb'
 ·cases hb'
 cases hb;cases hb';dsimp only;have:=CX.1 h i j hi hj hij;rw[QJ (A1 hi),QJ (A1 hj)];exact this
structure Of(ns:List E1)(os:List (List E1))(p:List Nat)(l:List FR):Prop where
 pin:∀j nm,ns[j]?=some nm->(p.getD j 0=0/\FE l nm=([],false))\/∃k v,p.getD j 0=k+1/\(os.getD j [])[k]?=some v/\FE l nm=(v,true)
 inn:∀nm,(FE l nm).2=true->nm∈ns
theorem A7u{ns:List E1}{os:List (List E1)}(h:ns.Pairwise fun a b=>a<b){p:List Nat}(hp:∀j<ns.length,p.getD j 0<=cnt os j):Of ns os p (HD ns os p):=by
 have hasc:=vB (os:=os) h p;have hnd:ns.Nodup:=AR9 (f:=fun s:E1=>s) h;refine⟨fun j nm hj=>?_,fun nm h=>?_⟩
 ·have hjl:=(AE.1 hj).1;cases hk:p.getD j 0 with
  |zero=>
   refine .inl ⟨rfl,?_⟩;rcases QE (HD ns os p) nm with⟨e,_⟩|⟨v,e,hm⟩
   ·exact e
   ·obtain⟨j',hj',k,hk',e'⟩:=gT.1 hm;have e1:nm=ns.getD j' []:=congrArg Prod.fst e';have:j'=j:=OL hnd (by rw[e1];exact LD hj') hj;subst this;rw[hk]at hk';cases hk'
  |succ k=>
   have hle:=hp j hjl;rw[hk]at hle;have hv:(os.getD j [])[k]?=some ((os.getD j []).getD k []):=LD (by unfold cnt at hle;omega);refine .inr ⟨k,_,rfl,hv,?_⟩;rw[gR hasc,gT];exact⟨j,hjl,k,hk,by rw[QJ hj]⟩
 ·rcases QE (HD ns os p) nm with⟨e,_⟩|⟨v,e,hm⟩
  ·rw[e]at h;cases h
  ·obtain⟨j,hj,k,_,e'⟩:=gT.1 hm;have e1:nm=ns.getD j []:=congrArg Prod.fst e';rw[e1];exact AP (LD hj)
section
variable{t:FI}(ht:TkB t)(hR:RegOk t.1){W:List (List Int)}{A:List (List (List Int))}{st:List Int}{rt:Int}(hG:Good t (EU t.1) (FK t) W A st rt)(hH:uW t (EU t.1)){p:List Nat}{l:List FR}(hO:Of (EU t.1) (FK t) p l)
include hO
theorem A7v(nd:GA){j:Nat}(hj:(EU t.1)[j]?=some nd.1):NU l nd↔J7 ((FK t).getD j []) nd.2.1 (p.getD j 0)=true:=by
 unfold NU;rcases hO.pin j _ hj with⟨h0,h1⟩|⟨k,v,h1,h2,h3⟩
 ·rw[h0,h1];exact⟨fun h=>absurd h.1 (by simp),fun h=>by cases h⟩
 ·rw[h1,h3,A7l h2];exact⟨fun h=>h.2,fun h=>⟨rfl,h⟩⟩
theorem A7w{nm v:E1}(h:FE l nm=(v,true)):∃j k,(EU t.1)[j]?=some nm/\p.getD j 0=k+1/\((FK t).getD j [])[k]?=some v/\IW t (EU t.1) (FK t) j (k+1)=HP t (nm,v):=by
 obtain⟨j,hj,he⟩:=DA (hO.inn nm (by rw[h]));have hjn:(EU t.1)[j]?=some nm:=by rw[A1 hj,he]
 rcases hO.pin j nm hjn with⟨_,h0⟩|⟨k,v',h1,h2,h3⟩
 ·rw[h]at h0;cases h0
 ·rw[h]at h3;cases h3;exact⟨j,k,hjn,h1,h2,A7n h2 hjn⟩
include ht hR hG hH
theorem ARC(hasc:l.Pairwise fun a b=>a.1<b.1)(hv:Val (EU t.1) (FK t) W A st rt p):Right t l:=by
 have hF:=gS ht hR;have hN:=A7t ht hR;have hlen:∀{j nm},(EU t.1)[j]?=some nm->j<(EU t.1).length:=fun h=>(AE.1 h).1;have hst:∀{j nm},(EU t.1)[j]?=some nm->_:=fun {j nm} h=>(hG.st j (hlen h) _).1 (hv.st j (hlen h))
 have hidx:∀{nm},nm∈EU t.1->∃j,(EU t.1)[j]?=some nm:=fun {nm} h=>by
  obtain⟨j,hj,he⟩:=DA h;exact⟨j,by rw[A1 hj,he]⟩
 refine⟨fun nd hnd=>?_,fun x hx=>?_,fun x hx=>?_,fun s hs=>?_⟩
 ·obtain⟨j,hj⟩:=hidx (hH.1 nd hnd);exact(A7v hO nd hj).2 ((hst hj).2.2.1 nd hnd hj)
 ·obtain⟨nm,v⟩:=x;obtain⟨j,k,hj,hk,hkv,hnd⟩:=A7w hO ((gR hasc nm v).2 hx);refine⟨?_,fun nd h=>?_⟩
  ·rw[ARB ht hR hj]at hkv;exact List.mem_reverse.1 (AP hkv)
  ·rw[<-hnd]at h;obtain⟨i,hi⟩:=hidx ((hst hj).2.1 nd (by rw[hk];exact h));rw[A7v hO nd hi];have hij:j≠i:=fun e=>(hN j _ nd h).2 (by rw[e];exact hi);have:=hv.al i (hlen hi) j (hlen hj) hij;rw[hk]at this;have hle:=XH hG hv (hlen hj);rw[hk]at hle;exact((hG.al j (hlen hj) (k+1) hle i (hlen hi) _).1 this).2.1 nd h hi
 ·obtain⟨nm,v⟩:=x
  have key:∀i,Reach (EU t.1).length (FK t) W rt (fun i a=>p.getD i 0=a) i->∀nm,(EU t.1)[i]?=some nm->(FE l nm).2=true->CR t l nm:=by
   intro i hr;induction hr with
   |root h=>
    intro nm hnm hp;refine .root ?_ hp;unfold QF;rw[AR,B_];rcases(hG.rt _).1 h with⟨nd,hnd,he⟩|⟨fz,hfz,he⟩
    ·rw[hnm]at he;exact .inr ⟨nd,hnd,(A4 he).symm⟩
    ·rw[hnm]at he;rw[A4 he];exact .inl hfz
   |step h1 h2 h3 h4 h5 ih=>
    rename_i i a j;intro nm hnm hp;obtain⟨nd,hnd,he⟩:=(hG.wa i h2 a h3 j).1 h5;obtain⟨k,v,nm',rfl,g1,g2,g3⟩:=XG hnd
    have hpi:(FE l nm').1=v/\(FE l nm').2=true:=by
     rcases hO.pin i nm' g2 with⟨z,_⟩|⟨k',v',z1,z2,z3⟩
     ·rw[h4]at z;cases z
     ·rw[h4]at z1;cases z1;rw[g1]at z2;cases z2;rw[z3];exact⟨rfl,rfl⟩
    have:=ih nm' g2 hpi.2;rw[hnm]at he;cases he;exact .step this (by rw[hpi.1];exact g3) hp
  obtain⟨j,k,hj,hk,hkv,hnd⟩:=A7w hO ((gR hasc nm v).2 hx);have hp2:(FE l nm).2=true:=by rw[(gR hasc nm v).2 hx]
  rcases hv.pn j (hlen hj)with h|h
  ·rw[hk]at h;cases h
  ·exact key j h nm hj hp2
 ·obtain⟨j,hj⟩:=hidx (hH.2 s hs);have h4:=(hst hj).2.2.2 s hs hj;unfold oF at h4;split at h4
  ·rename_i k hk;have hp1:p.getD j 0=k+1:=A9 h4;rcases NR (fun x=>decide ((FE t.2.2.2.1 s).1=x)) ((FK t).getD j [])with⟨e,_⟩|⟨i,x,e,e2,e3,_⟩
   ·rw[e]at hk;cases hk
   ·rw[e]at hk;have hk:i=k:=by have:=hk;injection this
    subst hk;have e3:(FE t.2.2.2.1 s).1=x:=A9 e3;rcases hO.pin j s hj with⟨z,_⟩|⟨k',v',z1,z2,z3⟩
    ·rw[hp1]at z;cases z
    ·rw[hp1]at z1;cases z1;rw[e2]at z2;cases z2;rw[z3,e3];exact⟨rfl,rfl⟩
  ·cases h4
end
theorem XJ:WB ()=some true:=by kernel_rfl
theorem ARD{t:FI}(ht:TkB t)(hc:MN t=some 0)(l:List FR)(hl:l.length<=1048576)(hb:∀p∈l,p.1.length<=1048576/\p.2.length<=1048576):
 Tot (eH (t,l)) (fun q=>(q.2=0<->LkOk l)/\(q.2=0->(q.1=[]<->Right t l))):=by
 unfold eH WC;dsimp only;rw[hc,A0,show(!(E6 (0:Int) 0))=false from rfl,AC];refine E2.2 (E2.2 ((uS l hl hb).mono fun e he=>E3.2 (E4.2 ⟨fun h=>E3.2 ?_,fun h=>?_⟩)))
 ·rw[E5]at h;have h:¬e=0:=by simpa using h
  exact⟨he,fun h0=>absurd h0 h⟩
 ·have h:e=0:=by rw[E5]at h;simpa using h
  have hk:=he.1 h;exact E2.2 ((AQW t ht l ⟨hk.few,hb⟩).mono fun q hq=>E3.2 ⟨⟨fun _=>hk,fun _=>rfl⟩,fun _=>hq⟩)
theorem A7x{t:FI}(ht:TkB t){l:List FR}(hk:LkOk l)(hr:Right t l):l.length<=1048576/\∀p∈l,p.1.length<=1048576/\p.2.length<=1048576:=by
 refine⟨by have:=hk.few;omega,fun p hp=>?_⟩;obtain⟨o,ho,e1,_,e2⟩:=vA.1 (hr.pins p hp).1;have:=ht.offer o ho;rw[<-e1,<-e2];exact⟨this.1,this.2.1⟩
abbrev wN(t:FI)(l:List GA):FI:=(t.1,(l,t.2.2))
def ARE(t:FI)(l:List GA):Prop:=∃k,LkOk k/\Right (wN t l) k
noncomputable instance decSolv(t:FI)(l:List GA):Decidable (ARE t l):=Classical.propDecidable _
section
variable{t:FI}(ht:TkB t)(hB:BB t.2.2.2.2.2.2)(hc:MN t=some 0)
include ht hB hc
end
abbrev Pu:=E1×E1×E1×E1×(List (E1×E1))×E1
theorem ARF(n:Int):-9223372036854775808<=i64.wrap n/\i64.wrap n<=9223372036854775807:=by
 unfold IntKind.wrap;simp[IntKind.signed,IntKind.bits];omega
def Bd(n:Int)(b:Int):Prop:=-b<=n/\n<=b
theorem ARG(x:E1×(List Int)×(List (List (Int×Int)))×Int)(h:0<=x.2.2.2/\x.2.2.2<=6/\x.2.2.1.length=6/\x.1.length=6):Tot (cW x) (fun r=>∀y,r=.inr y->y.1=0):=by
 refine F7 (R:=fun r:Sum (List Int) (Int×Int)=>∀y,r=.inr y->y.1=0) (fun y:E1×(List Int)×(List (List (Int×Int)))×Int=>0<=y.2.2.2/\y.2.2.2<=6/\y.2.2.1.length=6/\y.1.length=6)
  (fun y=>(6-y.2.2.2).toNat) ?_ _ _ h (by unfold fuel;have:=h.1;omega)
 rintro next ⟨v,w,t,i⟩ hI hn
 dsimp only at hI hn;obtain⟨i0,i1,i2,i3⟩:=hI;unfold nV;dsimp only;refine E4.2 ⟨fun hc=>?_,fun _=>E3.2 fun y e=>(by cases e)⟩;have hc:=A9 hc;refine E2.2 (F4.2 ⟨⟨i0,by omega⟩,fun _ _=>E2.2 (F4.2 ⟨⟨i0,by omega⟩,fun _ _=>E4.2 ⟨fun _=>E3.2 fun y e=>(by cases e;rfl),fun _=>?_⟩⟩)⟩);refine E2.2 (FJ.2 ⟨⟨i0,by omega⟩,?_⟩);rw[E_ (by omega) (by omega)];exact hn _ ⟨by dsimp only;omega,by dsimp only;omega,i2,i3⟩ (by dsimp only;omega)
theorem A7y(x:E1):Tot (PH x) (fun r=>Bd r.1 1000000000000):=by
 unfold PH;refine E2.2 ((A7S _ trivial).mono fun r1 h1=>E4.2 ⟨fun _=>E3.2 (by unfold Bd;decide),fun hc=>?_⟩)
 have hl : x.length = 6 := by rw [E5] at hc; have : (x.length : Int) = 6 := by simpa using hc;
                              omega
 refine E2.2 ((ARG _ ⟨B0 _,by dsimp only;omega,h1,hl⟩).mono fun q hq=>?_);rcases q with y|y
 ·dsimp only;refine E4.2 ⟨fun _=>E3.2 (by unfold Bd;decide),fun _=>E2.2 (fT.2 ⟨by decide,E3.2 ?_⟩)⟩;generalize hX:i64.wrap (i64.wrap _-1)=X;have hr:-9223372036854775808<=X/\X<=9223372036854775807:=by rw[<-hX];exact ARF _
  obtain⟨h1,h2⟩:=hr;clear hX
  have hq:-92233720369<=X.tdiv 100000000/\X.tdiv 100000000<=92233720369:=by
   rcases Int.le_total 0 X with h|h
   ·rw[Int.tdiv_eq_ediv_of_nonneg h];omega
   ·obtain⟨Y,rfl⟩:∃Y,X= -Y:=⟨-X,by omega⟩;rw[Int.neg_tdiv,Int.tdiv_eq_ediv_of_nonneg (by omega)];omega
  rw[E_ (by omega) (by omega)];unfold Bd N2;dsimp only;cases hb:decide (X.tdiv 100000000<100)with
  |true=>rw[AA];omega
  |false=>rw[AC];omega
 ·exact E3.2 (by have:=hq y rfl;unfold Bd;dsimp only;omega)
theorem ARH(aff:List Af)(hb:∀z∈aff,MS z)(hl:aff.length<=50):Tot (VU ([],aff,(aff.length:Int),0)) (fun r=>(∀o,r=.inl o->o.length=aff.length/\∀z∈o,∀s∈z.2,GQ s)/\∀y,r=.inr y->y.2≠0):=by
 refine F7 (R:=fun r:Sum (List Rg) (List Rg×Int)=>(∀o,r=.inl o->o.length=aff.length/\∀z∈o,∀s∈z.2,GQ s)/\∀y,r=.inr y->y.2≠0)
  (fun y:(List Rg)×(List Af)×Int×Int=>y.2.1=aff/\y.2.2.1=aff.length/\0<=y.2.2.2/\y.2.2.2<=aff.length/\(y.1.length:Int)=y.2.2.2/\∀z∈y.1,∀s∈z.2,GQ s)
  (fun y=>((aff.length:Int)-y.2.2.2).toNat) ?_ _ _ ⟨rfl,rfl,B0 _,BC _,rfl,fun z hz=>by simp at hz⟩ (by unfold fuel;dsimp only;omega)
 rintro next ⟨o,t,n,i⟩ hI hn
 dsimp only at hI hn;obtain⟨rfl,rfl,i0,i1,i2,i3⟩:=hI;unfold oO;dsimp only;refine E4.2 ⟨fun hc=>?_,fun hc=>E3.2 ⟨fun y e=>?_,fun y e=>(by cases e)⟩⟩
 ·have hc:=A9 hc;rw[E_ (n:=i+1) (by omega) (by omega)];refine E2.2 (F4.2 ⟨⟨i0,hc⟩,fun w hx=>E2.2 ((A7Q w (hb w (LC hx))).mono fun q hq=>E4.2 ⟨fun he=>E3.2 ⟨fun y e=>(by cases e),fun y e=>?_⟩,fun _=>?_⟩)⟩)
  ·cases e;rw[E5]at he;simpa using he
  ·refine E2.2 (G7.2 ⟨by simp only[AD,AJ];omega,hn _ ⟨rfl,rfl,by dsimp only;omega,by dsimp only;omega,by simp;omega,fun z hz=>?_⟩ (by dsimp only;omega)⟩);rcases AR.1 hz with h|h
   ·exact i3 z h
   ·cases AQ.1 h;exact hq.2
 ·cases e;have hc:=AG hc;exact⟨by omega,i3⟩
theorem ARI(a:IT)(h:LB a):Tot (PK a) (fun r=>r.2=0->r.1.length=a.2.2.2.2.2.2.length/\∀z∈r.1,∀s∈z.2,GQ s):=by
 unfold PK VT;dsimp only;have h8:∀{l:List Rg} {c:Int},c≠0->Tot (some (l,c)) (fun r:(List Rg)×Int=>r.2=0->r.1.length=a.2.2.2.2.2.2.length/\∀z∈r.1,∀s∈z.2,GQ s):=fun hc=>E3.2 fun e=>absurd e hc
 have rest:Tot (bif (decide ((50:Int)<(a.2.2.2.2.2.2.length:Int))) then some (([]:List Rg),(3:Int)) else (VU (([]:List Rg),a.2.2.2.2.2.2,(a.2.2.2.2.2.2.length:Int),(0:Int))).bind fun r12 =>
  match r12 with
  | .inl y13=>some (y13,(0:Int))
  | .inr y13'=>some (y13'.1,y13'.2)) (fun r:(List Rg)×Int=>r.2=0->r.1.length=a.2.2.2.2.2.2.length/\∀z∈r.1,∀s∈z.2,GQ s):=by
  refine E4.2 ⟨fun _=>h8 (by decide),fun hc=>E2.2 ((ARH _ h.2.2.2.2.2.2 (by have:=AG hc;omega)).mono fun q hq=>?_)⟩;rcases q with y|y
  ·exact E3.2 fun _=>hq.1 y rfl
  ·exact h8 (hq.2 y rfl)
 refine E2.2 ((fR _ h.1).mono fun r1 _=>E4.2 ⟨fun _=>h8 (by decide),fun _=>?_⟩);refine E2.2 ((A7R _ h.2.2.1).mono fun r2 _=>E4.2 ⟨fun he=>h8 (by rw[E5]at he;simpa using he),fun _=>?_⟩);refine E2.2 ((fR _ h.2.2.2.1).mono fun r3 _=>E4.2 ⟨fun _=>h8 (by decide),fun _=>E4.2 ⟨fun _=>h8 (by decide),fun _=>?_⟩⟩);refine E2.2 (E4.2 ⟨fun _=>E2.2 ((A7y _).mono fun r5 _=>E4.2 ⟨fun he=>E3.2 ?_,fun _=>E3.2 rest⟩),fun _=>E3.2 rest⟩);exact h8 (by rw[E5]at he;simpa using he)
def XK(p:Pu):Prop:=p.2.2.2.2.1.length<=1048576/\p.2.2.2.1.length<=1048576
theorem ARJ(a:IT)(p:Pu)(rs:List Rg)(key:E1)(hp:XK p)(ha:a.2.2.2.2.2.2.length<=1048576)(hr:rs.length=a.2.2.2.2.2.2.length)(hs:∀z∈rs,∀s∈z.2,GQ s):
 Tot (rF (a,p,rs,key,[],a.2.2.2.2.2.2,(a.2.2.2.2.2.2.length:Int),0)) (fun _=>True):=by
 refine F7 (R:=fun _:List Int=>True) (fun y:IT×Pu×(List Rg)×E1×(List Int)×(List Af)×Int×Int=>y.1=a/\y.2.1=p/\y.2.2.1=rs/\y.2.2.2.2.2.1=a.2.2.2.2.2.2/\y.2.2.2.2.2.2.1=a.2.2.2.2.2.2.length/\0<=y.2.2.2.2.2.2.2/\y.2.2.2.2.2.2.2<=a.2.2.2.2.2.2.length/\(y.2.2.2.2.1.length:Int)<=y.2.2.2.2.2.2.2)
  (fun y=>((a.2.2.2.2.2.2.length:Int)-y.2.2.2.2.2.2.2).toNat) ?_ _ _ ⟨rfl,rfl,rfl,rfl,rfl,B0 _,BC _,B0 _⟩ (by unfold fuel;dsimp only;omega)
 rintro next ⟨a',p',rs',key',o,af,n,i⟩ hI hn
 dsimp only at hI hn;obtain⟨rfl,rfl,rfl,rfl,rfl,i0,i1,i2⟩:=hI;unfold A1O;dsimp only;refine E4.2 ⟨fun hc=>?_,fun _=>E3.2 trivial⟩;have hc:=A9 hc;rw[E_ (n:=i+1) (by omega) (by omega)];refine E2.2 (F4.2 ⟨⟨i0,hc⟩,fun w hx=>?_⟩);refine E2.2 (Tot.mono (P:=fun z:Rg=>∀s∈z.2,GQ s) (E4.2 ⟨fun _=>F4.2 ⟨⟨i0,by omega⟩,fun z hz=>hs z (LC hz)⟩,fun _=>E3.2 fun s h=>by simp at h⟩) fun z hz=>?_);refine E2.2 (Tot.mono (P:=fun _=>True) (E4.2 ⟨fun _=>?_,fun _=>E3.2 trivial⟩) fun b _=>?_)
 ·unfold rE;dsimp only;refine E2.2 (Tot.mono (P:=fun _=>True) (E4.2 ⟨fun _=>(A7T _ _ hp.2).mono fun _ _=>trivial,fun _=>E3.2 trivial⟩) fun r _=>E4.2 ⟨fun _=>E3.2 trivial,fun _=>?_⟩);exact E2.2 ((uP z _ (fun s h=>⟨by have:=(hz s h).1;omega,by have:=(hz s h).2;omega⟩) hp.2).mono fun _ _=>E3.2 trivial)
 ·have hgo:∀o':List Int,(o'.length:Int)<=i+1->Tot (next (a',p',rs',key',o',a'.2.2.2.2.2.2,(a'.2.2.2.2.2.2.length:Int),i+1)) (fun _=>True):=fun o' ho=>hn _ ⟨rfl,rfl,rfl,rfl,rfl,by dsimp only;omega,by dsimp only;omega,ho⟩ (by dsimp only;omega);exact E4.2 ⟨fun _=>E2.2 (G7.2 ⟨by simp only[AD,AJ];omega,hgo _ (by simp;omega)⟩),fun _=>hgo _ (by omega)⟩
theorem ARK(a:IT)(p:Pu)(ha:LB a)(hp:XK p):Tot (eJ (a,p)) (fun _=>True):=by
 unfold eJ;dsimp only;refine E2.2 ((ARI a ha).mono fun r1 h1=>E4.2 ⟨fun _=>E3.2 trivial,fun he=>?_⟩);obtain⟨h2,h3⟩:=h1 (by rw[E5]at he;simpa using he);refine E2.2 ((t_ p hp.1).mono fun r2 _=>E4.2 ⟨fun _=>E3.2 trivial,fun _=>?_⟩);exact E2.2 ((ARJ a p r1.1 r2.1 hp ha.2.2.2.2.2.1 h2 h3).mono fun _ _=>E3.2 trivial)
theorem ARL(p:Pu)(v:E1)(hp:p.2.2.2.2.1.length<=1048576):Tot (eI (p,v)) (fun r=>r.2=0->XK r.1):=by
 unfold eI rD;dsimp only;refine E2.2 ((fU p hp).mono fun r1 _=>E4.2 ⟨fun he=>E3.2 fun e=>?_,fun _=>E2.2 ?_⟩)
 ·rw[E5]at he;rw[show r1=0 from e]at he;simp at he
 refine Tot.mono (P:=fun r:Pu×Int=>r.2=0->XK r.1) ?_ fun r hr=>E3.2 hr;refine E2.2 ((fU (p.1,(p.2.1,(p.2.2.1,(v,p.2.2.2.2)))) hp).mono fun r2 h2=>E4.2 ⟨fun he=>E3.2 fun e=>?_,fun he=>?_⟩)
 ·rw[E5]at he;rw[show r2=0 from e]at he;simp at he
 have h:=h2 (by rw[E5]at he;simpa using he);exact E2.2 ((tY _ h).mono fun r3 h3=>E3.2 fun _=>⟨by have:=h3.2.2.2.2.2.1;dsimp only;omega,by have:=h3.2.2.2.1;dsimp only;omega⟩)
theorem ARM(p:Pu)(hp:XK p)(l:List IT)(hl:l.length<=2000)(hb:∀a∈l,LB a):Tot (rG (p,0,l,(l.length:Int),0)) (fun n=>Bd n 2000000000000000):=by
 refine F7 (R:=fun n:Int=>Bd n 2000000000000000) (fun y:Pu×Int×(List IT)×Int×Int=>y.1=p/\y.2.2.1=l/\y.2.2.2.1=l.length/\0<=y.2.2.2.2/\y.2.2.2.2<=l.length/\Bd y.2.1 (1000000000000*y.2.2.2.2))
  (fun y=>((l.length:Int)-y.2.2.2.2).toNat) ?_ _ _ ⟨rfl,rfl,rfl,B0 _,BC _,by unfold Bd;dsimp only;omega⟩ (by unfold fuel;dsimp only;omega)
 rintro next ⟨p',n,l',k,i⟩ hI hn
 dsimp only at hI hn;obtain⟨rfl,rfl,rfl,i0,i1,i2⟩:=hI;unfold Bd at i2;unfold A1P;dsimp only;refine E4.2 ⟨fun hc=>?_,fun _=>E3.2 (by unfold Bd;omega)⟩;have hc:=A9 hc;rw[E_ (n:=i+1) (by omega) (by omega)];refine E2.2 (F4.2 ⟨⟨i0,hc⟩,fun w hx=>E2.2 ((ARK w p' (hb w (LC hx)) hp).mono fun r _=>?_)⟩)
 have hgo:∀d:Int,Bd d 1000000000000->Tot (next (p',i64.wrap (n+d),l',(l'.length:Int),i+1)) (fun n=>Bd n 2000000000000000):=fun d hd=>by
  unfold Bd at hd;rw[E_ (by omega) (by omega)];exact hn _ ⟨rfl,rfl,rfl,by dsimp only;omega,by dsimp only;omega,by unfold Bd;dsimp only;omega⟩ (by dsimp only;omega)
 refine E4.2 ⟨fun _=>hn _ ⟨rfl,rfl,rfl,by dsimp only;omega,by dsimp only;omega,by unfold Bd;dsimp only;omega⟩ (by dsimp only;omega),fun _=>E4.2 ⟨fun _=>E2.2 ((A7y _).mono fun r5 h5=>hgo _ h5),fun _=>hgo 100 (by unfold Bd;decide)⟩⟩
theorem ARN{s:E1}(hs:s.length<=1048576)(hk:(HQ s).2=true):∃p n,PC s=some (p,n,0)/\p.2.2.2.2.1.length<=1048576:=by
 obtain⟨⟨p,n,e⟩,h1,h2⟩:=uJ s hs;have h:=XB s hs;unfold MM at h;rw[h1,A0]at h;by_cases he:e=0
 ·subst he;exact⟨p,n,h1,h2 rfl⟩
 ·dsimp only at h;rw[E5,AB he]at h;have h:(0,false)=HQ s:=A4 h;rw[<-h]at hk;cases hk
theorem ARO(t:FI)(hB:BB t.2.2.2.2.2.2)(hl:t.2.2.2.2.2.2.2.1.length<=2000)(x:FR)(hx:x.1.length<=1048576)(hk:(HQ x.1).2=true):Tot (eK (t,x)) (fun n=>Bd n 2000000000000000):=by
 unfold eK;dsimp only;obtain⟨p,n,h1,h2⟩:=ARN hx hk;rw[h1,A0];refine E2.2 ((ARL p x.2 h2).mono fun r hr=>E4.2 ⟨fun _=>E3.2 (by unfold Bd;decide),fun he=>?_⟩);exact E2.2 ((ARM r.1 (hr (by rw[E5]at he;simpa using he)) _ hl hB).mono fun n hn=>E3.2 hn)
theorem ARP(x:Bool×Bool):Tot (SK x) (fun r=>Bd r 3):=by
 obtain⟨a,b⟩:=x;cases a<;>cases b<;>exact E3.2 (by unfold Bd;decide)
theorem A7z(l:List Int)(i:Int)(hi:0<=i):Tot (PO (l,i)) (fun _=>True):=by
 unfold PO;dsimp only;exact E4.2 ⟨fun hc=>E2.2 (F4.2 ⟨⟨hi,A9 hc⟩,fun _ _=>E3.2 trivial⟩),fun _=>E3.2 trivial⟩
theorem ARQ(l:Ql)(i:Int)(hi:0<=i):Tot (PP (l,i)) (fun _=>True):=by
 unfold PP;dsimp only;refine E2.2 (Tot.mono (P:=fun _=>True) (E4.2 ⟨fun hc=>F4.2 ⟨⟨hi,A9 hc⟩,fun _ _=>trivial⟩,fun _=>E3.2 trivial⟩) fun y _=>?_);refine E2.2 (Tot.mono (P:=fun _=>True) (E4.2 ⟨fun _=>f_ _ trivial,fun _=>E3.2 trivial⟩) fun b _=>?_);refine E4.2 ⟨fun hc=>?_,fun _=>E3.2 trivial⟩;rw[A5]at hc;exact E2.2 (F4.2 ⟨⟨hi,A9 hc.1⟩,fun _ _=>E3.2 trivial⟩)
theorem vC:Bd 0 3:=by unfold Bd;decide
theorem ARR(k:Int)(u w:E1)(hu:u.length<=1048576)(hw:w.length<=1048576):Tot (eL (k,u,w)) (fun r=>Bd r.1 3):=by
 unfold eL S9 Nj0 Nj1 Nj2 Nj3;dsimp only;obtain⟨⟨v,e⟩,h1,h2⟩:=MT (k,u) hu;obtain⟨⟨v',e'⟩,h1',h2'⟩:=MT (k,w) hw;rw[h1,h1'];refine E2.2 (E2.2 (E3.2 (E4.2 ⟨fun he=>E3.2 (E4.2 ⟨fun _=>E3.2 vC,fun h=>?_⟩),fun he=>E2.2 (E3.2 (E3.2 (E4.2 ⟨fun _=>E3.2 vC,fun h=>?_⟩)))⟩)))
 ·dsimp only at h he;rw[he]at h;cases h
 have he:e=0:=by rw[E5]at he;simpa using he
 have h:e'=0:=by rw[E5]at h;simpa using h
 have hv:=h2 he;have hv':=h2' h;refine E2.2 ((gF hv).mono fun x _=>E2.2 ((gF hv').mono fun y _=>E4.2 ⟨fun _=>E3.2 vC,fun _=>?_⟩));clear h1 h1' h2 h2';have hr:∀r:Rv,J3 (.inr (.inl r))->r.2.1.length<=1000:=fun r h=>h.2.1;dsimp only at hv hv'
 rcases v with d|r|s|q|n|z<;>rcases v' with d'|r'|s'|q'|n'|z'<;>dsimp only<;>
  repeat' first
   |exact absurd hv id
   |exact absurd hv' id
   |(with_reducible first|refine E4.2 ⟨fun _=>?_,fun _=>?_⟩|refine E3.2 ?_|refine E2.2 ((ARP _).mono fun _ hq=>E3.2 hq)|refine E2.2 ((uE _ ?_).mono fun _ _=>?_))
   |exact hr _ hv
   |exact hr _ hv'
   |exact BI 1000
   |(with_reducible first|refine E2.2 ((A7z _ _ (by decide)).mono fun _ _=>?_)|refine E2.2 ((ARQ _ _ (by decide)).mono fun _ _=>?_)|refine E2.2 (Tot.mono (P:=fun _=>True) (E4.2 ⟨fun _=>A7z _ _ (by decide),fun _=>E3.2 trivial⟩) fun _ _=>?_))
   |(unfold Bd;decide)
abbrev C3:=Int×Int×Int
def CB(c:C3)(n:Int):Prop:=Bd c.1 (2000000000000000*n)/\Bd c.2.1 n/\Bd c.2.2 (3*n)
noncomputable def H0(t:FI)(x:FR):C3:=(NI (t,x)).getD (0,0,0)
theorem A80(t:FI)(ht:TkB t)(hB:BB t.2.2.2.2.2.2)(hl:t.2.2.2.2.2.2.2.1.length<=2000)(x:FR)(hx:x.1.length<=1048576/\x.2.length<=1048576)(hk:x.2=[]\/(HQ x.1).2=true):
 NI (t,x)=some (H0 t x)/\CB (H0 t x) 1/\(x.2=[]->H0 t x=(0,(bif !(EM (FE t.2.2.2.1 x.1).1 [])then 1 else 0),0)):=by
 suffices h:Tot (NI (t,x)) (fun c=>CB c 1/\(x.2=[]->c=(0,(bif !(EM (FE t.2.2.2.1 x.1).1 [])then 1 else 0),0))) by
  obtain⟨c,h1,h2⟩:=h;have:H0 t x=c:=by unfold H0;rw[h1];rfl
  rw[this];exact⟨h1,h2⟩
 unfold NI;dsimp only;rw[NT _ _ (by have:=ht.old;omega),A0]
 have hold:(FE t.2.2.2.1 x.1).1.length<=1048576:=by
  rcases QE t.2.2.2.1 x.1 with⟨e,_⟩|⟨v,e,hm⟩
  ·rw[e];exact BI _
  ·rw[e];exact(ht.pin _ hm).2
 obtain⟨r2,hr2,hb2,hc2⟩:∃r2:C3,eM (((0:Int),((0:Int),(0:Int))),(!(EM (FE t.2.2.2.1 x.1).1 x.2)))=some r2/\(0<=r2.2.1/\r2.2.1<=1)/\r2=(0,(bif !(EM (FE t.2.2.2.1 x.1).1 x.2)then 1 else 0),0):=by
  unfold eM;cases (!(EM (FE t.2.2.2.1 x.1).1 x.2))with
  |true=>exact⟨_,rfl,by decide,rfl⟩
  |false=>exact⟨_,rfl,by decide,rfl⟩
 rw[hr2,A0];refine E4.2 ⟨fun he=>E3.2 ⟨?_,fun hn=>?_⟩,fun he=>?_⟩
 ·rw[hc2];cases (!(EM (FE t.2.2.2.1 x.1).1 x.2))<;>(unfold CB Bd;decide)
 ·rw[hc2,hn]
 ·have hne:x.2≠[]:=by rw[E9]at he;simpa using he
  have hk:(HQ x.1).2=true:=hk.resolve_left hne;refine E2.2 ((ARO t hB hl x hx.1 hk).mono fun r3 h3=>E4.2 ⟨fun _=>?_,fun _=>E3.2 ⟨?_,fun hn=>absurd hn hne⟩⟩)
  ·rw[XB _ hx.1,A0];exact E2.2 ((ARR _ _ _ hold hx.2).mono fun r5 h5=>E3.2 ⟨⟨by unfold Bd at h3 ⊢;dsimp only;omega,by unfold Bd;dsimp only;omega,by unfold Bd at h5 ⊢;dsimp only;omega⟩,fun hn=>absurd hn hne⟩)
  ·rw[hc2];unfold Bd at h3;cases (!(EM (FE t.2.2.2.1 x.1).1 x.2))<;>exact⟨by unfold Bd;dsimp only;omega,(by unfold Bd;simp),(by unfold Bd;simp)⟩
def G9(a b:C3):C3:=(a.1+b.1,a.2.1+b.2.1,a.2.2+b.2.2)
def MW(a b:C3):Prop:=a.1<=b.1/\a.2.1<=b.2.1/\a.2.2<=b.2.2
def I3(a b:C3):Prop:=a.1<b.1\/a.1=b.1/\(a.2.1<b.2.1\/a.2.1=b.2.1/\a.2.2<b.2.2)
def sm(f:Nat->C3):Nat->C3
 |0=>(0,0,0)
 |m+1=>G9 (sm f m) (f m)
theorem A81{f:Nat->C3}:∀{m:Nat},(∀j<m,CB (f j) 1)->CB (sm f m) m
 |0,_=>by unfold CB Bd sm;simp
 |m+1,h=>by
  have h1:=A81 (m:=m) fun j hj=>h j (by omega);have h2:=h m (by omega);unfold CB Bd at h1 h2 ⊢;unfold sm G9;dsimp only;omega
theorem A82{f g:Nat->C3}:∀{m:Nat},(∀j<m,MW (f j) (g j))->MW (sm f m) (sm g m)
 |0,_=>⟨B0 _,B0 _,B0 _⟩
 |m+1,h=>by
  have h1:=A82 (m:=m) fun j hj=>h j (by omega);have h2:=h m (by omega);unfold MW at h1 h2 ⊢;unfold sm G9;dsimp only;omega
theorem vD{f g:Nat->C3}:∀{m:Nat},(∀j<m,f j=g j)->sm f m=sm g m
 |0,_=>rfl
 |m+1,h=>by
  unfold sm;rw[vD (m:=m) fun j hj=>h j (by omega),h m (by omega)]
theorem A83{a b:C3}{n:Int}(hn:n<=1000)(ha:CB a n)(hb:CB b 1):WF (a,b)=some (G9 a b):=by
 unfold CB Bd at ha hb;unfold WF G9;dsimp only;rw[E_ (by omega) (by omega),E_ (by omega) (by omega),E_ (by omega) (by omega)]
theorem or3(a b c:Int):PJ [a,b,c]=some (if a=0 then(if b=0 then c else b)else a):=by
 refine IG ?_;unfold PJ
 have key:Tot (dJ ((0:Int),[a,b,c],(3:Int),(0:Int))) (fun q=>match q with
  | .inl _=>a=0/\b=0/\c=0
  | .inr y=>y=if a=0 then(if b=0 then c else b)else a):=by
  refine FY (σ:=Unit) 3 (fun _ i=>((0:Int),[a,b,c],(3:Int),i)) (fun m _=>(0<m->a=0)/\(1<m->b=0)/\(2<m->c=0)) (by omega) (fun next s i hi hs hn=>?_) (fun next s hs=>?_) () (by simp)
  ·obtain⟨h1,h2,h3⟩:=hs;unfold dI;dsimp only;rw[A6 (by omega),AA,FQ (by omega)];have hi:i=0\/i=1\/i=2:=by omega
   rcases hi with rfl|rfl|rfl
   ·rw[FH (x:=a) rfl,A0,E5];refine E4.2 ⟨fun h=>E3.2 ?_,fun h=>hn () ?_⟩
    ·have h:a≠0:=by simpa using h
     dsimp only;rw[if_neg h]
    ·have h:a=0:=by simpa using h
     exact⟨fun _=>h,fun h=>by omega,fun h=>by omega⟩
   ·rw[FH (x:=b) rfl,A0,E5];refine E4.2 ⟨fun h=>E3.2 ?_,fun h=>hn () ?_⟩
    ·have h:b≠0:=by simpa using h
     dsimp only;rw[if_pos (h1 (by omega)),if_neg h]
    ·have h:b=0:=by simpa using h
     exact⟨fun _=>h1 (by omega),fun _=>h,fun h=>by omega⟩
   ·rw[FH (x:=c) rfl,A0,E5];refine E4.2 ⟨fun h=>E3.2 ?_,fun h=>hn () ?_⟩
    ·dsimp only;rw[if_pos (h1 (by omega)),if_pos (h2 (by omega))]
    ·have h:c=0:=by simpa using h
     exact⟨fun _=>h1 (by omega),fun _=>h2 (by omega),fun _=>h⟩
  ·obtain⟨h1,h2,h3⟩:=hs;unfold dI;dsimp only;rw[AB (by omega),AC];exact E3.2 ⟨h1 (by omega),h2 (by omega),h3 (by omega)⟩
 refine E2.2 (key.mono fun q hq=>?_);rcases q with y|y
 ·obtain⟨h1,h2,h3⟩:=hq;refine E3.2 ?_;rw[if_pos h1,if_pos h2,h3]
 ·exact E3.2 hq
theorem ARS(a b:C3):Tot (eO (a,b)) (fun r=>r<0<->I3 a b):=by
 unfold eO;dsimp only;rw[X8,A0,X8,A0,X8,A0,or3,A0];refine E3.2 ?_;unfold I3 X7;by_cases h1:a.1<b.1<;>by_cases h2:b.1<a.1<;>by_cases h3:a.2.1<b.2.1<;>by_cases h4:b.2.1<a.2.1<;>by_cases h5:a.2.2<b.2.2<;>by_cases h6:b.2.2<a.2.2<;>simp[h1,h2,h3,h4,h5,h6]<;>omega
theorem ART(a b:C3):Tot (eQ (a,b)) (fun r=>r=true<->I3 a b):=by
 unfold eQ;dsimp only;rw[E5,E5];unfold I3;by_cases h1:a.1=b.1<;>by_cases h2:a.2.1=b.2.1<;>simp[h1,h2,Tot]
def cc(cs:List (List C3))(j a:Nat):C3:=(cs.getD j []).getD a (0,0,0)
theorem ARU{L:Int}(hL:G4 L)(h:∃b,b<16/\bt L b=true):Tot (P8 L) (fun k=>∃a:Nat,k=a/\bt L a=true):=by
 unfold P8
 have key:Tot (ZX (L,(0:Int))) (fun q=>match q with
  | .inl _=>False
  | .inr y=>∃a:Nat,y=a/\bt L a=true):=by
  refine FY (σ:=Unit) 16 (fun s i=>(L,i)) (fun m _=>∀a<m,bt L a=false) (by omega) (fun next s i hi hs hn=>?_) (fun next s hs=>?_) () (fun a ha=>by omega)
  ·unfold lG;dsimp only;rw[A6 (by omega),AA,MU hL,A0,FQ (by omega)];refine E4.2 ⟨fun hc=>E3.2 ⟨i,rfl,hc⟩,fun hc=>hn () fun a ha=>?_⟩;by_cases h:a=i
   ·rw[h];exact hc
   ·exact hs a (by omega)
  ·obtain⟨b,hb,hb2⟩:=h;rw[hs b hb]at hb2;cases hb2
 refine E2.2 (key.mono fun q hq=>?_);rcases q with y|y
 ·exact hq.elim
 ·exact E3.2 hq
def ON(cs:List (List C3))(j:Nat)(L:Int)(c:C3):Prop:=
 (∀a,bt L a=true->MW c (cc cs j a))/\∃a1 a2 a3,bt L a1=true/\bt L a2=true/\bt L a3=true/\c=((cc cs j a1).1,(cc cs j a2).2.1,(cc cs j a3).2.2)
theorem ARV(a b:C3):eN (a,b)=some (min a.1 b.1,min a.2.1 b.2.1,min a.2.2 b.2.2):=by
 unfold eN N2;dsimp only
 have:∀x y:Int,(bif decide (y<x)then y else x)=min x y:=fun x y=>by
  by_cases h:y<x
  ·rw[A6 h,AA];omega
  ·rw[AB h,AC];omega
 rw[this,this,this]
theorem ARW(cs:List (List C3))(j:Nat)(L:Int)(hL:G4 L)(row:List C3)(hr:cs[j]?=some row)(hrl:row.length<=16)(hin:∀a,bt L a=true->a<row.length)(a0:Nat)(ha0:bt L a0=true):
 Tot (rM (L,cc cs j a0,row,(row.length:Int),0)) (fun c=>ON cs j L c):=by
 have hrow:cs.getD j []=row:=by rw[A2,hr];rfl
 refine FY (σ:=C3) row.length (fun s i=>(L,s,row,(row.length:Int),i)) (fun m c=>(∀a<m,bt L a=true->MW c (cc cs j a))/\∃a1 a2 a3,bt L a1=true/\bt L a2=true/\bt L a3=true/\c=((cc cs j a1).1,(cc cs j a2).2.1,(cc cs j a3).2.2))
  (by omega) (fun next c i hi hs hn=>?_) (fun next c hs=>?_) _ ⟨fun a ha=>by omega,a0,a0,a0,ha0,ha0,ha0,rfl⟩
 ·obtain⟨h1,h2⟩:=hs;unfold rL;dsimp only
  have hget:row[i]?=some (cc cs j i):=by
   unfold cc;rw[hrow,A2,A1 hi];rfl
  rw[F9,A6 hi,AA,FH hget,A0,MU hL,A0,FQ (by omega)];refine E4.2 ⟨fun hb=>?_,fun hb=>hn c ⟨fun a ha hba=>?_,h2⟩⟩
  ·rw[ARV,A0];refine hn _ ⟨fun a ha hba=>?_,?_⟩
   ·by_cases hai:a=i
    ·subst hai;unfold MW;dsimp only;omega
    ·have:=h1 a (by omega) hba;unfold MW at this ⊢;dsimp only;omega
   ·obtain⟨a1,a2,a3,g1,g2,g3,e⟩:=h2
    have pick:∀(x y:Int) (P:Int->Prop),P x->P y->P (min x y):=fun x y P hx hy=>by
     rcases Int.le_total x y with h|h
     ·rw[Int.min_eq_left h];exact hx
     ·rw[Int.min_eq_right h];exact hy
    obtain⟨b1,q1,e1⟩:=pick c.1 (cc cs j i).1 (fun z=>∃a,bt L a=true/\z=(cc cs j a).1) ⟨a1,g1,by rw[e]⟩ ⟨i,hb,rfl⟩;obtain⟨b2,q2,e2⟩:=pick c.2.1 (cc cs j i).2.1 (fun z=>∃a,bt L a=true/\z=(cc cs j a).2.1) ⟨a2,g2,by rw[e]⟩ ⟨i,hb,rfl⟩;obtain⟨b3,q3,e3⟩:=pick c.2.2 (cc cs j i).2.2 (fun z=>∃a,bt L a=true/\z=(cc cs j a).2.2) ⟨a3,g3,by rw[e]⟩ ⟨i,hb,rfl⟩;exact⟨b1,b2,b3,q1,q2,q3,by rw[e1,e2,e3]⟩
  ·by_cases hai:a=i
   ·subst hai;rw[hb]at hba;cases hba
   ·exact h1 a (by omega) hba
 ·unfold rL;dsimp only;rw[F9,AB (AH _),AC];exact E3.2 ⟨fun a ha=>hs.1 a (hin a ha) ha,hs.2⟩
structure Cst(n:Nat)(os:List (List E1))(cs:List (List C3)):Prop where
 len:cs.length=n
 row:∀j<n,(cs.getD j []).length=cnt os j+1
 bd:∀j a,CB (cc cs j a) 1
section
variable{ns:List E1}{os:List (List E1)}{cs:List (List C3)}(hF:Fy ns os)(hC:Cst ns.length os cs)
include hF hC
theorem ARX(left:List Int)(hl:ShS ns.length left)(hnz:∀j<ns.length,∃b,bt (left.getD j 0) b=true)(hle:∀j<ns.length,∀b,bt (left.getD j 0) b=true->b<=cnt os j):
 Tot (SL (left,some cs)) (fun c=>∃lo:Nat->C3,(∀j<ns.length,ON cs j (left.getD j 0) (lo j))/\c=sm lo ns.length):=by
 have hfew:=hF.few;have hlen:=hl.len;unfold SL;dsimp only
 have key:Tot (rO (some cs,((0:Int),((0:Int),(0:Int))),left,(left.length:Int),(0:Int))) (fun c=>∃lo:Nat->C3,(∀j<ns.length,ON cs j (left.getD j 0) (lo j))/\c=sm lo ns.length):=by
  refine FY (σ:=C3) left.length (fun s i=>(some cs,s,left,(left.length:Int),i)) (fun m c=>∃lo:Nat->C3,(∀j<m,ON cs j (left.getD j 0) (lo j))/\c=sm lo m) (by omega) (fun next c i hi hs hn=>?_) (fun next c hs=>?_) _ ⟨fun _=>(0,0,0),fun j hj=>by omega,rfl⟩
  ·obtain⟨lo,h1,rfl⟩:=hs;have hin:i<ns.length:=by omega
   unfold rN;dsimp only;have hlv:left[i]?=some (left.getD i 0):=by rw[A2,A1 hi];rfl
   have hcv:cs[i]?=some (cs.getD i []):=by rw[A2,A1 (by rw[hC.len];exact hin)];rfl
   have hcn:=JL hF i;have hrl:=hC.row i hin;obtain⟨b,hb⟩:=hnz i hin;have hbl:=hle i hin b hb;rw[F9,A6 hi,AA,FH hlv,A0,A0,FH hcv,A0,FQ (by omega)];refine E2.2 ((ARU (hl.in16 i) ⟨b,by omega,hb⟩).mono fun k hk=>?_);obtain⟨a,rfl,ha⟩:=hk;have hal:=hle i hin a ha;have hav:(cs.getD i [])[a]?=some (cc cs i a):=by unfold cc;rw[A2 (l:=cs.getD i []),A1 (by omega)];rfl
   rw[FH hav,A0,A0,FH hcv,A0];refine E2.2 ((ARW cs i (left.getD i 0) (hl.in16 i) (cs.getD i []) hcv (by omega) (fun a ha=>by have:=hle i hin a ha;omega) a ha).mono fun c hc=>?_)
   have hcb:∀j L c,ON cs j L c->CB c 1:=fun j L c hc=>by
    obtain⟨_,a1,a2,a3,_,_,_,e⟩:=hc;have g1:=hC.bd j a1;have g2:=hC.bd j a2;have g3:=hC.bd j a3;rw[e];exact⟨g1.1,g2.2.1,g3.2.2⟩
   rw[A83 (n:=(i:Int)) (by omega) (A81 fun j hj=>hcb _ _ _ (h1 j hj)) (hcb _ _ _ hc),A0];refine hn _ ⟨fun j=>if j=i then c else lo j,fun j hj=>?_,?_⟩
   ·dsimp only;split
    ·rename_i h;subst h;exact hc
    ·exact h1 j (by omega)
   ·show G9 (sm lo i) c=G9 (sm _ i) _;rw[<-vD (f:=lo) (g:=fun j=>if j=i then c else lo j) fun j hj=>by rw[if_neg (by omega)]];dsimp only;rw[if_pos rfl]
  ·unfold rN;dsimp only;rw[F9,AB (AH _),AC];rw[hlen]at hs;exact E3.2 hs
 exact E2.2 (key.mono fun c hc=>E3.2 hc)
def cP(cs:List (List C3))(n:Nat)(p:List Nat):C3:=sm (fun j=>cc cs j (p.getD j 0)) n
omit hF hC in
theorem ARY{lo:Nat->C3}{left:List Int}{n:Nat}(h:∀j<n,ON cs j (left.getD j 0) (lo j)){p:List Nat}(hp:∀j<n,bt (left.getD j 0) (p.getD j 0)=true):MW (sm lo n) (cP cs n p):=
 A82 fun j hj=>(h j hj).1 _ (hp j hj)
omit hF hC in
theorem ARZ{lo:Nat->C3}{left:List Int}{n:Nat}(h:∀j<n,ON cs j (left.getD j 0) (lo j)){p:List Nat}(hp:∀j<n,∀b,bt (left.getD j 0) b=true->b=p.getD j 0):sm lo n=cP cs n p:=
 vD fun j hj=>by
  obtain⟨_,a1,a2,a3,g1,g2,g3,e⟩:=h j hj;rw[e,hp j hj a1 g1,hp j hj a2 g2,hp j hj a3 g3]
end
theorem AR_(a:C3):¬I3 a a:=by unfold I3;omega
theorem ARa{x l c:C3}(h1:MW l x)(h2:¬I3 l c):¬I3 x c:=by unfold I3 MW at *;omega
theorem ARb{x c d:C3}(h1:¬I3 x c)(h2:I3 d c):¬I3 x d:=by unfold I3 at *;omega
section
variable{t:FI}{ns:List E1}{os:List (List E1)}{W:List (List Int)}{A:List (List (List Int))}{st:List Int}{rt:Int}{cs:List (List C3)}(hF:Fy ns os)(hG:Good t ns os W A st rt)(hC:Cst ns.length os cs)
def QK(ns:List E1)(os:List (List E1))(W:List (List Int))(A:List (List (List Int)))(st:List Int)(rt:Int)(cs:List (List C3))(L:List (List Nat))(b:Option (List Int))(c:C3):Prop:=
 (b=none/\L=[])\/∃p left,b=some left/\Val ns os W A st rt p/\left.length=ns.length/\(∀j<ns.length,left.getD j 0=((2 ^ p.getD j 0:Nat):Int))/\c=cP cs ns.length p/\∀q∈L,¬I3 (cP cs ns.length q) c
noncomputable abbrev bF(cs:List (List C3)):Option (List Int->Option C3):=some (fun x=>(SL (x,some cs)).bind fun r=>some r)
abbrev NV(t:FI)(ns:List E1)(os:List (List E1))(W:List (List Int))(A:List (List (List Int)))(st:List Int)(rt:Int):Option T1:=some (t,ns,os,W,A,st,rt)
include hF hG hC
theorem A84{L:List (List Nat)}{b:Option (List Int)}{c:C3}(hB:QK ns os W A st rt cs L b c)(pre:List Nat)(left:List Int)(hD:Dp ns A st pre left)(hnz:∀j<ns.length,∃b,bt (left.getD j 0) b=true):
 Tot (eP (left,b,bF cs,c)) (fun q=>q.2=(b,c)/\∃lo:Nat->C3,(∀j<ns.length,ON cs j (left.getD j 0) (lo j))/\SL (left,some cs)=some (sm lo ns.length)/\(q.1=true<->b=none\/I3 (sm lo ns.length) c)):=by
 have hle:∀j<ns.length,∀b,bt (left.getD j 0) b=true->b<=cnt os j:=fun j hj b hb=>((hG.st j hj b).1 ((hD.bit j hj b).1 hb).1).1;obtain⟨c1,h1,lo,h2,h3⟩:=ARX hF hC left hD.sh hnz hle;unfold eP;dsimp only;subst h3;cases b with
 |none=>
  simp only[Option.isNone_none,BP,AC,A0,Bool.true_or];exact E3.2 ⟨rfl,lo,h2,h1,by simp⟩
 |some b=>
  simp only[Option.isNone_some,CV,AA,C6,A0,h1];refine E2.2 ((ARS _ _).mono fun r hr=>E3.2 ⟨rfl,lo,h2,rfl,?_⟩);dsimp only;rw[AV,hr];simp
theorem ARc:∀(d k:Nat) (pre:List Nat) (left:List Int) (b:Option (List Int)) (c:C3) (L:List (List Nat)),d<k->pre.length+d=ns.length->Dp ns A st pre left->(∀j<ns.length,∃b,bt (left.getD j 0) b=true)->
 PN ns os W rt (fun j b=>bt (left.getD j 0) b=true)->QK ns os W A st rt cs L b c->
 Tot (OD k (((pre.length:Nat):Int),left,(),NV t ns os W A st rt,(),(),b,bF cs,c)) (fun q=>q.1=true/\QK ns os W A st rt cs (L++GH ns os W A st rt d pre) q.2.1 q.2.2):=by
 have hfew:=hF.few;intro d;induction d with
 |zero=>
  intro k pre left b c L hk hl hD hnz hpn hB;obtain⟨k,rfl⟩:∃k',k=k'+1:=⟨k-1,by omega⟩;show Tot (WG (OD k) _) _
  have hone:∀j<ns.length,(∀b,bt (left.getD j 0) b=true->b=pre.getD j 0)/\left.getD j 0=((2 ^ pre.getD j 0:Nat):Int)/\pre.getD j 0<=cnt os j/\bt (left.getD j 0) (pre.getD j 0)=true:=by
   intro j hj;have hu:∀b,bt (left.getD j 0) b=true->b=pre.getD j 0:=fun b hb=>((hD.bit j hj b).1 hb).2.1 (by omega);obtain⟨b,hb⟩:=hnz j hj;have hbp:=hu b hb;rw[<-hbp];have hbc:b<=cnt os j:=((hG.st j hj b).1 ((hD.bit j hj b).1 hb).1).1;refine⟨fun b' h=>by rw[hu b' h,hbp],XA (hD.sh.in16 j) (IU (by have:=JL hF j;omega)).2 fun b'=>?_,hbc,hb⟩;rw[KR,Bool.eq_iff_iff,AV];exact⟨fun h=>by rw[hu b' h,hbp],by rintro rfl;exact hb⟩
  have hv:Val ns os W A st rt pre:=by
   refine⟨by omega,fun j hj=>((hD.bit j hj _).1 (hone j hj).2.2.2).1,fun j hj k hk hkj=>((hD.bit j hj _).1 (hone j hj).2.2.2).2.2 k (by omega) hkj,XI (fun i hi a h=>?_) hpn⟩;exact(((hD.bit i hi a).1 h).2.1 (by omega)).symm
  have hs:GH ns os W A st rt 0 pre=[pre]:=by unfold GH;rw[if_pos hv]
  rw[hs];unfold WG;dsimp only;refine E2.2 ((A84 hF hG hC hB pre left hD hnz).mono fun q hq=>?_);obtain⟨q1,q2⟩:=q;obtain⟨rfl,lo,h1,h2,h3⟩:=hq;have hcp:sm lo ns.length=cP cs ns.length pre:=ARZ h1 fun j hj=>(hone j hj).1;rw[hcp]at h2 h3;dsimp only at h3 ⊢;refine E4.2 ⟨fun hc=>E3.2 ⟨rfl,?_⟩,fun hc=>?_⟩
  ·have hc:¬(b=none\/I3 (cP cs ns.length pre) c):=fun h=>by rw[h3.2 h]at hc;cases hc
   rcases hB with⟨hb,_⟩|⟨p,l,hb,g1,g2,g3,g4,g5⟩
   ·exact absurd (.inl hb) hc
   ·refine .inr ⟨p,l,hb,g1,g2,g3,g4,fun x hx=>?_⟩;rcases AR.1 hx with h|h
    ·exact g5 x h
    ·rw[AQ.1 h];exact fun h=>hc (.inr h)
  ·have hc:b=none\/I3 (cP cs ns.length pre) c:=h3.1 (by simpa using hc);rw[A0,E5,A6 (by dsimp only;omega),AA];unfold rP;dsimp only
   have happ:app? 24 ([]:List Int) left=some left:=by
    unfold app?;rw[A6 (by have:=hD.sh.len;simp only[AJ];omega)];rfl
   rw[happ,A0,A0];dsimp only;rw[h2,A0,A0,A0];refine E3.2 ⟨rfl,.inr ⟨pre,left,rfl,hv,hD.sh.len,fun j hj=>(hone j hj).2.1,rfl,fun x hx=>?_⟩⟩;rcases AR.1 hx with h|h
   ·rcases hB with⟨_,hL⟩|⟨p,l,hb,g1,g2,g3,g4,g5⟩
    ·rw[hL]at h;cases h
    ·rcases hc with hc|hc
     ·rw[hb]at hc;cases hc
     ·exact ARb (g5 x h) hc
   ·rw[AQ.1 h];exact AR_ _
 |succ d ih=>
  intro k pre left b c L hk hl hD hnz hpn hB;obtain⟨k,rfl⟩:∃k',k=k'+1:=⟨k-1,by omega⟩;show Tot (WG (OD k) _) _;have hi:pre.length<ns.length:=by omega
  have hrow:=hG.shW.row _ hi;have hcn:=JL hF pre.length;unfold WG;dsimp only;refine E2.2 ((A84 hF hG hC hB pre left hD hnz).mono fun q hq=>?_);obtain⟨q1,q2⟩:=q;obtain⟨rfl,lo,h1,h2,h3⟩:=hq;dsimp only at h3 ⊢;refine E4.2 ⟨fun hc=>E3.2 ⟨rfl,?_⟩,fun hc=>?_⟩
  ·have hc:¬(b=none\/I3 (sm lo ns.length) c):=fun h=>by rw[h3.2 h]at hc;cases hc
   rcases hB with⟨hb,_⟩|⟨p,l,hb,g1,g2,g3,g4,g5⟩
   ·exact absurd (.inl hb) hc
   ·refine .inr ⟨p,l,hb,g1,g2,g3,g4,fun x hx=>?_⟩;rcases AR.1 hx with h|h
    ·exact g5 x h
    ·obtain⟨hvx,hpx⟩:=(uZ hG x (d+1) pre hl).1 h;exact ARa (ARY h1 fun j hj=>u_ hG hD hvx hpx (by omega) j hj) fun h=>hc (.inr h)
  ·rw[A0,E5,AB (by dsimp only;omega),AC,A0];have hWi:W[pre.length]?=some (W.getD pre.length []):=by rw[A2,A1 (by rw[hG.shW.len];omega)];rfl
   rw[FH hWi,A0];let S:Nat→List (List Nat):=fun m=>(List.range m).flatMap fun a=>GH ns os W A st rt d (pre++[a])
   have hSs:∀m,S (m+1)=S m++GH ns os W A st rt d (pre++[m]):=fun m=>by
    show(List.range (m+1)).flatMap _=_;rw[List.range_succ,List.flatMap_append];simp[S]
   have hSt:S (cnt os pre.length+1)=GH ns os W A st rt (d+1) pre:=rfl
   have key:Tot (rV (OD k) (((pre.length:Nat):Int),left,NV t ns os W A st rt,(((W.getD pre.length []).length:Nat):Int),0,b,bF cs,c)) (fun r=>match r with
    | .inl y=>QK ns os W A st rt cs (L++GH ns os W A st rt (d+1) pre) y.1 y.2.2
    | .inr _=>False):=by
    refine FY (σ:=Option (List Int)×C3) (W.getD pre.length []).length (fun s a=>(((pre.length:Nat):Int),left,NV t ns os W A st rt,(((W.getD pre.length []).length:Nat):Int),a,s.1,bF cs,s.2))
     (fun m s=>QK ns os W A st rt cs (L++S m) s.1 s.2) (by omega) (fun next s a ha hs hn=>?_) (fun next s hs=>?_) (b,c) (by simpa[S]using hB)
    ·unfold rU;dsimp only;have hlv:left[pre.length]?=some (left.getD pre.length 0):=by rw[A2,A1 (by rw[hD.sh.len];exact hi)];rfl
     rw[F9,A6 ha,AA,FH hlv,A0,MU (hD.sh.in16 _),A0,FQ (by omega),FQ (by omega)]
     have hnone:(∀p,Val ns os W A st rt p->¬(pre++[a]) <+:p)->QK ns os W A st rt cs (L++S (a+1)) s.1 s.2:=fun h=>by
      have h0:=gQ hG (d:=d) (pre:=pre++[a]) (by rw[A7];simp only[AD,AJ];omega) h;rw[hSs,h0,BZ];exact hs
     obtain⟨k1,k2⟩:=A7q hF hG d pre left hl hD a;refine E4.2 ⟨fun hc=>hn s (hnone (k1 (by simpa using hc))),fun hc=>?_⟩;have hc:bt (left.getD pre.length 0) a=true:=by simpa using hc
     obtain⟨q,hq,hq0,hq1⟩:=k2 hc;rw[hq,A0];cases hq2b:q.2 with
     |false=>
      simp only[AC,A0,CA];exact hn s (hnone (hq0 hq2b))
     |true=>
      obtain⟨h1,h2,h3⟩:=hq1 hq2b;simp only[AA,C7];have hI:=ih k (pre++[a]) q.1 s.1 s.2 (L++S a) (by omega) (by rw[A7];simp only[AD,AJ];omega) h1 h2 h3 hs;rw[A7]at hI;refine E2.2 (hI.mono fun r hr=>?_);rw[hr.1];refine hn (r.2.1,r.2.2) ?_;rw[hSs,<-C5];exact hr.2
    ·unfold rU;dsimp only;rw[F9,AB (AH _),AC];rw[hrow,hSt]at hs;exact E3.2 hs
   refine E2.2 (key.mono fun r hr=>?_);rcases r with y|y
   ·exact E3.2 ⟨rfl,hr⟩
   ·exact hr.elim
theorem ARd:Tot (WH (NV t ns os W A st rt,(),(),(none:Option (List Int)),bF cs,((0:Int),((0:Int),(0:Int))))) (fun q=>QK ns os W A st rt cs (GH ns os W A st rt ns.length []) q.1 q.2):=by
 have hfew:=hF.few;have hD:Dp ns A st [] st:=⟨hG.shS,fun j hj b=>⟨fun h=>⟨h,fun h=>absurd h (Nat.not_lt_zero _),fun k h=>absurd h (Nat.not_lt_zero _)⟩,fun h=>h.1⟩⟩;have hlen:=hG.shS.len;unfold WH;dsimp only;rw[A0];dsimp only;obtain⟨b,hb,hb2⟩:=A7r st 0 (by omega);rw[hb,A0];have hzero:∀j,j<ns.length->st.getD j 0∈st:=fun j hj=>uV (by omega);have hsn:(∀p,¬Val ns os W A st rt p)->GH ns os W A st rt ns.length []=[]:=fun h=>gQ hG (by simp) fun p hv=>absurd hv (h p);cases b with
 |true=>
  simp only[BP,AC,A0,CA];have hm:=hb2.1 rfl;obtain⟨j,hj,hj2⟩:=DA hm;rw[hsn fun p hv=>?_]
  ·exact E3.2 (.inl ⟨rfl,rfl⟩)
  have:=hv.st j (by omega);rw[A2,A1 hj]at this;have this:bt st[j] (p.getD j 0)=true:=this;rw[hj2,OI]at this;cases this
 |false=>
  have hnm:(0:Int) ∉ st:=fun h=>by have:=hb2.2 h;cases this
  have hnz:∀ j<ns.length,∃ b,bt (st.getD j 0) b=true:=fun j hj=>(gI (hG.shS.in16 j)).1 (by
   rw[E5];exact AB fun e=>hnm (by rw[<-e];exact hzero j hj))
  simp only[CV,AA,A0,C7];obtain⟨b,hp,hp2⟩:=uX hF hG st hG.shS;rw[hp,A0];cases b with
  |true=>
   rw[AA];have hv:=ARc hF hG hC ns.length 100 [] st none (0,0,0) [] (by omega) (by simp) hD hnz (hp2.1 rfl) (.inl ⟨rfl,rfl⟩);exact E2.2 (hv.mono fun q hq=>E3.2 hq.2)
  |false=>
   rw[AC,hsn fun p hv=>?_]
   ·exact E3.2 (.inl ⟨rfl,rfl⟩)
   have:=hp2.2 (XI (fun i hi a h=>by rw[<-h];exact hv.st i hi) hv.pn);cases this
end
theorem ARe{k:Int}{w:E1}(h:Ok k w):w≠[]:=let ⟨_,h⟩:=h;AQ3 h
section
variable{t:FI}(ht:TkB t)(hB:BB t.2.2.2.2.2.2)(hl:t.2.2.2.2.2.2.2.1.length<=2000)(hR:RegOk t.1)
structure CsOk(t:FI)(cs:List (List C3)):Prop where
 cst:Cst (EU t.1).length (FK t) cs
 zero:∀j nm,(EU t.1)[j]?=some nm->cc cs j 0=H0 t (nm,[])
 pin:∀j nm,(EU t.1)[j]?=some nm->∀k v,((FK t).getD j [])[k]?=some v->cc cs j (k+1)=H0 t (nm,v)
include ht hR in
theorem gU{nm:E1}(h:nm∈EU t.1):nm.length<=1048576/\(HQ nm).2=true:=by
 obtain⟨o,ho,rfl⟩:=(XD _ _).1 h;have hb:=ht.offer o ho;exact⟨hb.1,(gO hb.1 hb.2.1 (hR.ok o ho).pin).1⟩
include ht hB hl in
theorem T7{x:FR}(h1:x.1.length<=1048576)(h2:x.2.length<=1048576)(hk:(HQ x.1).2=true):NI (t,x)=some (H0 t x)/\CB (H0 t x) 1:=
 let h:=A80 t ht hB hl x ⟨h1,h2⟩ (.inr hk)
 ⟨h.1,h.2.1⟩
include ht hB hl hR in
theorem ARf(W:List (List Int))(A:List (List (List Int)))(st:List Int)(rt:Int):Tot (WE (NV t (EU t.1) (FK t) W A st rt)) (CsOk t):=by
 have hF:=gS ht hR;have hfew:=hF.few;have hol:=hF.len;let row:Nat→List C3:=fun j=>H0 t ((EU t.1).getD j [],[])::((FK t).getD j []).map fun v=>H0 t ((EU t.1).getD j [],v)
 have key:Tot (rK (NV t (EU t.1) (FK t) W A st rt,[],EU t.1,((EU t.1).length:Int),0)) (fun q=>q=(List.range (EU t.1).length).map row):=by
  refine FY (σ:=List (List C3)) (EU t.1).length (fun s i=>(NV t (EU t.1) (FK t) W A st rt,s,EU t.1,((EU t.1).length:Int),i)) (fun m s=>s=(List.range m).map row) (by omega) (fun next s i hi hs hn=>?_) (fun next s hs=>?_) [] (by simp)
  ·unfold rJ;dsimp only;have hnm:=LD (d:=([]:E1)) hi;obtain⟨g1,g2⟩:=gU ht hR (AP hnm);have hop:(FK t)[i]?=some ((FK t).getD i []):=LD (by omega);have hvs:=hF.vers _ (AP hop);have hcn:=JL hF i;unfold cnt at hcn;rw[F9,A6 hi,AA,FH hnm,A0,A0];dsimp only;rw[(T7 ht hB hl (x:=((EU t.1).getD i [],[])) g1 (BI _) g2).1,A0,A0];dsimp only;rw[FH hop,A0,FQ (by omega)]
   have inner:Tot (rI (NV t (EU t.1) (FK t) W A st rt,(EU t.1).getD i [],[H0 t ((EU t.1).getD i [],[])],(FK t).getD i [],(((FK t).getD i []).length:Int),0)) (fun q=>q=row i):=by
    refine FY (σ:=List C3) ((FK t).getD i []).length (fun s k=>(NV t (EU t.1) (FK t) W A st rt,(EU t.1).getD i [],s,(FK t).getD i [],(((FK t).getD i []).length:Int),k)) (fun m s=>s=H0 t ((EU t.1).getD i [],[])::(((FK t).getD i []).take m).map fun v=>H0 t ((EU t.1).getD i [],v)) (by omega) (fun next s k hk hs hn=>?_) (fun next s hs=>?_) _ (by simp)
    ·unfold rH;dsimp only;have hv:=LD (d:=([]:E1)) hk;rw[F9,A6 hk,AA,FH hv,A0,A0];dsimp only;rw[(T7 ht hB hl (x:=((EU t.1).getD i [],((FK t).getD i []).getD k [])) g1 (hvs _ (AP hv)) g2).1,A0,FQ (by omega)];have hsl:s.length=k+1:=by rw[hs,AD,AL,B4];omega
     refine E2.2 (G7.2 ⟨by simp only[AD,AJ];omega,hn _ ?_⟩);rw[hs,GR hv,C4];rfl
    ·unfold rH;dsimp only;rw[F9,AB (AH _),AC];rw[B5]at hs;exact E3.2 hs
   rw[IG inner,A0];have hsl:s.length=i:=by rw[hs];simp
   refine E2.2 (G7.2 ⟨by simp only[AD,AJ];omega,hn _ ?_⟩);rw[hs,List.range_succ,C4];rfl
  ·unfold rJ;dsimp only;rw[F9,AB (AH _),AC];exact E3.2 hs
 unfold WE;refine E2.2 (E3.2 (E2.2 (key.mono fun q hq=>E3.2 ?_)));subst hq
 have hrow:∀j,j<(EU t.1).length->((List.range (EU t.1).length).map row).getD j []=row j:=fun j hj=>by
  rw[A2,AK,C1 hj];rfl
 have hout:∀j,¬j<(EU t.1).length->((List.range (EU t.1).length).map row).getD j []=[]:=fun j hj=>by
  rw[A2,B1 (by simp;omega)];rfl
 have hcb0:CB (0,0,0) 1:=by unfold CB Bd;decide
 refine⟨⟨by simp,fun j hj=>?_,fun j a=>?_⟩,fun j nm h=>?_,fun j nm h k v hv=>?_⟩
 ·rw[hrow j hj];simp[row,cnt]
 ·unfold cc;by_cases hj:j<(EU t.1).length
  ·rw[hrow j hj];have hnm:=LD (d:=([]:E1)) hj;obtain⟨g1,g2⟩:=gU ht hR (AP hnm);cases a with
   |zero=>exact(T7 ht hB hl (x:=((EU t.1).getD j [],[])) g1 (BI _) g2).2
   |succ k=>
    show CB ((((FK t).getD j []).map fun v=>H0 t ((EU t.1).getD j [],v)).getD k (0,0,0)) 1;rw[A2,AK];cases hv:((FK t).getD j [])[k]? with
    |none=>exact hcb0
    |some v=>exact(T7 ht hB hl (x:=((EU t.1).getD j [],v)) g1 (hF.vers _ (AP (LD (by omega))) v (AP hv)) g2).2
  ·rw[hout j hj];exact hcb0
 ·unfold cc;rw[hrow j (AE.1 h).1];show H0 t ((EU t.1).getD j [],[])=_;rw[QJ h]
 ·unfold cc;rw[hrow j (AE.1 h).1];show(((FK t).getD j []).map fun v=>H0 t ((EU t.1).getD j [],v)).getD k (0,0,0)=_;rw[A2,AK,hv,QJ h];rfl
def sl:List C3->C3
 |[]=>(0,0,0)
 |c::l=>G9 c (sl l)
theorem vE(a b c:C3):G9 (G9 a b) c=G9 a (G9 b c):=by unfold G9;simp only[Int.add_assoc]
theorem vF(a:C3):G9 a (0,0,0)=a:=by unfold G9;simp only[Int.add_zero]
theorem ARg(a:C3):G9 (0,0,0) a=a:=by unfold G9;simp only[Int.zero_add]
theorem A85(l m:List C3):sl (l++m)=G9 (sl l) (sl m):=by
 induction l with
 |nil=>rw[DL];exact(ARg _).symm
 |cons a l ih=>
  show G9 a (sl (l++m))=G9 (G9 a (sl l)) (sl m);rw[ih,vE]
theorem A86(f:Nat->C3):∀n,sm f n=sl ((List.range n).map f)
 |0=>rfl
 |n+1=>by
  rw[List.range_succ,C4,A85,<-A86 f n];show G9 (sm f n) (f n)=G9 (sm f n) (G9 (f n) (0,0,0));rw[vF]
theorem ARh{l:List C3}(h:∀c∈l,CB c 1):CB (sl l) l.length:=by
 induction l with
 |nil=>unfold CB Bd sl;simp
 |cons a l ih=>
  have h1:=h a (by simp);have h2:=ih fun c hc=>h c (by simp[hc]);unfold CB Bd at *;unfold sl G9;simp only[AD];omega
def MX(old l:List FR):Nat:=(old.filter fun x=>!(FE l x.1).2).length
include ht hB hl in
theorem ARi(l:List FR)(hb:∀x∈l,x.1.length<=1048576/\x.2.length<=1048576/\(HQ x.1).2=true)(hn:l.length<=12):
 MO (t,l)=some (G9 (sl (l.map (H0 t))) (0,(MX t.2.2.2.1 l:Int),0)):=by
 have hold:=ht.old
 have hcb:∀m,CB (sl ((l.take m).map (H0 t))) 12:=fun m=>by
  have:=ARh (l:=(l.take m).map (H0 t)) fun c hc=>by
   obtain⟨x,hx,rfl⟩:=B_.1 hc;obtain⟨h1,h2,h3⟩:=hb x (D7 hx);exact(T7 ht hB hl h1 h2 h3).2
  have hl2:((l.take m).map (H0 t)).length<=12:=by rw[AL,B4];omega
  unfold CB Bd at this ⊢;omega
 refine IG ?_;unfold MO;dsimp only
 have key0:Tot (rR (t,((0:Int),((0:Int),(0:Int))),l,(l.length:Int),(0:Int))) (fun q=>q=(t,sl (l.map (H0 t)))):=by
  refine FY (σ:=C3) l.length (fun s i=>(t,s,l,(l.length:Int),i)) (fun m s=>s=sl ((l.take m).map (H0 t))) (by omega) (fun next s i hi hs hn=>?_) (fun next s hs=>?_) _ rfl
  ·unfold rQ;dsimp only;have hx:l[i]?=some l[i]:=A1 hi;obtain⟨h1,h2,h3⟩:=hb _ (BA hi);obtain⟨g1,g2⟩:=T7 ht hB hl h1 h2 h3;rw[F9,A6 hi,AA,FH hx,A0,g1,A0,A83 (n:=12) (by omega) (by rw[hs];exact hcb i) g2,A0,FQ (by omega)];refine hn _ ?_;rw[hs,GR hx,C4,A85];show G9 _ (H0 t l[i])=G9 _ (G9 (H0 t l[i]) (0,0,0));rw[vF]
  ·unfold rQ;dsimp only;rw[F9,AB (AH _),AC];rw[B5]at hs;exact E3.2 (by rw[hs])
 rw[IG key0,A0];dsimp only;have hc:=hcb l.length;rw[B5]at hc
 have key1:Tot (rT (l,sl (l.map (H0 t)),t.2.2.2.1,(t.2.2.2.1.length:Int),(0:Int))) (fun q=>q=G9 (sl (l.map (H0 t))) (0,(MX t.2.2.2.1 l:Int),0)):=by
  refine FY (σ:=C3) t.2.2.2.1.length (fun s i=>(l,s,t.2.2.2.1,(t.2.2.2.1.length:Int),i)) (fun m s=>s=G9 (sl (l.map (H0 t))) (0,(MX (t.2.2.2.1.take m) l:Int),0)) (by omega) (fun next s i hi hs hn=>?_) (fun next s hs=>?_) _ (by
   show _=G9 _ (0,((([]:List FR).filter _).length:Int),0);exact(vF _).symm)
  ·unfold rS;dsimp only;have hx:t.2.2.2.1[i]?=some t.2.2.2.1[i]:=A1 hi;rw[F9,A6 hi,AA,FH hx,A0,NT _ _ (by omega),A0,FQ (by omega)];have hg:MX (t.2.2.2.1.take i) l<=i:=AZ (BN _ _) (by rw[B4];omega)
   have hstep:MX (t.2.2.2.1.take (i+1)) l=MX (t.2.2.2.1.take i) l+(bif !(FE l t.2.2.2.1[i].1).2 then 1 else 0):=by
    unfold MX;rw[GR hx,CY,A7];cases h:(!(FE l t.2.2.2.1[i].1).2)<;>simp[h]
   refine E4.2 ⟨fun h=>hn _ ?_,fun h=>hn _ ?_⟩
   ·rw[hstep,h,hs];unfold CB Bd at hc;unfold G9;dsimp only;rw[E_ (by omega) (by omega)];simp only[AA,Int.add_zero,D9,true_and,and_true];omega
   ·rw[hstep,h,hs];rfl
  ·unfold rS;dsimp only;rw[F9,AB (AH _),AC];rw[B5]at hs;exact E3.2 hs
 exact E2.2 (key1.mono fun q hq=>E3.2 hq)
theorem ARj{α:Type}(g:Nat->C3)(h:Nat->Option α)(pc:α->C3)(z:Nat->Bool)(r:List Nat)(hg:∀j∈r,(∃x,h j=some x/\g j=pc x/\z j=false)\/(h j=none/\g j=(0,(bif z j then 1 else 0),0))):
 sl (r.map g)=G9 (sl ((r.filterMap h).map pc)) (0,((r.filter z).length:Int),0):=by
 induction r with
 |nil=>rfl
 |cons j r ih=>
  have ih:=ih fun j hj=>hg j (by simp[hj]);rw[CZ];show G9 (g j) (sl (r.map g))=_;rw[ih];rcases hg j (by simp)with⟨x,h1,h2,h3⟩|⟨h1,h2⟩
  ·rw[DI h1,CZ,List.filter_cons,h3,h2];simp only[CH,CK];show _=G9 (G9 _ _) _;rw[vE]
  ·rw[DX h1,List.filter_cons,h2];unfold G9;cases z j<;>simp<;>omega
include ht hR in
theorem ARk{cs:List (List C3)}(hC:CsOk t cs)(hold:LkOk t.2.2.2.1){p:List Nat}(hp:∀j<(EU t.1).length,p.getD j 0<=cnt (FK t) j)(hB:BB t.2.2.2.2.2.2)(hl:t.2.2.2.2.2.2.2.1.length<=2000):
 MO (t,HD (EU t.1) (FK t) p)=some (G9 (cP cs (EU t.1).length p) (0,((t.2.2.2.1.filter fun x=>!(decide (x.1∈EU t.1))).length:Int),0)):=by
 have hF:=gS ht hR;have hfew:=hF.few;have hasc:=A7s hR.asc;have hO:=A7u (os:=FK t) hasc hp;have hlk:=vB (os:=FK t) hasc p;obtain⟨l,el⟩:∃l,l=HD (EU t.1) (FK t) p:=⟨_,rfl⟩;rw[<-el]at hO hlk ⊢
 have hlb:∀x∈l,x.1.length<=1048576/\x.2.length<=1048576/\(HQ x.1).2=true:=by
  intro x hx;rw[el]at hx;obtain⟨j,hj,k,hk,rfl⟩:=gT.1 hx;obtain⟨g1,g2⟩:=gU ht hR (AP (LD (d:=([]:E1)) hj));have:=hp j hj;unfold cnt at this;exact⟨g1,hF.vers _ (AP (LD (by rw[hF.len];exact hj))) _ (AP (LD (by omega))),g2⟩
 have hll:l.length<=12:=by
  rw[el];exact AZ (List.length_filterMap_le _ _) (by rw[CW];exact hfew)
 rw[ARi ht hB hl l hlb hll];let z':E1->Bool:=fun nm=>!(FE l nm).2 && !(EM (FE t.2.2.2.1 nm).1 [])
 have hcp:cP cs (EU t.1).length p=G9 (sl (l.map (H0 t))) (0,(((EU t.1).filter z').length:Int),0):=by
  unfold cP;rw[A86,ARj _ (fun j=>match p.getD j 0 with|0=>none|k+1=>some ((EU t.1).getD j [],((FK t).getD j []).getD k [])) (H0 t) (fun j=>z' ((EU t.1).getD j [])) _ fun j hj=>?_]
  ·have e1:(EU t.1).filter z'=((List.range (EU t.1).length).filter fun j=>z' ((EU t.1).getD j [])).map fun j=>(EU t.1).getD j []:=by
    have:EU t.1=(List.range (EU t.1).length).map fun j=>(EU t.1).getD j []:=by
     apply List.ext_getElem (by simp);intro j h1 h2;rw[List.getElem_map,List.getElem_range,QJ (A1 h1)]
    conv=>lhs;rw[this]
    rw[List.filter_map];rfl
   rw[e1,AL,el];rfl
  ·have hj:=CP.1 hj;have hnm:=LD (d:=([]:E1)) hj;obtain⟨g1,g2⟩:=gU ht hR (AP hnm);rcases hO.pin j _ hnm with⟨h0,h1⟩|⟨k,v,h1,h2,h3⟩
   ·refine .inr ⟨by rw[h0],?_⟩;rw[h0,hC.zero j _ hnm,(A80 t ht hB hl ((EU t.1).getD j [],[]) ⟨g1,BI _⟩ (.inl rfl)).2.2 rfl];dsimp only[z'];rw[h1];rfl
   ·refine .inl ⟨_,by rw[h1],?_,?_⟩
    ·rw[h1,hC.pin j _ hnm k v h2,QJ h2]
    ·dsimp only[z'];rw[h3];rfl
 rw[hcp,vE]
 congr 2
 unfold G9;dsimp only
 have hcount:MX t.2.2.2.1 l=((EU t.1).filter z').length+(t.2.2.2.1.filter fun x=>!(decide (x.1∈EU t.1))).length:=by
  have hsplit:∀old:List FR,MX old l=(old.filter fun x=>decide (x.1∈EU t.1) && !(FE l x.1).2).length+(old.filter fun x=>!(decide (x.1∈EU t.1))).length:=by
   intro old;unfold MX;induction old with
   |nil=>rfl
   |cons x old ih=>
    rw[List.filter_cons,List.filter_cons,List.filter_cons];by_cases hx:x.1∈EU t.1
    ·rw[A6 hx,C7];cases (FE l x.1).2<;>simp<;>omega
    ·have:(FE l x.1).2=false:=by
      cases h:(FE l x.1).2 with
      |false=>rfl
      |true=>exact absurd (hO.inn _ h) hx
     rw[AB hx,this];simp;omega
  rw[hsplit]
  congr 1
  have hne:∀s,(FE t.2.2.2.1 s).1≠[]<->∃x∈t.2.2.2.1,x.1=s:=fun s=>by
   rcases QE t.2.2.2.1 s with⟨e,hn⟩|⟨v,e,hm⟩
   ·rw[e];exact⟨fun h=>absurd rfl h,fun⟨x,hx,hs⟩=>absurd hs (hn x hx)⟩
   ·rw[e];have hb:=ht.pin _ hm;exact⟨fun _=>⟨_,hm,rfl⟩,fun _=>ARe (gO hb.1 hb.2 (hold.ok _ hm)).2.2⟩
  have hperm:((t.2.2.2.1.filter fun x=>decide (x.1∈EU t.1) && !(FE l x.1).2).map fun x=>x.1).Perm ((EU t.1).filter z'):=by
   refine(List.perm_ext_iff_of_nodup ?_ ((A7f _).sublist List.filter_sublist)).2 fun s=>?_
   ·unfold List.Nodup;rw[List.pairwise_map];exact(hold.asc.sublist List.filter_sublist).imp fun {a b} h e=>by rw[e]at h;exact JU _ h
   ·rw[B_,CJ];dsimp only[z'];rw[A5,E9];constructor
    ·rintro⟨x,hx,rfl⟩;obtain⟨h1,h2⟩:=CJ.1 hx;rw[A5,AV]at h2;exact⟨h2.1,h2.2,by rw[AB ((hne _).2 ⟨x,h1,rfl⟩)];rfl⟩
    ·rintro⟨h1,h2,h3⟩;obtain⟨x,hx,rfl⟩:=(hne s).1 fun e=>by rw[e]at h3;simp at h3
     exact⟨x,CJ.2 ⟨hx,by rw[A6 h1,h2];rfl⟩,rfl⟩
  rw[<-hperm.length_eq,AL]
 rw[hcount];simp
end
theorem ARl{a b k:C3}:I3 (G9 a k) (G9 b k)<->I3 a b:=by unfold I3 G9;dsimp only;omega
section
variable{t:FI}(ht:TkB t)(hB:BB t.2.2.2.2.2.2)(hk:TaskOk t)(hc:MN t=some 0)
include ht hk hB hc
theorem ARm:∃S:List (List FR),OC (t,0)=some []/\(∀M:Nat,0<M->M<=1000->OC (t,(M:Int))=some (S.take M))/\(∀l∈S,LkOk l/\Right t l)/\
 ((S=[]/\PQ t=some ([],(0,0,0),false,0))\/∃l c,PQ t=some (l,c,true,0)/\LkOk l/\Right t l/\MO (t,l)=some c/\∀y∈S,∃d,MO (t,y)=some d/\¬I3 d c):=by
 have hR:=hk.reg;have hl:t.2.2.2.2.2.2.2.1.length<=2000:=hk.base.2.1;have hF:=gS ht hR;obtain⟨q,hq,hq2⟩:=AQy t ht hF (A7t ht hR)
 have hdef:∀m:Int,OC (t,m)=bif ((!q.2)||(E6 m (0:Int)))then some ([]:List (List FR))else(W0 (q.1,(),(),[],q.1,m)).bind fun r2=>some r2:=by
  intro m;unfold OC;dsimp only;rw[hq,A0]
 have hbd:PQ t=bif (!q.2)then some (([]:List FR),((0:Int),((0:Int),(0:Int))),false,(0:Int))else(WE q.1).bind fun r3=>
  (WH (q.1,(),(),(none:Option (List Int)),bF r3,((0:Int),((0:Int),(0:Int))))).bind fun r5=>
  bif r5.1.isNone then some (([]:List FR),((0:Int),((0:Int),(0:Int))),false,(0:Int))else(RZ (q.1,(r5.1.getD []))).bind fun r6=>(MO (t,r6)).bind fun r7=>some (r6,r7,true,(0:Int)):=by
  unfold PQ;rw[hc,A0,show(!(E6 (0:Int) 0))=false from rfl,AC,hq,A0]
 have h0:OC (t,0)=some []:=by
  rw[hdef,show E6 (0:Int) 0=true from rfl,Bool.or_true,AA]
 rcases hq2 with⟨h1,h2⟩|⟨h1,h2,W,A,st,rt,h3,hG⟩
 ·refine⟨[],h0,fun M _ _=>?_,fun l h=>(by cases h),.inl ⟨rfl,?_⟩⟩
  ·rw[hdef,h1];simp
  ·rw[hbd,h1];rfl
 ·have hasc:=A7s hR.asc;have hsm:∀x,x∈GH (EU t.1) (FK t) W A st rt (EU t.1).length []->Val (EU t.1) (FK t) W A st rt x:=fun x hx=>((uZ hG x _ [] (by simp)).1 hx).1
  have hlk:∀x,Val (EU t.1) (FK t) W A st rt x->LkOk (HD (EU t.1) (FK t) x)/\Right t (HD (EU t.1) (FK t) x):=fun x hv=>by
   have ho:=A7u (os:=FK t) hasc fun j hj=>XH hG hv hj;have hla:=vB (os:=FK t) hasc x;have hr:=ARC ht hR hG h2 ho hla hv;refine⟨⟨?_,fun y hy=>?_,hla⟩,hr⟩
   ·unfold HD;exact AZ (List.length_filterMap_le _ _) (by rw[CW];exact hR.few)
   ·obtain⟨o,ho,e1,_,e2⟩:=vA.1 (hr.pins y hy).1;rw[<-e1,<-e2];exact(hR.ok o ho).pin
  obtain⟨cs,hcs,hCs⟩:=ARf ht hB hl hR W A st rt;have hcost:∀x,Val (EU t.1) (FK t) W A st rt x->_:=fun x hv=>ARk ht hR hCs hk.old (p:=x) (fun j hj=>XH hG hv hj) hB hl;refine⟨(GH (EU t.1) (FK t) W A st rt (EU t.1).length []).map (HD (EU t.1) (FK t)),h0,fun M hM hM2=>?_,fun l hl=>?_,?_⟩
  ·rw[hdef,h1,BP,C6,E5,AB (by omega),AC,h3,AR7 hF hG M hM2 hM,A0]
  ·obtain⟨x,hx,rfl⟩:=B_.1 hl;exact hlk x (hsm x hx)
  ·obtain⟨⟨b,c⟩,hb,hbest⟩:=ARd hF hG hCs.cst;rw[h3]at hbd;rw[h1,BP,AC,hcs,A0,hb,A0]at hbd;rcases hbest with⟨hbn,hS⟩|⟨p,left,hbs,hv,g2,g3,g4,g5⟩
   ·dsimp only at hbn;rw[hbn]at hbd;exact .inl ⟨by rw[hS];rfl,hbd⟩
   ·dsimp only at hbs g4 g5;rw[hbs]at hbd;simp only[Option.isNone_some,AC,DD]at hbd;rw[A7p hF p left g2 fun j hj=>⟨g3 j hj,XH hG hv hj⟩,A0,hcost p hv,A0]at hbd;obtain⟨k1,k2⟩:=hlk p hv;refine .inr ⟨_,_,hbd,k1,k2,hcost p hv,fun y hy=>?_⟩;obtain⟨x,hx,rfl⟩:=B_.1 hy;refine⟨_,hcost x (hsm x hx),?_⟩;rw[ARl,<-g4];exact g5 x hx
omit hB hk in
theorem A87{l:List FR}(hlk:LkOk l)(hr:Right t l):WI (t,l)=(MO (t,l)).bind fun r2=>some (r2,(0:Int)):=by
 obtain⟨k1,k2⟩:=A7x ht hlk hr;obtain⟨e,he,he2⟩:=uS l k1 k2;unfold WI WC;dsimp only;rw[hc,A0,show(!(E6 (0:Int) 0))=false from rfl,AC,he,A0,A0,he2.2 hlk,show(!(E6 (0:Int) 0))=false from rfl,AC]
end
theorem ARn(t:FI)(most:Int)(ht:TkB t)(hB:BB t.2.2.2.2.2.2):eS (t,most)=some true:=by
 obtain⟨e,hc,he⟩:=AQh t ht hB;have z0:(!(E6 (0:Int) 0))=false:=rfl;unfold eS;dsimp only;by_cases h0:e=0
 ·subst h0;have hk:=(he.1 rfl).2;obtain⟨S,hf0,hf,hS,hbest⟩:=ARm ht hB hk hc
  have hall:∃x e2,WA (t,most)=some (x,e2)/\(e2=0->x.length<=1000/\∀y∈x,y∈S):=by
   unfold WA;dsimp only;rw[hc,A0,z0,AC];cases hm:(decide (most<(0:Int))||decide ((1000:Int)<most))with
   |true=>exact⟨_,_,rfl,fun h=>absurd h (by decide)⟩
   |false=>
    rw[AC];obtain⟨m1,m2⟩:=BO.1 hm;have m1:=AG m1;have m2:=AG m2;obtain⟨M,rfl⟩:=Int.eq_ofNat_of_zero_le (show 0<=most by omega);rcases DN M with h|h
    ·subst h;rw[show((0:Nat):Int)=0 from rfl,hf0];exact⟨_,_,rfl,fun _=>⟨by simp,fun y hy=>by cases hy⟩⟩
    ·rw[hf M h (by omega)];exact⟨_,_,rfl,fun _=>⟨by rw[B4];omega,fun y hy=>D7 hy⟩⟩
  obtain⟨x,e2,hx,hx2⟩:=hall;rw[hx];rcases hbest with⟨hS0,hb⟩|⟨l,c,hb,g1,g2,g3,g4⟩
  ·rw[hb];simp only[A0,z0,C6];by_cases h2:e2=0
   ·have:x=[]:=DM.2 fun y hy=>by have:=(hx2 h2).2 y hy;rw[hS0]at this;cases this
    subst h2 this;simp[XJ,E6]
   ·rw[E5,AB h2,CV,AA,XJ];rfl
  ·rw[hb];simp only[A0,z0,C6];by_cases h2:e2=0
   ·subst h2;obtain⟨x1,x2⟩:=hx2 rfl;obtain⟨k1,k2⟩:=A7x ht g1 g2;obtain⟨w,hw,hw1,hw2⟩:=ARD ht hc l k1 k2;have w2:=hw1.2 g1;have w1:=(hw2 w2).2 g2;rw[z0,AC,BP,AC,hw,A0,A87 ht hc g1 g2,g3,A0,A0];dsimp only;have hself:∀n:Int,E6 n n=true:=fun n=>by rw[E5];exact A6 rfl
    rw[w2,w1,z0,hself,hself,hself]
    have key:eR (t,c,x,(x.length:Int),0)=some (.inl ()):=by
     refine IG ?_;refine FY (σ:=Unit) x.length (fun _ i=>(t,c,x,(x.length:Int),i)) (fun _ _=>True) (by omega) (fun next s i hi hs hn=>?_) (fun next s hs=>?_) () trivial
     ·unfold rW;dsimp only;have hy:=x2 _ (BA hi);obtain⟨y1,y2⟩:=hS _ hy;obtain⟨d,d1,d2⟩:=g4 _ hy;rw[F9,A6 hi,AA,FH (A1 hi),A0,A87 ht hc y1 y2,d1,A0,A0,FQ (by omega)];refine E2.2 ((ART d c).mono fun r hr=>E4.2 ⟨fun h=>absurd (hr.1 h) d2,fun _=>hn () trivial⟩)
     ·unfold rW;dsimp only;rw[F9,AB (AH _),AC];exact E3.2 rfl
    show(bif _ then _ else(eR (t,c,x,(x.length:Int),0)).bind _)=_;rw[key];simp[XJ]
   ·rw[E5,AB h2,CV,AA,XJ];rfl
 ·have h1:(!(E6 e (0:Int)))=true:=by rw[E5,AB h0];rfl
  unfold PQ WA;dsimp only;simp only[hc,A0,h1,Bool.true_or,AA,XJ]
end Go.Ev.Pv
