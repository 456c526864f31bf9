/-
  The law as plain Lean, second part: the solver's tables, what it goes through, what is wrong with a lock.
-/
import Derived.Test.YtloinlpkjpmnbaaGreatDoorD
import Derived.Test.YtloinlpkjpmnbaaGreatDoorA1
import Derived.KernelRfl
set_option linter.unusedVariables false
set_option linter.unusedSimpArgs false
set_option linter.unusedSectionVars false
set_option maxRecDepth 100000
open Go.IntKind hiding min max bits signed
namespace Go.Ev.Pv
theorem GY{α:Type}{m:Option α}{v:α}(h:Tot m λr=>r=v):m=some v:=let ⟨_,h1,h2⟩:=h;h2▸h1
theorem FH{X R σ:Type}{r:(X->Option R)->X->Option R}(n:Nat)(enc:σ->Int->X)(J:Nat->σ->Prop){Q:R->Prop}(q:n<4611686018427387904)
 (h:∀next s (i:Nat),i<n->J i s->(∀d,J (i+1) d->Tot (next (enc d ((i:Int)+1))) Q)->Tot (r next (enc s (i:Int))) Q)
 (a:∀next s,J n s->Tot (r next (enc s (n:Int))) Q)(e:σ)(j:J 0 e):Tot (E8 r fuel (enc e 0)) Q:=by
 have key:∀(m i k:Nat) s,i+m=n->m<k->J i s->Tot (E8 r k (enc s (i))) Q:=by
  intro m;induction m with
  |zero=>
   intro i k s l hk b;cases k with
   |zero=>omega
   |succ k=>
    rw[show i=n by omega]at b ⊢;exact a _ s b
  |succ m t=>
   intro i k s l hk b;cases k with
   |zero=>omega
   |succ k=>
    refine h _ s i oa b λd o=>?_;grind
 have:=key n 0 fuel e oa (by unfold fuel;omega) j;exact this
theorem FD{i:Nat}(h:i<4611686018427387904):i64.wrap ((i:Int)+1)=(i:Int)+1:=EQ oa oa
theorem F8{α:Type}{l:List α}{i:Nat}{x:α}(h:l[i]?=some x):at? l (i:Int)=some x:=by
 assumption
theorem I5{n i:Nat}(h:i<n):in? n (i:Int)=some ():=by
 grind[in?,decide_eq_true,Int.natCast_nonneg]
theorem EK(i n:Nat):decide ((i:Int)<(n:Int))=decide (i<n):=by
 simp
def GB(s:Int):Prop:=0<=s/\s<65536
def bt(s:Int)(i:Nat):Bool:=s.toNat.testBit i
theorem WA{n:Nat}(h:n<65536):GB (n:Int):=⟨oa,oa⟩
theorem WB{n:Nat}(h:n<65536):u16.wrap (n:Int)=n:=by
 grind[IntKind.wrap,IntKind.bits,IntKind.signed]
theorem QW{s:Int}(h:GB s):(BitVec.ofInt 16 s).toNat=s.toNat:=by
 obtain⟨a,b⟩:=h;grind
theorem ABl{s:Int}(h:GB s){i:Nat}(hi:16<=i):bt s i=false:=by
 apply Nat.testBit_lt_two_pow;have:2 ^ 16<=2 ^ i:=D9 oi hi;have a:=h.2;omega
theorem mK{a b:Int}(d:GB a)(e:GB b)(h:∀i,bt a i=bt b i):a=b:=by
 have:=Nat.eq_of_testBit_eq h;have:=d.1;have:=e.1;omega
theorem mL{a b:Int}(h:GB a)(d:GB b):GB (II u16 a b)/\∀i,bt (II u16 a b) i=(bt a i||bt b i):=by
 have e:II u16 a b=((a.toNat|||b.toNat)):=by
  unfold II;rw[show u16.bits=16 from rfl,BitVec.toNat_or,QW h,QW d];exact WB (Nat.or_lt_two_pow (n:=16) (by have:=h.2;omega) (by have:=d.2;omega))
 rw[e];refine⟨WA (Nat.or_lt_two_pow (n:=16) (by have:=h.2;omega) (by have:=d.2;omega)),λi=>?_⟩;simp[bt]
theorem WC{a b:Int}(d:GB a)(h:GB b):GB (JC u16 a b)/\∀i,bt (JC u16 a b) i=(bt a i&&bt b i):=by
 have e:JC u16 a b=((a.toNat &&& b.toNat)):=by
  unfold JC;rw[show u16.bits=16 from rfl,BitVec.toNat_and,QW d,QW h];exact WB (Nat.and_lt_two_pow (n:=16) _ (by have:=h.2;omega))
 rw[e];refine⟨WA (Nat.and_lt_two_pow (n:=16) _ (by have:=h.2;omega)),λi=>?_⟩;simp[bt]
theorem ABm{a b:Int}(j:GB a)(k:GB b):GB (OV u16 a b)/\∀i,bt (OV u16 a b) i=(bt a i && !bt b i):=by
 have h:=(BitVec.ofInt 16 a &&& ~~~BitVec.ofInt 16 b).isLt;have e:OV _ a b=((BitVec.ofInt 16 a &&& ~~~BitVec.ofInt 16 b).toNat):=WB h;rw[e];refine⟨WA h,λi=>?_⟩;unfold bt;rw[AK,<-BitVec.getLsbD,BitVec.getLsbD_and];by_cases d:i<16
 .rw[BitVec.getLsbD_not,A4 d];grind[BitVec.getLsbD,QW]
 grind[ABl,bt,BitVec.getLsbD,QW]
theorem JZ{i:Nat}(h:i<=15):shl? u16 (1:Int) (i:Int)=some ((2 ^ i:Nat):Int)/\GB ((2 ^ i:Nat):Int):=by
 have a:2 ^ i<65536:=Nat.lt_of_le_of_lt (D9 oi h) oi;refine⟨?_,WA a⟩;unfold shl?
 rw [show min _ _=i by
  show min _ 16=i;omega]
 show some _=_
 congr 1
 rw[Int.one_mul];grind[WB]
theorem MM(i j:Nat):bt ((2 ^ i:Nat):Int) j=decide (i=j):=by
 unfold bt;rw[AK,Nat.testBit_two_pow]
theorem A0Y{n:Nat}(h:n<=15):ZM (n:Int)=some ((2 ^ n-1:Nat):Int)/\GB ((2 ^ n-1:Nat):Int):=by
 have a:2 ^ n<65536:=Nat.lt_of_le_of_lt (D9 oi h) oi;grind[Nat.pow_pos,WA,ZM,JZ,WB]
theorem ABn(n j:Nat):bt ((2 ^ n-1:Nat):Int) j=decide (j<n):=by
 unfold bt;simp
theorem T4(j:Nat):bt 0 j=false:=by simp[bt]
theorem QX:GB 0:=⟨oi,oi⟩
theorem PE{s:Int}(h:GB s)(i:Nat):NI (s,(i:Int))=some (bt s i):=by
 obtain⟨r,t⟩:=h;unfold NI shr?;show some _=_
 congr 1
 have x:s=((s.toNat)):=oa
 have w:s.fdiv (2 ^ min (i:Int).toNat u16.bits)=((s.toNat / 2 ^ min i 16:Nat)):=by
  rw[show(min _ _)=min i 16 from by rfl];rw[DN _ oc];conv=>lhs;rw[x]
  simp
 rw[w];have d:s.toNat / 2 ^ min i 16<65536:=Nat.lt_of_le_of_lt (Nat.div_le_self _ _) oa;have l:=WC (WA d) (b:=1) ⟨oi,oi⟩
 have e:bt s i=(s.toNat / 2 ^ min i 16).testBit 0:=by
  rcases CU i 16 with b|b
  .grind[Nat.min_eq_left,Nat.testBit_div_two_pow,bt]
  .rw[ABl ⟨r,t⟩ b,Nat.min_eq_right b,Nat.div_eq_of_lt oa];rfl
 have o:∀j,bt (JC u16 ((s.toNat / 2 ^ min i 16:Nat)) 1) j=(bt s i&&decide (j=0)):=by
  intro j;rw[l.2 j]
  have:bt 1 j=decide (j=0):=by
   have:=MM 0 j;rw[show((1:Nat):Int)=1 from rfl]at this;rw[this];by_cases q:j=0<;>simp[eq_comm]
  rw[this];by_cases q:j=0
  .grind[bt,Int.toNat_natCast]
  .simp[q]
 rw[E0];cases a:bt s i with
 |true=>
  apply A4;refine mK l.1 ⟨oi,oi⟩ λj=>?_;rw[o,a];have:=MM 0 j;grind
 |false=>
  apply A7;intro v;have k:=o 0;rw[v,a]at k;revert k;decide
theorem A0Z{s:Int}(h:GB s):E1 s 0=false<->∃i,bt s i=true:=by
 rw[E0];constructor
 .intro b;apply C0;grind[mK,QX,T4,bt,absurd,of_decide_eq_false]
 .rintro⟨i,a⟩;apply A7;rintro rfl;grind[T4]
abbrev FZ:=DX×(Int×List ((Bool×Bool×DX)×(Bool×Bool×DX)))×Int
abbrev GZ:=DX×DX×List FZ×Bool
abbrev E_:=DX×DX
abbrev AWp:=Int×(List (DX×(List DX)×DX×Int×Bool×DX×(List (DX×Int×(List (Int×DX))×(List DX)×(List DX)))))×(List Int)
abbrev F7:=List GZ×List FZ×Int×List E_×List DX×Bool×AWp
abbrev mM:=F7×List DX×List (List DX)×List (List Int)×List (List (List Int))×List Int×Int
theorem ABo{α:Type}{p:α->Bool}{s:List α}{x:α}(h:p x=true):s++[x]=s++[x].filter p:=by simp[h]
theorem ABp{α:Type}{p:α->Bool}{s:List α}{x:α}(h:p x=false):s=s++[x].filter p:=by simp[h]
def HW{α:Type}(p:α->Bool)(l:List α):Int:=match l.findIdx? p with
 |some i=>i
 |none=>-1
theorem WD{α:Type}{p:α->Bool}{l:List α}{i:Nat}{x:α}(h:l[i]?=some x)(e:p x=true)(b:∀y∈l.take i,p y=false):HW p l=i:=by
 have:l.findIdx? p=some i:=by
  rw[List.findIdx?_eq_some_iff_getElem];obtain⟨a,k⟩:=A9.1 h;refine⟨a,oc,λj d=>?_⟩;have:=b l[j] (C2.2 ⟨j,oa,rfl⟩);simp[this]
 unfold HW;rw[this]
theorem bE{α:Type}{p:α->Bool}{l:List α}(h:∀y∈l,p y=false):HW p l= -1:=by
 grind[List.findIdx?_eq_none_iff,HW]
theorem LU{α:Type}(p:α->Bool)(l:List α):(HW p l= -1/\∀y∈l,p y=false)\/∃(i:Nat) (x:α),HW p l=i/\l[i]?=some x/\p x=true/\∀(j:Nat) (y:α),j<i->l[j]?=some y->p y=false:=by
 cases h:l.findIdx? p with
 |none=>
  grind[List.findIdx?_eq_none_iff,HW]
 |some i=>
  right;rw[List.findIdx?_eq_some_iff_getElem]at h;obtain⟨a,b,k⟩:=h;refine⟨i,l[i],?_,A1 a,b,λj y e d=>?_⟩
  .refine WD (A1 a) b λy d=>?_;obtain⟨j,e,rfl⟩:=C2.1 d;grind
  grind
theorem AWq(v:DX)(l:List DX):HW (λx=>decide (v=x)) l<0<->v ∉ l:=by
 rcases LU (λx=>decide (v=x)) l with⟨h,a⟩|⟨i,x,h,a,b,_⟩
 .grind
 grind
theorem WE(l:List DX)(v:DX)(e:l.length<4611686018427387904):P4 (l,v)=some (HW (λx=>decide (v=x)) l):=by
 unfold P4;dsimp only
 have:Tot (hZ (l,v,(l.length),(0))) (λq=>(match q with| .inl _=>-1| .inr y=>y)=HW (λx=>decide (v=x)) l):=by
  refine FH _ (λ_ i=>(l,v,(l.length:Int),i)) (λi _=>∀y∈l.take i,decide (v=y)=false) e (λnext _ i a d j=>?_) (λnext _ d=>?_) () oe
  .unfold hY;dsimp only;rw[EK,A4 a,A8,F8 (A1 a)];refine D_.2 ⟨λh=>DZ.2 ?_,λh=>?_⟩
   .exact(WD (A1 a) (by rwa[E4]at h) d).symm
   .rw[FD oa];refine j () ?_;intro y b;rw[FN (A1 a),AS,AJ]at b;rcases b with b|rfl
    .exact d y b
    .rwa[E4]at h
  .simp_all[hY,EK,A7,AC,AA,DZ,bE,AG]
 obtain⟨q,k,o⟩:=this;grind
theorem ABq(l:List E_)(f:E_->Option Bool)(p:E_->Bool)(d:∀x,f x=some (p x))(e:l.length<4611686018427387904):ZG (l,f)=some (HW p l):=by
 unfold ZG;dsimp only
 have:Tot (tL (l,f,(l.length),(0))) (λq=>(match q with| .inl _=>-1| .inr y=>y)=HW p l):=by
  refine FH _ (λ_ i=>(l,f,(l.length:Int),i)) (λi _=>∀y∈l.take i,p y=false) e (λnext _ i a b j=>?_) (λnext _ b=>?_) () oe
  .unfold tK;dsimp only;rw[EK,A4 a,A8,F8 (A1 a),A0,d];refine D_.2 ⟨λh=>DZ.2 ?_,λh=>?_⟩
   .exact(WD (A1 a) h b).symm
   .rw[FD oa];refine j () ?_;intro y k;rw[FN (A1 a),AS,AJ]at k;grind
  .simp_all[tK,EK,A7,AC,AA,DZ,bE,AG]
 obtain⟨q,o,r⟩:=this;grind
theorem AWr(l:List FZ)(f:FZ->Option Bool)(p:FZ->Bool)(d:∀x,f x=some (p x))(e:l.length<4611686018427387904):iD (l,f)=some (HW p l):=by
 unfold iD;dsimp only
 have:Tot (tG (l,f,(l.length),(0))) (λq=>(match q with| .inl _=>-1| .inr y=>y)=HW p l):=by
  refine FH _ (λ_ i=>(l,f,(l.length:Int),i)) (λi _=>∀y∈l.take i,p y=false) e (λnext _ i a b j=>?_) (λnext _ b=>?_) () oe
  .unfold tF;dsimp only;rw[EK,A4 a,A8,F8 (A1 a),A0,d];refine D_.2 ⟨λh=>DZ.2 ?_,λh=>?_⟩
   .exact(WD (A1 a) h b).symm
   .rw[FD oa];refine j () ?_;intro y k;rw[FN (A1 a),AS,AJ]at k;grind
  .simp_all[tF,EK,A7,AC,AA,DZ,bE,AG]
 obtain⟨q,o,r⟩:=this;grind
def F5(l:List E_)(name:DX):DX×Bool:=match l.find? (λp=>decide (p.1=name))with
 |some p=>(p.2,true)
 |none=>([],false)
theorem L8(l:List E_)(name:DX):(F5 l name=([],false)/\∀p∈l,p.1≠name)\/∃v,F5 l name=(v,true)/\(name,v)∈l:=by
 unfold F5;grind
theorem OL(l:List E_)(name:DX)(b:l.length<4611686018427387904):MG (l,name)=some (F5 l name):=by
 unfold MG;dsimp only;rw[ABq l _ (λp=>decide (p.1=name)) (λx=>by simp_all[tJ,A0,E4]) b,A0];unfold F5;rcases LU (λp:E_=>decide (p.1=name)) l with⟨h,a⟩|⟨i,x,h,a,d,e⟩
 .grind
 .rw[h,A7 oa,AA,F8 a,A0];grind[decide,List.find?_eq_some_iff_getElem,List.getElem?_eq_some_iff,List.getElem?_eq_getElem]
theorem AWs(l:List GZ)(name:DX)(j:l.length<=1048576):jC (l,name)=some (l.filter λo=>decide (o.1=name)):=by
 unfold jC;dsimp only
 have:Tot (uP (name,[],l,(l.length),(0))) (λq=>q=l.filter λo=>decide (o.1=name)):=by
  refine FH l.length (λs i=>(name,s,l,(l.length:Int),i)) (λi s=>s=(l.take i).filter λo=>decide (o.1=name)) oa (λnext s i a b d=>?_) (λnext s b=>?_) [] oe
  .unfold uO;dsimp only;rw[EK,A4 a,A8,F8 (A1 a),FD oa];have e:s.length<=i:=by rw[b];exact AT (B8 _ _) oc
   refine D_.2 ⟨λh=>DY.2 (FT.2 ⟨oc,?_⟩),λh=>?_⟩
   .refine d _ ?_;rw[FN (A1 a),D2,<-b];grind[E4,ABo]
   .refine d _ ?_;rw[FN (A1 a),D2,<-b];grind[E4,ABp]
  .simp_all[uO,EK,A7,AC,AA,DZ,AG]
 rw[GY this];rfl
def I6(sc:Int)(l:List FZ):List FZ:=l.filter λn=>decide (n.2.2<=sc)
theorem bG(t:F7)(l:List FZ)(j:l.length<=1048576):QK (t,l)=some (I6 t.2.2.1 l):=by
 unfold QK;dsimp only
 have:Tot (uY (t,[],l,(l.length),(0))) (λq=>q=I6 t.2.2.1 l):=by
  refine FH l.length (λs i=>(t,s,l,(l.length:Int),i)) (λi s=>s=I6 t.2.2.1 (l.take i)) oa (λnext s i b a d=>?_) (λnext s a=>?_) [] (by simp[I6])
  .unfold uX;dsimp only;rw[EK,A4 b,A8,F8 (A1 b),FD oa];have e:s.length<=i:=by rw[a];exact AT (B8 _ _) oc
   refine D_.2 ⟨λh=>DY.2 (FT.2 ⟨oc,?_⟩),λh=>?_⟩
   .refine d _ ?_;unfold I6 at a ⊢;rw[FN (A1 b),D2,<-a];exact ABo h
   .refine d _ ?_;unfold I6 at a ⊢;rw[FN (A1 b),D2,<-a];exact ABp h
  .simp_all[uX,EK,A7,AC,AA,DZ,AG]
 rw[GY this];rfl
def H2(t:F7)(p:E_):List FZ:=match t.1.find? (λo=>decide (o.1=p.1)&&decide (o.2.1=p.2))with
 |some o=>I6 t.2.2.1 o.2.2.1
 |none=>[]
theorem mN(t:F7)(p:E_)(w:t.1.length<=1048576)(l:∀o∈t.1,o.2.2.1.length<=1048576):SG (t,p)=some (H2 t p):=by
 unfold SG;dsimp only
 have:Tot (u_ (t,p,t.1,(t.1.length),(0))) (λq=>(match q with| .inl _=>[]| .inr y=>y)=H2 t p):=by
  refine FH t.1.length (λs i=>(t,p,t.1,(t.1.length:Int),i)) (λi s=>∀o∈t.1.take i,(decide (o.1=p.1)&&decide (o.2.1=p.2))=false) oa (λnext s i a d k=>?_) (λnext s d=>?_) () oe
  .unfold uZ;dsimp only;rw[EK,A4 a,A8,F8 (A1 a),A0,FD oa,E4,E4];refine D_.2 ⟨λh=>?_,λh=>?_⟩
   .rw[bG _ _ (l _ (AU a))];refine DZ.2 ?_;unfold H2
    have:t.1.find? (λo=>decide (o.1=p.1)&&decide (o.2.1=p.2))=some t.1[i]:=by
     rw[List.find?_eq_some_iff_getElem];refine⟨h,i,a,rfl,λj e=>?_⟩;have:=d _ (C2.2 ⟨j,oa,rfl⟩);simp only[this,BW]
    rw[this]
   .refine k () ?_;intro o b;rw[FN (A1 a),AS,AJ]at b;grind
  .unfold uZ;dsimp only;rw[EK,A7 (AC _)];refine DZ.2 ?_;unfold H2;grind
 obtain⟨q,r,v⟩:=this;grind
theorem AWt{k:Int}{w:DX}{v:Vr}(h:IY (k,w)=some (v,0)):w.length<=100:=by
 apply C0;intro b;have a:decide ((100:Int)<(w.length))=true:=A4 oa;unfold IY at h;grind
theorem ABr(x:Int×(Bool×Bool×(List UInt8)))(h:x.2.2.2.length<=1048576):Tot (QI x) (λr:(List UInt8)×Int=>r.2=0->x.2.2.2.length<=100):=by
 refine D_.2 ⟨λ_=>D_.2 ⟨λ_=>DZ.2 oe,λq=>DZ.2 λ_=>?_⟩,λ_=>?_⟩
 .grind[Bool.or_eq_false_iff,E4]
 obtain⟨l,i,j⟩:=NO (x.1,x.2.2.2) h;rw[i];refine D_.2 ⟨λd=>DZ.2 λe=>(by rw[e]at d;cases d),λd=>?_⟩;have e:=by rw[E0]at d;simpa using d
 have a:=j e;have b:=AWt (by rw[<-e];exact i);revert a;generalize l.1=v;intro a;refine DY.2 (Tot.mono (P:=λr:List UInt8=>r.length<=10000000) ?_ λo k=>?_)
 .rcases v with x|x|x|x|x|x
  .exact DY.2 ((A0O _ a).mono λ_ h=>DZ.2 oa)
  .exact DY.2 ((A0Q _ a).mono λ_ h=>DZ.2 oa)
  .exact DY.2 ((A0R _ a).mono λ_ h=>DZ.2 oa)
  .exact DY.2 ((A0S _ a).mono λ_ h=>DZ.2 oa)
  .simp_all[DY,A0T,trivial,DZ]
  .exact a.elim
 refine D_.2 ⟨λ_=>DZ.2 λ_=>b,λ_=>?_⟩;refine DY.2 (Tot.mono (P:=λr:List UInt8=>r.length<=10000000) ?_ λo k=>DZ.2 λ_=>b)
 .rcases v with x|x|x|x|x|x
  .exact DY.2 ((mE _ a).mono λ_ h=>DZ.2 oa)
  .exact DY.2 ((mF _ a).mono λ_ h=>DZ.2 oa)
  .exact DY.2 ((mG _ a).mono λ_ h=>DZ.2 oa)
  .exact DY.2 ((mH _ a).mono λ_ h=>DZ.2 oa)
  .exact DY.2 ((mI _ a).mono λ_ h=>DZ.2 oa)
  .exact a.elim
abbrev WF(s:V_):Prop:=s.1.2.2.length<=1048576/\s.2.2.2.length<=1048576
theorem AWu(r:Rg)(G:∀s∈r.2,WF s)(R:r.2.length<=200):
 Tot (tC (r,([]:List IT),r.2,(r.2.length:Int),0)) (λq=>(∀y,q=.inl y->y.length<=200)/\∀y,q=.inr y->y.1=[]/\y.2≠0):=by
 refine F6
  (λy:Rg×(List IT)×(List V_)×Int×Int=>y.1=r/\y.2.2.1=r.2/\y.2.2.2.1=r.2.length/\0<=y.2.2.2.2/\y.2.2.2.2<=r.2.length/\y.2.1.length<=y.2.2.2.2/\∀x∈y.2.1,HN x)
  (λy=>((r.2.length:Int)-y.2.2.2.2).toNat) ?_ _ _ ⟨rfl,rfl,rfl,AR _,B6 _,oe,oe⟩ (by grind[fuel])
 rintro next ⟨k,o,U,n,i⟩ l t
 dsimp only at l t;obtain⟨rfl,rfl,rfl,i0,T,Q,C⟩:=l;unfold A3w;dsimp only;refine D_.2 ⟨λd=>?_,λd=>DZ.2 ⟨λy e=>?_,λy e=>(by cases e)⟩⟩
 .have d:=A5 d;rw[EQ (n:=i+1) oa oa,EQ oa oa];refine DY.2 (F0.2 ⟨⟨i0,d⟩,λs v=>?_⟩);obtain⟨L,M⟩:=G s (ML v);refine DY.2 ((ABr _ oa).mono λN k1=>D_.2 ⟨λa=>DZ.2 ⟨λy e=>(by cases e),λy e=>?_⟩,λH=>?_⟩)
  .cases e;rw[E0]at a;grind
  refine DY.2 ((ABr _ oa).mono λO J=>D_.2 ⟨λa=>DZ.2 ⟨λy e=>(by cases e),λy e=>?_⟩,λI=>?_⟩)
  .cases e;rw[E0]at a;grind
  have w:s.1.2.2.length<=100:=k1 (by grind[E0]);have z:s.2.2.2.length<=100:=J (by grind[E0]);refine DY.2 ((ABd _ w).mono λA D=>DY.2 ((ABe _ z).mono λB E=>?_));refine DY.2 ((T2 _ trivial).mono λV _=>?_);refine DY.2 (Tot.mono (P:=λ_=>True) (D_.2 ⟨λj=>?_,λ_=>DZ.2 trivial⟩) λX _=>?_)
  .have j:=A5 (BA.1 j).2;exact F0.2 ⟨⟨oa,oa⟩,λ_ _=>trivial⟩
  refine DY.2 (Tot.mono (P:=λ_=>True) (D_.2 ⟨λj=>T2 _ trivial,λ_=>DZ.2 trivial⟩) λW _=>?_);refine D_.2 ⟨λ_=>DZ.2 ⟨λy e=>(by cases e),λy e=>(oc)⟩,λ_=>?_⟩
  have b:Tot (next (k,o++[(A,B)],k.2,(k.2.length:Int),i+1)) (λq:Sum (List IT) ((List IT)×Int)=>(∀y,q=.inl y->y.length<=200)/\∀y,q=.inr y->y.1=[]/\y.2≠0):=by
   refine t _ ⟨rfl,rfl,rfl,oc,oc,?_,λx v=>?_⟩ oc
   .grind
   .grind
  have h:(o.length+1)*192<=70368744177664:=oa
  refine D_.2 ⟨λ_=>?_,λ_=>DY.2 (FT.2 ⟨h,b⟩)⟩;refine DY.2 ((AWj s o ⟨w,z⟩ C oa).mono λK _=>D_.2 ⟨λa=>DZ.2 ⟨λy e=>(by cases e),λy e=>?_⟩,λ_=>DY.2 (FT.2 ⟨h,b⟩)⟩);cases e;rw[E0]at a;grind
 grind
theorem ABs(r:Rg)(b:∀s∈r.2,WF s):Tot (ZE r) (λq=>q.1.length<=200):=by
 refine D_.2 ⟨λ_=>DZ.2 oe,λ_=>D_.2 ⟨λ_=>DZ.2 oe,λh=>?_⟩⟩;have h:=AF h;refine DY.2 ((AWu r b oa).mono λq a=>?_);rcases q with y|y
 .exact DZ.2 (a.1 y rfl)
 .refine DZ.2 ?_;grind
noncomputable def QY(r:Rg)(w:DX):Bool:=((SH (r,w)).getD (false,0)).1
theorem mO(r:Rg)(w:DX)(t:∀s∈r.2,WF s)(x:w.length<=1048576):Tot (SH (r,w)) (λq=>q.1=QY r w):=by
 suffices h:∃q,SH _=some q by
  obtain⟨q,h⟩:=h;exact⟨q,h,by grind[QY]⟩
 show ∃q,((ZE r).bind λy=>bif (!(E1 y.2 _))then some _ else(IY _).bind λd=>bif (!(E1 d.2 _))then some _ else(T3 d.1).bind _)=some q;obtain⟨⟨L,e⟩,i,z⟩:=ABs r t;rw[i,A0];cases C:!(E1 e 0)with
 |true=>simp
 |false=>
  rw[AA];obtain⟨⟨v,b⟩,j,l⟩:=NO (r.1,w) x;rw[j,A0];cases a:!(E1 b 0)with
  |true=>simp
  |false=>
   rw[AA];have o:b=0:=by rw[E0]at a;simpa using a
   obtain⟨k,A,_⟩:=mJ (l o);obtain⟨n,B,_⟩:=AWk L k oc;simp_all
noncomputable def H6(name:DX):Int×Bool:=(NB name).getD (0,false)
theorem QZ(name:DX)(h:name.length<=1048576):NB name=some (H6 name):=by
 suffices hh:∃q,NB name=some q by
  grind[H6]
 refine A05.1 ?_;unfold NB;refine DY.2 ((A0U name h).mono λr d=>D_.2 ⟨λ_=>DZ.2 trivial,λa=>?_⟩);have b:=by rw[E0]at a;simpa using a
 refine DY.2 ((A0D _ (d b)).mono λe _=>D_.2 ⟨λ_=>DZ.2 trivial,λ_=>?_⟩);exact DY.2 ((aY _ trivial).mono λi _=>DZ.2 trivial)
noncomputable def A0_(k:Int)(w:DX):Bool:=((VF (k,w)).getD (false,0)).1
theorem AWv(l:List (Bool×DX×Int))(f:(Bool×DX×Int)->Option Bool)(d:∀x,Tot (f x) λ_=>True)(j:l.length<4611686018427387904):Tot (jD (l,f)) λ_=>True:=by
 unfold jD;refine DY.2 (Tot.mono (P:=λ_=>True) ?_ λq _=>by rcases q with y|y<;>exact DZ.2 trivial);refine FH _ (λ_ i=>(l,f,(l.length:Int),i)) (λi _=>True) j (λnext _ i a e k=>?_) (λnext _ e=>?_) () trivial
 .unfold uQ;dsimp only;rw[EK,A4 a,F8 (A1 a),A0,FD oa];refine DY.2 ((d _).mono λb _=>D_.2 ⟨λh=>DZ.2 trivial,λh=>k () trivial⟩)
 simp_all[uQ,EK,A7,AC,AA,DZ,trivial]
theorem AWw(k:Int)(w:DX)(i:w.length<=1048576):Tot (VF (k,w)) (λq=>q.1=A0_ k w):=by
 suffices h:∃q,VF _=some q by
  obtain⟨q,h⟩:=h;exact⟨q,h,by grind[A0_]⟩
 refine A05.1 ?_;unfold VF;dsimp only;refine DY.2 ((NO _ i).mono λr e=>D_.2 ⟨λ_=>DZ.2 trivial,λb=>?_⟩);have d:=by rw[E0]at b;simpa using b
 have a:=e d;revert a;generalize r.1=v;intro a;refine DY.2 (Tot.mono (P:=λ_=>True) ?_ λo j=>DZ.2 trivial);rcases v with x|x|x|x|x|x
 .exact DY.2 (DZ.2 (DZ.2 trivial))
 .refine DY.2 (Tot.mono (P:=λ_=>True) ?_ λ_ _=>DZ.2 trivial);refine DY.2 ((SY _ (by have:=a;simp only[JX]at this;grind)).mono λl _=>?_);refine DY.2 (Tot.mono (P:=λ_=>True) (D_.2 ⟨λ_=>(SY _ (by have:=a;simp only[JX]at this;grind)).mono λ_ _=>trivial,λ_=>DZ.2 trivial⟩) λ_ _=>DZ.2 trivial)
 .exact DY.2 (DZ.2 (DZ.2 trivial))
 .refine DY.2 (Tot.mono (P:=λ_=>True) ?_ λ_ _=>DZ.2 trivial);unfold uT uR;refine DY.2 (DY.2 ((AWv x _ (λy=>?_) (by have:=a;simp only[JX]at this;omega)).mono λ_ _=>DZ.2 (DZ.2 trivial)));simp_all[uS,DY,A0V,trivial,DZ]
 .exact DY.2 (DZ.2 (DZ.2 trivial))
 .exact a.elim
noncomputable def PF(t:F7)(name:DX)(o:GZ):Bool:=((F5 t.2.2.2.1 name).2&&decide (o.2.1=(F5 t.2.2.2.1 name).1))||((!o.2.2.2)&&(t.2.2.2.2.2.1||(!A0_ (H6 name).1 o.2.1)))
noncomputable def J_(t:F7)(name:DX):List DX:=((t.1.filter λo=>decide (o.1=name)).filter (PF t name)).map λo=>o.2.1
def L9(n:FZ):Prop:=n.1.length<=1048576/\∀s∈n.2.1.2,WF s
structure TkB(t:F7):Prop where
 offers:t.1.length<=1048576
 offer:∀o∈t.1,o.1.length<=1048576/\o.2.1.length<=1048576/\o.2.2.1.length<=1048576/\∀n∈o.2.2.1,L9 n
 needs:t.2.1.length<=1048576
 need:∀n∈t.2.1,L9 n
 old:t.2.2.2.1.length<=1048576
 pin:∀p∈t.2.2.2.1,p.1.length<=1048576/\p.2.length<=1048576
 frozen:t.2.2.2.2.1.length<=1048576
 name:∀s∈t.2.2.2.2.1,s.length<=1048576
theorem ABt(t:F7)(name:DX)(e:TkB t)(k:name.length<=1048576):ZL (t,name)=some (J_ t name):=by
 unfold ZL;dsimp only;rw[OL _ _ (by have:=e.old;omega),A0,AWs _ _ e.offers,A0];have j:(t.1.filter λo=>decide (o.1=name)).length<=1048576:=AT (B8 _ _) e.offers;have a:∀o∈(t.1.filter λo=>decide (o.1=name)),o.2.1.length<=1048576:=λo x=>(e.offer o (BM.1 x).1).2.1;unfold J_;generalize (t.1.filter _)=l at j a ⊢
 have:Tot (uV (name,t,(F5 t.2.2.2.1 name).1,(F5 t.2.2.2.1 name).2,[],l,(l.length),(0))) (λq=>q=(l.filter (PF t name)).map λo=>o.2.1):=by
  refine FH l.length (λs i=>(name,t,(F5 _ name).1,(F5 _ name).2,s,l,(l.length:Int),i)) (λi s=>s=((l.take i).filter (PF t name)).map λo=>o.2.1) oa (λnext s i b d k=>?_) (λnext s d=>?_) [] oe
  .unfold uU;dsimp only;rw[EK,A4 b,A8,F8 (A1 b),A0,FD oa,QZ _ (by assumption),A0];obtain⟨q,r,v⟩:=AWw _ _ (a _ (AU b));rw[r,A0,v,E4];have w:s.length<=i:=by rw[d,AN];exact AT (B8 _ _) oc
   refine D_.2 ⟨λh=>DY.2 (FT.2 ⟨oc,?_⟩),λh=>?_⟩
   .refine k _ ?_;rw[FN (A1 b),D2,BL,<-d];grind[PF]
   .refine k _ ?_;rw[FN (A1 b),D2,BL,<-d];grind[PF]
  .simp_all[uU,EK,A7,AC,AA,DZ,AG]
 rw[GY this];rfl
theorem AWx(l:List DX)(G:l.length<=1048576):jE l=some l.reverse:=by
 unfold jE;rw[EQ (n:=(l.length:Int)-1) oa oa]
 have:Tot (uW (l,(0:Int),(l.length:Int)-1)) (λq=>q=l.reverse):=by
  refine F6 (R:=λq=>q=l.reverse) (λy:List DX×Int×Int=>y.1.length=l.length/\0<=y.2.1/\y.2.1+y.2.2=(l.length:Int)-1/\y.2.1<=l.length/\(l.length:Int)-1<=y.2.1+y.2.2/\y.2.1<=y.2.2+2/\∀k:Nat,k<l.length->y.1[k]?=if(k:Int)<y.2.1\/y.2.2<(k:Int)then l[l.length-1-k]? else l[k]?)
   (λy=>(y.2.2-y.2.1+1).toNat) ?_ _ _ ⟨rfl,AR _,oe,oe,oe,oc,λk hk=>?_⟩ (by grind[fuel])
  .rintro next ⟨s,i,j⟩ v x
   dsimp only at v x;obtain⟨A,z,B,C,D,E,o⟩:=v;unfold A4V;dsimp only;refine D_.2 ⟨λh=>?_,λh=>DZ.2 ?_⟩
   .have h:=A5 h;obtain⟨i,rfl⟩:=Int.eq_ofNat_of_zero_le z;obtain⟨j,rfl⟩:=Int.eq_ofNat_of_zero_le (show 0<=j by omega);have a:i<s.length:=oa
    have b:j<s.length:=oa
    rw[I5 b,A0,I5 a,A0,A0,I5 oc,A0];rw[EQ (n:=(i:Int)+1) oa oa,EQ (n:=(j:Int)-1) oa oa];refine x _ ⟨oc,oc,oc,oc,oc,oc,λk hk=>?_⟩ od;dsimp only;rw[AK,AK,List.getElem?_set,List.getElem?_set,AQ];have r:=o j oa;have t:=o i oa;rw[if_neg oa]at r t;by_cases e:j=k
    .subst e;rw[if_pos rfl,if_pos b,if_pos oa,AD,t];rw[show l.length-1-j=i by omega,A1 oa];rfl
    .rw[if_neg e];by_cases d:i=k
     .subst d;rw[if_pos rfl,if_pos a,if_pos oa,AD,r];rw[show l.length-1-i=j by omega,A1 oa];rfl
     .rw[if_neg d,o k hk];grind
   .have h:=AF h;apply BI;intro k;by_cases hk:k<l.length
    .rw[o k hk,List.getElem?_reverse hk];by_cases w:(k:Int)<i\/j<(k:Int)
     .rw[if_pos w]
     .rw[if_neg w,show l.length-1-k=k by omega]
    grind
  .grind
 rw[GY this];rfl
abbrev Pu:=DX×DX×DX×DX×(List (DX×DX))×DX
theorem AWy(n:Int):-9223372036854775808<=i64.wrap n/\i64.wrap n<=9223372036854775807:=by
 grind[IntKind.wrap,IntKind.signed,IntKind.bits]
def Bd(n:Int)(b:Int):Prop:=-b<=n/\n<=b
theorem AWz(x:DX×(List Int)×(List (List (Int×Int)))×Int)(h:0<=x.2.2.2/\x.2.2.2<=6/\x.2.2.1.length=6/\x.1.length=6):Tot (iJ x) (λr=>∀y,r=.inr y->y.1=0):=by
 refine F6 (λy:DX×(List Int)×(List _)×Int=>0<=y.2.2.2/\y.2.2.2<=6/\y.2.2.1.length=6/\y.1.length=6)
  (λy=>(6-y.2.2.2).toNat) ?_ _ _ h (by grind[fuel])
 rintro next ⟨v,w,t,i⟩ a d
 dsimp only at a d;obtain⟨i0,j,k,l⟩:=a;unfold tO;refine D_.2 ⟨λb=>?_,λ_=>DZ.2 λy e=>(by cases e)⟩;have b:=A5 b;refine DY.2 (F0.2 ⟨⟨i0,oa⟩,λ_ _=>DY.2 (F0.2 ⟨⟨i0,oa⟩,λ_ _=>D_.2 ⟨λ_=>DZ.2 λy e=>(by cases e;rfl),λ_=>?_⟩⟩)⟩);grind[DY,FJ,EQ]
theorem A0a(x:DX):Tot (OE x) (λr=>Bd r.1 1000000000000):=by
 refine DY.2 ((ABh _ trivial).mono λr1 h1=>D_.2 ⟨λ_=>DZ.2 (by unfold Bd;decide),λhc=>?_⟩)
 have hl : x.length = 6 := by rw [E0] at hc; have := by simpa using hc;
                              omega
 refine DY.2 ((AWz _ ⟨AR _,oe,h1,hl⟩).mono λq hq=>?_);rcases q with y|y
 .refine D_.2 ⟨λ_=>DZ.2 (by unfold Bd;decide),λ_=>DY.2 (m6.2 ⟨oi,DZ.2 ?_⟩)⟩;generalize hX:i64.wrap (i64.wrap _-1)=X;have hr:-9223372036854775808<=X/\X<=9223372036854775807:=by rw[<-hX];exact AWy _
  have hq:-92233720369<=X.tdiv 100000000/\X.tdiv 100000000<=92233720369:=by
   rcases Int.le_total 0 X with h|h
   .grind
   .grind
  rw[EQ oa oa];unfold Bd OW;grind
 .exact DZ.2 (by have:=hq y rfl;grind[Bd])
theorem AX0(a:List Af)(k:∀z∈a,OK z)(x:a.length<=50):Tot (VE ([],a,(a.length:Int),0)) (λr=>(∀o,r=.inl o->o.length=a.length/\∀z∈o,∀s∈z.2,GX s)/\∀y,r=.inr y->y.2≠0):=by
 refine F6
  (λy:(List Rg)×(List Af)×Int×Int=>y.2.1=a/\y.2.2.1=a.length/\0<=y.2.2.2/\y.2.2.2<=a.length/\(y.1.length)=y.2.2.2/\∀z∈y.1,∀s∈z.2,GX s)
  (λy=>((a.length)-y.2.2.2).toNat) ?_ _ _ ⟨rfl,rfl,AR _,B6 _,rfl,λz j=>by simp at j⟩ (by grind[fuel])
 rintro next ⟨o,t,n,i⟩ b d
 dsimp only at b d;obtain⟨rfl,rfl,i0,B,C,D⟩:=b;unfold uK;refine D_.2 ⟨λh=>?_,λh=>DZ.2 ⟨λy e=>?_,λy e=>(by cases e)⟩⟩
 .have h:=A5 h;rw[EQ oa oa];refine DY.2 (F0.2 ⟨⟨i0,h⟩,λw l=>DY.2 ((ABf w (k w (ML l))).mono λq A=>D_.2 ⟨λv=>DZ.2 ⟨λy e=>(by cases e),λy e=>?_⟩,λ_=>?_⟩)⟩)
  .grind[E0]
  .refine DY.2 (FT.2 ⟨oc,d _ ⟨rfl,rfl,oc,oc,om,λz j=>?_⟩ oc⟩);grind
 .cases e;grind
theorem ABu(a:G5)(h:JM a):Tot (MH a) (λr=>r.2=0->r.1.length=a.2.2.2.2.2.2.length/\∀z∈r.1,∀s∈z.2,GX s):=by
 unfold MH VD;have i:∀{l:List Rg} {c:Int},c≠0->Tot (some (l,c)) (λr:(List Rg)×Int=>r.2=0->r.1.length=a.2.2.2.2.2.2.length/\∀z∈r.1,∀s∈z.2,GX s):=λo=>DZ.2 λe=>absurd e o
 have b:Tot (bif (decide ((50:Int)<(a.2.2.2.2.2.2.length))) then some (([]),(3)) else (VE (([]),a.2.2.2.2.2.2,(a.2.2.2.2.2.2.length),(0))).bind λj =>
  match j with
  | .inl k=>some (k,(0))
  | .inr d=>some (d.1,d.2)) (λr:(List Rg)×Int=>r.2=0->r.1.length=a.2.2.2.2.2.2.length/\∀z∈r.1,∀s∈z.2,GX s):=by
  refine D_.2 ⟨λ_=>i oi,λo=>DY.2 ((AX0 _ h.2.2.2.2.2.2 oc).mono λq v=>?_)⟩;rcases q with y|y
  .exact DZ.2 λ_=>v.1 y rfl
  .grind
 refine DY.2 ((lZ _ h.1).mono λw _=>D_.2 ⟨λ_=>i oi,λ_=>?_⟩);refine DY.2 ((ABg _ h.2.2.1).mono λx _=>D_.2 ⟨λt=>i (by grind[E0]),λ_=>?_⟩);refine DY.2 ((lZ _ h.2.2.2.1).mono λA _=>D_.2 ⟨λ_=>i oi,λ_=>D_.2 ⟨λ_=>i oi,λ_=>?_⟩⟩);refine DY.2 (D_.2 ⟨λ_=>DY.2 ((A0a _).mono λB _=>D_.2 ⟨λt=>DZ.2 ?_,λ_=>DZ.2 b⟩),λ_=>DZ.2 b⟩);grind[E0]
def bH(p:Pu):Prop:=p.2.2.2.2.1.length<=1048576/\p.2.2.2.1.length<=1048576
theorem AX1(a:G5)(p:Pu)(rs:List Rg)(key:DX)(x:bH p)(G:a.2.2.2.2.2.2.length<=1048576)(H:rs.length=a.2.2.2.2.2.2.length)(C:∀z∈rs,∀s∈z.2,GX s):
 Tot (jM (a,p,rs,key,[],a.2.2.2.2.2.2,(a.2.2.2.2.2.2.length:Int),0)) (λ_=>True):=by
 refine F6 (λy:G5×Pu×(List Rg)×DX×(List Int)×(List Af)×Int×Int=>y.1=a/\y.2.1=p/\y.2.2.1=rs/\y.2.2.2.2.2.1=a.2.2.2.2.2.2/\y.2.2.2.2.2.2.1=a.2.2.2.2.2.2.length/\0<=y.2.2.2.2.2.2.2/\y.2.2.2.2.2.2.2<=a.2.2.2.2.2.2.length/\(y.2.2.2.2.1.length)<=y.2.2.2.2.2.2.2)
  (λy=>((a.2.2.2.2.2.2.length)-y.2.2.2.2.2.2.2).toNat) ?_ _ _ ⟨rfl,rfl,rfl,rfl,rfl,AR _,B6 _,AR _⟩ (by grind[fuel])
 rintro next ⟨e,D,q,k,o,E,n,i⟩ t v
 dsimp only at t v;obtain⟨rfl,rfl,rfl,rfl,rfl,i0,J,K⟩:=t;unfold jL;refine D_.2 ⟨λj=>?_,λ_=>DZ.2 trivial⟩;have j:=A5 j;rw[EQ oa oa];refine DY.2 (F0.2 ⟨⟨i0,j⟩,λw I=>?_⟩);refine DY.2 (Tot.mono (D_.2 ⟨λ_=>F0.2 ⟨⟨i0,oa⟩,λz A=>C z (ML A)⟩,λ_=>DZ.2 λs h=>by simp at h⟩) λz A=>?_);refine DY.2 (Tot.mono (P:=λ_=>True) (D_.2 ⟨λ_=>?_,λ_=>DZ.2 trivial⟩) λb _=>?_)
 .unfold QN;refine DY.2 (Tot.mono (D_.2 ⟨λ_=>(A0W _ _ x.2).mono λ_ _=>trivial,λ_=>DZ.2 trivial⟩) λr _=>D_.2 ⟨λ_=>DZ.2 trivial,λ_=>?_⟩);exact DY.2 ((mO z _ (λs h=>⟨oc,oc⟩) x.2).mono λ_ _=>DZ.2 trivial)
 .have d:∀l:List Int,(l.length)<=i+1->Tot (next (e,D,q,k,l,e.2.2.2.2.2.2,(e.2.2.2.2.2.2.length),i+1)) _:=λl B=>v _ ⟨rfl,rfl,rfl,rfl,rfl,oc,oc,B⟩ oc;exact D_.2 ⟨λ_=>DY.2 (FT.2 ⟨oc,d _ om⟩),λ_=>d _ oa⟩
theorem AX2(a:G5)(p:Pu)(h:JM a)(b:bH p):Tot (VG (a,p)) (λ_=>True):=by
 unfold VG;refine DY.2 ((ABu a h).mono λr d=>D_.2 ⟨λ_=>DZ.2 trivial,λk=>?_⟩);obtain⟨e,i⟩:=d (by grind[E0]);refine DY.2 ((A0D p b.1).mono λj _=>D_.2 ⟨λ_=>DZ.2 trivial,λ_=>?_⟩);exact DY.2 ((AX1 a p r.1 j.1 b h.2.2.2.2.2.1 e i).mono λ_ _=>DZ.2 trivial)
theorem AX3(p:Pu)(v:DX)(b:p.2.2.2.2.1.length<=1048576):Tot (QL (p,v)) (λr=>r.2=0->bH r.1):=by
 unfold QL SI;refine DY.2 ((S_ p b).mono λk _=>D_.2 ⟨λa=>DZ.2 λe=>?_,λ_=>DY.2 ?_⟩)
 .grind[E0]
 refine Tot.mono (P:=λr:Pu×Int=>r.2=0->bH r.1) ?_ λr i=>DZ.2 i;refine DY.2 ((S_ (p.1,(p.2.1,(p.2.2.1,(v,p.2.2.2.2)))) b).mono λl d=>D_.2 ⟨λa=>DZ.2 λe=>?_,λa=>?_⟩)
 .grind[E0]
 have h:=d (by grind[E0]);exact DY.2 ((A0B _ h).mono λo j=>DZ.2 λ_=>⟨oc,oc⟩)
theorem AX4(p:Pu)(hp:bH p)(l:List G5)(hl:l.length<=2000)(hb:∀a∈l,JM a):Tot (jO (p,0,l,(l.length:Int),0)) (λn=>Bd n 2000000000000000):=by
 refine F6 (λy:Pu×Int×(List G5)×Int×Int=>y.1=p/\y.2.2.1=l/\y.2.2.2.1=l.length/\0<=y.2.2.2.2/\y.2.2.2.2<=l.length/\Bd y.2.1 (1000000000000*y.2.2.2.2))
  (λy=>((l.length)-y.2.2.2.2).toNat) ?_ _ _ ⟨rfl,rfl,rfl,AR _,B6 _,by grind[Bd]⟩ (by grind[fuel])
 rintro next ⟨p',n,l',k,i⟩ hI hn
 dsimp only at hI hn;obtain⟨rfl,rfl,rfl,i0,i1,i2⟩:=hI;unfold Bd at i2;unfold jN;refine D_.2 ⟨λhc=>?_,λ_=>DZ.2 (by unfold Bd;omega)⟩;have hc:=A5 hc;rw[EQ oa oa];refine DY.2 (F0.2 ⟨⟨i0,hc⟩,λw hx=>DY.2 ((AX2 w p' (hb w (ML hx)) hp).mono λr _=>?_)⟩)
 have hgo:∀d:Int,Bd d 1000000000000->Tot (next (p',i64.wrap (n+d),l',(l'.length),i+1)) _:=λd hd=>by
  unfold Bd at hd;rw[EQ oa oa];exact hn _ ⟨rfl,rfl,rfl,oc,oc,by grind[Bd]⟩ oc
 refine D_.2 ⟨λ_=>hn _ ⟨rfl,rfl,rfl,oc,oc,by grind[Bd]⟩ oc,λ_=>D_.2 ⟨λ_=>DY.2 ((A0a _).mono λr5 h5=>hgo _ h5),λ_=>hgo 100 (by unfold Bd;decide)⟩⟩
theorem A0b{s:DX}(a:s.length<=1048576)(hk:(H6 s).2=true):∃p n,MD s=some (p,n,0)/\p.2.2.2.2.1.length<=1048576:=by
 obtain⟨⟨p,n,e⟩,b,d⟩:=A0U s a;have h:=QZ s a;unfold NB at h;rw[b,A0]at h;by_cases i:e=0
 .grind
 grind[E0,decide_eq_false,H6,Option.some.inj]
theorem ABv(t:F7)(b:BB t.2.2.2.2.2.2)(d:t.2.2.2.2.2.2.2.1.length<=2000)(x:E_)(hx:x.1.length<=1048576)(hk:(H6 x.1).2=true):Tot (VH (t,x)) (λn=>Bd n 2000000000000000):=by
 unfold VH;dsimp only;obtain⟨p,n,h,a⟩:=A0b hx hk;rw[h,A0];refine DY.2 ((AX3 p x.2 a).mono λr i=>D_.2 ⟨λ_=>DZ.2 (by unfold Bd;decide),λj=>?_⟩);exact DY.2 ((AX4 r.1 (i (by grind[E0])) _ d b).mono λn e=>DZ.2 e)
theorem AX5(x:Bool×Bool):Tot (VI x) (λr=>Bd r 3):=by
 obtain⟨a,b⟩:=x;cases a<;>cases b<;>exact DZ.2 (by unfold Bd;decide)
theorem ABw(l:List Int)(i:Int)(hi:0<=i):Tot (SJ (l,i)) (λ_=>True):=by
 simp_all[SJ,D_,DY,F0,A5,DZ,trivial]
theorem AX6(l:Ql)(i:Int)(hi:0<=i):Tot (SK (l,i)) (λ_=>True):=by
 unfold SK;refine DY.2 (Tot.mono (D_.2 ⟨λh=>F0.2 ⟨⟨hi,A5 h⟩,λ_ _=>trivial⟩,λ_=>DZ.2 trivial⟩) λy _=>?_);refine DY.2 (Tot.mono (D_.2 ⟨λ_=>mC _ trivial,λ_=>DZ.2 trivial⟩) λb _=>?_);simp_all[D_,DZ,trivial,A6,DY,F0,A5]
theorem A0c:Bd 0 3:=by unfold Bd;decide
theorem A0d(k:Int)(u w:DX)(D:u.length<=1048576)(E:w.length<=1048576):Tot (VJ (k,u,w)) (λr=>Bd r.1 3):=by
 unfold VJ QJ;dsimp only;obtain⟨⟨v,e⟩,o,t⟩:=NO (k,u) D;obtain⟨⟨G,B⟩,b,i⟩:=NO (k,w) E;rw[o,b];refine DY.2 (DY.2 (DZ.2 (D_.2 ⟨λj=>DZ.2 (D_.2 ⟨λ_=>DZ.2 A0c,λh=>?_⟩),λj=>DY.2 (DZ.2 (DZ.2 (D_.2 ⟨λ_=>DZ.2 A0c,λh=>?_⟩)))⟩)))
 .grind
 have j:e=0:=by rw[E0]at j;simpa using j
 have h:B=0:=by rw[E0]at h;simpa using h
 have l:=t j;have a:=i h;refine DY.2 ((mJ l).mono λx _=>DY.2 ((mJ a).mono λy _=>D_.2 ⟨λ_=>DZ.2 A0c,λ_=>?_⟩));clear o b t i;have A:∀r:Rv,JX (.inr (.inl r))->r.2.1.length<=1000:=λr h=>h.2.1;dsimp only at l a
 rcases v with d|r|s|q|n|z<;>rcases G with H|K|L|J|I|M<;>dsimp only<;>
  repeat' first
   |exact absurd l id
   |exact absurd a id
   |(with_reducible first|refine D_.2 ⟨λ_=>?_,λ_=>?_⟩|refine DZ.2 ?_|refine DY.2 ((AX5 _).mono λ_ C=>DZ.2 C)|refine DY.2 ((A0P _ ?_).mono λ_ _=>?_))
   |exact A _ l
   |exact A _ a
   |exact BJ 1000
   |(with_reducible first|refine DY.2 ((ABw _ _ oi).mono λ_ _=>?_)|refine DY.2 ((AX6 _ _ oi).mono λ_ _=>?_)|refine DY.2 (Tot.mono (P:=λ_=>True) (D_.2 ⟨λ_=>ABw _ _ oi,λ_=>DZ.2 trivial⟩) λ_ _=>?_))
   |(unfold Bd;decide)
abbrev C3:=Int×Int×Int
def CB(c:C3)(n:Int):Prop:=Bd c.1 (2000000000000000*n)/\Bd c.2.1 n/\Bd c.2.2 (3*n)
noncomputable def GP(t:F7)(x:E_):C3:=(OF (t,x)).getD (0,0,0)
theorem ABx(t:F7)(l:TkB t)(q:BB t.2.2.2.2.2.2)(w:t.2.2.2.2.2.2.2.1.length<=2000)(x:E_)(hx:x.1.length<=1048576/\x.2.length<=1048576)(hk:x.2=[]\/(H6 x.1).2=true):
 OF (t,x)=some (GP t x)/\CB (GP t x) 1/\(x.2=[]->GP t x=(0,(bif !(E5 (F5 t.2.2.2.1 x.1).1 [])then 1 else 0),0)):=by
 suffices h:Tot (OF (t,x)) (λc=>CB c 1/\(x.2=[]->c=(0,(bif !(E5 (F5 t.2.2.2.1 x.1).1 [])then 1 else 0),0))) by
  obtain⟨c,z,A⟩:=h;grind[GP]
 unfold OF;dsimp only;rw[OL _ _ (by have:=l.old;omega),A0]
 have i:(F5 t.2.2.2.1 x.1).1.length<=1048576:=by
  rcases L8 t.2.2.2.1 x.1 with⟨e,_⟩|⟨v,e,y⟩
  .grind
  .rw[e];exact(l.pin _ y).2
 obtain⟨r,k,s,b⟩:∃r:C3,ZP (((0:Int),((0:Int),(0:Int))),(!(E5 (F5 t.2.2.2.1 x.1).1 x.2)))=some r/\(0<=r.2.1/\r.2.1<=1)/\r=(0,(bif !(E5 (F5 t.2.2.2.1 x.1).1 x.2)then 1 else 0),0):=by
  unfold ZP;cases (!(E5 (F5 t.2.2.2.1 x.1).1 x.2))<;>grind
 rw[k,A0];refine D_.2 ⟨λj=>DZ.2 ⟨?_,λd=>?_⟩,λj=>?_⟩
 .grind[E5,F5,CB,Bd]
 .rw[b,d]
 .have a:x.2≠[]:=by rw[E4]at j;simpa using j
  have hk:(H6 x.1).2=true:=hk.resolve_left a;refine DY.2 ((ABv t q w x hx.1 hk).mono λC o=>D_.2 ⟨λ_=>?_,λ_=>DZ.2 ⟨?_,λd=>absurd d a⟩⟩)
  .rw[QZ _ hx.1,A0];exact DY.2 ((A0d _ _ _ i hx.2).mono λD B=>DZ.2 ⟨⟨by assumption,by grind[Bd],by assumption⟩,λd=>absurd d a⟩)
  .rw[b];unfold Bd at o;cases (!(E5 (F5 t.2.2.2.1 x.1).1 x.2))<;>exact⟨by unfold Bd;dsimp only;omega,(by unfold Bd;simp),(by unfold Bd;simp)⟩
theorem mP{α:Type}{motive:List α->Prop}(nil:motive [])(append_singleton:∀l a,motive l->motive (l++[a]))(l:List α):motive l:=by
 have:∀r:List α,motive r.reverse:=by
  intro r;induction r with
  |nil=>exact nil
  |cons a r ih=>grind
 have:=this l.reverse;grind
def NQ(s:List DX)(o:GZ):List DX:=if o.1∈s then s else s++[o.1]
def ES(l:List GZ):List DX:=l.foldl NQ []
theorem T5(l:List GZ)(o:GZ):ES (l++[o])=NQ (ES l) o:=by
 unfold ES;simp
theorem ABy(l:List GZ):(ES l).length<=l.length:=by
 induction l using mP with
 |nil=>exact AH _
 |append_singleton l o i=>
  grind[T5,NQ,List.length_append,List.length_cons,List.length_nil]
theorem T6(l:List GZ)(s:DX):s∈ES l<->∃o∈l,o.1=s:=by
 induction l using mP with
 |nil=>simp[ES]
 |append_singleton l o i=>
  rw[T5];unfold NQ;split
  .rename_i h;rw[i];constructor
   .simp_all
   grind
  .rw[AS,i,AJ];constructor
   .rintro(⟨x,a,rfl⟩|rfl)<;>grind
   grind
theorem ABz(l:List GZ):(ES l).Nodup:=by
 induction l using mP with
 |nil=>exact B3
 |append_singleton l o i=>
  rw[T5];unfold NQ;grind
theorem bI(v:DX)(l:List DX):HW (λx=>decide (v=x)) l<0<->v ∉ l:=by
 rcases LU (λx=>decide (v=x)) l with⟨h,a⟩|⟨i,x,h,a,b,_⟩
 .grind
 grind
theorem AX7(t:F7)(l:List GZ)(j:l.length<=1048576):
 vV ((t,([]:List DX),([]:List (List DX)),([]:List (List Int)),([]:List (List (List Int))),([]:List Int),(0:Int)),l,(l.length:Int),0)=
  some (t,ES l,([]:List (List DX)),([]:List (List Int)),([]:List (List (List Int))),([]:List Int),(0:Int)):=by
 refine GY ?_;refine FH l.length (λs i=>((t,s,([]),([]),([]),([]),(0)),l,(l.length:Int),i)) (λi s=>s=ES (l.take i)) oa (λnext s i a b d=>?_) (λnext s b=>?_) [] (by simp[ES])
 .unfold vU;dsimp only;have e:s.length<=i:=by rw[b];exact AT (ABy _) oc
  rw[EK,A4 a,A8,F8 (A1 a),A0,FD oa];unfold P6;dsimp only;rw[A0,WE _ _ oc,A0,A0];refine D_.2 ⟨λh=>DY.2 (FT.2 ⟨oc,?_⟩),λh=>?_⟩
  .have h:=(bI _ _).1 (A5 h);refine d _ ?_;rw[FN (A1 a),T5,<-b];unfold NQ;rw[if_neg h]
  .have h:=AF h;rw[bI,Classical.not_not]at h;refine d _ ?_;rw[FN (A1 a),T5,<-b];unfold NQ;rw[if_pos h]
 simp_all[vU,EK,A7,AC,AA,DZ,AG]
noncomputable def KG(t:F7)(name:DX):List DX:=(J_ t name).reverse
def LV(n:Nat):Int:=((2 ^ n-1:Nat):Int)
theorem AX8(t:F7)(o:TkB t)(a:List DX)(r:a.length<=1048576)(l:∀s∈a,s.length<=1048576/\(KG t s).length<=8):
 vX (t,(t,a,([]:List (List DX)),([]:List (List Int)),([]:List (List (List Int))),([]:List Int),(0:Int)),a,(a.length:Int),0)=
  some (t,a,a.map (KG t),([]:List (List Int)),([]:List (List (List Int))),a.map (λs=>LV ((KG t s).length+1)),(0:Int)):=by
 refine GY ?_;refine FH a.length (λs i=>(t,(t,a,(a.take s).map (KG t),([]),([]),(a.take s).map (λs=>LV ((KG t s).length+1)),(0)),a,(a.length:Int),i)) (λi s=>s=i) oa (λnext s i h e b=>?_) (λnext s e=>?_) 0 rfl
 .subst e;unfold vW;dsimp only;obtain⟨j,k⟩:=l _ (AU h);rw[EK,A4 h,F8 (A1 h),A0,FD oa,ABt t _ o j,A0];have q:=by have:=k;unfold KG at this;rwa[List.length_reverse]at this
  rw[AWx _ oa,A0];refine DY.2 (FT.2 ⟨oc,?_⟩);rw[FD oc];have d:=(A0Y (n:=(J_ t a[s]).reverse.length+1) oc).1;rw[show(((J_ t a[s]).reverse.length+1:Nat))=((J_ t a[s]).reverse.length:Int)+1 by omega]at d;rw[d,A0];refine DY.2 (FT.2 ⟨oc,?_⟩);have:=b (s+1) rfl;rw[FN (A1 h),BL,BL]at this;exact this
 simp_all[vW,EK,A7,AC,AA,DZ,AG]
def IC(os:List (List DX)):List Int:=os.map λo=>LV (o.length+1)
theorem Q_{α:Type}{l:List α}{i:Nat}{x d:α}(h:i<l.length):(l.set i x).getD i d=x:=by
 grind
theorem getD_set_ne{α:Type}{l:List α}{i j:Nat}{x d:α}(h:i≠j):(l.set i x).getD j d=l.getD j d:=by
 rw[AD,CM h,AD]
theorem AX9{α:Type}{l:List α}{i:Nat}{d:α}(h:i<l.length):l.set i (l.getD i d)=l:=by
 simp_all
theorem AC0{α:Type}{f v:List α}{j:Nat}{x:α}(b:f.length=v.length)(hx:f[j]?=some x):(f.take j++v.drop j).set j x=f.take (j+1)++v.drop (j+1):=by
 have a:=(A9.1 hx).1;have h:(f.take j).length=j:=by rw[AY];omega
 rw[List.set_append_right _ _ oa,h,Nat.sub_self];have:v.drop j=v[j]'(oa)::v.drop (j+1):=by rw[C5]
 rw[this,FN hx,CF];rfl
structure Fx(ns:List DX)(os:List (List DX)):Prop where
 len:os.length=ns.length
 few:ns.length<=12
 small:∀o∈os,o.length<=8
theorem A0e{α:Type}{n:Nat}(h:n<=1000000)(z:α):mks? 24 (n:Int) (n:Int) z=some (List.replicate n z):=by
 unfold mks?;grind
section
variable(t:F7)(ns:List DX)(os:List (List DX))(hF:Fx ns os)
include hF
theorem AXA(w:List (List Int))(X:List (List (List Int)))(st:List Int)(rt:Int)(i a:Nat)(hi:i<X.length)(o:a<(X.getD i []).length)(z:((X.getD i []).getD a []).length=ns.length):
 vE ((t,ns,os,w,X,st,rt),(i:Int),(a:Int),(ns.length:Int),0)=some (t,ns,os,w,X.set i ((X.getD i []).set a (IC os)),st,rt):=by
 refine GY ?_;have q:(IC os).length=ns.length:=by unfold IC;rw[AN,hF.len]
 refine FH ns.length (λs j=>((t,ns,os,w,s,st,rt),(i:Int),(a:Int),(ns.length:Int),j)) (λj s=>s=X.set i ((X.getD i []).set a ((IC os).take j++((X.getD i []).getD a []).drop j))) (by have:=hF.few;omega) (λnext s j k b y=>?_) (λnext s b=>?_) X ?_
 .unfold vD;dsimp only;have l:s.getD i []=(X.getD i []).set a ((IC os).take j++((X.getD i []).getD a []).drop j):=by rw[b];exact Q_ hi
  have x:(s.getD i []).getD a []=(IC os).take j++((X.getD i []).getD a []).drop j:=by rw[l];exact Q_ o
  have r:s.length=X.length:=by rw[b,AQ]
  have e:=hF.few;have h:j<os.length:=by rw[hF.len];exact k
  rw[EK,A4 k,AK,AK,I5 oa,A0,I5 oc,A0,F8 (A1 h),A0];have v:=hF.small _ (AU h);rw[FD oa,FD oa];have d:=(A0Y (n:=os[j].length+1) oa).1;rw[show((os[j].length+1:Nat):Int)=(os[j].length:Int)+1 by omega]at d;rw[d,I5 oc,A0];simp_all[List.set_set,AC0,LV,IC,AV,A1]
 .unfold vD;simp_all[EK,A7,AC,AA,DZ,CI,D6,CG]
 simp_all
theorem AXB(w:List (List Int))(X:List (List (List Int)))(st:List Int)(rt:Int)(i c:Nat)(hi:i<X.length)(hc:c<=1000)(hx:X.getD i []=List.replicate c []):
 vG ((t,ns,os,w,X,st,rt),(ns.length:Int),(i:Int),(c:Int),0)=some (t,ns,os,w,X.set i (List.replicate c (IC os)),st,rt):=by
 refine GY ?_;refine FH c (λs a=>((t,ns,os,w,s,st,rt),(ns.length:Int),(i:Int),(c:Int),a)) (λa s=>s=X.set i ((List.replicate c (IC os)).take a++(List.replicate c []).drop a)) oa (λnext s a k h o=>?_) (λnext s h=>?_) X ?_
 .unfold vF;dsimp only;have e:s.getD i []=(List.replicate c (IC os)).take a++(List.replicate c []).drop a:=by rw[h];exact Q_ hi
  have j:(s.getD i []).length=c:=by rw[e];simp;omega
  have l:s.length=X.length:=by rw[h,AQ]
  have d:=hF.few;rw[EK,A4 k,AK,AK,I5 oa,A0e oa,A0,I5 oa,A0];have b:=AXA t ns os hF w (s.set i ((s.getD i []).set a (List.replicate _ 0))) st rt i a oc oc (by rw[Q_ oa,Q_ oa,BN]);rw[Q_ oa,List.set_set,List.set_set]at b;rw[b,FD oa];grind[List.set_set,AC0,IC]
 .unfold vF;simp_all[EK,A7,AC,AA,DZ,CI,D6,CG]
 .rw[CE,DA,DO,<-hx,AX9 hi]
theorem AXC(st:List Int)(rt:Int):
 vI ((t,ns,os,([]:List (List Int)),([]:List (List (List Int))),st,rt),(ns.length:Int),(ns.length:Int),0)=
  some (t,ns,os,os.map (λo=>List.replicate (o.length+1) 0),os.map (λo=>List.replicate (o.length+1) (IC os)),st,rt):=by
 refine GY ?_;refine FH ns.length (λs i=>((t,ns,os,(os.take s).map (λo=>List.replicate (o.length+1) 0),(os.take s).map (λo=>List.replicate (o.length+1) (IC os)),st,rt),(ns.length:Int),(ns.length:Int),i)) (λi s=>s=i) (by have:=hF.few;omega) (λnext s i d a j=>?_) (λnext s a=>?_) 0 rfl
 .subst a;unfold vH;dsimp only;have b:=hF.few;have h:s<os.length:=by rw[hF.len];exact d
  have k:=hF.small _ (AU h);rw[EK,A4 d,F8 (A1 h),A0,FD oa,FD oa];rw[show((os[s].length)+1)=((os[s].length+1:Nat):Int) by omega,A0e oa,A0];refine DY.2 (FT.2 ⟨oc,?_⟩);rw[A0e oa,A0];refine DY.2 (FT.2 ⟨oc,?_⟩);have e:((os.take s).map (λo=>List.replicate (o.length+1) (IC os))).length=s:=by rw[AN,AY];omega
  rw[AXB (hi:=by grind) (hc:=by omega) (hx:=by grind) (hF:=hF),A0];have:=j (s+1) rfl;rw[FN (A1 h),BL,BL]at this;simp_all
 .unfold vH;dsimp only;rw[EK,A7 (AC _)];exact DZ.2 (by rw[a,CI (by rw[hF.len];omega)])
end
def wa(W:List (List Int))(i a:Nat):Int:=(W.getD i []).getD a 0
def al(A:List (List (List Int)))(i a j:Nat):Int:=((A.getD i []).getD a []).getD j 0
def cnt(os:List (List DX))(i:Nat):Nat:=(os.getD i []).length
structure ShW(n:Nat)(os:List (List DX))(W:List (List Int)):Prop where
 len:W.length=n
 row:∀i<n,(W.getD i []).length=cnt os i+1
 in16:∀i a,GB (wa W i a)
structure ShA(n:Nat)(os:List (List DX))(A:List (List (List Int))):Prop where
 len:A.length=n
 row:∀i<n,(A.getD i []).length=cnt os i+1
 cell:∀i<n,∀a,a<cnt os i+1->((A.getD i []).getD a []).length=n
 in16:∀i a j,GB (al A i a j)
structure ShS(n:Nat)(st:List Int):Prop where
 len:st.length=n
 in16:∀i,GB (st.getD i 0)
theorem mQ{α:Type}{l:List α}{i:Nat}{d:α}(h:l.length<=i):l.getD i d=d:=by
 grind
theorem mR{n:Nat}{st:List Int}(h:ShS n st){i:Nat}{x:Int}(hi:i<n)(hx:GB x):ShS n (st.set i x)/\∀a,(st.set i x).getD a 0=if a=i then x else st.getD a 0:=by
 have e:∀a,(st.set i x).getD a 0=if a=i then x else st.getD a 0:=by
  intro a;by_cases b:a=i
  .subst b;rw[if_pos rfl,Q_ (by rw[h.len];exact hi)]
  .rw[if_neg b,getD_set_ne (λe=>b e.symm)]
 refine⟨⟨by rw[AQ,h.len],λa=>?_⟩,e⟩;rw[e];split
 .exact hx
 .exact h.in16 _
theorem AXD{n:Nat}{os:List (List DX)}{W:List (List Int)}(h:ShW n os W){i a:Nat}{x:Int}(hi:i<n)(o:a<cnt os i+1)(hx:GB x):
 ShW n os (W.set i ((W.getD i []).set a x))/\∀b d,wa (W.set i ((W.getD i []).set a x)) b d=if b=i/\d=a then x else wa W b d:=by
 have l:=h.len;have q:=h.row i hi
 have e:∀b d,wa (W.set i ((W.getD i []).set a x)) b d=if b=i/\d=a then x else wa W b d:=by
  intro b d;unfold wa;by_cases j:b=i
  .grind
  .rw[if_neg (λe=>j e.1),getD_set_ne (λe=>j e.symm)]
 refine⟨⟨by rw[AQ,l],λb k=>?_,λb d=>?_⟩,e⟩
 .by_cases j:b=i
  .grind
  .rw[getD_set_ne (λe=>j e.symm)];exact h.row _ k
 .rw[e];split
  .exact hx
  .exact h.in16 _ _
theorem AC1{n:Nat}{os:List (List DX)}{A:List (List (List Int))}(h:ShA n os A){i a j:Nat}{x:Int}(hi:i<n)(s:a<cnt os i+1)(w:j<n)(hx:GB x):
 ShA n os (A.set i ((A.getD i []).set a (((A.getD i []).getD a []).set j x)))/\
 ∀d k o,al (A.set i ((A.getD i []).set a (((A.getD i []).getD a []).set j x))) d k o=if d=i/\k=a/\o=j then x else al A d k o:=by
 have t:=h.len;have y:=h.row i hi;have v:=h.cell i hi a s
 have e:∀d k o,al (A.set i ((A.getD i []).set a (((A.getD i []).getD a []).set j x))) d k o=if d=i/\k=a/\o=j then x else al A d k o:=by
  intro d k o;unfold al;by_cases b:d=i
  .grind
  .rw[if_neg (λe=>b e.1),getD_set_ne (λe=>b e.symm)]
 refine⟨⟨by rw[AQ,t],λd l=>?_,λd l k q=>?_,λd k o=>?_⟩,e⟩
 .by_cases b:d=i
  .grind
  .rw[getD_set_ne (λe=>b e.symm)];exact h.row _ l
 .by_cases b:d=i
  .subst b;rw[Q_ oa];by_cases r:k=a
   .grind
   .rw[getD_set_ne (λe=>r e.symm)];exact h.cell _ l _ q
  .rw[getD_set_ne (λe=>b e.symm)];exact h.cell _ l _ q
 .rw[e];split
  .exact hx
  .exact h.in16 _ _ _
noncomputable def KU(o:List DX)(r:Rg):Nat->Bool
 |0=>false
 |k+1=>match o[k]? with
  |some v=>QY r v
  |none=>false
theorem AC2{o:List DX}{r:Rg}{k:Nat}{v:DX}(h:o[k]?=some v):KU o r (k+1)=QY r v:=by
 show(match o[k]? with|some v=>QY r v|none=>false)=_;rw[h]
theorem AXE{o:List DX}{r:Rg}{k:Nat}(h:o[k]?=none):KU o r (k+1)=false:=by
 show(match o[k]? with|some v=>QY r v|none=>false)=_;rw[h]
theorem AXF{o:List DX}{r:Rg}{b:Nat}(h:KU o r b=true):1<=b/\b<=o.length:=by
 cases b with
 |zero=>cases h
 |succ k=>
  grind[hk,AXE,List.getElem?_eq_some_iff]
theorem AC3(S:mM)(i:Nat)(o:List DX)(r:Rg)(A:S.2.2.1[i]?=some o)(D:o.length<=8)(C:∀v∈o,v.length<=1048576)(B:∀s∈r.2,WF s):
 Tot (ZO (some S,(i:Int),r)) (λw=>GB w∧∀b,bt w b=KU o r b):=by
 unfold ZO;dsimp only;rw[A0,F8 A,A0];refine DY.2 (Tot.mono ?_ λ_ h=>DZ.2 h);refine FH o.length (λs k=>(r,s,o,(o.length:Int),k)) (λk s=>GB s/\∀b,bt s b=(KU o r b&&decide (b<=k))) oa (λnext s k hk a z=>?_) (λnext s a=>?_) 0 ⟨QX,λb=>?_⟩
 .unfold vB;dsimp only;rw[EK,A4 hk,A8,F8 (A1 hk),A0,FD oa];obtain⟨q,j,l⟩:=mO r o[k] B (C _ (AU hk));rw[j,A0,l];have y:KU o r _=QY r o[k]:=AC2 (A1 hk);refine D_.2 ⟨λx=>?_,λx=>?_⟩
  .rw[show((k:Int)+1)=((k+1:Nat)) by omega,(JZ oa).1,A0];obtain⟨d,e⟩:=mL a.1 (JZ (i:=k+1) oa).2;refine z _ ⟨d,λb=>?_⟩;rw[e,a.2,MM];grind
  grind
 .unfold vB;dsimp only;rw[EK,A7 (AC _)];refine DZ.2 ⟨a.1,λb=>?_⟩;rw[a.2];cases t:KU o r b with
  |false=>rfl
  |true=>rw[A4 (AXF t).2];rfl
 .rw[T4];cases b with
  |zero=>rfl
  |succ b=>simp
structure Fy(ns:List DX)(os:List (List DX)):Prop extends Fx ns os where
 nodup:ns.Nodup
 vers:∀o∈os,∀v∈o,v.length<=1048576
theorem PG{l:List DX}(h:l.Nodup){i j:Nat}{x:DX}(hi:l[i]?=some x)(a:l[j]?=some x):i=j:=by
 grind[List.getElem?_eq_some_iff,List.getElem_inj]
structure Rel(ns:List DX)(os:List (List DX))(M:Nat->Nat->FZ->Prop)(W:List (List Int))(A:List (List (List Int)))(st:List Int):Prop where
 shW:ShW ns.length os W
 shA:ShA ns.length os A
 shS:ShS ns.length st
 st:∀i<ns.length,∀a,bt (st.getD i 0) a=true<->a<=cnt os i/\∀nd,M i a nd->nd.1∈ns
 wa:∀i<ns.length,∀a≤cnt os i,∀k,bt (wa W i a) k=true<->∃nd,M i a nd/\ns[k]?=some nd.1
 al:∀i<ns.length,∀a≤cnt os i,∀j<ns.length,∀b,bt (al A i a j) b=true<->b<=cnt os j/\(∀nd,M i a nd->ns[j]?=some nd.1->KU (os.getD j []) nd.2.1 b=true)/\
  (∀nd,M j b nd->ns[i]?=some nd.1->KU (os.getD i []) nd.2.1 a=true)
theorem Rel.congr{b:List DX}{os:List (List DX)}{M M':Nat->Nat->FZ->Prop}{W:List (List Int)}{A:List (List (List Int))}{st:List Int}(h:Rel b os M W A st)(e:∀i a nd,M i a nd<->M' i a nd):Rel b os M' W A st:=by
 have:=funext λi=>funext λa=>funext λnd=>propext (e i a nd);rwa[<-this]
theorem AC4{α:Type}{l:List α}{i:Nat}{d:α}(h:i<l.length):l.getD i d∈l:=by
 grind
section
variable{t:F7}{ns:List DX}{os:List (List DX)}(hF:Fy ns os)
include hF
theorem LA(i:Nat):cnt os i<=8:=by
 unfold cnt;rcases CU i _ with h|h
 .exact hF.small _ (AC4 h)
 grind
theorem AXG(W:List (List Int))(A:List (List (List Int)))(st:List Int)(rt:Int)(z:ShA ns.length os A)(i a j:Nat)(hi:i<ns.length)(O:a<=cnt os i)(x:j<ns.length)(w:Int)(L:GB w):
 Tot (vC ((t,ns,os,W,A,st,rt),(i:Int),(a:Int),(j:Int),w,(((A.getD j []).length:Nat):Int),0)) (λS'=>∃ A',S'=(t,ns,os,W,A',st,rt)/\ShA ns.length os A' /\
  ∀k d l b,(k=j->d<=cnt os j)->bt (al A' k d l) b=(bt (al A k d l) b && !(decide (k=j/\l=i/\b=a) && !bt w d))):=by
 have r:=z.row j x;have H:=LA hF j;have G:=LA hF i;rw[r]
 have:=FH (r:=jG) (R:=mM) (cnt os j+1) (λs b=>((t,ns,os,W,s,st,rt),(i:Int),(a:Int),(j:Int),w,((cnt os j+1:Nat):Int),b))
  (λq s=>ShA ns.length os s/\∀k d l b,bt (al s k d l) b=(bt (al A k d l) b && !(decide (k=j/\l=i/\b=a)&&(!bt w d&&decide (d<q)))))
  (Q:=λS'=>∃ A',S'=(t,ns,os,W,A',st,rt)/\ShA ns.length os A' /\
   ∀k d l b,(k=j->d<=cnt os j)->bt (al A' k d l) b=(bt (al A k d l) b && !(decide (k=j/\l=i/\b=a) && !bt w d)))
  oa (λnext s q y v I=>?_) (λnext s v=>?_) A ⟨z,λk d l b=>oe⟩
 .exact this
 .obtain⟨o,v⟩:=v;unfold jG;dsimp only;rw[EK,A4 y,A8,PE L,A0,FD oa];have K:=o.row j x;have J:=o.cell j x q y;refine D_.2 ⟨λE=>?_,λE=>?_⟩
  .rw[AK,AK,AK,I5 oc,A0,I5 oa,A0,I5 oa,A0,(JZ (i:=a) oa).1,A0,A0];obtain⟨C,N⟩:=ABm (o.in16 j q i) (JZ (i:=a) oa).2;obtain⟨k1,M⟩:=AC1 o x y hi C;refine I _ ⟨k1,λk d l b=>?_⟩;have e:=M k d l;have B:al (s.set j ((s.getD j []).set q (((s.getD j []).getD q []).set i (OV u16 (((s.getD j []).getD q []).getD i 0) ((2 ^ a:Nat):Int))))) k d l=if k=j/\d=q/\l=i then OV u16 (al s j q i) ((2 ^ a:Nat):Int)else al s k d l:=e;rw[B];split
   .rename_i h;obtain⟨rfl,rfl,rfl⟩:=h;grind[MM]
   grind
  grind
 .obtain⟨o,v⟩:=v;unfold jG;dsimp only;rw[EK,A7 (AC _),AA];refine DZ.2 ⟨s,rfl,o,λk d l b D=>?_⟩;grind
theorem AXH{M:Nat->Nat->FZ->Prop}{W:List (List Int)}{A:List (List (List Int))}{st:List Int}{rt:Int}(l:Rel ns os M W A st)(i a:Nat)(hi:i<ns.length)(h6:1<=a)(ha:a<=cnt os i)(nd:FZ)(U:L9 nd)(E:ns[i]?≠some nd.1):
 Tot (jH ((t,ns,os,W,A,st,rt),(i:Int),(a:Int),nd)) (λS'=>∃W' A' I,S'=(t,ns,os,W',A',I,rt)/\Rel ns os (λs v y=>M s v y\/(s=i/\v=a/\y=nd)) W' A' I):=by
 have h7:=LA hF i;have X:=hF.few;unfold jH P6;dsimp only;rw[A0,WE _ _ oc,A0,A0];refine D_.2 ⟨λT=>?_,λT=>?_⟩
 .have h9:=(bI _ _).1 (A5 T);rw[AK,I5 (by rw[l.shS.len];exact hi),A0,(JZ (i:=a) oa).1,A0,A0];obtain⟨K,L⟩:=ABm (l.shS.in16 i) (JZ (i:=a) oa).2;obtain⟨k1,V⟩:=mR l.shS hi K;refine DZ.2 ⟨_,_,_,rfl,⟨l.shW,l.shA,k1,λs d v=>?_,λs d v o k=>?_,λs d v o j' D b=>?_⟩⟩
  .rw[V];split
   .rename_i h;subst h;rw[L,MM,A6,l.st _ d];grind
   .rename_i h;rw[l.st _ d];grind
  .rw[l.wa _ d _ o];grind
  .rw[l.al _ d _ o _ D];grind
 .have Z:¬_:=AF T;rcases LU (λx=>decide (nd.1=x)) ns with⟨G,_⟩|⟨j,x,G,z,O,_⟩
  .grind
  rw[G];have hx:nd.1=x:=A5 O;subst hx;have J:=(A9.1 z).1;have h8:i≠j:=λe=>E oc
  have H:os[j]?=some (os.getD j []):=by
   rw[AD,A1 (by rw[hF.len];exact J)];rfl
  have B:os.getD j []∈os:=AI H;have h5:=l.shW.row i hi;have h4:=l.shA.row i hi;have h0:=l.shA.cell i hi a oa;rw[AK,AK,AK,I5 oc,A0,I5 oa,A0,(JZ (i:=j) oa).1,A0,A0];obtain⟨K,L⟩:=mL (l.shW.in16 i a) (JZ (i:=j) oa).2;obtain⟨k1,V⟩:=AXD l.shW hi (show a<cnt os i+1 by omega) K;refine DY.2 ((AC3 _ j (os.getD j []) nd.2.1 H (hF.small _ B) (hF.vers _ B) U.2).mono λw Y=>?_);rw[I5 oc,A0,I5 oa,A0,I5 oa,A0,A0];obtain⟨m1,m2⟩:=WC (l.shA.in16 i a j) Y.1;obtain⟨n1,n2⟩:=AC1 l.shA hi (show a<cnt os i+1 by omega) J m1;rw[I5 (by rw[AQ,l.shA.len];exact J),A0];refine DY.2 ((AXG hF _ _ st rt n1 i a j hi ha J w Y.1).mono λS' hS=>?_);obtain⟨A',rfl,Q,R⟩:=hS;refine DZ.2 ⟨_,A',st,rfl,⟨k1,Q,l.shS,λs d v=>?_,λs d v o k=>?_,λs d v o j' D b=>?_⟩⟩
  .rw[l.st _ d];grind
  .have e:wa (W.set i ((W.getD i []).set a (II u16 ((W.getD i []).getD a 0) ((2 ^ j:Nat):Int)))) s v=if s=i/\v=a then II u16 (wa W i a) ((2 ^ j:Nat):Int)else wa W s v:=V s v;rw[e];split
   .rename_i h;obtain⟨rfl,rfl⟩:=h;rw[L,MM,BK,l.wa _ d _ o];constructor
    .grind
    .rintro⟨y,G|⟨_,_,rfl⟩,h2⟩
     .grind
     .exact .inr (A4 (PG hF.nodup z h2))
   .rename_i h;rw[l.wa _ d _ o];grind
  .have base:=l.al _ d _ o _ D b;by_cases q:s=j
   ·
    grind
   ·
    rw[R _ _ _ _ (λh=>absurd h q),n2,A7 (λh=>q h.1),D5,BW,Bool.and_true];split
    .grind
    .rename_i h;rw[base];constructor
     .rintro⟨G,N,O⟩;refine⟨G,λy r C=>r.elim (λr=>N _ r C) λr=>?_,λy r C=>r.elim (λr=>O _ r C) λr=>?_⟩
      .rw[r.2.2]at C;exact absurd ⟨r.1,r.2.1,PG hF.nodup C z⟩ h
      .rw[r.2.2]at C;exact absurd (PG hF.nodup C z) q
     grind
end
def K0(t:F7)(ns:List DX)(os:List (List DX))(i:Nat):Nat->List FZ
 |0=>[]
 |k+1=>match(os.getD i [])[k]?,ns[i]? with
  |some v,some nm=>H2 t (nm,v)
  |_,_=>[]
theorem AC5{t:F7}{b:List DX}{os:List (List DX)}{i k:Nat}{v a:DX}(h:(os.getD i [])[k]?=some v)(d:b[i]?=some a):K0 t b os i (k+1)=H2 t (a,v):=by
 show(match(os.getD i [])[k]?,b[i]? with|some v,some a=>H2 t _|_,_=>[])=_;rw[h,d]
theorem WG{t:F7}{d:List DX}{os:List (List DX)}{i a:Nat}{nd:FZ}(h:nd∈K0 t d os i a):∃k v b,a=k+1/\(os.getD i [])[k]?=some v/\d[i]?=some b/\nd∈H2 t (b,v):=by
 cases a with
 |zero=>cases h
 |succ k=>
  have h:nd∈(match(os.getD i [])[k]?,d[i]? with|some v,some b=>H2 t _|_,_=>[]):=h;grind
section
variable{t:F7}{ns:List DX}{os:List (List DX)}(hF:Fy ns os)(ht:TkB t)(hN:∀i a nd,nd∈K0 t ns os i a->L9 nd/\ns[i]?≠some nd.1)
include hF ht hN
theorem AXI{M:Nat->Nat->FZ->Prop}{W:List (List Int)}{A:List (List (List Int))}{st:List Int}{rt:Int}(z:Rel ns os M W A st)(i k:Nat)(hi:i<ns.length)(hk:k<cnt os i)(l:List FZ)(B:l.length<=1048576)(q:∀nd∈l,L9 nd/\ns[i]?≠some nd.1):
 Tot (vK ((t,ns,os,W,A,st,rt),(i:Int),(k:Int),l,(l.length:Int),0)) (λS'=>∃W' A' b,S'=(t,ns,os,W',A',b,rt)/\Rel ns os (λe d a=>M e d a\/(e=i/\d=k+1/\a∈l)) W' A' b):=by
 have v:=LA hF i
 refine FH l.length (λs m=>((t,ns,os,s.1,s.2.1,s.2.2,rt),(i:Int),(k:Int),l,(l.length:Int),m))
  (λm s=>Rel ns os (λe d a=>M e d a\/(e=i/\d=k+1/\a∈l.take m)) s.1 s.2.1 s.2.2) oa (λnext s m h j w=>?_) (λnext s j=>?_) (W,A,st) ?_
 .unfold vJ;dsimp only;rw[EK,A4 h,F8 (A1 h),A0,FD oa,FD oa];obtain⟨x,y⟩:=q _ (AU h);have:=AXH (t:=t) (rt:=rt) hF j i (k+1) hi oa oa l[m] x y;refine DY.2 (this.mono λS' r=>?_);obtain⟨W',A',b,rfl,o⟩:=r;refine w (W',A',b) (o.congr λe d a=>?_);rw[FN (A1 h),AS,AJ];grind
 .unfold vJ;dsimp only;rw[EK,A7 (AC _),AA];rw[AG]at j;exact DZ.2 ⟨_,_,_,rfl,j⟩
 simp_all
theorem AXJ{M:Nat->Nat->FZ->Prop}{W:List (List Int)}{A:List (List (List Int))}{st:List Int}{rt:Int}(C:Rel ns os M W A st)(i:Nat)(hi:i<ns.length):
 Tot (vM ((t,ns,os,W,A,st,rt),(i:Int),os.getD i [],((os.getD i []).length:Int),0)) (λS'=>∃W' A' d,S'=(t,ns,os,W',A',d,rt)/\Rel ns os (λe b a=>M e b a\/(e=i/\a∈K0 t ns os i b)) W' A' d):=by
 have G:=LA hF i;have E:cnt os i=(os.getD i []).length:=rfl
 refine FH (os.getD i []).length (λs m=>((t,ns,os,s.1,s.2.1,s.2.2,rt),(i:Int),os.getD i [],((os.getD i []).length:Int),m))
  (λm s=>Rel ns os (λe b a=>M e b a\/(e=i/\b<=m/\a∈K0 t ns os i b)) s.1 s.2.1 s.2.2) oa (λnext s k hk y H=>?_) (λnext s y=>?_) (W,A,st) ?_
 .unfold vL;dsimp only;have z:=A1 hk;have q:=A1 hi;rw[EK,A4 hk,F8 z,A0,F8 q,A0,mN _ _ ht.offers (λo x=>(ht.offer o x).2.2.1),A0,FD oa];have l:=AC5 (t:=t) z q;rw[<-l]
  have j:(K0 t ns os i (k+1)).length<=1048576:=by
   rw[l];unfold H2;split
   .rename_i o x;exact AT (B8 _ _) (ht.offer o (CQ x)).2.2.1
   .simp
  have:=AXI hF ht hN (rt:=rt) y i k hi oa _ j (λnd h=>hN i (k+1) nd h);refine DY.2 (this.mono λS' D=>?_);obtain⟨W',A',d,rfl,w⟩:=D;refine H (W',A',d) (w.congr λe b a=>?_);grind
 .unfold vL;dsimp only;rw[EK,A7 (AC _),AA];refine DZ.2 ⟨_,_,_,rfl,y.congr λe b a=>?_⟩;constructor
  .grind
  .rintro(h|⟨B,r⟩)
   .exact .inl h
   .obtain⟨k,v,I,rfl,K,L,N⟩:=WG r;grind
 .refine C.congr λe b a=>⟨.inl,λh=>h.elim id λh=>?_⟩;obtain⟨B,J,r⟩:=h;obtain⟨k,v,I,rfl,_⟩:=WG r;omega
theorem AXK{W:List (List Int)}{A:List (List (List Int))}{st:List Int}{rt:Int}(C:Rel ns os (λ_ _ _=>False) W A st):
 Tot (vO ((t,ns,os,W,A,st,rt),(ns.length:Int),0)) (λS'=>∃W' A' b,S'=(t,ns,os,W',A',b,rt)/\Rel ns os (λd e a=>a∈K0 t ns os d e) W' A' b):=by
 refine FH ns.length (λs m=>((t,ns,os,s.1,s.2.1,s.2.2,rt),(ns.length:Int),m))
  (λm s=>Rel ns os (λd e a=>d<m/\a∈K0 t ns os d e) s.1 s.2.1 s.2.2) (by have:=hF.few;omega) (λnext s i l q w=>?_) (λnext s q=>?_) (W,A,st) ?_
 .unfold vN;dsimp only;have o:i<os.length:=by rw[hF.len];exact l
  have x:os[i]?=some (os.getD i []):=by
   rw[AD,A1 o];rfl
  rw[EK,A4 l,F8 x,A0,FD (by have:=hF.few;omega)];refine DY.2 ((AXJ hF ht hN q i l).mono λS' r=>?_);obtain⟨W',A',b,rfl,j⟩:=r;refine w (W',A',b) (j.congr λd e a=>?_);grind
 .unfold vN;dsimp only;rw[EK,A7 (AC _),AA];refine DZ.2 ⟨_,_,_,rfl,q.congr λd e a=>⟨λh=>h.2,λh=>⟨?_,h⟩⟩⟩;obtain⟨k,v,D,rfl,y,z,B⟩:=WG h;grind
 grind
omit hN ht in
theorem AXL:Rel ns os (λ_ _ _=>False) (os.map λo=>List.replicate (o.length+1) 0) (os.map λo=>List.replicate (o.length+1) (IC os)) (os.map λo=>LV (o.length+1)):=by
 have d:=hF.len;have x:∀i,cnt os i=(os.getD i []).length:=λ_=>rfl
 have z:∀i,i<ns.length->os[i]?=some (os.getD i []):=λi h=>by
  grind
 have v:∀i,(os.map λo=>List.replicate (o.length+1) (0:Int)).getD i []=if i<ns.length then List.replicate (cnt os i+1) 0 else []:=by
  intro i;split
  .grind
  .rw[mQ oc]
 have t:∀i,(os.map λo=>List.replicate (o.length+1) (IC os)).getD i []=if i<ns.length then List.replicate (cnt os i+1) (IC os)else []:=by
  intro i;split
  .grind
  .rw[mQ oc]
 have e:∀j,(IC os).getD j 0=if j<ns.length then LV (cnt os j+1)else 0:=by
  intro j;unfold IC;split
  .grind
  .rw[mQ oc]
 have l:∀j,GB ((IC os).getD j 0):=by
  intro j;rw[e];split
  .exact(A0Y (n:=cnt os j+1) (by grind[LA])).2
  .exact QX
 have q:∀i a,wa (os.map λo=>List.replicate (o.length+1) (0:Int)) i a=0:=by
  intro i a;unfold wa;rw[v];split
  .grind
  .rfl
 have r:∀i a j,al (os.map λo=>List.replicate (o.length+1) (IC os)) i a j=if i<ns.length/\a<cnt os i+1 then(IC os).getD j 0 else 0:=by
  intro i a j;unfold al;rw[t];by_cases h:i<ns.length
  .grind
  .grind
 have s:∀i,(os.map λo=>LV (o.length+1)).getD i 0=if i<ns.length then LV (cnt os i+1)else 0:=e
 refine ⟨⟨by rw [AN,d],λi h=>by rw [v,if_pos h,BN],λi a=>by rw [q]; exact QX⟩,
  ⟨by rw[AN,d],λi h=>by rw[t,if_pos h,BN],λi h a w=>?_,λi a j=>?_⟩,
  ⟨by rw[AN,d],l⟩,λi h a=>?_,λi h a w k=>?_,λi h a w j y b=>?_⟩
 .simp_all[if_pos,AD,DW,IC,AN]
 .grind[QX]
 .rw[s,if_pos h];unfold LV;rw[ABn];grind
 .rw[q,T4];simp
 .rw[r,if_pos ⟨h,oa⟩,e,if_pos y];unfold LV;rw[ABn];grind
theorem AXM(rt:Int):Tot (jI (t,ns,os,([]:List (List Int)),([]:List (List (List Int))),os.map (λo=>LV (o.length+1)),rt)) (λS'=>∃W' A' s,S'=(t,ns,os,W',A',s,rt)/\Rel ns os (λi b a=>a∈K0 t ns os i b) W' A' s):=by
 unfold jI;rw[AXC t ns os hF.toFx,A0];grind[DY,AXK,AXL,DZ]
end
structure Dm(n:Nat)(P:Nat->Nat->Prop)(R:Nat->Prop)(st:List Int)(rt:Int):Prop where
 shS:ShS n st
 in16:GB rt
 st:∀i<n,∀a,bt (st.getD i 0) a=true<->P i a
 rt:∀i,bt rt i=true<->R i
theorem Dm.congr{n:Nat}{P P':Nat->Nat->Prop}{R R':Nat->Prop}{st:List Int}{rt:Int}(h:Dm n P R st rt)(e:∀i<n,∀a,P i a<->P' i a)(d:∀i,R i<->R' i):Dm n P' R' st rt:=
 ⟨h.shS,h.in16,λi b a=>(h.st i b a).trans (e i b a),λi=>(h.rt i).trans (d i)⟩
theorem AC6{n:Nat}{P:Nat->Nat->Prop}{R:Nat->Prop}{st:List Int}{rt:Int}(h:Dm n P R st rt){j:Nat}(o:j<n)(b:j<=15){w:Int}(q:GB w):
 Dm n (λi a=>P i a/\(i=j->bt w a=true)) (λi=>R i\/i=j) (st.set j (JC u16 (st.getD j 0) w)) (II u16 rt ((2 ^ j:Nat):Int)):=by
 obtain⟨k,l⟩:=WC (h.shS.in16 j) q;obtain⟨k1,r⟩:=mR h.shS o k;obtain⟨s,t⟩:=mL h.in16 (JZ b).2;refine⟨k1,s,λi d a=>?_,λi=>?_⟩
 .rw[r];split
  .rename_i e;subst e;rw[l,A6,h.st _ d];simp
  .rename_i e;rw[h.st _ d];grind
 .rw[t,MM,BK,h.rt,AW];grind
def oF(o:List DX)(v:DX)(a:Nat):Bool:=match HW (λx=>decide (v=x)) o with
 | .ofNat k=>decide (a=k+1)
 | .negSucc _=>false
section
variable{t:F7}{ns:List DX}{os:List (List DX)}(hF:Fy ns os)(ht:TkB t)
include hF ht
theorem AXN{W:List (List Int)}{A:List (List (List Int))}{st:List Int}{rt:Int}{P:Nat->Nat->Prop}{R:Nat->Prop}(M:Dm ns.length P R st rt)(l:List FZ)(U:l.length<=1048576)(H:∀nd∈l,L9 nd):
 Tot (vQ ((t,ns,os,W,A,st,rt),l,(l.length:Int),0)) (λq=>match q with
  | .inl S'=>∃C B,S'=(t,ns,os,W,A,C,B)/\(∀nd∈l,nd.1∈ns)/\Dm ns.length (λi a=>P i a/\∀nd∈l,ns[i]?=some nd.1->KU (os.getD i []) nd.2.1 a=true) (λi=>R i\/∃nd∈l,ns[i]?=some nd.1) C B
  | .inr y=>y.2=false/\∃nd∈l,nd.1 ∉ ns):=by
 have K:=hF.few
 refine FH (σ:=List Int×Int) l.length (λs m=>((t,ns,os,W,A,s.1,s.2),l,(l.length:Int),m))
  (λm s=>(∀nd∈l.take m,nd.1∈ns)/\Dm ns.length (λi a=>P i a/\∀nd∈l.take m,ns[i]?=some nd.1->KU (os.getD i []) nd.2.1 a=true) (λi=>R i\/∃nd∈l.take m,ns[i]?=some nd.1) s.1 s.2)
  oa (λnext s m k o N=>?_) (λnext s o=>?_) (st,rt) ⟨oe,M.congr (λi _ a=>oe) (λi=>oe)⟩
 .obtain⟨J,o⟩:=o;unfold vP P6;dsimp only;rw[EK,A4 k,A8,F8 (A1 k),A0,A0,WE _ _ oc,A0,A0,FD oa];refine D_.2 ⟨λE=>?_,λE=>?_⟩
  .exact DZ.2 ⟨rfl,l[m],AU k,(bI _ _).1 (A5 E)⟩
  .have L:¬_:=AF E;rcases LU (λx=>decide (l[m].1=x)) ns with⟨v,_⟩|⟨j,x,v,e,I,_⟩
   .grind
   rw[v];have Q:l[m].1=x:=A5 I;subst Q;have G:=(A9.1 e).1
   have z:os[j]?=some (os.getD j []):=by
    rw[AD,A1 (by rw[hF.len];exact G)];rfl
   have b:os.getD j []∈os:=AI z;rw[AK,I5 (by rw[o.shS.len];exact G),A0];refine DY.2 ((AC3 _ j (os.getD j []) l[m].2.1 z (hF.small _ b) (hF.vers _ b) (H _ (AU k)).2).mono λw O=>?_);rw[A0,(JZ (i:=j) oa).1,A0];have r:=AC6 o G oa O.1;refine N (_,_) ⟨λnd h=>?_,r.congr (λi T a=>?_) (λi=>?_)⟩
   .rw[FN (A1 k),AS,AJ]at h;grind
   .rw[FN (A1 k)];constructor
    .rintro⟨⟨v,D⟩,I⟩;refine⟨v,λnd h d=>?_⟩;rw[AS,AJ]at h;rcases h with h|rfl
     .exact D _ h d
     .have:=PG hF.nodup d e;grind
    .rintro⟨v,D⟩;refine⟨⟨v,λnd h d=>D _ (CH _ h) d⟩,λh=>?_⟩;grind
   .rw[FN (A1 k)];constructor
    .rintro((h|⟨nd,h,d⟩)|rfl)<;>grind
    .rintro(h|⟨nd,h,d⟩)
     .grind
     .rw[AS,AJ]at h;rcases h with h|rfl
      .grind
      .exact .inr (PG hF.nodup d e)
 .unfold vP;dsimp only;rw[EK,A7 (AC _),AA];rw[AG]at o;exact DZ.2 ⟨_,_,rfl,o⟩
theorem AXO(o:List DX)(v:DX)(i:o.length<=8):Tot (jJ ((0:Int),HW (λx=>decide (v=x)) o,decide ((0:Int)<=HW (λx=>decide (v=x)) o))) (λw=>GB w/\∀a,bt w a=oF o v a):=by
 unfold jJ oF;dsimp only;rcases LU _ o with⟨h,_⟩|⟨j,x,h,b,d,_⟩
 .rw[h];exact DZ.2 ⟨QX,λa=>T4 a⟩
 .have e:=(A9.1 b).1;rw[h,A4 oa,FD oa];have:=JZ (i:=j+1) oa;rw[show((j)+1)=((j+1:Nat):Int) by omega,this.1];grind[DZ,MM,decide,decide_eq_false]
theorem AXP{W:List (List Int)}{A:List (List (List Int))}{st:List Int}{rt:Int}{P:Nat->Nat->Prop}{R:Nat->Prop}(M:Dm ns.length P R st rt)(l:List DX)(U:l.length<=1048576):
 Tot (vS ((t,ns,os,W,A,st,rt),l,(l.length:Int),0)) (λq=>match q with
  | .inl S'=>∃z v,S'=(t,ns,os,W,A,z,v)/\(∀fz∈l,fz∈ns)/\Dm ns.length (λi a=>P i a/\∀fz∈l,ns[i]?=some fz->oF (os.getD i []) (F5 t.2.2.2.1 fz).1 a=true) (λi=>R i\/∃fz∈l,ns[i]?=some fz) z v
  | .inr y=>y.2=false/\∃fz∈l,fz ∉ ns):=by
 have J:=hF.few
 refine FH (σ:=List Int×Int) l.length (λs m=>((t,ns,os,W,A,s.1,s.2),l,(l.length:Int),m))
  (λm s=>(∀fz∈l.take m,fz∈ns)/\Dm ns.length (λi a=>P i a/\∀fz∈l.take m,ns[i]?=some fz->oF (os.getD i []) (F5 t.2.2.2.1 fz).1 a=true) (λi=>R i\/∃fz∈l.take m,ns[i]?=some fz) s.1 s.2)
  oa (λnext s m k d N=>?_) (λnext s d=>?_) (st,rt) ⟨oe,M.congr (λi _ a=>oe) (λi=>oe)⟩
 .obtain⟨I,d⟩:=d;unfold vR P6;dsimp only;rw[EK,A4 k,A8,F8 (A1 k),A0,A0,WE _ _ oc,A0,A0,FD oa];refine D_.2 ⟨λD=>?_,λD=>?_⟩
  .exact DZ.2 ⟨rfl,l[m],AU k,(bI _ _).1 (A5 D)⟩
  .have K:¬_:=AF D;rcases LU (λx=>decide (l[m]=x)) ns with⟨B,_⟩|⟨j,x,B,b,H,_⟩
   .grind
   rw[B];have Q:l[m]=x:=A5 H;subst Q;have E:=(A9.1 b).1
   have o:os[j]?=some (os.getD j []):=by
    rw[AD,A1 (by rw[hF.len];exact E)];rfl
   have r:os.getD j []∈os:=AI o;have G:=hF.small _ r;rw[OL _ _ (by have:=ht.old;omega),A0,F8 o,A0,WE _ _ oa,A0];refine DY.2 ((AXO hF ht (os.getD j []) (F5 t.2.2.2.1 l[m]).1 G).mono λw O=>?_);rw[AK,I5 (by rw[d.shS.len];exact E),A0,A0,(JZ (i:=j) oa).1,A0];have e:=AC6 d E oa O.1;refine N (_,_) ⟨λfz h=>?_,e.congr (λi T a=>?_) (λi=>?_)⟩
   .rw[FN (A1 k),AS,AJ]at h;grind
   .rw[FN (A1 k)];constructor
    .rintro⟨⟨B,L⟩,H⟩;refine⟨B,λfz h C=>?_⟩;rw[AS,AJ]at h;rcases h with h|rfl
     .exact L _ h C
     .have:=PG hF.nodup C b;grind
    grind
   .rw[FN (A1 k)];constructor
    .grind
    .rintro(h|⟨fz,h,C⟩)
     .grind
     .rw[AS,AJ]at h;rcases h with h|rfl
      .grind
      .exact .inr (PG hF.nodup C b)
 .unfold vR;dsimp only;rw[EK,A7 (AC _),AA];rw[AG]at d;exact DZ.2 ⟨_,_,rfl,d⟩
end
structure Good(t:F7)(ns:List DX)(os:List (List DX))(W:List (List Int))(A:List (List (List Int)))(st:List Int)(rt:Int):Prop where
 shW:ShW ns.length os W
 shA:ShA ns.length os A
 shS:ShS ns.length st
 in16:GB rt
 st:∀i<ns.length,∀a,bt (st.getD i 0) a=true<->a<=cnt os i/\(∀nd∈K0 t ns os i a,nd.1∈ns)/\(∀nd∈I6 t.2.2.1 t.2.1,ns[i]?=some nd.1->KU (os.getD i []) nd.2.1 a=true)/\
  (∀fz∈t.2.2.2.2.1,ns[i]?=some fz->oF (os.getD i []) (F5 t.2.2.2.1 fz).1 a=true)
 wa:∀i<ns.length,∀a≤cnt os i,∀k,bt (wa W i a) k=true<->∃nd∈K0 t ns os i a,ns[k]?=some nd.1
 al:∀i<ns.length,∀a≤cnt os i,∀j<ns.length,∀b,bt (al A i a j) b=true<->b<=cnt os j/\(∀nd∈K0 t ns os i a,ns[j]?=some nd.1->KU (os.getD j []) nd.2.1 b=true)/\
  (∀nd∈K0 t ns os j b,ns[i]?=some nd.1->KU (os.getD i []) nd.2.1 a=true)
 rt:∀i,bt rt i=true<->(∃nd∈I6 t.2.2.1 t.2.1,ns[i]?=some nd.1)\/∃fz∈t.2.2.2.2.1,ns[i]?=some fz
def mS(t:F7)(ns:List DX):Prop:=(∀nd∈I6 t.2.2.1 t.2.1,nd.1∈ns)/\∀fz∈t.2.2.2.2.1,fz∈ns
noncomputable def F_(t:F7):List (List DX):=(ES t.1).map (KG t)
theorem AXQ(t:F7)(b:TkB t)(hF:Fy (ES t.1) (F_ t))(H:∀i a nd,nd∈K0 t (ES t.1) (F_ t) i a->L9 nd/\(ES t.1)[i]?≠some nd.1):
 Tot (jK t) (λq=>(q.2=false/\¬mS t (ES t.1))\/(q.2=true/\mS t (ES t.1)/\∃W A st rt,q.1=some (t,ES t.1,F_ t,W,A,st,rt)/\Good t (ES t.1) (F_ t) W A st rt)):=by
 have D:=hF.few;unfold jK;rw[AX7 t t.1 b.offers,A0];rw[AX8 t b (ES t.1) oa (λs E=>?_),A0]
 .have l:(ES t.1).map (λs=>LV ((KG t s).length+1))=(F_ t).map (λo=>LV (o.length+1)):=by
   unfold F_;rw[List.map_map];rfl
  rw[l];refine DY.2 ((AXM hF b H 0).mono λS' I=>?_);obtain⟨W,A,st,rfl,j⟩:=I;refine DY.2 ?_;unfold vT;rw[bG _ _ b.needs,A0];have G:Dm _ _ (λ_=>False) st 0:=⟨j.shS,QX,j.st,λi=>by simp[T4]⟩;refine DY.2 ((AXN hF b G (I6 _ t.2.1) (AT (B8 _ _) b.needs) (λnd h=>b.need nd (BM.1 h).1)).mono λq r=>?_);rcases q with S'|y
  .obtain⟨M,L,rfl,k,z⟩:=r;refine DY.2 ((AXP hF b z _ b.frozen).mono λq r=>?_);rcases q with S'|y
   .obtain⟨C,B,rfl,e,d⟩:=r;refine DZ.2 (DZ.2 (.inr ⟨rfl,⟨k,e⟩,W,A,C,B,rfl,⟨j.shW,j.shA,d.shS,d.in16,λi J a=>?_,j.wa,j.al,λi=>?_⟩⟩))
    .rw[d.st i J];grind
    .rw[d.rt];simp
   .obtain⟨v,fz,w,x⟩:=r;exact DZ.2 (DZ.2 (.inl ⟨v,λh=>x (h.2 fz w)⟩))
  .obtain⟨v,nd,w,x⟩:=r;exact DZ.2 (DZ.2 (.inl ⟨v,λh=>x (h.1 nd w)⟩))
 .obtain⟨o,K,rfl⟩:=(T6 _ _).1 E;exact⟨(b.offer o K).1,hF.small _ (List.mem_map_of_mem E)⟩
inductive Reach (n:Nat) (os:List (List DX)) (W:List (List Int)) (rt:Int) (h:Nat->Nat->Prop):Nat->Prop
 |root {i:Nat}:bt rt i=true->Reach n os W rt h i
 |step {i a j:Nat}:Reach n os W rt h i->i<n->a<=cnt os i->h i a->bt (wa W i a) j=true->Reach n os W rt h j
theorem Reach.mono{n:Nat}{os:List (List DX)}{W:List (List Int)}{rt:Int}{h d:Nat->Nat->Prop}(o:∀i<n,∀a,h i a->d i a){j:Nat}(r:Reach n os W rt h j):Reach n os W rt d j:=by
 induction r with
 |root b=>exact .root b
 |step _ b e k l q=>exact .step q b e (o _ b _ k) l
theorem AXR{a b:Int}(h:GB a)(d:GB b):a<=II u16 a b:=by
 have e:II u16 a b=((a.toNat|||b.toNat)):=by
  unfold II;rw[show u16.bits=16 from rfl,BitVec.toNat_or,QW h,QW d];exact WB (Nat.or_lt_two_pow (n:=16) (by have:=h.2;omega) (by have:=d.2;omega))
 grind[Nat.left_le_or]
section
variable{t:F7}{ns:List DX}{os:List (List DX)}{W:List (List Int)}{A:List (List (List Int))}{st:List Int}{rt:Int}(hF:Fy ns os)(hG:Good t ns os W A st rt)
include hF hG
structure Pass(P:Prop)(R:Nat->Prop)(o:Int)(g:Bool)(o':Int)(g':Bool):Prop where
 in16:GB o'
 le:o<=o'
 sub:∀k,bt o k=true->bt o' k=true
 snd:(∀k,bt o k=true->R k)->∀k,bt o' k=true->R k
 up:g'=true->g=true\/o<o'
 cl:g'=false->g=false/\o'=o/\P
omit hF hG in
theorem Pass.next{P P':Prop}{R:Nat->Prop}{o o1 o2:Int}{g d e:Bool}(b:Pass P R o g o1 d)(a:Pass P' R o1 d o2 e):Pass (P/\(o1=o->P')) R o g o2 e:=
 ⟨a.in16,Int.le_trans b.le a.le,λk h=>a.sub k (b.sub k h),λh=>a.snd (b.snd h),
  λh=>(a.up h).elim (λh=>(b.up h).imp id λh=>Int.lt_of_lt_of_le h a.le) λh=>.inr (Int.lt_of_le_of_lt b.le h),
  λh=>by
   obtain⟨i,j,l⟩:=a.cl h;obtain⟨q,r,s⟩:=b.cl i;grind⟩
theorem AXS(left:List Int)(D:ShS ns.length left)(R:Nat->Prop)(i:Nat)(hi:i<ns.length)(o:Int)(H:GB o)(g:Bool)
 (I:∀a≤cnt os i,bt (left.getD i 0) a=true->∀k,bt (wa W i a) k=true->R k):
 Tot (wF (some (t,ns,os,W,A,st,rt),left,o,g,(i:Int),(((W.getD i []).length:Nat):Int),0)) (λq=>Pass (∀a≤cnt os i,bt (left.getD i 0) a=true->∀k,bt (wa W i a) k=true->bt o k=true) R o g q.1 q.2):=by
 have G:=LA hF i;have E:=hG.shW.row i hi
 refine FH (σ:=Int×Bool) (W.getD i []).length (λs a=>(some _,left,s.1,s.2,(i:Int),(((W.getD i []).length:Nat):Int),a))
  (λm s=>Pass (∀a,a<m->bt (left.getD i 0) a=true->∀k,bt (wa W i a) k=true->bt o k=true) R o g s.1 s.2) oa (λnext s a v b x=>?_) (λnext s b=>?_) (o,g)
  ⟨H,AR _,λ_ h=>h,λh=>h,.inl,λh=>⟨h,rfl,λa v=>oa⟩⟩
 .unfold wE;dsimp only;have w:left[i]?=some (left.getD i 0):=by rw[AD,A1 (by rw[D.len];exact hi)];rfl
  have r:W[i]?=some (W.getD i []):=by rw[AD,A1 oc];rfl
  have e:(W.getD i [])[a]?=some (wa W i a):=by unfold wa;rw[AD (l:=W.getD i []),A1 v];rfl
  rw[EK,A4 v,A8,F8 w,A0,PE (D.in16 i),A0,FD oa];have d:=mL b.in16 (hG.shW.in16 i a);cases J:bt (left.getD i 0) a with
  |false=>
   refine x s ⟨b.in16,b.le,b.sub,b.snd,b.up,λh=>?_⟩;obtain⟨z,B,C⟩:=b.cl h;grind
  |true=>
   simp only[A8,A0,D0];rw[F8 r,A0,F8 e,A0];refine D_.2 ⟨λj=>?_,λj=>?_⟩
   .rw[A0,F8 e,A0]
    have y:=by
     rw[E0]at j;have:decide (II u16 s.1 (wa W i a)=s.1)=false:=by simpa using j
     exact AF this
    have l:=AXR b.in16 (hG.shW.in16 i a);refine x (II u16 s.1 (wa W i a),true) ⟨d.1,Int.le_trans b.le l,λk h=>(d.2 k).trans (by rw[b.sub k h];rfl),λh k hk=>?_,λ_=>.inr (Int.lt_of_le_of_lt b.le (Int.lt_iff_le_and_ne.2 ⟨l,Ne.symm y⟩)),λh=>(ol)⟩;have hk:=(d.2 k).symm.trans hk;rw[BK]at hk;rcases hk with hk|hk
    .exact b.snd h k hk
    grind
   .have K:II u16 s.1 (wa W i a)=s.1:=by
     rw[E0]at j;have:decide (II u16 s.1 (wa W i a)=s.1)=true:=by simpa using j
     exact A5 this
    refine x s ⟨b.in16,b.le,b.sub,b.snd,b.up,λh=>?_⟩;obtain⟨z,B,C⟩:=b.cl h;grind
 .unfold wE;dsimp only;rw[EK,A7 (AC _)];refine DZ.2 ⟨b.in16,b.le,b.sub,b.snd,b.up,λh=>?_⟩;obtain⟨z,B,C⟩:=b.cl h;grind
theorem AXT(left:List Int)(D:ShS ns.length left)(R:Nat->Prop)(o:Int)(E:GB o)(l:∀k,bt o k=true->R k)
 (C:∀i<ns.length,R i->∀a≤cnt os i,bt (left.getD i 0) a=true->∀k,bt (wa W i a) k=true->R k):
 Tot (wH (some (t,ns,os,W,A,st,rt),left,o,false,(ns.length:Int),0)) (λq=>Pass (∀i<ns.length,bt o i=true->∀a≤cnt os i,bt (left.getD i 0) a=true->∀k,bt (wa W i a) k=true->bt o k=true) R o false q.1 q.2):=by
 have v:=hF.few
 refine FH ns.length (λs i=>(some _,left,s.1,s.2,(ns.length:Int),i))
  (λm s=>Pass (∀i,i<m->bt o i=true->∀a≤cnt os i,bt (left.getD i 0) a=true->∀k,bt (wa W i a) k=true->bt o k=true) R o false s.1 s.2) oa (λnext s i j b w=>?_) (λnext s b=>?_) (o,false)
  ⟨E,AR _,λ_ h=>h,λh=>h,.inl,λh=>⟨h,rfl,λa I=>oa⟩⟩
 .unfold wG;dsimp only;have r:W[i]?=some (W.getD i []):=by rw[AD,A1 (by rw[hG.shW.len];exact j)];rfl
  rw[EK,A4 j,A8,PE b.in16,FD oa];refine D_.2 ⟨λe=>?_,λe=>?_⟩
  .refine w s ⟨b.in16,b.le,b.sub,b.snd,b.up,λh=>?_⟩;obtain⟨y,z,B⟩:=b.cl h;grind
  .have e:bt s.1 i=true:=by simpa using e
   rw[A0,F8 r,A0];refine DY.2 ((AXS hF hG left D R i j s.1 b.in16 s.2 (C i j (b.snd l i e))).mono λq x=>?_);have d:=b.next x;refine w q ⟨d.in16,d.le,d.sub,d.snd,d.up,λh=>?_⟩;obtain⟨y,z,B,G⟩:=d.cl h;obtain⟨_,H,_⟩:=b.cl (x.cl h).1;grind
 simp_all[wG,EK,A7,AC,AA,DZ]
theorem AXU(left:List Int)(H:ShS ns.length left):
 Tot (jT (some (t,ns,os,W,A,st,rt),left)) (λq=>GB q/\∀k,bt q k=true<->Reach ns.length os W rt (λi a=>bt (left.getD i 0) a=true) k):=by
 unfold jT;dsimp only;rw[A0];refine DY.2 (Tot.mono ?_ λq b=>DZ.2 b)
 refine F6
  (λy:(Option mM)×List Int×Int×Bool=>y.1=some _/\y.2.1=left/\GB y.2.2.1/\(∀ k,bt rt k=true->bt y.2.2.1 k=true)/\(∀ k,bt y.2.2.1 k=true->Reach ns.length os W rt (λi a=>bt (left.getD i 0) a=true) k) /\
   (y.2.2.2=false->∀i<ns.length,bt y.2.2.1 i=true->∀a≤cnt os i,bt (left.getD i 0) a=true->∀k,bt (wa W i a) k=true->bt y.2.2.1 k=true))
  (λy=>2*(65536-y.2.2.1.toNat)+if y.2.2.2 then 1 else 0) ?_ _ _ ⟨rfl,rfl,hG.in16,λ_ h=>h,λk h=>.root h,λh=>ol⟩ (by grind[fuel])
 rintro next ⟨s,l,o,g⟩ v x
 dsimp only at v x;obtain⟨rfl,rfl,j,z,d,K⟩:=v;unfold A4Z;refine D_.2 ⟨λw=>?_,λw=>?_⟩
 .subst w;rw[A0];refine DY.2 ((AXT hF hG l H _ o j d (λi E r a B C k hk=>.step r E B C hk)).mono λq b=>?_);refine x _ ⟨rfl,rfl,b.in16,λk h=>b.sub k (z k h),b.snd d,λh=>?_⟩ ?_
  .obtain⟨_,e,L⟩:=b.cl h;grind
  .dsimp only;have I:=b.le;have:=b.in16;have J:=j.1;have G:=this.2;cases D:q.2 with
   |false=>
    grind
   |true=>
    have:=(b.up D).elim (λh=>ol) id;omega
 .refine DZ.2 ⟨j,λk=>⟨d k,λr=>?_⟩⟩;induction r<;>grind
def PN(ns:List DX)(os:List (List DX))(W:List (List Int))(rt:Int)(h:Nat->Nat->Prop):Prop:=∀i<ns.length,h i 0\/Reach ns.length os W rt h i
theorem AC7(left:List Int)(k:ShS ns.length left):
 Tot (ZS (some (t,ns,os,W,A,st,rt),left)) (λq=>q=true<->PN ns os W rt (λi a=>bt (left.getD i 0) a=true)):=by
 have v:=hF.few;unfold ZS;refine DY.2 ((AXU hF hG left k).mono λw D=>?_);have o:=D.1;have x:=k.len
 have key:Tot (wJ (w,left,(left.length),0)) (λq=>match q with
  | .inl _=>PN ns os W rt (λi a=>bt (left.getD i 0) a=true)
  | .inr b=>b=false/\¬PN ns os W rt (λi a=>bt (left.getD i 0) a=true)):=by
  refine FH left.length (λs i=>(w,left,(left.length:Int),i)) (λm _=>∀i,i<m->bt (left.getD i 0) 0=true\/Reach ns.length os W rt (λi a=>bt (left.getD i 0) a=true) i) oa (λnext s i e B z=>?_) (λnext s B=>?_) () (λi h=>oa)
  .unfold wI;dsimp only;have l:left[i]?=some (left.getD i 0):=by rw[AD,A1 e];rfl
   have r:=PE (k.in16 i) 0;rw[show((0:Nat):Int)=0 from rfl]at r;rw[EK,A4 e,F8 l,A0,r,A0,FD oa];cases G:bt _ 0 with
   |true=>
    refine z () λE j=>?_;grind
   |false=>
    simp only[BW,A8];rw[PE o];refine D_.2 ⟨λd=>?_,λd=>?_⟩
    .refine DZ.2 ⟨rfl,λh=>?_⟩;rcases h i (oa)with h|h<;>grind
    .have d:bt w i=true:=by simpa using d
     refine z () λE j=>?_;grind
  .unfold wI;dsimp only;rw[EK,A7 (AC _)];exact DZ.2 λi e=>B i oa
 refine DY.2 (key.mono λq C=>?_);rcases q with y|y
 .exact DZ.2 ⟨λ_=>C,λ_=>rfl⟩
 grind[DZ,absurd]
include hF hG
structure Tk(n:Nat)(A:List (List (List Int)))(left:List Int)(i a:Nat)(m:Nat)(o:List Int):Prop where
 sh:ShS n o
 bit:∀j<n,∀b,bt (o.getD j 0) b=true<->(if j=i then b=a else bt (left.getD j 0) b=true/\(j<m->bt (al A i a j) b=true))
theorem AXV(left:List Int)(Q:ShS ns.length left)(i a:Nat)(hi:i<ns.length)(ha:a<=cnt os i):
 Tot (ZT (some (t,ns,os,W,A,st,rt),left,(i:Int),(a:Int))) (λq =>
  (q.2=true->Tk ns.length A left i a ns.length q.1/\(∀j<ns.length,∃b,bt (q.1.getD j 0) b=true)/\PN ns os W rt (λj b=>bt (q.1.getD j 0) b=true))/\
  (q.2=false->∀o,Tk ns.length A left i a ns.length o->¬((∀j<ns.length,∃b,bt (o.getD j 0) b=true)/\PN ns os W rt (λj b=>bt (o.getD j 0) b=true)))):=by
 have O:=hF.few;have h0:=LA hF i;have R:=Q.len;unfold ZT wD wC;dsimp only;refine DY.2 (DY.2 (FT.2 ⟨oc,?_⟩));rw[DO];refine DZ.2 ?_;have x:=JZ (i:=a) oa;rw[x.1,A0,I5 oa,A0,AK];obtain⟨k1,k2⟩:=mR Q hi x.2;have B:(left.set i ((2 ^ a:Nat):Int)).length=ns.length:=k1.len;rw[B]
 have key:Tot (wL (some (t,ns,os,W,A,st,rt),(i:Int),(a:Int),left.set i ((2 ^ a:Nat):Int),(ns.length:Int),0)) (λq=>match q with
  | .inl o=>Tk ns.length A left i a ns.length o/\∀j<ns.length,∃b,bt (o.getD j 0) b=true\/(j=i)
  | .inr y=>y.2=false/\∀o,Tk ns.length A left i a ns.length o->¬(∀j<ns.length,∃b,bt (o.getD j 0) b=true)):=by
  refine FH (σ:=List Int) ns.length (λs j=>(some (t,ns,os,W,A,st,rt),(i:Int),(a:Int),s,(ns.length:Int),j)) (λm s=>Tk ns.length A left i a m s/\∀j,j<m->∃b,bt (s.getD j 0) b=true\/(j=i)) oa (λnext s j d r K=>?_) (λnext s r=>?_) _ ⟨⟨k1,λj d b=>?_⟩,λj h=>oa⟩
  .obtain⟨r,D⟩:=r;unfold wK;dsimp only;rw[EK,A4 d,A8,FD oa];refine D_.2 ⟨λC=>?_,λC=>?_⟩
   .have l:j=i:=by rw[E0]at C;have:=A5 C;omega
    refine K s ⟨⟨r.sh,λv e b=>?_⟩,λv e=>?_⟩
    .rw[r.bit v e b];grind
    .by_cases h:v=j
     .simp_all
     .exact D v oa
   .have l:j≠i:=by rw[E0]at C;have:=AF C;omega
    have h3:=r.sh.len;have G:A[i]?=some (A.getD i []):=by rw[AD,A1 (by rw[hG.shA.len];exact hi)];rfl
    have Z:=hG.shA.row i hi;have E:(A.getD i [])[a]?=some ((A.getD i []).getD a []):=by rw[AD (l:=A.getD i []),A1 oa];rfl
    have Y:=hG.shA.cell i hi a oa;have H:((A.getD i []).getD a [])[j]?=some (al A i a j):=by unfold al;rw[AD (l:=(A.getD i []).getD a []),A1 oa];rfl
    rw[I5 oa,A0,A0];dsimp only;rw[F8 G,A0,F8 E,A0,F8 H,A0,A0,AK,I5 oc,A0];obtain⟨V,N⟩:=WC (r.sh.in16 j) (hG.shA.in16 i a j);obtain⟨m1,L⟩:=mR r.sh d V
    have hT:Tk ns.length A left i a (j+1) (s.set j (JC u16 (s.getD j 0) (al A i a j))):=by
     refine⟨m1,λv e b=>?_⟩;rw[L];by_cases h:v=j
     .subst h;rw[if_pos rfl,N,A6,r.bit _ e,if_neg l,if_neg l];simp
     .rw[if_neg h,r.bit v e b];grind
    have J:(s.set j (JC u16 (s.getD j 0) (al A i a j))).getD j 0=JC u16 (s.getD j 0) (al A i a j):=by rw[L,if_pos rfl]
    rw[J];refine D_.2 ⟨λhz=>?_,λhz=>?_⟩
    .refine DZ.2 ⟨rfl,λo ho k=>?_⟩;obtain⟨b,I⟩:=k j d;rw[ho.bit j d,if_neg l]at I
     have:∃ b,bt (JC u16 (s.getD j 0) (al A i a j)) b=true:=⟨b,by
      rw[N,A6,r.bit j d,if_neg l];grind⟩
     grind[A0Z]
    .refine K _ ⟨hT,λv e=>?_⟩;by_cases h:v=j
     .grind[A0Z]
     .rw[L,if_neg h];exact D v oa
  .simp_all[wK,EK,A7,AC,AA,DZ]
  .rw[k2];split
   .rw[MM,AW];exact eq_comm
   .simp
 refine DY.2 (key.mono λq hq=>?_);rcases q with o|y
 .obtain⟨z,X⟩:=hq
  have k:∀j<ns.length,∃b,bt (o.getD j 0) b=true:=λj d=>by
   obtain⟨b,h|h⟩:=X j d
   .exact⟨b,h⟩
   .exact⟨a,by rw[z.bit j d,if_pos h]⟩
  refine DY.2 ((AC7 hF hG o z.sh).mono λb I=>DZ.2 ⟨λh=>⟨z,k,I.1 h⟩,λh M w K=>?_⟩)
  have:M=o:=by
   apply BI;intro j;by_cases d:j<ns.length
   .have T:M[j]?=some (M.getD j 0):=by rw[AD,A1 (by rw[w.sh.len];exact d)];rfl
    have U:o[j]?=some (o.getD j 0):=by rw[AD,A1 (by rw[z.sh.len];exact d)];rfl
    rw[T,U]
    congr 1
    refine mK (w.sh.in16 j) (z.sh.in16 j) λb=>?_;rw[Bool.eq_iff_iff,w.bit j d,z.bit j d]
   .rw[BY (by rw[w.sh.len];omega),BY (by rw[z.sh.len];omega)]
  grind
 grind[DZ]
end
theorem AXW(a:Nat)(d:a<=15):VK ((2 ^ a:Nat):Int)=some (a:Int):=by
 have h:=(JZ d).2;unfold VK
 have key:Tot (jP (((2 ^ a:Nat)),(0))) (λq=>q=.inr (a)):=by
  refine FH 16 (λs i=>(((2 ^ a:Nat):Int),i)) (λm _=>m<=a) oa (λnext s i k j e=>?_) (λnext s j=>oa) () (BJ _);unfold w6;dsimp only;rw[A4 oa,A8,PE h,MM,FD oa];refine D_.2 ⟨λb=>?_,λb=>?_⟩
  .rw[<-A5 b];exact DZ.2 rfl
  .exact e () oc
 rw[GY key];rfl
def MN(ns:List DX)(os:List (List DX))(p:List Nat):List E_:=(List.range ns.length).filterMap λj=>match p.getD j 0 with
 |0=>none
 |k+1=>some (ns.getD j [],(os.getD j []).getD k [])
theorem AXX{t:F7}{a:List DX}{os:List (List DX)}{W:List (List Int)}{A:List (List (List Int))}{st:List Int}{rt:Int}(hF:Fy a os)(p:List Nat)(left:List Int)(y:left.length=a.length)
 (z:∀j<a.length,left.getD j 0=((2 ^ p.getD j 0:Nat):Int)/\p.getD j 0<=cnt os j):
 ZW (some (t,a,os,W,A,st,rt),left)=some (MN a os p):=by
 have r:=hF.few;unfold ZW;dsimp only
 have key:Tot (wU (some (t,a,os,W,A,st,rt),[],left,(left.length:Int),0)) (λq=>q=MN a os p):=by
  let f:Nat->Option E_:=λj=>match p.getD j 0 with
   |0=>none
   |k+1=>some (a.getD j [],(os.getD j []).getD k [])
  refine FH (σ:=List E_) left.length (λs i=>(some _,s,left,(left.length:Int),i)) (λm s=>s=(List.range m).filterMap f) oa (λnext s i v o D=>?_) (λnext s o=>?_) [] oe
  .unfold wT;dsimp only;obtain⟨w,C⟩:=z i oa;have x:=LA hF i;have b:left[i]?=some (left.getD i 0):=by rw[AD,A1 v];rfl
   have B:s.length<=i:=by rw[o];exact AT (List.length_filterMap_le _ _) oe
   rw[EK,A4 v,A8,F8 b,A0,w,AXW _ oa,A0,FD oa];have E:List.range (i+1)=List.range i++[i]:=List.range_succ;refine D_.2 ⟨λh=>?_,λh=>?_⟩
   .have h:=A5 h;obtain⟨k,hk⟩:∃k,p.getD i 0=k+1:=⟨p.getD i 0-1,oa⟩;have d:a[i]?=some (a.getD i []):=by rw[AD,A1 oa];rfl
    have e:os[i]?=some (os.getD i []):=by rw[AD,A1 (by rw[hF.len];omega)];rfl
    have l:(os.getD i [])[k]?=some ((os.getD i []).getD k []):=by
     rw[AD (l:=os.getD i []),A1 (by grind[cnt])];rfl
    rw[A0];dsimp only;rw[F8 d,A0,A0];dsimp only;rw[F8 e,A0,EQ oa oa,show((p.getD i 0:Nat):Int)-1=(k:Int) by omega,F8 l,A0];refine DY.2 (FT.2 ⟨oc,?_⟩);grind
   grind
  .unfold wT;dsimp only;rw[EK,A7 (AC _),AA];refine DZ.2 ?_;rw[o,y];rfl
 rw[GY key];rfl
def GC(a b:C3):C3:=(a.1+b.1,a.2.1+b.2.1,a.2.2+b.2.2)
def PH(a b:C3):Prop:=a.1<=b.1/\a.2.1<=b.2.1/\a.2.2<=b.2.2
def ID(a b:C3):Prop:=a.1<b.1\/a.1=b.1/\(a.2.1<b.2.1\/a.2.1=b.2.1/\a.2.2<b.2.2)
def sm(f:Nat->C3):Nat->C3
 |0=>(0,0,0)
 |m+1=>GC (sm f m) (f m)
theorem AC8{f:Nat->C3}:∀{m:Nat},(∀j<m,CB (f j) 1)->CB (sm f m) m
 |0,_=>by unfold CB Bd sm;simp
 |m+1,h=>by
  have a:=AC8 (m:=m) λj b=>h j oa;grind[CB,Bd,sm,GC]
theorem AC9{f g:Nat->C3}:∀{m:Nat},(∀j<m,PH (f j) (g j))->PH (sm f m) (sm g m)
 |0,_=>⟨AR _,AR _,AR _⟩
 |m+1,h=>by
  have a:=AC9 (m:=m) λj b=>h j oa;grind[PH,sm,GC]
theorem A0f{f g:Nat->C3}:∀{m:Nat},(∀j<m,f j=g j)->sm f m=sm g m
 |0,_=>rfl
 |m+1,h=>by
  unfold sm;rw[A0f λj a=>h j oa,h m oa]
theorem ACA{a b:C3}{n:Int}(e:n<=1000)(h:CB a n)(d:CB b 1):ZR (a,b)=some (GC a b):=by
 grind[CB,Bd,ZR,GC,EQ]
theorem or3(a b c:Int):NH [a,b,c]=some (if a=0 then(if b=0 then c else b)else a):=by
 refine GY ?_;unfold NH
 have key:Tot (ZJ ((0:Int),[a,b,c],(3:Int),(0:Int))) (λq=>match q with
  | .inl _=>a=0/\b=0/\c=0
  | .inr y=>y=if a=0 then(if b=0 then c else b)else a):=by
  refine FH (σ:=Unit) 3 (λ_ i=>((0:Int),[a,b,c],(3:Int),i)) (λm _=>(0<m->a=0)/\(1<m->b=0)/\(2<m->c=0)) oa (λnext s i h d l=>?_) (λnext s d=>?_) () oe
  .obtain⟨e,j,k⟩:=d;unfold VC;dsimp only;rw[A4 oa,A8,FD oa];have h:i=0\/i=1\/i=2:=oa
   rcases h with rfl|rfl|rfl
   .rw[F8 (x:=a) rfl,A0,E0];simp_all[D_,DZ,if_neg]
   .rw[F8 (x:=b) rfl,A0,E0];simp_all[D_,DZ,if_pos,if_neg]
   .rw[F8 (x:=c) rfl,A0,E0];simp_all[D_,DZ,if_pos]
  .simp_all[VC,A7,AA,DZ]
 refine DY.2 (key.mono λq o=>?_);rcases q with y|y<;>simp_all[DZ,if_pos]
theorem AXY(a b:C3):Tot (jR (a,b)) (λr=>r<0<->ID a b):=by
 unfold jR;dsimp only;rw[T1,A0,T1,A0,T1,A0,or3];grind[DZ,ID,MK]
def cc(cs:List (List C3))(j a:Nat):C3:=(cs.getD j []).getD a (0,0,0)
theorem AXZ{L:Int}(e:GB L)(h:∃b,b<16/\bt L b=true):Tot (VK L) (λk=>∃a:Nat,k=a/\bt L a=true):=by
 have key:Tot (jP (L,(0))) (λq=>match q with
  | .inl _=>False
  | .inr y=>∃a:Nat,y=a/\bt L a=true):=by
  refine FH 16 (λs i=>(L,i)) (λm _=>∀a<m,bt L a=false) oa (λnext s i r o l=>?_) (λnext s o=>?_) () (λa j=>oa)
  .unfold w6;dsimp only;rw[A4 oa,A8,PE e,FD oa];refine D_.2 ⟨λd=>DZ.2 ⟨i,rfl,d⟩,λd=>l () λa j=>?_⟩;grind
  .grind
 refine DY.2 (key.mono λq t=>?_);grind[DZ]
def R0(cs:List (List C3))(j:Nat)(L:Int)(c:C3):Prop:=
 (∀a,bt L a=true->PH c (cc cs j a))/\∃a1 a2 a3,bt L a1=true/\bt L a2=true/\bt L a3=true/\c=((cc cs j a1).1,(cc cs j a2).2.1,(cc cs j a3).2.2)
theorem AX_(a b:C3):jQ (a,b)=some (min a.1 b.1,min a.2.1 b.2.1,min a.2.2 b.2.2):=by
 unfold jQ OW;grind
theorem AXa(cs:List (List C3))(j:Nat)(L:Int)(z:GB L)(row:List C3)(B:cs[j]?=some row)(C:row.length<=16)(q:∀a,bt L a=true->a<row.length)(b:Nat)(h:bt L b=true):
 Tot (w8 (L,cc cs j b,row,(row.length:Int),0)) (λc=>R0 cs j L c):=by
 have k:cs.getD j []=row:=by rw[AD,B];rfl
 refine FH row.length (λs i=>(L,s,row,(row.length:Int),i)) (λm c=>(∀a<m,bt L a=true->PH c (cc cs j a))/\∃r t v,bt L r=true/\bt L t=true/\bt L v=true/\c=((cc cs j r).1,(cc cs j t).2.1,(cc cs j v).2.2))
  oa (λnext c i w l x=>?_) (λnext c l=>?_) _ ⟨λa d=>oa,b,b,b,h,h,h,rfl⟩
 .obtain⟨D,y⟩:=l;unfold w7;dsimp only
  have e:row[i]?=some (cc cs j i):=by
   unfold cc;rw[k,AD,A1 w];rfl
  rw[EK,A4 w,A8,F8 e,PE z,FD oa];refine D_.2 ⟨λA=>?_,λA=>x c ⟨λa d o=>?_,y⟩⟩
  .rw[AX_];refine x _ ⟨λa d o=>?_,?_⟩
   .grind[PH]
   grind
  grind
 .unfold w7;dsimp only;rw[EK,A7 (AC _)];exact DZ.2 ⟨λa d=>l.1 a (q a d) d,l.2⟩
structure Cst(n:Nat)(os:List (List DX))(cs:List (List C3)):Prop where
 len:cs.length=n
 row:∀j<n,(cs.getD j []).length=cnt os j+1
 bd:∀j a,CB (cc cs j a) 1
section
variable{ns:List DX}{os:List (List DX)}{cs:List (List C3)}(hF:Fy ns os)(hC:Cst ns.length os cs)
include hF hC
theorem AXb(left:List Int)(x:ShS ns.length left)(z:∀j<ns.length,∃b,bt (left.getD j 0) b=true)(q:∀j<ns.length,∀b,bt (left.getD j 0) b=true->b<=cnt os j):
 Tot (VL (left,some cs)) (λc=>∃l:Nat->C3,(∀j<ns.length,R0 cs j (left.getD j 0) (l j))/\c=sm l ns.length):=by
 have B:=hF.few;have D:=x.len;unfold VL
 have key:Tot (wA (some cs,((0:Int),((0:Int),(0:Int))),left,(left.length:Int),(0:Int))) (λc=>∃l:Nat->C3,(∀j<ns.length,R0 cs j (left.getD j 0) (l j))/\c=sm l ns.length):=by
  refine FH (σ:=C3) left.length (λs i=>(some cs,s,left,(left.length:Int),i)) (λm c=>∃l:Nat->C3,(∀j<m,R0 cs j (left.getD j 0) (l j))/\c=sm l m) oa (λnext c i C E T=>?_) (λnext c E=>?_) _ ⟨λ_=>(0,0,0),λj r=>oa,rfl⟩
  .obtain⟨l,N,rfl⟩:=E;have h:i<ns.length:=oa
   unfold w9;dsimp only;have y:left[i]?=some (left.getD i 0):=by rw[AD,A1 C];rfl
   have d:cs[i]?=some (cs.getD i []):=by rw[AD,A1 (by rw[hC.len];exact h)];rfl
   have R:=LA hF i;have U:=hC.row i h;obtain⟨b,A⟩:=z i h;have Q:=q i h b A;rw[EK,A4 C,A8,F8 y,A0,A0,F8 d,A0,FD oa];refine DY.2 ((AXZ (x.in16 i) ⟨b,oa,A⟩).mono λk hk=>?_);obtain⟨a,rfl,t⟩:=hk;have O:=q i h a t;have v:(cs.getD i [])[a]?=some (cc cs i a):=by unfold cc;rw[AD (l:=cs.getD i []),A1 oa];rfl
   rw[F8 v,A0,A0,F8 d,A0];refine DY.2 ((AXa cs i _ (x.in16 i) _ d oa (λa t=>oc) a t).mono λc w=>?_)
   have o:∀j L c,R0 cs j L c->CB c 1:=λj L c w=>by
    obtain⟨_,G,H,I,_,_,_,e⟩:=w;have J:=hC.bd j G;have K:=hC.bd j H;have M:=hC.bd j I;rw[e];exact⟨J.1,K.2.1,M.2.2⟩
   rw[ACA oa (AC8 λj r=>o _ _ _ (N j r)) (o _ _ _ w)];refine T _ ⟨λj=>if j=i then c else l j,λj r=>?_,?_⟩
   .grind
   .show GC (sm l i) c=GC (sm _ i) _;rw[<-A0f (f:=l) (g:=λj=>if j=i then c else l j) λj r=>by rw[if_neg oa]];simp
  .simp_all[w9,EK,A7,AC,AA,DZ]
 grind
def cP(cs:List (List C3))(n:Nat)(p:List Nat):C3:=sm (λj=>cc cs j (p.getD j 0)) n
omit hF hC in
theorem AXc{l:Nat->C3}{left:List Int}{n:Nat}(h:∀j<n,R0 cs j (left.getD j 0) (l j)){p:List Nat}(b:∀j<n,bt (left.getD j 0) (p.getD j 0)=true):PH (sm l n) (cP cs n p):=
 AC9 λj a=>(h j a).1 _ (b j a)
omit hF hC in
theorem AXd{l:Nat->C3}{left:List Int}{n:Nat}(h:∀j<n,R0 cs j (left.getD j 0) (l j)){p:List Nat}(s:∀j<n,∀b,bt (left.getD j 0) b=true->b=p.getD j 0):sm l n=cP cs n p:=
 A0f λj a=>by
  obtain⟨_,d,i,k,o,q,r,e⟩:=h j a;grind
end
section
variable(ns:List DX)(os:List (List DX))(W:List (List Int))(A:List (List (List Int)))(st:List Int)(rt:Int)
structure Val(p:List Nat):Prop where
 len:p.length=ns.length
 st:∀j<ns.length,bt (st.getD j 0) (p.getD j 0)=true
 al:∀j<ns.length,∀k<ns.length,k≠j->bt (al A k (p.getD k 0) j) (p.getD j 0)=true
 pn:PN ns os W rt (λi a=>p.getD i 0=a)
open Classical in
noncomputable def KH:Nat->List Nat->List (List Nat)
 |0,pre=>if Val ns os W A st rt pre then [pre]else []
 |d+1,pre=>(List.range (cnt os pre.length+1)).flatMap λa=>KH d (pre++[a])
structure Dp(pre:List Nat)(left:List Int):Prop where
 sh:ShS ns.length left
 bit:∀j<ns.length,∀b,bt (left.getD j 0) b=true<->bt (st.getD j 0) b=true/\(j<pre.length->b=pre.getD j 0)/\∀k<pre.length,k≠j->bt (al A k (pre.getD k 0) j) b=true
end
theorem AXe{pre:List Nat}{a j:Nat}:(pre++[a]).getD j 0=if j=pre.length then a else pre.getD j 0:=by
 grind
theorem A0g{pre p:List Nat}(h:pre <+:p){j:Nat}(a:j<pre.length):p.getD j 0=pre.getD j 0:=by
 obtain⟨r,rfl⟩:=h;grind
section
variable{t:F7}{ns:List DX}{os:List (List DX)}{W:List (List Int)}{A:List (List (List Int))}{st:List Int}{rt:Int}(hF:Fy ns os)(hG:Good t ns os W A st rt)
include hG
theorem bJ{p:List Nat}(h:Val ns os W A st rt p){j:Nat}(a:j<ns.length):p.getD j 0<=cnt os j:=((hG.st j a _).1 (h.st j a)).1
theorem mT(p:List Nat):∀(d:Nat) (pre:List Nat),pre.length+d=ns.length->(p∈KH ns os W A st rt d pre<->Val ns os W A st rt p/\pre <+:p):=by
 intro d;induction d with
 |zero=>
  intro pre b;unfold KH;constructor
  .grind
  .rintro⟨h,j⟩;have:pre=p:=j.eq_of_length (by rw[h.len];omega);grind
 |succ d k=>
  intro pre b;unfold KH;rw[List.mem_flatMap];constructor
  .grind[List.length_append,List.length_cons,List.length_nil,List.prefix_append,trans]
  .rintro⟨h,r,rfl⟩;have o:r.length=d+1:=by have:=h.len;rw[AE]at this;omega
   obtain⟨a,r,rfl⟩:∃a l,r=a::l:=by
    cases r<;>grind
   have i:=bJ hG h (j:=pre.length) oa
   have e:(pre++a::r).getD pre.length 0=a:=by
    rw[AD,BG (AH _),Nat.sub_self];rfl
   refine⟨a,CN.2 oa,(k _ oc).2 ⟨h,r,oe⟩⟩
theorem ACB{d:Nat}{pre:List Nat}(a:pre.length+d=ns.length)(h:∀p,Val ns os W A st rt p->¬pre <+:p):KH ns os W A st rt d pre=[]:=by
 apply D3.2;grind[mT]
theorem A0h{pre p:List Nat}{left:List Int}(i:Dp ns A st pre left)(e:Val ns os W A st rt p)(d:pre <+:p)(l:pre.length<=ns.length):∀j<ns.length,bt (left.getD j 0) (p.getD j 0)=true:=by
 intro j a;rw[i.bit j a];refine⟨e.st j a,λh=>A0g d h,λk hk b=>?_⟩;rw[<-A0g d hk];exact e.al j a k oa b
omit hG in
theorem A0i{h b:Nat->Nat->Prop}(d:∀i<ns.length,∀a,h i a->b i a)(j:PN ns os W rt h):PN ns os W rt b:=λi e=>(j i e).imp (d i e 0) λr=>r.mono d
include hF in
theorem AXf(d:Nat)(pre:List Nat)(left:List Int)(X:pre.length+(d+1)=ns.length)(s:Dp ns A st pre left)(a:Nat):
 (bt (left.getD pre.length 0) a=false->∀p,Val ns os W A st rt p->¬(pre++[a]) <+:p)/\
 (bt (left.getD pre.length 0) a=true->Tot (ZT (some (t,ns,os,W,A,st,rt),left,((pre.length:Nat):Int),(a:Int))) (λq =>
  (q.2=false->∀p,Val ns os W A st rt p->¬(pre++[a]) <+:p)/\
  (q.2=true->Dp ns A st (pre++[a]) q.1/\(∀j<ns.length,∃b,bt (q.1.getD j 0) b=true)/\PN ns os W rt (λj b=>bt (q.1.getD j 0) b=true)))):=by
 have J:=hF.few;have v:pre.length<ns.length:=oa
 have N:=LA hF pre.length
 have O:∀p,(pre++[a]) <+:p->pre <+:p/\p.getD pre.length 0=a:=λp x=>
  ⟨(List.prefix_append _ _).trans x,by rw[A0g x oe,AXe,if_pos rfl]⟩
 refine⟨λC p H x=>?_,λC=>?_⟩
 .grind[A0h]
 have B:a<=cnt os pre.length:=((hG.st _ v _).1 ((s.bit _ v _).1 C).1).1;refine(AXV hF hG left s.sh pre.length a v B).mono λq Q=>?_;obtain⟨R,G⟩:=Q
 have z:∀o,Tk ns.length A left pre.length a ns.length o<->Dp ns A st (pre++[a]) o:=by
  have M:=(s.bit _ v _).1 C
  have bits:∀j<ns.length,∀b,(if j=pre.length then b=a else bt (left.getD j 0) b=true/\(j<ns.length->bt (al A pre.length a j) b=true))<->
   (bt (st.getD j 0) b=true/\(j<(pre++[a]).length->b=(pre++[a]).getD j 0)/\∀k<(pre++[a]).length,k≠j->bt (al A k ((pre++[a]).getD k 0) j) b=true):=by
   intro j l b;have w:(pre++[a]).length=pre.length+1:=by rw[AE];rfl
   rw[w];split
   .grind
   .rename_i h;rw[s.bit j l];constructor
    .grind
    .rintro⟨L,U,I⟩;refine⟨⟨L,λV=>?_,λk hk E=>?_⟩,λ_=>?_⟩
     .grind
     .have:=I k oa E;grind
     .have:=I pre.length oa (λe=>h e.symm);grind
  intro o;exact⟨λh=>⟨h.sh,λj l b=>(h.bit j l b).trans (bits j l b)⟩,λh=>⟨h.sh,λj l b=>(h.bit j l b).trans (bits j l b).symm⟩⟩
 refine⟨λr p H x=>?_,λr=>?_⟩
 .have D:∃o,Tk ns.length A left pre.length a ns.length o:=by
   refine⟨(List.range ns.length).map λj=>if j=pre.length then((2 ^ a:Nat):Int)else JC u16 (left.getD j 0) (al A pre.length a j),⟨by rw[AN,D7],λj=>?_⟩,λj l b=>?_⟩
   .rcases CU j ns.length with l|l
    .rw[AD,AV,CY l];show GB (if j=pre.length then _ else _);split
     .grind[JZ]
     .exact(WC (s.sh.in16 j) (hG.shA.in16 _ _ _)).1
    grind[mQ,List.length_map,List.length_range,QX]
   .rw[AD,AV,CY l];show bt (if j=pre.length then _ else _) b=true<->_;split
    .rw[MM,AW];exact eq_comm
    .rw[(WC (s.sh.in16 j) (hG.shA.in16 _ _ _)).2,A6];grind
  obtain⟨o,K⟩:=D;have y:=A0h hG ((z o).1 K) H x oc;exact G r o K ⟨λj l=>⟨_,y j l⟩,A0i (λi v T h=>oc) H.pn⟩
 grind
include hF in
end
theorem AXg(l:List Int)(v:Int)(e:l.length<4611686018427387904):Tot (jU (l,v)) (λq=>q=true<->v∈l):=by
 unfold jU wQ;dsimp only
 have key:Tot (wP (l,v,(l.length:Int),0)) (λq=>match q with
  | .inl _=>v ∉ l
  | .inr y=>0<=y/\v∈l):=by
  refine FH (σ:=Unit) l.length (λs i=>(l,v,(l.length:Int),i)) (λm _=>v ∉ l.take m) oa (λnext s i h d b=>?_) (λnext s d=>?_) () oe
  .unfold wM;dsimp only;rw[EK,A4 h,A8,F8 (A1 h),A0,FD oa,E0];refine D_.2 ⟨λa=>DZ.2 ⟨oa,oc⟩,λa=>b () ?_⟩;rw[FN (A1 h),AS,AJ];grind
  .simp_all[wM,EK,A7,AC,AA,AG,DZ]
 refine DY.2 (DY.2 (key.mono λq j=>?_));grind[DZ,absurd,decide_eq_true]
section
variable{t:F7}{ns:List DX}{os:List (List DX)}{W:List (List Int)}{A:List (List (List Int))}{st:List Int}{rt:Int}(hF:Fy ns os)(hG:Good t ns os W A st rt)
include hF hG
end
theorem AXh(a:C3):¬ID a a:=by unfold ID;omega
theorem AXi{x l c:C3}(h:PH l x)(a:¬ID l c):¬ID x c:=by unfold ID PH at *;omega
theorem AXj{x c d:C3}(h:¬ID x c)(a:ID d c):¬ID x d:=by unfold ID at *;omega
section
variable{t:F7}{ns:List DX}{os:List (List DX)}{W:List (List Int)}{A:List (List (List Int))}{st:List Int}{rt:Int}{cs:List (List C3)}(hF:Fy ns os)(hG:Good t ns os W A st rt)(hC:Cst ns.length os cs)
def T7(ns:List DX)(os:List (List DX))(W:List (List Int))(A:List (List (List Int)))(st:List Int)(rt:Int)(cs:List (List C3))(L:List (List Nat))(b:Option (List Int))(c:C3):Prop:=
 (b=none/\L=[])\/∃p left,b=some left/\Val ns os W A st rt p/\left.length=ns.length/\(∀j<ns.length,left.getD j 0=((2 ^ p.getD j 0:Nat):Int))/\c=cP cs ns.length p/\∀q∈L,¬ID (cP cs ns.length q) c
noncomputable abbrev bF(cs:List (List C3)):Option (List Int->Option C3):=some (λx=>(VL (x,some cs)).bind λr=>some r)
abbrev PI(t:F7)(ns:List DX)(os:List (List DX))(W:List (List Int))(A:List (List (List Int)))(st:List Int)(rt:Int):Option mM:=some (t,ns,os,W,A,st,rt)
include hF hG hC
theorem ACC{L:List (List Nat)}{b:Option (List Int)}{c:C3}(v:T7 ns os W A st rt cs L b c)(pre:List Nat)(left:List Int)(i:Dp ns A st pre left)(a:∀j<ns.length,∃b,bt (left.getD j 0) b=true):
 Tot (jS (left,b,bF cs,c)) (λq=>q.2=(b,c)/\∃l:Nat->C3,(∀j<ns.length,R0 cs j (left.getD j 0) (l j))/\VL (left,some cs)=some (sm l ns.length)/\(q.1=true<->b=none\/ID (sm l ns.length) c)):=by
 have h:=λj k b s=>((hG.st j k b).1 ((i.bit j k b).1 s).1).1;obtain⟨t,d,l,e,o⟩:=AXb hF hC left i.sh a h;unfold jS;subst o;cases b with
 |none=>
  exact DZ.2 ⟨rfl,l,e,d,oe⟩
 |some b=>
  simp only[Option.isNone_some,BW,A8,CD,A0,d];refine DY.2 ((AXY _ _).mono λr w=>DZ.2 ⟨rfl,l,e,rfl,?_⟩);grind
theorem AXk:∀(d k:Nat) (pre:List Nat) (left:List Int) (b:Option (List Int)) (c:C3) (L:List (List Nat)),d<k->pre.length+d=ns.length->Dp ns A st pre left->(∀j<ns.length,∃b,bt (left.getD j 0) b=true)->
 PN ns os W rt (λj b=>bt (left.getD j 0) b=true)->T7 ns os W A st rt cs L b c->
 Tot (QO k (((pre.length:Nat):Int),left,(),PI t ns os W A st rt,(),(),b,bF cs,c)) (λq=>q.1=true/\T7 ns os W A st rt cs (L++KH ns os W A st rt d pre) q.2.1 q.2.2):=by
 have x2:=hF.few;intro d;induction d with
 |zero=>
  intro k pre left b c L hk hl o B K G;obtain⟨k,rfl⟩:∃k',k=k'+1:=⟨k-1,oa⟩;show Tot (ZU (QO k) _) _
  have w:∀j<ns.length,(∀b,bt (left.getD j 0) b=true->b=pre.getD j 0)/\left.getD j 0=((2 ^ pre.getD j 0:Nat):Int)/\pre.getD j 0<=cnt os j/\bt (left.getD j 0) (pre.getD j 0)=true:=by
   intro j e;have hu:∀b,bt (left.getD j 0) b=true->b=pre.getD j 0:=λb z=>((o.bit j e b).1 z).2.1 oa;obtain⟨b,z⟩:=B j e;have D:=hu b z;rw[<-D];have h5:b<=cnt os j:=((hG.st j e b).1 ((o.bit j e b).1 z).1).1;refine⟨λY h=>by rw[hu Y h,D],mK (o.sh.in16 j) (JZ (by grind[LA])).2 λY=>?_,h5,z⟩;rw[MM,Bool.eq_iff_iff,AW];exact⟨λh=>by rw[hu Y h,D],oc⟩
  have hv:Val ns os W A st rt pre:=by
   refine⟨oa,λj e=>((o.bit j e _).1 (w j e).2.2.2).1,λj e k hk h7=>((o.bit j e _).1 (w j e).2.2.2).2.2 k oa h7,A0i (λi U a h=>?_) K⟩;exact(((o.bit i U a).1 h).2.1 oa).symm
  have V:KH ns os W A st rt 0 pre=[pre]:=by unfold KH;rw[if_pos hv]
  rw[V];unfold ZU;dsimp only;refine DY.2 ((ACC hF hG hC G pre left o B).mono λq M=>?_);obtain⟨q1,q2⟩:=q;obtain⟨rfl,lo,H,I,C⟩:=M;have h6:sm lo ns.length=cP cs ns.length pre:=AXd H λj e=>(w j e).1;rw[h6]at I C;dsimp only at C ⊢;refine D_.2 ⟨λv=>DZ.2 ⟨rfl,?_⟩,λv=>?_⟩
  .have v:¬(b=none\/ID (cP cs ns.length pre) c):=λh=>oc
   rcases G with⟨z,_⟩|⟨p,l,z,O,Q,R,T,Z⟩
   .grind
   .refine .inr ⟨p,l,z,O,Q,R,T,λx X=>?_⟩;grind
  .have v:b=none\/ID (cP cs ns.length pre) c:=C.1 (by simpa using v);rw[A0,E0,A4 oc,A8];unfold wB;dsimp only
   have J:app? 24 ([]:List Int) left=some left:=by
    unfold app?;rw[A4 (by have:=o.sh.len;grind)];rfl
   rw[J,A0,A0];dsimp only;rw[I,A0,A0,A0];refine DZ.2 ⟨rfl,.inr ⟨pre,left,rfl,hv,o.sh.len,λj e=>(w j e).2.1,rfl,λx X=>?_⟩⟩;rcases AS.1 X with h|h
   .rcases G with⟨_,hL⟩|⟨p,l,z,O,Q,R,T,Z⟩<;>grind[AXj]
   grind[List.mem_singleton,AXh]
 |succ d ih=>
  intro k pre left b c L hk hl o B K G;obtain⟨k,rfl⟩:∃k',k=k'+1:=⟨k-1,oa⟩;show Tot (ZU (QO k) _) _;have U:pre.length<ns.length:=oa
  have y0:=hG.shW.row _ U;have y3:=LA hF pre.length;unfold ZU;dsimp only;refine DY.2 ((ACC hF hG hC G pre left o B).mono λq M=>?_);obtain⟨q1,q2⟩:=q;obtain⟨rfl,lo,H,I,C⟩:=M;dsimp only at C ⊢;refine D_.2 ⟨λv=>DZ.2 ⟨rfl,?_⟩,λv=>?_⟩
  .have v:¬(b=none\/ID (sm lo ns.length) c):=λh=>oc
   rcases G with⟨z,_⟩|⟨p,l,z,O,Q,R,T,Z⟩
   .grind
   .refine .inr ⟨p,l,z,O,Q,R,T,λx X=>?_⟩;rcases AS.1 X with h|h
    .exact Z x h
    .obtain⟨x1,h9⟩:=(mT hG x (d+1) pre hl).1 h;exact AXi (AXc H λj e=>A0h hG o x1 h9 oa j e) λh=>v (.inr h)
  .rw[A0,E0,A7 oc,AA,A0];have h4:W[pre.length]?=some (W.getD pre.length []):=by rw[AD,A1 oc];rfl
   rw[F8 h4,A0];let S:Nat->List (List Nat):=λm=>(List.range m).flatMap λa=>KH ns os W A st rt d (pre++[a])
   have y1:∀m,S (m+1)=S m++KH ns os W A st rt d (pre++[m]):=λm=>by
    show(List.range (m+1)).flatMap _=_;rw[List.range_succ,List.flatMap_append];simp[S]
   have y2:S (cnt os pre.length+1)=KH ns os W A st rt (d+1) pre:=rfl
   have key:Tot (wS (QO k) (((pre.length:Nat):Int),left,PI t ns os W A st rt,(((W.getD pre.length []).length:Nat):Int),0,b,bF cs,c)) (λr=>match r with
    | .inl y=>T7 ns os W A st rt cs (L++KH ns os W A st rt (d+1) pre) y.1 y.2.2
    | .inr _=>False):=by
    refine FH (σ:=Option (List Int)×C3) (W.getD pre.length []).length (λs a=>(((pre.length:Nat):Int),left,PI t ns os W A st rt,(((W.getD pre.length []).length:Nat):Int),a,s.1,bF cs,s.2))
     (λm s=>T7 ns os W A st rt cs (L++S m) s.1 s.2) oa (λnext s a ha V hn=>?_) (λnext s V=>?_) (b,c) oc
    .unfold wR;dsimp only;have h8:left[pre.length]?=some (left.getD pre.length 0):=by rw[AD,A1 (by rw[o.sh.len];exact U)];rfl
     rw[EK,A4 ha,A8,F8 h8,A0,PE (o.sh.in16 _),A0,FD oa,FD oa]
     have E:(∀p,Val ns os W A st rt p->¬(pre++[a]) <+:p)->T7 ns os W A st rt cs (L++S (a+1)) s.1 s.2:=λh=>by
      have h0:=ACB hG (d:=d) (pre:=pre++[a]) oc h;grind
     obtain⟨k1,k2⟩:=AXf hF hG d pre left hl o a;refine D_.2 ⟨λv=>hn s (E (k1 (by simpa using v))),λv=>?_⟩;have v:bt (left.getD pre.length 0) a=true:=by simpa using v
     obtain⟨q,M,y4,x0⟩:=k2 v;rw[M,A0];cases N:q.2 with
     |false=>
      grind
     |true=>
      obtain⟨H,I,C⟩:=x0 N;simp only[A8,D0];have hI:=ih k (pre++[a]) q.1 s.1 s.2 (L++S a) oa oc H I C V;rw[AE]at hI;refine DY.2 (hI.mono λr hr=>?_);grind
    .unfold wR;dsimp only;rw[EK,A7 (AC _),AA];grind[DZ]
   refine DY.2 (key.mono λr hr=>?_);rcases r with y|y
   .exact DZ.2 ⟨rfl,hr⟩
   .exact hr.elim
theorem AXl:Tot (ZV (PI t ns os W A st rt,(),(),(none:Option (List Int)),bF cs,((0:Int),((0:Int),(0:Int))))) (λq=>T7 ns os W A st rt cs (KH ns os W A st rt ns.length []) q.1 q.2):=by
 have w:=hF.few;have y:Dp ns A st [] st:=⟨hG.shS,λj o b=>⟨λh=>⟨h,λh=>absurd h (Nat.not_lt_zero _),λk h=>absurd h (Nat.not_lt_zero _)⟩,λh=>h.1⟩⟩;have x:=hG.shS.len;unfold ZV;dsimp only;rw[A0];obtain⟨b,z,r⟩:=AXg st 0 oa;rw[z];have v:∀j,j<ns.length->st.getD j 0∈st:=λj o=>AC4 oa;have l:(∀p,¬Val ns os W A st rt p)->KH ns os W A st rt ns.length []=[]:=λh=>ACB hG oe λp d=>absurd d (h p);cases b with
 |true=>
  have D:=r.1 rfl;obtain⟨j,o,C⟩:=CP D;rw[l λp d=>?_]
  .exact DZ.2 (.inl ⟨rfl,rfl⟩)
  have:=d.st j oa;rw[AD,A1 o]at this;grind[bt,T4]
 |false=>
  have E:(0:Int) ∉ st:=λh=>oc
  have s:∀ j<ns.length,∃ b,bt (st.getD j 0) b=true:=λj o=>(A0Z (hG.shS.in16 j)).1 (by
   grind[E0,decide_eq_false])
  simp only[BW,A8,A0,D0];obtain⟨b,G,e⟩:=AC7 hF hG st hG.shS;rw[G,A0];cases b with
  |true=>
   have d:=AXk hF hG hC ns.length 100 [] st none (0,0,0) [] oa oe y s (e.1 rfl) (.inl ⟨rfl,rfl⟩);exact DY.2 (d.mono λq H=>DZ.2 H.2)
  |false=>
   rw[l λp d=>?_]
   .exact DZ.2 (.inl ⟨rfl,rfl⟩)
   have:=e.2 (A0i (λi B a h=>by rw[<-h];exact d.st i B) d.pn);cases this
end
def PJ(l:List E_)(nd:FZ):Prop:=(F5 l nd.1).2=true/\QY nd.2.1 (F5 l nd.1).1=true
def mU(l:List E_):Prop:=l.length<=12/\∀p∈l,p.1.length<=1048576/\p.2.length<=1048576
theorem AXm{l:List E_}(h:mU l)(name:DX):(F5 l name).1.length<=1048576:=by
 rcases L8 l name with⟨e,_⟩|⟨v,e,a⟩
 .rw[e];decide
 .rw[e];exact(h.2 _ a).2
theorem bK{α:Type}{l:List α}{a:α}:l++[a]=[]<->False:=oe
theorem ACD(l:List E_)(r:mU l)(needs:List FZ)(d:DX)(z:needs.length<=1048576)(x:∀nd∈needs,L9 nd):
 Tot (ZX (l,needs,d)) (λq=>q.length<=needs.length/\(q=[]<->∀nd∈needs,PJ l nd)):=by
 unfold ZX;refine DY.2 (Tot.mono ?_ λ_ h=>DZ.2 h);refine FH needs.length (λs i=>(l,d,s,needs,(needs.length:Int),i)) (λm s=>s.length<=m/\(s=[]<->∀nd∈needs.take m,PJ l nd)) oa (λnext s i e j a=>?_) (λnext s j=>?_) [] ⟨AH _,oe⟩
 .obtain⟨y,j⟩:=j;unfold wZ;dsimp only;have t:=r.1;rw[EK,A4 e,A8,F8 (A1 e),A0,OL _ _ oa,A0,FD oa];obtain⟨q,v,w⟩:=mO _ _ (x _ (AU e)).2 (AXm r _);rw[v,A0,w]
  have b:∀P:FZ->Prop,(∀nd∈needs.take (i+1),P nd)<->(∀nd∈needs.take i,P nd)/\P needs[i]:=by
   intro P;rw[FN (A1 e)];constructor
   .grind
   .grind
  refine D_.2 ⟨λk=>DY.2 (FT.2 ⟨oc,a _ ⟨oc,?_⟩⟩),λk=>D_.2 ⟨λo=>DY.2 (FT.2 ⟨oc,a _ ⟨oc,?_⟩⟩),λo=>a _ ⟨oa,?_⟩⟩⟩
  .rw[b,bK];refine⟨False.elim,λh=>?_⟩;have:=h.2.1;grind
  .rw[b,bK];refine⟨False.elim,λh=>?_⟩;have:=h.2.2;grind
  .rw[b,<-j];exact⟨λh=>⟨h,by simpa using k,by simpa using o⟩,λh=>h.1⟩
 simp_all[wZ,EK,A7,AC,AA,AG,DZ]
def RA(t:F7):List DX:=t.2.2.2.2.1++(I6 t.2.2.1 t.2.1).map λnd=>nd.1
inductive CR (t:F7) (l:List E_):DX->Prop
 |root {s:DX}:s∈RA t->(F5 l s).2=true->CR t l s
 |step {s:DX} {nd:FZ}:CR t l s->nd∈H2 t (s,(F5 l s).1)->(F5 l nd.1).2=true->CR t l nd.1
theorem CR.pinned{t:F7}{l:List E_}{s:DX}(h:CR t l s):(F5 l s).2=true:=by
 cases h<;>grind
theorem AXn(l:List FZ)(a:List DX)(j:l.length+a.length<=100000000000):x6 (a,l,(l.length:Int),0)=some (a++l.map λnd=>nd.1):=by
 refine GY ?_;refine FH l.length (λs i=>(s,l,(l.length:Int),i)) (λm s=>s=a++(l.take m).map λnd=>nd.1) oa (λnext s i h b d=>?_) (λnext s b=>?_) a oe
 .unfold x5;dsimp only;have e:s.length<=a.length+i:=by rw[b,AE,AN,AY];omega
  rw[EK,A4 h,F8 (A1 h),A0,FD oa];refine DY.2 (FT.2 ⟨oc,d _ ?_⟩);rw[FN (A1 h),BL,b,CF];rfl
 simp_all[x5,EK,A7,AC,AA,DZ,AG]
theorem AXo(l:List FZ)(a:List DX)(j:l.length+a.length<=100000000000):x4 (a,l,(l.length:Int),0)=some (a++l.map λnd=>nd.1):=by
 refine GY ?_;refine FH l.length (λs i=>(s,l,(l.length:Int),i)) (λm s=>s=a++(l.take m).map λnd=>nd.1) oa (λnext s i h b d=>?_) (λnext s b=>?_) a oe
 .unfold x3;dsimp only;have e:s.length<=a.length+i:=by rw[b,AE,AN,AY];omega
  rw[EK,A4 h,F8 (A1 h),A0,FD oa];refine DY.2 (FT.2 ⟨oc,d _ ?_⟩);rw[FN (A1 h),BL,b,CF];rfl
 simp_all[x3,EK,A7,AC,AA,DZ,AG]
theorem ACE{t:F7}(b:TkB t)(p:E_):(H2 t p).length<=1048576/\∀nd∈H2 t p,L9 nd:=by
 unfold H2;split
 .rename_i o a;have:=b.offer o (CQ a);exact⟨AT (B8 _ _) this.2.2.1,λnd h=>this.2.2.2 nd (BM.1 h).1⟩
 simp
def LB(m:List (DX×Bool))(s:DX):Bool:=(FM E5 s m).getD false
theorem AXp{α:Type}{p q:α->Bool}{l:List α}(h:∀x∈l,q x=true->p x=true){a:α}(b:a∈l)(j:p a=true)(k:q a=false):(l.filter q).length<(l.filter p).length:=by
 induction l with
 |nil=>cases b
 |cons x l i=>
  have d:(l.filter q).length<=(l.filter p).length:=by
   clear i b;induction l with
   |nil=>simp
   |cons y l e=>
    grind
  grind
theorem AXq(t:F7)(E:TkB t)(l:List E_)(hl:mU l):Tot (jW (t,l)) (λm=>∀s,LB m s=true<->CR t l s):=by
 have A:=hl.1;unfold jW;dsimp only;have I:=E.frozen;have B:=E.needs;have Z:(I6 t.2.2.1 t.2.1).length<=1048576:=AT (B8 _ _) B;rw[ABk I,A0,bG _ _ B,A0,AXo _ _ oa,A0];refine DY.2 (Tot.mono (P:=λm=>∀s,LB m s=true<->CR t l s) ?_ λ_ h=>DZ.2 h);have O:t.2.2.2.2.1++(I6 t.2.2.1 t.2.1).map (λnd=>nd.1)=RA t:=rfl;rw[O];have h6:(RA t).length<=2097152:=by unfold RA;rw[AE,AN];omega
 let b:List (DX×Bool)->Nat:=λm=>(l.filter λp=>!LB m p.1).length
 have J:∀m,b m<=12:=λm=>AT (B8 _ _) A
 refine F6 (R:=λm:List (DX×Bool)=>∀s,LB m s=true<->CR t l s)
  (λy:(List E_)×F7×(List (DX×Bool))×(List DX)=>y.1=l/\y.2.1=t/\b y.2.2.1*1048577+y.2.2.2.length<=14680076 /\
   (∀s∈y.2.2.2,s∈RA t\/∃c nd,CR t l c/\nd∈H2 t (c,(F5 l c).1)/\nd.1=s)/\(∀s,LB y.2.2.1 s=true->CR t l s)/\
   (∀s∈RA t,(F5 l s).2=true->LB y.2.2.1 s=true\/s∈y.2.2.2)/\
   (∀c nd,LB y.2.2.1 c=true->nd∈H2 t (c,(F5 l c).1)->(F5 l nd.1).2=true->LB y.2.2.1 nd.1=true\/nd.1∈y.2.2.2))
  (λy=>b y.2.2.1*1048577+y.2.2.2.length) ?_ _ _ ⟨rfl,rfl,oc,λs h=>.inl h,λs h=>(ol),λs h _=>.inr h,λc nd h=>(ol)⟩
  (by grind[fuel])
 rintro next ⟨G,t',m,a⟩ T M
 dsimp only at T M;obtain⟨rfl,rfl,Q,H,R,V,W⟩:=T;unfold A4c;dsimp only;refine D_.2 ⟨λU=>?_,λU=>?_⟩
 .obtain⟨s,a,rfl⟩:∃s r,a=s::r:=by
   cases a<;>grind
  have K:(s::a).getD 0 []=s:=rfl;have L:in? (s::a).length 0=some ():=I5 (i:=0) oe;rw[L,A0,K];refine DY.2 (HL.2 ⟨⟨oi,oc,AR _⟩,?_⟩)
  have z:((s::a).take ((s::a).length:Int).toNat).drop (1:Int).toNat=a:=by
   rw[AK,AG];rfl
  rw[z,OL _ _ oa,A0];simp only[AX]at Q;refine D_.2 ⟨λj=>?_,λj=>?_⟩
  .refine M _ ⟨rfl,rfl,oc,λx d=>H x (AP _ d),R,λx d q=>?_,λc nd w i k=>?_⟩ oe
   .rcases V x d q with h|h
    .exact .inl h
    .rw[B2]at h;rcases h with rfl|h
     .left;rw[q,BS,CD]at j;exact j
     .exact .inr h
   .rcases W c nd w i k with h|h
    .exact .inl h
    .rw[B2]at h;rcases h with h|h
     .left;rw[<-h,k,BS,CD]at j;exact j
     .exact .inr h
  .have D:(F5 G s).2=true:=by have:=(B0.1 j).1;simpa using this
   have N:LB m s=false:=(B0.1 j).2
   have X:CR t' G s:=by
    rcases H s (AL)with h|⟨c,nd,g1,g2,g3⟩
    .exact .root h D
    .subst g3;exact .step g1 g2 D
   obtain⟨h5,_⟩:=ACE E (s,(F5 G s).1);rw[mN _ _ E.offers (λo ho=>(E.offer o ho).2.2.1),A0,AXn _ _ oa,A0]
   have Y:∀x,LB (FK E5 s true m) x=(decide (x=s)||LB m x):=λx=>by
    unfold LB;rw[AWo];by_cases d:x=s
    .grind
    .rw[if_neg d,A7 d,CD]
   have h0:b (FK E5 s true m)<b m:=by
    rcases L8 G s with⟨e,_⟩|⟨v,e,hm⟩
    .grind
    .refine AXp (λp j h=>?_) hm (by rw[N];rfl) (by rw[Y];simp);grind
   clear_value b;refine M _ ⟨rfl,rfl,?_,λx d=>?_,λx d=>?_,λx d q=>?_,λc nd w i k=>?_⟩ ?_
   .grind
   .rw[AS,B1]at d;rcases d with d|⟨nd,d,rfl⟩
    .exact H x (AP _ d)
    grind
   .grind
   .grind
   .grind
   grind
 .have C:a=[]:=by
   have:=AF U;exact CX.1 oa
  subst C;refine DZ.2 λs=>⟨R s,λh=>?_⟩;induction h<;>grind
structure Right(t:F7)(l:List E_):Prop where
 needs:∀nd∈I6 t.2.2.1 t.2.1,PJ l nd
 pins:∀p∈l,p.2∈J_ t p.1/\∀nd∈H2 t p,PJ l nd
 more:∀p∈l,CR t l p.1
 frozen:∀s∈t.2.2.2.2.1,(F5 l s).2=true/\(F5 l s).1=(F5 t.2.2.2.1 s).1
theorem AXr(l:List DX)(v:DX)(h:l.length<4611686018427387904):Tot (SD (l,v)) (λq=>q=true<->v∈l):=by
 unfold SD;dsimp only;rw[WE l v h];refine DZ.2 ?_;rw[AW];have:=AWq v l;grind
theorem OM{α:Type}{l:List α}{i:Nat}(hi:i<l.length)(P:α->Prop):(∀x∈l.take (i+1),P x)<->(∀x∈l.take i,P x)/\P l[i]:=by
 rw[FN (A1 hi)];grind
theorem AXs(t:F7)(r:TkB t)(l:List E_)(C:mU l):Tot (jX (t,l)) (λq=>q=[]<->Right t l):=by
 have N:=C.1;have D:=r.needs;have U:=r.frozen;unfold jX;dsimp only;have J:(I6 t.2.2.1 t.2.1).length<=1048576:=AT (B8 _ _) D;rw[bG _ _ D,A0];refine DY.2 ((ACD l C (I6 t.2.2.1 t.2.1) [] J (λnd h=>r.need nd (BM.1 h).1)).mono λE H=>?_);obtain⟨Q,H⟩:=H
 have k1:Tot (x8 (l,t,E,l,(l.length:Int),0)) (λq=>q.1=t/\q.2.length<=14680076/\(q.2=[]<->E=[]/\∀p∈l,p.2∈J_ t p.1/\∀nd∈H2 t p,PJ l nd)):=by
  refine FH (σ:=List (Int×DX×DX)) l.length (λs i=>(l,t,s,l,(l.length:Int),i)) (λm s=>s.length<=1048576+m*1048576/\(s=[]<->E=[]/\∀p∈l.take m,p.2∈J_ t p.1/\∀nd∈H2 t p,PJ l nd)) oa (λnext s i j e y=>?_) (λnext s e=>?_) E ⟨oa,oe⟩
  .obtain⟨v,e⟩:=e;unfold x7;dsimp only;have W:=C.2 _ (AU j);rw[EK,A4 j,A8,F8 (A1 j),A0,ABt t _ r W.1,A0,FD oa]
   have M:(J_ t l[i].1).length<=1048576:=by
    unfold J_;rw[AN];exact AT (B8 _ _) (AT (B8 _ _) r.offers)
   refine DY.2 ((AXr (J_ t l[i].1) l[i].2 oa).mono λb hb=>D_.2 ⟨λB=>?_,λB=>?_⟩)
   .refine DY.2 (FT.2 ⟨oc,y _ ⟨oc,?_⟩⟩);simp_all[OM,bK,False.elim]
   .have T:b=true:=by simpa using B
    obtain⟨n1,n2⟩:=ACE r l[i];rw[mN _ _ r.offers (λo V=>(r.offer o V).2.2.1),A0];refine DY.2 ((ACD l C (H2 t l[i]) l[i].1 n1 n2).mono λr9 I=>?_);obtain⟨R,I⟩:=I;refine DY.2 (FT.2 ⟨oa,y _ ⟨oc,?_⟩⟩);rw[OM j,List.append_eq_nil_iff,e,I];grind
  .obtain⟨v,e⟩:=e;unfold x7;dsimp only;rw[EK,A7 (AC _),AA];rw[AG]at e;exact DZ.2 ⟨rfl,oc,e⟩
 refine DY.2 (k1.mono λw z=>?_);obtain⟨G,K,z⟩:=z;rw[G];refine DY.2 ((AXq t r l C).mono λm hm=>?_)
 have Y:Tot (xA (w.2,m,l,(l.length:Int),0)) (λq=>q.length<=14680088/\(q=[]<->w.2=[]/\∀p∈l,CR t l p.1)):=by
  refine FH (σ:=List (Int×DX×DX)) l.length (λs i=>(s,m,l,(l.length:Int),i)) (λk s=>s.length<=14680076+k/\(s=[]<->w.2=[]/\∀p∈l.take k,CR t l p.1)) oa (λnext s i j e y=>?_) (λnext s e=>?_) w.2 ⟨oa,oe⟩
  .obtain⟨v,e⟩:=e;unfold x9;dsimp only;rw[EK,A4 j,A8,F8 (A1 j),A0,FD oa];refine D_.2 ⟨λB=>?_,λB=>?_⟩
   .refine DY.2 (FT.2 ⟨oc,y _ ⟨oc,?_⟩⟩);rw[OM j,bK];grind[False.elim,LB]
   .refine y _ ⟨oa,?_⟩;simp_all[OM,LB]
  .obtain⟨v,e⟩:=e;unfold x9;dsimp only;rw[EK,A7 (AC _),AA];grind[List.take_length,DZ]
 refine DY.2 (Y.mono λx A=>?_);obtain⟨L,A⟩:=A
 have Z:Tot (xC (l,t,x,t.2.2.2.2.1,(t.2.2.2.2.1.length:Int),0)) (λq=>q=[]<->x=[]/\∀s∈t.2.2.2.2.1,(F5 l s).2=true/\(F5 l s).1=(F5 t.2.2.2.1 s).1):=by
  have O:=r.old;refine FH (σ:=List (Int×DX×DX)) t.2.2.2.2.1.length (λs i=>(l,t,s,t.2.2.2.2.1,(t.2.2.2.2.1.length:Int),i)) (λk s=>s.length<=14680088+k/\(s=[]<->x=[]/\∀s∈t.2.2.2.2.1.take k,(F5 l s).2=true/\(F5 l s).1=(F5 t.2.2.2.1 s).1)) oa (λnext s i j e y=>?_) (λnext s e=>?_) x ⟨oa,oe⟩
  .obtain⟨v,e⟩:=e;unfold xB;dsimp only;rw[EK,A4 j,A8,F8 (A1 j),A0,OL _ _ oa,A0,OL _ _ oa,A0,FD oa,E4];refine D_.2 ⟨λB=>?_,λB=>?_⟩
   .refine DY.2 (FT.2 ⟨oc,y _ ⟨oc,?_⟩⟩);rw[OM j,bK];grind
   .refine y _ ⟨oa,?_⟩;rw[OM j,e];grind
  .simp_all[xB,EK,A7,AC,AA,AG,DZ]
 refine DY.2 (Z.mono λq X=>DZ.2 ?_);rw[X,A,z,H];exact⟨λ⟨⟨⟨a,b⟩,c⟩,d⟩=>⟨a,b,c,d⟩,λh=>⟨⟨⟨h.needs,h.pins⟩,h.more⟩,h.frozen⟩⟩
section
variable{α:Type}{R:α->α->Prop}
theorem T8(tr:∀a b c,R a b->R b c->R a c){l:List α}{i:Nat}(hi:i<l.length):(l.take (i+1)).Pairwise R<->(l.take i).Pairwise R/\∀(_:0<i) (y:α),l[i-1]?=some y->R y l[i]:=by
 rw[FN (A1 hi),C7];constructor
 .rintro⟨h,_,d⟩;refine⟨h,λo y s=>d y ?_ _ (AJ.2 rfl)⟩;grind[List.mem_take_iff_getElem,List.getElem?_eq_some_iff]
 .rintro⟨h,q⟩;refine⟨h,D4 _ _,λa e b k=>?_⟩;cases AJ.1 k;obtain⟨j,r,rfl⟩:=C2.1 e;grind[List.getElem?_eq_getElem,List.pairwise_iff_getElem,List.length_take]
end
theorem AXt{α:Type}{l:List α}{i:Nat}(hi:i<l.length)(d:α):Tot (bif decide ((0:Int)<(i:Int))then at? l (i64.wrap ((i:Int)-1))else some d) (λy=>0<i->l[i-1]?=some y)\/l.length ≥ 4611686018427387904:=by
 by_cases b:l.length<4611686018427387904
 .left;refine D_.2 ⟨λh=>?_,λh=>DZ.2 λa=>?_⟩
  .have h:=A5 h;rw[EQ oa oa];refine F0.2 ⟨⟨oa,oa⟩,λw e _=>?_⟩;simp_all
  grind
 .right;omega
theorem A0j{α:Type}{l:List α}{i:Nat}(hi:i<l.length)(a:l.length<4611686018427387904)(d:α):Tot (bif decide ((0:Int)<(i:Int))then at? l (i64.wrap ((i:Int)-1))else some d) (λy=>0<i->l[i-1]?=some y):=
 (AXt hi d).elim id λh=>oa
noncomputable def crF(r:Rg):Int:=(V7 r).getD 0
theorem AXu(r:Rg)(a:∀s∈r.2,WF s):V7 r=some (crF r):=by
 suffices h:∃q,V7 r=some q by
  grind[crF]
 refine A05.1 ?_;unfold V7;exact DY.2 ((ABs r a).mono λ_ _=>DZ.2 trivial)
structure NdOk(nd:FZ):Prop where
 kind:(H6 nd.1).2=true
 range:crF nd.2.1=0
 same:nd.2.1.1=(H6 nd.1).1
 scope:1<=nd.2.2/\nd.2.2<=4
structure NdsOk(l:List FZ):Prop where
 few:l.length<=12
 ok:∀nd∈l,NdOk nd
 asc:l.Pairwise λa b=>a.1<b.1
theorem WH{α:Type}(f:α->DX):∀a b c:α,f a<f b->f b<f c->f a<f c:=λ_ _ _=>QU
theorem ACF(l:List FZ)(I:l.length<=1048576)(D:∀nd∈l,L9 nd):Tot (iC l) (λe=>e=0<->NdsOk l):=by
 refine D_.2 ⟨λt=>DZ.2 ⟨λh=>absurd h oi,λh=>?_⟩,λt=>?_⟩
 .have:=A5 t;have:=h.few;omega
 have t:=AF t
 refine DY.2 (Tot.mono (P:=λq:Sum Unit Int=>match q with
  | .inl _=>(∀nd∈l,NdOk nd)/\l.Pairwise λa b=>a.1<b.1
  | .inr e=>e≠0/\¬((∀nd∈l,NdOk nd)/\l.Pairwise λa b=>a.1<b.1)) ?_ λq v=>?_)
 .refine FH (σ:=Unit) l.length (λ_ i=>(l,l,(l.length:Int),i)) (λm _=>(∀nd∈l.take m,NdOk nd)/\(l.take m).Pairwise λa b=>a.1<b.1) oa (λnext s i j B E=>?_) (λnext s B=>?_) () oe
  .unfold tD;dsimp only;have o:=D _ (AU j);rw[EK,A4 j,A8,F8 (A1 j),A0,QZ _ o.1,A0,AXu _ o.2,FD oa];have d:(∀nd∈l,NdOk nd)->NdOk l[i]:=λh=>h _ (AU j);refine D_.2 ⟨λr=>DZ.2 ⟨oi,λh=>?_⟩,λr=>?_⟩
   .rw[(d h.1).kind]at r;cases r
   refine D_.2 ⟨λk=>DZ.2 ?_,λk=>?_⟩
   .rw[E0]at k;have k:=by simpa using k
    exact⟨k,λh=>k (d h.1).range⟩
   refine D_.2 ⟨λw=>DZ.2 ⟨oi,λh=>?_⟩,λw=>?_⟩
   .rw[(d h.1).same,E0]at w;simp at w
   refine D_.2 ⟨λC=>DZ.2 ⟨oi,λh=>?_⟩,λC=>?_⟩
   .have:=(d h.1).scope;grind
   refine DY.2 ((A0j j oa _).mono λy x=>?_);rw[bD];refine D_.2 ⟨λz=>DZ.2 ⟨oi,λh=>?_⟩,λz=>E () ⟨?_,?_⟩⟩
   .obtain⟨A,G⟩:=BA.1 z;have A:=A5 A;have x:=x oa;have H:=((T8 (WH λnd:FZ=>nd.1) j).1 (h.2.sublist (List.take_sublist _ _))).2 oa y x;grind
   .rw[OM j];refine⟨B.1,⟨by simpa using r,?_,?_,?_⟩⟩<;>grind[E0,Bool.or_eq_false_iff,of_decide_eq_false]
   .rw[T8 (WH λnd:FZ=>nd.1) j];grind
  simp_all[tD,EK,A7,AC,AA,AG,DZ]
 .rcases q with u|e
  .exact DZ.2 ⟨λ_=>⟨oa,v.1,v.2⟩,λ_=>rfl⟩
  .exact DZ.2 ⟨λh=>absurd h v.1,λh=>absurd ⟨h.ok,h.asc⟩ v.2⟩
noncomputable def LW(name v:DX):Int×Int:=(SC (name,v)).getD (0,0)
theorem ACG(name v:DX)(a:name.length<=1048576)(b:v.length<=1048576):Tot (SC (name,v)) (λq=>q.2=0->(H6 name).2=true/\q.1=(H6 name).1/\Ok (H6 name).1 v):=by
 unfold SC;dsimp only;rw[QZ _ a];refine D_.2 ⟨λ_=>DZ.2 λh=>absurd h oi,λd=>?_⟩;exact DY.2 ((A0W _ v b).mono λe i=>DZ.2 λh=>⟨by simpa using d,rfl,i h⟩)
theorem ACH(name v:DX)(h:name.length<=1048576)(a:v.length<=1048576):SC (name,v)=some (LW name v):=by
 obtain⟨q,b,_⟩:=ACG name v h a;grind[LW]
theorem RB{name v:DX}(a:name.length<=1048576)(b:v.length<=1048576)(h:(LW name v).2=0):(H6 name).2=true/\(LW name v).1=(H6 name).1/\Ok (H6 name).1 v:=by
 obtain⟨q,e,d⟩:=ACG name v a b;grind[LW]
structure LkOk(l:List E_):Prop where
 few:l.length<=12
 ok:∀p∈l,(LW p.1 p.2).2=0
 asc:l.Pairwise λa b=>a.1<b.1
theorem A0k(l:List E_)(D:l.length<=1048576)(x:∀p∈l,p.1.length<=1048576/\p.2.length<=1048576):Tot (iG l) (λe=>e=0<->LkOk l):=by
 refine D_.2 ⟨λj=>DZ.2 ⟨λh=>absurd h oi,λh=>?_⟩,λj=>?_⟩
 .have:=A5 j;have:=h.few;omega
 have j:=AF j
 refine DY.2 (Tot.mono (P:=λq:Sum Unit Int=>match q with
  | .inl _=>(∀p∈l,(LW p.1 p.2).2=0)/\l.Pairwise λa b=>a.1<b.1
  | .inr e=>e≠0/\¬((∀p∈l,(LW p.1 p.2).2=0)/\l.Pairwise λa b=>a.1<b.1)) ?_ λq k=>?_)
 .refine FH l.length (λ_ i=>(l,l,(l.length:Int),i)) (λm _=>(∀p∈l.take m,(LW p.1 p.2).2=0)/\(l.take m).Pairwise λa b=>a.1<b.1) oa (λnext s i d A z=>?_) (λnext s A=>?_) () oe
  .unfold tI;dsimp only;have v:=x _ (AU d);rw[EK,A4 d,A8,F8 (A1 d),A0,ACH _ _ v.1 v.2,FD oa];refine D_.2 ⟨λw=>DZ.2 ?_,λw=>?_⟩
   .grind[E0,LW,List.getElem_mem]
   refine DY.2 ((A0j d oa _).mono λy o=>?_);rw[bD];refine D_.2 ⟨λr=>DZ.2 ⟨oi,λh=>?_⟩,λr=>z () ⟨?_,?_⟩⟩
   .obtain⟨t,B⟩:=BA.1 r;have t:=A5 t;have o:=o oa;have C:=((T8 (WH _) d).1 (h.2.sublist (List.take_sublist _ _))).2 oa y o;grind
   .simp_all[OM,E0]
   .rw[T8 (WH λnd:E_=>nd.1) d];grind
  simp_all[tI,EK,A7,AC,AA,AG,DZ]
 .rcases q with u|e
  .exact DZ.2 ⟨λ_=>⟨oa,k.1,k.2⟩,λ_=>rfl⟩
  .exact DZ.2 ⟨λh=>absurd h k.1,λh=>absurd ⟨h.ok,h.asc⟩ k.2⟩
def bL(o:GZ):Prop:=o.1.length<=1048576/\o.2.1.length<=1048576/\o.2.2.1.length<=1048576/\∀n∈o.2.2.1,L9 n
structure OfOk(o:GZ):Prop where
 pin:(LW o.1 o.2.1).2=0
 needs:NdsOk o.2.2.1
 other:∀nd∈o.2.2.1,nd.1≠o.1
def MO(a b:GZ):Prop:=a.1<b.1\/a.1=b.1/\ky (H6 a.1).1 a.2.1<ky (H6 b.1).1 b.2.1
theorem AXv(a b c:GZ):MO a b->MO b c->MO a c:=by
 rintro(h|⟨h,e⟩) (d|⟨d,i⟩)
 .exact .inl (QU h d)
 .exact .inl (d▸h)
 .exact .inl (h▸d)
 .exact .inr ⟨h.trans d,QU e i⟩
theorem AXw(l:List FZ)(f:FZ->Option Bool)(p:FZ->Bool)(h:∀x,f x=some (p x))(a:l.length<4611686018427387904):∃b,iE (l,f)=some b/\(b=true<->∃nd∈l,p nd=true):=by
 unfold iE;dsimp only;rw[AWr l f p h a];refine⟨_,rfl,?_⟩;rw[AW];grind[LU,absurd,List.mem_of_getElem?]
theorem AXx(o:GZ)(d:List GZ)(q:bL o)(H:∀a∈d,bL a)(E:∀a∈d,(LW a.1 a.2.1).2=0)(O:d.length<4611686018427387904):
 Tot (iF (o,d)) (λe=>e=0->OfOk o/\∀(_:0<d.length) (y:GZ),d[d.length-1]?=some y->MO y o):=by
 unfold iF;dsimp only;rw[ACH _ _ q.1 q.2.1,A0];refine D_.2 ⟨λh=>DZ.2 λk=>?_,λh=>?_⟩
 .grind[E0,decide_eq_true]
 have l:(LW o.1 o.2.1).2=0:=by rw[E0]at h;simpa using h
 refine DY.2 ((ACF o.2.2.1 q.2.2.1 q.2.2.2).mono λe Q=>D_.2 ⟨λL=>DZ.2 λk=>?_,λL=>?_⟩)
 .grind
 have w:NdsOk o.2.2.1:=Q.1 (by grind[E0]);obtain⟨b,M,N⟩:=AXw o.2.2.1 (λx=>(tE (x,(some o))).bind λr=>some r) (λnd=>E5 nd.1 o.1) (λx=>rfl) (by have:=q.2.2.1;omega);rw[M,A0];refine D_.2 ⟨λ_=>DZ.2 λk=>absurd k oi,λD=>?_⟩
 have A:∀nd∈o.2.2.1,nd.1≠o.1:=by
  intro nd G e;have:=N.2 ⟨nd,G,by rw[E4];grind⟩;rw[D]at this;cases this
 have s:OfOk o:=⟨l,w,A⟩;refine D_.2 ⟨λC=>DZ.2 λ_=>⟨s,λk=>?_⟩,λC=>?_⟩
 .rw[E0]at C;grind
 have J:0<d.length:=by
  rw[E0]at C;have:=AF C;omega
 rw[EQ oa oa];refine DY.2 (F0.2 ⟨⟨oa,oa⟩,λy B=>?_⟩);rw[show((d.length:Int)-1).toNat=d.length-1 by omega]at B;have t:=AI B;rw[A0J,E4];refine D_.2 ⟨λ_=>DZ.2 λk=>absurd k oi,λv=>D_.2 ⟨λj=>?_,λz=>DZ.2 λ_=>⟨s,λ_ T i=>?_⟩⟩⟩
 .have j:=A5 j;obtain⟨_,k1,R⟩:=RB q.1 q.2.1 l;obtain⟨_,_,K⟩:=RB (H y t).1 (H y t).2.1 (E y t);rw[<-j]at K;rw[k1,AWm K R,A0];refine D_.2 ⟨λ_=>DZ.2 λk=>absurd k oi,λI=>DZ.2 λ_=>⟨s,λ_ T i=>?_⟩⟩;rw[B]at i;cases i;have I:=AF I;refine .inr ⟨j.symm,?_⟩;grind[mA]
 .rw[B]at i;cases i;have v:=AF v;have z:=AF z;rcases VZ o.1 y.1 with h|h|h
  .grind
  .grind
  .exact .inl h
def NR(l:List GZ)(nm:DX):Nat:=(l.filter λo=>decide (o.1=nm)).length
theorem AXy(l:List GZ)(o:GZ)(a:DX):NR (l++[o]) a=NR l a+if o.1=a then 1 else 0:=by
 unfold NR;grind
structure RegOk(l:List GZ):Prop where
 ok:∀o∈l,OfOk o
 asc:l.Pairwise MO
 few:(ES l).length<=12
 few8:∀nm,NR l nm<=8
theorem AXz(l:List GZ)(hl:l.length<=1048576)(Z:∀o∈l,bL o):Tot (V8 l) (λe=>e=0->RegOk l):=by
 unfold V8
 refine DY.2 (Tot.mono (P:=λq:Sum Unit Int=>match q with
  | .inl _=>RegOk l
  | .inr e=>e≠0) ?_ λq hq=>?_)
 .refine FH (σ:=Int×Int) l.length (λs i=>(l,s.1,s.2,l,(l.length:Int),i)) (λm s=>(∀o∈l.take m,OfOk o)/\(l.take m).Pairwise MO/\s.1=((ES (l.take m)).length:Int)/\(ES (l.take m)).length<=12/\(∀B,NR (l.take m) B<=8)/\∀(_:0<m) (y:GZ),l[m-1]?=some y->s.2=(NR (l.take m) y.1:Int))
   oa (λnext s i D W hn=>?_) (λnext s W=>?_) (0,0) ⟨oe,oe,rfl,by rw[CE];exact BJ _,λB=>by simp[NR],λh=>oa⟩
  .obtain⟨E,G,O,Q,M,H⟩:=W;unfold tH;dsimp only
   have K:cut? l 0 (i:Int)=some (l.take i):=by
    refine GY (HL.2 ⟨⟨AR _,oa,oa⟩,?_⟩);rw[AK];rfl
   rw[EK,A4 D,A8,F8 (A1 D),A0,K,A0,FD oa];have h5:(l.take i).length=i:=by rw[AY];omega
   refine DY.2 ((AXx l[i] (l.take i) (Z _ (AU D)) (λa x=>Z a (D8 x)) (λa x=>(E a x).pin) oa).mono λe T=>D_.2 ⟨λh=>DZ.2 ?_,λh=>?_⟩)
   .grind[E0]
   have T:=T (by grind[E0]);obtain⟨V,z⟩:=T;have k:∀(_:0<i) (y:GZ),l[i-1]?=some y->MO y l[i]:=λr y v=>z oa y oc;have b:(l.take (i+1)).Pairwise MO:=(T8 AXv D).2 ⟨G,k⟩;have t:∀o∈l.take (i+1),OfOk o:=(OM D _).2 ⟨E,V⟩;have A:=FN (A1 D)
   have h1:∀a∈l.take i,MO a l[i]:=by
    rw[A,C7]at b;exact λa x=>b.2.2 a x _ (AJ.2 rfl)
   have h2:∀B,NR (l.take (i+1)) B=NR (l.take i) B+if l[i].1=B then 1 else 0:=λB=>by rw[A,AXy]
   have d:ES (l.take (i+1))=NQ (ES (l.take i)) l[i]:=by rw[A,T5]
   have h4:(ES (l.take i)).length<=i:=AT (ABy _) oa;rw[EQ (n:=s.1+1) (by rw[O];omega) (by rw[O];omega)]
   have R:Tot (bif (!(E1 (i:Int) 0))then at? l (i64.wrap ((i:Int)-1))else some (([]:List UInt8),(([]:List UInt8),(([]:List FZ),false)))) (λy:GZ=>0<i->l[i-1]?=some y):=by
    refine D_.2 ⟨λN=>?_,λN=>DZ.2 λr=>?_⟩
    .have N:¬((i:Int)=0):=by rw[E0]at N;simpa using N
     rw[EQ oa oa];refine F0.2 ⟨⟨oa,oa⟩,λw hw _=>?_⟩;rw[show i-1=((i:Int)-1).toNat by omega];exact hw
    .grind[E0]
   refine DY.2 (R.mono λy v=>?_)
   have L:(∀a∈l.take i,a.1≠l[i].1)->ES (l.take (i+1))=ES (l.take i)++[l[i].1]/\NR (l.take i) l[i].1=0:=by
    intro h;constructor
    .rw[d];unfold NQ;rw[if_neg];grind[T6]
    .grind[NR,List.length_eq_zero_iff,List.filter_eq_nil_iff]
   refine D_.2 ⟨λC=>?_,λC=>?_⟩
   .have U:∀a∈l.take i,a.1≠l[i].1:=by
     rcases DR i with r|r
     .grind
     have v:=v r;rw[E0,A7 oa,CD,E4]at C;have C:¬y.1=l[i].1:=by simpa using C
     have h6:y.1<l[i].1:=(k r y v).elim id λh=>absurd h.1 C;intro a x e;obtain⟨j,hj,rfl⟩:=C2.1 x
     have h7:y=l[i-1]:=by
      have:=v;rw[A1 oa]at this;exact(A2 this).symm
     by_cases h3:j=i-1
     .grind
     .have:=BE.1 G j (i-1) oa oa oa;grind[MO,JY,QU]
    obtain⟨n1,n2⟩:=L U;refine D_.2 ⟨λ_=>DZ.2 (show(3:Int)≠0 by decide),λhd=>hn (s.1+1,1) ⟨t,b,?_,?_,?_,?_⟩⟩
    .grind
    .grind
    .grind
    grind
   .obtain⟨I,J⟩:=B0.1 C;have r:0<i:=by rw[E0]at I;have:=AF I;omega
    have v:=v r;have X:y.1=l[i].1:=by rw[E4]at J;simpa using J
    have H:=H r y v
    have Y:y∈l.take i:=C2.2 ⟨i-1,oa,by
     grind⟩
    have n1:ES (l.take (i+1))=ES (l.take i):=by
     rw[d];unfold NQ;rw[if_pos];rw[T6];exact⟨y,Y,X⟩
    have h8:=M y.1;rw[EQ (n:=s.2+1) (by rw[H];omega) (by rw[H];omega)];refine D_.2 ⟨λ_=>DZ.2 (show(3:Int)≠0 by decide),λhd=>hn (s.1,s.2+1) ⟨t,b,oc,oc,?_,?_⟩⟩
    .grind
    grind
  .obtain⟨E,G,O,Q,M,H⟩:=W;unfold tH;dsimp only;rw[EK,A7 (AC _),AA];rw[AG]at E G Q M;exact DZ.2 ⟨E,G,Q,M⟩
 grind[DZ,absurd]
structure TaskOk(t:F7):Prop where
 reg:RegOk t.1
 needs:NdsOk t.2.1
 scope:1<=t.2.2.1/\t.2.2.1<=4
 old:LkOk t.2.2.2.1
 frozen:∀s∈t.2.2.2.2.1,(F5 t.2.2.2.1 s).2=true
 asc:t.2.2.2.2.1.Pairwise λa b=>a<b
 base:QV t.2.2.2.2.2.2
theorem AY0(t:F7)(v:TkB t):
 Tot (uN (t,t.2.2.2.2.1,(t.2.2.2.2.1.length:Int),0)) (λq=>match q with
  | .inl A=>A=t/\(∀s∈t.2.2.2.2.1,(F5 t.2.2.2.1 s).2=true)/\t.2.2.2.2.1.Pairwise λa b=>a<b
  | .inr e=>e≠0/\¬((∀s∈t.2.2.2.2.1,(F5 t.2.2.2.1 s).2=true)/\t.2.2.2.2.1.Pairwise λa b=>a<b)):=by
 have x:=v.frozen;have r:=v.old;refine FH t.2.2.2.2.1.length (λ_ i=>(t,t.2.2.2.2.1,(t.2.2.2.2.1.length:Int),i)) (λm _=>(∀s∈t.2.2.2.2.1.take m,(F5 t.2.2.2.1 s).2=true)/\(t.2.2.2.2.1.take m).Pairwise λa b=>a<b) oa (λnext s i d j z=>?_) (λnext s j=>?_) () oe
 .unfold uM;dsimp only;rw[EK,A4 d,A8,F8 (A1 d),A0,OL _ _ oa,FD oa];refine D_.2 ⟨λw=>DZ.2 ⟨oi,λh=>?_⟩,λw=>?_⟩
  .grind
  refine DY.2 ((A0j d oa _).mono λy k=>?_);rw[bD];refine D_.2 ⟨λl=>DZ.2 ⟨oi,λh=>?_⟩,λl=>z () ⟨?_,?_⟩⟩
  .obtain⟨o,B⟩:=BA.1 l;have o:=A5 o;have k:=k oa;have C:=((T8 (WH _) d).1 (h.2.sublist (List.take_sublist _ _))).2 oa y k;grind
  .simp_all[OM]
  .rw[T8 (WH λnd:DX=>nd) d];grind
 .unfold uM;dsimp only;rw[EK,A7 (AC _)];rw[AG]at j;exact DZ.2 ⟨rfl,j⟩
noncomputable def bM(l:List GZ):Int:=(V8 l).getD 0
theorem AY1(l:List GZ)(a:l.length<=1048576)(h:∀o∈l,bL o):V8 l=some (bM l)/\(bM l=0->RegOk l):=by
 obtain⟨e,b,d⟩:=AXz l a h;grind[bM]
theorem A0l(t:F7)(d:TkB t)(z:BB t.2.2.2.2.2.2):Tot (JG t) (λe=>e=0<->(bM t.1=0/\TaskOk t)):=by
 obtain⟨A,B⟩:=AY1 t.1 d.offers d.offer;unfold JG;rw[A];refine D_.2 ⟨λh=>DZ.2 ⟨λa=>?_,λa=>?_⟩,λh=>?_⟩
 .grind[E0,decide_eq_true]
 .exact a.1
 have i:bM t.1=0:=by rw[E0]at h;simpa using h
 refine DY.2 ((ACF t.2.1 d.needs d.need).mono λs b=>D_.2 ⟨λh=>DZ.2 ⟨λa=>?_,λa=>?_⟩,λh=>?_⟩)
 .grind
 .exact b.2 a.2.needs
 have k:=b.1 (by grind[E0]);refine D_.2 ⟨λh=>DZ.2 ⟨λa=>absurd a oi,λa=>?_⟩,λh=>?_⟩
 .have:=a.2.scope;grind
 have o:1<=t.2.2.1/\t.2.2.1<=4:=by
  obtain⟨v,w⟩:=B0.1 h;have:=AF v;have:=AF w;omega
 refine DY.2 ((A0k _ d.old d.pin).mono λs b=>D_.2 ⟨λh=>DZ.2 ⟨λa=>?_,λa=>?_⟩,λh=>?_⟩)
 .grind
 .exact b.2 a.2.old
 have j:=b.1 (by grind[E0]);refine DY.2 ((AY0 t d).mono λq l=>?_);rcases q with C|e
 .obtain⟨rfl,x,y⟩:=l;refine DY.2 ((ABj _ z).mono λe r=>DZ.2 ⟨λa=>⟨i,B i,k,o,j,x,y,r.1 a⟩,λa=>r.2 a.2.base⟩)
 .exact DZ.2 ⟨λa=>absurd a l.1,λa=>absurd ⟨a.2.frozen,a.2.asc⟩ l.2⟩
section
variable{α:Type}{f:α->DX}
theorem ACI{l:List α}(h:l.Pairwise λa b=>f a<f b){a b:α}(d:a∈l)(k:b∈l)(e:f a=f b):a=b:=by
 obtain⟨i,o,rfl⟩:=CP d;obtain⟨j,q,rfl⟩:=CP k;grind[Nat.lt_trichotomy,List.pairwise_iff_getElem,absurd,JY]
theorem AY2{l:List α}(h:l.Pairwise λa b=>f a<f b):l.Nodup:=h.imp λ{a b} d e=>oc
theorem ACJ:∀{l d:List α},(l.Pairwise λa b=>f a<f b)->(d.Pairwise λa b=>f a<f b)->(∀x,x∈l<->x∈d)->l=d:=by
 intro l;induction l with
 |nil=>
  simp_all[D3]
 |cons a l j=>
  intro d e i h;cases d with
  |nil=>grind
  |cons b d=>
   rw[List.pairwise_cons]at e i;grind
end
theorem ON{l:List E_}(h:l.Pairwise λa b=>a.1<b.1)(d v:DX):F5 l d=(v,true)<->(d,v)∈l:=by
 rcases L8 l d with⟨e,k⟩|⟨o,e,j⟩
 .grind
 .rw[e];constructor
  .grind
  .intro i;have:=ACI (f:=λp:E_=>p.1) h j i rfl;grind
theorem ACK{l:List GZ}(h:l.Pairwise MO):(ES l).Pairwise λa b=>a<b:=by
 induction l using mP with
 |nil=>exact List.Pairwise.nil
 |append_singleton l o i=>
  rw[C7]at h;obtain⟨d,_,e⟩:=h;rw[T5];unfold NQ;split
  .exact i d
  .rename_i r;rw[C7];refine⟨i d,D4 _ _,λa j b k=>?_⟩;cases AJ.1 k;obtain⟨x,q,rfl⟩:=(T6 _ _).1 j;rcases e x q o (oe)with h|h<;>grind
theorem PK{t:F7}{a v:DX}:v∈J_ t a<->∃o∈t.1,o.1=a/\PF t a o=true/\o.2.1=v:=by
 unfold J_;simp only[B1,BM,AW];grind
theorem AY3{t:F7}{d v:DX}{nd:FZ}(h:nd∈H2 t (d,v)):∃o∈t.1,o.1=d/\nd∈o.2.2.1:=by
 unfold H2 at h;split at h
 .rename_i o b;have a:=List.find?_some b;have e:=CQ b;rw[A6,AW]at a;exact⟨o,e,a.1,(BM.1 h).1⟩
 .cases h
section
variable{t:F7}(ht:TkB t)(hR:RegOk t.1)
include ht hR
theorem mV:Fy (ES t.1) (F_ t):=by
 have h:∀o∈F_ t,∃s∈ES t.1,KG t s=o:=λo a=>B1.1 a;refine⟨⟨by unfold F_;simp,hR.few,λo a=>?_⟩,ABz _,λo a v b=>?_⟩
 .obtain⟨s,_,rfl⟩:=h o a;unfold KG J_;rw[List.length_reverse,AN];exact AT (B8 _ _) (hR.few8 s)
 .obtain⟨s,_,rfl⟩:=h o a;have b:=List.mem_reverse.1 b;obtain⟨o,a,_,_,rfl⟩:=PK.1 b;exact(ht.offer o a).2.1
theorem ACL:∀i a nd,nd∈K0 t (ES t.1) (F_ t) i a->L9 nd/\(ES t.1)[i]?≠some nd.1:=by
 intro i a nd h;obtain⟨k,v,s,rfl,r,l,q⟩:=WG h;obtain⟨o,j,e,d⟩:=AY3 q;refine⟨(ht.offer o j).2.2.2 nd d,?_⟩;rw[l];intro b;have b:=A2 b;exact(hR.ok o j).other nd d (by rw[e,b])
theorem A0m{j:Nat}{a:DX}(h:(ES t.1)[j]?=some a):(F_ t).getD j []=KG t a:=by
 unfold F_;grind
theorem AY4(i:DX):(KG t i).Nodup:=by
 unfold KG J_;unfold List.Nodup;rw[List.pairwise_reverse];have j:((t.1.filter λo=>decide (o.1=i)).filter (PF t i)).Pairwise MO:=hR.asc.sublist (List.filter_sublist.trans List.filter_sublist);rw[List.pairwise_map];refine j.imp_of_mem λ{a b} k l d e=>?_;have q:=A5 (BM.1 (BM.1 k).1).2;have r:=A5 (BM.1 (BM.1 l).1).2;rcases d with h|h<;>grind
end
theorem bN{a:List DX}{os:List (List DX)}{p:List Nat}{x:E_}:x∈MN a os p<->∃j,j<a.length/\∃k,p.getD j 0=k+1/\x=(a.getD j [],(os.getD j []).getD k []):=by
 unfold MN;grind
theorem T9{α:Type}{l:List α}{i:Nat}{x d:α}(h:l[i]?=some x):l.getD i d=x:=by
 grind
theorem MP{α:Type}{l:List α}{i:Nat}{d:α}(h:i<l.length):l[i]?=some (l.getD i d):=by
 grind
theorem mW{k:List DX}{os:List (List DX)}(h:k.Pairwise λa b=>a<b)(p:List Nat):(MN k os p).Pairwise λa b=>a.1<b.1:=by
 unfold MN;rw[List.pairwise_filterMap];refine(List.pairwise_lt_range).imp_of_mem λ{i j} d e o b r q l=>?_;have d:=CN.1 d;have e:=CN.1 e;grind[List.pairwise_iff_getElem,T9,List.getElem?_eq_getElem]
structure Of(ns:List DX)(os:List (List DX))(p:List Nat)(l:List E_):Prop where
 pin:∀j nm,ns[j]?=some nm->(p.getD j 0=0/\F5 l nm=([],false))\/∃k v,p.getD j 0=k+1/\(os.getD j [])[k]?=some v/\F5 l nm=(v,true)
 inn:∀nm,(F5 l nm).2=true->nm∈ns
theorem ACM{d:List DX}{os:List (List DX)}(h:d.Pairwise λa b=>a<b){p:List Nat}(z:∀j<d.length,p.getD j 0<=cnt os j):Of d os p (MN d os p):=by
 have s:=mW (os:=os) h p;have y:=AY2 h;refine⟨λj i t=>?_,λi h=>?_⟩
 .have l:=(A9.1 t).1;cases hk:p.getD j 0 with
  |zero=>
   refine .inl ⟨rfl,?_⟩;rcases L8 _ i with⟨e,_⟩|⟨v,e,q⟩
   .exact e
   .obtain⟨B,w,k,x,r⟩:=bN.1 q;have C:i=d.getD B []:=congrArg Prod.fst r;grind[PG,MP]
  |succ k=>
   have o:=z j l;rw[hk]at o;have A:(os.getD j [])[k]?=some ((os.getD j []).getD k []):=MP (by assumption);refine .inr ⟨k,_,rfl,A,?_⟩;grind[ON,bN,T9]
 .rcases L8 (MN d os p) i with⟨e,_⟩|⟨v,e,q⟩
  .grind
  .obtain⟨j,t,k,_,r⟩:=bN.1 q;grind
theorem AY5{o:List DX}{os:List (List DX)}(h:o.Pairwise λa b=>a<b){p:List Nat}{l:List E_}(y:l.Pairwise λa b=>a.1<b.1)(s:Of o os p l):MN o os p=l:=by
 refine ACJ (mW h p) y λx=>?_;obtain⟨i,v⟩:=x;rw[bN,<-ON y];constructor
 .rintro⟨j,r,k,hk,e⟩;have D:i=o.getD j []:=congrArg Prod.fst e;have E:v=(os.getD j []).getD k []:=congrArg Prod.snd e;rcases s.pin j i (oc)with⟨A,_⟩|⟨k',C,t,w,q⟩
  .omega
  grind
 .intro z;obtain⟨j,r,B⟩:=CP (s.inn i (by rw[z]));have d:o[j]?=some i:=by rw[A1 r,B]
  rcases s.pin j i d with⟨_,A⟩|⟨k,C,t,w,q⟩
  .grind
  .rw[z]at q;cases q;exact⟨j,r,k,t,by rw[T9 d,T9 w]⟩
section
variable{t:F7}(ht:TkB t)(hR:RegOk t.1){W:List (List Int)}{A:List (List (List Int))}{st:List Int}{rt:Int}(hG:Good t (ES t.1) (F_ t) W A st rt)(hH:mS t (ES t.1)){p:List Nat}{l:List E_}(hO:Of (ES t.1) (F_ t) p l)
include hO
theorem bO(nd:FZ){j:Nat}(i:(ES t.1)[j]?=some nd.1):PJ l nd<->KU ((F_ t).getD j []) nd.2.1 (p.getD j 0)=true:=by
 unfold PJ;rcases hO.pin j _ i with⟨b,a⟩|⟨k,v,a,d,e⟩
 .rw[b,a];exact⟨λh=>absurd h.1 oe,λh=>ol⟩
 .rw[a,e,AC2 d];simp
theorem A0n{a v:DX}(h:F5 l a=(v,true)):∃j k,(ES t.1)[j]?=some a/\p.getD j 0=k+1/\((F_ t).getD j [])[k]?=some v/\K0 t (ES t.1) (F_ t) j (k+1)=H2 t (a,v):=by
 obtain⟨j,e,d⟩:=CP (hO.inn a (by rw[h]));have b:(ES t.1)[j]?=some a:=by rw[A1 e,d]
 rcases hO.pin j a b with⟨_,i⟩|⟨k,s,o,q,r⟩<;>grind[AC5]
include ht hR hG hH
theorem AY6(w:l.Pairwise λa b=>a.1<b.1)(K:Val (ES t.1) (F_ t) W A st rt p):Right t l:=by
 have hF:=mV ht hR;have Y:=ACL ht hR;have d:∀{j o},(ES t.1)[j]?=some o->j<(ES t.1).length:=λh=>(A9.1 h).1;have J:∀{j o},(ES t.1)[j]?=some o->_:=λ{j o} h=>(hG.st j (d h) _).1 (K.st j (d h))
 have y:∀{o},o∈ES t.1->∃j,(ES t.1)[j]?=some o:=λ{o} h=>by
  obtain⟨j,r,D⟩:=CP h;exact⟨j,by rw[A1 r,D]⟩
 refine⟨λnd q=>?_,λx L=>?_,λx L=>?_,λs T=>?_⟩
 .obtain⟨j,r⟩:=y (hH.1 nd q);grind[bO]
 .obtain⟨o,v⟩:=x;obtain⟨j,k,r,hk,C,q⟩:=A0n hO ((ON w o v).2 L);refine⟨?_,λnd h=>?_⟩
  .rw[A0m ht hR r]at C;exact List.mem_reverse.1 (AI C)
  .rw[<-q]at h;obtain⟨i,G⟩:=y ((J r).2.1 nd (by rw[hk];exact h));rw[bO hO nd G];have M:j≠i:=λe=>(Y j _ nd h).2 (by rw[e];exact G);have:=K.al i (d G) j (d r) M;rw[hk]at this;have H:=bJ hG K (d r);rw[hk]at H;exact((hG.al j (d r) (k+1) H i (d G) _).1 this).2.1 nd h G
 .obtain⟨o,v⟩:=x
  have key:∀i,Reach (ES t.1).length (F_ t) W rt (λi a=>p.getD i 0=a) i->∀o,(ES t.1)[i]?=some o->(F5 l o).2=true->CR t l o:=by
   intro i hr;induction hr with
   |root h=>
    intro o I N;refine .root ?_ N;unfold RA;rw[AS,B1];rcases(hG.rt _).1 h with⟨nd,q,D⟩|⟨fz,hfz,D⟩<;>grind
   |step h1 U V E X ih=>
    rename_i i a j;intro o I N;obtain⟨nd,q,D⟩:=(hG.wa i U a V j).1 X;obtain⟨k,v,B,rfl,g1,R,g3⟩:=WG q
    have O:(F5 l B).1=v/\(F5 l B).2=true:=by
     rcases hO.pin i B R with⟨z,_⟩|⟨k',v',z1,z2,z3⟩
     .omega
     .grind
    have:=ih B R O.2;rw[I]at D;cases D;exact .step this oc N
  obtain⟨j,k,r,hk,C,q⟩:=A0n hO ((ON w o v).2 L);have h0:(F5 l o).2=true:=by rw[(ON w o v).2 L]
  rcases K.pn j (d r)with h|h<;>grind
 .obtain⟨j,r⟩:=y (hH.2 s T);have E:=(J r).2.2.2 s T r;unfold oF at E;split at E
  .rename_i k hk;have Z:p.getD j 0=k+1:=A5 E;rcases LU (λx=>decide ((F5 t.2.2.2.1 s).1=x)) ((F_ t).getD j [])with⟨e,_⟩|⟨i,x,e,e2,Q,_⟩
   .grind
   .rw[e]at hk;have hk:i=k:=by have:=hk;injection this
    subst hk;have Q:(F5 t.2.2.2.1 s).1=x:=A5 Q;rcases hO.pin j s r with⟨z,_⟩|⟨k',v',z1,z2,z3⟩<;>grind
  .cases E
omit hH in
theorem AY7(y:l.Pairwise λa b=>a.1<b.1)(T:p.length=(ES t.1).length)(J:Right t l):Val (ES t.1) (F_ t) W A st rt p:=by
 have D:∀{j},j<(ES t.1).length->(ES t.1)[j]?=some ((ES t.1).getD j []):=λh=>MP h
 have o:∀j<(ES t.1).length,p.getD j 0<=cnt _ j:=λj d=>by
  rcases hO.pin j _ (D d)with⟨h,_⟩|⟨k,v,C,r,_⟩
  .omega
  .rw[C];exact(A9.1 r).1
 have q:∀j<(ES t.1).length,∀nd∈K0 t _ _ j (p.getD j 0),PJ l nd:=λj d nd h=>by
  obtain⟨k,v,Y,e,C,r,I⟩:=WG h;rcases hO.pin j _ r with⟨z,_⟩|⟨X,Z,K,H,N⟩
  .omega
  .rw[e]at K;cases K;rw[C]at H;cases H;exact(J.pins _ ((ON y _ _).1 N)).2 nd I
 refine⟨T,λj d=>?_,λj d k hk Q=>?_,λi E=>?_⟩
 .rw[hG.st j d];refine⟨o j d,λnd h=>hO.inn _ (q j d nd h).1,λnd h B=>?_,λfz h B=>?_⟩
  .exact(bO hO nd B).1 (J.needs nd h)
  .obtain⟨C,r⟩:=J.frozen fz h;rcases hO.pin j _ B with⟨_,z⟩|⟨k,v,K,H,N⟩
   .grind
   .rw[N]at r;have r:v=(F5 t.2.2.2.1 fz).1:=r;rw[K];unfold oF;rcases LU (λx=>decide ((F5 t.2.2.2.1 fz).1=x)) _ with⟨_,e⟩|⟨i,x,e,O,L,_⟩
    .have:=e v (AI H);grind
    .have L:(F5 t.2.2.2.1 fz).1=x:=A5 L;rw[<-L,<-r]at O;have G:((F_ t).getD j []).Nodup:=by rw[A0m ht hR B];exact AY4 ht hR fz
     have:=PG G O H;simp_all
 .rw[hG.al k hk _ (o k hk) j d];exact⟨o j d,λnd h B=>(bO hO nd B).1 (q k hk nd h),λnd h B=>(bO hO nd B).1 (q j d nd h)⟩
 .have key:∀s,CR t l s->∀i,(ES t.1)[i]?=some s->Reach (ES t.1).length (F_ t) W rt (λi a=>p.getD i 0=a) i:=by
   intro s U;induction U with
   |root h _=>
    intro i E;refine .root ((hG.rt i).2 ?_);unfold RA at h;grind
   |step C r I V=>
    rename_i s nd;intro i E;have M:=C.pinned;obtain⟨j,k,d,hk,R,G⟩:=A0n hO (by rw[<-M]);have w:=(A9.1 d).1;refine .step (V j d) w (o j w) rfl ((hG.wa j w _ (o j w) i).2 ⟨nd,?_,E⟩);grind
  rcases hO.pin i _ (D E)with⟨h,_⟩|⟨k,v,C,r,I⟩
  .exact .inl h
  .exact .inr (key _ (J.more _ ((ON y _ _).1 I)) i (D E))
end
theorem AY8{t:F7}(s:TkB t)(q:RegOk t.1){l:List E_}(i:l.Pairwise λa b=>a.1<b.1)(hc:∀x∈l,x.2∈J_ t x.1):∃p:List Nat,p.length=(ES t.1).length/\Of (ES t.1) (F_ t) p l:=by
 let f:=λd=>match F5 l d with
  |(v,true)=>(KG t d).idxOf v+1
  |_=>0
 refine⟨(ES t.1).map f,by rw[AN],λj d k=>?_,λd h=>?_⟩
 .have e:((ES t.1).map f).getD j 0=f d:=by
   rw[AD,AV,k];rfl
  rw[e];rcases L8 l d with⟨h,_⟩|⟨v,h,r⟩
  .grind
  .have o:v∈KG t d:=List.mem_reverse.2 (hc _ r);refine .inr ⟨(KG t d).idxOf v,v,?_,?_,h⟩
   .grind
   .rw[A0m s q k];grind
 grind[L8,PK,T6]
theorem AY9{t:F7}{l:List E_}(d:Right t l):mS t (ES t.1):=by
 have a:∀b,(F5 l b).2=true->b∈ES t.1:=λb h=>by
  rcases L8 l b with⟨e,_⟩|⟨v,e,i⟩
  .grind
  .obtain⟨o,k,j,_⟩:=PK.1 (d.pins _ i).1;grind[T6]
 exact⟨λnd h=>a _ (d.needs nd h).1,λfz h=>a _ (d.frozen fz h).1⟩
theorem A0o{k:Int}{w:DX}(h:Ok k w):w≠[]:=let ⟨_,h⟩:=h;AWg h
section
variable{t:F7}(ht:TkB t)(hB:BB t.2.2.2.2.2.2)(hl:t.2.2.2.2.2.2.2.1.length<=2000)(hR:RegOk t.1)
structure CsOk(t:F7)(cs:List (List C3)):Prop where
 cst:Cst (ES t.1).length (F_ t) cs
 zero:∀j nm,(ES t.1)[j]?=some nm->cc cs j 0=GP t (nm,[])
 pin:∀j nm,(ES t.1)[j]?=some nm->∀k v,((F_ t).getD j [])[k]?=some v->cc cs j (k+1)=GP t (nm,v)
include ht hR in
theorem mX{b:DX}(h:b∈ES t.1):b.length<=1048576/\(H6 b).2=true:=by
 obtain⟨o,d,rfl⟩:=(T6 _ _).1 h;have a:=ht.offer o d;exact⟨a.1,(RB a.1 a.2.1 (hR.ok o d).pin).1⟩
include ht hB hl in
theorem TA{x:E_}(a:x.1.length<=1048576)(b:x.2.length<=1048576)(hk:(H6 x.1).2=true):OF (t,x)=some (GP t x)/\CB (GP t x) 1:=
 let h:=ABx t ht hB hl x ⟨a,b⟩ (.inr hk)
 ⟨h.1,h.2.1⟩
include ht hB hl hR in
theorem AYA(W:List (List Int))(A:List (List (List Int)))(st:List Int)(rt:Int):Tot (ZQ (PI t (ES t.1) (F_ t) W A st rt)) (CsOk t):=by
 have w:=mV ht hR;have H:=w.few;have K:=w.len;let row:Nat->List C3:=λj=>GP t ((ES t.1).getD j [],[])::((F_ t).getD j []).map λv=>GP t ((ES t.1).getD j [],v)
 have key:Tot (w5 (PI t (ES t.1) (F_ t) W A st rt,[],ES t.1,((ES t.1).length:Int),0)) (λq=>q=(List.range (ES t.1).length).map row):=by
  refine FH (σ:=List (List C3)) (ES t.1).length (λs i=>(PI t (ES t.1) (F_ t) W A st rt,s,ES t.1,((ES t.1).length:Int),i)) (λm s=>s=(List.range m).map row) oa (λnext s i I d D=>?_) (λnext s d=>?_) [] oe
  .unfold v_;dsimp only;have b:=MP (d:=([]:DX)) I;obtain⟨o,r⟩:=mX ht hR (AI b);have z:(F_ t)[i]?=some ((F_ t).getD i []):=MP oa;have G:=w.vers _ (AI z);have C:=LA w i;unfold cnt at C;rw[EK,A4 I,A8,F8 b,A0,A0];dsimp only;rw[(TA ht hB hl (x:=((ES t.1).getD i [],[])) o (BJ _) r).1,A0,A0];dsimp only;rw[F8 z,A0,FD oa]
   have e:Tot (vZ (PI t (ES t.1) (F_ t) W A st rt,(ES t.1).getD i [],[GP t ((ES t.1).getD i [],[])],(F_ t).getD i [],(((F_ t).getD i []).length:Int),0)) (λq=>q=row i):=by
    refine FH (σ:=List C3) ((F_ t).getD i []).length (λs k=>(PI t (ES t.1) (F_ t) W A st rt,(ES t.1).getD i [],s,(F_ t).getD i [],(((F_ t).getD i []).length:Int),k)) (λm s=>s=GP t ((ES t.1).getD i [],[])::(((F_ t).getD i []).take m).map λv=>GP t ((ES t.1).getD i [],v)) oa (λnext s k hk d D=>?_) (λnext s d=>?_) _ oe
    .unfold vY;dsimp only;have l:=MP (d:=([]:DX)) hk;rw[EK,A4 hk,A8,F8 l,A0,A0];dsimp only;rw[(TA ht hB hl (x:=((ES t.1).getD i [],((F_ t).getD i []).getD k [])) o (G _ (AI l)) r).1,A0,FD oa];have E:s.length=k+1:=by rw[d,AX,AN,AY];omega
     refine DY.2 (FT.2 ⟨oc,D _ ?_⟩);rw[d,FN l,BL];rfl
    .unfold vY;dsimp only;rw[EK,A7 (AC _),AA];grind[List.take_length,DZ]
   rw[GY e,A0];have E:s.length=i:=by rw[d];simp
   refine DY.2 (FT.2 ⟨oc,D _ ?_⟩);rw[d,List.range_succ,BL];rfl
  .simp_all[v_,EK,A7,AC,AA,DZ]
 unfold ZQ;refine DY.2 (DZ.2 (DY.2 (key.mono λq L=>DZ.2 ?_)));subst L
 have B:∀j,j<(ES t.1).length->((List.range (ES t.1).length).map row).getD j []=row j:=λj y=>by
  grind
 have J:∀j,¬j<(ES t.1).length->((List.range (ES t.1).length).map row).getD j []=[]:=λj y=>by
  grind
 have x:CB (0,0,0) 1:=by unfold CB Bd;decide
 refine⟨⟨oe,λj y=>?_,λj a=>?_⟩,λj M h=>?_,λj M h k v l=>?_⟩
 .grind[cnt]
 .unfold cc;by_cases y:j<(ES t.1).length
  .rw[B j y];have b:=MP (d:=([]:DX)) y;obtain⟨o,r⟩:=mX ht hR (AI b);cases a with
   |zero=>exact(TA ht hB hl (x:=((ES t.1).getD j [],[])) o (BJ _) r).2
   |succ k=>
    show CB ((((F_ t).getD j []).map λv=>GP t ((ES t.1).getD j [],v)).getD k (0,0,0)) 1;rw[AD,AV];cases l:((F_ t).getD j [])[k]? with
    |none=>exact x
    |some v=>exact(TA ht hB hl (x:=((ES t.1).getD j [],v)) o (w.vers _ (AI (MP oa)) v (AI l)) r).2
  grind
 .grind[cc,List.getElem?_eq_some_iff,GP,ES,T9]
 .unfold cc;grind
def sl:List C3->C3
 |[]=>(0,0,0)
 |c::l=>GC c (sl l)
theorem A0p(a b c:C3):GC (GC a b) c=GC a (GC b c):=by simp[GC,Int.add_assoc]
theorem A0q(a:C3):GC a (0,0,0)=a:=by simp[GC,Int.add_zero]
theorem AYB(a:C3):GC (0,0,0) a=a:=by simp[GC,Int.zero_add]
theorem ACN(l m:List C3):sl (l++m)=GC (sl l) (sl m):=by
 induction l with
 |nil=>exact(AYB _).symm
 |cons a l i=>
  grind[GC,sl,A0p]
theorem ACO(f:Nat->C3):∀n,sm f n=sl ((List.range n).map f)
 |0=>rfl
 |n+1=>by
  rw[List.range_succ,BL,ACN,<-ACO f n];show GC _ (f n)=GC _ (GC (f n) (0,0,0));rw[A0q]
theorem AYC{l:List C3}(h:∀c∈l,CB c 1):CB (sl l) l.length:=by
 induction l with
 |nil=>unfold CB Bd sl;simp
 |cons a l i=>
  have b:=h a oe;grind[CB,Bd,sl,GC,List.length_cons]
def KV(old l:List E_):Nat:=(old.filter λx=>!(F5 l x.1).2).length
include ht hB hl in
theorem ACP(l:List E_)(z:∀x∈l,x.1.length<=1048576/\x.2.length<=1048576/\(H6 x.1).2=true)(e:l.length<=12):
 LP (t,l)=some (GC (sl (l.map (GP t))) (0,(KV t.2.2.2.1 l:Int),0)):=by
 have A:=ht.old
 have r:∀m,CB (sl ((l.take m).map (GP t))) 12:=λm=>by
  have:=AYC (l:=(l.take m).map (GP t)) λc o=>by
   obtain⟨x,b,rfl⟩:=B1.1 o;obtain⟨v,w,y⟩:=z x (D8 b);simp_all[TA]
  grind[GP,List.length_map,List.length_take,CB,Bd]
 refine GY ?_;unfold LP;dsimp only
 have k:Tot (wW (t,((0:Int),((0:Int),(0:Int))),l,(l.length:Int),(0:Int))) (λq=>q=(t,sl (l.map (GP t)))):=by
  refine FH (σ:=C3) l.length (λs i=>(t,s,l,(l.length:Int),i)) (λm s=>s=sl ((l.take m).map (GP t))) oa (λnext s i d j e=>?_) (λnext s j=>?_) _ rfl
  .unfold wV;dsimp only;have b:l[i]?=some l[i]:=A1 d;obtain⟨v,w,y⟩:=z _ (AU d);obtain⟨C,D⟩:=TA ht hB hl v w y;rw[EK,A4 d,A8,F8 b,A0,C,A0,ACA (n:=12) oa oc D,A0,FD oa];refine e _ ?_;rw[j,FN b,BL,ACN];show GC _ (GP t l[i])=GC _ (GC (GP t l[i]) (0,0,0));rw[A0q]
  .simp_all[wV,EK,A7,AC,AA,AG,DZ]
 rw[GY k,A0];dsimp only;have o:=r l.length;rw[AG]at o
 have B:Tot (wY (l,sl (l.map (GP t)),t.2.2.2.1,(t.2.2.2.1.length:Int),(0:Int))) (λq=>q=GC (sl (l.map (GP t))) (0,(KV t.2.2.2.1 l:Int),0)):=by
  refine FH (σ:=C3) t.2.2.2.1.length (λs i=>(l,s,t.2.2.2.1,(t.2.2.2.1.length:Int),i)) (λm s=>s=GC (sl (l.map (GP t))) (0,(KV (t.2.2.2.1.take m) l:Int),0)) oa (λnext s i d j e=>?_) (λnext s j=>?_) _ (by
   exact(A0q _).symm)
  .unfold wX;dsimp only;have b:t.2.2.2.1[i]?=some t.2.2.2.1[i]:=A1 d;rw[EK,A4 d,A8,F8 b,A0,OL _ _ oa,A0,FD oa];have E:KV (t.2.2.2.1.take i) l<=i:=AT (B8 _ _) oc
   have a:KV (t.2.2.2.1.take (i+1)) l=KV (t.2.2.2.1.take i) l+(bif !(F5 l t.2.2.2.1[i].1).2 then 1 else 0):=by
    unfold KV;rw[FN b,D2,AE];cases h:(!(F5 l t.2.2.2.1[i].1).2)<;>simp[h]
   refine D_.2 ⟨λh=>e _ ?_,λh=>e _ ?_⟩
   .rw[a,h,j];unfold CB Bd at o;unfold GC;dsimp only;rw[EQ oa oa];grind
   grind
  .simp_all[wX,EK,A7,AC,AA,AG,DZ]
 grind
theorem AYD{α:Type}(g:Nat->C3)(h:Nat->Option α)(b:α->C3)(z:Nat->Bool)(r:List Nat)(a:∀j∈r,(∃x,h j=some x/\g j=b x/\z j=false)\/(h j=none/\g j=(0,(bif z j then 1 else 0),0))):
 sl (r.map g)=GC (sl ((r.filterMap h).map b)) (0,((r.filter z).length:Int),0):=by
 induction r with
 |nil=>rfl
 |cons j r i=>
  have i:=i λj d=>a j (by simp[d]);show GC (g j) _=_;rw[i];rcases a j (oe)with⟨x,h1,h2,h3⟩|⟨h1,h2⟩
  .rw[DP h1,List.filter_cons,h3,h2];simp only[D1,CL];show _=GC (GC _ _) _;rw[A0p]
  .rw[List.filterMap_cons_none h1,List.filter_cons,h2];grind[GC]
include ht hR in
theorem AYE{cs:List (List C3)}(N:CsOk t cs)(q:LkOk t.2.2.2.1){p:List Nat}(T:∀j<(ES t.1).length,p.getD j 0<=cnt (F_ t) j)(hB:BB t.2.2.2.2.2.2)(hl:t.2.2.2.2.2.2.2.1.length<=2000):
 LP (t,MN (ES t.1) (F_ t) p)=some (GC (cP cs (ES t.1).length p) (0,((t.2.2.2.1.filter λx=>!(decide (x.1∈ES t.1))).length:Int),0)):=by
 have O:=mV ht hR;have R:=O.few;have o:=ACK hR.asc;have E:=ACM (os:=F_ t) o T;have I:=mW (os:=F_ t) o p;obtain⟨l,el⟩:∃l,l=MN (ES t.1) (F_ t) p:=⟨_,rfl⟩;rw[<-el]at E I ⊢
 have H:∀x∈l,x.1.length<=1048576/\x.2.length<=1048576/\(H6 x.1).2=true:=by
  intro x B;rw[el]at B;obtain⟨j,w,k,hk,rfl⟩:=bN.1 B;obtain⟨C,L⟩:=mX ht hR (AI (MP (d:=([]:DX)) w));have:=T j w;unfold cnt at this;exact⟨C,O.vers _ (AI (MP oc)) _ (AI (MP oa)),L⟩
 have J:l.length<=12:=by
  rw[el];exact AT (List.length_filterMap_le _ _) oc
 rw[ACP ht hB hl l H J];let z:DX->Bool:=λU=>!(F5 l U).2 && !(E5 (F5 t.2.2.2.1 U).1 [])
 have G:cP cs (ES t.1).length p=GC (sl (l.map (GP t))) (0,(((ES t.1).filter z).length:Int),0):=by
  unfold cP;rw[ACO,AYD _ _ (GP t) (λj=>z ((ES t.1).getD j [])) _ λj w=>?_]
  .have V:(ES t.1).filter z=((List.range (ES t.1).length).filter λj=>z ((ES t.1).getD j [])).map λj=>(ES t.1).getD j []:=by
    have:ES t.1=(List.range (ES t.1).length).map λj=>(ES t.1).getD j []:=by
     apply List.ext_getElem oe;intro j y D;rw[List.getElem_map,List.getElem_range,T9 (A1 y)]
    conv=>lhs;rw[this]
    rw[List.filter_map];rfl
   rw[V,AN,el];rfl
  .have w:=CN.1 w;have d:=MP (d:=([]:DX)) w;obtain⟨C,L⟩:=mX ht hR (AI d);rcases E.pin j _ d with⟨M,y⟩|⟨k,v,y,D,X⟩
   .refine .inr ⟨by rw[M],?_⟩;rw[M,N.zero j _ d,(ABx t ht hB hl ((ES t.1).getD j [],[]) ⟨C,BJ _⟩ (.inl rfl)).2.2 rfl];grind
   .refine .inl ⟨_,by rw[y],?_,?_⟩
    .rw[y,N.pin j _ d k v D,T9 D]
    grind
 rw[G,A0p]
 congr 2
 unfold GC;dsimp only
 have A:KV t.2.2.2.1 l=((ES t.1).filter z).length+(t.2.2.2.1.filter λx=>!(decide (x.1∈ES t.1))).length:=by
  have i:∀old:List E_,KV old l=(old.filter λx=>decide (x.1∈ES t.1) && !(F5 l x.1).2).length+(old.filter λx=>!(decide (x.1∈ES t.1))).length:=by
   intro old;unfold KV;induction old with
   |nil=>rfl
   |cons x old Z=>
    rw[List.filter_cons,List.filter_cons,List.filter_cons];by_cases B:x.1∈ES t.1
    .grind
    .have:(F5 l x.1).2=false:=by
      cases h:(F5 l x.1).2 with
      |false=>rfl
      |true=>exact absurd (E.inn _ h) B
     grind
  rw[i]
  congr 1
  have W:∀s,(F5 t.2.2.2.1 s).1≠[]<->∃x∈t.2.2.2.1,x.1=s:=λs=>by
   rcases L8 t.2.2.2.1 s with⟨e,Y⟩|⟨v,e,K⟩
   .grind
   .rw[e];have Q:=ht.pin _ K;exact⟨λ_=>⟨_,K,rfl⟩,λ_=>A0o (RB Q.1 Q.2 (q.ok _ K)).2.2⟩
  have r:((t.2.2.2.1.filter λx=>decide (x.1∈ES t.1) && !(F5 l x.1).2).map λx=>x.1).Perm ((ES t.1).filter z):=by
   refine(List.perm_ext_iff_of_nodup ?_ ((ABz _).sublist List.filter_sublist)).2 λs=>?_
   .unfold List.Nodup;rw[List.pairwise_map];exact(q.asc.sublist List.filter_sublist).imp λ{a b} h e=>oc
   .rw[B1,BM];dsimp only[z];rw[A6,E4];constructor<;>simp_all
  rw[<-r.length_eq,AN]
 grind
end
end Go.Ev.Pv
namespace Go.Ev.Pv
theorem AYF(a b:List E_)(r:a.length<4611686018427387904):kT (a,b)=some (decide (a=b)):=by
 unfold kT;dsimp only;cases k:E1 _ _ with
 |false=>
  have:=AF k;rw[BW,A8,A7 λe=>this (by rw[e])]
 |true=>
  have l:a.length=b.length:=by have:=A5 k;omega
  rw[BS,AA]
  have:Tot (yK (a,b,(a.length),(0))) (λq=>match q with
   | .inl _=>a=b
   | .inr y=>y=false/\a≠b):=by
   refine FH _ (λ_ i=>(a,b,(a.length:Int),i)) (λm _=>a.take m=b.take m) r (λnext _ i j o s=>?_) (λnext _ o=>?_) () oe
   .unfold yJ;dsimp only;have d:i<b.length:=oa
    rw[EK,A4 j,A8,F8 (A1 j),A0,F8 (A1 d),A0,E4,E4,FD oa];refine D_.2 ⟨λh=>DZ.2 ⟨rfl,λe=>?_⟩,λh=>s () ?_⟩
    .grind
    .have h:(decide (a[i].1=b[i].1)&&decide (a[i].2=b[i].2))=true:=by simpa using h
     rw[A6,AW,AW]at h;rw[FN (A1 j),FN (A1 d),o,Prod.ext h.1 h.2]
   .unfold yJ;dsimp only;rw[EK,A7 (AC _)];grind[List.take_length,DZ]
  obtain⟨q,t,v⟩:=this;grind
theorem AYG{t:F7}(j:TkB t)(hc:JG t=some 0)(l:List E_)(d:l.length<=1048576)(a:∀p∈l,p.1.length<=1048576/\p.2.length<=1048576):
 Tot (jY (t,l)) (λq=>(q.2=0<->LkOk l)/\(q.2=0->(q.1=[]<->Right t l))):=by
 unfold jY VM;dsimp only;rw[hc,A0,show(!(E1 _ 0))=false from rfl];refine DY.2 (DY.2 ((A0k l d a).mono λe b=>DZ.2 (D_.2 ⟨λh=>DZ.2 ?_,λh=>?_⟩)))
 .grind[E0,absurd]
 .have h:e=0:=by rw[E0]at h;simpa using h
  have hk:=b.1 h;exact DY.2 ((AXs t j l ⟨hk.few,a⟩).mono λq i=>DZ.2 ⟨⟨λ_=>hk,λ_=>rfl⟩,λ_=>i⟩)
theorem TB{t:F7}(d:TkB t){l:List E_}(hk:LkOk l)(b:Right t l):l.length<=1048576/\∀p∈l,p.1.length<=1048576/\p.2.length<=1048576:=by
 refine⟨by have:=hk.few;omega,λp a=>?_⟩;obtain⟨o,h,e,_,i⟩:=PK.1 (b.pins p a).1;have:=d.offer o h;grind
theorem AYH{a b k:C3}:ID (GC a k) (GC b k)<->ID a b:=by grind[ID,GC]
section
variable{t:F7}(ht:TkB t)(hB:BB t.2.2.2.2.2.2)(hk:TaskOk t)(hc:JG t=some 0)
include ht hk hB hc
end
abbrev wN(t:F7)(l:List FZ):F7:=(t.1,(l,t.2.2))
def AYI(t:F7)(l:List FZ):Prop:=∃k,LkOk k/\Right (wN t l) k
noncomputable instance decSolv(t:F7)(l:List FZ):Decidable (AYI t l):=Classical.propDecidable _
section
variable{t:F7}(ht:TkB t)(hB:BB t.2.2.2.2.2.2)(hc:JG t=some 0)
include ht hB hc
end
end Go.Ev.Pv
