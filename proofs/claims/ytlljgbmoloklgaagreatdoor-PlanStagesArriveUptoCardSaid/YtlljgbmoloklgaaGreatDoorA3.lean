/-
  The law as plain Lean, third part: changes of locks, the search for an order of them, and the law.
-/
import Derived.Test.YtlljgbmoloklgaaGreatDoorA2
import Derived.Test.YtlljgbmoloklgaaGreatDoorD
set_option linter.unusedVariables false
set_option linter.unusedSimpArgs false
set_option linter.unusedSectionVars false
set_option maxRecDepth 100000
namespace Go.Ev.Pv
abbrev F9:=DW×DW×DW
structure StepsOf(a b:List EX)(S:List F9):Prop where
 asc:S.Pairwise λs t=>s.1<t.1
 mem:∀s,s∈S<->(∃v,(s.1,v)∈a\/(s.1,v)∈b)/\s.2.1=(FB a s.1).1/\s.2.2=(FB b s.1).1/\s.2.2≠s.2.1
structure ChgOf(l:List EX)(S:List F9)(d:Nat->Bool)(r:List EX):Prop where
 asc:r.Pairwise λa b=>a.1<b.1
 mem:∀nm v,(nm,v)∈r<->((nm,v)∈l/\∀s∈S,s.1≠nm)\/∃(i:Nat) (s:F9),S[i]?=some s/\s.1=nm/\v=(if d i=true then s.2.2 else s.2.1)/\v≠[]
structure MovOf(l:List EX)(s:F9)(r:List EX):Prop where
 asc:r.Pairwise λa b=>a.1<b.1
 mem:∀nm v,(nm,v)∈r<->((nm,v)∈l/\nm≠s.1)\/(nm=s.1/\v=s.2.2/\v≠[])
theorem ChgOf.unique{l:List EX}{S:List F9}{d d':Nat->Bool}{r r':List EX}(h:ChgOf l S d r)(h':ChgOf l S d' r')(e:∀i,i<S.length->d i=d' i):r=r':=by
 refine ART h.asc h'.asc λx=>?_;obtain⟨nm,v⟩:=x;rw[h.mem,h'.mem];refine or_congr Iff.rfl ⟨?_,?_⟩
 .rintro⟨i,s,h1,h2,h3,h4⟩;exact⟨i,s,h1,h2,by rw[<-e i (A8.1 h1).1];exact h3,h4⟩
 .rintro⟨i,s,h1,h2,h3,h4⟩;exact⟨i,s,h1,h2,by rw[e i (A8.1 h1).1];exact h3,h4⟩
theorem SA{l:List EX}{nm v:DW}(h:(FB l nm).1=v)(hv:v≠[]):(nm,v)∈l:=by
 rcases VS l nm with⟨h1,_⟩|⟨u,h1,h2⟩
 .rw[h1]at h;exact absurd h.symm hv
 .rw[h1]at h;have:u=v:=h;rw[<-this];exact h2
theorem f9{l:List EX}(hl:l.Pairwise λa b=>a.1<b.1){nm v:DW}(h:(nm,v)∈l):(FB l nm).1=v:=by
 rw[(ARU hl nm v).2 h]
theorem ARY{a b:List EX}{S:List F9}(h:StepsOf a b S)(ha:a.Pairwise λx y=>x.1<y.1)(hv:∀p∈a,p.2≠[]):ChgOf a S (λ_=>false) a:=by
 refine⟨ha,λnm v=>⟨λhm=>?_,?_⟩⟩
 .by_cases hs:∃s∈S,s.1=nm
  .obtain⟨s,hs,rfl⟩:=hs;obtain⟨i,hi⟩:=C9 hs;refine .inr ⟨i,s,hi,rfl,?_,hv _ hm⟩;rw[if_neg oc,((h.mem s).1 hs).2.1,f9 ha hm]
  .exact .inl ⟨hm,λs hs' e=>hs ⟨s,hs',e⟩⟩
 .rintro(⟨hm,_⟩|⟨i,s,h1,rfl,h3,h4⟩)
  .exact hm
  .rw[if_neg oc,((h.mem s).1 (B5 h1)).2.1]at h3;exact SA h3.symm h4
theorem A7X{a b:List EX}{S:List F9}(h:StepsOf a b S)(ha:a.Pairwise λx y=>x.1<y.1)(hb:b.Pairwise λx y=>x.1<y.1)(hva:∀p∈a,p.2≠[])(hvb:∀p∈b,p.2≠[]):ChgOf a S (λ_=>true) b:=by
 refine⟨hb,λnm v=>⟨λhm=>?_,?_⟩⟩
 .have hvn:v≠[]:=hvb _ hm;by_cases he:(FB a nm).1=v
  .refine .inl ⟨SA he hvn,λs hs e=>?_⟩;obtain⟨_,h2,h3,h4⟩:=(h.mem s).1 hs;subst e;rw[h2,h3,he,f9 hb hm]at h4;exact h4 rfl
  .have hs:((nm,(FB a nm).1,v):F9)∈S:=(h.mem _).2 ⟨⟨v,.inr hm⟩,rfl,(f9 hb hm).symm,λe=>he e.symm⟩;obtain⟨i,hi⟩:=C9 hs;exact .inr ⟨i,_,hi,rfl,by rw[if_pos rfl],hvn⟩
 .rintro(⟨hm,hn⟩|⟨i,s,h1,rfl,h3,h4⟩)
  .by_cases he:(FB b nm).1=v
   .exact SA he (hva _ hm)
   .exact absurd rfl (hn (nm,v,(FB b nm).1) ((h.mem _).2 ⟨⟨v,.inl hm⟩,(f9 ha hm).symm,rfl,he⟩))
  .rw[if_pos rfl,((h.mem s).1 (B5 h1)).2.2.1]at h3;exact SA h3.symm h4
theorem ARZ{a b:List EX}{S:List F9}(h:StepsOf a b S){i j:Nat}{s t:F9}(hi:S[i]?=some s)(hj:S[j]?=some t)(e:s.1=t.1):i=j:=by
 obtain⟨hi',rfl⟩:=A8.1 hi;obtain⟨hj',rfl⟩:=A8.1 hj;have hp:=BZ.1 h.asc;rcases Nat.lt_trichotomy i j with hl|hl|hl
 .have:=hp i j hi' hj' hl;rw[e]at this;exact absurd this (List.lt_irrefl _)
 .exact hl
 .have:=hp j i hj' hi' hl;rw[e]at this;exact absurd this (List.lt_irrefl _)
theorem AR_{a b:List EX}{S:List F9}(h:StepsOf a b S){d:Nat->Bool}{r r':List EX}(hr:ChgOf a S d r){i:Nat}{s:F9}(hi:S[i]?=some s)(hm:MovOf r s r'):
 ChgOf a S (λj=>d j||decide (j=i)) r':=by
 refine⟨hm.asc,λnm v=>?_⟩;rw[hm.mem,hr.mem];constructor
 .rintro(⟨hx|⟨j,t,h1,rfl,h3,h4⟩,hn⟩|⟨rfl,h2,h3⟩)
  .exact .inl hx
  .refine .inr ⟨j,t,h1,rfl,?_,h4⟩
   have hji:¬j=i:=λe=>by
    subst e;rw[hi]at h1;cases h1;exact hn rfl
   simpa[hji]using h3
  .exact .inr ⟨i,s,hi,rfl,oq,h3⟩
 .rintro(⟨h1,h2⟩|⟨j,t,h1,rfl,h3,h4⟩)
  .exact .inl ⟨.inl ⟨h1,h2⟩,λe=>h2 s (B5 hi) e.symm⟩
  .by_cases hji:j=i
   .subst hji;rw[hi]at h1;cases h1;exact .inr ⟨rfl,by simpa using h3,h4⟩
   .refine .inl ⟨.inr ⟨j,t,h1,rfl,by simpa[hji]using h3,h4⟩,λe=>hji (ARZ h h1 hi e)⟩
theorem ARa(s:F9)(l:List EX)(hl:l.length<=1048576):dC (s,[],l,(l.length:Int),0)=some (s,l.filter λp=>!decide (p.1=s.1)):=by
 have:Tot (dC (s,[],l,(l.length:Int),(0:Int))) (λq=>q=(s,l.filter λp=>!decide (p.1=s.1))):=by
  refine GD (σ:=List EX) l.length (λo i=>(s,o,l,(l.length:Int),i)) (λi o=>o=(l.take i).filter λp=>!decide (p.1=s.1)) o5 (λnext o i hi hj hn=>?_) (λnext o hj=>?_) [] oc
  .unfold pA;dsimp only;rw[F8,A7 hi,AA,GC (A0 hi),A1,GK o5,E3];have hle:o.length<=i:=by rw[hj];exact AU (BK _ _) (by rw[B4];omega)
   refine DZ.2 ⟨λh=>DX.2 (FU.2 ⟨by simp only[AF,AW];omega,?_⟩),λh=>?_⟩
   .refine hn _ ?_;rw[GJ (A0 hi),CB,<-hj];exact eX h
   .refine hn _ ?_;rw[GJ (A0 hi),CB,<-hj];exact eY h
  .unfold pA;dsimp only;rw[F8,AE (AH _),AC];exact DY.2 (by rw[hj,B3])
 exact KK this
theorem ARb{l:List EX}{s:F9}{nm v:DW}:(nm,v)∈(l.filter λp=>!decide (p.1=s.1))<->(nm,v)∈l/\nm≠s.1:=by
 rw[CX];simp
theorem sI{a b:DW}(h:¬a<b)(hn:b≠a):b<a:=by
 rcases List.le_iff_lt_or_eq.1 (List.not_lt.1 h)with h1|h1
 .exact h1
 .exact absurd h1 hn
theorem ARc(l:List EX)(s:F9)(hl:l.length<=1048575)(ha:l.Pairwise λa b=>a.1<b.1):Tot (dD (l,s)) (λr=>MovOf l s r/\r.length<=l.length+1):=by
 unfold dD;dsimp only;rw[ARa s l o5,A1];dsimp only;have hFm:=λ(nm v:DW)=>ARb (l:=l) (s:=s) (nm:=nm) (v:=v);have hFa:(l.filter λp=>!decide (p.1=s.1)).Pairwise λa b=>a.1<b.1:=ha.filter _;have hFl:(l.filter λp=>!decide (p.1=s.1)).length<=l.length:=BK _ _;obtain⟨F,hF⟩:∃F,F=l.filter λp=>!decide (p.1=s.1):=⟨_,rfl⟩;rw[<-hF]at hFa hFl ⊢;simp only[<-hF]at hFm;have hne:∀p∈F,p.1≠s.1:=λp hp=>((hFm p.1 p.2).1 hp).2;refine DZ.2 ⟨λh=>?_,λh=>?_⟩
 .have hv:s.2.2≠[]:=by simpa[E3]using h
  rw[A7M F _ (λp=>decide (s.1<p.1)) (λx=>by unfold o_;simp[VP]) o5,A1]
  have ins:∀n:Nat,n<=F.length->(∀p∈F.take n,p.1<s.1)->(∀p∈F.drop n,s.1<p.1)->Tot ((R0 (F,(n:Int),[(s.1,s.2.2)])).bind λr=>some r) (λr=>MovOf l s r/\r.length<=l.length+1):=by
   intro n hn h1 h2
   have e:R0 (F,(n:Int),[(s.1,s.2.2)])=some (F.take n++[(s.1,s.2.2)]++F.drop n):=by
    unfold R0 YW;dsimp only;rw[if_pos ⟨o5,o5,rfl,o5⟩,CQ]
   rw[e,A1];refine DY.2 ⟨⟨?_,λnm v=>?_⟩,?_⟩
   .rw[B_,DL];refine⟨hFa.sublist (List.take_sublist _ _),?_,?_⟩
    .rw[List.singleton_append,List.pairwise_cons];exact⟨λp hp=>h2 p hp,hFa.sublist (List.drop_sublist _ _)⟩
    .intro p hp q hq;rw[List.singleton_append,A_]at hq;rcases hq with rfl|hq
     .exact h1 p hp
     .exact List.lt_trans (h1 p hp) (h2 q hq)
   .rw[AL,AL,AN];have hm:(nm,v)∈F<->(nm,v)∈F.take n\/(nm,v)∈F.drop n:=by rw[<-AL,List.take_append_drop]
    constructor
    .rintro((h3|h3)|h3)
     .exact .inl ((hFm nm v).1 (hm.2 (.inl h3)))
     .injection h3 with e1 e2;subst e1 e2;exact .inr ⟨rfl,rfl,hv⟩
     .exact .inl ((hFm nm v).1 (hm.2 (.inr h3)))
    .rintro(h3|⟨rfl,rfl,_⟩)
     .rcases hm.1 ((hFm nm v).2 h3)with h4|h4
      .exact .inl (.inl h4)
      .exact .inr h4
     .exact .inl (.inr rfl)
   .rw[A6,A6,B4,BP];simp only[AF,AW];omega
  rcases VR (λp:EX=>decide (s.1<p.1)) F with⟨h1,h2⟩|⟨i,x,h1,h2,h3,h4⟩
  .rw[h1];refine DZ.2 ⟨λ_=>ins F.length (AB _) (λp hp=>?_) (λp hp=>by simp at hp),λh=>absurd h od⟩;have hp:=DA hp;exact sI (AO (h2 p hp)) (hne p hp)
  .rw[h1];have hlt:=(A8.1 h2).1;refine DZ.2 ⟨λh=>absurd (A9 h) o5,λ_=>ins i o5 (λp hp=>?_) (λp hp=>?_)⟩
   .obtain⟨j,hj,rfl⟩:=CY hp;rw[B4]at hj;rw[List.getElem_take];have h5:=h4 j F[j] o5 (A0 o5);exact sI (AO h5) (hne _ (BM o5))
   .obtain⟨j,hj,rfl⟩:=CY hp;rw[BP]at hj;rw[List.getElem_drop];have h5:s.1<x.1:=A9 h3;have hx:F[i]=x:=(A8.1 h2).2;rcases D0 j with rfl|h0
    .simp only[CI];rw[hx];exact h5
    .have:=BZ.1 hFa i (i+j) hlt o5 o5;rw[hx]at this;exact List.lt_trans h5 this
 .have hv:s.2.2=[]:=by simpa[E3]using h
  refine DY.2 ⟨⟨hFa,λnm v=>?_⟩,o5⟩;rw[hFm];constructor
  .exact .inl
  .rintro(h1|⟨_,h2,h3⟩)
   .exact h1
   .exact absurd (h2.trans hv) h3
theorem ARd(l:List F9)(f:F9->Option Bool)(p:F9->Bool)(hf:∀x,f x=some (p x))(hl:l.length<4611686018427387904):cV (l,f)=some (IQ p l):=by
 unfold cV;dsimp only
 have:Tot (oO (l,f,(l.length:Int),(0:Int))) (λq=>(match q with| .inl _=>-1| .inr y=>y)=IQ p l):=by
  refine GD (σ:=Unit) l.length (λ_ i=>(l,f,(l.length:Int),i)) (λi _=>∀y∈l.take i,p y=false) hl (λnext _ i hi hj hn=>?_) (λnext _ hj=>?_) () oc
  .unfold oN;dsimp only;rw[F8,A7 hi,AA,GC (A0 hi),A1,hf,A1];refine DZ.2 ⟨λh=>DY.2 ?_,λh=>?_⟩
   .exact(VQ (A0 hi) h hj).symm
   .rw[GK o5];refine hn () ?_;intro y hy;rw[GJ (A0 hi),AL,AN]at hy;rcases hy with hy|rfl
    .exact hj y hy
    .exact h
  .unfold oN;dsimp only;rw[F8,AE (AH _),AC];exact DY.2 (eZ (by rwa[B3]at hj)).symm
 obtain⟨q,h1,h2⟩:=this;rw[h1,A1];rcases q with y|y<;>· dsimp only at h2 ⊢;rw[<-h2]
theorem ARe(l:List F9)(f:F9->Option Bool)(p:F9->Bool)(hf:∀x,f x=some (p x))(hl:l.length<4611686018427387904):cW (l,f)=some (l.any p):=by
 unfold cW;dsimp only;rw[ARd l f p hf hl,A1]
 congr 1
 rcases VR p l with⟨h1,h2⟩|⟨i,x,h1,h2,h3,_⟩
 .rw[h1,(List.any_eq_false).2 (λx hx=>by rw[h2 x hx];simp)];decide
 .rw[h1,List.any_eq_true.2 ⟨x,B5 h2,h3⟩];exact A7 o5
def KL(l:List EX)(S:List F9):List EX:=l.filter λp=>!(S.any λs=>decide (s.1=p.1))
theorem A7Y{l:List EX}{S:List F9}{nm v:DW}:(nm,v)∈KL l S<->(nm,v)∈l/\∀s∈S,s.1≠nm:=by
 unfold KL;rw[CX];simp
theorem ARf(S:List F9)(l:List EX)(hl:l.length<=1048576)(hS:S.length<=1048576):cX (S,[],l,(l.length:Int),0)=some (KL l S):=by
 have:Tot (cX (S,[],l,(l.length:Int),(0:Int))) (λq=>q=KL l S):=by
  refine GD (σ:=List EX) l.length (λo i=>(S,o,l,(l.length:Int),i)) (λi o=>o=KL (l.take i) S) o5 (λnext o i hi hj hn=>?_) (λnext o hj=>?_) [] (by simp[KL])
  .unfold oQ;dsimp only
   rw [F8,A7 hi,AA,GC (A0 hi),A1,GK o5,
    ARe S _ (λs=>decide (s.1=l[i].1)) (λx=>by unfold oM;simp[E3]) o5,A1]
   have hle:o.length<=i:=by rw[hj];exact AU (BK _ _) (by rw[B4];omega)
   refine DZ.2 ⟨λh=>DX.2 (FU.2 ⟨by simp only[AF,AW];omega,?_⟩),λh=>?_⟩
   .refine hn _ ?_;unfold KL at hj ⊢;rw[GJ (A0 hi),CB,<-hj];exact eX h
   .refine hn _ ?_;unfold KL at hj ⊢;rw[GJ (A0 hi),CB,<-hj];exact eY h
  .unfold oQ;dsimp only;rw[F8,AE (AH _),AC];exact DY.2 (by rw[hj,B3])
 exact KK this
structure LaidC(R:List EX)(S:List F9)(d:Nat->Bool)(n:Nat)(o:List EX):Prop where
 mem:∀nm v,(nm,v)∈o<->(nm,v)∈R\/∃(i:Nat) (s:F9),i<n/\S[i]?=some s/\s.1=nm/\v=(if d i=true then s.2.2 else s.2.1)/\v≠[]
 nod:(o.map λp=>p.1).Nodup
 len:o.length<=R.length+n
theorem ARg(S:List F9)(dn:Int)(hd:HE dn)(R:List EX)(hS:S.length<=1048576)(hR:R.length<=1048576)(hRn:(R.map λp=>p.1).Nodup)(hSn:S.Pairwise λs t=>s.1<t.1)(hRS:∀p∈R,∀s∈S,s.1≠p.1):
 Tot (oS (dn,R,S,(S.length:Int),0)) (λq=>LaidC R S (bt dn) S.length q):=by
 refine GD (σ:=List EX) S.length (λo i=>(dn,o,S,(S.length:Int),i)) (λi o=>LaidC R S (bt dn) i o) o5 (λnext o i hi hj hn=>?_) (λnext o hj=>?_) R ⟨λnm v=>oc,hRn,AB _⟩
 .unfold oR;dsimp only;rw[F8,A7 hi,AA,GC (A0 hi),A1,sB hd,A1,GK o5]
  have e5:cY (S[i],S[i].2.1,bt dn i)=some (S[i],if bt dn i=true then S[i].2.2 else S[i].2.1):=by
   unfold cY;dsimp only;cases bt dn i<;>rfl
  rw[e5,A1];dsimp only;obtain⟨v,hv⟩:∃v,v=if bt dn i=true then S[i].2.2 else S[i].2.1:=⟨_,rfl⟩;rw[<-hv];have hS':S[i]?=some S[i]:=A0 hi;have hle:=hj.len;refine DZ.2 ⟨λh=>DX.2 (FU.2 ⟨by simp only[AF,AW];omega,hn _ ⟨λnm u=>?_,?_,?_⟩⟩),λh=>hn _ ⟨λnm u=>?_,hj.nod,o5⟩⟩
  .have hvn:v≠[]:=by simpa[E3]using h
   rw[AL,hj.mem,AN];constructor
   .rintro((h1|⟨j,s,h1,h2⟩)|h1)
    .exact .inl h1
    .exact .inr ⟨j,s,o5,h2⟩
    .injection h1 with e1 e2;subst e1 e2;exact .inr ⟨i,S[i],o5,hS',rfl,hv,hvn⟩
   .rintro(h1|⟨j,s,h1,h2,rfl,h4,h5⟩)
    .exact .inl (.inl h1)
    .by_cases hji:j=i
     .subst hji;rw[hS']at h2;cases h2;exact .inr (by rw[h4,<-hv])
     .exact .inl (.inr ⟨j,s,o5,h2,rfl,h4,h5⟩)
  .rw[D8,BA];refine⟨hj.nod,oc,?_⟩;intro a ha b hb hab;have hb:b=S[i].1:=by simpa using hb
   obtain⟨⟨nm,u⟩,hp,rfl⟩:=C2.1 ha;rcases(hj.mem nm u).1 hp with h1|⟨j,s,h1,h2,h3,_⟩
   .exact hRS _ h1 _ (BM hi) (hb.symm.trans hab.symm)
   .have h6:s.1=S[i].1:=h3.trans (hab.trans hb);have h7:=BZ.1 hSn j i o5 hi h1;rw[(A8.1 h2).2,h6]at h7;exact I8 _ h7
  .rw[A6];simp only[AF,AW];omega
  .have hvn:v=[]:=by simpa[E3]using h
   rw[hj.mem];refine or_congr Iff.rfl ⟨λ⟨j,s,h1,h2⟩=>⟨j,s,o5,h2⟩,?_⟩;rintro⟨j,s,h1,h2,h3,h4,h5⟩;refine⟨j,s,?_,h2,h3,h4,h5⟩;by_cases hji:j=i
   .subst hji;rw[hS']at h2;cases h2;exact absurd (h4.trans (hv.symm.trans hvn)) h5
   .omega
 .unfold oR;dsimp only;rw[F8,AE (AH _),AC];exact DY.2 hj
theorem ARh(l:List EX)(S:List F9)(dn:Int)(hd:HE dn)(hl:l.length<=100000)(hS:S.length<=100000)(ha:l.Pairwise λa b=>a.1<b.1)(hSn:S.Pairwise λs t=>s.1<t.1):
 Tot (cZ (l,S,dn)) (λr=>ChgOf l S (bt dn) r/\r.length<=l.length+S.length):=by
 have hR:(KL l S).length<=l.length:=BK _ _;have hRa:(KL l S).Pairwise λa b=>a.1<b.1:=ha.filter _
 have hRn:((KL l S).map λp=>p.1).Nodup:=by
  unfold List.Nodup;rw[List.pairwise_map];exact hRa.imp λ{a b} h e=>by rw[e]at h;exact I8 _ h
 unfold cZ;dsimp only;rw[ARf S l o5 o5,A1];refine DX.2 ((ARg S dn hd (KL l S) o5 o5 hRn hSn (λp hp s hs=>(A7Y.1 (show(p.1,p.2)∈KL l S from hp)).2 s hs)).mono λo ho=>?_)
 refine DX.2 ((AOj o _ (λp:EX=>p.1) (λa b=>by
  unfold oP;dsimp only;rw[rN];rfl)).mono λr hr=>DY.2 ?_)
 obtain⟨h1,h2⟩:=hr;have hn:(r.map λp=>p.1).Nodup:=(h1.map _).nodup_iff.2 ho.nod;unfold List.Nodup at hn;rw[List.pairwise_map]at hn;refine⟨⟨?_,λnm v=>?_⟩,?_⟩
 .exact(List.Pairwise.and h2 hn).imp λ{a b} h=>sI h.1 h.2
 .rw[h1.mem_iff,ho.mem,A7Y];refine or_congr Iff.rfl ⟨λ⟨i,s,_,h⟩=>⟨i,s,h⟩,λ⟨i,s,h⟩=>⟨i,s,(A8.1 h.1).1,h⟩⟩
 .rw[h1.length_eq];exact AU ho.len o5
theorem ARi(a b:List EX)(ha:a.length<=100000)(hb:b.length<=100000):cN [a,b]=some (a++b):=by
 have hget:∀(i:Nat) (hi:i<[a,b].length),[a,b][i].length<=100000:=by
  intro i hi;rcases i with _|_|i
  .exact ha
  .exact hb
  .exact absurd hi oc
 have h0:Tot (nI (0,[a,b],(([a,b]:List (List EX)).length:Int),(0:Int))) (λq=>0<=q/\q<=200000):=by
  refine GD (σ:=Int) ([a,b]:List (List EX)).length (λs i=>(s,[a,b],(([a,b]:List (List EX)).length:Int),i)) (λi s=>0<=s/\s<=(i:Int)*100000) oc (λnext s i hi hj hn=>?_) (λnext s hj=>?_) 0 oc
  .unfold nH;dsimp only;have hg:=hget i hi;have hi2:i<2:=hi;rw[F8,A7 hi,AA,GC (A0 hi),A1,GK o5,EW o5 o5];refine DZ.2 ⟨λh=>absurd (A9 h) o5,λ_=>hn _ ⟨o5,?_⟩⟩;have:(((i+1:Nat)):Int)*100000=(i:Int)*100000+100000:=o5
   omega
  .unfold nH;dsimp only;rw[F8,AE (AH _),AC];have hj2:s<=((2:Nat):Int)*100000:=hj.2;exact DY.2 ⟨hj.1,o5⟩
 have h3:Tot (nK ([],[a,b],(([a,b]:List (List EX)).length:Int),(0:Int))) (λq=>q=a++b):=by
  refine GD (σ:=List EX) ([a,b]:List (List EX)).length (λs i=>(s,[a,b],(([a,b]:List (List EX)).length:Int),i)) (λi s=>s=([a,b].take i).flatten/\s.length<=i*100000) oc (λnext s i hi hj hn=>?_) (λnext s hj=>?_) [] oc
  .unfold nJ;dsimp only;have hg:=hget i hi;have hi2:i<2:=hi;have hjl:=hj.2;rw[F8,A7 hi,AA,GC (A0 hi),A1,GK o5];refine DX.2 (FU.2 ⟨o5,hn _ ⟨?_,?_⟩⟩)
   .rw[GJ (A0 hi),List.flatten_append,<-hj.1];simp
   .rw[A6];omega
  .unfold nJ;dsimp only;rw[F8,AE (AH _),AC];exact DY.2 (by rw[hj.1];simp)
 obtain⟨n,e0,h1,h2⟩:=h0;unfold cN;rw[e0,A1]
 have e1:YX ((),n)=some []:=by
  unfold YX;dsimp only;rw[if_pos ⟨h1,o5⟩]
 rw[e1,A1,KK h3];rfl
theorem ARj{a b c:DW}(h1:a<=b)(h2:b<=c):a<=c:=List.le_trans h1 h2
theorem ARk(a b:DW):a<=b\/b<=a:=List.le_total a b
theorem ARl(d:List DW)(hd:d.Pairwise (λx y=>x<=y)):∀m,m<=d.length->(Lib.compactUpTo d.toArray m).Pairwise (λx y=>x<y)/\∀s,s∈Lib.compactUpTo d.toArray m<->s∈d.take m:=by
 intro m;induction m with
 |zero=>intro _;simp[Lib.compactUpTo]
 |succ m ih=>
  intro hm;obtain⟨h1,h2⟩:=ih o5;have hget:∀j (hj:j<d.length),(d.toArray)[j]! =d[j]:=λj hj=>by rw[getElem!_pos _ j om];simp
  have hp:=BZ.1 hd;rw[Lib.compactUpTo_succ];have htk:d.take (m+1)=d.take m++[d[m]]:=GJ (A0 o5);cases hk:Lib.keeps d.toArray m with
  |true=>
   rw[if_pos rfl,hget m o5];refine⟨?_,λs=>by rw[AL,htk,AL,h2]⟩;rw[DL];refine⟨h1,List.pairwise_singleton _ _,λs hs t ht=>?_⟩;obtain rfl:=AN.1 ht;have hs:=(h2 s).1 hs;obtain⟨j,hj,rfl⟩:=CY hs;have hjm:j<m:=by rw[B4]at hj;omega
   rw[List.getElem_take];unfold Lib.keeps at hk;have hk:=A9 hk
   have hne:d[m]≠d[m-1]:=by
    rcases hk with hk|hk
    .omega
    .rw[hget m o5,hget (m-1) o5]at hk;exact hk
   have hle1:d[m-1]<=d[m]:=hp (m-1) m o5 o5 o5
   have hlt:d[m-1]<d[m]:=by
    rcases NY d[m-1] d[m]with h|h|h
    .exact h
    .exact absurd h.symm hne
    .exact absurd h (List.not_lt.2 hle1)
   by_cases e:j=m-1
   .subst e;exact hlt
   .have hle2:d[j]<=d[m-1]:=hp j (m-1) o5 o5 o5;rcases NY d[j] d[m]with h|h|h
    .exact h
    .rw[h]at hle2;exact absurd hlt (List.not_lt.2 hle2)
    .exact absurd (ME h (by
      rcases NY d[j] d[m-1]with g|g|g
      .exact g
      .rw[g]at h;exact absurd h (S4 hlt)
      .exact absurd g (List.not_lt.2 hle2))) (S4 hlt)
  |false=>
   rw[if_neg oc,C3];refine⟨h1,λs=>?_⟩;unfold Lib.keeps at hk;have hk:=AO hk;have hm0:m≠0:=λe=>hk (Or.inl e)
   have he:d[m]=d[m-1]:=by
    have:¬(d.toArray)[m]!≠(d.toArray)[m-1]!:=λe=>hk (Or.inr e);rw[hget m o5,hget (m-1) o5]at this;exact Classical.not_not.1 this
   rw[h2,htk,AL,AN,he];refine⟨Or.inl,λh=>h.elim id λh=>?_⟩;rw[h];exact CA.2 ⟨m-1,o5,rfl⟩
theorem ARm(xs:List DW):(Lib.compact (xs.mergeSort λx y=>decide (x<=y))).Pairwise (λx y=>x<y)/\∀s,s∈Lib.compact (xs.mergeSort λx y=>decide (x<=y))<->s∈xs:=by
 have hs:(xs.mergeSort λx y=>decide (x<=y)).Pairwise (λx y=>x<=y):=by
  have:=List.pairwise_mergeSort (le:=λx y:DW=>decide (x<=y)) (λa b c h1 h2=>A7 (ARj (A9 h1) (A9 h2))) (λa b=>by rcases ARk a b with h|h<;>simp[h]) xs;exact this.imp λh=>A9 h
 have h:=ARl _ hs (xs.mergeSort λx y=>decide (x<=y)).length (AB _);unfold Lib.compact;refine⟨h.1,λs=>?_⟩;rw[h.2,B3];exact(List.mergeSort_perm _ _).mem_iff
theorem ARn(c:List EX)(hc:c.length<=1048576):cO ([],c,(c.length:Int),0)=some (c.map λp=>p.1):=by
 have:Tot (cO ([],c,(c.length:Int),(0:Int))) (λq=>q=c.map λp=>p.1):=by
  refine GD (σ:=List DW) c.length (λo i=>(o,c,(c.length:Int),i)) (λi o=>o=(c.take i).map λp=>p.1) o5 (λnext o i hi hj hn=>?_) (λnext o hj=>?_) [] oc
  .unfold nL;dsimp only;have hle:o.length<=i:=by rw[hj,B2,B4];omega
   rw[F8,A7 hi,AA,GC (A0 hi),A1,GK o5];refine DX.2 (FU.2 ⟨by simp only[AF,AW];omega,hn _ ?_⟩);rw[GJ (A0 hi),D8,<-hj];rfl
  .unfold nL;dsimp only;rw[F8,AE (AH _),AC];exact DY.2 (by rw[hj,B3])
 exact KK this
def O0(a b:List EX)(nm:DW):Option F9:=if(FB b nm).1=(FB a nm).1 then none else some (nm,(FB a nm).1,(FB b nm).1)
theorem ARo(a b:List EX)(ha:a.length<=1048576)(hb:b.length<=1048576)(ns:List DW)(hn:ns.length<=1048576):cP (a,b,[],ns,(ns.length:Int),0)=some (ns.filterMap (O0 a b)):=by
 have:Tot (cP (a,b,[],ns,(ns.length:Int),(0:Int))) (λq=>q=ns.filterMap (O0 a b)):=by
  refine GD (σ:=List F9) ns.length (λo i=>(a,b,o,ns,(ns.length:Int),i)) (λi o=>o=(ns.take i).filterMap (O0 a b)) o5 (λnext o i hi hj hn=>?_) (λnext o hj=>?_) [] oc
  .unfold nM;dsimp only;have hle:o.length<=i:=by rw[hj];exact AU (List.length_filterMap_le _ _) (by rw[B4];omega)
   have hg:ns.getD (i:Int).toNat []=ns[i]:=by rw[CQ,AG,A0 hi];rfl
   rw[F8,A7 hi,AA,A7J hi,A1,hg,N_ a _ o5,A1,N_ b _ o5,A1,GK o5,E3];refine DZ.2 ⟨λh=>DX.2 (FU.2 ⟨by simp only[AF,AW];omega,hn _ ?_⟩),λh=>hn _ ?_⟩
   .have h':¬(FB b ns[i]).1=(FB a ns[i]).1:=by simpa using h
    rw[GJ (A0 hi),List.filterMap_append,<-hj];simp[O0,h']
   .have h':(FB b ns[i]).1=(FB a ns[i]).1:=by simpa using h
    rw[GJ (A0 hi),List.filterMap_append,<-hj];simp[O0,h']
  .unfold nM;dsimp only;rw[F8,AE (AH _),AC];exact DY.2 (by rw[hj,B3])
 exact KK this
theorem A7Z(a b:List EX)(ha:a.length<=100000)(hb:b.length<=100000):Tot (OW (a,b)) (λS=>StepsOf a b S/\S.length<=a.length+b.length):=by
 unfold OW;dsimp only;rw[ARi a b ha hb,A1,ARn _ (by rw[A6];omega),A1];unfold slices_Sort_string;rw[A1];unfold slices_Compact_string;rw[A1];obtain⟨h1,h2⟩:=ARm ((a++b).map λp=>p.1)
 have hlen:(Lib.compact (((a++b).map λp=>p.1).mergeSort λx y=>decide (x<=y))).length<=a.length+b.length:=by
  have h3:(Lib.compact (((a++b).map λp=>p.1).mergeSort λx y=>decide (x<=y))).length<=(((a++b).map λp=>p.1).mergeSort λx y=>decide (x<=y)).length:=by
   unfold Lib.compact Lib.compactUpTo;rw[B2];exact AU (BK _ _) oc
  rw[List.length_mergeSort,B2,A6]at h3;exact h3
 obtain⟨ns,hns⟩:∃ns,ns=Lib.compact (((a++b).map λp=>p.1).mergeSort λx y=>decide (x<=y)):=⟨_,rfl⟩;rw[<-hns]at h1 h2 hlen ⊢;rw[ARo a b o5 o5 ns o5,A1];refine DY.2 ⟨⟨?_,λs=>?_⟩,AU (List.length_filterMap_le _ _) hlen⟩
 .rw[List.pairwise_filterMap];refine h1.imp λ{x y} hxy s hs t ht=>?_;unfold O0 at hs ht;split at hs
  .cases hs
  .split at ht
   .cases ht
   .cases hs;cases ht;exact hxy
 .rw[List.mem_filterMap]
  have hm:∀nm,nm∈ns<->∃v,(nm,v)∈a\/(nm,v)∈b:=by
   intro nm;rw[h2,C2];constructor
   .rintro⟨⟨x,v⟩,hx,rfl⟩;exact⟨v,AL.1 hx⟩
   .rintro⟨v,hx⟩;exact⟨(nm,v),AL.2 hx,rfl⟩
  constructor
  .rintro⟨nm,h3,h4⟩;unfold O0 at h4;split at h4
   .cases h4
   .rename_i hne;cases h4;exact⟨(hm nm).1 h3,rfl,rfl,hne⟩
  .rintro⟨h3,h4,h5,h6⟩;refine⟨s.1,(hm _).2 h3,?_⟩;unfold O0;rw[<-h4,<-h5,if_neg h6]
def JI(l:List EX):Prop:=l.length<=20/\∀p∈l,p.1.length<=1048576/\p.2.length<=1048576
theorem A7_{f0 f1 tl nl:Nat}(h:f1<f0)(hs:f0*1048577+(tl+1)<=24000000)(hn:nl<=1048576):f1*1048577+(tl+nl)<=24000000/\f1*1048577+(tl+nl)<f0*1048577+(tl+1):=o5
theorem ARp{l:List EX}(h:JI l)(name:DW):(FB l name).1.length<=1048576:=by
 rcases VS l name with⟨e,_⟩|⟨v,e,hm⟩
 .rw[e];decide
 .rw[e];exact(h.2 _ hm).2
theorem A7a(l:List EX)(hl:JI l)(needs:List GE)(by':DW)(hn:needs.length<=1048576)(hb:∀nd∈needs,N9 nd):
 Tot (V2 (l,needs,by')) (λq=>q.length<=needs.length/\(q=[]<->∀nd∈needs,PJ l nd)):=by
 unfold V2;dsimp only;refine DX.2 (Tot.mono (P:=λq=>q.length<=needs.length/\(q=[]<->∀nd∈needs,PJ l nd)) ?_ λ_ h=>DY.2 h);refine GD (σ:=List (Int×DW×DW)) needs.length (λs i=>(l,by',s,needs,(needs.length:Int),i)) (λm s=>s.length<=m/\(s=[]<->∀nd∈needs.take m,PJ l nd)) o5 (λnext s i hi hs hnx=>?_) (λnext s hs=>?_) [] ⟨AB _,oc⟩
 .obtain⟨hle,hs⟩:=hs;unfold nQ;dsimp only;have hl12:=hl.1;rw[F8,A7 hi,AA,GC (A0 hi),A1,N_ _ _ o5,A1,GK o5];obtain⟨q,h1,h2⟩:=AR7 needs[i].2.1 (FB l needs[i].1).1 (hb _ (BM hi)).2 (ARp hl _);rw[h1,A1,h2]
  have htk:∀P:GE->Prop,(∀nd∈needs.take (i+1),P nd)<->(∀nd∈needs.take i,P nd)/\P needs[i]:=by
   intro P;rw[GJ (A0 hi)];constructor
   .intro h;exact⟨λnd hnd=>h nd (AS _ hnd),h _ (AT _ (AN.2 rfl))⟩
   .rintro⟨h1,h2⟩ nd hnd;rw[AL,AN]at hnd;rcases hnd with h|rfl
    .exact h1 nd h
    .exact h2
  refine DZ.2 ⟨λhc=>DX.2 (FU.2 ⟨by simp only[AF,AW];omega,hnx _ ⟨by simp only[A6,AF,AW];omega,?_⟩⟩),λhc=>DZ.2 ⟨λhd=>DX.2 (FU.2 ⟨by simp only[AF,AW];omega,hnx _ ⟨by simp only[A6,AF,AW];omega,?_⟩⟩),λhd=>hnx _ ⟨o5,?_⟩⟩⟩
  .rw[htk,VV];refine⟨False.elim,λh=>?_⟩;have:=h.2.1;rw[this]at hc;cases hc
  .rw[htk,VV];refine⟨False.elim,λh=>?_⟩;have:=h.2.2;rw[this]at hd;cases hd
  .rw[htk,<-hs];exact⟨λh=>⟨h,by simpa using hc,by simpa using hd⟩,λh=>h.1⟩
 .unfold nQ;dsimp only;rw[F8,AE (AH _),AC];rw[B3]at hs;exact DY.2 hs
theorem ARq(t:FA)(ht:TkB t)(l:List EX)(hl:JI l):Tot (cU (t,l)) (λm=>∀s,J4 m s=true<->CR t l s):=by
 have hl12:=hl.1;unfold cU;dsimp only;have hfr:=ht.frozen;have hnd:=ht.needs;have hcl:(J3 t.2.2.1 t.2.1).length<=1048576:=AU (BK _ _) hnd;rw[AQu hfr,A1,sC _ _ hnd,A1,ARC _ _ o5,A1];refine DX.2 (Tot.mono (P:=λm=>∀s,J4 m s=true<->CR t l s) ?_ λ_ h=>DY.2 h);have hro:t.2.2.2.2.1++(J3 t.2.2.1 t.2.1).map (λnd=>nd.1)=S7 t:=rfl;rw[hro];have hrl:(S7 t).length<=2097152:=by unfold S7;rw[A6,B2];omega
 let free:List (DW×Bool)->Nat:=λm=>(l.filter λp=>!J4 m p.1).length
 have hfree:∀m,free m<=20:=λm=>AU (BK _ _) hl12
 refine E_ (R:=λm:List (DW×Bool)=>∀s,J4 m s=true<->CR t l s)
  (λy:(List EX)×FA×(List (DW×Bool))×(List DW)=>y.1=l/\y.2.1=t/\free y.2.2.1*1048577+y.2.2.2.length<=24000000 /\
   (∀s∈y.2.2.2,s∈S7 t\/∃c nd,CR t l c/\nd∈JH t (c,(FB l c).1)/\nd.1=s)/\(∀s,J4 y.2.2.1 s=true->CR t l s)/\
   (∀s∈S7 t,(FB l s).2=true->J4 y.2.2.1 s=true\/s∈y.2.2.2)/\
   (∀c nd,J4 y.2.2.1 c=true->nd∈JH t (c,(FB l c).1)->(FB l nd.1).2=true->J4 y.2.2.1 nd.1=true\/nd.1∈y.2.2.2))
  (λy=>free y.2.2.1*1048577+y.2.2.2.length) ?_ _ _ ⟨rfl,rfl,by dsimp only;have:=hfree [];omega,λs h=>.inl h,λs h=>(oe),λs h _=>.inr h,λc nd h=>(oe)⟩
  (by unfold fuel;dsimp only;have:=hfree [];omega)
 rintro next ⟨l',t',m,todo⟩ hI hn
 dsimp only at hI hn;obtain⟨rfl,rfl,hsz,h1,h2,h3,h4⟩:=hI;unfold A0J;dsimp only;refine DZ.2 ⟨λhc=>?_,λhc=>?_⟩
 .obtain⟨s,todo,rfl⟩:∃s r,todo=s::r:=by
   cases todo with
   |nil=>simp at hc
   |cons s r=>exact⟨s,r,rfl⟩
  have hgd:(s::todo).getD 0 []=s:=rfl;have hin:in? (s::todo).length 0=some ():=A7J (i:=0) oc;rw[hin,A1,hgd];refine DX.2 (HD.2 ⟨⟨od,by simp only[AF];omega,BF _⟩,?_⟩)
  have hcut:((s::todo).take ((s::todo).length:Int).toNat).drop (1:Int).toNat=todo:=by
   rw[CQ,B3];rfl
  rw[hcut,N_ _ _ o5,A1];simp only[AF]at hsz;refine DZ.2 ⟨λhp=>?_,λhp=>?_⟩
  .refine hn _ ⟨rfl,rfl,o7,λx hx=>h1 x (AD _ hx),h2,λx hx hpx=>?_,λc nd hc' hnd' hpn=>?_⟩ (by dsimp only;simp only[AF];omega)
   .rcases h3 x hx hpx with h|h
    .exact .inl h
    .rw[A_]at h;rcases h with rfl|h
     .left;rw[hpx,C0,CC]at hp;exact hp
     .exact .inr h
   .rcases h4 c nd hc' hnd' hpn with h|h
    .exact .inl h
    .rw[A_]at h;rcases h with h|h
     .left;rw[<-h,hpn,C0,CC]at hp;exact hp
     .exact .inr h
  .have hp1:(FB l' s).2=true:=by have:=(BS.1 hp).1;simpa using this
   have hp2:J4 m s=false:=(BS.1 hp).2
   have hCs:CR t' l' s:=by
    rcases h1 s (AI)with h|⟨c,nd,g1,g2,g3⟩
    .exact .root h hp1
    .subst g3;exact .step g1 g2 hp1
   obtain⟨hnl,_⟩:=A7Q ht (s,(FB l' s).1);rw[A7N _ _ ht.offers (λo ho=>(ht.offer o ho).2.2.1),A1,ARB _ _ o5,A1]
   have hK:∀x,J4 (FH EG s true m) x=(decide (x=s)||J4 m x):=λx=>by
    unfold J4;rw[AQv];by_cases hx:x=s
    .rw[if_pos hx,A7 hx];rfl
    .rw[if_neg hx,AE hx,CC]
   have hlt:free (FH EG s true m)<free m:=by
    rcases VS l' s with⟨e,_⟩|⟨v,e,hm⟩
    .rw[e]at hp1;cases hp1
    .refine ARD (λp hp h=>?_) hm (by rw[hp2];rfl) (by rw[hK];simp);rw[hK]at h;cases hx:J4 m p.1 with
     |false=>rfl
     |true=>rw[hx]at h;simp at h
   clear_value free;refine hn _ ⟨rfl,rfl,?_,λx hx=>?_,λx hx=>?_,λx hx hpx=>?_,λc nd hc' hnd' hpn=>?_⟩ ?_
   .dsimp only;rw[A6,B2];exact(A7_ hlt hsz hnl).1
   .rw[AL,C2]at hx;rcases hx with hx|⟨nd,hx,rfl⟩
    .exact h1 x (AD _ hx)
    .exact .inr ⟨s,nd,hCs,hx,rfl⟩
   .rw[hK,BH,AX]at hx;rcases hx with rfl|hx
    .exact hCs
    .exact h2 x hx
   .rw[hK,BH,AX];rcases h3 x hx hpx with h|h
    .exact .inl (.inr h)
    .rw[A_]at h;rcases h with h|h
     .exact .inl (.inl h)
     .exact .inr (AS _ h)
   .rw[hK,BH,AX]at hc' ⊢;rcases hc' with rfl|hc'
    .exact .inr (AT _ (C2.2 ⟨nd,hnd',rfl⟩))
    .rcases h4 c nd hc' hnd' hpn with h|h
     .exact .inl (.inr h)
     .rw[A_]at h;rcases h with h|h
      .exact .inl (.inl h)
      .exact .inr (AS _ h)
   .dsimp only;rw[A6,B2];simp only[AF];exact(A7_ hlt hsz hnl).2
 .have hnil:todo=[]:=by
   have:=AO hc;exact CD.1 o5
  subst hnil;refine DY.2 λs=>⟨h2 s,λh=>?_⟩;induction h with
  |root g1 g2=>exact(h3 _ g1 g2).elim id λh=>oe
  |step _ g2 g3 ih=>exact(h4 _ _ ih g2 g3).elim id λh=>oe
theorem ARr(t:FA)(ht:TkB t)(l:List EX)(hl:JI l):Tot (OY (t,l)) (λq=>q.length<=25048596):=by
 have hl12:=hl.1;have hnd:=ht.needs;have hfr:=ht.frozen;unfold OY;dsimp only;have hcl:(J3 t.2.2.1 t.2.1).length<=1048576:=AU (BK _ _) hnd;rw[sC _ _ hnd,A1];refine DX.2 ((A7a l hl (J3 t.2.2.1 t.2.1) [] hcl (λnd h=>ht.need nd (CX.1 h).1)).mono λr2 h2=>?_);obtain⟨h2l,h2⟩:=h2
 have k1:Tot (oE (l,t,r2,l,(l.length:Int),0)) (λq=>q.1=t/\q.2.length<=24000000/\(q.2=[]<->r2=[]/\∀p∈l,p.2∈N8 t p.1/\∀nd∈JH t p,PJ l nd)):=by
  refine GD (σ:=List (Int×DW×DW)) l.length (λs i=>(l,t,s,l,(l.length:Int),i)) (λm s=>s.length<=1048576+m*1048576/\(s=[]<->r2=[]/\∀p∈l.take m,p.2∈N8 t p.1/\∀nd∈JH t p,PJ l nd)) o5 (λnext s i hi hs hn=>?_) (λnext s hs=>?_) r2 ⟨o5,oc⟩
  .obtain⟨hle,hs⟩:=hs;unfold oD;dsimp only;have hp:=hl.2 _ (BM hi);rw[F8,A7 hi,AA,GC (A0 hi),A1,ARA t _ ht hp.1,A1,GK o5]
   have hchl:(N8 t l[i].1).length<=1048576:=by
    unfold N8;rw[B2];exact AU (BK _ _) (AU (BK _ _) ht.offers)
   refine DX.2 ((ARE (N8 t l[i].1) l[i].2 o5).mono λb hb=>DZ.2 ⟨λhc=>?_,λhc=>?_⟩)
   .refine DX.2 (FU.2 ⟨by simp only[AF,AW];omega,hn _ ⟨by simp only[A6,AF,AW];omega,?_⟩⟩);rw[MF hi,VV];refine⟨False.elim,λh=>?_⟩;have:=hb.2 h.2.2.1;rw[this]at hc;cases hc
   .have hbt:b=true:=by simpa using hc
    obtain⟨n1,n2⟩:=A7Q ht l[i];rw[A7N _ _ ht.offers (λo ho=>(ht.offer o ho).2.2.1),A1];refine DX.2 ((A7a l hl (JH t l[i]) l[i].1 n1 n2).mono λr9 h9=>?_);obtain⟨h9l,h9⟩:=h9;refine DX.2 (FU.2 ⟨o5,hn _ ⟨by rw[A6];omega,?_⟩⟩);rw[MF hi,List.append_eq_nil_iff,hs,h9];exact⟨λ⟨⟨x,y⟩,z⟩=>⟨x,y,hb.1 hbt,z⟩,λ⟨x,y,_,z⟩=>⟨⟨x,y⟩,z⟩⟩
  .obtain⟨hle,hs⟩:=hs;unfold oD;dsimp only;rw[F8,AE (AH _),AC];rw[B3]at hs;exact DY.2 ⟨rfl,o7,hs⟩
 refine DX.2 (k1.mono λr11 h11=>?_);obtain⟨e11,h11l,h11⟩:=h11;rw[e11];refine DX.2 ((ARq t ht l hl).mono λm hm=>?_)
 have k2:Tot (oH (r11.2,m,l,(l.length:Int),0)) (λq=>q.length<=24000020/\(q=[]<->r11.2=[]/\∀p∈l,CR t l p.1)):=by
  refine GD (σ:=List (Int×DW×DW)) l.length (λs i=>(s,m,l,(l.length:Int),i)) (λk s=>s.length<=24000000+k/\(s=[]<->r11.2=[]/\∀p∈l.take k,CR t l p.1)) o5 (λnext s i hi hs hn=>?_) (λnext s hs=>?_) r11.2 ⟨o5,oc⟩
  .obtain⟨hle,hs⟩:=hs;unfold oG;dsimp only;rw[F8,A7 hi,AA,GC (A0 hi),A1,GK o5];refine DZ.2 ⟨λhc=>?_,λhc=>?_⟩
   .refine DX.2 (FU.2 ⟨by simp only[AF,AW];omega,hn _ ⟨by simp only[A6,AF,AW];omega,?_⟩⟩);rw[MF hi,VV];refine⟨False.elim,λh=>?_⟩;have:=(hm _).2 h.2.2;unfold J4 at this;rw[this]at hc;cases hc
   .refine hn _ ⟨o5,?_⟩;rw[MF hi,hs];have:J4 m l[i].1=true:=by unfold J4;simpa using hc
    exact⟨λ⟨x,y⟩=>⟨x,y,(hm _).1 this⟩,λ⟨x,y,_⟩=>⟨x,y⟩⟩
  .obtain⟨hle,hs⟩:=hs;unfold oG;dsimp only;rw[F8,AE (AH _),AC];rw[B3]at hs;exact DY.2 ⟨o5,hs⟩
 refine DX.2 (k2.mono λr16 h16=>?_);obtain⟨h16l,h16⟩:=h16
 have k3:Tot (oJ (l,t,r16,t.2.2.2.2.1,(t.2.2.2.2.1.length:Int),0)) (λq=>q.length<=25048596):=by
  have hold:=ht.old;refine GD (σ:=List (Int×DW×DW)) t.2.2.2.2.1.length (λs i=>(l,t,s,t.2.2.2.2.1,(t.2.2.2.2.1.length:Int),i)) (λk s=>s.length<=24000020+k/\(s=[]<->r16=[]/\∀s∈t.2.2.2.2.1.take k,(FB l s).2=true/\(FB l s).1=(FB t.2.2.2.1 s).1)) o5 (λnext s i hi hs hn=>?_) (λnext s hs=>?_) r16 ⟨o5,oc⟩
  .obtain⟨hle,hs⟩:=hs;unfold oI;dsimp only;rw[F8,A7 hi,AA,GC (A0 hi),A1,N_ _ _ o5,A1,N_ _ _ o5,A1,GK o5,E3];refine DZ.2 ⟨λhc=>?_,λhc=>?_⟩
   .refine DX.2 (FU.2 ⟨by simp only[AF,AW];omega,hn _ ⟨by simp only[A6,AF,AW];omega,?_⟩⟩);rw[MF hi,VV];refine⟨False.elim,λh=>?_⟩;obtain⟨g1,g2⟩:=h.2.2;rw[g1,A7 g2]at hc;cases hc
   .refine hn _ ⟨o5,?_⟩;rw[MF hi,hs];obtain⟨g1,g2⟩:=BS.1 hc;have g1:(FB l t.2.2.2.2.1[i]).2=true:=by simpa using g1
    have g2:(FB l t.2.2.2.2.1[i]).1=(FB t.2.2.2.1 t.2.2.2.2.1[i]).1:=by simpa using g2
    exact⟨λ⟨x,y⟩=>⟨x,y,g1,g2⟩,λ⟨x,y,_⟩=>⟨x,y⟩⟩
  .obtain⟨hle,hs⟩:=hs;unfold oI;dsimp only;rw[F8,AE (AH _),AC];rw[B3]at hs;exact DY.2 o5
 refine DX.2 (k3.mono λq hq=>DY.2 ?_);exact hq
theorem A7b{α β:Type} [DecidableEq α]{eq:α->α->Bool}(he:∀x y,eq x y=decide (x=y))(k k':α)(v:β):∀m:List (α×β),FQ eq k (FH eq k' v m)=if k=k' then some v else FQ eq k m:=by
 intro m;induction m with
 |nil=>
  simp only[FH,FQ,he];by_cases h:k=k'<;>simp[h]
 |cons e r ih=>
  obtain⟨a,b⟩:=e;simp only[FH,he];by_cases h:k'=a
  .subst h;simp only[decide_true,AA,FQ,he];by_cases h2:k=k'<;>simp[h2]
  .simp only[AE h,AC,FQ,he,ih];by_cases h2:k=a
   .subst h2;have h3:¬k=k':=λe=>h e.symm;simp[h3]
   .simp[h2]
abbrev Wr:=Int×DW×DW
abbrev KM:Wr->Wr->Bool:=λx y=>E1 x.1 y.1&&(λ(x y:DW×DW)=>EG x.1 y.1&&EG x.2 y.2) x.2 y.2
theorem fA(x y:Wr):KM x y=decide (x=y):=by
 obtain⟨a,b,c⟩:=x;obtain⟨a',b',c'⟩:=y;simp only[KM,E0,E3];by_cases h1:a=a'<;>by_cases h2:b=b'<;>by_cases h3:c=c'<;>simp[h1,h2,h3]
theorem ARs{α β:Type}{eq:α->α->Bool}{k:α}{v:β}:∀{m:List (α×β)} {p:α×β},p∈FH eq k v m->p.1=k\/∃p'∈m,p'.1=p.1:=by
 intro m;induction m with
 |nil=>
  intro p hp;simp only[FH,AN]at hp;exact .inl (by rw[hp])
 |cons e r ih=>
  intro p hp;simp only[FH]at hp;cases hb:eq k e.1 with
  |true=>
   rw[hb]at hp;simp only[AA,A_]at hp;rcases hp with rfl|hp
   .exact .inl rfl
   .exact .inr ⟨p,AD _ hp,rfl⟩
  |false=>
   rw[hb]at hp;simp only[AC,A_]at hp;rcases hp with rfl|hp
   .exact .inr ⟨_,AI,rfl⟩
   .rcases ih hp with h|⟨p',h1,h2⟩
    .exact .inl h
    .exact .inr ⟨p',AD _ h1,h2⟩
def H8(q:List Wr)(w:Wr):Prop:=w∈q/\(w.1=1\/w.1=2)
theorem ARt(q:List Wr)(hq:q.length<=25048596):Tot (oL ([],q,(q.length:Int),0)) (λm=>∀w,((FQ KM w m).getD false=true<->H8 q w)/\(∀p∈m,H8 q p.1)):=by
 refine GD (σ:=List (Wr×Bool)) q.length (λm i=>(m,q,(q.length:Int),i)) (λi m=>∀w,((FQ KM w m).getD false=true<->H8 (q.take i) w)/\(∀p∈m,H8 (q.take i) p.1)) o5 (λnext m i hi hj hn=>?_) (λnext m hj=>?_) [] (λw=>⟨by simp[FQ,H8],oc⟩)
 .unfold oK;dsimp only;rw[F8,A7 hi,AA,GC (A0 hi),A1,GK o5,E0,E0];refine DZ.2 ⟨λh=>hn _ λw=>?_,λh=>hn _ λw=>?_⟩
  .have h1:q[i].1=1\/q[i].1=2:=by simpa using h
   have hc:∀w,H8 (q.take (i+1)) w<->w=q[i]\/H8 (q.take i) w:=by
    intro w;unfold H8;rw[GJ (A0 hi),AL,AN];constructor
    .rintro⟨h2|rfl,h3⟩
     .exact .inr ⟨h2,h3⟩
     .exact .inl rfl
    .rintro(rfl|⟨h2,h3⟩)
     .exact⟨.inr rfl,h1⟩
     .exact⟨.inl h2,h3⟩
   refine⟨?_,λp hp=>?_⟩
   .rw[hc];show(FQ KM w (FH KM q[i] true m)).getD false=true<->_;rw[A7b fA];by_cases hw:w=q[i]
    .simp[hw]
    .rw[if_neg hw,(hj w).1];simp[hw]
   .rw[hc];have hp:p∈FH KM q[i] true m:=hp;rcases ARs hp with h2|⟨p',h2,h3⟩
    .exact .inl h2
    .rw[<-h3];exact .inr ((hj w).2 p' h2)
  .have h1:¬(q[i].1=1\/q[i].1=2):=by simpa using h
   have hc:∀w,H8 (q.take (i+1)) w<->H8 (q.take i) w:=by
    intro w;unfold H8;rw[GJ (A0 hi),AL,AN];constructor
    .rintro⟨h2|rfl,h3⟩
     .exact⟨h2,h3⟩
     .exact absurd h3 h1
    .rintro⟨h2,h3⟩;exact⟨.inl h2,h3⟩
   exact⟨by rw[hc];exact(hj w).1,λp hp=>(hc _).2 ((hj w).2 p hp)⟩
 .unfold oK;dsimp only;rw[F8,AE (AH _),AC];rw[B3]at hj;exact DY.2 hj
noncomputable def wF(t:FA)(l:List EX):List Wr:=(OY (t,l)).getD []
theorem V_{t:FA}(ht:TkB t){l:List EX}(hl:JI l):OY (t,l)=some (wF t l)/\(wF t l).length<=25048596:=by
 obtain⟨q,h1,h2⟩:=ARr t ht l hl;have:wF t l=q:=by unfold wF;rw[h1];rfl
 rw[this];exact⟨h1,h2⟩
def MapW(q:List Wr)(m:List (Wr×Bool)):Prop:=∀w,((FQ KM w m).getD false=true<->H8 q w)/\(∀p∈m,H8 q p.1)
theorem sJ{t:FA}(ht:TkB t){l:List EX}(hl:JI l):Tot (RT (t,l)) (λm=>MapW (wF t l) m):=by
 obtain⟨h1,h2⟩:=V_ ht hl;unfold RT;dsimp only;rw[h1,A1];exact DX.2 ((ARt _ h2).mono λm hm=>DY.2 hm)
theorem MapW.key{q:List Wr}{m:List (Wr×Bool)}(h:MapW q m){w:Wr}:H8 q w<->∃p∈m,p.1=w:=by
 constructor
 .intro hw;have h1:=(h w).1.2 hw
  have:∀m:List (Wr×Bool),(FQ KM w m).getD false=true->∃p∈m,p.1=w:=by
   intro m;induction m with
   |nil=>intro h;simp[FQ]at h
   |cons e r ih=>
    intro h;simp only[FQ]at h;cases hb:KM w e.1 with
    |true=>
     have:=(fA w e.1).symm.trans hb;exact⟨e,AI,(A9 this).symm⟩
    |false=>
     rw[hb]at h;obtain⟨p,h1,h2⟩:=ih h;exact⟨p,AD _ h1,h2⟩
  exact this m h1
 .rintro⟨p,hp,rfl⟩;exact(h p.1).2 p hp
def GS(m:List (Wr×Bool))(w:Wr):Bool:=(FQ KM w m).getD false
theorem ARu(may:List (Wr×Bool)):∀o:List (Wr×Bool),GU (λkx u=>OZ kx.1 u) o may=some (if(o.all λp=>GS may p.1)=true then .inl may else .inr false):=by
 intro o;induction o with
 |nil=>rfl
 |cons p r ih=>
  have e:OZ p.1 may=some (if GS may p.1=true then .inl may else .inr false):=by
   unfold OZ;show(bif !(GS may p.1)then _ else _)=_;cases GS may p.1<;>rfl
  simp only[GU];rw[e,A1,List.all_cons];cases h:GS may p.1 with
  |true=>rw[CE];exact ih
  |false=>rfl
theorem sK(may r2:List (Wr×Bool)):(NB (λo:List (Wr×Bool)=>o.Perm r2) λo=>
 (GU (λkx u=>OZ kx.1 u) o may).bind λr6=>match r6 with
 | .inl _=>some true
 | .inr y=>some y)=some (r2.all λp=>GS may p.1):=by
 refine sM ⟨r2,List.Perm.refl _⟩ λo ho=>?_
 rw [ARu,A1,show (o.all λp=>GS may p.1)=r2.all λp=>GS may p.1 from by
  rw[Bool.eq_iff_iff,BG,BG];exact⟨λh x hx=>h x (ho.mem_iff.2 hx),λh x hx=>h x (ho.mem_iff.1 hx)⟩]
 cases r2.all λp=>GS may p.1<;>rfl
theorem ARv:∀(o m:List (Wr×Bool)),∃m',GU (λkx u=>V4 kx.1 u) o m=some (.inl m')/\∀w,GS m' w=true<->GS m w=true\/∃p∈o,p.1=w:=by
 intro o;induction o with
 |nil=>intro m;exact⟨m,rfl,λw=>oc⟩
 |cons p r ih=>
  intro m;obtain⟨m',h1,h2⟩:=ih (FH KM p.1 true m);refine⟨m',?_,λw=>?_⟩
  .simp only[GU];exact h1
  .rw[h2]
   have e:GS (FH KM p.1 true m) w=true<->w=p.1\/GS m w=true:=by
    unfold GS;rw[A7b fA];by_cases hw:w=p.1
    .simp[hw]
    .rw[if_neg hw];simp[hw]
   rw[e];constructor
   .rintro((rfl|h)|⟨q,h3,h4⟩)
    .exact .inr ⟨p,AI,rfl⟩
    .exact .inl h
    .exact .inr ⟨q,AD _ h3,h4⟩
   .rintro(h|⟨q,h3,h4⟩)
    .exact .inl (.inr h)
    .rcases A_.1 h3 with rfl|h3
     .exact .inl (.inl h4.symm)
     .exact .inr ⟨q,h3,h4⟩
def SB(S:List F9):Prop:=∀s∈S,s.1.length<=1048576/\s.2.1.length<=1048576/\s.2.2.length<=1048576
theorem ARw{l:List EX}{S:List F9}{d:Nat->Bool}{r:List EX}(h:ChgOf l S d r)(hl:∀p∈l,p.1.length<=1048576/\p.2.length<=1048576)(hS:SB S)(hr:r.length<=20):JI r:=by
 refine⟨hr,λp hp=>?_⟩;obtain⟨nm,v⟩:=p;rcases(h.mem nm v).1 hp with⟨h1,_⟩|⟨i,s,h1,rfl,h3,_⟩
 .exact hl _ h1
 .obtain⟨s1,s2,s3⟩:=hS s (B5 h1);refine⟨s1,?_⟩;show v.length<=_;rw[h3];split
  .exact s3
  .exact s2
def Calm(t:FA)(may:List (Wr×Bool))(r:List EX):Prop:=∀w,H8 (wF t r) w->GS may w=true
theorem A7c{t:FA}(ht:TkB t){S:List F9}{dn:Int}(hd:HE dn)(may:List (Wr×Bool))(hl:t.2.2.2.1.length<=12)(hb:∀p∈t.2.2.2.1,p.1.length<=1048576/\p.2.length<=1048576)(ha:t.2.2.2.1.Pairwise λa b=>a.1<b.1)
 (hS:S.length<=8)(hSn:S.Pairwise λs t=>s.1<t.1)(hSB:SB S):
 Tot (O_ (dn,t,S,may)) (λb=>∃r,ChgOf t.2.2.2.1 S (bt dn) r/\(b=true<->Calm t may r)):=by
 unfold O_;dsimp only;refine DX.2 ((ARh _ S dn hd o5 o5 ha hSn).mono λr hr=>?_);obtain⟨h1,h2⟩:=hr;refine DX.2 ((sJ ht (ARw h1 hb hSB o5)).mono λm hm=>?_);have e:=sK may m;refine⟨_,e,r,h1,?_⟩;rw[BG];constructor
 .intro h w hw;obtain⟨p,hp,rfl⟩:=hm.key.1 hw;exact h p hp
 .intro h p hp;exact h _ (hm.key.2 ⟨p,hp,rfl⟩)
structure Way(t:FA)(S:List F9)(may:List (Wr×Bool))(p:List Nat)(out:List F9)(dn:Int):Prop where
 nod:p.Nodup
 lt:∀j∈p,j<S.length
 outp:out.length=p.length/\∀(k j:Nat),p[k]?=some j->out[k]?=S[j]?
 d16:HE dn
 bit:∀j,bt dn j=true<->j∈p
 calm:∀k,0<k->k<=p.length->∃r,ChgOf t.2.2.2.1 S (λj=>decide (j∈p.take k)) r/\Calm t may r
theorem A7d(t:FA)(S:List F9)(may:List (Wr×Bool)):Way t S may [] [] 0:=
 ⟨B6,oc,⟨rfl,oc⟩,A7L,λj=>by rw[A7K];simp,λk h0 h1=>absurd h1 og⟩
theorem WA{t:FA}{S:List F9}{may:List (Wr×Bool)}{p:List Nat}{out:List F9}{dn:Int}(h:Way t S may p out dn){i:Nat}(hi:i<=15):HE (HA IntKind.u16 dn ((2 ^ i:Nat):Int))/\∀j,bt (HA IntKind.u16 dn ((2 ^ i:Nat):Int)) j=decide (j∈p++[i]):=by
 obtain⟨_,h1⟩:=r_ hi;obtain⟨h2,h3⟩:=AQy h.d16 h1;refine⟨h2,λj=>?_⟩;rw[h3,sA,Bool.eq_iff_iff,BH,h.bit,AX,AX,AL,AN];exact or_congr Iff.rfl eq_comm
theorem ARx{t:FA}{S:List F9}{may:List (Wr×Bool)}{p:List Nat}{out:List F9}{dn:Int}(h:Way t S may p out dn){i:Nat}(hi:i<S.length)(h15:i<=15)(hn:bt dn i=false){r:List EX}
 (hr:ChgOf t.2.2.2.1 S (bt (HA IntKind.u16 dn ((2 ^ i:Nat):Int))) r)(hc:Calm t may r):Way t S may (p++[i]) (out++[S[i]]) (HA IntKind.u16 dn ((2 ^ i:Nat):Int)):=by
 obtain⟨h1,h2⟩:=WA h h15;have hip:i ∉ p:=λhp=>by rw[(h.bit i).2 hp]at hn;cases hn
 refine⟨?_,?_,⟨by rw[A6,A6,h.outp.1];rfl,λk j hk=>?_⟩,h1,λj=>by rw[h2];simp,λk h0 hk=>?_⟩
 .rw[BA];exact⟨h.nod,oc,λa ha b hb e=>hip (by rw[AN.1 hb]at e;rw[<-e];exact ha)⟩
 .intro j hj;rcases AL.1 hj with hj|hj
  .exact h.lt j hj
  .rw[AN.1 hj];exact hi
 .by_cases hkl:k<p.length
  .rw[AQ hkl]at hk;rw[AQ (by rw[h.outp.1];exact hkl)];exact h.outp.2 k j hk
  .have hlt:=(A8.1 hk).1;rw[A6]at hlt;have hlt:k<p.length+1:=hlt;have hke:k=p.length:=o5
   subst hke;rw[AZ (AB _),DU]at hk;have hk:i=j:=A3 hk;subst hk;rw[AZ (by rw[h.outp.1];exact AB _),h.outp.1,DU,A0 hi];rfl
 .by_cases hkl:k<=p.length
  .rw[D3 hkl];exact h.calm k h0 hkl
  .rw[A6]at hk;have hk:k<=p.length+1:=hk;rw[CZ (by rw[A6];show p.length+1<=k;omega)];refine⟨r,?_,hc⟩;rw[<-show bt (HA IntKind.u16 dn ((2 ^ i:Nat):Int))=(λj=>decide (j∈p++[i]))from funext h2];exact hr
theorem A7e{out:List F9}{x:F9}(h:out.length<=1000000){Q:List F9->Prop}(hQ:Q out):Tot (cut? (out++[x]) (0:Int) (IntKind.i64.wrap (((out++[x]).length:Int)-(1:Int)))) Q:=by
 have hl:(((out++[x]).length:Nat):Int)-1=(out.length:Int):=by rw[A6];simp
 rw[hl,EW o5 o5];refine HD.2 ⟨⟨o5,o5,by rw[A6];omega⟩,?_⟩;rw[CQ,List.take_left']
 .exact hQ
 .rfl
theorem ARy{t:FA}(ht:TkB t){S:List F9}(may:List (Wr×Bool))(hl:t.2.2.2.1.length<=12)(hb:∀p∈t.2.2.2.1,p.1.length<=1048576/\p.2.length<=1048576)(ha:t.2.2.2.1.Pairwise λa b=>a.1<b.1)
 (hS:S.length<=8)(hSn:S.Pairwise λs t=>s.1<t.1)(hSB:SB S):∀(d k:Nat) (p:List Nat) (out:List F9) (dn:Int) (failed:List (Int×Bool)),d<k->p.length+d=S.length->Way t S may p out dn->
 Tot (G_ k (dn,out,S,failed,(),(),t,may)) (λq=>(q.1=true->∃p' dn',Way t S may p' q.2.1 dn'/\p'.length=S.length)/\(q.1=false->q.2.1=out)):=by
 intro d;induction d with
 |zero=>
  intro k p out dn failed hk hp hW;obtain⟨k,rfl⟩:∃k',k=k'+1:=⟨k-1,o5⟩;show Tot (JR (G_ k) (dn,out,S,failed,(),(),t,may)) _;unfold JR;dsimp only;have hol:=hW.outp.1;rw[E0,A7 (show((out.length:Nat):Int)=(S.length:Int) by omega),AA];exact DY.2 ⟨λ_=>⟨p,dn,hW,o5⟩,λh=>oe⟩
 |succ d ih=>
  intro k p out dn failed hk hp hW;obtain⟨k,rfl⟩:∃k',k=k'+1:=⟨k-1,o5⟩;show Tot (JR (G_ k) (dn,out,S,failed,(),(),t,may)) _;unfold JR;dsimp only;have hol:=hW.outp.1;rw[E0,AE (show ¬((out.length:Nat):Int)=(S.length:Int) by omega),AC]
  refine DX.2 (Tot.mono (P:=λq=>match q with
   | .inl y=>y.1=out
   | .inr y=>y.2.2.1=true/\∃p' dn',Way t S may p' y.1 dn'/\p'.length=S.length) ?_ λq hq=>?_)
  .refine GD (σ:=List (Int×Bool)) S.length (λfl i=>(dn,out,S,fl,S,(S.length:Int),i,t,may)) (λ_ _=>True) o5 (λnext fl i hi _ hn=>?_) (λnext fl _=>?_) failed trivial
   .unfold KF;dsimp only;rw[F8,A7 hi,AA,GC (A0 hi),A1,(r_ (show i<=15 by omega)).1,A1,sB hW.d16,A1,GK o5];refine DZ.2 ⟨λ_=>hn _ trivial,λh=>?_⟩;have hbt:bt dn i=false:=(BS.1 h).1;refine DX.2 (FU.2 ⟨by simp only[AF,AW];omega,?_⟩);refine DX.2 ((A7c ht (WA hW (show i<=15 by omega)).1 may hl hb ha hS hSn hSB).mono λb hbr=>?_);obtain⟨r,hr,hbc⟩:=hbr;cases b with
    |false=>
     simp only[AC,A1,D6];exact DX.2 (A7e o5 (hn _ trivial))
    |true=>
     have hW':=ARx hW hi o5 hbt hr (hbc.1 rfl);simp only[AA,CE];refine DX.2 ((ih k (p++[i]) (out++[S[i]]) _ fl o5 (by rw[A6];show p.length+1+d=S.length;omega) hW').mono λq hq=>?_);refine DZ.2 ⟨λh1=>DY.2 ⟨rfl,hq.1 h1⟩,λh1=>?_⟩;rw[hq.2 h1];exact DX.2 (A7e o5 (hn _ trivial))
   .unfold KF;dsimp only;rw[F8,AE (AH _),AC];exact DY.2 rfl
  .rcases q with y|y
   .exact DY.2 ⟨λh=>(oe),λ_=>hq⟩
   .exact DY.2 ⟨λ_=>hq.2,λh=>by rw[hq.1]at h;cases h⟩
theorem ARz{t:FA}(ht:TkB t){S:List F9}(may:List (Wr×Bool))(hl:t.2.2.2.1.length<=12)(hb:∀p∈t.2.2.2.1,p.1.length<=1048576/\p.2.length<=1048576)(ha:t.2.2.2.1.Pairwise λa b=>a.1<b.1)
 (hS:S.length=1)(hSn:S.Pairwise λs t=>s.1<t.1)(hSB:SB S)(hc:∀r,ChgOf t.2.2.2.1 S (λ_=>true) r->Calm t may r):
 Tot (G_ 100 (0,[],S,[],(),(),t,may)) (λq=>q.1=true):=by
 show Tot (JR (G_ 99) (0,[],S,[],(),(),t,may)) _;unfold JR;dsimp only;have hW:=A7d t S may;rw[E0,AE (show ¬(((([]:List F9).length:Nat)):Int)=(S.length:Int) by rw[hS];decide),AC]
 refine DX.2 (Tot.mono (P:=λq=>match q with
  | .inl _=>False
  | .inr y=>y.2.2.1=true) ?_ λq hq=>?_)
 .refine GD (σ:=List (Int×Bool)) S.length (λfl i=>(0,[],S,fl,S,(S.length:Int),i,t,may)) (λi fl=>i=0/\fl=[]) o5 (λnext fl i hi hj _=>?_) (λnext fl hj=>absurd hj.1 o5) [] ⟨rfl,rfl⟩;obtain⟨rfl,rfl⟩:=hj;unfold KF;dsimp only;rw[F8,A7 hi,AA,GC (A0 hi),A1,(r_ (show 0<=15 by omega)).1,A1,sB A7L,A1,A7K];refine DZ.2 ⟨λh=>by simp[FQ]at h,λh=>?_⟩;refine DX.2 (FU.2 ⟨oc,?_⟩);refine DX.2 ((A7c ht (WA hW (show 0<=15 by omega)).1 may hl hb ha o5 hSn hSB).mono λb hbr=>?_);obtain⟨r,hr,hbc⟩:=hbr
  have hall:ChgOf t.2.2.2.1 S (λ_=>true) r:=by
   refine⟨hr.asc,λnm v=>?_⟩;rw[hr.mem];refine or_congr Iff.rfl ⟨?_,?_⟩
   .rintro⟨i,s,h1,h2,h3,h4⟩;have hi0:i=0:=by have:=(A8.1 h1).1;omega
    subst hi0;rw[(WA hW (show 0<=15 by omega)).2]at h3;exact⟨0,s,h1,h2,by simpa using h3,h4⟩
   .rintro⟨i,s,h1,h2,h3,h4⟩;have hi0:i=0:=by have:=(A8.1 h1).1;omega
    subst hi0;refine⟨0,s,h1,h2,?_,h4⟩;rw[(WA hW (show 0<=15 by omega)).2];simpa using h3
  rw[hbc.2 (hc r hall)];simp only[AA,CE]
  have e:G_ 99 (HA IntKind.u16 0 ((2 ^ 0:Nat):Int),[]++[S[0]],S,[],(),(),t,may)=some (true,[]++[S[0]],[]):=by
   show JR (G_ 98) (HA IntKind.u16 0 ((2 ^ 0:Nat):Int),[]++[S[0]],S,[],(),(),t,may)=_;unfold JR;dsimp only;rw[E0,A7 (show((([]++[S[0]]:List F9).length:Nat):Int)=(S.length:Int) by rw[hS];rfl),AA]
  rw[e,A1];exact DY.2 rfl
 .rcases q with y|y
  .exact hq.elim
  .exact DY.2 hq
theorem AS0{m m':List (Wr×Bool)}(h:∀w,GS m w=GS m' w)(dn:Int)(t:FA)(S:List F9):O_ (dn,t,S,m)=O_ (dn,t,S,m'):=by
 unfold O_;dsimp only
 congr 1
 funext r1
 congr 1
 funext r2;have e1:=sK m r2;have e2:=sK m' r2
 have e3:(r2.all λp=>GS m p.1)=r2.all λp=>GS m' p.1:=by
  congr 1
  funext p;exact h p.1
 rw[e3]at e1;exact e1.trans e2.symm
def WB{A B T M:Type}(q:Sum (A×B×T×M) (A×B×Bool×T×M)):Sum (A×B) (A×B×Bool):=match q with
 | .inl y=>.inl (y.1,y.2.1)
 | .inr y=>.inr (y.1,y.2.1,y.2.2.1)
theorem AS1{m m':List (Wr×Bool)}(h:∀w,GS m w=GS m' w)(t:FA)(S:List F9)(k:Nat)(ihk:∀dn out fl,G_ k (dn,out,S,fl,(),(),t,m)=G_ k (dn,out,S,fl,(),(),t,m')):
 ∀(n:Nat) (dn:Int) (out:List F9) (fl:List (Int×Bool)) (i:Int),(EE (KF (G_ k)) n (dn,out,S,fl,S,(S.length:Int),i,t,m)).map WB=(EE (KF (G_ k)) n (dn,out,S,fl,S,(S.length:Int),i,t,m')).map WB:=by
 intro n;induction n with
 |zero=>intro dn out fl i;rfl
 |succ n ih=>
  intro dn out fl i;show(KF (G_ k) (EE (KF (G_ k)) n) _).map WB=(KF (G_ k) (EE (KF (G_ k)) n) _).map WB;unfold KF;dsimp only;cases decide (i<(S.length:Int))with
  |false=>rfl
  |true=>
   simp only[AA,Option.map_bind]
   congr 1
   funext y1;simp only[Function.comp,Option.map_bind]
   congr 1
   funext n2;simp only[Function.comp,Option.map_bind]
   congr 1
   funext r3;simp only[Function.comp];cases (r3||((FQ E1 (HA IntKind.u16 dn n2) fl).getD false))with
   |true=>simp only[AA];exact ih _ _ _ _
   |false=>
    simp only[AC,Option.map_bind]
    congr 1
    funext l5;simp only[Function.comp,Option.map_bind];rw[AS0 h]
    congr 1
    funext r6;simp only[Function.comp,Option.map_bind];rw[ihk]
    congr 1
    funext r7;simp only[Function.comp];cases r6 with
    |true=>
     simp only[AA,CE];cases r7.1 with
     |true=>rfl
     |false=>
      simp only[AC,Option.map_bind]
      congr 1
      funext s9;exact ih _ _ _ _
    |false=>
     simp only[AC,D6,Option.map_bind]
     congr 1
     funext s8;exact ih _ _ _ _
theorem AS2{m m':List (Wr×Bool)}(h:∀w,GS m w=GS m' w)(t:FA)(S:List F9):∀(k:Nat) (dn:Int) (out:List F9) (fl:List (Int×Bool)),
 G_ k (dn,out,S,fl,(),(),t,m)=G_ k (dn,out,S,fl,(),(),t,m'):=by
 intro k;induction k with
 |zero=>intro dn out fl;rfl
 |succ k ih=>
  intro dn out fl;show JR (G_ k) _=JR (G_ k) _;unfold JR;dsimp only;cases E1 (out.length:Int) (S.length:Int)with
  |true=>simp only[AA]
  |false=>
   simp only[AC];unfold oT;generalize fuel=F;have hl:=AS1 h t S k ih F dn out fl 0;revert hl;generalize EE (KF (G_ k)) F (dn,out,S,fl,S,(S.length:Int),0,t,m)=a;generalize EE (KF (G_ k)) F (dn,out,S,fl,S,(S.length:Int),0,t,m')=b;intro hl;rcases a with _|⟨a|a⟩<;>rcases b with _|⟨b|b⟩<;>simp[WB]at hl ⊢<;>simp[hl]
theorem fB{l:List EX}(h:LkOk l)(hb:∀p∈l,p.1.length<=1048576/\p.2.length<=1048576):∀p∈l,p.2≠[]:=λp hp=>by
 obtain⟨_,_,v,h3⟩:=sH (hb p hp).1 (hb p hp).2 (h.ok p hp);exact AQi h3
theorem A7f{l:List EX}(h:∀p∈l,p.1.length<=1048576/\p.2.length<=1048576)(nm:DW):(FB l nm).1.length<=1048576:=by
 rcases VS l nm with⟨e,_⟩|⟨v,e,hm⟩
 .rw[e];decide
 .rw[e];exact(h _ hm).2
theorem AS3{a b:List EX}{S:List F9}(h:StepsOf a b S)(ha:∀p∈a,p.1.length<=1048576/\p.2.length<=1048576)(hb:∀p∈b,p.1.length<=1048576/\p.2.length<=1048576):SB S:=λs hs=>by
 obtain⟨⟨v,hv⟩,h2,h3,_⟩:=(h.mem s).1 hs;refine⟨?_,?_,?_⟩
 .rcases hv with hv|hv
  .exact(ha _ hv).1
  .exact(hb _ hv).1
 .rw[h2];exact A7f ha _
 .rw[h3];exact A7f hb _
structure Stg(t:FA)(l:List EX)(S:List F9)(q:List F9×Bool×Int):Prop where
 ok:q.2.2=0
 no:q.2.1=false->q.1=[]/\1<S.length
 yes:q.2.1=true->∃may p dn,Way t S may p q.1 dn/\p.length=S.length/\∀w,GS may w=true<->H8 (wF t t.2.2.2.1) w\/H8 (wF t l) w
theorem AS4{q:List Wr}{m:List (Wr×Bool)}(h:MapW q m)(w:Wr):GS m w=true<->H8 q w:=(h w).1
theorem A7g{a b:List Wr}{r3 r4 o:List (Wr×Bool)}(h3:MapW a r3)(h4:MapW b r4)(ho:o.Perm r4):
 ∃m',GU (λkx u=>V4 kx.1 u) o r3=some (.inl m')/\∀w,GS m' w=true<->H8 a w\/H8 b w:=by
 obtain⟨m',h1,h2⟩:=ARv o r3;refine⟨m',h1,λw=>?_⟩;rw[h2,AS4 h3,h4.key];exact or_congr Iff.rfl ⟨λ⟨p,hp,e⟩=>⟨p,ho.mem_iff.1 hp,e⟩,λ⟨p,hp,e⟩=>⟨p,ho.mem_iff.2 hp,e⟩⟩
theorem AS5(t:FA)(m:List (Wr×Bool)):G_ 100 (0,[],[],[],(),(),t,m)=some (true,[],[]):=by
 show JR (G_ 99) (0,[],[],[],(),(),t,m)=_;unfold JR;dsimp only;rw[E0,A7 (show((([]:List F9).length:Nat):Int)=((([]:List F9).length:Nat):Int)from rfl),AA]
theorem AS6{t:FA}(ht:TkB t){l:List EX}(hold:LkOk t.2.2.2.1)(hlk:LkOk l)(hlb:∀p∈l,p.1.length<=1048576/\p.2.length<=1048576)
 {S:List F9}(hSo:StepsOf t.2.2.2.1 l S)(h8:S.length<=8){m0:List (Wr×Bool)}(g0:∀w,GS m0 w=true<->H8 (wF t t.2.2.2.1) w\/H8 (wF t l) w):
 Tot (G_ 100 (0,[],S,[],(),(),t,m0)) (λq=>(q.1=true->∃p dn,Way t S m0 p q.2.1 dn/\p.length=S.length)/\(q.1=false->1<S.length)):=by
 have hSB:=AS3 hSo ht.pin hlb;obtain⟨q,hq,h1,h2⟩:=ARy ht m0 hold.few ht.pin hold.asc h8 hSo.asc hSB S.length 100 [] [] 0 [] o5 oc (A7d t S m0);refine⟨q,hq,h1,λhf=>?_⟩;rcases CL 1 S.length with h|h
 .exact h
 .exfalso;rcases D0 S.length with h0|h0
  .have:S=[]:=CD.1 h0;subst this;rw[AS5]at hq;cases hq;cases hf
  .obtain ⟨q',hq',h3⟩:=ARz ht m0 hold.few ht.pin hold.asc (show S.length=1 by omega) hSo.asc hSB (λr hr w hw=>by
    have:=hr.unique (A7X hSo hold.asc hlk.asc (fB hold ht.pin) (fB hlk hlb)) λ_ _=>rfl;subst this;exact(g0 w).2 (.inr hw))
   rw[hq]at hq';cases hq';rw[h3]at hf;cases hf
theorem AS7{t:FA}(ht:TkB t){l:List EX}(hc:NT t=some 0)(hold:LkOk t.2.2.2.1)(hlk:LkOk l)(hlb:∀p∈l,p.1.length<=1048576/\p.2.length<=1048576)(hcl:M9 l=some 0)
 {S:List F9}(hS:OW (t.2.2.2.1,l)=some S)(hSo:StepsOf t.2.2.2.1 l S):
 (8<S.length/\P0 (t,l)=some ([],false,3))\/(S.length<=8/\Tot (P0 (t,l)) (Stg t l S)):=by
 have z0:(!(E1 (0:Int) 0))=false:=rfl;have hO:JI t.2.2.2.1:=⟨by have:=hold.few;omega,ht.pin⟩;have hL:JI l:=⟨by have:=hlk.few;omega,hlb⟩
 have hboth:L2 (t,l)=some 0:=by
  unfold L2;dsimp only;rw[hc,A1,z0,AC,hcl,A1]
 unfold P0;dsimp only;rw[hboth,A1,z0,AC,hS,A1];by_cases h8:8<S.length
 .exact .inl ⟨h8,by rw[A7 o5,AA]⟩
 .refine .inr ⟨o5,?_⟩;rw[AE o5,AC];obtain⟨r3,e3,h3⟩:=sJ ht hO;obtain⟨r4,e4,h4⟩:=sJ ht hL;rw[e3,A1,e4,A1];obtain⟨m0,f0,g0⟩:=A7g h3 h4 (List.Perm.refl r4);obtain⟨q,hq,k1,k2⟩:=AS6 ht hold hlk hlb hSo o5 g0;refine⟨bif !q.1 then([],false,0)else(q.2.1,true,0),sM ⟨r4,List.Perm.refl _⟩ λo ho=>?_,?_⟩
  .obtain⟨m',f',g'⟩:=A7g h3 h4 ho;have hh:∀w,GS m' w=GS m0 w:=λw=>by rw[Bool.eq_iff_iff,g',g0]
   have hq':c_ (0,[],S,[],(),(),t,m')=some q:=(AS2 hh t S 100 0 [] []).trans hq;rw[f',A1];show((c_ (0,[],S,[],(),(),t,m')).bind _)=_;rw[hq',A1];cases q.1<;>rfl
  .cases hb:q.1 with
   |false=>exact⟨rfl,λ_=>⟨rfl,k2 hb⟩,λh=>(oe)⟩
   |true=>
    obtain⟨p,dn,h5,h6⟩:=k1 hb;exact⟨rfl,λh=>(oe),λ_=>⟨m0,p,dn,h5,h6,g0⟩⟩
theorem AS8(l:List F9)(v:F9)(hl:l.length<4611686018427387904):dB (l,v)=some (decide (v∈l)):=by
 have e:∀y:F9,((EG v.1 y.1)&&((EG v.2.1 y.2.1)&&(EG v.2.2 y.2.2)))=decide (v=y):=λy=>by
  obtain⟨a,b,c⟩:=v;obtain⟨a',b',c'⟩:=y;simp only[E3];by_cases h1:a=a'<;>by_cases h2:b=b'<;>by_cases h3:c=c'<;>simp[h1,h2,h3]
 unfold dB oZ;dsimp only
 have:Tot (oY (l,v,(l.length:Int),(0:Int))) (λq=>match q with| .inl _=>v ∉ l| .inr y=>v∈l/\0<=y):=by
  refine GD (σ:=Unit) l.length (λ_ i=>(l,v,(l.length:Int),i)) (λi _=>v ∉ l.take i) hl (λnext _ i hi hj hn=>?_) (λnext _ hj=>?_) () oc
  .unfold oX;dsimp only;rw[F8,A7 hi,AA,GC (A0 hi),A1,e];refine DZ.2 ⟨λh=>DY.2 ⟨?_,o5⟩,λh=>?_⟩
   .rw[A9 h];exact BM hi
   .rw[GK o5];refine hn () ?_;rw[GJ (A0 hi),AL,AN];rintro(hy|hy)
    .exact hj hy
    .exact AO h hy
  .unfold oX;dsimp only;rw[F8,AE (AH _),AC];exact DY.2 (by rwa[B3]at hj)
 obtain⟨q,h1,h2⟩:=this;rw[h1,A1];rcases q with y|y
 .dsimp only at h2 ⊢;rw[A1,AE h2];rfl
 .dsimp only at h2 ⊢;rw[A1,A7 h2.1,A7 h2.2]
theorem A7h(l:List Wr)(v:Wr)(hl:l.length<4611686018427387904):V8 (l,v)=some (decide (v∈l)):=by
 have e:∀y:Wr,((E1 v.1 y.1)&&((EG v.2.1 y.2.1)&&(EG v.2.2 y.2.2)))=decide (v=y):=λy=>fA v y;unfold V8 pD;dsimp only
 have:Tot (pC (l,v,(l.length:Int),(0:Int))) (λq=>match q with| .inl _=>v ∉ l| .inr y=>v∈l/\0<=y):=by
  refine GD (σ:=Unit) l.length (λ_ i=>(l,v,(l.length:Int),i)) (λi _=>v ∉ l.take i) hl (λnext _ i hi hj hn=>?_) (λnext _ hj=>?_) () oc
  .unfold pB;dsimp only;rw[F8,A7 hi,AA,GC (A0 hi),A1,e];refine DZ.2 ⟨λh=>DY.2 ⟨?_,o5⟩,λh=>?_⟩
   .rw[A9 h];exact BM hi
   .rw[GK o5];refine hn () ?_;rw[GJ (A0 hi),AL,AN];rintro(hy|hy)
    .exact hj hy
    .exact AO h hy
  .unfold pB;dsimp only;rw[F8,AE (AH _),AC];exact DY.2 (by rwa[B3]at hj)
 obtain⟨q,h1,h2⟩:=this;rw[h1,A1];rcases q with y|y
 .dsimp only at h2 ⊢;rw[A1,AE h2];rfl
 .dsimp only at h2 ⊢;rw[A1,A7 h2.1,A7 h2.2]
theorem AS9(a b w:List Wr)(ha:a.length<=1073741824)(hb:b.length<=1073741824)(hw:w.length<=1073741824)(h:∀k,H8 w k->k∈a\/k∈b):pH (a,b,w,(w.length:Int),0)=some (.inl ()):=by
 refine KK ?_;refine GD (σ:=Unit) w.length (λ_ i=>(a,b,w,(w.length:Int),i)) (λ_ _=>True) o5 (λnext s i hi _ hn=>?_) (λnext s _=>?_) () trivial
 .unfold pG;dsimp only;rw[F8,A7 hi,AA,GC (A0 hi),A1,GK o5,A7h a _ o5,A7h b _ o5,E0,E0];have hn:=hn () trivial;cases hk:(decide (w[i].1=1)||decide (w[i].1=2))with
  |false=>simpa using hn
  |true=>
   have hc:H8 w w[i]:=⟨BM hi,by simpa using hk⟩;rcases h _ hc with h1|h1
   .simpa[h1]using hn
   .by_cases h2:w[i]∈a
    .simpa[h2]using hn
    .simpa[h1,h2]using hn
 .unfold pG;dsimp only;rw[F8,AE (AH _),AC];exact DY.2 rfl
section
variable{t:FA}(ht:TkB t){l:List EX}(hc:NT t=some 0)(hold:LkOk t.2.2.2.1)(hlk:LkOk l)(hlb:∀p∈l,p.1.length<=1048576/\p.2.length<=1048576)
 {S:List F9}(hSo:StepsOf t.2.2.2.1 l S)(h8:S.length<=8)
include ht hold hlk hlb hSo
theorem ASA{d:Nat->Bool}{r:List EX}(hr:ChgOf t.2.2.2.1 S d r)(h12:r.length<=12):LkOk r/\JI r:=by
 have hm:∀p∈r,p∈t.2.2.2.1\/p∈l:=λp hp=>by
  obtain⟨nm,v⟩:=p;rcases(hr.mem nm v).1 hp with⟨h1,_⟩|⟨i,s,h1,rfl,h3,h4⟩
  .exact .inl h1
  .obtain⟨_,e2,e3,_⟩:=(hSo.mem s).1 (B5 h1);split at h3
   .exact .inr (SA (e3.symm.trans h3.symm) h4)
   .exact .inl (SA (e2.symm.trans h3.symm) h4)
 refine⟨⟨h12,λp hp=>?_,hr.asc⟩,o5,λp hp=>?_⟩
 .rcases hm p hp with h|h
  .exact hold.ok p h
  .exact hlk.ok p h
 .rcases hm p hp with h|h
  .exact ht.pin p h
  .exact hlb p h
include hc h8 in
theorem ASB{may:List (Wr×Bool)}{p:List Nat}{out:List F9}{dn:Int}(hW:Way t S may p out dn)(hp:p.length=S.length)(hmay:∀w,GS may w=true<->H8 (wF t t.2.2.2.1) w\/H8 (wF t l) w):
 pJ (t,S,wF t t.2.2.2.1,wF t l,t.2.2.2.1,out,(out.length:Int),0)=some (.inl l):=by
 have hO:JI t.2.2.2.1:=⟨by have:=hold.few;omega,ht.pin⟩;have hL:JI l:=⟨by have:=hlk.few;omega,hlb⟩;have hva:=fB hold ht.pin;have hvb:=fB hlk hlb;obtain⟨_,lo⟩:=V_ ht hO;obtain⟨_,ll⟩:=V_ ht hL;have hol:=hW.outp.1;refine KK ?_;refine GD (σ:=List EX) out.length (λnow i=>(t,S,wF t t.2.2.2.1,wF t l,now,out,(out.length:Int),i)) (λi now=>ChgOf t.2.2.2.1 S (λj=>decide (j∈p.take i)) now/\now.length<=12+i) o5 (λnext now i hi hj hn=>?_) (λnext now hj=>?_) t.2.2.2.1 ⟨?_,by have:=hold.few;omega⟩
 .obtain⟨hj,hjl⟩:=hj;unfold pI;dsimp only;have hip:i<p.length:=o5
  have ho:out[i]?=S[p[i]]?:=hW.outp.2 i p[i] (A0 hip);have hpS:=hW.lt p[i] (BM hip);rw[A0 hi,A0 hpS]at ho;have ho:out[i]=S[p[i]]:=A3 ho;rw[F8,A7 hi,AA,GC (A0 hi),A1,GK o5,ho,AS8 S _ o5,A1,A7 (BM hpS),C0,AC];refine DX.2 ((ARc now S[p[i]] o5 hj.asc).mono λr hr=>?_);obtain⟨hr,hrl⟩:=hr;have hR:=AR_ hSo hj (A0 hpS) hr
  have hR:ChgOf t.2.2.2.1 S (λj=>decide (j∈p.take (i+1))) r:=by
   have e:(λj=>decide (j∈p.take i)||decide (j=p[i]))=λj=>decide (j∈p.take (i+1)):=by
    funext j;rw[GJ (A0 hip),Bool.eq_iff_iff,BH,AX,AX,AX,AL,AN]
   rw[<-e];exact hR
  have hn:=hn r ⟨hR,o5⟩;refine DZ.2 ⟨λ_=>hn,λh12=>?_⟩;have h12:r.length<=12:=by have:=AO h12;omega
  obtain⟨k1,k2⟩:=ASA ht hold hlk hlb hSo hR h12;obtain⟨e,he,he2⟩:=PM r o5 k2.2;have he0:=he2.2 k1;subst he0;obtain⟨w1,w2⟩:=V_ ht k2
  have hWr:NU (t,r)=some (wF t r,0):=by
   have z0:(!(E1 (0:Int) 0))=false:=rfl;unfold NU L2;dsimp only;rw[hc,A1,z0,AC,he,A1,A1,z0,AC,w1,A1]
  rw[hWr,A1];dsimp only;rw[show(!(E1 (0:Int) 0))=false from rfl,AC,AS9 _ _ _ o5 o5 o5 (λk hk=>?_),A1]
  .exact hn
  .obtain⟨r',hr',hcalm⟩:=hW.calm (i+1) o5 o5;have:=hr'.unique hR λ_ _=>rfl;subst this;rcases(hmay k).1 (hcalm k hk)with h|h
   .exact .inl h.1
   .exact .inr h.1
 .unfold pI;dsimp only;rw[F8,AE (AH _),AC];refine DY.2 ?_
  have:=hj.1.unique (A7X hSo hold.asc hlk.asc hva hvb) λj hjS=>by
   rw[hol,B3];refine A7 ?_;refine BY λhn=>?_
   have:=List.Nodup.length_le_of_subset (B7.2 ⟨hn,hW.nod⟩) (l₂:=List.range S.length) λx hx=>by
    rw[D5];rcases A_.1 hx with rfl|hx
    .exact hjS
    .exact hW.lt x hx
   rw[DF,AF]at this;omega
  rw[this]
 .have:=ARY hSo hold.asc hva;have e:(λj=>decide (j∈p.take 0))=λ_=>false:=by funext j;simp
  rw[e];exact this
end
theorem ASC(a b:List EX)(ha:a.length<=1048576)(hab:∀p∈a,p.1.length<=1048576/\p.2.length<=1048576)(hb:b.length<=1048576)(hbb:∀p∈b,p.1.length<=1048576/\p.2.length<=1048576):
 Tot (V5 (a,b)) (λq=>q.2=0->LkOk a/\LkOk b/\StepsOf a b q.1/\OW (a,b)=some q.1/\M9 b=some 0):=by
 unfold V5;dsimp only;refine DX.2 ?_;obtain⟨e,he,he2⟩:=PM a ha hab;obtain⟨f,hf,hf2⟩:=PM b hb hbb;rw[he,hf];refine DY.2 (DZ.2 ⟨λh=>DY.2 λh0=>?_,λh=>?_⟩)
 .have h0:e=0:=h0;rw[h0]at h;cases h
 .refine DX.2 (DY.2 (DZ.2 ⟨λh=>DY.2 λh0=>?_,λh'=>?_⟩))
  .have h0:f=0:=h0;rw[h0]at h;cases h
  .have h0:e=0:=by simpa[E0]using h
   have h1:f=0:=by simpa[E0]using h'
   have ka:=he2.1 h0;have kb:=hf2.1 h1;obtain⟨S,hS,hS2,_⟩:=A7Z a b (by have:=ka.few;omega) (by have:=kb.few;omega);rw[hS];exact DX.2 (DY.2 (DY.2 λ_=>⟨ka,kb,hS2,rfl,by rw[h1]⟩))
theorem ASD(t:FA)(l:List EX)(ht:TkB t)(hB:BB t.2.2.2.2.2.2)(hl:l.length<=1048576)(hlb:∀p∈l,p.1.length<=1048576/\p.2.length<=1048576):dE (t,l)=some true:=by
 have z0:(!(E1 (0:Int) 0))=false:=rfl;obtain⟨e,hc,he⟩:=ARQ t ht hB;obtain⟨⟨S,f⟩,hf,hf2⟩:=ASC t.2.2.2.1 l ht.old ht.pin hl hlb;obtain⟨g,hg,hg2⟩:=PM l hl hlb;unfold dE;dsimp only
 have hbad:∀q:List F9×Bool×Int,q.2.2≠0->((!(E1 q.2.2 (0:Int)))||(!(E1 f (0:Int))))=true:=λq h=>by
  rw[E0,AE h];rfl
 have herr:∀n:Int,n≠0->L2 (t,l)=some n->P0 (t,l)=some ([],false,n):=λn hn hb=>by
  unfold P0;dsimp only;rw[hb,A1,E0,AE hn,D7,AA]
 rw[hf];by_cases h0:e=0
 .subst h0;have hk:=(he.1 rfl).2;by_cases hg0:g=0
  .subst hg0;have hold:=hk.old;have hlk:=hg2.1 rfl;by_cases hf0:f=0
   .subst hf0;obtain⟨_,_,hSo,hS,_⟩:=hf2 rfl;rcases AS7 ht hc hold hlk hlb hg hS hSo with⟨_,hst⟩|⟨h8,⟨x,is,e3⟩,hst,hq⟩
    .rw[hst,A1,A1,hbad ([],false,3) od,AA,VZ];rfl
    .have he3:e3=0:=hq.ok;subst he3;rw[hst,A1,A1];dsimp only;rw[z0,CC,AC];cases is with
     |false=>
      obtain⟨h1,h2⟩:=hq.no rfl;have h1:x=[]:=h1;subst h1;rw[D7,AA,A7 (show(1:Int)<(S.length:Int) by have h2:1<S.length:=h2;omega),VZ];rfl
     |true=>
      obtain⟨may,p,dn,hW,hp,hmay⟩:=hq.yes rfl;have hW:Way t S may p x dn:=hW;have hO:JI t.2.2.2.1:=⟨by have:=hold.few;omega,ht.pin⟩;have hL:JI l:=⟨by have:=hlk.few;omega,hlb⟩;obtain⟨eo,heo,heo2⟩:=PM t.2.2.2.1 ht.old ht.pin;have:=heo2.2 hold;subst this
      have hWr:∀r,M9 r=some 0->JI r->NU (t,r)=some (wF t r,0):=λr h1 h2=>by
       unfold NU L2;dsimp only;rw[hc,A1,z0,AC,h1,A1,A1,z0,AC,(V_ ht h2).1,A1]
      rw[C0,AC,hWr _ heo hO,A1,hWr _ hg hL,A1];dsimp only;rw[ASB ht hc hold hlk hlb hSo h8 hW hp hmay,A1];dsimp only;have hxl:x.length=S.length:=by rw[hW.outp.1,hp]
      have hself:∀n:Int,E1 n n=true:=λn=>by rw[E0];exact A7 rfl
      rw[hxl,hself,hself,ARW l l hl,A7 rfl,VZ];rfl
   .have:((!(E1 (0:Int) 0))||(!(E1 f (0:Int))))=true:=by rw[z0,CC,E0,AE hf0];rfl
    exfalso;obtain⟨S',hS',hSo',_⟩:=A7Z t.2.2.2.1 l (by have:=hold.few;omega) (by have:=hlk.few;omega);obtain⟨eo,heo,heo2⟩:=PM t.2.2.2.1 ht.old ht.pin;have:=heo2.2 hold;subst this;unfold V5 at hf;dsimp only at hf;rw[heo,A1,z0,AC,hg,A1,z0,AC,hS',A1]at hf;cases hf;exact hf0 rfl
  .have hb:L2 (t,l)=some g:=by
    unfold L2;dsimp only;rw[hc,A1,z0,AC,hg,A1]
   rw[herr g hg0 hb,A1,A1,hbad ([],false,g) hg0,AA,VZ];rfl
 .have hb:L2 (t,l)=some e:=by
   unfold L2;dsimp only;rw[hc,A1,E0,AE h0,D7,AA]
  rw[herr e h0 hb,A1,A1,hbad ([],false,e) h0,AA,VZ];rfl
end Go.Ev.Pv
