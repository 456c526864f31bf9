/-
  The program's functions as plain Lean functions (printed by a program of the author's from the translation).
-/
import Derived.Test.YtkmeffadhdmdhaaGreatDoorE4
import Derived.Lib.AtoiAll
import Derived.Lib.ItoaNum
import Derived.Lib.Join
import Derived.Lib.Split
import Derived.Lib.Repeat
import Derived.Lib.FieldsP
import Derived.Lib.MapU
import Derived.Lib.LastIndexByte
import Derived.Lib.SlicesCompact
import GoSem.Decode
import Derived.Lib.Case
set_option linter.all false
set_option maxRecDepth 100000
open Go.IntKind hiding min max bits signed
namespace Go.Ev.Pv
def fuel:Nat:=18446744073709551616
def str? (s:DO):X1 DO:=bif decide (s.length<=281474976710656)then some s else none
def str?_some{s r:DO}(h:str? s=some r):r=s/\s.length<=281474976710656:=by
 unfold str? at h;cases hd:decide (s.length<=281474976710656)with
 |false=>rw[hd]at h;cases h
 |true=>rw[hd]at h;cases h;exact⟨rfl,AC hd⟩
def I_{α:Type}(c:Prop) [Decidable c](x:X1 α):X1 α:=bif decide c then x else none
def OX{α:Type}{c:Prop}{_:Decidable c}{x:X1 α}{r:α}(h:I_ c x=some r):c/\x=some r:=by
 unfold I_ at h;cases hd:decide c with
 |false=>rw[hd]at h;cases h
 |true=>rw[hd]at h;exact⟨AC hd,h⟩
def N7:Nat->Nat->DO
 |0,_=>[]
 |k+1,u=>if u<10 then [UInt8.ofNat (48+u)]else N7 k (u / 10)++[UInt8.ofNat (48+u % 10)]
def A4E:∀(k u:Nat),u<10 ^ k->1<=k->N7 k u=Lib.decDigits u:=by
 intro k;induction k with
 |zero=>intro u _ h;omega
 |succ k ih=>
  intro u hu _;rw[Lib.decDigits];simp only[N7];by_cases h:u<10
  .rw[if_pos h,dif_pos h]
  .rw[if_neg h,dif_neg h];have hk:1<=k:=by
    rcases k with _|k
    .simp at hu;omega
    .omega
   rw[ih (u / 10) (by rw[Nat.pow_succ]at hu;omega) hk]
def SA(n:Int):DO:=if n<0 then 45::N7 20 n.natAbs else N7 20 n.toNat
def AJ8{n:Int}(h0:-9223372036854775808<=n)(h1:n<=9223372036854775807):SA n=Lib.itoa n:=by unfold SA Lib.itoa;rw[A4E 20 n.natAbs oa oi,A4E 20 n.toNat oa oi]
def A4F:∀(k u:Nat),(N7 k u).length<=k:=by
 intro k;induction k with
 |zero=>intro u;exact AD _
 |succ k ih=>
  intro u;simp only[N7];split
  .simp
  .have:=ih (u / 10);simp only[AL,BO,C8];omega
def A4G(n:Int):(SA n).length<=21:=by
 unfold SA;split
 .have:=A4F 20 n.natAbs;simp only[BO];omega
 .have:=A4F 20 n.toNat;omega
def strings_Join:(KX (KX UInt8))×(KX UInt8)->X1 (KX UInt8):=λx=>I_ (x.1.length<=140737488355328/\(Lib.join x.1 x.2).length<=140737488355328) (some (Lib.join x.1 x.2))
def ZM:KX UInt8->X1 (KX UInt8):=λs=>I_ (s.length<35184372088832) (str? (Lib.toLowerD s))
def strconv_Itoa:Int->X1 (KX UInt8):=λn=>some (SA n)
def strings_IndexByte:(KX UInt8)×Int->X1 (Int):=λx=>I_ (x.1.length<4611686018427387904) (some (Lib.indexByte x.1 x.2.toNat.toUInt8))
def strings_LastIndexByte:(KX UInt8)×Int->X1 (Int):=λx=>I_ (x.1.length<4611686018427387904) (some (Lib.lastIndexByte ⟨x.1.toArray⟩ x.2))
def strings_Cut:(KX UInt8)×(KX UInt8)->X1 ((KX UInt8)×(KX UInt8)×X5):=λx=>I_ (x.1.length<4294967281) (some (Lib.cut x.1 x.2))
def strings_Repeat:(KX UInt8)×Int->X1 (KX UInt8):=λx=>I_ (0<=x.2/\x.1.length*x.2.toNat<=140737488355328) (some (Lib.repeatL x.1 x.2.toNat))
def strings_Split:(KX UInt8)×(KX UInt8)->X1 (KX (KX UInt8)):=λx=>I_ (x.1.length<4294967281/\1<=x.2.length) (some ((Lib.splitB ⟨x.2.toArray⟩ 0 (Lib.countB ⟨x.1.toArray⟩ ⟨x.2.toArray⟩) ⟨x.1.toArray⟩).map λb=>b.data.toList))
def gB:KX UInt8->X1 (Int×Unit):=λs=>I_ (s.length<=281474976710656) (match Lib.atoiAll s with
 | .ok v=>some (v,())
 | .range=>some (Lib.atoiSat s,())
 |_=>some (0,()))
noncomputable def WE:(KX UInt8)×(Int->X1 X5)->X1 (KX (KX UInt8)):=λx=>@I_ _ (x.1.length<=4294967296/\(∀r:Nat,r<=1114111->∃b,x.2 (r:Int)=some b)/\(Lib.goFieldsP (λr=>(x.2 (r:Int)).getD false) ⟨x.1.toArray⟩).length<=281474976710656) (Classical.propDecidable _) (some ((Lib.goFieldsP (λr=>(x.2 (r:Int)).getD false) ⟨x.1.toArray⟩).map λb=>b.data.toList))
def strings_HasPrefix:(KX UInt8)×(KX UInt8)->X1 (X5):=λx=>some (Lib.hasPrefix x.1 x.2)
def strings_TrimPrefix:(KX UInt8)×(KX UInt8)->X1 (KX UInt8):=λx=>some (Lib.trimPrefix x.1 x.2)
def strings_CutPrefix:(KX UInt8)×(KX UInt8)->X1 ((KX UInt8)×X5):=λx=>some (Lib.trimPrefix x.1 x.2,Lib.hasPrefix x.1 x.2)
def gC:KX Int->X1 (KX Int):=λxs=>some xs
def QC:KX Int->X1 (KX UInt8):=λxs=>some (IY xs)
section
variable{T:Type}
def O8(xs:KX T)(F:T×T->X1 Int)(i j:Fin xs.length):Int:=(F (xs.get i,xs.get j)).getD 0
def IU(xs:KX T)(F:T×T->X1 Int)(i j:Fin xs.length):X5:=decide (O8 xs F i j<0)
def TY(xs:KX T)(F:T×T->X1 Int):Prop:=
 (∀i j:Fin xs.length,(F (xs.get i,xs.get j)).isSome=true)/\(∀i:Fin xs.length,IU xs F i i=false)/\
 (∀i j k:Fin xs.length,IU xs F i j=true->IU xs F j k=true->IU xs F i k=true)/\(∀i j k:Fin xs.length,IU xs F i j=false->IU xs F j k=false->IU xs F i k=false)
instance{xs:List T}{F:T×T->Option Int}:Decidable (TY xs F):=by unfold TY;infer_instance
def gD{α:Type} [Inhabited α](lt:α->α->X5):Nat->Nat->Array α->Array α
 |0,_,d=>d
 |n+1,i,d=>gD lt n (i+1) (Sort.insInner lt 0 i d)
theorem AJ9{α:Type} [Inhabited α](lt:α->α->X5):∀(n i:Nat) (d:Array α),Sort.insOuter lt 0 (i+n) i d=gD lt n i d:=by
 intro n;induction n with
 |zero=>intro i d;rw[Sort.insOuter,if_neg oa];rfl
 |succ n ih=>intro i d;rw[Sort.insOuter,if_pos oa,show i+(n+1)=(i+1)+n by omega,ih];rfl
def LD(xs:KX T)(F:T×T->X1 Int)(h:0<xs.length):Array (Fin xs.length):=
 haveI:Inhabited (Fin xs.length):=⟨⟨0,h⟩⟩
 if xs.length<=12 then gD (IU xs F) (xs.length-1) 1 (Array.ofFn id)else Sort.pdq (IU xs F) (Array.ofFn id) 0 xs.length (Lib.bitLen xs.length) true true
def AJA{α:Type} [Inhabited α](lt:α->α->X5)(d:Array α)(n lim:Nat)(h:0<n)(h12:n<=12):Sort.pdq lt d 0 n lim true true=gD lt (n-1) 1 d:=by rw[Sort.pdq,if_pos oa,Sort.insertionSort];have:=AJ9 lt (n-1) 1 d;rw[show 1+(n-1)=n by omega]at this;exact this
theorem A4H(xs:KX T)(F:T×T->X1 Int)(h:0<xs.length):
 LD xs F h= @Sort.pdq _ ⟨⟨0,h⟩⟩ (IU xs F) (Array.ofFn id) 0 xs.length (Lib.bitLen xs.length) true true:=by
 unfold LD;split
 .rename_i h12;exact(@AJA _ ⟨⟨0,h⟩⟩ (IU xs F) (Array.ofFn id) xs.length _ h h12).symm
 .rfl
def O9(xs:KX T)(F:T×T->X1 Int):X1 (KX T):=
 if h:0<xs.length then I_ (TY xs F) (some ((LD xs F h).toList.map xs.get))else some []
end
def vG:(KX ((Int×(KX UInt8)×X5×(KX UInt8))×(Int×(KX UInt8)×X5×(KX UInt8))))×((((Int×(KX UInt8)×X5×(KX UInt8))×(Int×(KX UInt8)×X5×(KX UInt8)))×((Int×(KX UInt8)×X5×(KX UInt8))×(Int×(KX UInt8)×X5×(KX UInt8))))->X1 Int)->X1 (KX ((Int×(KX UInt8)×X5×(KX UInt8))×(Int×(KX UInt8)×X5×(KX UInt8)))):=λv=>O9 v.1 v.2
def TZ{α:Type}(l:KX α)(i j:Int):X1 (KX α):=
 if 0<=i/\i<j/\j<=l.length then some (l.take i.toNat++l.drop j.toNat)else none
def A4I:(KX (Int×Int))×(((Int×Int)×(Int×Int))->X1 Int)->X1 (KX (Int×Int)):=λx=>O9 x.1 x.2
def KH(c:UInt8):X5:=decide (97<=(c.toNat:Int))&&((c.toNat:Int)<=122)||(65<=(c.toNat:Int))&&((c.toNat:Int)<=90)||(48<=(c.toNat:Int))&&((c.toNat:Int)<=57)||((c.toNat:Int)=46)||((c.toNat:Int)=45)
def wordL:KX (KX UInt8):=[[65,78,68],[79,82],[87,73,84,72],[97,110,100],[111,114],[119,105,116,104]]
def KZ(s:X3):X5:=wordL.contains s.toList
def HG(s:X3):X5:=decide (0<s.size)&&((s.size<=60)&&(!(s.data.toList.headD 0==46)&&(!(s.data.toList.headD 0==45)&&(!(KZ s)&&s.data.toList.all KH))))
structure RS where
 en:Nat
 k:Int
 tx:X3
 at_:Nat
 tg:X5
 op:Int
def N8(c:UInt8):X5:=c==32||c==9||c==10
def FE(l:KX UInt8)(i:Nat):Nat:=i+((l.drop i).takeWhile N8).length
def K4(l:KX UInt8)(i:Nat):Nat:=((l.drop i).takeWhile KH).length
def SB(t:X3):X3:=⟨(Lib.toUpperA t.data.toList).toArray⟩
def FV(s:X3)(en:Nat)(op:Int):Except Nat RS:=
 if FE s.data.toList en=s.size then .ok ⟨en,0,⟨#[]⟩,FE s.data.toList en,decide (FE s.data.toList en=en/\0<FE s.data.toList en),op⟩
 else if K4 s.data.toList (FE s.data.toList en)=0 then
  (if s.data.toList.getD (FE s.data.toList en) 0=43 then .ok ⟨FE s.data.toList en+1,3,⟨#[]⟩,FE s.data.toList en,decide (FE s.data.toList en=en/\0<FE s.data.toList en),op⟩
  else if s.data.toList.getD (FE s.data.toList en) 0=40 then .ok ⟨FE s.data.toList en+1,4,⟨#[]⟩,FE s.data.toList en,decide (FE s.data.toList en=en/\0<FE s.data.toList en),op⟩
  else if s.data.toList.getD (FE s.data.toList en) 0=41 then .ok ⟨FE s.data.toList en+1,5,⟨#[]⟩,FE s.data.toList en,decide (FE s.data.toList en=en/\0<FE s.data.toList en),op⟩
  else .error (FE s.data.toList en))
 else if KZ (s.extract (FE s.data.toList en) (FE s.data.toList en+K4 s.data.toList (FE s.data.toList en)))=true then
  .ok ⟨FE s.data.toList en+K4 s.data.toList (FE s.data.toList en),2,SB (s.extract (FE s.data.toList en) (FE s.data.toList en+K4 s.data.toList (FE s.data.toList en))),FE s.data.toList en,decide (FE s.data.toList en=en/\0<FE s.data.toList en),op⟩
 else if HG (s.extract (FE s.data.toList en) (FE s.data.toList en+K4 s.data.toList (FE s.data.toList en)))=true then
  .ok ⟨FE s.data.toList en+K4 s.data.toList (FE s.data.toList en),1,s.extract (FE s.data.toList en) (FE s.data.toList en+K4 s.data.toList (FE s.data.toList en)),FE s.data.toList en,decide (FE s.data.toList en=en/\0<FE s.data.toList en),op⟩
 else .error (FE s.data.toList en)
def J0(s:X3)(word:X3)(r:RS):Except (Nat×Int) (X5×RS):=
 if r.k≠2\/r.tx≠word then .ok (false,r)else match FV s r.en r.op with
  | .ok r=>.ok (true,r)
  | .error a=>.error (a,6)
def J8(s:X3)(r:RS):Except (Nat×Int) (X3×RS):=
 if r.k≠1 then .error (r.at_,6)else match FV s r.en r.op with
  | .ok r'=>.ok (r.tx,r')
  | .error a=>.error (a,6)
inductive Tr where
 |node (k:Int) (n:ByteArray) (l:Bool) (x:ByteArray) (kids:List Tr)
abbrev PF:=RS->X1 (Except (Nat×Int) (Tr×RS))
def KI(s word:X3)(one:PF):Nat->KX Tr->RS->X1 (Except (Nat×Int) (KX Tr×RS))
 |0,_,_=>none
 |m+1,kids,r=>match J0 s word r with
  | .error e=>some (.error e)
  | .ok (false,r')=>some (.ok (kids,r'))
  | .ok (true,r')=>match one r' with
   |none=>none
   |some (.error e)=>some (.error e)
   |some (.ok (t,r''))=>KI s word one m (kids++[t]) r''
def J9(s:X3)(kind:Int)(word:X3)(one:PF)(m:Nat):PF:=λr=>match one r with
 |none=>none
 |some (.error e)=>some (.error e)
 |some (.ok (t,r'))=>if r'.k≠2\/r'.tx≠word then some (.ok (t,r'))else match KI s word one m [t] r' with
  |none=>none
  |some (.error e)=>some (.error e)
  |some (.ok (kids,r''))=>some (.ok (.node kind ⟨#[]⟩ false ⟨#[]⟩ kids,r''))
def QD(o:Int):Int:=IntKind.wrap .i64 o
def OY(s:X3)(eitherR:PF)(r:RS):X1 (Except (Nat×Int) (Tr×RS)):=
 if 30<QD (r.op+1)then some (.error (r.at_,3))else match FV s r.en (QD (r.op+1))with
  | .error a=>some (.error (a,6))
  | .ok b=>match eitherR b with
   |none=>none
   |some (.error e)=>some (.error e)
   |some (.ok (t,b))=>if b.k≠5 then some (.error (b.at_,6))else match FV s b.en (QD (b.op-1))with
    | .error a=>some (.error (a,6))
    | .ok b=>some (.ok (t,b))
def L_(s:X3)(r:RS):Except (Nat×Int) (X5×RS):=
 if r.k=3/\r.tg=true then(match FV s r.en r.op with| .error a=>.error (a,6)| .ok b=>.ok (true,b))else .ok (false,r)
def K_(s:X3)(r:RS):Except (Nat×Int) (X3×RS):=match J0 s ⟨#[87,73,84,72]⟩ r with
 | .error e=>.error e
 | .ok (false,a)=>.ok (⟨#[]⟩,a)
 | .ok (true,a)=>J8 s a
def JJ(s:X3)(r:RS):Except (Nat×Int) (Tr×RS):=match J8 s r with
 | .error e=>.error e
 | .ok (n,a)=>match L_ s a with
  | .error e=>.error e
  | .ok (l,a)=>match K_ s a with
   | .error e=>.error e
   | .ok (x,a)=>.ok (.node 1 n l x [],a)
def N9(s:X3)(m:Nat):Nat->PF
 |0=>λ_=>none
 |d+1=>λr=>if r.k=4 then OY s (J9 s 3 ⟨#[79,82]⟩ (J9 s 2 ⟨#[65,78,68]⟩ (N9 s m d) m) m) r else some (JJ s r)
def QE(s:X3)(m d:Nat):PF:=J9 s 3 ⟨#[79,82]⟩ (J9 s 2 ⟨#[65,78,68]⟩ (N9 s m d) m) m
def NA(s:X3)(e:PF):X1 (Except (Nat×Int) Tr):=match FV s 0 0 with
 | .error a=>some (.error (a,6))
 | .ok r=>match e r with
  |none=>none
  |some (.error x)=>some (.error x)
  |some (.ok (t,r'))=>if r'.k≠0 then some (.error (r'.at_,6))else some (.ok t)
mutual
def IV:Tr->Int->Int×Int
 | .node _ _ _ _ kids,d=>if 30<d then(1,d)else LE kids d (1,d)
def LE:KX Tr->Int->Int×Int->Int×Int
 |[],_,acc=>acc
 |t::ts,d,acc=>LE ts d (min (acc.1+(IV t (d+1)).1) 201,max acc.2 (IV t (d+1)).2)
end
mutual
def NB:Tr->Int
 | .node k n l x kids=>if k<1\/3<k then 7 else if k=1 then(if 0<kids.length then 2 else if HG n=false\/x≠⟨#[]⟩/\HG x=false then 8 else 0)
   else if n≠⟨#[]⟩\/l=true\/x≠⟨#[]⟩\/kids.length<2 then 2 else QF kids
def QF:KX Tr->Int
 |[]=>0
 |t::ts=>if NB t≠0 then NB t else QF ts
end
def QG(t:Tr):Int:=if 30<(IV t 1).2\/200<(IV t 1).1 then 3 else NB t
def T_(s:X3)(e:PF):X1 (Except (Nat×Int) Tr):=if 4000<s.size then some (.error (0,3))else match NA s e with
 |none=>none
 |some (.error x)=>some (.error x)
 |some (.ok t)=>if QG t≠0 then some (.error (0,QG t))else some (.ok t)
def AJB:X1 (Except (Nat×Int) Tr)->(Int×(KX UInt8)×X5×(KX UInt8)×Unit)×Int×Int
 |some (.ok (.node k n l x _))=>((k,n.data.toList,l,x.data.toList,()),0,0)
 |some (.error (a,c))=>((0,[],false,[],()),a,c)
 |none=>((0,[],false,[],()),0,0)
noncomputable def vH:KX UInt8->X1 ((Int×(KX UInt8)×X5×(KX UInt8)×Unit)×Int×Int):=λs=>some (AJB (T_ ⟨s.toArray⟩ (QE ⟨s.toArray⟩ 4500 31)))
def AJC(s:KX UInt8):∃r,vH s=some r:=⟨_,rfl⟩
def slices_Sort_int(xs:KX Int):X1 (KX Int):=some (xs.mergeSort λx y=>decide (x<=y))
def slices_Compact_int(xs:KX Int):X1 (KX Int):=some (Lib.compact xs)
def gE:(KX ((KX UInt8)×(KX UInt8)))×(((KX UInt8)×(KX UInt8))×((KX UInt8)×(KX UInt8))->X1 Int)->X1 (KX ((KX UInt8)×(KX UInt8))):=λx=>O9 x.1 x.2
def vI:KX (KX UInt8)×Int×Int->X1 (KX (KX UInt8)):=λx=>TZ x.1 x.2.1 x.2.2
def vJ:KX (((KX UInt8)×Int)×(KX UInt8))×Int×Int->X1 (KX (((KX UInt8)×Int)×(KX UInt8))):=λx=>TZ x.1 x.2.1 x.2.2
noncomputable section
abbrev DZ:=(KX (DO×DO))
abbrev JA:=(DO×DO×DO×DO×DZ×DO)
abbrev G_:=(DO×JA×DZ×DO×(KX DO))
abbrev GM:=(DO×DO×Int)
abbrev HH:=(DO×DO×DO×(KX G_)×(KX GM))
abbrev JS:=(KX (Int×DO))
abbrev GW:=(DO×Int×JS×(KX DO)×(KX DO))
abbrev GX:=(DO×(KX DO)×DO×Int×X5×DO×(KX GW))
abbrev NC:=(Int×(KX GX)×(KX Int))
abbrev IL:=(Int×DO×DO×DO)
abbrev QH:=(KX (DO×DO×(KX IL)×(KX DO)))
abbrev JK:=((KX (DO×(KX DO)))×(KX (DO×DZ))×QH×(KX DO))
abbrev QI:=(KX (DO×DO×DO×Int×Int×Int×Int))
abbrev ND:=(HH×Int×NC×(KX JK)×Int×(KX DO)×QI)
abbrev IM:=(ND×(KX (DO×GX))×(KX (DO×G_))×(KX (DO×X5))×(KX (GM×X5)))
abbrev GE:=(JK×(KX (DO×Int))×(KX (DO×Int))×(KX (DO×(KX Int)))×(KX (DO×X5))×X5)
abbrev E1:=(Int×DO×DO×Int)
abbrev OA:=((KX Int)×(KX DO))
abbrev NE:=(Int×DO×DO×X5)
abbrev GC:=(Int×(KX Int)×Int×Int×Int×Int×(KX DO))
abbrev GI:=(X5×DO×Int)
abbrev HJ:=(Sum OA (Sum NE (Sum GC (Sum (KX GI) (Sum Int Unit)))))
abbrev GN:=(X5×X5×DO)
abbrev FM:=(KX (GN×GN))
abbrev M0:=(Int×DO×X5×DO)
abbrev FK:=(M0×M0)
abbrev JT:=((X1 GE)×((KX X5)×((KX X5)×((KX ((DO×DO)×X5))×(DZ×((KX Int)×(KX Int)))))))
abbrev FP:=(((DO×DO)×(DO×DO))->X1 Int)
abbrev IG:=((DO×Int)×DO)
abbrev LF:=(DO×DO×Int×Int×Int×(KX DO)×DO×(KX (DO×(KX IG)×DZ))×Int)
abbrev M1:=(X1 ((X1 GE)×(KX X5)×(KX X5)×(KX ((DO×DO)×X5))×DZ×(KX Int)×(KX Int)))
abbrev EU:=(DO×Int×Int)
abbrev FQ:=((E1×E1)->X1 Int)
abbrev M2:=(X5×(KX (DO×(DO×(KX DO))))×(KX (DO×X5))×(KX (DO×X5)))
abbrev HS:=((DO×DO)×(DO×DO)->X1 Int)
abbrev OZ:=(JK×((KX (DO×Int))×((KX (DO×Int))×((KX (DO×KX Int))×((KX (DO×X5))×X5)))))
abbrev IN:=(DO×(DO×(DO×(DO×(DZ×DO)))))
abbrev SC:=(ND×((KX (DO×GX))×((KX (DO×G_))×((KX (DO×X5))×(KX (GM×X5))))))
abbrev I6:=(KX (Int×Int))
abbrev HX:=(E1×E1->X1 Int)
abbrev SD:=((X1 IM)×GM×GX×G_×(KX DO)×Int×(KX DO))
abbrev WF:=(X5×((KX (DO×(DO×(KX DO))))×((KX (DO×X5))×(KX (DO×X5)))))
abbrev H0:=(Sum (Unit) (Int))
abbrev L0:=(KX ((Int×X5)×X5))
abbrev JU:=(KX (KX Int))
abbrev KJ:=(DO×I6×Int)
abbrev K5:=(Sum (Unit) (X5))
abbrev gF:=((X1 IM)×(GM×(GX×(G_×((KX DO)×(Int×(KX DO)))))))
abbrev KK:=(KX (Int×FM))
abbrev U0:=(DO×Int×X5×X5×Int)
abbrev ML:=((KX DO)×X5)
abbrev NF:=(Int->X1 X5)
abbrev SE:=(X5×(KX (DO×X5)))
abbrev NG:=((KX E1)×Int)
abbrev U1:=(HH×Int×JU×JU)
abbrev Rd(A B:Type):=(A->X1 B)->A->X1 B
def gG:Rd EU K5:=λa (b,c,d)=>bif d<c then(at? b d).bind λe=>(bif !((e.toNat:Int)<32)then at? b d else some 0).bind λf=>bif (e.toNat:Int)<32||DT f.toNat 127 then some (.inr false)else a (b,c,i64.wrap (d+1))else some (.inl ())
def A4J:=E0 gG fuel
def ZN:DO->X1 (X5):=λa=>(A4J (a,a.length,0)).bind λb=>match b with|.inl _=>some ((a.length:Int)<=100)|.inr a=>a
def gH:Rd EU K5:=λa (b,c,d)=>bif d<c then(at? b d).bind λe=>(bif !((e.toNat:Int)<33)then at? b d else some 0).bind λf=>bif (e.toNat:Int)<33||126<(f.toNat:Int)then some (.inr false)else a (b,c,i64.wrap (d+1))else some (.inl ())
def A4K:=E0 gH fuel
def ZO:DO×Int->X1 (X5):=λ(a,b)=>(A4K (a,a.length,0)).bind λc=>match c with|.inl _=>some (!DU a []&&a.length<=b)|.inr a=>a
def gI:Unit->X1 (KX U0):=λ_=>some [([100,111,116,116,101,100],2,true,false,1),([114,101,118,105,115,101,100],3,true,false,2),([115,116,97,103,101,100],1,true,true,3),([113,117,97,108,105,102,105,101,100],3,false,false,4),([112,108,97,105,110],2,false,false,5)]
def A4L:Rd (DO×(KX U0)×Int) H0:=λa (b,c,d)=>bif d<5 then(at? c d).bind λe=>bif DU e.1 b then some (.inr d)else a (b,c,i64.wrap (d+1))else some (.inl ())
def vK:=E0 A4L fuel
def ZP:DO->X1 (Int):=λa=>(gI ()).bind λb=>(vK (a,b,0)).bind λa=>match a with|.inl _=>some (-1)|.inr a=>a
def WG:DO->X1 (U0×Int):=λa=>(ZP a).bind λa=>bif a<0 then some (([],0,false,false,0),7)else(gI ()).bind λb=>(at? b a).bind λa=>some (a,0)
def A4M:Rd ((KX DO)×Int×Int) K5:=λa (b,c,d)=>bif d<c then(at? b d).bind λe=>bif 200<(e.length:Int)then some (.inr true)else a (b,c,i64.wrap (d+1))else some (.inl ())
def vL:=E0 A4M fuel
def A4N:Rd (DZ×Int×Int) K5:=λa (b,c,d)=>bif d<c then(at? b d).bind λe=>bif 200<(e.1.length:Int)||200<(e.2.length:Int)then some (.inr true)else a (b,c,i64.wrap (d+1))else some (.inl ())
def vM:=E0 A4N fuel
def gJ:DO×DO×DO×DO×DZ×DO->X1 (X5):=λa=>let b:=[a.2.1,a.2.2.1,a.2.2.2.1,a.2.2.2.2.2];(vL (b,b.length,0)).bind λb=>match b with|.inl _=>((vM (a.2.2.2.2.1,a.2.2.2.2.1.length,0)).bind λb=>match b with|.inl _=>some (10<(a.2.2.2.2.1.length:Int))|.inr a=>a)|.inr a=>a
def U2:DO->X1 (KX DO):=λa=>bif DU a []then some []else(strings_Split (a,[47])).bind λa=>a
def A4O:Rd (X5×(KX DO)×Int×Int) K5:=λa (b,c,d,e)=>bif e<d then(at? c e).bind λf=>bif DU f []||b&&(DU f [46]||DU f [46,46])then some (.inr true)else a (b,c,d,i64.wrap (e+1))else some (.inl ())
def vN:=E0 A4O fuel
def ZQ:(KX DO)×X5->X1 (X5):=λ(a,b)=>(vN (b,a,a.length,0)).bind λb=>match b with|.inl _=>some (10<(a.length:Int))|.inr a=>a
def ZR:Int×X5->X1 (X5):=λ(a,b)=>bif 97<=a&&a<=122 then some true else some (!b&&(48<=a&&a<=57||DT a 46||DT a 45||DT a 95))
def A4P:Rd EU K5:=λa (b,c,d)=>bif d<c then(at? b d).bind λe=>(ZR (e.toNat,DT d 0)).bind λe=>bif !e then some (.inr false)else a (b,c,i64.wrap (d+1))else some (.inl ())
def vO:=E0 A4P fuel
def gK:DO->X1 (X5):=λa=>(vO (a,a.length,0)).bind λb=>match b with|.inl _=>some (!DU a [])|.inr a=>a
def A4Q:Rd (DZ×DZ×Int×Int) H0:=λa (b,c,d,e)=>bif e<d then(at? c e).bind λf=>(gK f.1).bind λg=>bif !g then some (.inr 8)else bif DU f.2 []then some (.inr 2)else(bif 0<e then at? b (i64.wrap (e-1))else some ([],[])).bind λg=>bif 0<e&&(Op.bytesLess f.1 g.1||DU f.1 g.1)then some (.inr 10)else a (b,c,d,i64.wrap (e+1))else some (.inl ())
def vP:=E0 A4Q fuel
def gL:KX (DO×DO)->X1 (Int):=λa=>(vP (a,a,a.length,0)).bind λa=>match a with|.inl _=>some 0|.inr a=>a
def A4R:Rd EU K5:=λa (b,c,d)=>bif d<c then(at? b d).bind λe=>(bif !((e.toNat:Int)<32)then at? b d else some 0).bind λf=>bif (e.toNat:Int)<32||DT f.toNat 127 then some (.inr true)else a (b,c,i64.wrap (d+1))else some (.inl ())
def vQ:=E0 A4R fuel
def ZS:DO->X1 (X5):=λa=>(vQ (a,a.length,0)).bind λa=>match a with|.inl _=>some false|.inr a=>a
def A4S:Rd ((KX DO)×Int×Int) H0:=λa (b,c,d)=>bif d<c then(at? b d).bind λe=>(ZS e).bind λe=>bif e then some (.inr 8)else a (b,c,i64.wrap (d+1))else some (.inl ())
def vR:=E0 A4S fuel
def A4T:Rd (DZ×Int×Int) H0:=λa (b,c,d)=>bif d<c then(at? b d).bind λe=>(ZS e.2).bind λe=>bif e then some (.inr 8)else a (b,c,i64.wrap (d+1))else some (.inl ())
def vS:=E0 A4T fuel
def MM:DO×DO×DO×DO×DZ×DO->X1 (Int):=λa=>(WG a.1).bind λb=>bif !DT b.2 0 then b.2 else(gJ a).bind λc=>bif c then some 3 else bif !DU a.2.1 []&&DT b.1.2.1 1||DU a.2.1 []&&DT b.1.2.1 3 then some 2 else(U2 a.2.1).bind λb=>(ZQ (b,false)).bind λb=>bif b then some 2 else(bif !DU a.2.2.1 []then strings_IndexByte (a.2.2.1,47)else some 0).bind λb=>bif DU a.2.2.1 []||0<=b then some 8 else(gL a.2.2.2.2.1).bind λb=>bif !DT b 0 then b else(U2 a.2.2.2.2.2).bind λb=>(ZQ (b,true)).bind λb=>bif b then some 2 else let b:=[a.2.1,a.2.2.1,a.2.2.2.1,a.2.2.2.2.2];(vR (b,b.length,0)).bind λb=>match b with|.inl _=>((vS (a.2.2.2.2.1,a.2.2.2.2.1.length,0)).bind λa=>match a with|.inl _=>some 0|.inr a=>a)|.inr a=>a
def ZT:Int->X1 (Int):=λa=>bif 48<=a&&a<=57 then some (i64.wrap (u8.wrap (a-48)))else bif 97<=a&&a<=102 then some (i64.wrap (i64.wrap (u8.wrap (a-97))+10))else bif 65<=a&&a<=70 then some (i64.wrap (i64.wrap (u8.wrap (a-65))+10))else some (-1)
def gM:Rd EU K5:=λa (b,c,d)=>bif d<c then(at? b d).bind λe=>(ZT e.toNat).bind λe=>(bif !(e<0)then at? b d else some 0).bind λf=>(bif !(e<0)&&65<=(f.toNat:Int)then at? b d else some 0).bind λg=>bif e<0||65<=(f.toNat:Int)&&(g.toNat:Int)<=70 then some (.inr false)else a (b,c,i64.wrap (d+1))else some (.inl ())
def A4U:=E0 gM fuel
def gN:DO×Int->X1 (X5):=λ(a,b)=>(A4U (a,a.length,0)).bind λc=>match c with|.inl _=>some (DT a.length b)|.inr a=>a
def vT:Int×X5->X1 (Int):=λ(a,b)=>bif b then some 16 else a
def gO:Rd (DZ×DZ×Int×Int) H0:=λa (b,c,d,e)=>bif e<d then(at? c e).bind λf=>(vT (64,DU f.1 [115,117,109,54,52])).bind λg=>bif !DU f.1 [115,104,97,50,53,54]&&!DU f.1 [115,117,109,54,52]then some (.inr 7)else(gN (f.2,g)).bind λg=>bif !g then some (.inr 2)else(bif 0<e then at? b (i64.wrap (e-1))else some ([],[])).bind λg=>bif 0<e&&(Op.bytesLess f.1 g.1||DU f.1 g.1)then some (.inr 10)else a (b,c,d,i64.wrap (e+1))else some (.inl ())
def A4V:=E0 gO fuel
def gP:KX (DO×DO)->X1 (Int):=λa=>bif 4<(a.length:Int)then some 3 else(A4V (a,a,a.length,0)).bind λa=>match a with|.inl _=>some 0|.inr a=>a
def gQ:Rd ((KX DO)×SE×(KX DO)×Int×Int) H0:=λa (b,c,d,e,f)=>bif f<e then(at? d f).bind λg=>(ZO (g,200)).bind λh=>bif !h then some (.inr 8)else(bif !c.1&&0<f then at? b (i64.wrap (f-1))else some []).bind λh=>bif !c.1&&0<f&&(Op.bytesLess g h||DU g h)then some (.inr 10)else a (b,c,d,e,i64.wrap (f+1))else some (.inl ())
def A4W:=E0 gQ fuel
def ZU:SE×(KX DO)->X1 (Int):=λ(a,b)=>bif 100<(b.length:Int)then some 3 else(A4W (b,a,b,b.length,0)).bind λa=>match a with|.inl _=>some 0|.inr a=>a
def gR:Rd (G_×Int×Int) (Sum G_ (Int)):=λa (b,c,d)=>bif d<c then(at? b.2.2.2.1 d).bind λe=>(bif !((e.toNat:Int)<32)then at? b.2.2.2.1 d else some 0).bind λf=>bif (e.toNat:Int)<32||126<(f.toNat:Int)then some (.inr 2)else a (b,c,i64.wrap (d+1))else some (.inl b)
def A4X:=E0 gR fuel
def gS:SE×G_->X1 (Int):=λ(a,b)=>(ZO (b.1,100)).bind λc=>bif !c then some 8 else(MM b.2.1).bind λc=>bif !DT c 0 then c else(gP b.2.2.1).bind λc=>bif !DT c 0 then c else(A4X (b,b.2.2.2.1.length,0)).bind λb=>match b with|.inl b=>bif !DU b.2.2.2.1 []then(vH b.2.2.2.1).bind λc=>bif !DT c.2.2 0 then c.2.2 else(ZU (a,b.2.2.2.2)).bind λc=>c else(ZU (a,b.2.2.2.2)).bind λa=>a|.inr a=>a
def WH:DO->X1 (X5):=λa=>some (!DU a a)
def M4:DO×DO->X1 (Int):=λ(a,b)=>(WH a).bind λc=>(WH b).bind λd=>bif c then bif d then some 0 else some (-1)else bif d then some 1 else bif Op.bytesLess a b then some (-1)else bif !(Op.bytesLess a b||DU a b)then some 1 else some 0
def gT:Int->X1 (X5):=λa=>some (!DT a a)
def QK:Int×Int->X1 (Int):=λ(a,b)=>(gT a).bind λc=>(gT b).bind λd=>bif c then bif d then some 0 else some (-1)else bif d then some 1 else bif a<b then some (-1)else bif b<a then some 1 else some 0
def gU:Rd (Int×(KX Int)×Int×Int) H0:=λa (b,c,d,e)=>bif e<d then(at? c e).bind λf=>bif !DT f b then some (.inr f)else a (b,c,d,i64.wrap (e+1))else some (.inl ())
def gV:=E0 gU fuel
def SF:KX Int->X1 (Int):=λa=>(gV (0,a,a.length,0)).bind λa=>match a with|.inl _=>some 0|.inr a=>a
def gW:GM×GM->X1 (Int):=λ(a,b)=>(M4 (a.1,b.1)).bind λc=>(M4 (a.2.1,b.2.1)).bind λd=>(QK (a.2.2,b.2.2)).bind λa=>(SF [c,d,a]).bind λa=>a
def gX:Rd ((KX GM)×SE×(KX GM)×Int×Int) H0:=λa (b,c,d,e,f)=>bif f<e then(at? d f).bind λg=>bif g.2.2<1||4<g.2.2 then some (.inr 9)else bif !(DY DU g.1 c.2).getD false||!(DY DU g.2.1 c.2).getD false then some (.inr 4)else bif DU g.1 g.2.1 then some (.inr 2)else(bif !c.1&&0<f then at? b (i64.wrap (f-1))else some ([],[],0)).bind λh=>(bif !c.1&&0<f then gW (h,g)else some 0).bind λg=>bif !c.1&&0<f&&0<=g then some (.inr 10)else a (b,c,d,e,i64.wrap (f+1))else some (.inl ())
def A4Y:=E0 gX fuel
def vU:SE×(KX GM)->X1 (Int):=λ(a,b)=>(A4Y (b,a,b,b.length,0)).bind λa=>match a with|.inl _=>some 0|.inr a=>a
def gY:Rd (SE×HH×(KX G_)×Int×Int) (Sum (SE×HH) (Int)):=λa (b,c,d,e,f)=>bif f<e then(at? d f).bind λg=>(gS ((b.1,b.2),g)).bind λh=>bif !DT h 0 then some (.inr h)else(bif !b.1&&0<f then at? c.2.2.2.1 (i64.wrap (f-1))else some ([],([],[],[],[],[],[]),[],[],[])).bind λh=>bif !b.1&&0<f&&(Op.bytesLess g.1 h.1||DU g.1 h.1)then some (.inr 10)else a ((b.1,EE DU g.1 true b.2),c,d,e,i64.wrap (f+1))else some (.inl ((b.1,b.2),c))
def A4Z:=E0 gY fuel
def vV:SE×HH->X1 (Int):=λ(a,b)=>(bif !DU b.1 []then ZN b.1 else some false).bind λc=>(bif !(DU b.1 []||!c)then ZN b.2.1 else some false).bind λd=>bif DU b.1 []||!c||!d then some 8 else bif 3000<(b.2.2.2.1.length:Int)||20000<(b.2.2.2.2.length:Int)then some 3 else(A4Z ((a.1,a.2),b,b.2.2.2.1,b.2.2.2.1.length,0)).bind λa=>match a with|.inl a=>bif !(DY DU a.2.2.2.1 a.1.2).getD false then some 4 else(vU ((a.1.1,a.1.2),a.2.2.2.2.2)).bind λa=>a|.inr a=>a
def U3:DO×DO×DO×(KX G_)×(KX GM)->X1 (Int):=λa=>(vV ((false,[]),a)).bind λa=>a
def A4_:Rd EU K5:=λa (b,c,d)=>bif d<c then(at? b d).bind λe=>bif !(97<=(e.toNat:Int)&&(e.toNat:Int)<=122||65<=(e.toNat:Int)&&(e.toNat:Int)<=90||48<=(e.toNat:Int)&&(e.toNat:Int)<=57||DT e.toNat 46||DT e.toNat 45||DT e.toNat 95)then some (.inr false)else a (b,c,i64.wrap (d+1))else some (.inl ())
def vW:=E0 A4_ fuel
def WI:DO->X1 (X5):=λa=>(vW (a,a.length,0)).bind λb=>match b with|.inl _=>some (!DU a []&&(a.length:Int)<=60)|.inr a=>a
def A4a:Rd (GX×(KX DO)×Int×Int) H0:=λa (b,c,d,e)=>bif e<d then(at? c e).bind λf=>(WI f).bind λg=>bif !g then some (.inr 8)else bif DU f b.1 then some (.inr 5)else(bif 0<e then at? b.2.1 (i64.wrap (e-1))else some []).bind λg=>bif 0<e&&(Op.bytesLess f g||DU f g)then some (.inr 10)else a (b,c,d,i64.wrap (e+1))else some (.inl ())
def vX:=E0 A4a fuel
def gZ:DO×(KX DO)×DO×Int×X5×DO×(KX GW)->X1 (Int):=λa=>bif 20<(a.2.1.length:Int)then some 3 else(vX (a,a.2.1,a.2.1.length,0)).bind λa=>match a with|.inl _=>some 0|.inr a=>a
def g_:Unit->X1 (KX I6):=λ_=>let a:=EE DT 76 22 (EE DT 72 56 []);some [EE DT 80 20 (EE DT 76 55 (EE DT 65 62 (EE DT 78 85 []))),EE DT 72 44 (EE DT 76 77 []),EE DT 72 27 (EE DT 76 62 (EE DT 78 85 [])),EE DT 78 0 a,EE DT 78 0 a,EE DT 78 0 a]
def vY:Rd (DO×(KX Int)×(KX I6)×Int) (Sum (KX Int) (Int×Int)):=λa (b,c,d,e)=>bif e<6 then(at? d e).bind λf=>(at? b e).bind λg=>bif !(DY DT g.toNat f).isSome then some (.inr (0,7))else(in? 6 e).bind λ_=>a (b,c.set e.toNat ((DY DT g.toNat f).getD 0),d,i64.wrap (e+1))else some (.inl c)
def hY:=E0 vY fuel
def U4:DO->X1 (Int×Int):=λa=>(g_ ()).bind λb=>bif !DT a.length 6 then some (0,2)else(hY (a,List.replicate 6 0,b,0)).bind λa=>match a with|.inl a=>let b:=i64.wrap (i64.wrap (i64.wrap (100-a.getD 3 0)*i64.wrap (100-a.getD 4 0))*i64.wrap (100-a.getD 5 0));bif DT (i64.wrap (1000000-b)) 0 then some (0,0)else(div? i64 (i64.wrap (i64.wrap (i64.wrap (10*i64.wrap (i64.wrap (642*i64.wrap (1000000-b))+i64.wrap (i64.wrap (i64.wrap (822*a.getD 0 0)*a.getD 1 0)*a.getD 2 0)))+100000000)-1)) 100000000).bind λa=>some (YL 100 a,0)|.inr a=>(a.1,a.2)
def A4b:Rd ((KX Int)×Int×Int) (KX Int):=λa (b,c,d)=>bif d<c then(in? b.length d).bind λ_=>bif 65<=b.getD d.toNat 0&&b.getD d.toNat 0<=90 then(in? b.length d).bind λ_=>a (b.set d.toNat (u8.wrap (u8.wrap (b.getD d.toNat 0+97)-65)),c,i64.wrap (d+1))else a (b,c,i64.wrap (d+1))else b
def vZ:=E0 A4b fuel
def U5:DO->X1 DO:=λa=>(vZ (FZ a,((FZ a).length:Int),0)).bind λa=>(cat? [] (IY a)).bind λa=>a
def NH:EU×Int->X1 EU:=λ(a,b)=>bif a.2.2<0 then(a.1,a.2.1,b)else a
def LG:X1 EU->X1 (Int):=λa=>(a).bind λb=>(a).bind λc=>bif b.2.1<c.1.length then(a).bind λb=>(a).bind λa=>(at? b.1 a.2.1).bind λa=>some a.toNat else some 0
def ZV:Int->X1 (X5):=λa=>some (97<=a&&a<=122||65<=a&&a<=90)
def A4c:Rd (EU×Int) (Sum EU (EU×DO)):=λa (b,c)=>bif c<4 then(bif !(b.1.length<=c)then cut? b.1 c (i64.wrap (c+1))else some []).bind λd=>(bif !(b.1.length<=c)then U5 d else some []).bind λd=>(bif !(b.1.length<=c)then cut? [112,107,103,58] c (i64.wrap (c+1))else some []).bind λe=>bif b.1.length<=c||!DU d e then(NH (b,c)).bind λd=>some (.inr (d,[]))else a (b,i64.wrap (c+1))else some (.inl b)
def v_:=E0 A4c fuel
def A4d:Rd EU EU:=λa b=>(bif b.2.1<b.1.length then at? b.1 b.2.1 else some 0).bind λc=>(bif b.2.1<b.1.length then ZV c.toNat else some false).bind λc=>bif b.2.1<b.1.length&&c then a (b.1,i64.wrap (b.2.1+1),b.2.2)else b
def w9:=E0 A4d fuel
def hZ:EU×X5->X1 EU:=λ(a,b)=>bif b then some (a.1,i64.wrap (a.2.1+1),a.2.2)else(w9 a).bind λa=>a
def ZW:EU×X5->X1 (DO×EU):=λ(a,b)=>(v_ (a,0)).bind λa=>match a with|.inl a=>(bif b then LG (some (a.1,4,a.2.2))else some 0).bind λc=>(hZ ((a.1,4,a.2.2),b&&DT c 42)).bind λa=>(cut? a.1 4 a.2.1).bind λb=>(bif !DU b []then LG (some a)else some 0).bind λc=>bif DU b []||!DT c 47 then(NH (a,a.2.1)).bind λc=>some ([],c)else(U5 b).bind λb=>some (b,a.1,i64.wrap (a.2.1+1),a.2.2)|.inr a=>(a.2,a.1)
def iA:EU×Int×Int×X5->X1 (EU×Int):=λ(a,b,c,d)=>bif d then(at? a.1 (i64.wrap (a.2.1+b))).bind λb=>(ZT b.toNat).bind λb=>(a,b)else(a,c)
def A4e:Rd (EU×Int×Int) (Sum (EU×Int) (EU×Int×X5)):=λa (b,c,d)=>bif d<=2 then(iA (b,d,-1,i64.wrap (b.2.1+d)<b.1.length)).bind λe=>bif e.2<0 then(NH (e.1,i64.wrap (e.1.2.1+d))).bind λf=>some (.inr (f,0,false))else a (e.1,i64.wrap (i64.wrap (16*c)+e.2),i64.wrap (d+1))else some (.inl (b,c))
def wA:=E0 A4e fuel
def ZX:DO×Int×Int->X1 (Int×X5×EU):=λa=>bif a.1.length<=a.2.1 then some (0,false,a)else(at? a.1 a.2.1).bind λb=>bif !DT b.toNat 37 then let c:=((b.toNat:Int)<33||126<(b.toNat:Int));(bif !c then strings_IndexByte ([47,64,63,35,38,61],b.toNat)else some 0).bind λd=>bif c||0<=d then some (0,false,a)else some (b.toNat,true,a.1,i64.wrap (a.2.1+1),a.2.2)else(wA (a,0,1)).bind λa=>match a with|.inl a=>some (u8.wrap a.2,true,a.1.1,i64.wrap (a.1.2.1+3),a.1.2.2)|.inr a=>(a.2.1,a.2.2,a.1)
def A4f:Rd (EU×(KX Int)) (EU×(KX Int)):=λa (b,c)=>bif b.2.2<0 then(ZX b).bind λd=>bif !d.2.1 then(d.2.2,c)else(app? 24 c [d.1]).bind λe=>a (d.2.2,e)else(b,c)
def wB:=E0 A4f fuel
def U6:DO×Int×Int->X1 (DO×EU):=λa=>(wB (a,[])).bind λa=>bif DT a.2.length 0 then(NH (a.1,a.1.2.1)).bind λb=>(cat? [] (IY a.2)).bind λc=>(c,b)else(cat? [] (IY a.2)).bind λb=>(b,a.1)
def A4g:Rd (EU×(KX DO)) (EU×(KX DO)):=λa (b,c)=>(bif b.2.2<0 then LG (some b)else some 0).bind λd=>bif b.2.2<0&&DT d 47 then(U6 (b.1,i64.wrap (b.2.1+1),b.2.2)).bind λd=>(app? 24 c [d.1]).bind λe=>a (d.2,e)else(b,c)
def wC:=E0 A4g fuel
def ZY:DO×Int×Int->X1 ((KX DO)×EU):=λa=>(U6 a).bind λa=>(wC (a.2,[a.1])).bind λa=>(a.2,a.1)
def A4h:Rd (EU×Int) EU:=λa (b,c)=>(bif b.2.1<b.1.length then at? b.1 b.2.1 else some 0).bind λd=>(bif b.2.1<b.1.length then ZR (d.toNat,DT b.2.1 c)else some false).bind λd=>bif b.2.1<b.1.length&&d then a ((b.1,i64.wrap (b.2.1+1),b.2.2),c)else b
def wD:=E0 A4h fuel
def iB:DO×Int×Int->X1 ((DO×DO)×EU):=λa=>(wD (a,a.2.1)).bind λb=>(cut? b.1 a.2.1 b.2.1).bind λa=>(bif !DU a []then LG (some b)else some 0).bind λc=>bif DU a []||!DT c 61 then(NH (b,b.2.1)).bind λc=>some (([],[]),c)else(U6 (b.1,i64.wrap (b.2.1+1),b.2.2)).bind λb=>some ((a,b.1),b.2)
def iC:EU×IN×X5->X1 (EU×IN):=λ(a,b,c)=>bif c then(U6 (a.1,i64.wrap (a.2.1+1),a.2.2)).bind λc=>(c.2,b.1,b.2.1,b.2.2.1,c.1,b.2.2.2.2.1,b.2.2.2.2.2)else(a,b.1,b.2.1,b.2.2.1,b.2.2.2.1,b.2.2.2.2.1,b.2.2.2.2.2)
def A4i:Rd (EU×IN×Int) (EU×IN):=λa (b,c,d)=>let e:=(b.2.2<0&&b.2.1<b.1.length);(bif e then LG (some b)else some 0).bind λf=>bif e&&DT f d then(iB (b.1,i64.wrap (b.2.1+1),b.2.2)).bind λd=>(app? 48 c.2.2.2.2.1 [d.1]).bind λe=>a (d.2,(c.1,c.2.1,c.2.2.1,c.2.2.2.1,e,c.2.2.2.2.2),38)else(b,c.1,c.2.1,c.2.2.1,c.2.2.2.1,c.2.2.2.2.1,c.2.2.2.2.2)
def wE:=E0 A4i fuel
def iD:EU×IN×X5->X1 (EU×IN):=λ(a,b,c)=>bif c then(ZY (a.1,i64.wrap (a.2.1+1),a.2.2)).bind λc=>(strings_Join (c.1,[47])).bind λd=>(c.2,b.1,b.2.1,b.2.2.1,b.2.2.2.1,b.2.2.2.2.1,d)else(a,b.1,b.2.1,b.2.2.1,b.2.2.2.1,b.2.2.2.2.1,b.2.2.2.2.2)
def iE:DO×Int×Int->X1 (IN×EU):=λa=>(ZW (a,false)).bind λa=>bif 0<=a.2.2.2 then some ((a.1,[],[],[],[],[]),a.2)else(ZY a.2).bind λb=>(cut? b.1 0 (i64.wrap (b.1.length-1))).bind λc=>(strings_Join (c,[47])).bind λc=>(at? b.1 (i64.wrap (b.1.length-1))).bind λd=>(bif b.2.2.2<0 then LG (some b.2)else some 0).bind λe=>(iC (b.2,(a.1,c,d,[],[],[]),(b.2.2.2<0)&&DT e 64)).bind λa=>(wE (a.1,(a.2.1,a.2.2.1,a.2.2.2.1,a.2.2.2.2.1,a.2.2.2.2.2.1,a.2.2.2.2.2.2),63)).bind λa=>(bif a.1.2.2<0 then LG (some a.1)else some 0).bind λb=>(iD (a.1,(a.2.1,a.2.2.1,a.2.2.2.1,a.2.2.2.2.1,a.2.2.2.2.2.1,a.2.2.2.2.2.2),(a.1.2.2<0)&&DT b 35)).bind λa=>bif a.1.2.2<0&&a.1.2.1<a.1.1.length then(NH (a.1,a.1.2.1)).bind λb=>some ((a.2.1,a.2.2.1,a.2.2.2.1,a.2.2.2.2.1,a.2.2.2.2.2.1,a.2.2.2.2.2.2),b)else some ((a.2.1,a.2.2.1,a.2.2.2.1,a.2.2.2.2.1,a.2.2.2.2.2.1,a.2.2.2.2.2.2),a.1)
def A4j:Rd (DZ×Int×FP×Int) DZ:=λa (b,c,d,e)=>(bif c<e then in? b.length e else some ()).bind λ_=>(bif c<e then in? b.length (i64.wrap (e-1))else some ()).bind λ_=>(bif c<e then d (b.getD e.toNat ([],[]),b.getD ((i64.wrap (e-1)).toNat) ([],[]))else some 0).bind λf=>bif c<e&&f<0 then(in? b.length (i64.wrap (e-1))).bind λ_=>let f:=b.getD ((i64.wrap (e-1)).toNat) ([],[]);(in? b.length e).bind λ_=>(in? b.length e).bind λ_=>(in? (b.set e.toNat f).length (i64.wrap (e-1))).bind λ_=>a ((b.set e.toNat f).set ((i64.wrap (e-1)).toNat) (b.getD e.toNat ([],[])),c,d,i64.wrap (e-1))else b
def wF:=E0 A4j fuel
def A4k:Rd (DZ×Int×Int×FP×Int) DZ:=λa (b,c,d,e,f)=>bif f<d then(wF (b,c,e,f)).bind λg=>a (g,c,d,e,i64.wrap (f+1))else b
def wG:=E0 A4k fuel
def ZZ:DZ×Int×Int×FP->X1 DZ:=λ(a,b,c,d)=>(wG (a,b,c,d,i64.wrap (b+1))).bind λa=>a
def A4l:Rd (DZ×Int×Int×Int×Int) DZ:=λa (b,c,d,e,f)=>bif f<e then(in? b.length (i64.wrap (d+f))).bind λ_=>let g:=b.getD ((i64.wrap (d+f)).toNat) ([],[]);(in? b.length (i64.wrap (c+f))).bind λ_=>(in? b.length (i64.wrap (c+f))).bind λ_=>(in? (b.set ((i64.wrap (c+f)).toNat) g).length (i64.wrap (d+f))).bind λ_=>a ((b.set ((i64.wrap (c+f)).toNat) g).set ((i64.wrap (d+f)).toNat) (b.getD ((i64.wrap (c+f)).toNat) ([],[])),c,d,e,i64.wrap (f+1))else b
def wH:=E0 A4l fuel
def WJ:DZ×Int×Int×Int×FP->X1 DZ:=λ(a,b,c,d,_)=>(wH (a,b,c,d,0)).bind λa=>a
def A4m:Rd (DZ×Int×FP×Int×Int) (DZ×Int):=λa (b,c,d,e,f)=>bif !DT e f then bif f<e then(WJ (b,i64.wrap (c-e),c,f,d)).bind λg=>a (g,c,d,i64.wrap (e-f),f)else(WJ (b,i64.wrap (c-e),i64.wrap (i64.wrap (c+f)-e),e,d)).bind λg=>a (g,c,d,e,i64.wrap (f-e))else(b,e)
def wI:=E0 A4m fuel
def iF:DZ×Int×Int×Int×FP->X1 DZ:=λ(a,b,c,d,e)=>(wI (a,c,e,i64.wrap (c-b),i64.wrap (d-c))).bind λa=>(WJ (a.1,i64.wrap (c-a.2),c,a.2,e)).bind λa=>a
def A4n(slf:DZ×Int×Int×Int×FP->X1 DZ)(a:DZ×Int×FP×Int×Int->X1 (DZ×Int)):DZ×Int×FP×Int×Int->X1 (DZ×Int):=λ(b,c,d,e,f)=>bif e<f then(shr? u64 (u64.wrap (i64.wrap (e+f))) 1).bind λg=>(in? b.length (i64.wrap g)).bind λ_=>(in? b.length c).bind λ_=>(d (b.getD ((i64.wrap g).toNat) ([],[]),b.getD c.toNat ([],[]))).bind λh=>bif h<0 then a (b,c,d,i64.wrap (i64.wrap g+1),f)else a (b,c,d,e,i64.wrap g)else(b,e)
def wJ(slf:DZ×Int×Int×Int×FP->X1 DZ):DZ×Int×FP×Int×Int->X1 (DZ×Int):=E0 (A4n slf) fuel
def A4o(slf:DZ×Int×Int×Int×FP->X1 DZ)(a:DZ×Int×Int->X1 DZ):DZ×Int×Int->X1 DZ:=λ(b,c,d)=>bif d<i64.wrap (c-1)then(in? b.length (i64.wrap (d+1))).bind λ_=>let e:=b.getD ((i64.wrap (d+1)).toNat) ([],[]);(in? b.length d).bind λ_=>(in? b.length d).bind λ_=>(in? (b.set d.toNat e).length (i64.wrap (d+1))).bind λ_=>a ((b.set d.toNat e).set ((i64.wrap (d+1)).toNat) (b.getD d.toNat ([],[])),c,i64.wrap (d+1))else b
def wK(slf:DZ×Int×Int×Int×FP->X1 DZ):DZ×Int×Int->X1 DZ:=E0 (A4o slf) fuel
def A4p(slf:DZ×Int×Int×Int×FP->X1 DZ)(a:DZ×Int×FP×Int×Int->X1 (DZ×Int)):DZ×Int×FP×Int×Int->X1 (DZ×Int):=λ(b,c,d,e,f)=>bif e<f then(shr? u64 (u64.wrap (i64.wrap (e+f))) 1).bind λg=>(in? b.length c).bind λ_=>(in? b.length (i64.wrap g)).bind λ_=>(d (b.getD c.toNat ([],[]),b.getD ((i64.wrap g).toNat) ([],[]))).bind λh=>bif !(h<0)then a (b,c,d,i64.wrap (i64.wrap g+1),f)else a (b,c,d,e,i64.wrap g)else(b,e)
def wL(slf:DZ×Int×Int×Int×FP->X1 DZ):DZ×Int×FP×Int×Int->X1 (DZ×Int):=E0 (A4p slf) fuel
def A4q(slf:DZ×Int×Int×Int×FP->X1 DZ)(a:DZ×Int×Int->X1 DZ):DZ×Int×Int->X1 DZ:=λ(b,c,d)=>bif c<d then(in? b.length (i64.wrap (d-1))).bind λ_=>let e:=b.getD ((i64.wrap (d-1)).toNat) ([],[]);(in? b.length d).bind λ_=>(in? b.length d).bind λ_=>(in? (b.set d.toNat e).length (i64.wrap (d-1))).bind λ_=>a ((b.set d.toNat e).set ((i64.wrap (d-1)).toNat) (b.getD d.toNat ([],[])),c,i64.wrap (d-1))else b
def wM(slf:DZ×Int×Int×Int×FP->X1 DZ):DZ×Int×Int->X1 DZ:=E0 (A4q slf) fuel
def iG(slf:DZ×Int×Int×Int×FP->X1 DZ):Int×Int×Int×Int×Int×X5->X1 (Int×Int):=λ(a,b,c,d,e,f)=>bif f then some (i64.wrap (e-c),d)else(a,b)
def A4r(slf:DZ×Int×Int×Int×FP->X1 DZ)(a:DZ×FP×Int×Int×Int->X1 (DZ×Int)):DZ×FP×Int×Int×Int->X1 (DZ×Int):=λ(b,c,d,e,f)=>bif d<e then(shr? u64 (u64.wrap (i64.wrap (d+e))) 1).bind λg=>(in? b.length (i64.wrap (f-i64.wrap g))).bind λ_=>(in? b.length (i64.wrap g)).bind λ_=>(c (b.getD ((i64.wrap (f-i64.wrap g)).toNat) ([],[]),b.getD ((i64.wrap g).toNat) ([],[]))).bind λh=>bif !(h<0)then a (b,c,i64.wrap (i64.wrap g+1),e,f)else a (b,c,d,i64.wrap g,f)else(b,d)
def wN(slf:DZ×Int×Int×Int×FP->X1 DZ):DZ×FP×Int×Int×Int->X1 (DZ×Int):=E0 (A4r slf) fuel
def iH(slf:DZ×Int×Int×Int×FP->X1 DZ):DZ×Int×FP×Int×Int×X5->X1 DZ:=λ(a,b,c,d,e,f)=>bif f then(iF (a,d,b,e,c)).bind λb=>b else a
def iI(slf:DZ×Int×Int×Int×FP->X1 DZ):DZ×Int×FP×Int×Int×X5->X1 DZ:=λ(a,b,c,d,e,f)=>bif f then(slf (a,b,e,d,c)).bind λb=>b else a
def wO(slf:DZ×Int×Int×Int×FP->X1 DZ):DZ×Int×Int×Int×FP->X1 DZ:=λ(a,b,c,d,e)=>bif DT (i64.wrap (c-b)) 1 then(wJ slf (a,b,e,c,d)).bind λf=>(wK slf (f.1,f.2,b)).bind λf=>f else bif DT (i64.wrap (d-c)) 1 then(wL slf (a,c,e,b,c)).bind λf=>(wM slf (f.1,f.2,c)).bind λf=>f else(shr? u64 (u64.wrap (i64.wrap (b+d))) 1).bind λf=>(iG slf (b,c,d,i64.wrap f,i64.wrap (i64.wrap f+c),i64.wrap f<c)).bind λg=>(wN slf (a,e,g.1,g.2,i64.wrap (i64.wrap (i64.wrap f+c)-1))).bind λa=>let g:=i64.wrap (i64.wrap (i64.wrap f+c)-a.2);(iH slf (a.1,c,e,a.2,g,(a.2<c)&&c<g)).bind λc=>(iI slf (c,b,e,i64.wrap f,a.2,(b<a.2)&&a.2<i64.wrap f)).bind λa=>bif i64.wrap f<g&&g<d then(slf (a,i64.wrap f,g,d,e)).bind λb=>b else a
def MN:Nat->DZ×Int×Int×Int×FP->X1 DZ
 |0=>λ_=>none
 |n+1=>wO (MN n)
def Z_:DZ×Int×Int×Int×FP->X1 DZ:=MN 100
def A4s:Rd (DZ×Int×FP×Int×Int×Int) (DZ×Int):=λa (b,c,d,e,f,g)=>bif g<=c then(ZZ (b,f,g,d)).bind λh=>a (h,c,d,e,g,i64.wrap (g+e))else(b,f)
def wP:=E0 A4s fuel
def A4t:Rd (DZ×Int×FP×Int×Int×Int) (DZ×Int):=λa (b,c,d,e,f,g)=>bif g<=c then(Z_ (b,f,i64.wrap (f+e),g,d)).bind λh=>a (h,c,d,e,g,i64.wrap (g+i64.wrap (2*e)))else(b,f)
def wQ:=E0 A4t fuel
def A4u:Rd (DZ×Int×FP×Int) DZ:=λa (b,c,d,e)=>bif e<c then(wQ (b,c,d,e,0,i64.wrap (2*e))).bind λf=>bif i64.wrap (f.2+e)<c then(Z_ (f.1,f.2,i64.wrap (f.2+e),c,d)).bind λg=>a (g,c,d,i64.wrap (e*2))else a (f.1,c,d,i64.wrap (e*2))else b
def wR:=E0 A4u fuel
def iJ:DZ×Int×FP->X1 DZ:=λ(a,b,c)=>(wP (a,b,c,20,0,20)).bind λa=>(ZZ (a.1,a.2,b,c)).bind λa=>(wR (a,b,c,20)).bind λa=>a
def iK:DZ×FP->X1 DZ:=λ(a,b)=>(iJ (a,a.length,b)).bind λa=>a
def iL:(DO×DO)×(DO×DO)->X1 (Int):=λ(a,b)=>(M4 (a.1,b.1)).bind λa=>a
def aA:Int->X1 (X5):=λa=>some (DT a 45||DT a 95||DT a 46)
def O_:(KX Int)×Int->X1 (Unit×(KX Int)):=λ(a,b)=>(gC a).bind λa=>(app? 24 a [b]).bind λa=>some ((),a)
def A4v:Rd (DO×(KX Int)×Int×Int) (KX Int):=λa (b,c,d,e)=>bif e<d then(at? b e).bind λf=>(aA f.toNat).bind λf=>bif !f then(at? b e).bind λf=>(O_ (c,f.toNat)).bind λf=>a (b,f.2,d,i64.wrap (e+1))else(bif !DT e 0 then at? b (i64.wrap (e-1))else some 0).bind λf=>(bif !DT e 0 then aA f.toNat else some false).bind λf=>bif DT e 0||!f then(O_ (c,45)).bind λf=>a (b,f.2,d,i64.wrap (e+1))else a (b,c,d,i64.wrap (e+1))else c
def wS:=E0 A4v fuel
def iM:DO->X1 DO:=λa=>(wS (a,[],a.length,0)).bind λa=>(QC a).bind λa=>a
def iN:JA×X5->X1 JA:=λ(a,b)=>bif b then(U5 a.2.1).bind λb=>(U5 a.2.2.1).bind λc=>(a.1,b,c,a.2.2.2)else a
def WK:DO×DO×DO×DO×DZ×DO->X1 JA:=λa=>(WG a.1).bind λb=>(iN (a,b.1.2.2.1)).bind λa=>bif b.1.2.2.2.1 then(iM a.2.2.1).bind λb=>(app? 48 [] a.2.2.2.2.1).bind λc=>(a.1,a.2.1,b,a.2.2.2.1,c,a.2.2.2.2.2)else(app? 48 [] a.2.2.2.2.1).bind λb=>(a.1,a.2.1,a.2.2.1,a.2.2.2.1,b,a.2.2.2.2.2)
def A4w:Rd (JA×IN×Int) (Sum (JA×IN) (JA×Int×Int)):=λa (b,c,d)=>bif d<c.2.2.2.2.1.length then(in? c.2.2.2.2.1.length d).bind λ_=>(in? c.2.2.2.2.1.length (i64.wrap (d-1))).bind λ_=>bif DU ((c.2.2.2.2.1.getD d.toNat ([],[])).1) ((c.2.2.2.2.1.getD ((i64.wrap (d-1)).toNat) ([],[])).1)then some (.inr (([],[],[],[],[],[]),0,5))else a (b,(c.1,c.2.1,c.2.2.1,c.2.2.2.1,c.2.2.2.2.1,c.2.2.2.2.2),i64.wrap (d+1))else some (.inl (b,c.1,c.2.1,c.2.2.1,c.2.2.2.1,c.2.2.2.2.1,c.2.2.2.2.2))
def wT:=E0 A4w fuel
def aB:DO->X1 (JA×Int×Int):=λa=>bif 3000<(a.length:Int)then some (([],[],[],[],[],[]),0,3)else(iE (a,0,-1)).bind λa=>bif 0<=a.2.2.2 then some (([],[],[],[],[],[]),a.2.2.2,6)else(iK (a.1.2.2.2.2.1,λx=>(iL x).bind λr=>r)).bind λb=>(wT (([],[],[],[],[],[]),(a.1.1,a.1.2.1,a.1.2.2.1,a.1.2.2.2.1,b,a.1.2.2.2.2.2),1)).bind λa=>match a with|.inl a=>(MM (a.2.1,a.2.2.1,a.2.2.2.1,a.2.2.2.2.1,a.2.2.2.2.2.1,a.2.2.2.2.2.2)).bind λb=>bif !DT b 0 then some (([],[],[],[],[],[]),0,b)else(WK (a.2.1,a.2.2.1,a.2.2.2.1,a.2.2.2.2.1,a.2.2.2.2.2.1,a.2.2.2.2.2.2)).bind λa=>some (a,0,0)|.inr a=>(a.1,a.2.1,a.2.2)
def SG:(KX Int)×DO->X1 (Int×Unit×(KX Int)):=λ(a,b)=>(gC a).bind λa=>(app? 24 a (FZ b)).bind λa=>some (b.length,(),a)
def A4x:Rd (DO×(KX Int)×Int×Int) (KX Int):=λa (b,c,d,e)=>bif e<d then(at? b e).bind λf=>(ZV f.toNat).bind λg=>let h:=(48<=(f.toNat:Int)&&(f.toNat:Int)<=57);(bif !(g||h)then strings_IndexByte ([46,45,95,126],f.toNat)else some 0).bind λi=>bif g||h||0<=i then(O_ (c,f.toNat)).bind λg=>a (b,g.2,d,i64.wrap (e+1))else(div? u8 f.toNat 16).bind λg=>(div? u8 f.toNat 16).bind λh=>(cut? [48,49,50,51,52,53,54,55,56,57,65,66,67,68,69,70] g (u8.wrap (h+1))).bind λg=>(cat? [37] g).bind λg=>(mod? f.toNat 16).bind λh=>(mod? f.toNat 16).bind λf=>(cut? [48,49,50,51,52,53,54,55,56,57,65,66,67,68,69,70] h (u8.wrap (f+1))).bind λf=>(cat? g f).bind λf=>(SG (c,f)).bind λf=>a (b,f.2.2,d,i64.wrap (e+1))else c
def wU:=E0 A4x fuel
def WL:DO->X1 DO:=λa=>(wU (a,[],a.length,0)).bind λa=>(QC a).bind λa=>a
def A4y:Rd ((KX DO)×(KX DO)×Int×Int) (KX DO):=λa (b,c,d,e)=>bif e<d then(at? c e).bind λf=>(WL f).bind λf=>(app? 24 b [f]).bind λf=>a (f,c,d,i64.wrap (e+1))else b
def wV:=E0 A4y fuel
def iO:DO->X1 DO:=λa=>(U2 a).bind λa=>(wV ([],a,a.length,0)).bind λa=>(strings_Join (a,[47])).bind λa=>a
def iP:DO×DO×DO×DO×DZ×DO->X1 DO:=λa=>(cat? [112,107,103,58] a.1).bind λb=>(cat? b [47]).bind λb=>bif !DU a.2.1 []then(iO a.2.1).bind λc=>(cat? c [47]).bind λc=>(cat? b c).bind λc=>(WL a.2.2.1).bind λd=>(cat? c d).bind λc=>c else(WL a.2.2.1).bind λa=>(cat? b a).bind λa=>a
def JV:DO×DO×DO×DO×DZ×DO->X1 (DO×Int):=λa=>(MM a).bind λb=>bif !DT b 0 then some ([],b)else(WK a).bind λa=>(iP a).bind λa=>some (a,0)
def iQ:DO->X1 (X5):=λa=>(aB a).bind λb=>bif !DT b.2.2 0 then some false else(JV b.1).bind λb=>some (DT b.2 0&&DU b.1 a)
def A4z:Rd (DO×Int×NF×Int) (Int):=λa (b,c,d,e)=>let f:=decide (i64.wrap (c+e)<b.length);(bif f then at? b (i64.wrap (c+e))else some 0).bind λg=>(bif f then d g.toNat else some false).bind λg=>bif f&&g then a (b,c,d,i64.wrap (e+1))else e
def wW:=E0 A4z fuel
def JB:DO×Int×NF->X1 (Int):=λ(a,b,c)=>(wW (a,b,c,0)).bind λa=>a
def H3:Int->X1 (X5):=λa=>some (48<=a&&a<=57)
def KL:DO->X1 (Int×X5):=λa=>let b:=(DU a []||18<(a.length:Int));(bif !b then JB (a,0,λx=>(H3 x).bind λr=>r)else some 0).bind λc=>bif b||!DT c a.length then some (0,false)else(gB a).bind λa=>some (a.1,true)
def U7:DO->X1 (Int×X5):=λa=>(bif 1<(a.length:Int)then at? a 0 else some 0).bind λb=>bif 1<(a.length:Int)&&DT b.toNat 48 then some (0,false)else(KL a).bind λa=>(a.1,a.2)
def NI:Int->X1 (X5):=λa=>some (65<=a&&a<=90||97<=a&&a<=122)
def iR:Int->X1 (X5):=λa=>(H3 a).bind λb=>(bif !b then NI a else some false).bind λc=>some (b||c||DT a 45)
def A50:Rd ((KX DO)×Int×Int) (Sum (Unit) ML):=λa (b,c,d)=>bif d<c then(at? b d).bind λe=>(bif !DU e []then JB (e,0,λx=>(iR x).bind λr=>r)else some 0).bind λf=>bif DU e []||!DT f e.length then some (.inr ([],false))else a (b,c,i64.wrap (d+1))else some (.inl ())
def wX:=E0 A50 fuel
def aC:DO->X1 ML:=λa=>(strings_Split (a,[46])).bind λa=>(wX (a,a.length,0)).bind λb=>match b with|.inl _=>some (a,true)|.inr a=>(a.1,a.2)
def A51:Rd ((KX DO)×Int×Int) (Sum (Unit) ML):=λa (b,c,d)=>bif d<c then(at? b d).bind λe=>(JB (e,0,λx=>(H3 x).bind λr=>r)).bind λf=>bif DT f e.length then(U7 e).bind λe=>bif !e.2 then some (.inr ([],false))else a (b,c,i64.wrap (d+1))else a (b,c,i64.wrap (d+1))else some (.inl ())
def wY:=E0 A51 fuel
def iS:DO->X1 ML:=λa=>(aC a).bind λa=>(wY (a.1,a.1.length,0)).bind λb=>match b with|.inl _=>(a.1,a.2)|.inr a=>(a.1,a.2)
def iT:DO->X1 ML:=λa=>(strings_Cut (a,[43])).bind λa=>(aC a.2.1).bind λb=>bif a.2.2&&!b.2 then some ([],false)else bif DU a.1 []then some ([],true)else(at? a.1 0).bind λb=>bif !DT b.toNat 45 then some ([],false)else(cut? a.1 1 a.1.length).bind λa=>(iS a).bind λa=>(a.1,a.2)
def iU:DO×Int×X5->X1 (Sum (Int) (HJ×X5)):=λ(a,b,c)=>bif c then(bif !(a.length<=b)then at? a b else some 0).bind λc=>bif a.length<=b||!DT c.toNat 46 then some (.inr (.inr (.inr (.inr (.inr (.inr ())))),false))else some (.inl (i64.wrap (b+1)))else some (.inl b)
def A52:Rd (DO×OA×Int×Int) (Sum (OA×Int) (HJ×X5)):=λa (b,c,d,e)=>bif e<3 then(iU (b,d,0<e)).bind λf=>match f with|.inl f=>(JB (b,f,λx=>(H3 x).bind λr=>r)).bind λg=>(cut? b f (i64.wrap (f+g))).bind λh=>(U7 h).bind λh=>bif !h.2 then some (.inr (.inr (.inr (.inr (.inr (.inr ())))),false))else(in? 3 e).bind λ_=>a (b,(c.1.set e.toNat h.1,c.2),i64.wrap (f+g),i64.wrap (e+1))|.inr a=>some (.inr (a.1,a.2))else some (.inl ((c.1,c.2),d))
def wZ:=E0 A52 fuel
def iV:DO->X1 (HJ×X5):=λa=>(wZ (a,(List.replicate 3 0,[]),0,0)).bind λb=>match b with|.inl b=>(cut? a b.2 a.length).bind λa=>(iT a).bind λa=>some (.inl (b.1.1,a.1),a.2)|.inr a=>(a.1,a.2)
def iW:Int->X1 (X5):=λa=>(H3 a).bind λb=>(bif !b then NI a else some false).bind λc=>(bif !(b||c)then strings_IndexByte ([46,43,126,45],a)else some 0).bind λa=>some (b||c||0<=a)
def A53:Rd (DO×Int) K5:=λa (b,c)=>bif c<b.length then(JB (b,c,λx=>(H3 x).bind λr=>r)).bind λd=>bif 18<d then some (.inr false)else a (b,i64.wrap (c+YM d 1))else some (.inl ())
def w_:=E0 A53 fuel
def iX:DO->X1 (X5):=λa=>(w_ (a,0)).bind λa=>match a with|.inl _=>some true|.inr a=>a
def iY:DO×NE×DO×DO×X5->X1 (Sum (DO×NE) (HJ×X5)):=λ(a,b,c,d,e)=>bif e then(U7 c).bind λc=>bif !c.2 then some (.inr (.inr (.inr (.inr (.inr (.inr ())))),false))else some (.inl (d,c.1,b.2))else some (.inl (a,b))
def iZ:DO->X1 (HJ×X5):=λa=>(strings_Cut (a,[58])).bind λb=>(iY (a,(0,[],[],false),b.1,b.2.1,b.2.2)).bind λa=>match a with|.inl a=>(bif !DU a.1 []then at? a.1 0 else some 0).bind λb=>(bif !DU a.1 []then H3 b.toNat else some false).bind λb=>(bif !(DU a.1 []||!b)then JB (a.1,0,λx=>(iW x).bind λr=>r)else some 0).bind λc=>let d:=(DU a.1 []||!b||!DT c a.1.length);(bif !d then iX a.1 else some false).bind λb=>bif d||!b then some (.inr (.inr (.inr (.inr (.inr ())))),false)else(strings_LastIndexByte (a.1,45)).bind λb=>bif 0<=b then(cut? a.1 0 b).bind λc=>(cut? a.1 (i64.wrap (b+1)) a.1.length).bind λb=>bif DU b []then some (.inr (.inr (.inr (.inr (.inr ())))),false)else(strings_IndexByte (c,45)).bind λd=>some (.inr (.inl (a.2.1,c,b,0<=d)),true)else(strings_IndexByte (a.1,45)).bind λb=>some (.inr (.inl (a.2.1,a.1,a.2.2.2.1,0<=b)),true)|.inr a=>(a.1,a.2)
def A54:Rd (DO×(KX Int)) ((KX Int)×DO×X5):=λa (b,c)=>(JB (b,0,λx=>(H3 x).bind λr=>r)).bind λd=>(cut? b 0 d).bind λe=>(KL e).bind λe=>bif !e.2 then some ([],[],false)else(app? 24 c [e.1]).bind λc=>(cut? b d b.length).bind λb=>(bif !((b.length:Int)<2)then at? b 0 else some 0).bind λd=>let e:=((b.length:Int)<2||!DT d.toNat 46);(bif !e then at? b 1 else some 0).bind λd=>(bif !e then H3 d.toNat else some false).bind λd=>bif e||!d then some (c,b,true)else(cut? b 1 b.length).bind λb=>a (b,c)
def x6:=E0 A54 fuel
def i_:DO->X1 ((KX Int)×DO×X5):=λa=>(x6 (a,[])).bind λa=>(a.1,a.2.1,a.2.2)
def x7:Int->X1 (X5):=λa=>some (DT a 46||DT a 45||DT a 95)
def aD:DO×NF->X1 (Int):=λ(a,b)=>(bif 1<(a.length:Int)then at? a 0 else some 0).bind λc=>(bif 1<(a.length:Int)then x7 c.toNat else some false).bind λc=>(bif 1<(a.length:Int)&&c then at? a 1 else some 0).bind λd=>(bif 1<(a.length:Int)&&c then b d.toNat else some false).bind λb=>bif 1<(a.length:Int)&&c&&b then some 1 else some 0
def A55:Rd (DO×DO×(KX DO)×Int×Int) DO:=λa (b,c,d,e,f)=>bif f<e then(at? d f).bind λg=>(strings_HasPrefix (b,g)).bind λh=>bif h then g else a (b,c,d,e,i64.wrap (f+1))else c
def x8:=E0 A55 fuel
def j7:DO×X5->X1 (X5):=λ(a,b)=>bif b then b else some (DU a [97,108,112,104,97])
def j8:DO×X5->X1 (X5):=λ(a,b)=>bif b then b else some (DU a [98,101,116,97])
def j9:DO×X5->X1 (X5):=λ(a,b)=>bif b then b else bif DU a [114,99]then some (DU a [114,99])else bif DU a [112,114,101]then some (DU a [112,114,101])else some (DU a [112,114,101,118,105,101,119])
def jA:DO->X1 EU:=λa=>let b:=[[112,114,101,118,105,101,119],[97,108,112,104,97],[98,101,116,97],[112,111,115,116],[112,114,101],[114,101,118],[100,101,118],[114,99],[97],[98],[99],[114]];(x8 (a,[],b,b.length,0)).bind λa=>bif DU a []then some ([],0,0)else(j7 (a,DU a [97])).bind λb=>bif b then some (a,1,1)else(j8 (a,DU a [98])).bind λb=>bif b then some (a,1,2)else(j9 (a,DU a [99])).bind λb=>bif b then some (a,1,3)else bif DU a [112,111,115,116]then bif DU a [112,111,115,116]then some (a,2,0)else some (a,3,0)else bif DU a [114,101,118]then bif DU a [114,101,118]then some (a,2,0)else some (a,3,0)else bif DU a [114]then some (a,2,0)else some (a,3,0)
def jB:DO×Int×Int×X5->X1 (Sum (DO×Int) (DO×X5)):=λ(a,b,c,d)=>bif d then(JB (a,c,λx=>(H3 x).bind λr=>r)).bind λd=>(cut? a c (i64.wrap (c+d))).bind λe=>(KL e).bind λe=>bif !e.2 then some (.inr ([],false))else(cut? a (i64.wrap (c+d)) a.length).bind λc=>some (.inl (c,e.1))else some (.inl (a,b))
def A56:Rd (GC×DO×Int) (GC×DO×X5):=λa (b,c,d)=>(aD (c,λx=>(NI x).bind λr=>r)).bind λe=>(cut? c e c.length).bind λe=>(jA e).bind λf=>bif DU f.1 []then some (b,c,true)else bif f.2.1<=d then some (b,[],false)else(cut? e f.1.length e.length).bind λc=>(aD (c,λx=>(H3 x).bind λr=>r)).bind λd=>(bif !(0<d)&&!DU c []then at? c 0 else some 0).bind λe=>(bif !(0<d)&&!DU c []then H3 e.toNat else some false).bind λe=>(jB (c,0,d,(0<d)||!DU c []&&e)).bind λc=>match c with|.inl c=>bif DT f.2.1 1 then a ((b.1,b.2.1,f.2.2,c.2,b.2.2.2.2),c.1,f.2.1)else bif DT f.2.1 2 then a ((b.1,b.2.1,b.2.2.1,b.2.2.2.1,c.2,b.2.2.2.2.2),c.1,f.2.1)else bif DT f.2.1 3 then a ((b.1,b.2.1,b.2.2.1,b.2.2.2.1,b.2.2.2.2.1,c.2,b.2.2.2.2.2.2),c.1,f.2.1)else a (b,c.1,f.2.1)|.inr a=>(b,a.1,a.2)
def x9:=E0 A56 fuel
def jC:GC×DO->X1 (DO×X5×GC):=λ(a,b)=>(x9 (a,b,0)).bind λa=>(a.2.1,a.2.2,a.1)
def xA:Int->X1 (X5):=λa=>some (DT a 46||DT a 45||DT a 95)
def jD:Int->X1 (X5):=λa=>(H3 a).bind λb=>(bif !b then NI a else some false).bind λa=>some (b||a)
def A57:Rd (Int×(KX DO)×Int×Int) (Sum (Int) ML):=λa (b,c,d,e)=>bif e<d then(at? c e).bind λf=>(JB (f,0,λx=>(H3 x).bind λr=>r)).bind λg=>(JB (f,0,λx=>(jD x).bind λr=>r)).bind λh=>bif !DT h f.length||DT g f.length&&18<g then some (.inr ([],false))else a (i64.wrap (b+f.length),c,d,i64.wrap (e+1))else some (.inl b)
def xB:=E0 A57 fuel
def jE:DO->X1 ML:=λa=>(WE (a,λx=>(xA x).bind λr=>r)).bind λb=>(xB (b.length,b,b.length,0)).bind λc=>match c with|.inl c=>some (b,(0<(b.length:Int))&&DT (i64.wrap (c-1)) a.length)|.inr a=>(a.1,a.2)
def jF:DO×GC×Int×X5->X1 (Sum (DO×GC) (HJ×X5)):=λ(a,b,c,d)=>bif d then(cut? a 0 c).bind λd=>(KL d).bind λd=>bif !d.2 then some (.inr (.inr (.inr (.inr (.inr (.inr ())))),false))else(cut? a (i64.wrap (c+1)) a.length).bind λc=>some (.inl (c,d.1,b.2))else some (.inl (a,b))
def jG:DO->X1 (HJ×X5):=λa=>(strings_TrimPrefix (a,[118])).bind λa=>(JB (a,0,λx=>(H3 x).bind λr=>r)).bind λb=>(bif b<a.length then at? a b else some 0).bind λc=>(jF (a,(0,[],0,0,-1,-1,[]),b,(b<a.length)&&DT c.toNat 33)).bind λa=>match a with|.inl a=>(i_ a.1).bind λb=>bif !b.2.2 then some (.inr (.inr (.inr (.inr (.inr ())))),false)else(jC ((a.2.1,b.1,a.2.2.2),b.2.1)).bind λa=>bif !a.2.1 then some (.inr (.inr (.inr (.inr (.inr ())))),false)else(strings_CutPrefix (a.1,[43])).bind λb=>bif b.2 then(jE b.1).bind λb=>some (.inr (.inr (.inl (a.2.2.1,a.2.2.2.1,a.2.2.2.2.1,a.2.2.2.2.2.1,a.2.2.2.2.2.2.1,a.2.2.2.2.2.2.2.1,b.1))),b.2)else some (.inr (.inr (.inl a.2.2)),DU a.1 [])|.inr a=>(a.1,a.2)
def jH:DO×X5->X1 DO:=λ(a,b)=>(ZM a).bind λa=>bif DU a [97]&&b then some [97,108,112,104,97]else bif DU a [98]&&b then some [98,101,116,97]else bif DU a [109]&&b then some [109,105,108,101,115,116,111,110,101]else bif DU a [99,114]then some [114,99]else bif DU a [102,105,110,97,108]||DU a [103,97]||DU a [114,101,108,101,97,115,101]then some []else a
def WM:X5×DO×Int->X1 (X5):=λa=>some (a.1&&DU a.2.1 []||!a.1&&DT a.2.2 0)
def jI:DO×Int×X5->X1 (Sum (Int) (HJ×X5)):=λ(a,b,c)=>bif c then let c:=DT b (i64.wrap (a.length-1));(bif !(DT b 0||c)then at? a (i64.wrap (b+1))else some 0).bind λd=>(bif !(DT b 0||c)then H3 d.toNat else some false).bind λd=>(bif !(DT b 0||c)&&!d then at? a (i64.wrap (b+1))else some 0).bind λa=>(bif !(DT b 0||c)&&!d then NI a.toNat else some false).bind λa=>bif DT b 0||c||!d&&!a then some (.inr (.inr (.inr (.inr (.inr (.inr ())))),false))else some (.inl (i64.wrap (b+1)))else some (.inl b)
def A58:Rd (DO×(KX GI)×Int) (Sum (KX GI) (HJ×X5)):=λa (b,c,d)=>bif d<b.length then(at? b d).bind λe=>(bif !DT e.toNat 46 then at? b d else some 0).bind λf=>(jI (b,d,DT e.toNat 46||DT f.toNat 45)).bind λd=>match d with|.inl d=>(JB (b,d,λx=>(H3 x).bind λr=>r)).bind λe=>bif 0<e then(cut? b d (i64.wrap (d+e))).bind λf=>(KL f).bind λf=>bif !f.2 then some (.inr (.inr (.inr (.inr (.inr (.inr ())))),false))else(app? 72 c [(false,[],f.1)]).bind λf=>a (b,f,i64.wrap (d+e))else(JB (b,d,λx=>(NI x).bind λr=>r)).bind λe=>bif DT e 0 then some (.inr (.inr (.inr (.inr (.inr (.inr ())))),false))else let f:=decide (i64.wrap (d+e)<b.length);(bif f then at? b (i64.wrap (d+e))else some 0).bind λg=>(bif f then H3 g.toNat else some false).bind λg=>(cut? b d (i64.wrap (d+e))).bind λh=>(jH (h,f&&g)).bind λf=>(app? 72 c [(true,f,0)]).bind λf=>a (b,f,i64.wrap (d+e))|.inr a=>some (.inr (a.1,a.2))else some (.inl c)
def xC:=E0 A58 fuel
def A59:Rd (KX GI) (KX GI):=λa b=>(bif 0<(b.length:Int)then at? b (i64.wrap (b.length-1))else some (false,[],0)).bind λc=>(bif 0<(b.length:Int)then WM c else some false).bind λc=>bif 0<(b.length:Int)&&c then(cut? b 0 (i64.wrap (b.length-1))).bind λc=>a c else b
def xD:=E0 A59 fuel
def jJ:DO->X1 (HJ×X5):=λa=>(xC (a,[],0)).bind λa=>match a with|.inl a=>(xD a).bind λa=>some (.inr (.inr (.inr (.inl a))),true)|.inr a=>(a.1,a.2)
def jK:DO->X1 (HJ×X5):=λa=>(U7 a).bind λa=>some (.inr (.inr (.inr (.inr (.inl a.1)))),a.2)
def KN:Int×DO->X1 (HJ×Int):=λ(a,b)=>bif a<1||5<a then some (.inr (.inr (.inr (.inr (.inr ())))),7)else bif DU b []||100<(b.length:Int)then some (.inr (.inr (.inr (.inr (.inr ())))),3)else bif DT a 1 then(iV b).bind λc=>bif !c.2 then some (.inr (.inr (.inr (.inr (.inr ())))),6)else some (c.1,0)else bif DT a 2 then(iZ b).bind λc=>bif !c.2 then some (.inr (.inr (.inr (.inr (.inr ())))),6)else some (c.1,0)else bif DT a 3 then(ZM b).bind λc=>(jG c).bind λc=>bif !c.2 then some (.inr (.inr (.inr (.inr (.inr ())))),6)else some (c.1,0)else bif DT a 4 then(jJ b).bind λc=>bif !c.2 then some (.inr (.inr (.inr (.inr (.inr ())))),6)else some (c.1,0)else bif DT a 5 then(jK b).bind λa=>bif !a.2 then some (.inr (.inr (.inr (.inr (.inr ())))),6)else some (a.1,0)else bif !false then some (.inr (.inr (.inr (.inr (.inr ())))),6)else some (.inr (.inr (.inr (.inr (.inr ())))),0)
def A5A:Rd ((KX DO)×(KX Int)×Int×Int) (KX DO):=λa (b,c,d,e)=>bif e<d then(at? c e).bind λf=>(strconv_Itoa f).bind λf=>(app? 24 b [f]).bind λf=>a (f,c,d,i64.wrap (e+1))else b
def xE:=E0 A5A fuel
def aF:KX Int->X1 DO:=λa=>(xE ([],a,a.length,0)).bind λa=>(strings_Join (a,[46])).bind λa=>a
def aG:(KX Int)×(KX DO)->X1 DO:=λa=>(cut? a.1 0 a.1.length).bind λb=>(aF b).bind λb=>bif 0<(a.2.length:Int)then(strings_Join (a.2,[46])).bind λa=>(cat? [45] a).bind λa=>(cat? b a).bind λa=>a else b
def A5B:Rd (DO×(KX Int)×Int) (KX Int):=λa (b,c,d)=>bif d<b.length then(JB (b,d,λx=>(H3 x).bind λr=>r)).bind λe=>bif DT e 0 then(at? b d).bind λf=>(O_ (c,f.toNat)).bind λf=>a (b,f.2,i64.wrap (d+1))else(cut? b d (i64.wrap (d+e))).bind λf=>(KL f).bind λf=>bif !DT f.1 0||i64.wrap (d+e)<b.length||DT e b.length then(strconv_Itoa f.1).bind λf=>(SG (c,f)).bind λf=>a (b,f.2.2,i64.wrap (d+e))else a (b,c,i64.wrap (d+e))else c
def xF:=E0 A5B fuel
def aH:DO->X1 DO:=λa=>(xF (a,[],0)).bind λa=>(QC a).bind λa=>a
def aI:Int×DO×DO×X5->X1 DO:=λa=>bif DU a.2.2.1 []then some [48]else a.2.2.1
def jL:Int->X1 (X5):=λa=>(H3 a).bind λa=>some (!a)
def A5C:Rd (DO×(KX Int)×Int×Int) (KX Int):=λa (b,c,d,e)=>bif e<d then(at? b e).bind λf=>bif DT f.toNat 126 then(O_ (c,1)).bind λf=>a (b,f.2,d,i64.wrap (e+1))else(at? b e).bind λf=>(NI f.toNat).bind λf=>bif f then(at? b e).bind λf=>(O_ (c,f.toNat)).bind λf=>a (b,f.2,d,i64.wrap (e+1))else(at? b e).bind λf=>(O_ (c,u8.wrap (f.toNat+128))).bind λf=>a (b,f.2,d,i64.wrap (e+1))else c
def xG:=E0 A5C fuel
def jM:DO->X1 DO:=λa=>(xG (a,[],a.length,0)).bind λa=>(QC a).bind λa=>(cat? a [2]).bind λa=>a
def KO:Int->X1 DO:=λa=>(strconv_Itoa a).bind λa=>(strings_Repeat ([48],i64.wrap (18-a.length))).bind λb=>(cat? b a).bind λa=>a
def A5D:Rd (DO×(KX Int)) (KX Int):=λa (b,c)=>bif !DU b []then(JB (b,0,λx=>(jL x).bind λr=>r)).bind λd=>(JB (b,d,λx=>(H3 x).bind λr=>r)).bind λe=>(cut? b d (i64.wrap (d+e))).bind λf=>(KL f).bind λf=>(cut? b 0 d).bind λg=>(jM g).bind λg=>(KO f.1).bind λf=>(cat? g f).bind λf=>(SG (c,f)).bind λf=>(cut? b (i64.wrap (d+e)) b.length).bind λb=>a (b,f.2.2)else c
def xH:=E0 A5D fuel
def U8:DO->X1 DO:=λa=>(xH (a,[])).bind λa=>(QC a).bind λa=>(cat? a [2]).bind λa=>a
def jN:NE×DO×X5->X1 (NE×DO):=λ(a,b,c)=>bif c then(strconv_Itoa a.1).bind λc=>(cat? c [58]).bind λc=>(cat? c b).bind λc=>(a,c)else(a,b)
def aJ:Int×DO×DO×X5->X1 DO:=λa=>(aH a.2.1).bind λb=>(jN (a,b,!DT a.1 0)).bind λa=>(aI a.1).bind λb=>(U8 b).bind λb=>(U8 [48]).bind λc=>bif !DU b c then(cat? a.2 [45]).bind λb=>(aH a.1.2.2.1).bind λc=>(cat? b c).bind λb=>b else bif a.1.2.2.2 then(cat? a.2 [45,48]).bind λb=>b else a.2
def A5E:Rd (KX Int) (KX Int):=λa b=>(bif 0<(b.length:Int)then at? b (i64.wrap (b.length-1))else some 0).bind λc=>bif 0<(b.length:Int)&&DT c 0 then(cut? b 0 (i64.wrap (b.length-1))).bind λc=>a c else b
def xI:=E0 A5E fuel
def aK:KX Int->X1 (KX Int):=λa=>(xI a).bind λa=>a
def jO:GC×DO×X5->X1 (GC×DO):=λ(a,b,c)=>bif c then(strconv_Itoa a.1).bind λc=>(cat? c [33]).bind λc=>(a,c)else(a,b)
def jP:DO×(KX Int)×X5->X1 DO:=λ(a,b,c)=>bif c then(aF b).bind λb=>(cat? a b).bind λb=>b else(cat? a [48]).bind λa=>a
def jQ:GC×DO×X5->X1 (GC×DO):=λ(a,b,c)=>bif c then(at? [[],[97],[98],[114,99]] a.2.2.1).bind λc=>(strconv_Itoa a.2.2.2.1).bind λd=>(cat? c d).bind λc=>(cat? b c).bind λc=>(a,c)else(a,b)
def jR:GC×DO×X5->X1 (GC×DO):=λ(a,b,c)=>bif c then(strconv_Itoa a.2.2.2.2.1).bind λc=>(cat? [46,112,111,115,116] c).bind λc=>(cat? b c).bind λc=>(a,c)else(a,b)
def jS:GC×DO×X5->X1 (GC×DO):=λ(a,b,c)=>bif c then(strconv_Itoa a.2.2.2.2.2.1).bind λc=>(cat? [46,100,101,118] c).bind λc=>(cat? b c).bind λc=>(a,c)else(a,b)
def jT:DO×Int×X5->X1 DO:=λ(a,b,c)=>bif c then(strconv_Itoa b).bind λb=>b else a
def A5F:Rd (DO×(KX DO)×Int×Int) DO:=λa (b,c,d,e)=>bif e<d then(at? c e).bind λf=>(KL f).bind λg=>(jT (f,g.1,g.2)).bind λf=>bif DT e 0 then(cat? [43] f).bind λg=>(cat? b g).bind λg=>a (g,c,d,i64.wrap (e+1))else(cat? [46] f).bind λf=>(cat? b f).bind λf=>a (f,c,d,i64.wrap (e+1))else b
def xJ:=E0 A5F fuel
def aL:Int×(KX Int)×Int×Int×Int×Int×(KX DO)->X1 DO:=λa=>(jO (a,[],!DT a.1 0)).bind λa=>(aK a.1.2.1).bind λb=>(jP (a.2,b,0<(b.length:Int))).bind λb=>(jQ (a.1,b,0<a.1.2.2.1)).bind λa=>(jR (a.1,a.2,0<=a.1.2.2.2.2.1)).bind λa=>(jS (a.1,a.2,0<=a.1.2.2.2.2.2.1)).bind λa=>(xJ (a.2,a.1.2.2.2.2.2.2,a.1.2.2.2.2.2.2.length,0)).bind λa=>a
def A5G:Rd ((KX DO)×(KX GI)×Int×Int) (KX DO):=λa (b,c,d,e)=>bif e<d then(at? c e).bind λf=>(WM f).bind λg=>bif g then(app? 24 b [[48]]).bind λg=>a (g,c,d,i64.wrap (e+1))else bif f.1 then(app? 24 b [f.2.1]).bind λg=>a (g,c,d,i64.wrap (e+1))else(strconv_Itoa f.2.2).bind λf=>(app? 24 b [f]).bind λf=>a (f,c,d,i64.wrap (e+1))else b
def xK:=E0 A5G fuel
def aM:KX GI->X1 DO:=λa=>(xK ([],a,a.length,0)).bind λa=>bif DT a.length 0 then some [48]else(strings_Join (a,[45])).bind λa=>a
def aN:Int->X1 DO:=λa=>(strconv_Itoa a).bind λa=>a
def jU:Sum OA (Sum NE (Sum GC (Sum (KX GI) (Sum Int Unit))))->X1 (DO×Int):=λa=>((λz=>Sum.casesOn (motive:=λ_=>X1 DO) z (λx=>(aG x).bind λr=>r) (λz=>z.casesOn (λx=>(aJ x).bind λr=>r) (λz=>z.casesOn (λx=>(aL x).bind λr=>r) (λz=>z.casesOn (λx=>(aM x).bind λr=>r) (λz=>z.casesOn (λx=>(aN x).bind λr=>r) (λ_=>none)))))) a).bind λa=>bif 100<(a.length:Int)then some ([],3)else some (a,0)
def U9:Int×DO->X1 (DO×Int):=λ(a,b)=>(KN (a,b)).bind λa=>bif !DT a.2 0 then some ([],a.2)else(jU a.1).bind λa=>(a.1,a.2)
def A5H:Rd (GW×JS×Int×Int) H0:=λa (b,c,d,e)=>bif e<d then(at? c e).bind λf=>bif f.1<1||3<f.1 then some (.inr 7)else bif DU f.2 []then bif !DT f.1 1 then some (.inr 2)else a (b,c,d,i64.wrap (e+1))else(U9 (b.2.1,f.2)).bind λf=>bif !DT f.2 0 then some (.inr f.2)else a (b,c,d,i64.wrap (e+1))else some (.inl ())
def xL:=E0 A5H fuel
def jV:DO×Int×JS×(KX DO)×(KX DO)->X1 (Int):=λa=>bif 100<(a.2.2.1.length:Int)then some 3 else(xL (a,a.2.2.1,a.2.2.1.length,0)).bind λa=>match a with|.inl _=>some 0|.inr a=>a
def A5I:Rd (DO×X5×Int×Int) (X5):=λa (b,c,d,e)=>bif e<d then(bif !c then at? b e else some 0).bind λf=>(bif !(c||(f.toNat:Int)<33)then at? b e else some 0).bind λg=>a (b,(c||(f.toNat:Int)<33)||(126<(g.toNat:Int)),d,i64.wrap (e+1))else c
def xM:=E0 A5I fuel
def A5J:Rd ((KX DO)×(KX DO)×Int×Int) H0:=λa (b,c,d,e)=>bif e<d then(at? c e).bind λf=>(xM (f,DU f []||(200<(f.length:Int)),f.length,0)).bind λg=>bif g then some (.inr 8)else(bif 0<e then at? b (i64.wrap (e-1))else some []).bind λg=>bif 0<e&&(Op.bytesLess f g||DU f g)then some (.inr 10)else a (b,c,d,i64.wrap (e+1))else some (.inl ())
def xN:=E0 A5J fuel
def jW:KX DO->X1 (Int):=λa=>bif 200<(a.length:Int)then some 3 else(xN (a,a,a.length,0)).bind λa=>match a with|.inl _=>some 0|.inr a=>a
def A5K:Rd (GW×(KX DO)×Int×Int) (Sum GW (Int)):=λa (b,c,d,e)=>bif e<d then(at? c e).bind λf=>(U9 (b.2.1,f)).bind λf=>bif !DT f.2 0 then some (.inr f.2)else a (b,c,d,i64.wrap (e+1))else some (.inl b)
def xO:=E0 A5K fuel
def jX:DO×Int×JS×(KX DO)×(KX DO)->X1 (Int):=λa=>(iQ a.1).bind λb=>bif !b then some 8 else bif a.2.1<1||5<a.2.1 then some 7 else(jV a).bind λb=>bif !DT b 0 then b else bif 500<(a.2.2.2.1.length:Int)then some 3 else(xO (a,a.2.2.2.1,a.2.2.2.1.length,0)).bind λa=>match a with|.inl a=>(jW a.2.2.2.2).bind λa=>a|.inr a=>a
def jY:Unit->X1 (KX Int):=λ_=>some [0,1,0,2]
def A5L:Rd ((Int->X1 DO)×(KX Int)×(KX Int)×Int×Int) (KX Int):=λa (b,c,d,e,f)=>bif f<e then(at? d f).bind λg=>(b g).bind λg=>(SG (c,g)).bind λg=>a (b,g.2.2,d,e,i64.wrap (f+1))else c
def xP:=E0 A5L fuel
def aO:(KX Int)×DO×(Int->X1 DO)->X1 DO:=λ(a,b,c)=>(xP (c,[],a,a.length,0)).bind λa=>(QC a).bind λa=>(cat? a b).bind λa=>a
def A5M:Rd ((DO->X1 DO)×(KX Int)×(KX DO)×Int×Int) (KX Int):=λa (b,c,d,e,f)=>bif f<e then(at? d f).bind λg=>(b g).bind λg=>(SG (c,g)).bind λg=>a (b,g.2.2,d,e,i64.wrap (f+1))else c
def xQ:=E0 A5M fuel
def aP:(KX DO)×DO×(DO->X1 DO)->X1 DO:=λ(a,b,c)=>(xQ (c,[],a,a.length,0)).bind λa=>(QC a).bind λa=>(cat? a b).bind λa=>a
def jZ:DO->X1 DO:=λa=>(KL a).bind λb=>bif b.2 then(KO b.1).bind λb=>(cat? [48] b).bind λb=>b else(cat? [49] a).bind λa=>(cat? a [32]).bind λa=>a
def QL:(KX Int)×(KX DO)->X1 DO:=λa=>(cut? a.1 0 a.1.length).bind λb=>(aO (b,[],λx=>(KO x).bind λr=>r)).bind λb=>bif DT a.2.length 0 then(cat? b [126]).bind λc=>c else(cat? b [33]).bind λb=>(aP (a.2,[33],λx=>(jZ x).bind λr=>r)).bind λa=>(cat? b a).bind λa=>a
def QN:Int×DO×DO×X5->X1 DO:=λa=>(KO a.1).bind λb=>(U8 a.2.1).bind λc=>(cat? b c).bind λb=>(aI a).bind λa=>(U8 a).bind λa=>(cat? b a).bind λa=>a
def j_:Int->X1 DO:=λa=>(KO a).bind λa=>(cat? [49] a).bind λa=>a
def k9:Int×(KX Int)×Int×Int×Int×Int×(KX DO)->X1 (Int):=λa=>bif 0<a.2.2.1 then a.2.2.1 else bif 0<=a.2.2.2.2.2.1&&a.2.2.2.2.1<0 then some 0 else some 4
def kA:Int->X1 DO:=λa=>bif a<0 then some [48]else(KO a).bind λa=>(cat? [49] a).bind λa=>a
def kB:DO->X1 DO:=λa=>(KL a).bind λb=>bif b.2 then(KO b.1).bind λb=>(cat? [50] b).bind λb=>b else(cat? [49] a).bind λa=>(cat? a [32]).bind λa=>a
def kC:GC×DO×X5->X1 (GC×DO):=λ(a,b,c)=>bif c then(KO a.2.2.2.2.2.1).bind λc=>(cat? [48] c).bind λc=>(cat? b c).bind λc=>(a,c)else(cat? b [49]).bind λb=>(a,b)
def QO:Int×(KX Int)×Int×Int×Int×Int×(KX DO)->X1 DO:=λa=>(KO a.1).bind λb=>(aK a.2.1).bind λc=>(aO (c,[48],λx=>(j_ x).bind λr=>r)).bind λc=>(cat? b c).bind λb=>(k9 a).bind λc=>(strconv_Itoa c).bind λc=>(KO a.2.2.2.1).bind λd=>(cat? c d).bind λc=>(kA a.2.2.2.2.1).bind λd=>(cat? c d).bind λc=>(cat? b c).bind λb=>(kC (a,b,0<=a.2.2.2.2.2.1)).bind λa=>bif DT a.1.2.2.2.2.2.2.length 0 then(cat? a.2 [48]).bind λb=>b else(cat? a.2 [49]).bind λb=>(aP (a.1.2.2.2.2.2.2,[48],λx=>(kB x).bind λr=>r)).bind λa=>(cat? b a).bind λa=>a
def aQ:Unit->X1 (KX DO):=λ_=>some [[97,108,112,104,97],[98,101,116,97],[109,105,108,101,115,116,111,110,101],[114,99],[115,110,97,112,115,104,111,116]]
def kD:Rd ((KX DO)×DO×Int×Int) H0:=λa (b,c,d,e)=>bif e<d then(at? b e).bind λf=>bif DU c f then some (.inr e)else a (b,c,d,i64.wrap (e+1))else some (.inl ())
def kE:=E0 kD fuel
def UA:(KX DO)×DO->X1 (Int):=λ(a,b)=>(kE (a,b,a.length,0)).bind λa=>match a with|.inl _=>some (-1)|.inr a=>a
def L1:(KX DO)×DO->X1 (X5):=λ(a,b)=>(UA (a,b)).bind λa=>some (0<=a)
def WN:X5×DO×Int->X1 (X5):=λa=>(bif a.1 then aQ ()else some []).bind λb=>(bif a.1 then L1 (b,a.2.1)else some false).bind λb=>some (a.1&&b)
def aR:X5×DO×Int->X1 DO:=λa=>bif !a.1 then(KO a.2.2).bind λb=>(cat? [56] b).bind λb=>b else(WN a).bind λb=>bif b then(aQ ()).bind λb=>(UA (b,a.2.1)).bind λb=>(strconv_Itoa b).bind λb=>b else bif DU a.2.1 [115,112]then some [54]else(cat? [55] a.2.1).bind λa=>(cat? a [32]).bind λa=>a
def A5N:Rd (DO×Int×(KX GI)×Int×Int) DO:=λa (b,c,d,e,f)=>bif f<e then(at? d f).bind λg=>(WM g).bind λh=>bif h then a (b,i64.wrap (c+1),d,e,i64.wrap (f+1))else(WN g).bind λh=>bif h then(strconv_Itoa (i64.wrap (100+c))).bind λh=>(cat? [49] h).bind λh=>(aR g).bind λi=>(cat? h i).bind λh=>(cat? b h).bind λh=>a (h,0,d,e,i64.wrap (f+1))else(strconv_Itoa (i64.wrap (900-c))).bind λc=>(cat? [51] c).bind λc=>(aR g).bind λg=>(cat? c g).bind λc=>(cat? b c).bind λc=>a (c,0,d,e,i64.wrap (f+1))else b
def xR:=E0 A5N fuel
def QP:KX GI->X1 DO:=λa=>(xR ([],0,a,a.length,0)).bind λa=>(cat? a [50]).bind λa=>a
def QQ:Int->X1 DO:=λa=>(KO a).bind λa=>a
def WO:Int×DO->X1 (DO×Int):=λ(a,b)=>(KN (a,b)).bind λa=>bif !DT a.2 0 then some ([],a.2)else((λz=>Sum.casesOn (motive:=λ_=>X1 DO) z (λx=>(QL x).bind λr=>r) (λz=>z.casesOn (λx=>(QN x).bind λr=>r) (λz=>z.casesOn (λx=>(QO x).bind λr=>r) (λz=>z.casesOn (λx=>(QP x).bind λr=>r) (λz=>z.casesOn (λx=>(QQ x).bind λr=>r) (λ_=>none)))))) a.1).bind λa=>some (a,0)
def A5O:Rd ((KX E1)×Int×FQ×Int) (KX E1):=λa (b,c,d,e)=>(bif c<e then in? b.length e else some ()).bind λ_=>(bif c<e then in? b.length (i64.wrap (e-1))else some ()).bind λ_=>(bif c<e then d (b.getD e.toNat (0,[],[],0),b.getD ((i64.wrap (e-1)).toNat) (0,[],[],0))else some 0).bind λf=>bif c<e&&f<0 then(in? b.length (i64.wrap (e-1))).bind λ_=>let f:=b.getD ((i64.wrap (e-1)).toNat) (0,[],[],0);(in? b.length e).bind λ_=>(in? b.length e).bind λ_=>(in? (b.set e.toNat f).length (i64.wrap (e-1))).bind λ_=>a ((b.set e.toNat f).set ((i64.wrap (e-1)).toNat) (b.getD e.toNat (0,[],[],0)),c,d,i64.wrap (e-1))else b
def xS:=E0 A5O fuel
def A5P:Rd ((KX E1)×Int×Int×FQ×Int) (KX E1):=λa (b,c,d,e,f)=>bif f<d then(xS (b,c,e,f)).bind λg=>a (g,c,d,e,i64.wrap (f+1))else b
def xT:=E0 A5P fuel
def aS:(KX E1)×Int×Int×FQ->X1 (KX E1):=λ(a,b,c,d)=>(xT (a,b,c,d,i64.wrap (b+1))).bind λa=>a
def A5Q:Rd ((KX E1)×Int×Int×Int×Int) (KX E1):=λa (b,c,d,e,f)=>bif f<e then(in? b.length (i64.wrap (d+f))).bind λ_=>let g:=b.getD ((i64.wrap (d+f)).toNat) (0,[],[],0);(in? b.length (i64.wrap (c+f))).bind λ_=>(in? b.length (i64.wrap (c+f))).bind λ_=>(in? (b.set ((i64.wrap (c+f)).toNat) g).length (i64.wrap (d+f))).bind λ_=>a ((b.set ((i64.wrap (c+f)).toNat) g).set ((i64.wrap (d+f)).toNat) (b.getD ((i64.wrap (c+f)).toNat) (0,[],[],0)),c,d,e,i64.wrap (f+1))else b
def xU:=E0 A5Q fuel
def WP:(KX E1)×Int×Int×Int×FQ->X1 (KX E1):=λ(a,b,c,d,_)=>(xU (a,b,c,d,0)).bind λa=>a
def A5R:Rd ((KX E1)×Int×FQ×Int×Int) NG:=λa (b,c,d,e,f)=>bif !DT e f then bif f<e then(WP (b,i64.wrap (c-e),c,f,d)).bind λg=>a (g,c,d,i64.wrap (e-f),f)else(WP (b,i64.wrap (c-e),i64.wrap (i64.wrap (c+f)-e),e,d)).bind λg=>a (g,c,d,e,i64.wrap (f-e))else(b,e)
def xV:=E0 A5R fuel
def kF:(KX E1)×Int×Int×Int×FQ->X1 (KX E1):=λ(a,b,c,d,e)=>(xV (a,c,e,i64.wrap (c-b),i64.wrap (d-c))).bind λa=>(WP (a.1,i64.wrap (c-a.2),c,a.2,e)).bind λa=>a
def A5S(slf:(KX E1)×Int×Int×Int×FQ->X1 (KX E1))(a:(KX E1)×Int×FQ×Int×Int->X1 NG):(KX E1)×Int×FQ×Int×Int->X1 NG:=λ(b,c,d,e,f)=>bif e<f then(shr? u64 (u64.wrap (i64.wrap (e+f))) 1).bind λg=>(in? b.length (i64.wrap g)).bind λ_=>(in? b.length c).bind λ_=>(d (b.getD ((i64.wrap g).toNat) (0,[],[],0),b.getD c.toNat (0,[],[],0))).bind λh=>bif h<0 then a (b,c,d,i64.wrap (i64.wrap g+1),f)else a (b,c,d,e,i64.wrap g)else(b,e)
def xW(slf:(KX E1)×Int×Int×Int×FQ->X1 (KX E1)):(KX E1)×Int×FQ×Int×Int->X1 NG:=E0 (A5S slf) fuel
def A5T(slf:(KX E1)×Int×Int×Int×FQ->X1 (KX E1))(a:(KX E1)×Int×Int->X1 (KX E1)):(KX E1)×Int×Int->X1 (KX E1):=λ(b,c,d)=>bif d<i64.wrap (c-1)then(in? b.length (i64.wrap (d+1))).bind λ_=>let e:=b.getD ((i64.wrap (d+1)).toNat) (0,[],[],0);(in? b.length d).bind λ_=>(in? b.length d).bind λ_=>(in? (b.set d.toNat e).length (i64.wrap (d+1))).bind λ_=>a ((b.set d.toNat e).set ((i64.wrap (d+1)).toNat) (b.getD d.toNat (0,[],[],0)),c,i64.wrap (d+1))else b
def xX(slf:(KX E1)×Int×Int×Int×FQ->X1 (KX E1)):(KX E1)×Int×Int->X1 (KX E1):=E0 (A5T slf) fuel
def A5U(slf:(KX E1)×Int×Int×Int×FQ->X1 (KX E1))(a:(KX E1)×Int×FQ×Int×Int->X1 NG):(KX E1)×Int×FQ×Int×Int->X1 NG:=λ(b,c,d,e,f)=>bif e<f then(shr? u64 (u64.wrap (i64.wrap (e+f))) 1).bind λg=>(in? b.length c).bind λ_=>(in? b.length (i64.wrap g)).bind λ_=>(d (b.getD c.toNat (0,[],[],0),b.getD ((i64.wrap g).toNat) (0,[],[],0))).bind λh=>bif !(h<0)then a (b,c,d,i64.wrap (i64.wrap g+1),f)else a (b,c,d,e,i64.wrap g)else(b,e)
def xY(slf:(KX E1)×Int×Int×Int×FQ->X1 (KX E1)):(KX E1)×Int×FQ×Int×Int->X1 NG:=E0 (A5U slf) fuel
def A5V(slf:(KX E1)×Int×Int×Int×FQ->X1 (KX E1))(a:(KX E1)×Int×Int->X1 (KX E1)):(KX E1)×Int×Int->X1 (KX E1):=λ(b,c,d)=>bif c<d then(in? b.length (i64.wrap (d-1))).bind λ_=>let e:=b.getD ((i64.wrap (d-1)).toNat) (0,[],[],0);(in? b.length d).bind λ_=>(in? b.length d).bind λ_=>(in? (b.set d.toNat e).length (i64.wrap (d-1))).bind λ_=>a ((b.set d.toNat e).set ((i64.wrap (d-1)).toNat) (b.getD d.toNat (0,[],[],0)),c,i64.wrap (d-1))else b
def xZ(slf:(KX E1)×Int×Int×Int×FQ->X1 (KX E1)):(KX E1)×Int×Int->X1 (KX E1):=E0 (A5V slf) fuel
def kG(slf:(KX E1)×Int×Int×Int×FQ->X1 (KX E1)):Int×Int×Int×Int×Int×X5->X1 (Int×Int):=λ(a,b,c,d,e,f)=>bif f then some (i64.wrap (e-c),d)else(a,b)
def A5W(slf:(KX E1)×Int×Int×Int×FQ->X1 (KX E1))(a:(KX E1)×FQ×Int×Int×Int->X1 NG):(KX E1)×FQ×Int×Int×Int->X1 NG:=λ(b,c,d,e,f)=>bif d<e then(shr? u64 (u64.wrap (i64.wrap (d+e))) 1).bind λg=>(in? b.length (i64.wrap (f-i64.wrap g))).bind λ_=>(in? b.length (i64.wrap g)).bind λ_=>(c (b.getD ((i64.wrap (f-i64.wrap g)).toNat) (0,[],[],0),b.getD ((i64.wrap g).toNat) (0,[],[],0))).bind λh=>bif !(h<0)then a (b,c,i64.wrap (i64.wrap g+1),e,f)else a (b,c,d,i64.wrap g,f)else(b,d)
def x_(slf:(KX E1)×Int×Int×Int×FQ->X1 (KX E1)):(KX E1)×FQ×Int×Int×Int->X1 NG:=E0 (A5W slf) fuel
def kH(slf:(KX E1)×Int×Int×Int×FQ->X1 (KX E1)):(KX E1)×Int×FQ×Int×Int×X5->X1 (KX E1):=λ(a,b,c,d,e,f)=>bif f then(kF (a,d,b,e,c)).bind λb=>b else a
def kI(slf:(KX E1)×Int×Int×Int×FQ->X1 (KX E1)):(KX E1)×Int×FQ×Int×Int×X5->X1 (KX E1):=λ(a,b,c,d,e,f)=>bif f then(slf (a,b,e,d,c)).bind λb=>b else a
def yA(slf:(KX E1)×Int×Int×Int×FQ->X1 (KX E1)):(KX E1)×Int×Int×Int×FQ->X1 (KX E1):=λ(a,b,c,d,e)=>bif DT (i64.wrap (c-b)) 1 then(xW slf (a,b,e,c,d)).bind λf=>(xX slf (f.1,f.2,b)).bind λf=>f else bif DT (i64.wrap (d-c)) 1 then(xY slf (a,c,e,b,c)).bind λf=>(xZ slf (f.1,f.2,c)).bind λf=>f else(shr? u64 (u64.wrap (i64.wrap (b+d))) 1).bind λf=>(kG slf (b,c,d,i64.wrap f,i64.wrap (i64.wrap f+c),i64.wrap f<c)).bind λg=>(x_ slf (a,e,g.1,g.2,i64.wrap (i64.wrap (i64.wrap f+c)-1))).bind λa=>let g:=i64.wrap (i64.wrap (i64.wrap f+c)-a.2);(kH slf (a.1,c,e,a.2,g,(a.2<c)&&c<g)).bind λc=>(kI slf (c,b,e,i64.wrap f,a.2,(b<a.2)&&a.2<i64.wrap f)).bind λa=>bif i64.wrap f<g&&g<d then(slf (a,i64.wrap f,g,d,e)).bind λb=>b else a
def MO:Nat->(KX E1)×Int×Int×Int×FQ->X1 (KX E1)
 |0=>λ_=>none
 |n+1=>yA (MO n)
def aT:(KX E1)×Int×Int×Int×FQ->X1 (KX E1):=MO 100
def A5X:Rd ((KX E1)×Int×FQ×Int×Int×Int) NG:=λa (b,c,d,e,f,g)=>bif g<=c then(aS (b,f,g,d)).bind λh=>a (h,c,d,e,g,i64.wrap (g+e))else(b,f)
def yB:=E0 A5X fuel
def A5Y:Rd ((KX E1)×Int×FQ×Int×Int×Int) NG:=λa (b,c,d,e,f,g)=>bif g<=c then(aT (b,f,i64.wrap (f+e),g,d)).bind λh=>a (h,c,d,e,g,i64.wrap (g+i64.wrap (2*e)))else(b,f)
def yC:=E0 A5Y fuel
def A5Z:Rd ((KX E1)×Int×FQ×Int) (KX E1):=λa (b,c,d,e)=>bif e<c then(yC (b,c,d,e,0,i64.wrap (2*e))).bind λf=>bif i64.wrap (f.2+e)<c then(aT (f.1,f.2,i64.wrap (f.2+e),c,d)).bind λg=>a (g,c,d,i64.wrap (e*2))else a (f.1,c,d,i64.wrap (e*2))else b
def yD:=E0 A5Z fuel
def kJ:(KX E1)×Int×FQ->X1 (KX E1):=λ(a,b,c)=>(yB (a,b,c,20,0,20)).bind λa=>(aS (a.1,a.2,b,c)).bind λa=>(yD (a,b,c,20)).bind λa=>a
def kK:(KX E1)×FQ->X1 (KX E1):=λ(a,b)=>(kJ (a,a.length,b)).bind λa=>a
def kL:E1×E1->X1 (Int):=λ(a,b)=>(M4 (a.2.1,b.2.1)).bind λc=>(QK (a.1,b.1)).bind λa=>(SF [c,a]).bind λa=>a
def A5_:Rd (GW×(KX E1)×JS×Int×Int) (KX E1):=λa (b,c,d,e,f)=>bif f<e then(at? d f).bind λg=>(jY ()).bind λh=>(at? h g.1).bind λh=>bif !DU g.2 []then(WO (b.2.1,g.2)).bind λi=>(U9 (b.2.1,g.2)).bind λj=>(app? 96 c [(h,i.1,j.1,g.1)]).bind λi=>a (b,i,d,e,i64.wrap (f+1))else(app? 96 c [(h,[],[],g.1)]).bind λg=>a (b,g,d,e,i64.wrap (f+1))else c
def yE:=E0 A5_ fuel
def kM:DO×Int×JS×(KX DO)×(KX DO)->X1 (KX E1):=λa=>(yE (a,[],a.2.2.1,a.2.2.1.length,0)).bind λa=>(kK (a,λx=>(kL x).bind λr=>r)).bind λa=>a
def A5a:Rd (FM×X5×GN×(KX E1)×Int×Int) (FM×X5×GN):=λa (b,c,d,e,f,g)=>bif g<f then(at? e g).bind λh=>bif DT h.2.2.2 1&&!c then bif !DU h.2.2.1 []then a (b,true,(true,true,h.2.2.1),e,f,i64.wrap (g+1))else a (b,true,(false,false,[]),e,f,i64.wrap (g+1))else bif !DT h.2.2.2 1&&c then(app? 144 b [(d,true,DT h.2.2.2 3,h.2.2.1)]).bind λh=>a (h,false,d,e,f,i64.wrap (g+1))else a (b,c,d,e,f,i64.wrap (g+1))else(b,c,d)
def yF:=E0 A5a fuel
def kN:FM×GN×X5->X1 FM:=λ(a,b,c)=>bif c then(app? 144 a [(b,false,false,[])]).bind λb=>b else a
def A5b:Rd (GW×FM×(KX DO)×Int×Int) FM:=λa (b,c,d,e,f)=>bif f<e then(at? d f).bind λg=>(U9 (b.2.1,g)).bind λg=>(app? 144 c [((true,true,g.1),true,true,g.1)]).bind λg=>a (b,g,d,e,i64.wrap (f+1))else c
def yG:=E0 A5b fuel
def kO:DO×Int×JS×(KX DO)×(KX DO)->X1 FM:=λa=>(kM a).bind λb=>(yF ([],false,(false,false,[]),b,b.length,0)).bind λb=>(kN (b.1,b.2.2,b.2.1)).bind λb=>(yG (a,b,a.2.2.2.1,a.2.2.2.1.length,0)).bind λa=>a
def SH:Int×GN->X1 (DO×Int):=λ(a,b)=>bif !b.1 then bif b.2.1||!DU b.2.2 []then some ([],2)else some ([],0)else(KN (a,b.2.2)).bind λa=>bif !DT a.2 0 then some ([],a.2)else((λz=>Sum.casesOn (motive:=λ_=>X1 DO) z (λx=>(aG x).bind λr=>r) (λz=>z.casesOn (λx=>(aJ x).bind λr=>r) (λz=>z.casesOn (λx=>(aL x).bind λr=>r) (λz=>z.casesOn (λx=>(aM x).bind λr=>r) (λz=>z.casesOn (λx=>(aN x).bind λr=>r) (λ_=>none)))))) a.1).bind λc=>bif !DU c b.2.2 then some ([],2)else((λz=>Sum.casesOn (motive:=λ_=>X1 DO) z (λx=>(QL x).bind λr=>r) (λz=>z.casesOn (λx=>(QN x).bind λr=>r) (λz=>z.casesOn (λx=>(QO x).bind λr=>r) (λz=>z.casesOn (λx=>(QP x).bind λr=>r) (λz=>z.casesOn (λx=>(QQ x).bind λr=>r) (λ_=>none)))))) a.1).bind λa=>some (a,0)
def aU:GN×DO->X1 M0:=λ(a,b)=>bif !a.1 then some (-1,[],false,[])else some (0,b,!a.2.1,a.2.2)
def aV:GN×DO->X1 M0:=λ(a,b)=>bif !a.1 then some (1,[],false,[])else some (0,b,a.2.1,a.2.2)
def NJ:M0×M0->X1 (Int):=λ(a,b)=>bif !DT a.1 b.1||!DT a.1 0 then(QK (a.1,b.1)).bind λc=>c else(M4 (a.2.1,b.2.1)).bind λc=>bif !DT c 0||IE a.2.2.1 b.2.2.1 then c else bif a.2.2.1 then some 1 else some (-1)
def QR:FK×FK->X1 (Int):=λ(a,b)=>(NJ (a.1,b.1)).bind λa=>a
def kP:FK×Int×X5->X1 (FK×Int):=λ(a,b,c)=>bif c then(KL a.1.2.2.2).bind λc=>bif a.1.2.2.1 then some (a,i64.wrap (c.1+1))else(a,c.1)else(a,b)
def kQ:M0×M0->X1 (Int×Int×X5):=λa=>(kP (a,0,DT a.1.1 0)).bind λa=>bif DT a.1.2.1 0 then(KL a.1.2.2.2.2).bind λb=>bif !a.1.2.2.2.1 then some (a.2,i64.wrap (b.1-1),a.2<=i64.wrap (b.1-1))else some (a.2,b.1,a.2<=b.1)else some (a.2,999999999999999999,a.2<=999999999999999999)
def kR:Int×M0×X5->X1 M0:=λ(a,b,c)=>bif c then(KO a).bind λc=>(strconv_Itoa a).bind λa=>some (0,c,true,a)else b
def A5c:Rd ((KX FK)×Int×(KX FK)×Int×Int) (KX FK):=λa (b,c,d,e,f)=>bif f<e then(at? d f).bind λg=>(kQ g).bind λg=>bif !g.2.2 then a (b,c,d,e,i64.wrap (f+1))else(kR (g.2.1,(1,[],false,[]),g.2.1<999999999999999999)).bind λh=>bif 0<(b.length:Int)&&DT g.1 (i64.wrap (c+1))then(in? b.length (i64.wrap (b.length-1))).bind λ_=>a (b.set ((i64.wrap (b.length-1)).toNat) ((b.getD ((i64.wrap (b.length-1)).toNat) ((0,[],false,[]),0,[],false,[])).1,h),g.2.1,d,e,i64.wrap (f+1))else(KO g.1).bind λc=>(strconv_Itoa g.1).bind λi=>(app? 192 b [((0,c,false,i),h)]).bind λc=>a (c,g.2.1,d,e,i64.wrap (f+1))else b
def yH:=E0 A5c fuel
def kS:KX FK->X1 (KX FK):=λa=>(yH ([],-2,a,a.length,0)).bind λa=>a
def kT:(KX FK)×X5->X1 (KX FK):=λ(a,b)=>bif b then(kS a).bind λb=>b else a
def kU:FK×(GN×GN)×X5->X1 (FK×(GN×GN)):=λ(a,b,c)=>bif c then some (a,(true,!a.1.2.2.1,a.1.2.2.2),b.2)else(a,b)
def A5d:Rd ((Int×FM)×(KX FK)×Int×Int) (Int×FM):=λa (b,c,d,e)=>bif e<d then(at? c e).bind λf=>(kU (f,((false,false,[]),false,false,[]),DT f.1.1 0)).bind λf=>bif DT f.1.2.1 0 then(app? 144 b.2 [(f.2.1,true,f.1.2.2.2.1,f.1.2.2.2.2)]).bind λg=>a ((b.1,g),c,d,i64.wrap (e+1))else(app? 144 b.2 [f.2]).bind λf=>a ((b.1,f),c,d,i64.wrap (e+1))else(b.1,b.2)
def yI:=E0 A5d fuel
def kV:Int×(KX FK)->X1 ((Int×FM)×Int):=λ(a,b)=>(kT (b,DT a 5)).bind λb=>bif 200<(b.length:Int)then some ((0,[]),3)else(yI ((a,[]),b,b.length,0)).bind λa=>some ((a.1,a.2),0)
def A5e:Rd (Int×(Int×FM)×(KX FK)×FM×Int×Int) (Sum ((Int×FM)×(KX FK)) ((Int×FM)×Int)):=λa (b,c,d,e,f,g)=>bif g<f then(at? e g).bind λh=>(SH (b,h.1)).bind λi=>bif !DT i.2 0 then some (.inr ((0,[]),i.2))else(SH (b,h.2)).bind λj=>bif !DT j.2 0 then some (.inr ((0,[]),j.2))else(aU (h.1,i.1)).bind λi=>(aV (h.2,j.1)).bind λh=>(NJ (i,h)).bind λj=>bif j<0 then(app? 192 d [(i,h)]).bind λh=>a (b,c,h,e,f,i64.wrap (g+1))else a (b,c,d,e,f,i64.wrap (g+1))else some (.inl (c,d))
def yJ:=E0 A5e fuel
def A5f:Rd ((KX FK)×(KX FK)×Int×Int) (KX FK):=λa (b,c,d,e)=>bif e<d then(in? c.length e).bind λ_=>let f:=c.getD e.toNat ((0,[],false,[]),0,[],false,[]);(bif !DT b.length 0 then in? b.length (i64.wrap (b.length-1))else some ()).bind λ_=>(bif !DT b.length 0 then NJ ((b.getD ((i64.wrap (b.length-1)).toNat) ((0,[],false,[]),0,[],false,[])).2,f.1)else some 0).bind λg=>bif DT b.length 0||g<0 then(app? 192 b [f]).bind λg=>a (g,c,d,i64.wrap (e+1))else(in? b.length (i64.wrap (b.length-1))).bind λ_=>(NJ ((b.getD ((i64.wrap (b.length-1)).toNat) ((0,[],false,[]),0,[],false,[])).2,f.2)).bind λg=>bif g<0 then(in? b.length (i64.wrap (b.length-1))).bind λ_=>a (b.set ((i64.wrap (b.length-1)).toNat) ((b.getD ((i64.wrap (b.length-1)).toNat) ((0,[],false,[]),0,[],false,[])).1,f.2),c,d,i64.wrap (e+1))else a (b,c,d,i64.wrap (e+1))else b
def yK:=E0 A5f fuel
def kW:Int×FM->X1 ((Int×FM)×Int):=λ(a,b)=>(yJ (a,(0,[]),[],b,b.length,0)).bind λb=>match b with|.inl b=>(vG (b.2,λx=>(QR x).bind λr=>r)).bind λb=>(yK ([],b,b.length,0)).bind λb=>(kV (a,b)).bind λa=>(a.1,a.2)|.inr a=>(a.1,a.2)
def kX:DO×Int×JS×(KX DO)×(KX DO)->X1 ((Int×FM)×Int):=λa=>(jX a).bind λb=>bif !DT b 0 then some ((0,[]),b)else(kO a).bind λb=>(kW (a.2.1,b)).bind λa=>(a.1,a.2)
def WQ:GX×X5->X1 (Sum GX (KK×Int)):=λ(a,b)=>bif b then(U4 a.2.2.2.2.2.1).bind λb=>bif !DT b.2 0 then some (.inr ([],b.2))else some (.inl a)else some (.inl a)
def yL:Rd (KK×(KX GW)×Int×Int) (Sum KK (KK×Int)):=λa (b,c,d,e)=>bif e<d then(at? c e).bind λf=>(kX f).bind λf=>bif !DT f.2 0 then some (.inr ([],f.2))else(app? 48 b [f.1]).bind λf=>a (f,c,d,i64.wrap (e+1))else some (.inl b)
def WR:=E0 yL fuel
def NK:DO×(KX DO)×DO×Int×X5×DO×(KX GW)->X1 (KK×Int):=λa=>(WI a.1).bind λb=>bif !b then some ([],8)else(gZ a).bind λb=>bif !DT b 0 then some ([],b)else(WI a.2.2.1).bind λb=>bif !b then some ([],8)else bif a.2.2.2.1<0||1000000<a.2.2.2.1 then some ([],9)else(WQ (a,!DU a.2.2.2.2.2.1 [])).bind λa=>match a with|.inl a=>(bif 50<(a.2.2.2.2.2.2.length:Int)then some ([],3)else(WR ([],a.2.2.2.2.2.2,a.2.2.2.2.2.2.length,0)).bind λa=>match a with|.inl a=>some (a,0)|.inr a=>(a.1,a.2))|.inr a=>(a.1,a.2)
def UB:DO×(KX DO)×DO×Int×X5×DO×(KX GW)->X1 (Int):=λa=>(NK a).bind λa=>a.2
def A5g:Rd (NC×(KX GX)×Int×Int) H0:=λa (b,c,d,e)=>bif e<d then(at? c e).bind λf=>(UB f).bind λg=>bif !DT g 0 then some (.inr g)else(bif 0<e then at? b.2.1 (i64.wrap (e-1))else some ([],[],[],0,false,[],[])).bind λg=>bif 0<e&&(Op.bytesLess f.1 g.1||DU f.1 g.1)then some (.inr 10)else(at? b.2.2 e).bind λf=>(bif !(f<0)then at? b.2.2 e else some 0).bind λg=>bif f<0||b.1<g then some (.inr 9)else a (b,c,d,i64.wrap (e+1))else some (.inl ())
def yM:=E0 A5g fuel
def WS:Int×(KX GX)×(KX Int)->X1 (Int):=λa=>bif a.1<0||1000000000<a.1 then some 9 else bif 2000<(a.2.1.length:Int)then some 3 else bif !DT a.2.2.length a.2.1.length then some 2 else(yM (a,a.2.1,a.2.1.length,0)).bind λa=>match a with|.inl _=>some 0|.inr a=>a
def yN:Rd (WF×(KX (DO×(KX DO)))×Int×Int) WF:=λa (b,c,d,e)=>bif e<d then(at? c e).bind λf=>a ((b.1,EE DU f.1 f b.2.1,b.2.2.1,b.2.2.2),c,d,i64.wrap (e+1))else(b.1,b.2.1,b.2.2.1,b.2.2.2)
def A5h:=E0 yN fuel
def yO:Rd (WF×(KX (DO×DZ))×Int×Int) WF:=λa (b,c,d,e)=>bif e<d then(at? c e).bind λf=>a ((b.1,b.2.1,EE DU f.1 true b.2.2.1,b.2.2.2),c,d,i64.wrap (e+1))else(b.1,b.2.1,b.2.2.1,b.2.2.2)
def A5i:=E0 yO fuel
def yP:Rd (WF×QH×Int×Int) WF:=λa (b,c,d,e)=>bif e<d then(at? c e).bind λf=>a ((b.1,b.2.1,b.2.2.1,EE DU f.1 true b.2.2.2),c,d,i64.wrap (e+1))else(b.1,b.2.1,b.2.2.1,b.2.2.2)
def A5j:=E0 yP fuel
def kY:JK×X5->X1 M2:=λ(a,b)=>(A5h ((b,[],[],[]),a.1,a.1.length,0)).bind λb=>(A5i ((b.1,b.2.1,b.2.2.1,b.2.2.2),a.2.1,a.2.1.length,0)).bind λb=>(A5j ((b.1,b.2.1,b.2.2.1,b.2.2.2),a.2.2.1,a.2.2.1.length,0)).bind λa=>(a.1,a.2.1,a.2.2.1,a.2.2.2)
def WU:Rd EU K5:=λa (b,c,d)=>bif d<c then(at? b d).bind λe=>(bif !((e.toNat:Int)<33)then at? b d else some 0).bind λf=>let g:=((e.toNat:Int)<33||126<(f.toNat:Int));(bif !g then at? b d else some 0).bind λe=>bif g||DT e.toNat 35 then some (.inr false)else a (b,c,i64.wrap (d+1))else some (.inl ())
def A5k:=E0 WU fuel
def P0:DO->X1 (X5):=λa=>(A5k (a,a.length,0)).bind λb=>match b with|.inl _=>some (!DU a []&&(a.length:Int)<=100)|.inr a=>a
def P1:DO×DO×X5->X1 (Int):=λ(a,b,c)=>(P0 a).bind λd=>bif !d then some 8 else bif !c&&(Op.bytesLess a b||DU a b)then some 10 else some 0
def kZ:Rd (DO×(KX DO)×Int×Int) H0:=λa (b,c,d,e)=>bif e<d then(at? c e).bind λf=>(P1 (f,b,DT e 0)).bind λb=>bif !DT b 0 then some (.inr b)else a (f,c,d,i64.wrap (e+1))else some (.inl ())
def A5l:=E0 kZ fuel
def k_:Rd (DO×(KX (DO×(KX DO)))×Int×Int) H0:=λa (b,c,d,e)=>bif e<d then(at? c e).bind λf=>(P1 (f.1,b,DT e 0)).bind λb=>bif !DT b 0 then some (.inr b)else bif DT f.2.length 0 then some (.inr 13)else bif 200<(f.2.length:Int)then some (.inr 3)else(A5l ([],f.2,f.2.length,0)).bind λb=>match b with|.inl _=>a (f.1,c,d,i64.wrap (e+1))|.inr a=>some (.inr a)else some (.inl ())
def A5m:=E0 k_ fuel
def lA:M2×(KX (DO×(KX DO)))->X1 (Int):=λ(_,a)=>(A5m ([],a,a.length,0)).bind λa=>match a with|.inl _=>some 0|.inr a=>a
def lB:Rd (M2×DO×DZ×Int×Int) (Sum M2 (Int)):=λa (b,c,d,e,f)=>bif f<e then(at? d f).bind λg=>(P1 (g.1,c,DT f 0)).bind λc=>bif !DT c 0 then some (.inr c)else bif !b.1&&!(DY DU g.2 b.2.2.2).getD false then some (.inr 4)else a (b,g.1,d,e,i64.wrap (f+1))else some (.inl b)
def A5n:=E0 lB fuel
def lC:Rd (M2×DO×(KX (DO×DZ))×Int×Int) H0:=λa (b,c,d,e,f)=>bif f<e then(at? d f).bind λg=>(P1 (g.1,c,DT f 0)).bind λc=>bif !DT c 0 then some (.inr c)else bif 200<(g.2.length:Int)then some (.inr 3)else(A5n (b,[],g.2,g.2.length,0)).bind λb=>match b with|.inl b=>a (b,g.1,d,e,i64.wrap (f+1))|.inr a=>some (.inr a)else some (.inl ())
def A5o:=E0 lC fuel
def lD:M2×(KX (DO×DZ))->X1 (Int):=λ(a,b)=>(A5o (a,[],b,b.length,0)).bind λa=>match a with|.inl _=>some 0|.inr a=>a
def lE:M2×IL->X1 (Int):=λ(a,b)=>bif DT b.1 1 then bif !a.1&&!(DY DU b.2.1 a.2.2.2).getD false then some 4 else bif !DU b.2.2.1 []then some 2 else(bif !DU b.2.2.2 []then P0 b.2.2.2 else some false).bind λc=>bif !DU b.2.2.2 []&&!c then some 8 else some 0 else bif DT b.1 2 then(bif !a.1&&!(!(DY DU b.2.1 a.2.1).isSome)then L1 (((DY DU b.2.1 a.2.1).getD ([],[])).2,b.2.2.1)else some false).bind λc=>bif !a.1&&(!(DY DU b.2.1 a.2.1).isSome||!c)then some 4 else(bif !DU b.2.2.2 []then P0 b.2.2.2 else some false).bind λa=>bif !DU b.2.2.2 []&&!a then some 8 else some 0 else some 7
def lF:Rd ((KX DO)×(KX (DO×X5))×M2×(KX DO)×Int×Int) H0:=λa (b,c,d,e,f,g)=>bif g<f then(at? e g).bind λh=>bif !d.1&&!(DY DU h c).getD false then some (.inr 4)else(bif 0<g then at? b (i64.wrap (g-1))else some []).bind λi=>bif 0<g&&(Op.bytesLess h i||DU h i)then some (.inr 10)else a (b,c,d,e,f,i64.wrap (g+1))else some (.inl ())
def A5p:=E0 lF fuel
def aW:M2×(KX DO)×(KX (DO×X5))->X1 (Int):=λ(a,b,c)=>(A5p (b,c,a,b,b.length,0)).bind λa=>match a with|.inl _=>some 0|.inr a=>a
def lG:Rd (M2×(KX IL)×Int×Int) (Sum M2 (Int)):=λa (b,c,d,e)=>bif e<d then(at? c e).bind λf=>(lE (b,f)).bind λf=>bif !DT f 0 then some (.inr f)else a (b,c,d,i64.wrap (e+1))else some (.inl b)
def A5q:=E0 lG fuel
def lH:Rd (M2×DO×QH×Int×Int) H0:=λa (b,c,d,e,f)=>bif f<e then(at? d f).bind λg=>(P1 (g.1,c,DT f 0)).bind λc=>bif !DT c 0 then some (.inr c)else(P0 g.2.1).bind λc=>bif !c then some (.inr 8)else bif 200<(g.2.2.1.length:Int)then some (.inr 3)else(A5q (b,g.2.2.1,g.2.2.1.length,0)).bind λb=>match b with|.inl b=>(aW (b,g.2.2.2,b.2.2.1)).bind λc=>bif !DT c 0 then some (.inr c)else a (b,g.1,d,e,i64.wrap (f+1))|.inr a=>some (.inr a)else some (.inl ())
def A5r:=E0 lH fuel
def lI:M2×QH->X1 (Int):=λ(a,b)=>(A5r (a,[],b,b.length,0)).bind λa=>match a with|.inl _=>some 0|.inr a=>a
def yQ:M2×JK->X1 (Int):=λ(a,b)=>bif 200<(b.1.length:Int)||500<(b.2.1.length:Int)||3000<(b.2.2.1.length:Int)then some 3 else(lA (a,b.1)).bind λc=>bif !DT c 0 then c else(lD (a,b.2.1)).bind λc=>bif !DT c 0 then c else(lI (a,b.2.2.1)).bind λc=>bif !DT c 0 then c else(aW (a,b.2.2.2,a.2.2.2)).bind λa=>a
def lJ:(KX (DO×(KX DO)))×(KX (DO×DZ))×QH×(KX DO)->X1 (Int):=λa=>(kY (a,false)).bind λb=>(yQ (b,a)).bind λa=>a
def lK:Rd (DO×(KX DO)×Int×Int) H0:=λa (b,c,d,e)=>bif e<d then(at? c e).bind λf=>(P1 (f,b,DT e 0)).bind λb=>bif !DT b 0 then some (.inr b)else a (f,c,d,i64.wrap (e+1))else some (.inl ())
def A5s:=E0 lK fuel
def lL:KX DO->X1 (Int):=λa=>bif 30<(a.length:Int)then some 3 else(A5s ([],a,a.length,0)).bind λa=>match a with|.inl _=>some 0|.inr a=>a
def A5t:Rd (DZ×DO×(((DO×DO)×DO)->X1 Int)×Int×Int) (Int):=λa (b,c,d,e,f)=>bif e<f then(shr? u64 (u64.wrap (i64.wrap (e+f))) 1).bind λg=>(at? b (i64.wrap g)).bind λh=>(d (h,c)).bind λh=>bif h<0 then a (b,c,d,i64.wrap (i64.wrap g+1),f)else a (b,c,d,e,i64.wrap g)else e
def A5u:=E0 A5t fuel
def lM:DZ×DO×(((DO×DO)×DO)->X1 Int)->X1 (Int×X5):=λ(a,b,c)=>(A5u (a,b,c,0,a.length)).bind λd=>(bif d<a.length then at? a d else some ([],[])).bind λe=>(bif d<a.length then c (e,b)else some 0).bind λb=>some (d,(d<a.length)&&DT b 0)
def yR:(DO×DO)×DO->X1 (Int):=λ(a,b)=>(M4 (a.1,b)).bind λa=>a
def WV:(DO×DZ)×DO->X1 (DO×X5):=λ(a,b)=>(lM (a.2,b,λx=>(yR x).bind λr=>r)).bind λb=>bif !b.2 then some ([],false)else(at? a.2 b.1).bind λa=>some (a.2,true)
def lN:Rd ((DO×DZ)×(KX DO)×Int×Int) K5:=λa (b,c,d,e)=>bif e<d then(at? c e).bind λf=>(WV (b,f)).bind λf=>bif !f.2 then some (.inr false)else a (b,c,d,i64.wrap (e+1))else some (.inl ())
def A5v:=E0 lN fuel
def lO:(DO×DZ)×(DO×(KX DO))->X1 (X5):=λ(a,b)=>(A5v (a,b.2,b.2.length,0)).bind λa=>match a with|.inl _=>some true|.inr a=>a
def yS:Rd (OZ×QH×Int×Int) OZ:=λa (b,c,d,e)=>bif e<d then(at? c e).bind λf=>a ((b.1,EE DU f.1 e b.2.1,b.2.2.1,b.2.2.2.1,b.2.2.2.2.1,b.2.2.2.2.2),c,d,i64.wrap (e+1))else(b.1,b.2.1,b.2.2.1,b.2.2.2.1,b.2.2.2.2.1,b.2.2.2.2.2)
def A5w:=E0 yS fuel
def yT:Rd (OZ×(KX (DO×DZ))×Int×Int) OZ:=λa (b,c,d,e)=>bif e<d then(at? c e).bind λf=>a ((b.1,b.2.1,EE DU f.1 e b.2.2.1,b.2.2.2.1,b.2.2.2.2.1,b.2.2.2.2.2),c,d,i64.wrap (e+1))else(b.1,b.2.1,b.2.2.1,b.2.2.2.1,b.2.2.2.2.1,b.2.2.2.2.2)
def A5x:=E0 yT fuel
def yU:Rd (OZ×(DO×(KX DO))×(KX (DO×DZ))×Int×Int) OZ:=λa (b,c,d,e,f)=>bif f<e then(at? d f).bind λg=>(lO (g,c)).bind λg=>bif g then(app? 24 ((DY DU c.1 b.2.2.2.1).getD []) [f]).bind λg=>(bif DU c.1 c.1 then some ()else none).bind λ_=>a ((b.1,b.2.1,b.2.2.1,EE DU c.1 g b.2.2.2.1,b.2.2.2.2.1,b.2.2.2.2.2),c,d,e,i64.wrap (f+1))else a ((b.1,b.2.1,b.2.2.1,b.2.2.2.1,b.2.2.2.2.1,b.2.2.2.2.2),c,d,e,i64.wrap (f+1))else(b.1,b.2.1,b.2.2.1,b.2.2.2.1,b.2.2.2.2.1,b.2.2.2.2.2)
def A5y:=E0 yU fuel
def yV:Rd (JK×OZ×(KX (DO×(KX DO)))×Int×Int) OZ:=λa (b,c,d,e,f)=>bif f<e then(at? d f).bind λg=>(A5y ((c.1,c.2.1,c.2.2.1,c.2.2.2.1,c.2.2.2.2.1,c.2.2.2.2.2),g,b.2.1,b.2.1.length,0)).bind λg=>a (b,(g.1,g.2.1,g.2.2.1,g.2.2.2.1,g.2.2.2.2.1,g.2.2.2.2.2),d,e,i64.wrap (f+1))else(c.1,c.2.1,c.2.2.1,c.2.2.2.1,c.2.2.2.2.1,c.2.2.2.2.2)
def yW:=E0 yV fuel
def yX:Rd (OZ×(KX DO)×Int×Int) OZ:=λa (b,c,d,e)=>bif e<d then(at? c e).bind λf=>a ((b.1,b.2.1,b.2.2.1,b.2.2.2.1,EE DU f true b.2.2.2.2.1,b.2.2.2.2.2),c,d,i64.wrap (e+1))else(b.1,b.2.1,b.2.2.1,b.2.2.2.1,b.2.2.2.2.1,b.2.2.2.2.2)
def A5z:=E0 yX fuel
def lP:JK×Int×(KX DO)->X1 (X1 GE):=λ(a,b,c)=>(A5w ((a,[],[],[],EE DU [] true [],DT b 2),a.2.2.1,a.2.2.1.length,0)).bind λb=>(A5x ((b.1,b.2.1,b.2.2.1,b.2.2.2.1,b.2.2.2.2.1,b.2.2.2.2.2),a.2.1,a.2.1.length,0)).bind λb=>(yW (a,(b.1,b.2.1,b.2.2.1,b.2.2.2.1,b.2.2.2.2.1,b.2.2.2.2.2),a.1,a.1.length,0)).bind λa=>(A5z ((a.1,a.2.1,a.2.2.1,a.2.2.2.1,a.2.2.2.2.1,a.2.2.2.2.2),c,c.length,0)).bind λa=>some (some (a.1,a.2.1,a.2.2.1,a.2.2.2.1,a.2.2.2.2.1,a.2.2.2.2.2))
def aX:JK×Int×(KX DO)->X1 ((X1 GE)×Int):=λ(a,b,c)=>(lJ a).bind λd=>bif !DT d 0 then some ((none:X1 GE),d)else(lL c).bind λd=>bif !DT d 0 then some ((none:X1 GE),d)else bif !DT b 1&&!DT b 2 then some ((none:X1 GE),7)else(lP (a,b,c)).bind λa=>some (a,0)
def UC:JT×Int->X1 JT:=λ(a,b)=>(in? a.2.1.length b).bind λ_=>bif !a.2.1.getD b.toNat false then(in? a.2.1.length b).bind λ_=>(app? 24 a.2.2.2.2.2.2 [b]).bind λc=>some (a.1,a.2.1.set b.toNat true,a.2.2.1,a.2.2.2.1,a.2.2.2.2.1,a.2.2.2.2.2.1,c)else(a.1,a.2.1,a.2.2.1,a.2.2.2.1,a.2.2.2.2.1,a.2.2.2.2.2.1,a.2.2.2.2.2.2)
def lQ:Rd ((KX Int)×Int×Int×Int) H0:=λa (b,c,d,e)=>bif e<d then(at? b e).bind λf=>bif DT c f then some (.inr e)else a (b,c,d,i64.wrap (e+1))else some (.inl ())
def A60:=E0 lQ fuel
def yY:(KX Int)×Int->X1 (Int):=λ(a,b)=>(A60 (a,b,a.length,0)).bind λa=>match a with|.inl _=>some (-1)|.inr a=>a
def SI:(KX Int)×Int->X1 (X5):=λ(a,b)=>(yY (a,b)).bind λa=>some (0<=a)
def SJ:(X1 GE)×IL×Int->X1 (Int):=λ(a,b,c)=>(a).bind λd=>(at? d.1.2.1 c).bind λc=>(WV (c,b.2.2.1)).bind λb=>(a).bind λa=>some ((DY DU b.1 a.2.1).getD 0)
def lR:Rd (JT×Int×DZ×Int×Int) JT:=λa (b,c,d,e,f)=>bif f<e then(at? d f).bind λg=>(b.1).bind λh=>(SI ((DY DU g.1 h.2.2.2.1).getD [],c)).bind λh=>bif h then(SJ (b.1,(0,g.1,g.2,[]),c)).bind λg=>(UC ((b.1,b.2.1,b.2.2.1,b.2.2.2.1,b.2.2.2.2.1,b.2.2.2.2.2.1,b.2.2.2.2.2.2),g)).bind λg=>a ((g.1,g.2.1,g.2.2.1,g.2.2.2.1,g.2.2.2.2.1,g.2.2.2.2.2.1,g.2.2.2.2.2.2),c,d,e,i64.wrap (f+1))else a ((b.1,b.2.1,b.2.2.1,b.2.2.2.1,b.2.2.2.2.1,b.2.2.2.2.2.1,b.2.2.2.2.2.2),c,d,e,i64.wrap (f+1))else(b.1,b.2.1,b.2.2.1,b.2.2.2.1,b.2.2.2.2.1,b.2.2.2.2.2.1,b.2.2.2.2.2.2)
def A61:=E0 lR fuel
def lS:JT×Int->X1 JT:=λ(a,b)=>(in? a.2.2.1.length b).bind λ_=>bif a.2.2.1.getD b.toNat false then(a.1,a.2.1,a.2.2.1,a.2.2.2.1,a.2.2.2.2.1,a.2.2.2.2.2.1,a.2.2.2.2.2.2)else(in? a.2.2.1.length b).bind λ_=>(a.1).bind λc=>bif !c.2.2.2.2.2 then some (a.1,a.2.1,a.2.2.1.set b.toNat true,a.2.2.2.1,a.2.2.2.2.1,a.2.2.2.2.2.1,a.2.2.2.2.2.2)else(A61 ((a.1,a.2.1,a.2.2.1.set b.toNat true,a.2.2.2.1,a.2.2.2.2.1,a.2.2.2.2.2.1,a.2.2.2.2.2.2),b,a.2.2.2.2.1,a.2.2.2.2.1.length,0)).bind λa=>(a.1,a.2.1,a.2.2.1,a.2.2.2.1,a.2.2.2.2.1,a.2.2.2.2.2.1,a.2.2.2.2.2.2)
def lT:Rd (JT×IL×(KX Int)×Int×Int) JT:=λa (b,c,d,e,f)=>bif f<e then(at? d f).bind λg=>(b.1).bind λh=>(bif !(!h.2.2.2.2.2)then in? b.2.2.1.length g else some ()).bind λ_=>bif !h.2.2.2.2.2||b.2.2.1.getD g.toNat false then(SJ (b.1,c,g)).bind λg=>(UC ((b.1,b.2.1,b.2.2.1,b.2.2.2.1,b.2.2.2.2.1,b.2.2.2.2.2.1,b.2.2.2.2.2.2),g)).bind λg=>a ((g.1,g.2.1,g.2.2.1,g.2.2.2.1,g.2.2.2.2.1,g.2.2.2.2.2.1,g.2.2.2.2.2.2),c,d,e,i64.wrap (f+1))else a ((b.1,b.2.1,b.2.2.1,b.2.2.2.1,b.2.2.2.2.1,b.2.2.2.2.2.1,b.2.2.2.2.2.2),c,d,e,i64.wrap (f+1))else(b.1,b.2.1,b.2.2.1,b.2.2.2.1,b.2.2.2.2.1,b.2.2.2.2.2.1,b.2.2.2.2.2.2)
def A62:=E0 lT fuel
def lU:JT×IL->X1 JT:=λ(a,b)=>bif DT b.1 1 then(a.1).bind λc=>(UC ((a.1,a.2.1,a.2.2.1,a.2.2.2.1,a.2.2.2.2.1,a.2.2.2.2.2.1,a.2.2.2.2.2.2),(DY DU b.2.1 c.2.1).getD 0)).bind λc=>(c.1,c.2.1,c.2.2.1,c.2.2.2.1,c.2.2.2.2.1,c.2.2.2.2.2.1,c.2.2.2.2.2.2)else bif (DY (λ(x y:DO×DO)=>DU x.1 y.1&&DU x.2 y.2) (b.2.1,b.2.2.1) a.2.2.2.1).getD false then(a.1,a.2.1,a.2.2.1,a.2.2.2.1,a.2.2.2.2.1,a.2.2.2.2.2.1,a.2.2.2.2.2.2)else(app? 48 a.2.2.2.2.1 [(b.2.1,b.2.2.1)]).bind λc=>(a.1).bind λd=>(A62 ((a.1,a.2.1,a.2.2.1,EE (λ(x y:DO×DO)=>DU x.1 y.1&&DU x.2 y.2) (b.2.1,b.2.2.1) true a.2.2.2.1,c,a.2.2.2.2.2.1,a.2.2.2.2.2.2),b,(DY DU b.2.1 d.2.2.2.1).getD [],(((DY DU b.2.1 d.2.2.2.1).getD []).length:Int),0)).bind λa=>(a.1,a.2.1,a.2.2.1,a.2.2.2.1,a.2.2.2.2.1,a.2.2.2.2.2.1,a.2.2.2.2.2.2)
def lV:Rd ((X1 GE)×JT×(KX DO)×Int×Int) JT:=λa (b,c,d,e,f)=>bif f<e then(at? d f).bind λg=>(b).bind λh=>(UC ((c.1,c.2.1,c.2.2.1,c.2.2.2.1,c.2.2.2.2.1,c.2.2.2.2.2.1,c.2.2.2.2.2.2),(DY DU g h.2.1).getD 0)).bind λg=>a (b,(g.1,g.2.1,g.2.2.1,g.2.2.2.1,g.2.2.2.2.1,g.2.2.2.2.2.1,g.2.2.2.2.2.2),d,e,i64.wrap (f+1))else(c.1,c.2.1,c.2.2.1,c.2.2.2.1,c.2.2.2.2.1,c.2.2.2.2.2.1,c.2.2.2.2.2.2)
def A63:=E0 lV fuel
def lW:Rd ((X1 GE)×JT×(KX DO)×Int×Int) JT:=λa (b,c,d,e,f)=>bif f<e then(at? d f).bind λg=>(b).bind λh=>(lS ((c.1,c.2.1,c.2.2.1,c.2.2.2.1,c.2.2.2.2.1,c.2.2.2.2.2.1,c.2.2.2.2.2.2),(DY DU g h.2.2.1).getD 0)).bind λg=>a (b,(g.1,g.2.1,g.2.2.1,g.2.2.2.1,g.2.2.2.2.1,g.2.2.2.2.2.1,g.2.2.2.2.2.2),d,e,i64.wrap (f+1))else(c.1,c.2.1,c.2.2.1,c.2.2.2.1,c.2.2.2.2.1,c.2.2.2.2.2.1,c.2.2.2.2.2.2)
def A64:=E0 lW fuel
def lX:Rd ((X1 GE)×Int×JT×(KX IL)×Int×Int) (Sum JT JT):=λa (b,c,d,e,f,g)=>bif g<f then(at? e g).bind λh=>(b).bind λi=>bif !(DY DU h.2.2.2 i.2.2.2.2.1).getD false then a (b,c,(d.1,d.2.1,d.2.2.1,d.2.2.2.1,d.2.2.2.2.1,d.2.2.2.2.2.1,d.2.2.2.2.2.2),e,f,i64.wrap (g+1))else(lU ((d.1,d.2.1,d.2.2.1,d.2.2.2.1,d.2.2.2.2.1,d.2.2.2.2.2.1,d.2.2.2.2.2.2),h)).bind λh=>(bif 0<=c then in? h.2.1.length c else some ()).bind λ_=>bif 0<=c&&h.2.1.getD c.toNat false then some (.inl (h.1,h.2.1,h.2.2.1,h.2.2.2.1,h.2.2.2.2.1,h.2.2.2.2.2.1,h.2.2.2.2.2.2))else a (b,c,(h.1,h.2.1,h.2.2.1,h.2.2.2.1,h.2.2.2.2.1,h.2.2.2.2.2.1,h.2.2.2.2.2.2),e,f,i64.wrap (g+1))else some (.inr (d.1,d.2.1,d.2.2.1,d.2.2.2.1,d.2.2.2.2.1,d.2.2.2.2.2.1,d.2.2.2.2.2.2))
def A65:=E0 lX fuel
def A66:Rd ((X1 GE)×Int×JT) JT:=λa (b,c,d)=>bif 0<(d.2.2.2.2.2.2.length:Int)then(in? d.2.2.2.2.2.2.length 0).bind λ_=>(cut? d.2.2.2.2.2.2 1 d.2.2.2.2.2.2.length).bind λe=>bif DT (d.2.2.2.2.2.2.getD 0 0) c then(d.1,d.2.1,d.2.2.1,d.2.2.2.1,d.2.2.2.2.1,d.2.2.2.2.2.1,e)else(b).bind λf=>(at? f.1.2.2.1 (d.2.2.2.2.2.2.getD 0 0)).bind λf=>(A64 (b,(d.1,d.2.1,d.2.2.1,d.2.2.2.1,d.2.2.2.2.1,d.2.2.2.2.2.1,e),f.2.2.2,f.2.2.2.length,0)).bind λe=>(b).bind λf=>(at? f.1.2.2.1 (d.2.2.2.2.2.2.getD 0 0)).bind λf=>(A65 (b,c,(e.1,e.2.1,e.2.2.1,e.2.2.2.1,e.2.2.2.2.1,e.2.2.2.2.2.1,e.2.2.2.2.2.2),f.2.2.1,f.2.2.1.length,0)).bind λe=>match e with|.inl e=>(e.1,e.2.1,e.2.2.1,e.2.2.2.1,e.2.2.2.2.1,e.2.2.2.2.2.1,e.2.2.2.2.2.2)|.inr e=>a (b,c,e.1,e.2.1,e.2.2.1,e.2.2.2.1,e.2.2.2.2.1,e.2.2.2.2.2.1,e.2.2.2.2.2.2)else(d.1,d.2.1,d.2.2.1,d.2.2.2.1,d.2.2.2.2.1,d.2.2.2.2.2.1,d.2.2.2.2.2.2)
def A67:=E0 A66 fuel
def OB:(X1 GE)×Int->X1 M1:=λ(a,b)=>(a).bind λc=>(mks? 24 c.1.2.2.1.length c.1.2.2.1.length false).bind λc=>(a).bind λd=>(mks? 24 d.1.2.1.length d.1.2.1.length false).bind λd=>(a).bind λe=>(A63 (a,(a,c,d,[],[],[],[]),e.1.2.2.2,e.1.2.2.2.length,0)).bind λc=>(A67 (a,b,c.1,c.2.1,c.2.2.1,c.2.2.2.1,c.2.2.2.2.1,c.2.2.2.2.2.1,c.2.2.2.2.2.2)).bind λa=>some (some (a.1,a.2.1,a.2.2.1,a.2.2.2.1,a.2.2.2.2.1,a.2.2.2.2.2.1,a.2.2.2.2.2.2))
def lY:Rd (JK×(KX DO)×(KX X5)×Int×Int) (KX DO):=λa (b,c,d,e,f)=>bif f<e then(at? d f).bind λg=>bif g then(at? b.2.2.1 f).bind λg=>(app? 24 c [g.1]).bind λg=>a (b,g,d,e,i64.wrap (f+1))else a (b,c,d,e,i64.wrap (f+1))else c
def A68:=E0 lY fuel
def SK:JK×Int×(KX DO)->X1 ((KX DO)×Int):=λ(a,b,c)=>(aX (a,b,c)).bind λb=>bif !DT b.2 0 then some ([],b.2)else(OB (b.1,-1)).bind λb=>(b).bind λb=>(A68 (a,[],b.2.1,b.2.1.length,0)).bind λa=>some (a,0)
def aY:HH×Int×NC×(KX JK)×Int×(KX DO)×QI->X1 (Int):=λa=>bif 1<(a.2.2.2.1.length:Int)then some 2 else bif DT a.2.2.2.1.length 0 then bif !DT a.2.2.2.2.1 0||0<(a.2.2.2.2.2.1.length:Int)then some 2 else some 0 else(at? a.2.2.2.1 0).bind λb=>(SK (b,a.2.2.2.2.1,a.2.2.2.2.2.1)).bind λa=>a.2
def lZ:Rd EU K5:=λa (b,c,d)=>bif d<c then(at? b d).bind λe=>bif !(97<=(e.toNat:Int)&&(e.toNat:Int)<=122||65<=(e.toNat:Int)&&(e.toNat:Int)<=90||48<=(e.toNat:Int)&&(e.toNat:Int)<=57||DT e.toNat 46||DT e.toNat 45||DT e.toNat 95)then some (.inr false)else a (b,c,i64.wrap (d+1))else some (.inl ())
def A69:=E0 lZ fuel
def l_:DO->X1 (X5):=λa=>(A69 (a,a.length,0)).bind λb=>match b with|.inl _=>some (!DU a []&&(a.length:Int)<=60)|.inr a=>a
def m6:Rd EU K5:=λa (b,c,d)=>bif d<c then(at? b d).bind λe=>(bif !((e.toNat:Int)<32)then at? b d else some 0).bind λf=>bif (e.toNat:Int)<32||DT f.toNat 127 then some (.inr false)else a (b,c,i64.wrap (d+1))else some (.inl ())
def A6A:=E0 m6 fuel
def m7:DO->X1 (X5):=λa=>(A6A (a,a.length,0)).bind λb=>match b with|.inl _=>some ((a.length:Int)<=100)|.inr a=>a
def A6B:Rd (EU×X5×I6) (Sum (EU×I6) (EU×I6×X5)):=λa (b,c,d)=>bif b.2.2<0 then(LG (some b)).bind λe=>bif !DT e 42 then(ZX b).bind λe=>bif !e.2.1 then some (.inl (e.2.2,d))else(app? 48 d [(1,e.1)]).bind λf=>a (e.2.2,c,f)else(LG (some (b.1,i64.wrap (b.2.1+1),b.2.2))).bind λe=>bif DT e 42 then(bif !(!c||0<(d.length:Int))then cut? b.1 (i64.wrap (b.2.1+1)) b.1.length else some []).bind λe=>(bif !(!c||0<(d.length:Int))then strings_HasPrefix (e,[42,47])else some false).bind λe=>bif !c||0<(d.length:Int)||!e then(NH ((b.1,i64.wrap (b.2.1+1),b.2.2),i64.wrap (b.2.1+1))).bind λe=>some (.inr (e,[],false))else some (.inr ((b.1,i64.wrap (i64.wrap (b.2.1+1)+1),b.2.2),[],true))else(app? 48 d [(2,0)]).bind λe=>a ((b.1,i64.wrap (b.2.1+1),b.2.2),c,e)else some (.inl (b,d))
def A6C:=E0 A6B fuel
def aZ:EU×X5->X1 (I6×X5×EU):=λ(a,b)=>(A6C (a,b,[])).bind λa=>match a with|.inl a=>bif DT a.2.length 0 then(NH (a.1,a.1.2.1)).bind λb=>some (a.2,false,b)else some (a.2,false,a.1)|.inr a=>(a.2.1,a.2.2,a.1)
def yZ:(DO×(I6×Int))×I6×X5->X1 (DO×(I6×Int)):=λ(a,b,c)=>bif c then(app? 48 a.2.1 [(4,0)]).bind λc=>(a.1,c,a.2.2)else(app? 48 a.2.1 b).bind λb=>(a.1,b,a.2.2)
def A6D:Rd (EU×KJ×(DO×(I6×Int))) (Sum (EU×KJ×(DO×(I6×Int))) (EU×KJ)):=λa (b,c,d)=>bif b.2.2<0 then(aZ (b,true)).bind λe=>bif 0<=e.2.2.2.2 then some (.inr (e.2.2,d.1,d.2.1,d.2.2))else(yZ ((d.1,d.2.1,d.2.2),e.1,e.2.1)).bind λf=>(LG (some e.2.2)).bind λg=>bif !DT g 47 then some (.inl (e.2.2,c,f.1,f.2.1,f.2.2))else bif !e.2.1 then(app? 48 f.2.1 [(3,0)]).bind λg=>a ((e.2.2.1,i64.wrap (e.2.2.2.1+1),e.2.2.2.2),c,f.1,g,i64.wrap (f.2.2+1))else a ((e.2.2.1,i64.wrap (e.2.2.2.1+1),e.2.2.2.2),c,f.1,f.2.1,i64.wrap (f.2.2+1))else some (.inl (b,c,d.1,d.2.1,d.2.2))
def A6E:=E0 A6D fuel
def y_:EU×(DO×(I6×Int))×X5->X1 (EU×(DO×(I6×Int))):=λ(a,b,c)=>bif c then(a,b.1,b.2.1,b.2.2)else bif DT a.2.1 a.1.length then(app? 48 b.2.1 [(6,0)]).bind λc=>(a,b.1,c,b.2.2)else(LG (some a)).bind λc=>bif DT c 64 then(aZ ((a.1,i64.wrap (a.2.1+1),a.2.2),false)).bind λc=>(app? 48 b.2.1 [(5,0)]).bind λd=>(app? 48 d c.1).bind λd=>(c.2.2,b.1,d,b.2.2)else(a,b.1,b.2.1,b.2.2)
def m8:DO×Int×Int->X1 (KJ×EU):=λa=>(ZW (a,true)).bind λa=>(A6E (a.2,([],[],0),a.1,[],0)).bind λa=>match a with|.inl a=>(y_ (a.1,(a.2.2.1,a.2.2.2.1,a.2.2.2.2),0<=a.1.2.2)).bind λa=>bif a.1.2.2<0&&a.1.2.1<a.1.1.length then(NH (a.1,a.1.2.1)).bind λb=>some ((a.2.1,a.2.2.1,a.2.2.2),b)else some ((a.2.1,a.2.2.1,a.2.2.2),a.1)|.inr a=>(a.2,a.1)
def a_:DO->X1 (KJ×Int×Int):=λa=>bif 3000<(a.length:Int)then some (([],[],0),0,3)else(m8 (a,0,-1)).bind λa=>bif 0<=a.2.2.2 then some (([],[],0),a.2.2.2,6)else(bif !DU a.1.1 [42]then ZP a.1.1 else some 0).bind λb=>bif !DU a.1.1 [42]&&b<0 then some (([],[],0),0,7)else bif 10<a.1.2.2 then some (([],[],0),0,3)else some (a.1,0,0)
def m9:DO->X1 (Int×Int):=λa=>(a_ a).bind λa=>(a.2.1,a.2.2)
def SL:DO×DO×DO×Int×Int×Int×Int->X1 (Int):=λa=>(l_ a.1).bind λb=>(bif !(!b)then m7 a.2.1 else some false).bind λc=>bif !b||!c then some 8 else(m9 a.2.2.1).bind λb=>bif !DT b.2 0 then b.2 else bif a.2.2.2.1<1||4<a.2.2.2.1 then some 7 else bif !DT a.2.2.2.1 4&&!DT a.2.2.2.2.1 0 then some 2 else bif DT a.2.2.2.1 4&&(a.2.2.2.2.1<1||5<a.2.2.2.2.1)then some 7 else bif a.2.2.2.2.2.1<0||1000000<a.2.2.2.2.2.1||a.2.2.2.2.2.2<0||100<a.2.2.2.2.2.2 then some 9 else some 0
def mA:Rd (QI×Int×Int) H0:=λa (b,c,d)=>bif d<c then(at? b d).bind λe=>(SL e).bind λe=>bif !DT e 0 then some (.inr e)else a (b,c,i64.wrap (d+1))else some (.inl ())
def z6:=E0 mA fuel
def P2:HH×Int×NC×(KX JK)×Int×(KX DO)×QI->X1 (Int):=λa=>(U3 a.1).bind λb=>bif !DT b 0 then b else bif a.2.1<1||4<a.2.1 then some 9 else(WS a.2.2.1).bind λb=>bif !DT b 0 then b else(aY a).bind λb=>bif !DT b 0 then b else bif 2000<(a.2.2.2.2.2.2.length:Int)then some 3 else(z6 (a.2.2.2.2.2.2,a.2.2.2.2.2.2.length,0)).bind λa=>match a with|.inl _=>some 0|.inr a=>a
def b9:Int×DO->X1 (Int):=λ(a,b)=>(KN (a,b)).bind λa=>a.2
def mB:(GN×GN)×(KX FK)->X1 (Int):=λ(a,b)=>bif !a.1.1||!a.1.2.1||a.2.1&&(!a.2.2.1||DU a.2.2.2 [57,57,57,57,57,57,57,57,57,57,57,57,57,57,57,57,57,57])then some 2 else bif 0<(b.length:Int)then(KL a.1.2.2).bind λa=>(at? b (i64.wrap (b.length-1))).bind λb=>(KL b.2.2.2.2).bind λb=>bif a.1<i64.wrap (b.1+2)then some 10 else some 0 else some 0
def A6F:Rd ((Int×FM)×(KX FK)×FM×Int×Int) (Sum (KX FK) ((KX FK)×Int)):=λa (b,c,d,e,f)=>bif f<e then(at? d f).bind λg=>(SH (b.1,g.1)).bind λh=>bif !DT h.2 0 then some (.inr ([],h.2))else(SH (b.1,g.2)).bind λi=>bif !DT i.2 0 then some (.inr ([],i.2))else(aU (g.1,h.1)).bind λh=>(aV (g.2,i.1)).bind λi=>(NJ (h,i)).bind λj=>(bif !(0<=j)&&0<(c.length:Int)then at? c (i64.wrap (c.length-1))else some ((0,[],false,[]),0,[],false,[])).bind λk=>(bif !(0<=j)&&0<(c.length:Int)then NJ (h,k.2)else some 0).bind λk=>bif 0<=j||0<(c.length:Int)&&k<=0 then some (.inr ([],10))else bif DT b.1 5 then(mB (g,c)).bind λg=>bif !DT g 0 then some (.inr ([],g))else(app? 192 c [(h,i)]).bind λg=>a (b,g,d,e,i64.wrap (f+1))else(app? 192 c [(h,i)]).bind λg=>a (b,g,d,e,i64.wrap (f+1))else some (.inl c)
def z8:=E0 A6F fuel
def bA:Int×FM->X1 ((KX FK)×Int):=λa=>bif a.1<1||5<a.1 then some ([],7)else bif 200<(a.2.length:Int)then some ([],3)else(z8 (a,[],a.2,a.2.length,0)).bind λa=>match a with|.inl a=>some (a,0)|.inr a=>(a.1,a.2)
def mC:FK×(X1 M0)->X1 (X5):=λ(a,b)=>(b).bind λc=>(NJ (a.1,c)).bind λc=>(bif c<=0 then b else some (0,[],false,[])).bind λb=>(bif c<=0 then NJ (b,a.2)else some 0).bind λa=>some (c<=0&&a<0)
def A6G:Rd ((KX FK)×(FK->X1 X5)×Int×Int) H0:=λa (b,c,d,e)=>bif e<d then(at? b e).bind λf=>(c f).bind λf=>bif f then some (.inr e)else a (b,c,d,i64.wrap (e+1))else some (.inl ())
def A6H:=E0 A6G fuel
def zA:(KX FK)×(FK->X1 X5)->X1 (Int):=λ(a,b)=>(A6H (a,b,a.length,0)).bind λa=>match a with|.inl _=>some (-1)|.inr a=>a
def bB:(KX FK)×DO->X1 (Int):=λ(a,b)=>(zA (a,λx=>(mC (x,some (0,b,false,[]))).bind λr=>r)).bind λa=>a
def bC:(Int×FM)×DO->X1 (X5×Int):=λ(a,b)=>(bA a).bind λc=>bif !DT c.2 0 then some (false,c.2)else(KN (a.1,b)).bind λa=>bif !DT a.2 0 then some (false,a.2)else((λz=>Sum.casesOn (motive:=λ_=>X1 DO) z (λx=>(QL x).bind λr=>r) (λz=>z.casesOn (λx=>(QN x).bind λr=>r) (λz=>z.casesOn (λx=>(QO x).bind λr=>r) (λz=>z.casesOn (λx=>(QP x).bind λr=>r) (λz=>z.casesOn (λx=>(QQ x).bind λr=>r) (λ_=>none)))))) a.1).bind λa=>(bB (c.1,a)).bind λa=>some (0<=a,0)
def UD:GW×(Int×FM)×DO×DO->X1 (X5):=λ(a,b,c,d)=>(bif !(!DU a.1 c||DU d [])then b9 (a.2.1,d)else some 0).bind λe=>bif !DU a.1 c||DU d []||!DT e 0 then some false else(bC (b,d)).bind λa=>some (DT a.2 0&&a.1)
def mD:(Int×Int)×(Int×Int)->X1 (Int):=λ(a,b)=>(QK (a.1,b.1)).bind λc=>(QK (a.2,b.2)).bind λa=>(SF [c,a]).bind λa=>a
def mE:Rd (HH×KK×I6×Int×GW×(KX Int)×Int×Int) (HH×I6):=λa (b,c,d,e,f,g,h,i)=>bif i<h then(at? g i).bind λj=>(at? c e).bind λk=>(at? b.2.2.2.1 j).bind λl=>(UD (f,k,f.1,l.2.1.2.2.2.1)).bind λk=>bif k then(app? 48 d [(j,e)]).bind λj=>a (b,c,j,e,f,g,h,i64.wrap (i+1))else a (b,c,d,e,f,g,h,i64.wrap (i+1))else(b,d)
def A6I:=E0 mE fuel
def zB:Rd ((KX (DO×(KX Int)))×HH×KK×I6×(KX GW)×Int×Int) I6:=λa (b,c,d,e,f,g,h)=>bif h<g then(at? f h).bind λi=>(A6I (c,d,e,h,i,(DY DU i.1 b).getD [],(((DY DU i.1 b).getD []).length:Int),0)).bind λc=>a (b,c.1,d,c.2,f,g,i64.wrap (h+1))else e
def zC:=E0 zB fuel
def mF:GX×HH×(KX (DO×(KX Int)))->X1 I6:=λ(a,b,c)=>(NK a).bind λd=>(zC (c,b,d.1,[],a.2.2.2.2.2.2,a.2.2.2.2.2.2.length,0)).bind λa=>(A4I (a,λx=>(mD x).bind λr=>r)).bind λa=>a
def zD:Rd ((KX (DO×KX Int))×(KX G_)×Int×Int) (KX (DO×KX Int)):=λa (b,c,d,e)=>bif e<d then(at? c e).bind λf=>(JV f.2.1).bind λf=>(app? 24 ((DY DU f.1 b).getD []) [e]).bind λg=>(bif DU f.1 f.1 then some ()else none).bind λ_=>a (EE DU f.1 g b,c,d,i64.wrap (e+1))else b
def zF:=E0 zD fuel
def mG:Rd (HH×(KX GM)×GX×I6×Int×Int) (Sum (HH×(KX GM)) ((KX GM)×Int)):=λa (b,c,d,e,f,g)=>bif g<f then(at? e g).bind λh=>bif DT c.length 100000 then some (.inr ([],3))else(at? b.2.2.2.1 h.1).bind λi=>(app? 72 c [(d.1,i.1,h.2)]).bind λh=>a (b,h,d,e,f,i64.wrap (g+1))else some (.inl (b,c))
def zG:=E0 mG fuel
def mH:Rd (HH×(KX (DO×(KX Int)))×(KX GM)×(KX GX)×Int×Int) (Sum (KX GM) ((KX GM)×Int)):=λa (b,c,d,e,f,g)=>bif g<f then(at? e g).bind λh=>bif h.2.2.2.2.1 then a (b,c,d,e,f,i64.wrap (g+1))else(mF (h,b,c)).bind λi=>(zG (b,d,h,i,i.length,0)).bind λb=>match b with|.inl b=>a (b.1,c,b.2,e,f,i64.wrap (g+1))|.inr a=>some (.inr (a.1,a.2))else some (.inl d)
def A6J:=E0 mH fuel
def mI:NC×HH->X1 ((KX GM)×Int):=λ(a,b)=>(WS a).bind λc=>bif !DT c 0 then some ([],c)else(U3 b).bind λc=>bif !DT c 0 then some ([],c)else(zF ([],b.2.2.2.1,b.2.2.2.1.length,0)).bind λc=>(A6J (b,c,[],a.2.1,a.2.1.length,0)).bind λa=>match a with|.inl a=>some (a,0)|.inr a=>(a.1,a.2)
def mJ:Rd (SC×(KX GX)×Int×Int) SC:=λa (b,c,d,e)=>bif e<d then(at? c e).bind λf=>a ((b.1,EE DU f.1 f b.2.1,b.2.2.1,b.2.2.2.1,b.2.2.2.2),c,d,i64.wrap (e+1))else(b.1,b.2.1,b.2.2.1,b.2.2.2.1,b.2.2.2.2)
def zH:=E0 mJ fuel
def mK:Rd (SC×(KX G_)×Int×Int) SC:=λa (b,c,d,e)=>bif e<d then(at? c e).bind λf=>a ((b.1,b.2.1,EE DU f.1 f b.2.2.1,b.2.2.2.1,b.2.2.2.2),c,d,i64.wrap (e+1))else(b.1,b.2.1,b.2.2.1,b.2.2.2.1,b.2.2.2.2)
def zI:=E0 mK fuel
def mL:Rd (ND×SC×(KX GM)×Int×Int) (ND×SC):=λa (b,c,d,e,f)=>bif f<e then(at? d f).bind λg=>bif g.2.2<=b.2.1 then a (b,(c.1,c.2.1,c.2.2.1,c.2.2.2.1,EE (λ(x y:DO×DO×Int)=>DU x.1 y.1&&(λ(x y:DO×Int)=>DU x.1 y.1&&DT x.2 y.2) x.2 y.2) (g.1,g.2.1,0) true c.2.2.2.2),d,e,i64.wrap (f+1))else a (b,(c.1,c.2.1,c.2.2.1,c.2.2.2.1,c.2.2.2.2),d,e,i64.wrap (f+1))else(b,c.1,c.2.1,c.2.2.1,c.2.2.2.1,c.2.2.2.2)
def zJ:=E0 mL fuel
def mM:Rd (SC×(KX DO)×Int×Int) SC:=λa (b,c,d,e)=>bif e<d then(at? c e).bind λf=>a ((b.1,b.2.1,b.2.2.1,EE DU f true b.2.2.2.1,b.2.2.2.2),c,d,i64.wrap (e+1))else(b.1,b.2.1,b.2.2.1,b.2.2.2.1,b.2.2.2.2)
def mN:=E0 mM fuel
def QS:HH×Int×NC×(KX JK)×Int×(KX DO)×QI->X1 (X1 IM):=λa=>(zH ((a,[],[],[],[]),a.2.2.1.2.1,a.2.2.1.2.1.length,0)).bind λb=>(zI ((b.1,b.2.1,b.2.2.1,b.2.2.2.1,b.2.2.2.2),a.1.2.2.2.1,a.1.2.2.2.1.length,0)).bind λb=>(zJ (a,(b.1,b.2.1,b.2.2.1,b.2.2.2.1,b.2.2.2.2),a.1.2.2.2.2,a.1.2.2.2.2.length,0)).bind λa=>bif DT a.1.2.2.2.1.length 1 then(at? a.1.2.2.2.1 0).bind λb=>(SK (b,a.1.2.2.2.2.1,a.1.2.2.2.2.2.1)).bind λb=>(mN ((a.2.1,a.2.2.1,a.2.2.2.1,a.2.2.2.2.1,a.2.2.2.2.2),b.1,b.1.length,0)).bind λb=>some (some (b.1,b.2.1,b.2.2.1,b.2.2.2.1,b.2.2.2.2))else some (some (a.2.1,a.2.2.1,a.2.2.2.1,a.2.2.2.2.1,a.2.2.2.2.2))
def zK:Rd ((KX (DO×Int))×(KX G_)×Int×Int) (KX (DO×Int)):=λa (b,c,d,e)=>bif e<d then(at? c e).bind λf=>a (EE DU f.1 e b,c,d,i64.wrap (e+1))else b
def A6K:=E0 zK fuel
def mO:Rd (Int×(KX (DO×Int))×(HH×(Int×(JU×JU)))×(KX GM)×Int×Int) (HH×(Int×(JU×JU))):=λa (b,c,d,e,f,g)=>bif g<f then(at? e g).bind λh=>bif b<h.2.2 then a (b,c,(d.1,d.2.1,d.2.2.1,d.2.2.2),e,f,i64.wrap (g+1))else(in? d.2.2.1.length ((DY DU h.1 c).getD 0)).bind λ_=>(app? 24 (d.2.2.1.getD (((DY DU h.1 c).getD 0).toNat) []) [(DY DU h.2.1 c).getD 0]).bind λi=>(in? d.2.2.2.length ((DY DU h.2.1 c).getD 0)).bind λ_=>(app? 24 (d.2.2.2.getD (((DY DU h.2.1 c).getD 0).toNat) []) [(DY DU h.1 c).getD 0]).bind λj=>(in? d.2.2.1.length ((DY DU h.1 c).getD 0)).bind λ_=>(bif Nat.beq (((DY DU h.1 c).getD 0).toNat) (((DY DU h.1 c).getD 0).toNat)then some ()else none).bind λ_=>(in? d.2.2.2.length ((DY DU h.2.1 c).getD 0)).bind λ_=>(bif Nat.beq (((DY DU h.2.1 c).getD 0).toNat) (((DY DU h.2.1 c).getD 0).toNat)then some ()else none).bind λ_=>a (b,c,(d.1,d.2.1,d.2.2.1.set (((DY DU h.1 c).getD 0).toNat) i,d.2.2.2.set (((DY DU h.2.1 c).getD 0).toNat) j),e,f,i64.wrap (g+1))else(d.1,d.2.1,d.2.2.1,d.2.2.2)
def A6L:=E0 mO fuel
def mP:Rd ((HH×(Int×(JU×JU)))×Int×Int) (HH×(Int×(JU×JU))):=λa (b,c,d)=>bif d<c then(in? b.2.2.1.length d).bind λ_=>(slices_Compact_int (b.2.2.1.getD d.toNat [])).bind λe=>(in? b.2.2.2.length d).bind λ_=>(slices_Compact_int (b.2.2.2.getD d.toNat [])).bind λf=>(in? b.2.2.1.length d).bind λ_=>(bif Nat.beq d.toNat d.toNat then some ()else none).bind λ_=>(in? b.2.2.2.length d).bind λ_=>(bif Nat.beq d.toNat d.toNat then some ()else none).bind λ_=>a ((b.1,b.2.1,b.2.2.1.set d.toNat e,b.2.2.2.set d.toNat f),c,i64.wrap (d+1))else(b.1,b.2.1,b.2.2.1,b.2.2.2)
def A6M:=E0 mP fuel
def mQ:HH×Int->X1 U1:=λ(a,b)=>(A6K ([],a.2.2.2.1,a.2.2.2.1.length,0)).bind λc=>(mks? 24 a.2.2.2.1.length a.2.2.2.1.length []).bind λd=>(mks? 24 a.2.2.2.1.length a.2.2.2.1.length []).bind λe=>(A6L (b,c,(a,(DY DU a.2.2.1 c).getD 0,d,e),a.2.2.2.2,a.2.2.2.2.length,0)).bind λb=>(A6M ((b.1,b.2.1,b.2.2.1,b.2.2.2),a.2.2.2.1.length,0)).bind λa=>(a.1,a.2.1,a.2.2.1,a.2.2.2)
def zL:HH×Int->X1 (U1×Int):=λ(a,b)=>(U3 a).bind λc=>bif !DT c 0 then some ((([],[],[],[],[]),0,[],[]),c)else bif b<1||4<b then some ((([],[],[],[],[]),0,[],[]),9)else(mQ (a,b)).bind λa=>some (a,0)
def A6N:Rd ((KX G_)×DO×((G_×DO)->X1 Int)×Int×Int) (Int):=λa (b,c,d,e,f)=>bif e<f then(shr? u64 (u64.wrap (i64.wrap (e+f))) 1).bind λg=>(at? b (i64.wrap g)).bind λh=>(d (h,c)).bind λh=>bif h<0 then a (b,c,d,i64.wrap (i64.wrap g+1),f)else a (b,c,d,e,i64.wrap g)else e
def A6O:=E0 A6N fuel
def mR:(KX G_)×DO×((G_×DO)->X1 Int)->X1 (Int×X5):=λ(a,b,c)=>(A6O (a,b,c,0,a.length)).bind λd=>(bif d<a.length then at? a d else some ([],([],[],[],[],[],[]),[],[],[])).bind λe=>(bif d<a.length then c (e,b)else some 0).bind λb=>some (d,(d<a.length)&&DT b 0)
def zM:G_×DO->X1 (Int):=λ(a,b)=>(M4 (a.1,b)).bind λa=>a
def zN:HH×DO->X1 (Int×X5):=λ(a,b)=>(mR (a.2.2.2.1,b,λx=>(zM x).bind λr=>r)).bind λa=>(a.1,a.2)
def zO:HH×DO×Int->X1 (U1×Int×Int):=λ(a,b,c)=>(zL (a,c)).bind λc=>bif !DT c.2 0 then some ((([],[],[],[],[]),0,[],[]),0,c.2)else(zN (a,b)).bind λa=>bif !a.2 then some ((([],[],[],[],[]),0,[],[]),0,4)else some (c.1,a.1,0)
def zP:Rd ((KX Int)×Int×Int) (KX Int):=λa (b,c,d)=>bif d<c then(in? b.length d).bind λ_=>a (b.set d.toNat (-1),c,i64.wrap (d+1))else b
def zQ:=E0 zP fuel
def WW:Rd (Int×(KX Int)×(KX Int)×Int×(KX Int)×Int×Int) ((KX Int)×(KX Int)):=λa (b,c,d,e,f,g,h)=>bif h<g then(at? f h).bind λi=>(in? c.length i).bind λ_=>bif c.getD i.toNat 0<0&&!DT i b then(in? c.length e).bind λ_=>(in? c.length i).bind λ_=>(app? 24 d [i]).bind λj=>a (b,c.set i.toNat (i64.wrap (c.getD e.toNat 0+1)),j,e,f,g,i64.wrap (h+1))else a (b,c,d,e,f,g,i64.wrap (h+1))else(c,d)
def mS:=E0 WW fuel
def bD:Rd (JU×Int×(KX Int)×(KX Int)) (KX Int):=λa (b,c,d,e)=>bif 0<(e.length:Int)then(in? e.length 0).bind λ_=>(cut? e 1 e.length).bind λf=>(at? b (e.getD 0 0)).bind λg=>(mS (c,d,f,e.getD 0 0,g,g.length,0)).bind λe=>a (b,c,e.1,e.2)else d
def zR:=E0 bD fuel
def mT:JU×Int×Int->X1 (KX Int):=λ(a,b,c)=>(mks? 24 a.length a.length 0).bind λd=>(zQ (d,d.length,0)).bind λd=>bif DT b c then d else(in? d.length b).bind λ_=>(zR (a,c,d.set b.toNat 0,[b])).bind λa=>a
def zS:Int×(X1 (KX Int))×(X1 Int)->X1 (X5):=λ(a,b,c)=>(b).bind λd=>(at? d a).bind λa=>(b).bind λb=>(c).bind λc=>(at? b c).bind λb=>some (DT a (i64.wrap (b-1)))
def zT:Rd ((KX Int)×NF×Int×Int) H0:=λa (b,c,d,e)=>bif e<d then(at? b e).bind λf=>(c f).bind λf=>bif f then some (.inr e)else a (b,c,d,i64.wrap (e+1))else some (.inl ())
def A6P:=E0 zT fuel
def mU:(KX Int)×NF->X1 (Int):=λ(a,b)=>(A6P (a,b,a.length,0)).bind λa=>match a with|.inl _=>some (-1)|.inr a=>a
def A6Q:Rd (Int×U1×(KX Int)×(KX Int)×Int) (KX Int):=λa (b,c,d,e,f)=>bif !DT f b then(at? c.2.2.1 f).bind λg=>(mU (g,λx=>(zS (x,some d,some f)).bind λr=>r)).bind λg=>(at? c.2.2.1 f).bind λf=>(at? f g).bind λf=>(app? 24 e [f]).bind λg=>a (b,c,d,g,f)else e
def A6R:=E0 A6Q fuel
def mV:U1×Int->X1 (KX Int):=λ(a,b)=>(mT (a.2.2.2,b,-1)).bind λc=>(at? c a.2.1).bind λd=>bif d<0 then some []else(A6R (b,a,c,[a.2.1],a.2.1)).bind λa=>a
def mW:Rd (U1×(KX DO)×(KX Int)×Int×Int) (KX DO):=λa (b,c,d,e,f)=>bif f<e then(at? d f).bind λg=>(at? b.1.2.2.2.1 g).bind λg=>(app? 24 c [g.1]).bind λg=>a (b,g,d,e,i64.wrap (f+1))else c
def A6S:=E0 mW fuel
def mX:U1×(KX Int)->X1 (KX DO):=λ(a,b)=>(A6S (a,[],b,b.length,0)).bind λa=>a
def mY:HH×DO×Int->X1 ((KX DO)×X5×Int):=λ(a,b,c)=>(zO (a,b,c)).bind λa=>bif !DT a.2.2 0 then some ([],false,a.2.2)else(mV (a.1,a.2.1)).bind λb=>(mX (a.1,b)).bind λa=>some (a,0<(a.length:Int),0)
def SM(a:(Int×X5)×X5):KX ((Int×X5)×X5)->X1 (Sum L0 (Unit)):=λb=>some (.inl (EE (λ(x y:Int×X5)=>DT x.1 y.1&&IE x.2 y.2) a.1 true b))
def mZ:L0×(Int×X5)->X1 L0:=λ(a,b)=>(FI SM a (EE (λ(x y:Int×X5)=>DT x.1 y.1&&IE x.2 y.2) b true [])).bind λa=>match a with|.inl a=>a|.inr _=>some []
def M5(a:(Int×X5)×X5):L0×KJ×X5->X1 (Sum (L0×KJ×X5) (Unit)):=λ(b,c,d)=>(bif !(a.1.2||c.2.1.length<=a.1.1)then at? c.2.1 a.1.1 else some (0,0)).bind λe=>(bif !(a.1.2||c.2.1.length<=a.1.1)&&!DT e.1 2 then at? c.2.1 a.1.1 else some (0,0)).bind λf=>bif a.1.2||c.2.1.length<=a.1.1||!DT e.1 2&&!DT f.1 4 then some (.inl (b,c,d))else bif !(DY (λ(x y:Int×X5)=>DT x.1 y.1&&IE x.2 y.2) (i64.wrap (a.1.1+1),false) b).getD false then(mZ (b,i64.wrap (a.1.1+1),false)).bind λa=>some (.inl (a,c,true))else some (.inl (b,c,d))
def A6T:Rd (L0×KJ×X5) L0:=λa (b,c,d)=>bif d then(FI M5 b (b,c,false)).bind λc=>match c with|.inl c=>a (c.1,c.2.1,c.2.2)|.inr _=>none else b
def A6U:=E0 A6T fuel
def bE:KJ×L0->X1 L0:=λ(a,b)=>(A6U (b,a,true)).bind λa=>a
def m_:DO×I6×Int->X1 L0:=λa=>(bE (a,EE (λ(x y:Int×X5)=>DT x.1 y.1&&IE x.2 y.2) (0,false) true [])).bind λa=>a
def zU:(KX Int)×X5->X1 (KX Int):=λ(a,b)=>bif b then(app? 24 a [256]).bind λb=>b else a
def nA:Rd ((KX Int)×DO×Int×Int) (KX Int):=λa (b,c,d,e)=>bif e<d then(at? c e).bind λf=>(app? 24 b [i64.wrap f.toNat]).bind λf=>a (f,c,d,i64.wrap (e+1))else b
def zV:=E0 nA fuel
def nB:Rd ((KX Int)×(KX DO)×Int×Int) (KX Int):=λa (b,c,d,e)=>bif e<d then(at? c e).bind λf=>(zU (b,0<(b.length:Int))).bind λg=>(zV (g,f,f.length,0)).bind λf=>a (f,c,d,i64.wrap (e+1))else b
def A6V:=E0 nB fuel
def nC:Rd (JA×(KX Int)×Int×Int) (KX Int):=λa (b,c,d,e)=>bif e<d then(at? b.2.2.2.1 e).bind λf=>(app? 24 c [i64.wrap f.toNat]).bind λf=>a (b,f,d,i64.wrap (e+1))else c
def A6W:=E0 nC fuel
def nD:DO×DO×DO×DO×DZ×DO->X1 (KX Int):=λa=>(U2 a.2.1).bind λb=>(app? 24 b [a.2.2.1]).bind λb=>(A6V ([],b,b.length,0)).bind λb=>bif !DU a.2.2.2.1 []then(app? 24 b [257]).bind λc=>(A6W (a,c,a.2.2.2.1.length,0)).bind λa=>a else b
def OC:KJ×(Int×X5)×Int->X1 ((Int×X5)×X5):=λ(a,b,c)=>bif a.2.1.length<=b.1 then some ((0,false),false)else(at? a.2.1 b.1).bind λa=>bif DT a.1 1 then some ((i64.wrap (b.1+1),false),DT c (i64.wrap a.2))else bif DT a.1 2 then some (b,(c<256)&&!DT c 47)else bif DT a.1 3 then some ((i64.wrap (b.1+1),false),DT c 256)else bif DT a.1 5 then some ((i64.wrap (b.1+1),false),DT c 257)else bif DT a.1 4 then bif DT c 256 then some ((b.1,false),b.2)else some ((b.1,true),c<256)else some ((b.1,true),(DT c 257&&!b.2)||c<256&&b.2)
def M6(a:(Int×X5)×X5):Int×KJ×L0->X1 (Sum (Int×KJ×L0) (Unit)):=λ(b,c,d)=>(OC (c,a.1,b)).bind λa=>bif a.2 then some (.inl (b,c,EE (λ(x y:Int×X5)=>DT x.1 y.1&&IE x.2 y.2) a.1 true d))else some (.inl (b,c,d))
def nE:KJ×L0×Int->X1 L0:=λ(a,b,c)=>(FI M6 b (c,a,[])).bind λa=>match a with|.inl a=>(bE (a.2.1,a.2.2)).bind λa=>a|.inr _=>some []
def UE:KJ×(Int×X5)->X1 (X5):=λ(a,b)=>(bif !DT b.1 a.2.1.length then at? a.2.1 b.1 else some (0,0)).bind λc=>some (DT b.1 a.2.1.length||DT c.1 6)
def nF:Rd (KJ×L0×(KX Int)×Int×Int) (Sum (KJ×L0) (X5×Int)):=λa (b,c,d,e,f)=>bif f<e then(at? d f).bind λg=>(nE (b,c,g)).bind λg=>(len? g.length).bind λh=>bif DT h 0 then some (.inr (false,0))else a (b,g,d,e,i64.wrap (f+1))else some (.inl (b,c))
def A6X:=E0 nF fuel
def UF(a:(Int×X5)×X5):DO×I6×Int->X1 (Sum KJ (X5×Int)):=λb=>(UE (b,a.1)).bind λa=>bif a then some (.inr (true,0))else some (.inl b)
def bF:DO×JA->X1 (X5×Int):=λ(a,b)=>(a_ a).bind λa=>bif !DT a.2.2 0 then some (false,a.2.2)else(MM b).bind λc=>bif !DT c 0 then some (false,c)else(WK b).bind λb=>bif !DU a.1.1 [42]&&!DU a.1.1 b.1 then some (false,0)else(m_ a.1).bind λc=>(nD b).bind λb=>(A6X (a.1,c,b,b.length,0)).bind λa=>match a with|.inl a=>(RR (λb:KX ((Int×X5)×X5)=>b.Perm a.2) λb=>(FI UF b a.1).bind λa=>match a with|.inl _=>some (false,0)|.inr a=>(a.1,a.2))|.inr a=>(a.1,a.2)
def nG:(X1 IM)×(DO×DO×DO×Int×Int×Int×Int)×GX×G_->X1 (X5):=λ(a,b,c,d)=>(bif !DU b.1 c.1 then L1 (c.2.1,b.1)else some false).bind λe=>(bif !(!DU b.1 c.1&&!e)&&!DU b.2.1 []then a else some ((([],[],[],[],[]),0,(0,[],[]),[],0,[],[]),[],[],[],[])).bind λa=>bif !DU b.1 c.1&&!e||!DU b.2.1 []&&!DU b.2.1 a.1.1.1 then some false else(bF (b.2.2.1,d.2.1)).bind λa=>a.1
def nH:Rd ((X1 IM)×GX×G_×Int×QI×Int×Int) (Int):=λa (b,c,d,e,f,g,h)=>bif h<g then(at? f h).bind λi=>(nG (b,i,c,d)).bind λj=>bif !j then a (b,c,d,e,f,g,i64.wrap (h+1))else bif e<0 then a (b,c,d,h,f,g,i64.wrap (h+1))else(b).bind λj=>(at? j.1.2.2.2.2.2.2 e).bind λj=>bif DU i.1 j.1&&(DU i.2.1 j.2.1&&(DU i.2.2.1 j.2.2.1&&(DT i.2.2.2.1 j.2.2.2.1&&(DT i.2.2.2.2.1 j.2.2.2.2.1&&(DT i.2.2.2.2.2.1 j.2.2.2.2.2.1&&DT i.2.2.2.2.2.2 j.2.2.2.2.2.2)))))||j.2.2.2.2.2.2<i.2.2.2.2.2.2||DT i.2.2.2.2.2.2 j.2.2.2.2.2.2&&j.2.2.2.2.2.1<=i.2.2.2.2.2.1 then a (b,c,d,h,f,g,i64.wrap (h+1))else a (b,c,d,e,f,g,i64.wrap (h+1))else e
def A6Y:=E0 nH fuel
def nI:(X1 IM)×GX×G_->X1 (Int):=λ(a,b,c)=>(a).bind λd=>(A6Y (a,b,c,-1,d.1.2.2.2.2.2.2,d.1.2.2.2.2.2.2.length,0)).bind λa=>a
def WX:(X1 IM)×GM×GX×G_×(KX DO)×Int×(KX DO)->X1 (KX DO):=λa=>(at? a.2.2.1.2.2.2.2.2.2 a.2.1.2.2).bind λa=>a.2.2.2.2
def nJ:Rd (GM×gF×QH×Int×Int) (GM×gF):=λa (b,c,d,e,f)=>bif f<e then(at? d f).bind λg=>(bif DU g.2.1 b.2.1 then WX (c.1,c.2.1,c.2.2.1,c.2.2.2.1,c.2.2.2.2.1,c.2.2.2.2.2.1,c.2.2.2.2.2.2)else some []).bind λh=>(bif DU g.2.1 b.2.1&&!DT h.length 0 then WX (c.1,c.2.1,c.2.2.1,c.2.2.2.1,c.2.2.2.2.1,c.2.2.2.2.2.1,c.2.2.2.2.2.2)else some []).bind λi=>(bif DU g.2.1 b.2.1&&!DT h.length 0 then L1 (i,g.1)else some false).bind λi=>bif DU g.2.1 b.2.1&&(DT h.length 0||i)then(app? 24 c.2.2.2.2.2.2 [g.1]).bind λg=>a (b,(c.1,c.2.1,c.2.2.1,c.2.2.2.1,c.2.2.2.2.1,c.2.2.2.2.2.1,g),d,e,i64.wrap (f+1))else a (b,(c.1,c.2.1,c.2.2.1,c.2.2.2.1,c.2.2.2.2.1,c.2.2.2.2.2.1,c.2.2.2.2.2.2),d,e,i64.wrap (f+1))else(b,c.1,c.2.1,c.2.2.1,c.2.2.2.1,c.2.2.2.2.1,c.2.2.2.2.2.1,c.2.2.2.2.2.2)
def zW:=E0 nJ fuel
def nK:Rd (GM×gF×(KX JK)×Int×Int) gF:=λa (b,c,d,e,f)=>bif f<e then(at? d f).bind λg=>(zW (b,(c.1,c.2.1,c.2.2.1,c.2.2.2.1,c.2.2.2.2.1,c.2.2.2.2.2.1,c.2.2.2.2.2.2),g.2.2.1,g.2.2.1.length,0)).bind λb=>a (b.1,(b.2.1,b.2.2.1,b.2.2.2.1,b.2.2.2.2.1,b.2.2.2.2.2.1,b.2.2.2.2.2.2.1,b.2.2.2.2.2.2.2),d,e,i64.wrap (f+1))else(c.1,c.2.1,c.2.2.1,c.2.2.2.1,c.2.2.2.2.1,c.2.2.2.2.2.1,c.2.2.2.2.2.2)
def zX:=E0 nK fuel
def P3:(X1 IM)×GM->X1 SD:=λ(a,b)=>(a).bind λc=>let d:=(DY DU b.1 c.2.1).getD ([],[],[],0,false,[],[]);(a).bind λc=>let e:=(DY DU b.2.1 c.2.2.1).getD ([],([],[],[],[],[],[]),[],[],[]);(a).bind λc=>(a).bind λf=>(mY (c.1.1,b.2.1,f.1.2.1)).bind λc=>(nI (a,d,e)).bind λf=>(a).bind λg=>(zX (b,(a,b,d,e,c.1,f,[]),g.1.2.2.2.1,g.1.2.2.2.1.length,0)).bind λa=>(a.1,a.2.1,a.2.2.1,a.2.2.2.1,a.2.2.2.2.1,a.2.2.2.2.2.1,a.2.2.2.2.2.2)
def nL:(X1 IM)×GM×GX×G_×(KX DO)×Int×(KX DO)->X1 (X5):=λa=>some (DT a.2.2.2.2.1.length 0)
def bG:SD×Int×Int->X1 (X5):=λ(a,b,c)=>bif a.2.2.2.2.2.1<0 then some false else(a.1).bind λd=>(at? d.1.2.2.2.2.2.2 a.2.2.2.2.2.1).bind λa=>some (DT a.2.2.2.1 b||DT a.2.2.2.1 c)
def bH:(X1 IM)×GM×GX×G_×(KX DO)×Int×(KX DO)->X1 (X5):=λa=>(bG (a,3,4)).bind λa=>a
def nM:Rd (SD×(KX DO)×Int×Int) (Sum (Unit) DO):=λa (b,c,d,e)=>bif e<d then(at? c e).bind λf=>(b.1).bind λg=>bif (DY DU f g.2.2.2.1).getD false then some (.inr f)else a (b,c,d,i64.wrap (e+1))else some (.inl ())
def A6Z:=E0 nM fuel
def WY:(X1 IM)×GM×GX×G_×(KX DO)×Int×(KX DO)->X1 DO:=λa=>(A6Z (a,a.2.2.2.2.2.2,a.2.2.2.2.2.2.length,0)).bind λa=>match a with|.inl _=>some []|.inr a=>a
def bI:(X1 IM)×GM×GX×G_×(KX DO)×Int×(KX DO)->X1 (X5):=λa=>(WY a).bind λa=>some (!DU a [])
def bJ:(X1 IM)×GM×GX×G_×(KX DO)×Int×(KX DO)->X1 (X5):=λa=>(bG (a,2,2)).bind λa=>a
def WZ:(X1 IM)×GM×GX×G_×(KX DO)×Int×(KX DO)->X1 (X5):=λa=>(a.1).bind λb=>let c:=(DT b.1.2.2.2.1.length 1&&0<(a.2.2.2.2.2.2.length:Int));(bif c then WX a else some []).bind λb=>some (c&&b.length<=(a.2.2.2.2.2.2.length:Int))
def zY:Unit->X1 (KX (Int×(X1 (SD->X1 X5)))):=λ_=>some [(1,some (λx=>(nL x).bind λr=>r)),(2,some (λx=>(bH x).bind λr=>r)),(6,some (λx=>(bI x).bind λr=>r)),(5,some (λx=>(bJ x).bind λr=>r)),(3,some (λx=>(WZ x).bind λr=>r))]
def SN:Rd (SD×(KX (Int×(X1 (SD->X1 X5))))×Int×Int) H0:=λa (b,c,d,e)=>bif e<d then(at? c e).bind λf=>(f.2.bind (λF=>F b)).bind λg=>bif g then some (.inr f.1)else a (b,c,d,i64.wrap (e+1))else some (.inl ())
def zZ:=E0 SN fuel
def SO:(X1 IM)×GM×GX×G_×(KX DO)×Int×(KX DO)->X1 (Int):=λa=>(zY ()).bind λb=>(zZ (a,b,b.length,0)).bind λa=>match a with|.inl _=>some 4|.inr a=>a
def UG:(X1 IM)×GM×GX×G_×(KX DO)×Int×(KX DO)->X1 (Int):=λa=>bif DU a.2.2.1.2.2.2.2.2.1 []then some 100 else(U4 a.2.2.1.2.2.2.2.2.1).bind λa=>a.1
def QT:JK×Int×(KX DO)×DO->X1 ((X1 GE)×Int×Int):=λ(a,b,c,d)=>(aX (a,b,c)).bind λa=>bif !DT a.2 0 then some ((none:X1 GE),0,a.2)else(a.1).bind λb=>bif !(DY DU d b.2.1).isSome then some ((none:X1 GE),0,4)else some (a.1,(DY DU d b.2.1).getD 0,0)
def bK:(X1 GE)×M1->X1 (X1 (KX X5)):=λ(a,b)=>(a).bind λa=>bif a.2.2.2.2.2 then(b).bind λa=>some (some a.2.2.1)else some (none:X1 (KX X5))
def nN:Rd ((X1 GE)×(X1 (KX X5))×IL×(KX Int)×(KX Int)×Int×Int) (KX Int):=λa (b,c,d,e,f,g,h)=>bif h<g then(at? f h).bind λi=>(nilM? c).bind λj=>(bif !j then at? (c.getD []) i else some false).bind λk=>bif j||k then(SJ (b,d,i)).bind λi=>(app? 24 e [i]).bind λi=>a (b,c,d,i,f,g,i64.wrap (h+1))else a (b,c,d,e,f,g,i64.wrap (h+1))else e
def z_:=E0 nN fuel
def UH:(X1 GE)×IL×(X1 (KX X5))->X1 (KX Int):=λ(a,b,c)=>bif DT b.1 1 then(a).bind λd=>some [(DY DU b.2.1 d.2.1).getD 0]else(a).bind λd=>(z_ (a,c,b,[],(DY DU b.2.1 d.2.2.2.1).getD [],(((DY DU b.2.1 d.2.2.2.1).getD []).length:Int),0)).bind λa=>(slices_Sort_int a).bind λa=>(slices_Compact_int a).bind λa=>a
def nO:Rd (JU×Int×(KX Int)×Int×Int) JU:=λa (b,c,d,e,f)=>bif f<e then(at? d f).bind λg=>(in? b.length g).bind λ_=>(app? 24 (b.getD g.toNat []) [c]).bind λh=>(in? b.length g).bind λ_=>(bif Nat.beq g.toNat g.toNat then some ()else none).bind λ_=>a (b.set g.toNat h,c,d,e,i64.wrap (f+1))else b
def A00:=E0 nO fuel
def nP:Rd ((X1 GE)×M1×JU×Int×(KX IL)×Int×Int) JU:=λa (b,c,d,e,f,g,h)=>bif h<g then(at? f h).bind λi=>(b).bind λj=>bif (DY DU i.2.2.2 j.2.2.2.2.1).getD false then(bK (b,c)).bind λj=>(UH (b,i,j)).bind λi=>(A00 (d,e,i,i.length,0)).bind λi=>a (b,c,i,e,f,g,i64.wrap (h+1))else a (b,c,d,e,f,g,i64.wrap (h+1))else d
def A6_:=E0 nP fuel
def nQ:Rd ((X1 GE)×M1×JU×QH×Int×Int) JU:=λa (b,c,d,e,f,g)=>bif g<f then(at? e g).bind λh=>(c).bind λi=>(at? i.2.1 g).bind λi=>bif !i then a (b,c,d,e,f,i64.wrap (g+1))else(A6_ (b,c,d,g,h.2.2.1,h.2.2.1.length,0)).bind λh=>a (b,c,h,e,f,i64.wrap (g+1))else d
def A01:=E0 nQ fuel
def AJD:Rd ((KX Int)×Int×Int) (KX Int):=λa (b,c,d)=>bif d<c then(in? b.length d).bind λ_=>a (b.set d.toNat (-1),c,i64.wrap (d+1))else b
def A02:=E0 AJD fuel
def nR:Rd ((KX Int)×(KX Int)×Int×(KX Int)×Int×Int) ((KX Int)×(KX Int)):=λa (b,c,d,e,f,g)=>bif g<f then(at? e g).bind λh=>(in? b.length h).bind λ_=>bif b.getD h.toNat 0<0 then(in? b.length d).bind λ_=>(in? b.length h).bind λ_=>(app? 24 c [h]).bind λi=>a (b.set h.toNat (i64.wrap (b.getD d.toNat 0+1)),i,d,e,f,i64.wrap (g+1))else a (b,c,d,e,f,i64.wrap (g+1))else(b,c)
def A03:=E0 nR fuel
def nS:Rd (JU×(KX Int)×(KX Int)) (KX Int):=λa (b,c,d)=>bif 0<(d.length:Int)then(in? d.length 0).bind λ_=>(cut? d 1 d.length).bind λe=>(at? b (d.getD 0 0)).bind λf=>(A03 (c,e,d.getD 0 0,f,f.length,0)).bind λd=>a (b,d.1,d.2)else c
def A04:=E0 nS fuel
def nT:(X1 GE)×M1×Int->X1 (KX Int):=λ(a,b,c)=>(a).bind λd=>(mks? 24 d.1.2.2.1.length d.1.2.2.1.length []).bind λd=>(a).bind λe=>(A01 (a,b,d,e.1.2.2.1,e.1.2.2.1.length,0)).bind λb=>(a).bind λa=>(mks? 24 a.1.2.2.1.length a.1.2.2.1.length 0).bind λa=>(A02 (a,a.length,0)).bind λa=>(in? a.length c).bind λ_=>(A04 (b,a.set c.toNat 0,[c])).bind λa=>a
def nU:Rd ((X1 GE)×(KX Int)×Int×IG×IL×Int×IL×(KX Int)×Int×Int) (Sum (IG×IL) (IG×IL×Int)):=λa (b,c,d,e,f,g,h,i,j,k)=>bif k<j then(at? i k).bind λl=>(at? c l).bind λm=>(at? c d).bind λn=>bif DT m (i64.wrap (n-1))then(b).bind λm=>(at? m.1.2.2.1 d).bind λm=>(b).bind λn=>(at? n.1.2.2.1 l).bind λn=>some (.inr (((m.1,g),n.1),h,l))else a (b,c,d,e,f,g,h,i,j,i64.wrap (k+1))else some (.inl (e,f))
def A6a:=E0 nU fuel
def A05:Rd ((X1 GE)×M1×(KX Int)×Int×IG×IL×(KX IL)×Int×Int) (Sum (IG×IL) (IG×IL×Int)):=λa (b,c,d,e,f,g,h,i,j)=>bif j<i then(at? h j).bind λk=>(b).bind λl=>bif !(DY DU k.2.2.2 l.2.2.2.2.1).getD false then a (b,c,d,e,f,g,h,i,i64.wrap (j+1))else(bK (b,c)).bind λl=>(UH (b,k,l)).bind λl=>(A6a (b,d,e,f,g,j,k,l,l.length,0)).bind λk=>match k with|.inl k=>a (b,c,d,e,k.1,k.2,h,i,i64.wrap (j+1))|.inr a=>some (.inr (a.1,a.2.1,a.2.2))else some (.inl (f,g))
def A6b:=E0 A05 fuel
def nV:(X1 GE)×M1×(KX Int)×Int->X1 (IG×IL×Int):=λ(a,b,c,d)=>(a).bind λe=>(at? e.1.2.2.1 d).bind λe=>(A6b (a,b,c,d,(([],0),[]),(0,[],[],[]),e.2.2.1,e.2.2.1.length,0)).bind λa=>match a with|.inl _=>some ((([],0),[]),(0,[],[],[]),d)|.inr a=>(a.1,a.2.1,a.2.2)
def A06:Rd ((X1 GE)×M1×Int×IL×(KX Int)×Int×Int) (Sum (Unit) DO):=λa (b,c,d,e,f,g,h)=>bif h<g then(at? f h).bind λi=>(c).bind λj=>(at? j.2.2.1 i).bind λj=>(bif j then SJ (b,e,i)else some 0).bind λk=>bif j&&DT k d then(b).bind λj=>(at? j.1.2.1 i).bind λi=>some (.inr i.1)else a (b,c,d,e,f,g,i64.wrap (h+1))else some (.inl ())
def A6c:=E0 A06 fuel
def nW:(X1 GE)×M1×IL×Int->X1 DO:=λ(a,b,c,d)=>(a).bind λe=>(A6c (a,b,d,c,(DY DU c.2.1 e.2.2.2.1).getD [],(((DY DU c.2.1 e.2.2.2.1).getD []).length:Int),0)).bind λa=>match a with|.inl _=>some []|.inr a=>a
def A07:Rd (M1×DO×QH×Int×Int) (Sum (Unit) DO):=λa (b,c,d,e,f)=>bif f<e then(at? d f).bind λg=>(b).bind λh=>(at? h.2.1 f).bind λh=>(bif h then L1 (g.2.2.2,c)else some false).bind λi=>bif h&&i then some (.inr g.1)else a (b,c,d,e,i64.wrap (f+1))else some (.inl ())
def A6d:=E0 A07 fuel
def nX:(X1 GE)×M1×DO->X1 DO:=λ(a,b,c)=>(a).bind λa=>(A6d (b,c,a.1.2.2.1,a.1.2.2.1.length,0)).bind λa=>match a with|.inl _=>some []|.inr a=>a
def SP:(DO×DO)×(DO×DO)->X1 (Int):=λ(a,b)=>(M4 (a.1,b.1)).bind λa=>a
def nY:Rd ((X1 GE)×(KX Int)×Int×(KX DO)×Int×Int) (Int):=λa (b,c,d,e,f,g)=>bif g<f then(at? e g).bind λh=>(b).bind λi=>(at? c ((DY DU h i.2.1).getD 0)).bind λj=>(bif 0<=j&&!(d<0)then at? c ((DY DU h i.2.1).getD 0)else some 0).bind λk=>(bif 0<=j&&!(d<0)then at? c d else some 0).bind λl=>bif 0<=j&&(d<0||k<l)then a (b,c,(DY DU h i.2.1).getD 0,e,f,i64.wrap (g+1))else a (b,c,d,e,f,i64.wrap (g+1))else d
def A6e:=E0 nY fuel
def A6f:Rd ((X1 GE)×Int×M1×(KX Int)×(DO×((KX IG)×DZ))×DZ×Int) ((DO×((KX IG)×DZ))×DZ):=λa (b,c,d,e,f,g,h)=>bif !DT h c then(nV (b,d,e,h)).bind λh=>(b).bind λi=>bif i.2.2.2.2.2&&DT h.2.1.1 2 then(nW (b,d,h.2.1,h.2.2)).bind λi=>(nX (b,d,i)).bind λj=>(app? 72 f.2.1 [h.1]).bind λk=>a (b,c,d,e,(f.1,k,f.2.2),EE DU i j g,h.2.2)else(app? 72 f.2.1 [h.1]).bind λi=>a (b,c,d,e,(f.1,i,f.2.2),g,h.2.2)else some ((f.1,f.2.1,f.2.2),g)
def A6g:=E0 A6f fuel
def W_(a:DO×DO):DO×((KX IG)×DZ)->X1 (Sum (DO×((KX IG)×DZ)) (Unit)):=λb=>(app? 48 b.2.2 [(a.1,a.2)]).bind λa=>some (.inl (b.1,b.2.1,a))
def X0:JK×Int×(KX DO)×DO->X1 ((DO×(KX IG)×DZ)×X5×Int):=λ(a,b,c,d)=>(QT (a,b,c,d)).bind λb=>bif !DT b.2.2 0 then some (([],[],[]),false,b.2.2)else(OB (b.1,-1)).bind λc=>(c).bind λd=>(at? d.2.1 b.2.1).bind λd=>bif !d then some (([],[],[]),false,0)else(nT (b.1,c,b.2.1)).bind λd=>(A6e (b.1,d,-1,a.2.2.2,a.2.2.2.length,0)).bind λe=>(at? a.2.2.1 e).bind λa=>(A6g (b.1,b.2.1,c,d,(a.1,[],[]),[],e)).bind λa=>RR (λb:KX (DO×DO)=>b.Perm a.2) λb=>(FI W_ b (a.1.1,a.1.2.1,a.1.2.2)).bind λa=>match a with|.inl a=>(gE (a.2.2,λx=>(SP x).bind λr=>r)).bind λb=>some ((a.1,a.2.1,b),true,0)|.inr _=>some (([],[],[]),false,0)
def NL:(X1 IM)×GM×GX×G_×(KX DO)×Int×(KX DO)->X1 LF:=λa=>(SO a).bind λb=>(UG a).bind λc=>let d:=(a.2.1.1,a.2.1.2.1,a.2.1.2.2,b,c,a.2.2.2.2.1,[],[],a.2.2.2.2.2.1);bif DT d.2.2.2.1 6 then(WY a).bind λb=>(a.1).bind λc=>(at? c.1.2.2.2.1 0).bind λc=>(a.1).bind λe=>(a.1).bind λa=>(X0 (c,e.1.2.2.2.2.1,a.1.2.2.2.2.2.1,b)).bind λa=>some (d.1,d.2.1,d.2.2.1,d.2.2.2.1,d.2.2.2.2.1,d.2.2.2.2.2.1,b,[a.1],d.2.2.2.2.2.2.2.2)else some d
def nZ:Rd ((X1 IM)×(KX LF)×(KX GM)×Int×Int) (KX LF):=λa (b,c,d,e,f)=>bif f<e then(at? d f).bind λg=>(P3 (b,g)).bind λg=>(NL g).bind λg=>(app? 216 c [g]).bind λg=>a (b,g,d,e,i64.wrap (f+1))else c
def A6h:=E0 nZ fuel
def X6:HH×Int×NC×(KX JK)×Int×(KX DO)×QI->X1 ((X1 IM)×(KX LF)×Int):=λa=>(P2 a).bind λb=>bif !DT b 0 then some ((none:X1 IM),[],b)else(mI (a.2.2.1,a.1)).bind λb=>bif !DT b.2 0 then some ((none:X1 IM),[],b.2)else(QS a).bind λa=>(A6h (a,[],b.1,b.1.length,0)).bind λb=>some (a,b,0)
def o5:HH×Int×NC×(KX JK)×Int×(KX DO)×QI->X1 ((KX LF)×Int):=λa=>(X6 a).bind λa=>(a.2.1,a.2.2)
def A6i:Int×DO×DO->X1 (HJ×HJ×Int):=λ(a,b,c)=>(KN (a,b)).bind λb=>bif !DT b.2 0 then some (.inr (.inr (.inr (.inr (.inr ())))),.inr (.inr (.inr (.inr (.inr ())))),b.2)else(KN (a,c)).bind λa=>(b.1,a.1,a.2)
def A08:Int×DO×DO->X1 (Int×Int):=λ(a,b,c)=>(A6i (a,b,c)).bind λa=>bif !DT a.2.2 0 then some (0,a.2.2)else((λz=>Sum.casesOn (motive:=λ_=>X1 DO) z (λx=>(QL x).bind λr=>r) (λz=>z.casesOn (λx=>(QN x).bind λr=>r) (λz=>z.casesOn (λx=>(QO x).bind λr=>r) (λz=>z.casesOn (λx=>(QP x).bind λr=>r) (λz=>z.casesOn (λx=>(QQ x).bind λr=>r) (λ_=>none)))))) a.1).bind λb=>((λz=>Sum.casesOn (motive:=λ_=>X1 DO) z (λx=>(QL x).bind λr=>r) (λz=>z.casesOn (λx=>(QN x).bind λr=>r) (λz=>z.casesOn (λx=>(QO x).bind λr=>r) (λz=>z.casesOn (λx=>(QP x).bind λr=>r) (λz=>z.casesOn (λx=>(QQ x).bind λr=>r) (λ_=>none)))))) a.2.1).bind λa=>(M4 (b,a)).bind λa=>some (a,0)
def o6:Unit->X1 (X5):=λ_=>(U4 [78,72,76,76,78,78]).bind λa=>(A08 (5,[57],[49,48])).bind λb=>some (DT a.1 34&&DT a.2 0&&DT b.1 (-1)&&DT b.2 0)
def AJE:Unit->X1 (KX DO):=λ_=>some []
def A09:KX DO->X1 (KX DO):=λa=>(app? 24 [] a).bind λa=>a
def A0A:KX DO->X1 (KX DO):=A09
def o7:Rd (GX×JA×KK×DO×(KX Int)×(KX GW)×Int×Int) (KX Int):=λa (b,c,d,e,f,g,h,i)=>bif i<h then(at? g i).bind λj=>(bif !b.2.2.2.2.1 then at? d i else some (0,[])).bind λk=>(bif !b.2.2.2.2.1 then UD (j,k,e,c.2.2.2.1)else some false).bind λj=>bif !b.2.2.2.2.1&&j then(app? 24 f [i]).bind λj=>a (b,c,d,e,j,g,h,i64.wrap (i+1))else a (b,c,d,e,f,g,h,i64.wrap (i+1))else f
def A0B:=E0 o7 fuel
def o8:GX×JA->X1 ((KX Int)×Int):=λ(a,b)=>(NK a).bind λc=>bif !DT c.2 0 then some ([],c.2)else(JV b).bind λd=>bif !DT d.2 0 then some ([],d.2)else(A0B (a,b,c.1,d.1,[],a.2.2.2.2.2.2,a.2.2.2.2.2.2.length,0)).bind λa=>some (a,0)
def UI:(X1 IM)×LF->X1 (X5):=λ(a,b)=>(a).bind λc=>(a).bind λa=>bif !(DY DU b.1 c.2.1).isSome||!(DY DU b.2.1 a.2.2.1).isSome then some false else(o8 ((DY DU b.1 c.2.1).getD ([],[],[],0,false,[],[]),(((DY DU b.2.1 a.2.2.1).getD ([],([],[],[],[],[],[]),[],[],[])).2).1)).bind λa=>(bif DT a.2 0 then SI (a.1,b.2.2.1)else some false).bind λb=>some (DT a.2 0&&b)
def UJ:Rd ((X1 IM)×(KX DO)×(KX DO)×Int×Int) K5:=λa (b,c,d,e,f)=>bif f<e then(at? d f).bind λg=>(cut? c 0 f).bind λh=>(L1 (h,g)).bind λh=>(bif !h&&0<f then b else some ((([],[],[],[],[]),0,(0,[],[]),[],0,[],[]),[],[],[],[])).bind λi=>(bif !h&&0<f then at? c (i64.wrap (f-1))else some []).bind λj=>bif h||0<f&&!(DY (λ(x y:DO×DO×Int)=>DU x.1 y.1&&(λ(x y:DO×Int)=>DU x.1 y.1&&DT x.2 y.2) x.2 y.2) (j,g,0) i.2.2.2.2).getD false then some (.inr false)else a (b,c,d,e,i64.wrap (f+1))else some (.inl ())
def A6j:=E0 UJ fuel
def UK:(X1 IM)×(KX DO)×DO->X1 (X5):=λ(a,b,c)=>(bif !DT b.length 0 then at? b 0 else some []).bind λd=>(bif !DT b.length 0 then a else some ((([],[],[],[],[]),0,(0,[],[]),[],0,[],[]),[],[],[],[])).bind λe=>let f:=(DT b.length 0||!DU d e.1.1.2.2.1);(bif !f then at? b (i64.wrap (b.length-1))else some []).bind λd=>bif f||!DU d c then some false else(A6j (a,b,b,b.length,0)).bind λa=>match a with|.inl _=>some true|.inr a=>a
def bL:SD×LF->X1 (X5):=λ(a,b)=>bif DT b.2.2.2.1 1 then some (0<(b.2.2.2.2.2.1.length:Int)||0<(a.2.2.2.2.1.length:Int))else(UK (a.1,b.2.2.2.2.2.1,b.2.1)).bind λa=>some (!a)
def o9:Rd ((X1 GE)×M1×DZ×DZ×Int×Int) K5:=λa (b,c,d,e,f,g)=>bif g<f then(at? e g).bind λh=>(b).bind λi=>(b).bind λj=>let k:=(!(DY DU h.2 i.2.1).isSome||!(DY DU h.1 j.2.2.1).isSome);(bif !k&&0<g then at? d (i64.wrap (g-1))else some ([],[])).bind λj=>let l:=(0<g&&(Op.bytesLess h.1 j.1||DU h.1 j.1));(bif !(k||l)then c else some ((none:X1 GE),[],[],[],[],[],[])).bind λj=>(bif !(k||l)then at? j.2.1 ((DY DU h.2 i.2.1).getD 0)else some false).bind λj=>(bif !(k||l||!j)then b else some (([],[],[],[]),[],[],[],[],false)).bind λm=>(bif !(k||l||!j)then at? m.1.2.2.1 ((DY DU h.2 i.2.1).getD 0)else some ([],[],[],[])).bind λi=>(bif !(k||l||!j)then L1 (i.2.2.2,h.1)else some false).bind λh=>bif k||l||!j||!h then some (.inr false)else a (b,c,d,e,f,i64.wrap (g+1))else some (.inl ())
def A0C:=E0 o9 fuel
def oA:(X1 GE)×M1×DZ->X1 (X5):=λ(a,b,c)=>(A0C (a,b,c,c,c.length,0)).bind λa=>match a with|.inl _=>some true|.inr a=>a
def X7:(X1 GE)×IG×DO->X1 (IL×X5):=λ(a,b,c)=>(a).bind λd=>let e:=(!(DY DU c d.2.1).isSome||!DU b.1.1 c);(bif !(e||b.1.2<0)then a else some (([],[],[],[]),[],[],[],[],false)).bind λf=>(bif !(e||b.1.2<0)then at? f.1.2.2.1 ((DY DU c d.2.1).getD 0)else some ([],[],[],[])).bind λf=>bif e||b.1.2<0||f.2.2.1.length<=b.1.2 then some ((0,[],[],[]),false)else(a).bind λe=>(at? e.1.2.2.1 ((DY DU c d.2.1).getD 0)).bind λc=>(at? c.2.2.1 b.1.2).bind λb=>(a).bind λa=>some (b,(DY DU b.2.2.2 a.2.2.2.2.1).getD false)
def oB:Rd ((X1 GE)×Int×IL×(KX Int)×DZ×Int×Int) (KX Int):=λa (b,c,d,e,f,g,h)=>bif h<g then(at? f h).bind λi=>(b).bind λj=>(b).bind λk=>(SI ((DY DU d.2.1 k.2.2.2.1).getD [],(DY DU i.1 j.2.2.1).getD 0)).bind λk=>(bif k then SJ (b,d,(DY DU i.1 j.2.2.1).getD 0)else some 0).bind λi=>bif k&&DT i c then(app? 24 e [h]).bind λi=>a (b,c,d,i,f,g,i64.wrap (h+1))else a (b,c,d,e,f,g,i64.wrap (h+1))else e
def A0D:=E0 oB fuel
def bM:(X1 GE)×DZ×IL×Int->X1 (KX Int):=λ(a,b,c,d)=>(A0D (a,d,c,[],b,b.length,0)).bind λa=>a
def oC:Rd ((KX X5)×X5×Int×Int) H0:=λa (b,c,d,e)=>bif e<d then(at? b e).bind λf=>bif IE c f then some (.inr e)else a (b,c,d,i64.wrap (e+1))else some (.inl ())
def A0E:=E0 oC fuel
def A0F:(KX X5)×X5->X1 (Int):=λ(a,b)=>(A0E (a,b,a.length,0)).bind λa=>match a with|.inl _=>some (-1)|.inr a=>a
def bN:(KX X5)×X5->X1 (X5):=λ(a,b)=>(A0F (a,b)).bind λa=>some (0<=a)
def oD:Rd ((KX X5)×(KX Int)×Int×Int) (KX X5):=λa (b,c,d,e)=>bif e<d then(at? c e).bind λf=>(in? b.length f).bind λ_=>a (b.set f.toNat true,c,d,i64.wrap (e+1))else b
def bO:=E0 oD fuel
def P4:Rd ((X1 GE)×(DO×(KX IG)×DZ)×(KX X5)×DO×(KX IG)×Int×Int) (Sum ((KX X5)×DO) (X5)):=λa (b,c,d,e,f,g,h)=>bif h<g then(at? f h).bind λi=>(X7 (b,i,e)).bind λj=>(b).bind λk=>(bif !(!j.2||!(DY DU i.2 k.2.1).isSome)then UH (b,j.1,(none:X1 (KX X5)))else some []).bind λl=>(bif !(!j.2||!(DY DU i.2 k.2.1).isSome)then SI (l,(DY DU i.2 k.2.1).getD 0)else some false).bind λl=>bif !j.2||!(DY DU i.2 k.2.1).isSome||!l then some (.inr false)else(b).bind λl=>bif l.2.2.2.2.2&&DT j.1.1 2 then(bM (b,c.2.2,j.1,(DY DU i.2 k.2.1).getD 0)).bind λj=>bif DT j.length 0 then some (.inr false)else(bO (d,j,j.length,0)).bind λj=>a (b,c,j,i.2,f,g,i64.wrap (h+1))else a (b,c,d,i.2,f,g,i64.wrap (h+1))else some (.inl (d,e))
def bP:=E0 P4 fuel
def X8:(X1 GE)×DO×(DO×(KX IG)×DZ)->X1 (X5):=λ(a,b,c)=>(OB (a,-1)).bind λd=>(a).bind λe=>(L1 (e.1.2.2.2,c.1)).bind λe=>(bif !(!e)then oA (a,d,c.2.2)else some false).bind λd=>(bif !(!e||!d)then a else some (([],[],[],[]),[],[],[],[],false)).bind λf=>bif !e||!d||!f.2.2.2.2.2&&0<(c.2.2.length:Int)then some false else(mks? 24 c.2.2.length c.2.2.length false).bind λd=>(bP (a,c,d,c.1,c.2.1,c.2.1.length,0)).bind λa=>match a with|.inl a=>(bif DU a.2 b then bN (a.1,false)else some false).bind λc=>bif DU a.2 b then some (DU a.2 b&&!c)else some (DU a.2 b&&!c)|.inr a=>a
def QU:JK×Int×(KX DO)×DO×(DO×(KX IG)×DZ)->X1 (X5×Int):=λ(a,b,c,d,e)=>(QT (a,b,c,d)).bind λa=>bif !DT a.2.2 0 then some (false,a.2.2)else(X8 (a.1,d,e)).bind λa=>some (a,0)
def QV:SD×LF->X1 (X5):=λ(a,b)=>bif !DT b.2.2.2.1 6 then some (!DU b.2.2.2.2.2.2.1 []||0<(b.2.2.2.2.2.2.2.1.length:Int))else(bif !(!DT b.2.2.2.2.2.2.2.1.length 1)then L1 (a.2.2.2.2.2.2,b.2.2.2.2.2.2.1)else some false).bind λc=>let d:=(!DT b.2.2.2.2.2.2.2.1.length 1||!c);(bif !d then a.1 else some ((([],[],[],[],[]),0,(0,[],[]),[],0,[],[]),[],[],[],[])).bind λc=>bif d||!(DY DU b.2.2.2.2.2.2.1 c.2.2.2.1).getD false then some true else(a.1).bind λc=>(at? c.1.2.2.2.1 0).bind λc=>(a.1).bind λd=>(a.1).bind λa=>(at? b.2.2.2.2.2.2.2.1 0).bind λe=>(QU (c,d.1.2.2.2.2.1,a.1.2.2.2.2.2.1,b.2.2.2.2.2.2.1,e)).bind λa=>some (!DT a.2 0||!a.1)
def oE:(KX Int)×X5->X1 (KX Int):=λ(a,b)=>bif b then(app? 24 a [2]).bind λb=>b else a
def oG:(KX Int)×X5->X1 (KX Int):=λ(a,b)=>bif b then(app? 24 a [3]).bind λb=>b else a
def A0G:(KX Int)×X5->X1 (KX Int):=λ(a,b)=>bif b then(app? 24 a [4]).bind λb=>b else a
def A0H:(KX Int)×X5->X1 (KX Int):=λ(a,b)=>bif b then(app? 24 a [5]).bind λb=>b else a
def SQ:ND×LF->X1 ((KX Int)×Int):=λ(a,b)=>(P2 a).bind λc=>bif !DT c 0 then some ([],c)else(QS a).bind λa=>(UI (a,b)).bind λc=>bif !c then some ([1],0)else(P3 (a,b.1,b.2.1,b.2.2.1)).bind λa=>(bL (a,b)).bind λc=>(oE ([],c)).bind λc=>(QV (a,b)).bind λd=>(oG (c,d)).bind λc=>(A0G (c,!DT b.2.2.2.2.2.2.2.2 a.2.2.2.2.2.1)).bind λc=>(SO a).bind λd=>(A0H (c,!DT b.2.2.2.1 d)).bind λc=>(UG a).bind λa=>bif !DT b.2.2.2.2.1 a then(app? 24 c [6]).bind λa=>some (a,0)else some (c,0)
def AJF:Rd ((KX Int)×(KX Int)×Int×Int) K5:=λa (s1_0,s2_1,b,c)=>bif c<b then(at? s1_0 c).bind λd=>(at? s2_1 c).bind λe=>bif !DT d e then some (.inr false)else a (s1_0,s2_1,b,i64.wrap (c+1))else some (.inl ())
def A6k:=E0 AJF fuel
def UL:(KX Int)×(KX Int)->X1 (X5):=λ(s1_0,s2_1)=>bif !DT s1_0.length s2_1.length then some false else(A6k (s1_0,s2_1,s1_0.length,0)).bind λa=>match a with|.inl _=>some true|.inr a=>a
def AJG:Unit->X1 (KX IG):=λ_=>some []
def A0I:KX IG->X1 (KX IG):=λa=>(app? 72 [] a).bind λa=>a
def A0J:KX IG->X1 (KX IG):=A0I
def oH:Rd (ND×LF×Int×Int) (Sum (ND×LF) (X5)):=λa (b,c,d,e)=>bif e<d then(A0A c.2.2.2.2.2.1).bind λf=>(vI (f,e,i64.wrap (e+1))).bind λf=>(SQ (b,c.1,c.2.1,c.2.2.1,c.2.2.2.1,c.2.2.2.2.1,f,c.2.2.2.2.2.2)).bind λf=>bif !(!DT f.2 0)then(bif !(!DT f.2 0)then UL (f.1,[2])else some false).bind λg=>bif !DT f.2 0||!g then some (.inr false)else a (b,c,d,i64.wrap (e+1))else(bif !(!DT f.2 0)then UL (f.1,[2])else some false).bind λg=>bif !DT f.2 0||!g then some (.inr false)else a (b,c,d,i64.wrap (e+1))else some (.inl (b,c))
def A0K:=E0 oH fuel
def oI:Rd (ND×LF×(DO×(KX IG)×DZ)×Int×Int) (Sum (ND×LF) (X5)):=λa (b,c,d,e,f)=>bif f<e then(A0J d.2.1).bind λg=>(vJ (g,f,i64.wrap (f+1))).bind λg=>(SQ (b,c.1,c.2.1,c.2.2.1,c.2.2.2.1,c.2.2.2.2.1,c.2.2.2.2.2.1,c.2.2.2.2.2.2.1,[(d.1,g,d.2.2)],c.2.2.2.2.2.2.2.2)).bind λg=>bif !(!DT g.2 0)then(bif !(!DT g.2 0)then UL (g.1,[3])else some false).bind λh=>bif !DT g.2 0||!h then some (.inr false)else a (b,c,d,e,i64.wrap (f+1))else(bif !(!DT g.2 0)then UL (g.1,[3])else some false).bind λh=>bif !DT g.2 0||!h then some (.inr false)else a (b,c,d,e,i64.wrap (f+1))else some (.inl (b,c))
def A0L:=E0 oI fuel
def oJ:Rd (ND×LF×(KX (DO×(KX IG)×DZ))×Int×Int) (Sum ND (X5)):=λa (b,c,d,e,f)=>bif f<e then(at? d f).bind λg=>(at? b.2.2.2.1 0).bind λh=>(QU (h,b.2.2.2.2.1,b.2.2.2.2.2.1,c.2.2.2.2.2.2.1,g)).bind λh=>bif !h.1||!DT h.2 0||0<f then some (.inr false)else(A0L (b,c,g,g.2.1.length,0)).bind λc=>match c with|.inl c=>a (c.1,c.2,d,e,i64.wrap (f+1))|.inr a=>some (.inr a)else some (.inl b)
def A0M:=E0 oJ fuel
def oK:Rd (ND×(KX LF)×Int×Int) K5:=λa (b,c,d,e)=>bif e<d then(in? c.length e).bind λ_=>let f:=c.getD e.toNat ([],[],0,0,0,[],[],[],0);(A0K (b,f,f.2.2.2.2.2.1.length,0)).bind λb=>match b with|.inl b=>((A0M (b.1,b.2,b.2.2.2.2.2.2.2.2.1,b.2.2.2.2.2.2.2.2.1.length,0)).bind λb=>match b with|.inl b=>a (b,c,d,i64.wrap (e+1))|.inr a=>some (.inr a))|.inr a=>some (.inr a)else some (.inl ())
def A0N:=E0 oK fuel
def oL:HH×Int×NC×(KX JK)×Int×(KX DO)×QI->X1 (X5):=λa=>(o5 a).bind λb=>bif !DT b.2 0 then(o6 ()).bind λc=>c else(A0N (a,b.1,b.1.length,0)).bind λa=>match a with|.inl _=>(o6 ()).bind λa=>a|.inr a=>a
def A0O:DO->X1 (Int×X5):=λa=>(aB a).bind λb=>bif !DT b.2.2 0 then some (0,false)else(JV b.1).bind λc=>bif !DT c.2 0||!DU c.1 a then some (0,false)else(WG b.1.1).bind λa=>some (a.1.2.2.2.2,DT a.2 0)
def A0P:DO×DO->X1 (Int×Int):=λ(a,b)=>(A0O a).bind λa=>bif !a.2 then some (0,8)else(b9 (a.1,b)).bind λb=>(a.1,b)
def A6l:Int×FM->X1 (Int):=λa=>(bA a).bind λa=>a.2
end
end Go.Ev.Pv
