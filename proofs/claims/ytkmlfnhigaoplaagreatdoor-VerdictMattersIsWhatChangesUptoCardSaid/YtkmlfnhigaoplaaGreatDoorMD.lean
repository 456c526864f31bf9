/-
  The program's functions as plain Lean functions (printed by a program of the author's from the translation).
-/
import Derived.Test.YtkmlfnhigaoplaaGreatDoorME4
import Derived.Lib.AtoiAll
import Derived.Lib.ItoaNum
import Derived.Lib.Join
import Derived.Lib.Split
import Derived.Lib.Repeat
import Derived.Lib.FieldsP
import Derived.Lib.MapU
import Derived.Lib.LastIndexByte
import Derived.Lib.SlicesCompact
import GoSem.Decode
import Derived.Lib.Case
set_option linter.all false
set_option maxRecDepth 100000
open Go.IntKind hiding min max bits signed
namespace Go.Ev.Pv
def fuel:Nat:=18446744073709551616
def str? (s:DK):Option DK:=bif decide (s.length<=281474976710656)then some s else none
def str?_some{s r:DK}(h:str? s=some r):r=s/\s.length<=281474976710656:=by
 unfold str? at h;cases hd:decide (s.length<=281474976710656)with
 |false=>rw[hd]at h;cases h
 |true=>rw[hd]at h;cases h;exact⟨rfl,AC hd⟩
def IP{α:Type}(c:Prop) [Decidable c](x:Option α):Option α:=bif decide c then x else none
def ON{α:Type}{c:Prop}{_:Decidable c}{x:Option α}{r:α}(h:IP c x=some r):c/\x=some r:=by
 unfold IP at h;cases hd:decide c with
 |false=>rw[hd]at h;cases h
 |true=>rw[hd]at h;exact⟨AC hd,h⟩
def MX:Nat->Nat->DK
 |0,_=>[]
 |k+1,u=>if u<10 then [UInt8.ofNat (48+u)]else MX k (u / 10)++[UInt8.ofNat (48+u % 10)]
def A3I:∀(k u:Nat),u<10 ^ k->1<=k->MX k u=Lib.decDigits u:=by
 intro k;induction k with
 |zero=>intro u _ h;omega
 |succ k ih=>
  intro u hu _;rw[Lib.decDigits];simp only[MX];by_cases h:u<10
  .rw[if_pos h,dif_pos h]
  .rw[if_neg h,dif_neg h]
   have hk:1<=k:=by
    rcases k with _|k
    .simp at hu;omega
    .omega
   rw[ih (u / 10) (by rw[Nat.pow_succ]at hu;omega) hk]
def RU(n:Int):DK:=if n<0 then 45::MX 20 n.natAbs else MX 20 n.toNat
def AIB{n:Int}(h0:-9223372036854775808<=n)(h1:n<=9223372036854775807):RU n=Lib.itoa n:=by
 unfold RU Lib.itoa;rw[A3I 20 n.natAbs oa oi,A3I 20 n.toNat oa oi]
def A3J:∀(k u:Nat),(MX k u).length<=k:=by
 intro k;induction k with
 |zero=>intro u;exact AD _
 |succ k ih=>
  intro u;simp only[MX];split
  .simp
  .have:=ih (u / 10);simp only[AG,BJ,BY];omega
def A3K(n:Int):(RU n).length<=21:=by
 unfold RU;split
 .have:=A3J 20 n.natAbs;simp only[BJ];omega
 .have:=A3J 20 n.toNat;omega
def strings_Join:(List (List UInt8))×(List UInt8)->Option (List UInt8):=λx=>IP (x.1.length<=140737488355328/\(Lib.join x.1 x.2).length<=140737488355328) (some (Lib.join x.1 x.2))
def YV:List UInt8->Option (List UInt8):=λs=>IP (s.length<35184372088832) (str? (Lib.toLowerD s))
def strconv_Itoa:Int->Option (List UInt8):=λn=>some (RU n)
def strings_IndexByte:(List UInt8)×Int->Option (Int):=λx=>IP (x.1.length<4611686018427387904) (some (Lib.indexByte x.1 x.2.toNat.toUInt8))
def strings_LastIndexByte:(List UInt8)×Int->Option (Int):=λx=>IP (x.1.length<4611686018427387904) (some (Lib.lastIndexByte ⟨x.1.toArray⟩ x.2))
def strings_Cut:(List UInt8)×(List UInt8)->Option ((List UInt8)×(List UInt8)×Bool):=λx=>IP (x.1.length<4294967281) (some (Lib.cut x.1 x.2))
def strings_Repeat:(List UInt8)×Int->Option (List UInt8):=λx=>IP (0<=x.2/\x.1.length*x.2.toNat<=140737488355328) (some (Lib.repeatL x.1 x.2.toNat))
def strings_Split:(List UInt8)×(List UInt8)->Option (List (List UInt8)):=λx=>IP (x.1.length<4294967281/\1<=x.2.length) (some ((Lib.splitB ⟨x.2.toArray⟩ 0 (Lib.countB ⟨x.1.toArray⟩ ⟨x.2.toArray⟩) ⟨x.1.toArray⟩).map λb=>b.data.toList))
def fI:List UInt8->Option (Int×Unit):=λs=>IP (s.length<=281474976710656) (match Lib.atoiAll s with
 | .ok v=>some (v,())
 | .range=>some (Lib.atoiSat s,())
 |_=>some (0,()))
noncomputable def VJ:(List UInt8)×(Int->Option Bool)->Option (List (List UInt8)):=λx=>
 @IP _ (x.1.length<=4294967296/\(∀r:Nat,r<=1114111->∃b,x.2 (r:Int)=some b)/\(Lib.goFieldsP (λr=>(x.2 (r:Int)).getD false) ⟨x.1.toArray⟩).length<=281474976710656) (Classical.propDecidable _) (some ((Lib.goFieldsP (λr=>(x.2 (r:Int)).getD false) ⟨x.1.toArray⟩).map λb=>b.data.toList))
def strings_HasPrefix:(List UInt8)×(List UInt8)->Option (Bool):=λx=>some (Lib.hasPrefix x.1 x.2)
def strings_TrimPrefix:(List UInt8)×(List UInt8)->Option (List UInt8):=λx=>some (Lib.trimPrefix x.1 x.2)
def strings_CutPrefix:(List UInt8)×(List UInt8)->Option ((List UInt8)×Bool):=λx=>some (Lib.trimPrefix x.1 x.2,Lib.hasPrefix x.1 x.2)
def fJ:List Int->Option (List Int):=λxs=>some xs
def PZ:List Int->Option (List UInt8):=λxs=>some (IM xs)
section
variable{T:Type}
def NR(xs:List T)(F:T×T->Option Int)(i j:Fin xs.length):Int:=(F (xs.get i,xs.get j)).getD 0
def IH(xs:List T)(F:T×T->Option Int)(i j:Fin xs.length):Bool:=decide (NR xs F i j<0)
def TE(xs:List T)(F:T×T->Option Int):Prop:=
 (∀i j:Fin xs.length,(F (xs.get i,xs.get j)).isSome=true)/\(∀i:Fin xs.length,IH xs F i i=false)/\
 (∀i j k:Fin xs.length,IH xs F i j=true->IH xs F j k=true->IH xs F i k=true)/\(∀i j k:Fin xs.length,IH xs F i j=false->IH xs F j k=false->IH xs F i k=false)
instance{xs:List T}{F:T×T->Option Int}:Decidable (TE xs F):=by unfold TE;infer_instance
def fK{α:Type} [Inhabited α](lt:α->α->Bool):Nat->Nat->Array α->Array α
 |0,_,d=>d
 |n+1,i,d=>fK lt n (i+1) (Sort.insInner lt 0 i d)
theorem AIC{α:Type} [Inhabited α](lt:α->α->Bool):∀(n i:Nat) (d:Array α),Sort.insOuter lt 0 (i+n) i d=fK lt n i d:=by
 intro n;induction n with
 |zero=>intro i d;rw[Sort.insOuter,if_neg oa];rfl
 |succ n ih=>intro i d;rw[Sort.insOuter,if_pos oa,show i+(n+1)=(i+1)+n by omega,ih];rfl
def L0(xs:List T)(F:T×T->Option Int)(h:0<xs.length):Array (Fin xs.length):=
 haveI:Inhabited (Fin xs.length):=⟨⟨0,h⟩⟩
 if xs.length<=12 then fK (IH xs F) (xs.length-1) 1 (Array.ofFn id)else Sort.pdq (IH xs F) (Array.ofFn id) 0 xs.length (Lib.bitLen xs.length) true true
def AID{α:Type} [Inhabited α](lt:α->α->Bool)(d:Array α)(n lim:Nat)(h:0<n)(h12:n<=12):Sort.pdq lt d 0 n lim true true=fK lt (n-1) 1 d:=by
 rw[Sort.pdq,if_pos oa,Sort.insertionSort];have:=AIC lt (n-1) 1 d;rw[show 1+(n-1)=n by omega]at this;exact this
theorem A3L(xs:List T)(F:T×T->Option Int)(h:0<xs.length):
 L0 xs F h= @Sort.pdq _ ⟨⟨0,h⟩⟩ (IH xs F) (Array.ofFn id) 0 xs.length (Lib.bitLen xs.length) true true:=by
 unfold L0;split
 .rename_i h12;exact(@AID _ ⟨⟨0,h⟩⟩ (IH xs F) (Array.ofFn id) xs.length _ h h12).symm
 .rfl
def MA(xs:List T)(F:T×T->Option Int):Option (List T):=
 if h:0<xs.length then IP (TE xs F) (some ((L0 xs F h).toList.map xs.get))else some []
end
def uO:(List ((Int×(List UInt8)×Bool×(List UInt8))×(Int×(List UInt8)×Bool×(List UInt8))))×((((Int×(List UInt8)×Bool×(List UInt8))×(Int×(List UInt8)×Bool×(List UInt8)))×((Int×(List UInt8)×Bool×(List UInt8))×(Int×(List UInt8)×Bool×(List UInt8))))->Option Int)->Option (List ((Int×(List UInt8)×Bool×(List UInt8))×(Int×(List UInt8)×Bool×(List UInt8)))):=λv=>MA v.1 v.2
def uP:(List (Int×Int))×(((Int×Int)×(Int×Int))->Option Int)->Option (List (Int×Int)):=λx=>MA x.1 x.2
def J_(c:UInt8):Bool:=decide (97<=(c.toNat:Int))&&((c.toNat:Int)<=122)||(65<=(c.toNat:Int))&&((c.toNat:Int)<=90)||(48<=(c.toNat:Int))&&((c.toNat:Int)<=57)||((c.toNat:Int)=46)||((c.toNat:Int)=45)
def wordL:List (List UInt8):=[[65,78,68],[79,82],[87,73,84,72],[97,110,100],[111,114],[119,105,116,104]]
def KK(s:ByteArray):Bool:=wordL.contains s.toList
def H6(s:ByteArray):Bool:=decide (0<s.size)&&((s.size<=60)&&(!(s.data.toList.headD 0==46)&&(!(s.data.toList.headD 0==45)&&(!(KK s)&&s.data.toList.all J_))))
structure RS where
 en:Nat
 k:Int
 tx:ByteArray
 at_:Nat
 tg:Bool
 op:Int
def MY(c:UInt8):Bool:=c==32||c==9||c==10
def F3(l:List UInt8)(i:Nat):Nat:=i+((l.drop i).takeWhile MY).length
def JN(l:List UInt8)(i:Nat):Nat:=((l.drop i).takeWhile J_).length
def RV(t:ByteArray):ByteArray:=⟨(Lib.toUpperA t.data.toList).toArray⟩
def FN(s:ByteArray)(en:Nat)(op:Int):Except Nat RS:=
 if F3 s.data.toList en=s.size then .ok ⟨en,0,⟨#[]⟩,F3 s.data.toList en,decide (F3 s.data.toList en=en/\0<F3 s.data.toList en),op⟩
 else if JN s.data.toList (F3 s.data.toList en)=0 then
  (if s.data.toList.getD (F3 s.data.toList en) 0=43 then .ok ⟨F3 s.data.toList en+1,3,⟨#[]⟩,F3 s.data.toList en,decide (F3 s.data.toList en=en/\0<F3 s.data.toList en),op⟩
  else if s.data.toList.getD (F3 s.data.toList en) 0=40 then .ok ⟨F3 s.data.toList en+1,4,⟨#[]⟩,F3 s.data.toList en,decide (F3 s.data.toList en=en/\0<F3 s.data.toList en),op⟩
  else if s.data.toList.getD (F3 s.data.toList en) 0=41 then .ok ⟨F3 s.data.toList en+1,5,⟨#[]⟩,F3 s.data.toList en,decide (F3 s.data.toList en=en/\0<F3 s.data.toList en),op⟩
  else .error (F3 s.data.toList en))
 else if KK (s.extract (F3 s.data.toList en) (F3 s.data.toList en+JN s.data.toList (F3 s.data.toList en)))=true then
  .ok ⟨F3 s.data.toList en+JN s.data.toList (F3 s.data.toList en),2,RV (s.extract (F3 s.data.toList en) (F3 s.data.toList en+JN s.data.toList (F3 s.data.toList en))),F3 s.data.toList en,decide (F3 s.data.toList en=en/\0<F3 s.data.toList en),op⟩
 else if H6 (s.extract (F3 s.data.toList en) (F3 s.data.toList en+JN s.data.toList (F3 s.data.toList en)))=true then
  .ok ⟨F3 s.data.toList en+JN s.data.toList (F3 s.data.toList en),1,s.extract (F3 s.data.toList en) (F3 s.data.toList en+JN s.data.toList (F3 s.data.toList en)),F3 s.data.toList en,decide (F3 s.data.toList en=en/\0<F3 s.data.toList en),op⟩
 else .error (F3 s.data.toList en)
def IQ(s:ByteArray)(word:ByteArray)(r:RS):Except (Nat×Int) (Bool×RS):=
 if r.k≠2\/r.tx≠word then .ok (false,r)else match FN s r.en r.op with
  | .ok r=>.ok (true,r)
  | .error a=>.error (a,6)
def IV(s:ByteArray)(r:RS):Except (Nat×Int) (ByteArray×RS):=
 if r.k≠1 then .error (r.at_,6)else match FN s r.en r.op with
  | .ok r'=>.ok (r.tx,r')
  | .error a=>.error (a,6)
inductive Tr where
 |node (k:Int) (n:ByteArray) (l:Bool) (x:ByteArray) (kids:List Tr)
abbrev PF:=RS->Option (Except (Nat×Int) (Tr×RS))
def K0(s word:ByteArray)(one:PF):Nat->List Tr->RS->Option (Except (Nat×Int) (List Tr×RS))
 |0,_,_=>none
 |m+1,kids,r=>match IQ s word r with
  | .error e=>some (.error e)
  | .ok (false,r')=>some (.ok (kids,r'))
  | .ok (true,r')=>match one r' with
   |none=>none
   |some (.error e)=>some (.error e)
   |some (.ok (t,r''))=>K0 s word one m (kids++[t]) r''
def IW(s:ByteArray)(kind:Int)(word:ByteArray)(one:PF)(m:Nat):PF:=λr=>match one r with
 |none=>none
 |some (.error e)=>some (.error e)
 |some (.ok (t,r'))=>if r'.k≠2\/r'.tx≠word then some (.ok (t,r'))else match K0 s word one m [t] r' with
  |none=>none
  |some (.error e)=>some (.error e)
  |some (.ok (kids,r''))=>some (.ok (.node kind ⟨#[]⟩ false ⟨#[]⟩ kids,r''))
def P_(o:Int):Int:=IntKind.wrap .i64 o
def OO(s:ByteArray)(eitherR:PF)(r:RS):Option (Except (Nat×Int) (Tr×RS)):=
 if 30<P_ (r.op+1)then some (.error (r.at_,3))else match FN s r.en (P_ (r.op+1))with
  | .error a=>some (.error (a,6))
  | .ok b=>match eitherR b with
   |none=>none
   |some (.error e)=>some (.error e)
   |some (.ok (t,b))=>if b.k≠5 then some (.error (b.at_,6))else match FN s b.en (P_ (b.op-1))with
    | .error a=>some (.error (a,6))
    | .ok b=>some (.ok (t,b))
def LN(s:ByteArray)(r:RS):Except (Nat×Int) (Bool×RS):=
 if r.k=3/\r.tg=true then(match FN s r.en r.op with| .error a=>.error (a,6)| .ok b=>.ok (true,b))else .ok (false,r)
def KL(s:ByteArray)(r:RS):Except (Nat×Int) (ByteArray×RS):=match IQ s ⟨#[87,73,84,72]⟩ r with
 | .error e=>.error e
 | .ok (false,a)=>.ok (⟨#[]⟩,a)
 | .ok (true,a)=>IV s a
def J6(s:ByteArray)(r:RS):Except (Nat×Int) (Tr×RS):=match IV s r with
 | .error e=>.error e
 | .ok (n,a)=>match LN s a with
  | .error e=>.error e
  | .ok (l,a)=>match KL s a with
   | .error e=>.error e
   | .ok (x,a)=>.ok (.node 1 n l x [],a)
def MZ(s:ByteArray)(m:Nat):Nat->PF
 |0=>λ_=>none
 |d+1=>λr=>if r.k=4 then OO s (IW s 3 ⟨#[79,82]⟩ (IW s 2 ⟨#[65,78,68]⟩ (MZ s m d) m) m) r else some (J6 s r)
def Q0(s:ByteArray)(m d:Nat):PF:=IW s 3 ⟨#[79,82]⟩ (IW s 2 ⟨#[65,78,68]⟩ (MZ s m d) m) m
def M_(s:ByteArray)(e:PF):Option (Except (Nat×Int) Tr):=match FN s 0 0 with
 | .error a=>some (.error (a,6))
 | .ok r=>match e r with
  |none=>none
  |some (.error x)=>some (.error x)
  |some (.ok (t,r'))=>if r'.k≠0 then some (.error (r'.at_,6))else some (.ok t)
mutual
def II:Tr->Int->Int×Int
 | .node _ _ _ _ kids,d=>if 30<d then(1,d)else L1 kids d (1,d)
def L1:List Tr->Int->Int×Int->Int×Int
 |[],_,acc=>acc
 |t::ts,d,acc=>L1 ts d (min (acc.1+(II t (d+1)).1) 201,max acc.2 (II t (d+1)).2)
end
mutual
def N0:Tr->Int
 | .node k n l x kids=>if k<1\/3<k then 7 else if k=1 then(if 0<kids.length then 2 else if H6 n=false\/x≠⟨#[]⟩/\H6 x=false then 8 else 0)
   else if n≠⟨#[]⟩\/l=true\/x≠⟨#[]⟩\/kids.length<2 then 2 else QA kids
def QA:List Tr->Int
 |[]=>0
 |t::ts=>if N0 t≠0 then N0 t else QA ts
end
def QB(t:Tr):Int:=if 30<(II t 1).2\/200<(II t 1).1 then 3 else N0 t
def TF(s:ByteArray)(e:PF):Option (Except (Nat×Int) Tr):=if 4000<s.size then some (.error (0,3))else match M_ s e with
 |none=>none
 |some (.error x)=>some (.error x)
 |some (.ok t)=>if QB t≠0 then some (.error (0,QB t))else some (.ok t)
def AIE:Option (Except (Nat×Int) Tr)->(Int×(List UInt8)×Bool×(List UInt8)×Unit)×Int×Int
 |some (.ok (.node k n l x _))=>((k,n.data.toList,l,x.data.toList,()),0,0)
 |some (.error (a,c))=>((0,[],false,[],()),a,c)
 |none=>((0,[],false,[],()),0,0)
noncomputable def uQ:List UInt8->Option ((Int×(List UInt8)×Bool×(List UInt8)×Unit)×Int×Int):=λs=>some (AIE (TF ⟨s.toArray⟩ (Q0 ⟨s.toArray⟩ 4500 31)))
def AIF(s:List UInt8):∃r,uQ s=some r:=⟨_,rfl⟩
def slices_Sort_int(xs:List Int):Option (List Int):=some (xs.mergeSort λx y=>decide (x<=y))
def slices_Compact_int(xs:List Int):Option (List Int):=some (Lib.compact xs)
def fL:(List ((List UInt8)×(List UInt8)))×(((List UInt8)×(List UInt8))×((List UInt8)×(List UInt8))->Option Int)->Option (List ((List UInt8)×(List UInt8))):=λx=>MA x.1 x.2
def fM:(List ((List UInt8)×(List UInt8)×Int))×((((List UInt8)×(List UInt8)×Int)×((List UInt8)×(List UInt8)×Int))->Option Int)->Option (List ((List UInt8)×(List UInt8)×Int)):=λx=>MA x.1 x.2
noncomputable section
abbrev DT:=(List (DK×DK))
abbrev I5:=(DK×DK×DK×DK×DT×DK)
abbrev GV:=(DK×I5×DT×DK×(List DK))
abbrev FE:=(DK×DK×Int)
abbrev H7:=(DK×DK×DK×(List GV)×(List FE))
abbrev JD:=(List (Int×DK))
abbrev GQ:=(DK×Int×JD×(List DK)×(List DK))
abbrev G9:=(DK×(List DK)×DK×Int×Bool×DK×(List GQ))
abbrev NT:=(Int×(List G9)×(List Int))
abbrev IX:=(Int×DK×DK×DK)
abbrev QC:=(List (DK×DK×(List IX)×(List DK)))
abbrev JE:=((List (DK×(List DK)))×(List (DK×DT))×QC×(List DK))
abbrev JO:=(DK×DK×DK×Int×Int×Int×Int)
abbrev TG:=(H7×Int×NT×(List JE)×Int×(List DK)×(List JO))
abbrev IY:=(TG×(List (DK×G9))×(List (DK×GV))×(List (DK×Bool))×(List (FE×Bool)))
abbrev GZ:=(JE×(List (DK×Int))×(List (DK×Int))×(List (DK×(List Int)))×(List (DK×Bool))×Bool)
abbrev DY:=(Int×DK×DK×Int)
abbrev KN:=((List Int)×(List DK))
abbrev K4:=(Int×DK×DK×Bool)
abbrev FP:=(Int×(List Int)×Int×Int×Int×Int×(List DK))
abbrev LO:=(Bool×DK×Int)
abbrev G_:=(List LO)
abbrev H8:=(Sum KN (Sum K4 (Sum FP (Sum G_ (Sum Int Unit)))))
abbrev GI:=(Bool×Bool×DK)
abbrev F6:=(List (GI×GI))
abbrev LP:=(Int×DK×Bool×DK)
abbrev FG:=(LP×LP)
abbrev JF:=((Option GZ)×((List Bool)×((List Bool)×((List ((DK×DK)×Bool))×(DT×((List Int)×(List Int)))))))
abbrev FI:=(((DK×DK)×(DK×DK))->Option Int)
abbrev RW:=(TG×((List (DK×G9))×((List (DK×GV))×((List (DK×Bool))×(List (FE×Bool))))))
abbrev EP:=(DK×Int×Int)
abbrev N1:=(Option ((Option GZ)×(List Bool)×(List Bool)×(List ((DK×DK)×Bool))×DT×(List Int)×(List Int)))
abbrev L2:=((DK×Int)×DK)
abbrev N2:=(DK×DK×Int×Int×Int×(List DK)×DK×(List (DK×(List L2)×DT))×Int)
abbrev FJ:=((DY×DY)->Option Int)
abbrev LQ:=(Bool×(List (DK×(DK×(List DK))))×(List (DK×Bool))×(List (DK×Bool)))
abbrev H9:=((DK×DK)×(DK×DK)->Option Int)
abbrev OP:=(JE×((List (DK×Int))×((List (DK×Int))×((List (DK×List Int))×((List (DK×Bool))×Bool)))))
abbrev IB:=(DK×(DK×(DK×(DK×(DT×DK)))))
abbrev RX:=(List (DK×(Int×F6)×Int))
abbrev HX:=(List (Int×Int))
abbrev HD:=(DY×DY->Option Int)
abbrev VK:=(Bool×((List (DK×(DK×(List DK))))×((List (DK×Bool))×(List (DK×Bool)))))
abbrev GR:=(Sum (Unit) (Int))
abbrev KO:=(List ((Int×Bool)×Bool))
abbrev JG:=(List (List Int))
abbrev VL:=((Option IY)×FE×G9×GV×(List DK)×Int×(List DK))
abbrev OQ:=(List (DK×DK×Int×Int×Int))
abbrev RY:=(DK×DK×RX×Bool)
abbrev fN:=((List RY)×RX×Int×DT×(List DK)×Bool×NT)
abbrev K5:=(DK×HX×Int)
abbrev fO:=((Option IY)×(FE×(G9×(GV×((List DK)×(Int×(List DK)))))))
abbrev K6:=(List (Int×F6))
abbrev KP:=(Sum (Unit) (Bool))
abbrev TH:=(DK×Int×Bool×Bool×Int)
abbrev MB:=((List DK)×Bool)
abbrev N3:=(Int->Option Bool)
abbrev RZ:=(Bool×(List (DK×Bool)))
abbrev N4:=((List DY)×Int)
abbrev TI:=(H7×Int×JG×JG)
abbrev Rd(A B:Type):=(A->Option B)->A->Option B
def fP:Rd EP KP:=λa (b,c,d)=>bif d<c then(at? b d).bind λe=>(bif !((e.toNat:Int)<32)then at? b d else some 0).bind λf=>bif (e.toNat:Int)<32||DO f.toNat 127 then some (.inr false)else a (b,c,i64.wrap (d+1))else some (.inl ())
def A3M:=DX fP fuel
def TJ:DK->Option (Bool):=λa=>(A3M (a,a.length,0)).bind λb=>match b with|.inl _=>some ((a.length:Int)<=100)|.inr a=>a
def fQ:Rd EP KP:=λa (b,c,d)=>bif d<c then(at? b d).bind λe=>(bif !((e.toNat:Int)<33)then at? b d else some 0).bind λf=>bif (e.toNat:Int)<33||126<(f.toNat:Int)then some (.inr false)else a (b,c,i64.wrap (d+1))else some (.inl ())
def A3N:=DX fQ fuel
def VM:DK×Int->Option (Bool):=λ(a,b)=>(A3N (a,a.length,0)).bind λc=>match c with|.inl _=>some (!DP a []&&a.length<=b)|.inr a=>a
def fR:Unit->Option (List TH):=λ_=>some [([100,111,116,116,101,100],2,true,false,1),([114,101,118,105,115,101,100],3,true,false,2),([115,116,97,103,101,100],1,true,true,3),([113,117,97,108,105,102,105,101,100],3,false,false,4),([112,108,97,105,110],2,false,false,5)]
def A3O:Rd (DK×(List TH)×Int) GR:=λa (b,c,d)=>bif d<5 then(at? c d).bind λe=>bif DP e.1 b then some (.inr d)else a (b,c,i64.wrap (d+1))else some (.inl ())
def uR:=DX A3O fuel
def YW:DK->Option (Int):=λa=>(fR ()).bind λb=>(uR (a,b,0)).bind λa=>match a with|.inl _=>some (-1)|.inr a=>a
def VN:DK->Option (TH×Int):=λa=>(YW a).bind λa=>bif a<0 then some (([],0,false,false,0),7)else(fR ()).bind λb=>(at? b a).bind λa=>some (a,0)
def A3P:Rd ((List DK)×Int×Int) KP:=λa (b,c,d)=>bif d<c then(at? b d).bind λe=>bif 200<(e.length:Int)then some (.inr true)else a (b,c,i64.wrap (d+1))else some (.inl ())
def uS:=DX A3P fuel
def A3Q:Rd (DT×Int×Int) KP:=λa (b,c,d)=>bif d<c then(at? b d).bind λe=>bif 200<(e.1.length:Int)||200<(e.2.length:Int)then some (.inr true)else a (b,c,i64.wrap (d+1))else some (.inl ())
def uT:=DX A3Q fuel
def fS:DK×DK×DK×DK×DT×DK->Option (Bool):=λa=>let b:=[a.2.1,a.2.2.1,a.2.2.2.1,a.2.2.2.2.2];(uS (b,b.length,0)).bind λb=>match b with|.inl _=>((uT (a.2.2.2.2.1,a.2.2.2.2.1.length,0)).bind λb=>match b with|.inl _=>some (10<(a.2.2.2.2.1.length:Int))|.inr a=>a)|.inr a=>a
def TK:DK->Option (List DK):=λa=>bif DP a []then some []else(strings_Split (a,[47])).bind λa=>a
def A3R:Rd (Bool×(List DK)×Int×Int) KP:=λa (b,c,d,e)=>bif e<d then(at? c e).bind λf=>bif DP f []||b&&(DP f [46]||DP f [46,46])then some (.inr true)else a (b,c,d,i64.wrap (e+1))else some (.inl ())
def uU:=DX A3R fuel
def YX:(List DK)×Bool->Option (Bool):=λ(a,b)=>(uU (b,a,a.length,0)).bind λb=>match b with|.inl _=>some (10<(a.length:Int))|.inr a=>a
def YY:Int×Bool->Option (Bool):=λ(a,b)=>bif 97<=a&&a<=122 then some true else some (!b&&(48<=a&&a<=57||DO a 46||DO a 45||DO a 95))
def A3S:Rd EP KP:=λa (b,c,d)=>bif d<c then(at? b d).bind λe=>(YY (e.toNat,DO d 0)).bind λe=>bif !e then some (.inr false)else a (b,c,i64.wrap (d+1))else some (.inl ())
def uV:=DX A3S fuel
def fT:DK->Option (Bool):=λa=>(uV (a,a.length,0)).bind λb=>match b with|.inl _=>some (!DP a [])|.inr a=>a
def A3T:Rd (DT×DT×Int×Int) GR:=λa (b,c,d,e)=>bif e<d then(at? c e).bind λf=>(fT f.1).bind λg=>bif !g then some (.inr 8)else bif DP f.2 []then some (.inr 2)else(bif 0<e then at? b (i64.wrap (e-1))else some ([],[])).bind λg=>bif 0<e&&(Op.bytesLess f.1 g.1||DP f.1 g.1)then some (.inr 10)else a (b,c,d,i64.wrap (e+1))else some (.inl ())
def uW:=DX A3T fuel
def fU:List (DK×DK)->Option (Int):=λa=>(uW (a,a,a.length,0)).bind λa=>match a with|.inl _=>some 0|.inr a=>a
def A3U:Rd EP KP:=λa (b,c,d)=>bif d<c then(at? b d).bind λe=>(bif !((e.toNat:Int)<32)then at? b d else some 0).bind λf=>bif (e.toNat:Int)<32||DO f.toNat 127 then some (.inr true)else a (b,c,i64.wrap (d+1))else some (.inl ())
def uX:=DX A3U fuel
def YZ:DK->Option (Bool):=λa=>(uX (a,a.length,0)).bind λa=>match a with|.inl _=>some false|.inr a=>a
def A3V:Rd ((List DK)×Int×Int) GR:=λa (b,c,d)=>bif d<c then(at? b d).bind λe=>(YZ e).bind λe=>bif e then some (.inr 8)else a (b,c,i64.wrap (d+1))else some (.inl ())
def uY:=DX A3V fuel
def A3W:Rd (DT×Int×Int) GR:=λa (b,c,d)=>bif d<c then(at? b d).bind λe=>(YZ e.2).bind λe=>bif e then some (.inr 8)else a (b,c,i64.wrap (d+1))else some (.inl ())
def uZ:=DX A3W fuel
def KQ:DK×DK×DK×DK×DT×DK->Option (Int):=λa=>(VN a.1).bind λb=>bif !DO b.2 0 then b.2 else(fS a).bind λc=>bif c then some 3 else bif !DP a.2.1 []&&DO b.1.2.1 1||DP a.2.1 []&&DO b.1.2.1 3 then some 2 else(TK a.2.1).bind λb=>(YX (b,false)).bind λb=>bif b then some 2 else(bif !DP a.2.2.1 []then strings_IndexByte (a.2.2.1,47)else some 0).bind λb=>bif DP a.2.2.1 []||0<=b then some 8 else(fU a.2.2.2.2.1).bind λb=>bif !DO b 0 then b else(TK a.2.2.2.2.2).bind λb=>(YX (b,true)).bind λb=>bif b then some 2 else let b:=[a.2.1,a.2.2.1,a.2.2.2.1,a.2.2.2.2.2];(uY (b,b.length,0)).bind λb=>match b with|.inl _=>((uZ (a.2.2.2.2.1,a.2.2.2.2.1.length,0)).bind λa=>match a with|.inl _=>some 0|.inr a=>a)|.inr a=>a
def Y_:Int->Option (Int):=λa=>bif 48<=a&&a<=57 then some (i64.wrap (u8.wrap (a-48)))else bif 97<=a&&a<=102 then some (i64.wrap (i64.wrap (u8.wrap (a-97))+10))else bif 65<=a&&a<=70 then some (i64.wrap (i64.wrap (u8.wrap (a-65))+10))else some (-1)
def fV:Rd EP KP:=λa (b,c,d)=>bif d<c then(at? b d).bind λe=>(Y_ e.toNat).bind λe=>(bif !(e<0)then at? b d else some 0).bind λf=>(bif !(e<0)&&65<=(f.toNat:Int)then at? b d else some 0).bind λg=>bif e<0||65<=(f.toNat:Int)&&(g.toNat:Int)<=70 then some (.inr false)else a (b,c,i64.wrap (d+1))else some (.inl ())
def A3X:=DX fV fuel
def fW:DK×Int->Option (Bool):=λ(a,b)=>(A3X (a,a.length,0)).bind λc=>match c with|.inl _=>some (DO a.length b)|.inr a=>a
def u_:Int×Bool->Option (Int):=λ(a,b)=>bif b then some 16 else a
def fX:Rd (DT×DT×Int×Int) GR:=λa (b,c,d,e)=>bif e<d then(at? c e).bind λf=>(u_ (64,DP f.1 [115,117,109,54,52])).bind λg=>bif !DP f.1 [115,104,97,50,53,54]&&!DP f.1 [115,117,109,54,52]then some (.inr 7)else(fW (f.2,g)).bind λg=>bif !g then some (.inr 2)else(bif 0<e then at? b (i64.wrap (e-1))else some ([],[])).bind λg=>bif 0<e&&(Op.bytesLess f.1 g.1||DP f.1 g.1)then some (.inr 10)else a (b,c,d,i64.wrap (e+1))else some (.inl ())
def A3Y:=DX fX fuel
def fY:List (DK×DK)->Option (Int):=λa=>bif 4<(a.length:Int)then some 3 else(A3Y (a,a,a.length,0)).bind λa=>match a with|.inl _=>some 0|.inr a=>a
def fZ:Rd ((List DK)×RZ×(List DK)×Int×Int) GR:=λa (b,c,d,e,f)=>bif f<e then(at? d f).bind λg=>(VM (g,200)).bind λh=>bif !h then some (.inr 8)else(bif !c.1&&0<f then at? b (i64.wrap (f-1))else some []).bind λh=>bif !c.1&&0<f&&(Op.bytesLess g h||DP g h)then some (.inr 10)else a (b,c,d,e,i64.wrap (f+1))else some (.inl ())
def A3Z:=DX fZ fuel
def Z0:RZ×(List DK)->Option (Int):=λ(a,b)=>bif 100<(b.length:Int)then some 3 else(A3Z (b,a,b,b.length,0)).bind λa=>match a with|.inl _=>some 0|.inr a=>a
def f_:Rd (GV×Int×Int) (Sum GV (Int)):=λa (b,c,d)=>bif d<c then(at? b.2.2.2.1 d).bind λe=>(bif !((e.toNat:Int)<32)then at? b.2.2.2.1 d else some 0).bind λf=>bif (e.toNat:Int)<32||126<(f.toNat:Int)then some (.inr 2)else a (b,c,i64.wrap (d+1))else some (.inl b)
def A3_:=DX f_ fuel
def gA:RZ×GV->Option (Int):=λ(a,b)=>(VM (b.1,100)).bind λc=>bif !c then some 8 else(KQ b.2.1).bind λc=>bif !DO c 0 then c else(fY b.2.2.1).bind λc=>bif !DO c 0 then c else(A3_ (b,b.2.2.2.1.length,0)).bind λb=>match b with|.inl b=>bif !DP b.2.2.2.1 []then(uQ b.2.2.2.1).bind λc=>bif !DO c.2.2 0 then c.2.2 else(Z0 (a,b.2.2.2.2)).bind λc=>c else(Z0 (a,b.2.2.2.2)).bind λa=>a|.inr a=>a
def VO:DK->Option (Bool):=λa=>some (!DP a a)
def KR:DK×DK->Option (Int):=λ(a,b)=>(VO a).bind λc=>(VO b).bind λd=>bif c then bif d then some 0 else some (-1)else bif d then some 1 else bif Op.bytesLess a b then some (-1)else bif !(Op.bytesLess a b||DP a b)then some 1 else some 0
def gB:Int->Option (Bool):=λa=>some (!DO a a)
def OR:Int×Int->Option (Int):=λ(a,b)=>(gB a).bind λc=>(gB b).bind λd=>bif c then bif d then some 0 else some (-1)else bif d then some 1 else bif a<b then some (-1)else bif b<a then some 1 else some 0
def gC:Rd (Int×(List Int)×Int×Int) GR:=λa (b,c,d,e)=>bif e<d then(at? c e).bind λf=>bif !DO f b then some (.inr f)else a (b,c,d,i64.wrap (e+1))else some (.inl ())
def gD:=DX gC fuel
def QD:List Int->Option (Int):=λa=>(gD (0,a,a.length,0)).bind λa=>match a with|.inl _=>some 0|.inr a=>a
def VP:FE×FE->Option (Int):=λ(a,b)=>(KR (a.1,b.1)).bind λc=>(KR (a.2.1,b.2.1)).bind λd=>(OR (a.2.2,b.2.2)).bind λa=>(QD [c,d,a]).bind λa=>a
def gE:Rd ((List FE)×RZ×(List FE)×Int×Int) GR:=λa (b,c,d,e,f)=>bif f<e then(at? d f).bind λg=>bif g.2.2<1||4<g.2.2 then some (.inr 9)else bif !(DU DP g.1 c.2).getD false||!(DU DP g.2.1 c.2).getD false then some (.inr 4)else bif DP g.1 g.2.1 then some (.inr 2)else(bif !c.1&&0<f then at? b (i64.wrap (f-1))else some ([],[],0)).bind λh=>(bif !c.1&&0<f then VP (h,g)else some 0).bind λg=>bif !c.1&&0<f&&0<=g then some (.inr 10)else a (b,c,d,e,i64.wrap (f+1))else some (.inl ())
def A3a:=DX gE fuel
def vA:RZ×(List FE)->Option (Int):=λ(a,b)=>(A3a (b,a,b,b.length,0)).bind λa=>match a with|.inl _=>some 0|.inr a=>a
def gF:Rd (RZ×H7×(List GV)×Int×Int) (Sum (RZ×H7) (Int)):=λa (b,c,d,e,f)=>bif f<e then(at? d f).bind λg=>(gA ((b.1,b.2),g)).bind λh=>bif !DO h 0 then some (.inr h)else(bif !b.1&&0<f then at? c.2.2.2.1 (i64.wrap (f-1))else some ([],([],[],[],[],[],[]),[],[],[])).bind λh=>bif !b.1&&0<f&&(Op.bytesLess g.1 h.1||DP g.1 h.1)then some (.inr 10)else a ((b.1,EB DP g.1 true b.2),c,d,e,i64.wrap (f+1))else some (.inl ((b.1,b.2),c))
def A3b:=DX gF fuel
def vB:RZ×H7->Option (Int):=λ(a,b)=>(bif !DP b.1 []then TJ b.1 else some false).bind λc=>(bif !(DP b.1 []||!c)then TJ b.2.1 else some false).bind λd=>bif DP b.1 []||!c||!d then some 8 else bif 3000<(b.2.2.2.1.length:Int)||20000<(b.2.2.2.2.length:Int)then some 3 else(A3b ((a.1,a.2),b,b.2.2.2.1,b.2.2.2.1.length,0)).bind λa=>match a with|.inl a=>bif !(DU DP a.2.2.2.1 a.1.2).getD false then some 4 else(vA ((a.1.1,a.1.2),a.2.2.2.2.2)).bind λa=>a|.inr a=>a
def VQ:DK×DK×DK×(List GV)×(List FE)->Option (Int):=λa=>(vB ((false,[]),a)).bind λa=>a
def A3c:Rd EP KP:=λa (b,c,d)=>bif d<c then(at? b d).bind λe=>bif !(97<=(e.toNat:Int)&&(e.toNat:Int)<=122||65<=(e.toNat:Int)&&(e.toNat:Int)<=90||48<=(e.toNat:Int)&&(e.toNat:Int)<=57||DO e.toNat 46||DO e.toNat 45||DO e.toNat 95)then some (.inr false)else a (b,c,i64.wrap (d+1))else some (.inl ())
def vC:=DX A3c fuel
def VR:DK->Option (Bool):=λa=>(vC (a,a.length,0)).bind λb=>match b with|.inl _=>some (!DP a []&&(a.length:Int)<=60)|.inr a=>a
def A3d:Rd (G9×(List DK)×Int×Int) GR:=λa (b,c,d,e)=>bif e<d then(at? c e).bind λf=>(VR f).bind λg=>bif !g then some (.inr 8)else bif DP f b.1 then some (.inr 5)else(bif 0<e then at? b.2.1 (i64.wrap (e-1))else some []).bind λg=>bif 0<e&&(Op.bytesLess f g||DP f g)then some (.inr 10)else a (b,c,d,i64.wrap (e+1))else some (.inl ())
def vD:=DX A3d fuel
def gG:DK×(List DK)×DK×Int×Bool×DK×(List GQ)->Option (Int):=λa=>bif 20<(a.2.1.length:Int)then some 3 else(vD (a,a.2.1,a.2.1.length,0)).bind λa=>match a with|.inl _=>some 0|.inr a=>a
def gH:Unit->Option (List HX):=λ_=>let a:=EB DO 76 22 (EB DO 72 56 []);some [EB DO 80 20 (EB DO 76 55 (EB DO 65 62 (EB DO 78 85 []))),EB DO 72 44 (EB DO 76 77 []),EB DO 72 27 (EB DO 76 62 (EB DO 78 85 [])),EB DO 78 0 a,EB DO 78 0 a,EB DO 78 0 a]
def vE:Rd (DK×(List Int)×(List HX)×Int) (Sum (List Int) (Int×Int)):=λa (b,c,d,e)=>bif e<6 then(at? d e).bind λf=>(at? b e).bind λg=>bif !(DU DO g.toNat f).isSome then some (.inr (0,7))else(in? 6 e).bind λ_=>a (b,c.set e.toNat ((DU DO g.toNat f).getD 0),d,i64.wrap (e+1))else some (.inl c)
def gI:=DX vE fuel
def TL:DK->Option (Int×Int):=λa=>(gH ()).bind λb=>bif !DO a.length 6 then some (0,2)else(gI (a,List.replicate 6 0,b,0)).bind λa=>match a with|.inl a=>let b:=i64.wrap (i64.wrap (i64.wrap (100-a.getD 3 0)*i64.wrap (100-a.getD 4 0))*i64.wrap (100-a.getD 5 0));bif DO (i64.wrap (1000000-b)) 0 then some (0,0)else(div? i64 (i64.wrap (i64.wrap (i64.wrap (10*i64.wrap (i64.wrap (642*i64.wrap (1000000-b))+i64.wrap (i64.wrap (i64.wrap (822*a.getD 0 0)*a.getD 1 0)*a.getD 2 0)))+100000000)-1)) 100000000).bind λa=>some (Y3 100 a,0)|.inr a=>(a.1,a.2)
def A3e:Rd ((List Int)×Int×Int) (List Int):=λa (b,c,d)=>bif d<c then(in? b.length d).bind λ_=>bif 65<=b.getD d.toNat 0&&b.getD d.toNat 0<=90 then(in? b.length d).bind λ_=>a (b.set d.toNat (u8.wrap (u8.wrap (b.getD d.toNat 0+97)-65)),c,i64.wrap (d+1))else a (b,c,i64.wrap (d+1))else b
def vF:=DX A3e fuel
def TM:DK->Option DK:=λa=>(vF (FX a,((FX a).length:Int),0)).bind λa=>(cat? [] (IM a)).bind λa=>a
def N5:EP×Int->Option EP:=λ(a,b)=>bif a.2.2<0 then(a.1,a.2.1,b)else a
def L3:Option EP->Option (Int):=λa=>(a).bind λb=>(a).bind λc=>bif b.2.1<c.1.length then(a).bind λb=>(a).bind λa=>(at? b.1 a.2.1).bind λa=>some a.toNat else some 0
def ZA:Int->Option (Bool):=λa=>some (97<=a&&a<=122||65<=a&&a<=90)
def A3f:Rd (EP×Int) (Sum EP (EP×DK)):=λa (b,c)=>bif c<4 then(bif !(b.1.length<=c)then cut? b.1 c (i64.wrap (c+1))else some []).bind λd=>(bif !(b.1.length<=c)then TM d else some []).bind λd=>(bif !(b.1.length<=c)then cut? [112,107,103,58] c (i64.wrap (c+1))else some []).bind λe=>bif b.1.length<=c||!DP d e then(N5 (b,c)).bind λd=>some (.inr (d,[]))else a (b,i64.wrap (c+1))else some (.inl b)
def vG:=DX A3f fuel
def A3g:Rd EP EP:=λa b=>(bif b.2.1<b.1.length then at? b.1 b.2.1 else some 0).bind λc=>(bif b.2.1<b.1.length then ZA c.toNat else some false).bind λc=>bif b.2.1<b.1.length&&c then a (b.1,i64.wrap (b.2.1+1),b.2.2)else b
def vH:=DX A3g fuel
def gJ:EP×Bool->Option EP:=λ(a,b)=>bif b then some (a.1,i64.wrap (a.2.1+1),a.2.2)else(vH a).bind λa=>a
def ZB:EP×Bool->Option (DK×EP):=λ(a,b)=>(vG (a,0)).bind λa=>match a with|.inl a=>(bif b then L3 (some (a.1,4,a.2.2))else some 0).bind λc=>(gJ ((a.1,4,a.2.2),b&&DO c 42)).bind λa=>(cut? a.1 4 a.2.1).bind λb=>(bif !DP b []then L3 (some a)else some 0).bind λc=>bif DP b []||!DO c 47 then(N5 (a,a.2.1)).bind λc=>some ([],c)else(TM b).bind λb=>some (b,a.1,i64.wrap (a.2.1+1),a.2.2)|.inr a=>(a.2,a.1)
def gK:EP×Int×Int×Bool->Option (EP×Int):=λ(a,b,c,d)=>bif d then(at? a.1 (i64.wrap (a.2.1+b))).bind λb=>(Y_ b.toNat).bind λb=>(a,b)else(a,c)
def A3h:Rd (EP×Int×Int) (Sum (EP×Int) (EP×Int×Bool)):=λa (b,c,d)=>bif d<=2 then(gK (b,d,-1,i64.wrap (b.2.1+d)<b.1.length)).bind λe=>bif e.2<0 then(N5 (e.1,i64.wrap (e.1.2.1+d))).bind λf=>some (.inr (f,0,false))else a (e.1,i64.wrap (i64.wrap (16*c)+e.2),i64.wrap (d+1))else some (.inl (b,c))
def vI:=DX A3h fuel
def ZC:DK×Int×Int->Option (Int×Bool×EP):=λa=>bif a.1.length<=a.2.1 then some (0,false,a)else(at? a.1 a.2.1).bind λb=>bif !DO b.toNat 37 then let c:=((b.toNat:Int)<33||126<(b.toNat:Int));(bif !c then strings_IndexByte ([47,64,63,35,38,61],b.toNat)else some 0).bind λd=>bif c||0<=d then some (0,false,a)else some (b.toNat,true,a.1,i64.wrap (a.2.1+1),a.2.2)else(vI (a,0,1)).bind λa=>match a with|.inl a=>some (u8.wrap a.2,true,a.1.1,i64.wrap (a.1.2.1+3),a.1.2.2)|.inr a=>(a.2.1,a.2.2,a.1)
def A3i:Rd (EP×(List Int)) (EP×(List Int)):=λa (b,c)=>bif b.2.2<0 then(ZC b).bind λd=>bif !d.2.1 then(d.2.2,c)else(app? 24 c [d.1]).bind λe=>a (d.2.2,e)else(b,c)
def vJ:=DX A3i fuel
def TN:DK×Int×Int->Option (DK×EP):=λa=>(vJ (a,[])).bind λa=>bif DO a.2.length 0 then(N5 (a.1,a.1.2.1)).bind λb=>(cat? [] (IM a.2)).bind λc=>(c,b)else(cat? [] (IM a.2)).bind λb=>(b,a.1)
def A3j:Rd (EP×(List DK)) (EP×(List DK)):=λa (b,c)=>(bif b.2.2<0 then L3 (some b)else some 0).bind λd=>bif b.2.2<0&&DO d 47 then(TN (b.1,i64.wrap (b.2.1+1),b.2.2)).bind λd=>(app? 24 c [d.1]).bind λe=>a (d.2,e)else(b,c)
def vK:=DX A3j fuel
def ZD:DK×Int×Int->Option ((List DK)×EP):=λa=>(TN a).bind λa=>(vK (a.2,[a.1])).bind λa=>(a.2,a.1)
def A3k:Rd (EP×Int) EP:=λa (b,c)=>(bif b.2.1<b.1.length then at? b.1 b.2.1 else some 0).bind λd=>(bif b.2.1<b.1.length then YY (d.toNat,DO b.2.1 c)else some false).bind λd=>bif b.2.1<b.1.length&&d then a ((b.1,i64.wrap (b.2.1+1),b.2.2),c)else b
def vL:=DX A3k fuel
def gL:DK×Int×Int->Option ((DK×DK)×EP):=λa=>(vL (a,a.2.1)).bind λb=>(cut? b.1 a.2.1 b.2.1).bind λa=>(bif !DP a []then L3 (some b)else some 0).bind λc=>bif DP a []||!DO c 61 then(N5 (b,b.2.1)).bind λc=>some (([],[]),c)else(TN (b.1,i64.wrap (b.2.1+1),b.2.2)).bind λb=>some ((a,b.1),b.2)
def gM:EP×IB×Bool->Option (EP×IB):=λ(a,b,c)=>bif c then(TN (a.1,i64.wrap (a.2.1+1),a.2.2)).bind λc=>(c.2,b.1,b.2.1,b.2.2.1,c.1,b.2.2.2.2.1,b.2.2.2.2.2)else(a,b.1,b.2.1,b.2.2.1,b.2.2.2.1,b.2.2.2.2.1,b.2.2.2.2.2)
def A3l:Rd (EP×IB×Int) (EP×IB):=λa (b,c,d)=>let e:=(b.2.2<0&&b.2.1<b.1.length);(bif e then L3 (some b)else some 0).bind λf=>bif e&&DO f d then(gL (b.1,i64.wrap (b.2.1+1),b.2.2)).bind λd=>(app? 48 c.2.2.2.2.1 [d.1]).bind λe=>a (d.2,(c.1,c.2.1,c.2.2.1,c.2.2.2.1,e,c.2.2.2.2.2),38)else(b,c.1,c.2.1,c.2.2.1,c.2.2.2.1,c.2.2.2.2.1,c.2.2.2.2.2)
def vM:=DX A3l fuel
def gN:EP×IB×Bool->Option (EP×IB):=λ(a,b,c)=>bif c then(ZD (a.1,i64.wrap (a.2.1+1),a.2.2)).bind λc=>(strings_Join (c.1,[47])).bind λd=>(c.2,b.1,b.2.1,b.2.2.1,b.2.2.2.1,b.2.2.2.2.1,d)else(a,b.1,b.2.1,b.2.2.1,b.2.2.2.1,b.2.2.2.2.1,b.2.2.2.2.2)
def gO:DK×Int×Int->Option (IB×EP):=λa=>(ZB (a,false)).bind λa=>bif 0<=a.2.2.2 then some ((a.1,[],[],[],[],[]),a.2)else(ZD a.2).bind λb=>(cut? b.1 0 (i64.wrap (b.1.length-1))).bind λc=>(strings_Join (c,[47])).bind λc=>(at? b.1 (i64.wrap (b.1.length-1))).bind λd=>(bif b.2.2.2<0 then L3 (some b.2)else some 0).bind λe=>(gM (b.2,(a.1,c,d,[],[],[]),(b.2.2.2<0)&&DO e 64)).bind λa=>(vM (a.1,(a.2.1,a.2.2.1,a.2.2.2.1,a.2.2.2.2.1,a.2.2.2.2.2.1,a.2.2.2.2.2.2),63)).bind λa=>(bif a.1.2.2<0 then L3 (some a.1)else some 0).bind λb=>(gN (a.1,(a.2.1,a.2.2.1,a.2.2.2.1,a.2.2.2.2.1,a.2.2.2.2.2.1,a.2.2.2.2.2.2),(a.1.2.2<0)&&DO b 35)).bind λa=>bif a.1.2.2<0&&a.1.2.1<a.1.1.length then(N5 (a.1,a.1.2.1)).bind λb=>some ((a.2.1,a.2.2.1,a.2.2.2.1,a.2.2.2.2.1,a.2.2.2.2.2.1,a.2.2.2.2.2.2),b)else some ((a.2.1,a.2.2.1,a.2.2.2.1,a.2.2.2.2.1,a.2.2.2.2.2.1,a.2.2.2.2.2.2),a.1)
def A3m:Rd (DT×Int×FI×Int) DT:=λa (b,c,d,e)=>(bif c<e then in? b.length e else some ()).bind λ_=>(bif c<e then in? b.length (i64.wrap (e-1))else some ()).bind λ_=>(bif c<e then d (b.getD e.toNat ([],[]),b.getD ((i64.wrap (e-1)).toNat) ([],[]))else some 0).bind λf=>bif c<e&&f<0 then(in? b.length (i64.wrap (e-1))).bind λ_=>let f:=b.getD ((i64.wrap (e-1)).toNat) ([],[]);(in? b.length e).bind λ_=>(in? b.length e).bind λ_=>(in? (b.set e.toNat f).length (i64.wrap (e-1))).bind λ_=>a ((b.set e.toNat f).set ((i64.wrap (e-1)).toNat) (b.getD e.toNat ([],[])),c,d,i64.wrap (e-1))else b
def vN:=DX A3m fuel
def A3n:Rd (DT×Int×Int×FI×Int) DT:=λa (b,c,d,e,f)=>bif f<d then(vN (b,c,e,f)).bind λg=>a (g,c,d,e,i64.wrap (f+1))else b
def vO:=DX A3n fuel
def ZE:DT×Int×Int×FI->Option DT:=λ(a,b,c,d)=>(vO (a,b,c,d,i64.wrap (b+1))).bind λa=>a
def A3o:Rd (DT×Int×Int×Int×Int) DT:=λa (b,c,d,e,f)=>bif f<e then(in? b.length (i64.wrap (d+f))).bind λ_=>let g:=b.getD ((i64.wrap (d+f)).toNat) ([],[]);(in? b.length (i64.wrap (c+f))).bind λ_=>(in? b.length (i64.wrap (c+f))).bind λ_=>(in? (b.set ((i64.wrap (c+f)).toNat) g).length (i64.wrap (d+f))).bind λ_=>a ((b.set ((i64.wrap (c+f)).toNat) g).set ((i64.wrap (d+f)).toNat) (b.getD ((i64.wrap (c+f)).toNat) ([],[])),c,d,e,i64.wrap (f+1))else b
def vP:=DX A3o fuel
def VS:DT×Int×Int×Int×FI->Option DT:=λ(a,b,c,d,_)=>(vP (a,b,c,d,0)).bind λa=>a
def A3p:Rd (DT×Int×FI×Int×Int) (DT×Int):=λa (b,c,d,e,f)=>bif !DO e f then bif f<e then(VS (b,i64.wrap (c-e),c,f,d)).bind λg=>a (g,c,d,i64.wrap (e-f),f)else(VS (b,i64.wrap (c-e),i64.wrap (i64.wrap (c+f)-e),e,d)).bind λg=>a (g,c,d,e,i64.wrap (f-e))else(b,e)
def vQ:=DX A3p fuel
def gP:DT×Int×Int×Int×FI->Option DT:=λ(a,b,c,d,e)=>(vQ (a,c,e,i64.wrap (c-b),i64.wrap (d-c))).bind λa=>(VS (a.1,i64.wrap (c-a.2),c,a.2,e)).bind λa=>a
def A3q(slf:DT×Int×Int×Int×FI->Option DT)(a:DT×Int×FI×Int×Int->Option (DT×Int)):DT×Int×FI×Int×Int->Option (DT×Int):=λ(b,c,d,e,f)=>bif e<f then(shr? u64 (u64.wrap (i64.wrap (e+f))) 1).bind λg=>(in? b.length (i64.wrap g)).bind λ_=>(in? b.length c).bind λ_=>(d (b.getD ((i64.wrap g).toNat) ([],[]),b.getD c.toNat ([],[]))).bind λh=>bif h<0 then a (b,c,d,i64.wrap (i64.wrap g+1),f)else a (b,c,d,e,i64.wrap g)else(b,e)
def vR(slf:DT×Int×Int×Int×FI->Option DT):DT×Int×FI×Int×Int->Option (DT×Int):=DX (A3q slf) fuel
def A3r(slf:DT×Int×Int×Int×FI->Option DT)(a:DT×Int×Int->Option DT):DT×Int×Int->Option DT:=λ(b,c,d)=>bif d<i64.wrap (c-1)then(in? b.length (i64.wrap (d+1))).bind λ_=>let e:=b.getD ((i64.wrap (d+1)).toNat) ([],[]);(in? b.length d).bind λ_=>(in? b.length d).bind λ_=>(in? (b.set d.toNat e).length (i64.wrap (d+1))).bind λ_=>a ((b.set d.toNat e).set ((i64.wrap (d+1)).toNat) (b.getD d.toNat ([],[])),c,i64.wrap (d+1))else b
def vS(slf:DT×Int×Int×Int×FI->Option DT):DT×Int×Int->Option DT:=DX (A3r slf) fuel
def A3s(slf:DT×Int×Int×Int×FI->Option DT)(a:DT×Int×FI×Int×Int->Option (DT×Int)):DT×Int×FI×Int×Int->Option (DT×Int):=λ(b,c,d,e,f)=>bif e<f then(shr? u64 (u64.wrap (i64.wrap (e+f))) 1).bind λg=>(in? b.length c).bind λ_=>(in? b.length (i64.wrap g)).bind λ_=>(d (b.getD c.toNat ([],[]),b.getD ((i64.wrap g).toNat) ([],[]))).bind λh=>bif !(h<0)then a (b,c,d,i64.wrap (i64.wrap g+1),f)else a (b,c,d,e,i64.wrap g)else(b,e)
def vT(slf:DT×Int×Int×Int×FI->Option DT):DT×Int×FI×Int×Int->Option (DT×Int):=DX (A3s slf) fuel
def A3t(slf:DT×Int×Int×Int×FI->Option DT)(a:DT×Int×Int->Option DT):DT×Int×Int->Option DT:=λ(b,c,d)=>bif c<d then(in? b.length (i64.wrap (d-1))).bind λ_=>let e:=b.getD ((i64.wrap (d-1)).toNat) ([],[]);(in? b.length d).bind λ_=>(in? b.length d).bind λ_=>(in? (b.set d.toNat e).length (i64.wrap (d-1))).bind λ_=>a ((b.set d.toNat e).set ((i64.wrap (d-1)).toNat) (b.getD d.toNat ([],[])),c,i64.wrap (d-1))else b
def vU(slf:DT×Int×Int×Int×FI->Option DT):DT×Int×Int->Option DT:=DX (A3t slf) fuel
def gQ(slf:DT×Int×Int×Int×FI->Option DT):Int×Int×Int×Int×Int×Bool->Option (Int×Int):=λ(a,b,c,d,e,f)=>bif f then some (i64.wrap (e-c),d)else(a,b)
def A3u(slf:DT×Int×Int×Int×FI->Option DT)(a:DT×FI×Int×Int×Int->Option (DT×Int)):DT×FI×Int×Int×Int->Option (DT×Int):=λ(b,c,d,e,f)=>bif d<e then(shr? u64 (u64.wrap (i64.wrap (d+e))) 1).bind λg=>(in? b.length (i64.wrap (f-i64.wrap g))).bind λ_=>(in? b.length (i64.wrap g)).bind λ_=>(c (b.getD ((i64.wrap (f-i64.wrap g)).toNat) ([],[]),b.getD ((i64.wrap g).toNat) ([],[]))).bind λh=>bif !(h<0)then a (b,c,i64.wrap (i64.wrap g+1),e,f)else a (b,c,d,i64.wrap g,f)else(b,d)
def vV(slf:DT×Int×Int×Int×FI->Option DT):DT×FI×Int×Int×Int->Option (DT×Int):=DX (A3u slf) fuel
def gR(slf:DT×Int×Int×Int×FI->Option DT):DT×Int×FI×Int×Int×Bool->Option DT:=λ(a,b,c,d,e,f)=>bif f then(gP (a,d,b,e,c)).bind λb=>b else a
def gS(slf:DT×Int×Int×Int×FI->Option DT):DT×Int×FI×Int×Int×Bool->Option DT:=λ(a,b,c,d,e,f)=>bif f then(slf (a,b,e,d,c)).bind λb=>b else a
def vW(slf:DT×Int×Int×Int×FI->Option DT):DT×Int×Int×Int×FI->Option DT:=λ(a,b,c,d,e)=>bif DO (i64.wrap (c-b)) 1 then(vR slf (a,b,e,c,d)).bind λf=>(vS slf (f.1,f.2,b)).bind λf=>f else bif DO (i64.wrap (d-c)) 1 then(vT slf (a,c,e,b,c)).bind λf=>(vU slf (f.1,f.2,c)).bind λf=>f else(shr? u64 (u64.wrap (i64.wrap (b+d))) 1).bind λf=>(gQ slf (b,c,d,i64.wrap f,i64.wrap (i64.wrap f+c),i64.wrap f<c)).bind λg=>(vV slf (a,e,g.1,g.2,i64.wrap (i64.wrap (i64.wrap f+c)-1))).bind λa=>let g:=i64.wrap (i64.wrap (i64.wrap f+c)-a.2);(gR slf (a.1,c,e,a.2,g,(a.2<c)&&c<g)).bind λc=>(gS slf (c,b,e,i64.wrap f,a.2,(b<a.2)&&a.2<i64.wrap f)).bind λa=>bif i64.wrap f<g&&g<d then(slf (a,i64.wrap f,g,d,e)).bind λb=>b else a
def MC:Nat->DT×Int×Int×Int×FI->Option DT
 |0=>λ_=>none
 |n+1=>vW (MC n)
def ZF:DT×Int×Int×Int×FI->Option DT:=MC 100
def A3v:Rd (DT×Int×FI×Int×Int×Int) (DT×Int):=λa (b,c,d,e,f,g)=>bif g<=c then(ZE (b,f,g,d)).bind λh=>a (h,c,d,e,g,i64.wrap (g+e))else(b,f)
def vX:=DX A3v fuel
def A3w:Rd (DT×Int×FI×Int×Int×Int) (DT×Int):=λa (b,c,d,e,f,g)=>bif g<=c then(ZF (b,f,i64.wrap (f+e),g,d)).bind λh=>a (h,c,d,e,g,i64.wrap (g+i64.wrap (2*e)))else(b,f)
def vY:=DX A3w fuel
def A3x:Rd (DT×Int×FI×Int) DT:=λa (b,c,d,e)=>bif e<c then(vY (b,c,d,e,0,i64.wrap (2*e))).bind λf=>bif i64.wrap (f.2+e)<c then(ZF (f.1,f.2,i64.wrap (f.2+e),c,d)).bind λg=>a (g,c,d,i64.wrap (e*2))else a (f.1,c,d,i64.wrap (e*2))else b
def vZ:=DX A3x fuel
def gT:DT×Int×FI->Option DT:=λ(a,b,c)=>(vX (a,b,c,20,0,20)).bind λa=>(ZE (a.1,a.2,b,c)).bind λa=>(vZ (a,b,c,20)).bind λa=>a
def gU:DT×FI->Option DT:=λ(a,b)=>(gT (a,a.length,b)).bind λa=>a
def gV:(DK×DK)×(DK×DK)->Option (Int):=λ(a,b)=>(KR (a.1,b.1)).bind λa=>a
def ZG:Int->Option (Bool):=λa=>some (DO a 45||DO a 95||DO a 46)
def OS:(List Int)×Int->Option (Unit×(List Int)):=λ(a,b)=>(fJ a).bind λa=>(app? 24 a [b]).bind λa=>some ((),a)
def A3y:Rd (DK×(List Int)×Int×Int) (List Int):=λa (b,c,d,e)=>bif e<d then(at? b e).bind λf=>(ZG f.toNat).bind λf=>bif !f then(at? b e).bind λf=>(OS (c,f.toNat)).bind λf=>a (b,f.2,d,i64.wrap (e+1))else(bif !DO e 0 then at? b (i64.wrap (e-1))else some 0).bind λf=>(bif !DO e 0 then ZG f.toNat else some false).bind λf=>bif DO e 0||!f then(OS (c,45)).bind λf=>a (b,f.2,d,i64.wrap (e+1))else a (b,c,d,i64.wrap (e+1))else c
def v_:=DX A3y fuel
def gW:DK->Option DK:=λa=>(v_ (a,[],a.length,0)).bind λa=>(PZ a).bind λa=>a
def gX:I5×Bool->Option I5:=λ(a,b)=>bif b then(TM a.2.1).bind λb=>(TM a.2.2.1).bind λc=>(a.1,b,c,a.2.2.2)else a
def TO:DK×DK×DK×DK×DT×DK->Option I5:=λa=>(VN a.1).bind λb=>(gX (a,b.1.2.2.1)).bind λa=>bif b.1.2.2.2.1 then(gW a.2.2.1).bind λb=>(app? 48 [] a.2.2.2.2.1).bind λc=>(a.1,a.2.1,b,a.2.2.2.1,c,a.2.2.2.2.2)else(app? 48 [] a.2.2.2.2.1).bind λb=>(a.1,a.2.1,a.2.2.1,a.2.2.2.1,b,a.2.2.2.2.2)
def A3z:Rd (I5×IB×Int) (Sum (I5×IB) (I5×Int×Int)):=λa (b,c,d)=>bif d<c.2.2.2.2.1.length then(in? c.2.2.2.2.1.length d).bind λ_=>(in? c.2.2.2.2.1.length (i64.wrap (d-1))).bind λ_=>bif DP ((c.2.2.2.2.1.getD d.toNat ([],[])).1) ((c.2.2.2.2.1.getD ((i64.wrap (d-1)).toNat) ([],[])).1)then some (.inr (([],[],[],[],[],[]),0,5))else a (b,(c.1,c.2.1,c.2.2.1,c.2.2.2.1,c.2.2.2.2.1,c.2.2.2.2.2),i64.wrap (d+1))else some (.inl (b,c.1,c.2.1,c.2.2.1,c.2.2.2.1,c.2.2.2.2.1,c.2.2.2.2.2))
def w6:=DX A3z fuel
def VT:DK->Option (I5×Int×Int):=λa=>bif 3000<(a.length:Int)then some (([],[],[],[],[],[]),0,3)else(gO (a,0,-1)).bind λa=>bif 0<=a.2.2.2 then some (([],[],[],[],[],[]),a.2.2.2,6)else(gU (a.1.2.2.2.2.1,λx=>(gV x).bind λr=>r)).bind λb=>(w6 (([],[],[],[],[],[]),(a.1.1,a.1.2.1,a.1.2.2.1,a.1.2.2.2.1,b,a.1.2.2.2.2.2),1)).bind λa=>match a with|.inl a=>(KQ (a.2.1,a.2.2.1,a.2.2.2.1,a.2.2.2.2.1,a.2.2.2.2.2.1,a.2.2.2.2.2.2)).bind λb=>bif !DO b 0 then some (([],[],[],[],[],[]),0,b)else(TO (a.2.1,a.2.2.1,a.2.2.2.1,a.2.2.2.2.1,a.2.2.2.2.2.1,a.2.2.2.2.2.2)).bind λa=>some (a,0,0)|.inr a=>(a.1,a.2.1,a.2.2)
def R_:(List Int)×DK->Option (Int×Unit×(List Int)):=λ(a,b)=>(fJ a).bind λa=>(app? 24 a (FX b)).bind λa=>some (b.length,(),a)
def A40:Rd (DK×(List Int)×Int×Int) (List Int):=λa (b,c,d,e)=>bif e<d then(at? b e).bind λf=>(ZA f.toNat).bind λg=>let h:=(48<=(f.toNat:Int)&&(f.toNat:Int)<=57);(bif !(g||h)then strings_IndexByte ([46,45,95,126],f.toNat)else some 0).bind λi=>bif g||h||0<=i then(OS (c,f.toNat)).bind λg=>a (b,g.2,d,i64.wrap (e+1))else(div? u8 f.toNat 16).bind λg=>(div? u8 f.toNat 16).bind λh=>(cut? [48,49,50,51,52,53,54,55,56,57,65,66,67,68,69,70] g (u8.wrap (h+1))).bind λg=>(cat? [37] g).bind λg=>(mod? f.toNat 16).bind λh=>(mod? f.toNat 16).bind λf=>(cut? [48,49,50,51,52,53,54,55,56,57,65,66,67,68,69,70] h (u8.wrap (f+1))).bind λf=>(cat? g f).bind λf=>(R_ (c,f)).bind λf=>a (b,f.2.2,d,i64.wrap (e+1))else c
def w7:=DX A40 fuel
def VU:DK->Option DK:=λa=>(w7 (a,[],a.length,0)).bind λa=>(PZ a).bind λa=>a
def A41:Rd ((List DK)×(List DK)×Int×Int) (List DK):=λa (b,c,d,e)=>bif e<d then(at? c e).bind λf=>(VU f).bind λf=>(app? 24 b [f]).bind λf=>a (f,c,d,i64.wrap (e+1))else b
def w8:=DX A41 fuel
def gY:DK->Option DK:=λa=>(TK a).bind λa=>(w8 ([],a,a.length,0)).bind λa=>(strings_Join (a,[47])).bind λa=>a
def gZ:DK×DK×DK×DK×DT×DK->Option DK:=λa=>(cat? [112,107,103,58] a.1).bind λb=>(cat? b [47]).bind λb=>bif !DP a.2.1 []then(gY a.2.1).bind λc=>(cat? c [47]).bind λc=>(cat? b c).bind λc=>(VU a.2.2.1).bind λd=>(cat? c d).bind λc=>c else(VU a.2.2.1).bind λa=>(cat? b a).bind λa=>a
def MD:DK×DK×DK×DK×DT×DK->Option (DK×Int):=λa=>(KQ a).bind λb=>bif !DO b 0 then some ([],b)else(TO a).bind λa=>(gZ a).bind λa=>some (a,0)
def g_:DK->Option (Bool):=λa=>(VT a).bind λb=>bif !DO b.2.2 0 then some false else(MD b.1).bind λb=>some (DO b.2 0&&DP b.1 a)
def A42:Rd (DK×Int×N3×Int) (Int):=λa (b,c,d,e)=>let f:=decide (i64.wrap (c+e)<b.length);(bif f then at? b (i64.wrap (c+e))else some 0).bind λg=>(bif f then d g.toNat else some false).bind λg=>bif f&&g then a (b,c,d,i64.wrap (e+1))else e
def w9:=DX A42 fuel
def IZ:DK×Int×N3->Option (Int):=λ(a,b,c)=>(w9 (a,b,c,0)).bind λa=>a
def H0:Int->Option (Bool):=λa=>some (48<=a&&a<=57)
def K7:DK->Option (Int×Bool):=λa=>let b:=(DP a []||18<(a.length:Int));(bif !b then IZ (a,0,λx=>(H0 x).bind λr=>r)else some 0).bind λc=>bif b||!DO c a.length then some (0,false)else(fI a).bind λa=>some (a.1,true)
def TP:DK->Option (Int×Bool):=λa=>(bif 1<(a.length:Int)then at? a 0 else some 0).bind λb=>bif 1<(a.length:Int)&&DO b.toNat 48 then some (0,false)else(K7 a).bind λa=>(a.1,a.2)
def N6:Int->Option (Bool):=λa=>some (65<=a&&a<=90||97<=a&&a<=122)
def hY:Int->Option (Bool):=λa=>(H0 a).bind λb=>(bif !b then N6 a else some false).bind λc=>some (b||c||DO a 45)
def A43:Rd ((List DK)×Int×Int) (Sum (Unit) MB):=λa (b,c,d)=>bif d<c then(at? b d).bind λe=>(bif !DP e []then IZ (e,0,λx=>(hY x).bind λr=>r)else some 0).bind λf=>bif DP e []||!DO f e.length then some (.inr ([],false))else a (b,c,i64.wrap (d+1))else some (.inl ())
def wA:=DX A43 fuel
def ZH:DK->Option MB:=λa=>(strings_Split (a,[46])).bind λa=>(wA (a,a.length,0)).bind λb=>match b with|.inl _=>some (a,true)|.inr a=>(a.1,a.2)
def A44:Rd ((List DK)×Int×Int) (Sum (Unit) MB):=λa (b,c,d)=>bif d<c then(at? b d).bind λe=>(IZ (e,0,λx=>(H0 x).bind λr=>r)).bind λf=>bif DO f e.length then(TP e).bind λe=>bif !e.2 then some (.inr ([],false))else a (b,c,i64.wrap (d+1))else a (b,c,i64.wrap (d+1))else some (.inl ())
def wB:=DX A44 fuel
def hZ:DK->Option MB:=λa=>(ZH a).bind λa=>(wB (a.1,a.1.length,0)).bind λb=>match b with|.inl _=>(a.1,a.2)|.inr a=>(a.1,a.2)
def iA:DK->Option MB:=λa=>(strings_Cut (a,[43])).bind λa=>(ZH a.2.1).bind λb=>bif a.2.2&&!b.2 then some ([],false)else bif DP a.1 []then some ([],true)else(at? a.1 0).bind λb=>bif !DO b.toNat 45 then some ([],false)else(cut? a.1 1 a.1.length).bind λa=>(hZ a).bind λa=>(a.1,a.2)
def iB:DK×Int×Bool->Option (Sum (Int) (H8×Bool)):=λ(a,b,c)=>bif c then(bif !(a.length<=b)then at? a b else some 0).bind λc=>bif a.length<=b||!DO c.toNat 46 then some (.inr (.inr (.inr (.inr (.inr (.inr ())))),false))else some (.inl (i64.wrap (b+1)))else some (.inl b)
def A45:Rd (DK×KN×Int×Int) (Sum (KN×Int) (H8×Bool)):=λa (b,c,d,e)=>bif e<3 then(iB (b,d,0<e)).bind λf=>match f with|.inl f=>(IZ (b,f,λx=>(H0 x).bind λr=>r)).bind λg=>(cut? b f (i64.wrap (f+g))).bind λh=>(TP h).bind λh=>bif !h.2 then some (.inr (.inr (.inr (.inr (.inr (.inr ())))),false))else(in? 3 e).bind λ_=>a (b,(c.1.set e.toNat h.1,c.2),i64.wrap (f+g),i64.wrap (e+1))|.inr a=>some (.inr (a.1,a.2))else some (.inl ((c.1,c.2),d))
def wC:=DX A45 fuel
def iC:DK->Option (H8×Bool):=λa=>(wC (a,(List.replicate 3 0,[]),0,0)).bind λb=>match b with|.inl b=>(cut? a b.2 a.length).bind λa=>(iA a).bind λa=>some (.inl (b.1.1,a.1),a.2)|.inr a=>(a.1,a.2)
def iD:Int->Option (Bool):=λa=>(H0 a).bind λb=>(bif !b then N6 a else some false).bind λc=>(bif !(b||c)then strings_IndexByte ([46,43,126,45],a)else some 0).bind λa=>some (b||c||0<=a)
def A46:Rd (DK×Int) KP:=λa (b,c)=>bif c<b.length then(IZ (b,c,λx=>(H0 x).bind λr=>r)).bind λd=>bif 18<d then some (.inr false)else a (b,i64.wrap (c+Y4 d 1))else some (.inl ())
def wD:=DX A46 fuel
def iE:DK->Option (Bool):=λa=>(wD (a,0)).bind λa=>match a with|.inl _=>some true|.inr a=>a
def iF:DK×K4×DK×DK×Bool->Option (Sum (DK×K4) (H8×Bool)):=λ(a,b,c,d,e)=>bif e then(TP c).bind λc=>bif !c.2 then some (.inr (.inr (.inr (.inr (.inr (.inr ())))),false))else some (.inl (d,c.1,b.2))else some (.inl (a,b))
def iG:DK->Option (H8×Bool):=λa=>(strings_Cut (a,[58])).bind λb=>(iF (a,(0,[],[],false),b.1,b.2.1,b.2.2)).bind λa=>match a with|.inl a=>(bif !DP a.1 []then at? a.1 0 else some 0).bind λb=>(bif !DP a.1 []then H0 b.toNat else some false).bind λb=>(bif !(DP a.1 []||!b)then IZ (a.1,0,λx=>(iD x).bind λr=>r)else some 0).bind λc=>let d:=(DP a.1 []||!b||!DO c a.1.length);(bif !d then iE a.1 else some false).bind λb=>bif d||!b then some (.inr (.inr (.inr (.inr (.inr ())))),false)else(strings_LastIndexByte (a.1,45)).bind λb=>bif 0<=b then(cut? a.1 0 b).bind λc=>(cut? a.1 (i64.wrap (b+1)) a.1.length).bind λb=>bif DP b []then some (.inr (.inr (.inr (.inr (.inr ())))),false)else(strings_IndexByte (c,45)).bind λd=>some (.inr (.inl (a.2.1,c,b,0<=d)),true)else(strings_IndexByte (a.1,45)).bind λb=>some (.inr (.inl (a.2.1,a.1,a.2.2.2.1,0<=b)),true)|.inr a=>(a.1,a.2)
def A47:Rd (DK×(List Int)) ((List Int)×DK×Bool):=λa (b,c)=>(IZ (b,0,λx=>(H0 x).bind λr=>r)).bind λd=>(cut? b 0 d).bind λe=>(K7 e).bind λe=>bif !e.2 then some ([],[],false)else(app? 24 c [e.1]).bind λc=>(cut? b d b.length).bind λb=>(bif !((b.length:Int)<2)then at? b 0 else some 0).bind λd=>let e:=((b.length:Int)<2||!DO d.toNat 46);(bif !e then at? b 1 else some 0).bind λd=>(bif !e then H0 d.toNat else some false).bind λd=>bif e||!d then some (c,b,true)else(cut? b 1 b.length).bind λb=>a (b,c)
def wE:=DX A47 fuel
def iH:DK->Option ((List Int)×DK×Bool):=λa=>(wE (a,[])).bind λa=>(a.1,a.2.1,a.2.2)
def wF:Int->Option (Bool):=λa=>some (DO a 46||DO a 45||DO a 95)
def ZI:DK×N3->Option (Int):=λ(a,b)=>(bif 1<(a.length:Int)then at? a 0 else some 0).bind λc=>(bif 1<(a.length:Int)then wF c.toNat else some false).bind λc=>(bif 1<(a.length:Int)&&c then at? a 1 else some 0).bind λd=>(bif 1<(a.length:Int)&&c then b d.toNat else some false).bind λb=>bif 1<(a.length:Int)&&c&&b then some 1 else some 0
def A48:Rd (DK×DK×(List DK)×Int×Int) DK:=λa (b,c,d,e,f)=>bif f<e then(at? d f).bind λg=>(strings_HasPrefix (b,g)).bind λh=>bif h then g else a (b,c,d,e,i64.wrap (f+1))else c
def wG:=DX A48 fuel
def iI:DK×Bool->Option (Bool):=λ(a,b)=>bif b then b else some (DP a [97,108,112,104,97])
def iJ:DK×Bool->Option (Bool):=λ(a,b)=>bif b then b else some (DP a [98,101,116,97])
def iK:DK×Bool->Option (Bool):=λ(a,b)=>bif b then b else bif DP a [114,99]then some (DP a [114,99])else bif DP a [112,114,101]then some (DP a [112,114,101])else some (DP a [112,114,101,118,105,101,119])
def iL:DK->Option EP:=λa=>let b:=[[112,114,101,118,105,101,119],[97,108,112,104,97],[98,101,116,97],[112,111,115,116],[112,114,101],[114,101,118],[100,101,118],[114,99],[97],[98],[99],[114]];(wG (a,[],b,b.length,0)).bind λa=>bif DP a []then some ([],0,0)else(iI (a,DP a [97])).bind λb=>bif b then some (a,1,1)else(iJ (a,DP a [98])).bind λb=>bif b then some (a,1,2)else(iK (a,DP a [99])).bind λb=>bif b then some (a,1,3)else bif DP a [112,111,115,116]then bif DP a [112,111,115,116]then some (a,2,0)else some (a,3,0)else bif DP a [114,101,118]then bif DP a [114,101,118]then some (a,2,0)else some (a,3,0)else bif DP a [114]then some (a,2,0)else some (a,3,0)
def iM:DK×Int×Int×Bool->Option (Sum (DK×Int) (DK×Bool)):=λ(a,b,c,d)=>bif d then(IZ (a,c,λx=>(H0 x).bind λr=>r)).bind λd=>(cut? a c (i64.wrap (c+d))).bind λe=>(K7 e).bind λe=>bif !e.2 then some (.inr ([],false))else(cut? a (i64.wrap (c+d)) a.length).bind λc=>some (.inl (c,e.1))else some (.inl (a,b))
def A49:Rd (FP×DK×Int) (FP×DK×Bool):=λa (b,c,d)=>(ZI (c,λx=>(N6 x).bind λr=>r)).bind λe=>(cut? c e c.length).bind λe=>(iL e).bind λf=>bif DP f.1 []then some (b,c,true)else bif f.2.1<=d then some (b,[],false)else(cut? e f.1.length e.length).bind λc=>(ZI (c,λx=>(H0 x).bind λr=>r)).bind λd=>(bif !(0<d)&&!DP c []then at? c 0 else some 0).bind λe=>(bif !(0<d)&&!DP c []then H0 e.toNat else some false).bind λe=>(iM (c,0,d,(0<d)||!DP c []&&e)).bind λc=>match c with|.inl c=>bif DO f.2.1 1 then a ((b.1,b.2.1,f.2.2,c.2,b.2.2.2.2),c.1,f.2.1)else bif DO f.2.1 2 then a ((b.1,b.2.1,b.2.2.1,b.2.2.2.1,c.2,b.2.2.2.2.2),c.1,f.2.1)else bif DO f.2.1 3 then a ((b.1,b.2.1,b.2.2.1,b.2.2.2.1,b.2.2.2.2.1,c.2,b.2.2.2.2.2.2),c.1,f.2.1)else a (b,c.1,f.2.1)|.inr a=>(b,a.1,a.2)
def wH:=DX A49 fuel
def iN:FP×DK->Option (DK×Bool×FP):=λ(a,b)=>(wH (a,b,0)).bind λa=>(a.2.1,a.2.2,a.1)
def wI:Int->Option (Bool):=λa=>some (DO a 46||DO a 45||DO a 95)
def iO:Int->Option (Bool):=λa=>(H0 a).bind λb=>(bif !b then N6 a else some false).bind λa=>some (b||a)
def A4A:Rd (Int×(List DK)×Int×Int) (Sum (Int) MB):=λa (b,c,d,e)=>bif e<d then(at? c e).bind λf=>(IZ (f,0,λx=>(H0 x).bind λr=>r)).bind λg=>(IZ (f,0,λx=>(iO x).bind λr=>r)).bind λh=>bif !DO h f.length||DO g f.length&&18<g then some (.inr ([],false))else a (i64.wrap (b+f.length),c,d,i64.wrap (e+1))else some (.inl b)
def wJ:=DX A4A fuel
def iP:DK->Option MB:=λa=>(VJ (a,λx=>(wI x).bind λr=>r)).bind λb=>(wJ (b.length,b,b.length,0)).bind λc=>match c with|.inl c=>some (b,(0<(b.length:Int))&&DO (i64.wrap (c-1)) a.length)|.inr a=>(a.1,a.2)
def iQ:DK×FP×Int×Bool->Option (Sum (DK×FP) (H8×Bool)):=λ(a,b,c,d)=>bif d then(cut? a 0 c).bind λd=>(K7 d).bind λd=>bif !d.2 then some (.inr (.inr (.inr (.inr (.inr (.inr ())))),false))else(cut? a (i64.wrap (c+1)) a.length).bind λc=>some (.inl (c,d.1,b.2))else some (.inl (a,b))
def iR:DK->Option (H8×Bool):=λa=>(strings_TrimPrefix (a,[118])).bind λa=>(IZ (a,0,λx=>(H0 x).bind λr=>r)).bind λb=>(bif b<a.length then at? a b else some 0).bind λc=>(iQ (a,(0,[],0,0,-1,-1,[]),b,(b<a.length)&&DO c.toNat 33)).bind λa=>match a with|.inl a=>(iH a.1).bind λb=>bif !b.2.2 then some (.inr (.inr (.inr (.inr (.inr ())))),false)else(iN ((a.2.1,b.1,a.2.2.2),b.2.1)).bind λa=>bif !a.2.1 then some (.inr (.inr (.inr (.inr (.inr ())))),false)else(strings_CutPrefix (a.1,[43])).bind λb=>bif b.2 then(iP b.1).bind λb=>some (.inr (.inr (.inl (a.2.2.1,a.2.2.2.1,a.2.2.2.2.1,a.2.2.2.2.2.1,a.2.2.2.2.2.2.1,a.2.2.2.2.2.2.2.1,b.1))),b.2)else some (.inr (.inr (.inl a.2.2)),DP a.1 [])|.inr a=>(a.1,a.2)
def iS:DK×Bool->Option DK:=λ(a,b)=>(YV a).bind λa=>bif DP a [97]&&b then some [97,108,112,104,97]else bif DP a [98]&&b then some [98,101,116,97]else bif DP a [109]&&b then some [109,105,108,101,115,116,111,110,101]else bif DP a [99,114]then some [114,99]else bif DP a [102,105,110,97,108]||DP a [103,97]||DP a [114,101,108,101,97,115,101]then some []else a
def TQ:Bool×DK×Int->Option (Bool):=λa=>some (a.1&&DP a.2.1 []||!a.1&&DO a.2.2 0)
def iT:DK×Int×Bool->Option (Sum (Int) (H8×Bool)):=λ(a,b,c)=>bif c then let c:=DO b (i64.wrap (a.length-1));(bif !(DO b 0||c)then at? a (i64.wrap (b+1))else some 0).bind λd=>(bif !(DO b 0||c)then H0 d.toNat else some false).bind λd=>(bif !(DO b 0||c)&&!d then at? a (i64.wrap (b+1))else some 0).bind λa=>(bif !(DO b 0||c)&&!d then N6 a.toNat else some false).bind λa=>bif DO b 0||c||!d&&!a then some (.inr (.inr (.inr (.inr (.inr (.inr ())))),false))else some (.inl (i64.wrap (b+1)))else some (.inl b)
def A4B:Rd (DK×G_×Int) (Sum G_ (H8×Bool)):=λa (b,c,d)=>bif d<b.length then(at? b d).bind λe=>(bif !DO e.toNat 46 then at? b d else some 0).bind λf=>(iT (b,d,DO e.toNat 46||DO f.toNat 45)).bind λd=>match d with|.inl d=>(IZ (b,d,λx=>(H0 x).bind λr=>r)).bind λe=>bif 0<e then(cut? b d (i64.wrap (d+e))).bind λf=>(K7 f).bind λf=>bif !f.2 then some (.inr (.inr (.inr (.inr (.inr (.inr ())))),false))else(app? 72 c [(false,[],f.1)]).bind λf=>a (b,f,i64.wrap (d+e))else(IZ (b,d,λx=>(N6 x).bind λr=>r)).bind λe=>bif DO e 0 then some (.inr (.inr (.inr (.inr (.inr (.inr ())))),false))else let f:=decide (i64.wrap (d+e)<b.length);(bif f then at? b (i64.wrap (d+e))else some 0).bind λg=>(bif f then H0 g.toNat else some false).bind λg=>(cut? b d (i64.wrap (d+e))).bind λh=>(iS (h,f&&g)).bind λf=>(app? 72 c [(true,f,0)]).bind λf=>a (b,f,i64.wrap (d+e))|.inr a=>some (.inr (a.1,a.2))else some (.inl c)
def wK:=DX A4B fuel
def A4C:Rd G_ G_:=λa b=>(bif 0<(b.length:Int)then at? b (i64.wrap (b.length-1))else some (false,[],0)).bind λc=>(bif 0<(b.length:Int)then TQ c else some false).bind λc=>bif 0<(b.length:Int)&&c then(cut? b 0 (i64.wrap (b.length-1))).bind λc=>a c else b
def wL:=DX A4C fuel
def iU:DK->Option (H8×Bool):=λa=>(wK (a,[],0)).bind λa=>match a with|.inl a=>(wL a).bind λa=>some (.inr (.inr (.inr (.inl a))),true)|.inr a=>(a.1,a.2)
def iV:DK->Option (H8×Bool):=λa=>(TP a).bind λa=>some (.inr (.inr (.inr (.inr (.inl a.1)))),a.2)
def K8:Int×DK->Option (H8×Int):=λ(a,b)=>bif a<1||5<a then some (.inr (.inr (.inr (.inr (.inr ())))),7)else bif DP b []||100<(b.length:Int)then some (.inr (.inr (.inr (.inr (.inr ())))),3)else bif DO a 1 then(iC b).bind λc=>bif !c.2 then some (.inr (.inr (.inr (.inr (.inr ())))),6)else some (c.1,0)else bif DO a 2 then(iG b).bind λc=>bif !c.2 then some (.inr (.inr (.inr (.inr (.inr ())))),6)else some (c.1,0)else bif DO a 3 then(YV b).bind λc=>(iR c).bind λc=>bif !c.2 then some (.inr (.inr (.inr (.inr (.inr ())))),6)else some (c.1,0)else bif DO a 4 then(iU b).bind λc=>bif !c.2 then some (.inr (.inr (.inr (.inr (.inr ())))),6)else some (c.1,0)else bif DO a 5 then(iV b).bind λa=>bif !a.2 then some (.inr (.inr (.inr (.inr (.inr ())))),6)else some (a.1,0)else bif !false then some (.inr (.inr (.inr (.inr (.inr ())))),6)else some (.inr (.inr (.inr (.inr (.inr ())))),0)
def A4D:Rd ((List DK)×(List Int)×Int×Int) (List DK):=λa (b,c,d,e)=>bif e<d then(at? c e).bind λf=>(strconv_Itoa f).bind λf=>(app? 24 b [f]).bind λf=>a (f,c,d,i64.wrap (e+1))else b
def wM:=DX A4D fuel
def ZJ:List Int->Option DK:=λa=>(wM ([],a,a.length,0)).bind λa=>(strings_Join (a,[46])).bind λa=>a
def ZK:(List Int)×(List DK)->Option DK:=λa=>(cut? a.1 0 a.1.length).bind λb=>(ZJ b).bind λb=>bif 0<(a.2.length:Int)then(strings_Join (a.2,[46])).bind λa=>(cat? [45] a).bind λa=>(cat? b a).bind λa=>a else b
def A4E:Rd (DK×(List Int)×Int) (List Int):=λa (b,c,d)=>bif d<b.length then(IZ (b,d,λx=>(H0 x).bind λr=>r)).bind λe=>bif DO e 0 then(at? b d).bind λf=>(OS (c,f.toNat)).bind λf=>a (b,f.2,i64.wrap (d+1))else(cut? b d (i64.wrap (d+e))).bind λf=>(K7 f).bind λf=>bif !DO f.1 0||i64.wrap (d+e)<b.length||DO e b.length then(strconv_Itoa f.1).bind λf=>(R_ (c,f)).bind λf=>a (b,f.2.2,i64.wrap (d+e))else a (b,c,i64.wrap (d+e))else c
def wN:=DX A4E fuel
def ZL:DK->Option DK:=λa=>(wN (a,[],0)).bind λa=>(PZ a).bind λa=>a
def ZM:Int×DK×DK×Bool->Option DK:=λa=>bif DP a.2.2.1 []then some [48]else a.2.2.1
def iW:Int->Option (Bool):=λa=>(H0 a).bind λa=>some (!a)
def A4F:Rd (DK×(List Int)×Int×Int) (List Int):=λa (b,c,d,e)=>bif e<d then(at? b e).bind λf=>bif DO f.toNat 126 then(OS (c,1)).bind λf=>a (b,f.2,d,i64.wrap (e+1))else(at? b e).bind λf=>(N6 f.toNat).bind λf=>bif f then(at? b e).bind λf=>(OS (c,f.toNat)).bind λf=>a (b,f.2,d,i64.wrap (e+1))else(at? b e).bind λf=>(OS (c,u8.wrap (f.toNat+128))).bind λf=>a (b,f.2,d,i64.wrap (e+1))else c
def wO:=DX A4F fuel
def iX:DK->Option DK:=λa=>(wO (a,[],a.length,0)).bind λa=>(PZ a).bind λa=>(cat? a [2]).bind λa=>a
def K9:Int->Option DK:=λa=>(strconv_Itoa a).bind λa=>(strings_Repeat ([48],i64.wrap (18-a.length))).bind λb=>(cat? b a).bind λa=>a
def A4G:Rd (DK×(List Int)) (List Int):=λa (b,c)=>bif !DP b []then(IZ (b,0,λx=>(iW x).bind λr=>r)).bind λd=>(IZ (b,d,λx=>(H0 x).bind λr=>r)).bind λe=>(cut? b d (i64.wrap (d+e))).bind λf=>(K7 f).bind λf=>(cut? b 0 d).bind λg=>(iX g).bind λg=>(K9 f.1).bind λf=>(cat? g f).bind λf=>(R_ (c,f)).bind λf=>(cut? b (i64.wrap (d+e)) b.length).bind λb=>a (b,f.2.2)else c
def wP:=DX A4G fuel
def QE:DK->Option DK:=λa=>(wP (a,[])).bind λa=>(PZ a).bind λa=>(cat? a [2]).bind λa=>a
def iY:K4×DK×Bool->Option (K4×DK):=λ(a,b,c)=>bif c then(strconv_Itoa a.1).bind λc=>(cat? c [58]).bind λc=>(cat? c b).bind λc=>(a,c)else(a,b)
def ZN:Int×DK×DK×Bool->Option DK:=λa=>(ZL a.2.1).bind λb=>(iY (a,b,!DO a.1 0)).bind λa=>(ZM a.1).bind λb=>(QE b).bind λb=>(QE [48]).bind λc=>bif !DP b c then(cat? a.2 [45]).bind λb=>(ZL a.1.2.2.1).bind λc=>(cat? b c).bind λb=>b else bif a.1.2.2.2 then(cat? a.2 [45,48]).bind λb=>b else a.2
def A4H:Rd (List Int) (List Int):=λa b=>(bif 0<(b.length:Int)then at? b (i64.wrap (b.length-1))else some 0).bind λc=>bif 0<(b.length:Int)&&DO c 0 then(cut? b 0 (i64.wrap (b.length-1))).bind λc=>a c else b
def wQ:=DX A4H fuel
def ZO:List Int->Option (List Int):=λa=>(wQ a).bind λa=>a
def iZ:FP×DK×Bool->Option (FP×DK):=λ(a,b,c)=>bif c then(strconv_Itoa a.1).bind λc=>(cat? c [33]).bind λc=>(a,c)else(a,b)
def i_:DK×(List Int)×Bool->Option DK:=λ(a,b,c)=>bif c then(ZJ b).bind λb=>(cat? a b).bind λb=>b else(cat? a [48]).bind λa=>a
def j6:FP×DK×Bool->Option (FP×DK):=λ(a,b,c)=>bif c then(at? [[],[97],[98],[114,99]] a.2.2.1).bind λc=>(strconv_Itoa a.2.2.2.1).bind λd=>(cat? c d).bind λc=>(cat? b c).bind λc=>(a,c)else(a,b)
def j7:FP×DK×Bool->Option (FP×DK):=λ(a,b,c)=>bif c then(strconv_Itoa a.2.2.2.2.1).bind λc=>(cat? [46,112,111,115,116] c).bind λc=>(cat? b c).bind λc=>(a,c)else(a,b)
def j8:FP×DK×Bool->Option (FP×DK):=λ(a,b,c)=>bif c then(strconv_Itoa a.2.2.2.2.2.1).bind λc=>(cat? [46,100,101,118] c).bind λc=>(cat? b c).bind λc=>(a,c)else(a,b)
def j9:DK×Int×Bool->Option DK:=λ(a,b,c)=>bif c then(strconv_Itoa b).bind λb=>b else a
def A4I:Rd (DK×(List DK)×Int×Int) DK:=λa (b,c,d,e)=>bif e<d then(at? c e).bind λf=>(K7 f).bind λg=>(j9 (f,g.1,g.2)).bind λf=>bif DO e 0 then(cat? [43] f).bind λg=>(cat? b g).bind λg=>a (g,c,d,i64.wrap (e+1))else(cat? [46] f).bind λf=>(cat? b f).bind λf=>a (f,c,d,i64.wrap (e+1))else b
def wR:=DX A4I fuel
def ZP:Int×(List Int)×Int×Int×Int×Int×(List DK)->Option DK:=λa=>(iZ (a,[],!DO a.1 0)).bind λa=>(ZO a.1.2.1).bind λb=>(i_ (a.2,b,0<(b.length:Int))).bind λb=>(j6 (a.1,b,0<a.1.2.2.1)).bind λa=>(j7 (a.1,a.2,0<=a.1.2.2.2.2.1)).bind λa=>(j8 (a.1,a.2,0<=a.1.2.2.2.2.2.1)).bind λa=>(wR (a.2,a.1.2.2.2.2.2.2,a.1.2.2.2.2.2.2.length,0)).bind λa=>a
def A4J:Rd ((List DK)×G_×Int×Int) (List DK):=λa (b,c,d,e)=>bif e<d then(at? c e).bind λf=>(TQ f).bind λg=>bif g then(app? 24 b [[48]]).bind λg=>a (g,c,d,i64.wrap (e+1))else bif f.1 then(app? 24 b [f.2.1]).bind λg=>a (g,c,d,i64.wrap (e+1))else(strconv_Itoa f.2.2).bind λf=>(app? 24 b [f]).bind λf=>a (f,c,d,i64.wrap (e+1))else b
def wS:=DX A4J fuel
def ZQ:List LO->Option DK:=λa=>(wS ([],a,a.length,0)).bind λa=>bif DO a.length 0 then some [48]else(strings_Join (a,[45])).bind λa=>a
def ZR:Int->Option DK:=λa=>(strconv_Itoa a).bind λa=>a
def jA:Sum KN (Sum K4 (Sum FP (Sum G_ (Sum Int Unit))))->Option (DK×Int):=λa=>((λz=>Sum.casesOn (motive:=λ_=>Option DK) z (λx=>(ZK x).bind λr=>r) (λz=>z.casesOn (λx=>(ZN x).bind λr=>r) (λz=>z.casesOn (λx=>(ZP x).bind λr=>r) (λz=>z.casesOn (λx=>(ZQ x).bind λr=>r) (λz=>z.casesOn (λx=>(ZR x).bind λr=>r) (λ_=>none)))))) a).bind λa=>bif 100<(a.length:Int)then some ([],3)else some (a,0)
def TR:Int×DK->Option (DK×Int):=λ(a,b)=>(K8 (a,b)).bind λa=>bif !DO a.2 0 then some ([],a.2)else(jA a.1).bind λa=>(a.1,a.2)
def A4K:Rd (GQ×JD×Int×Int) GR:=λa (b,c,d,e)=>bif e<d then(at? c e).bind λf=>bif f.1<1||3<f.1 then some (.inr 7)else bif DP f.2 []then bif !DO f.1 1 then some (.inr 2)else a (b,c,d,i64.wrap (e+1))else(TR (b.2.1,f.2)).bind λf=>bif !DO f.2 0 then some (.inr f.2)else a (b,c,d,i64.wrap (e+1))else some (.inl ())
def wT:=DX A4K fuel
def jB:DK×Int×JD×(List DK)×(List DK)->Option (Int):=λa=>bif 100<(a.2.2.1.length:Int)then some 3 else(wT (a,a.2.2.1,a.2.2.1.length,0)).bind λa=>match a with|.inl _=>some 0|.inr a=>a
def A4L:Rd (DK×Bool×Int×Int) (Bool):=λa (b,c,d,e)=>bif e<d then(bif !c then at? b e else some 0).bind λf=>(bif !(c||(f.toNat:Int)<33)then at? b e else some 0).bind λg=>a (b,(c||(f.toNat:Int)<33)||(126<(g.toNat:Int)),d,i64.wrap (e+1))else c
def wU:=DX A4L fuel
def A4M:Rd ((List DK)×(List DK)×Int×Int) GR:=λa (b,c,d,e)=>bif e<d then(at? c e).bind λf=>(wU (f,DP f []||(200<(f.length:Int)),f.length,0)).bind λg=>bif g then some (.inr 8)else(bif 0<e then at? b (i64.wrap (e-1))else some []).bind λg=>bif 0<e&&(Op.bytesLess f g||DP f g)then some (.inr 10)else a (b,c,d,i64.wrap (e+1))else some (.inl ())
def wV:=DX A4M fuel
def jC:List DK->Option (Int):=λa=>bif 200<(a.length:Int)then some 3 else(wV (a,a,a.length,0)).bind λa=>match a with|.inl _=>some 0|.inr a=>a
def A4N:Rd (GQ×(List DK)×Int×Int) (Sum GQ (Int)):=λa (b,c,d,e)=>bif e<d then(at? c e).bind λf=>(TR (b.2.1,f)).bind λf=>bif !DO f.2 0 then some (.inr f.2)else a (b,c,d,i64.wrap (e+1))else some (.inl b)
def wW:=DX A4N fuel
def jD:DK×Int×JD×(List DK)×(List DK)->Option (Int):=λa=>(g_ a.1).bind λb=>bif !b then some 8 else bif a.2.1<1||5<a.2.1 then some 7 else(jB a).bind λb=>bif !DO b 0 then b else bif 500<(a.2.2.2.1.length:Int)then some 3 else(wW (a,a.2.2.2.1,a.2.2.2.1.length,0)).bind λa=>match a with|.inl a=>(jC a.2.2.2.2).bind λa=>a|.inr a=>a
def jE:Unit->Option (List Int):=λ_=>some [0,1,0,2]
def A4O:Rd ((Int->Option DK)×(List Int)×(List Int)×Int×Int) (List Int):=λa (b,c,d,e,f)=>bif f<e then(at? d f).bind λg=>(b g).bind λg=>(R_ (c,g)).bind λg=>a (b,g.2.2,d,e,i64.wrap (f+1))else c
def wX:=DX A4O fuel
def ZS:(List Int)×DK×(Int->Option DK)->Option DK:=λ(a,b,c)=>(wX (c,[],a,a.length,0)).bind λa=>(PZ a).bind λa=>(cat? a b).bind λa=>a
def A4P:Rd ((DK->Option DK)×(List Int)×(List DK)×Int×Int) (List Int):=λa (b,c,d,e,f)=>bif f<e then(at? d f).bind λg=>(b g).bind λg=>(R_ (c,g)).bind λg=>a (b,g.2.2,d,e,i64.wrap (f+1))else c
def wY:=DX A4P fuel
def ZT:(List DK)×DK×(DK->Option DK)->Option DK:=λ(a,b,c)=>(wY (c,[],a,a.length,0)).bind λa=>(PZ a).bind λa=>(cat? a b).bind λa=>a
def jF:DK->Option DK:=λa=>(K7 a).bind λb=>bif b.2 then(K9 b.1).bind λb=>(cat? [48] b).bind λb=>b else(cat? [49] a).bind λa=>(cat? a [32]).bind λa=>a
def NU:(List Int)×(List DK)->Option DK:=λa=>(cut? a.1 0 a.1.length).bind λb=>(ZS (b,[],λx=>(K9 x).bind λr=>r)).bind λb=>bif DO a.2.length 0 then(cat? b [126]).bind λc=>c else(cat? b [33]).bind λb=>(ZT (a.2,[33],λx=>(jF x).bind λr=>r)).bind λa=>(cat? b a).bind λa=>a
def NV:Int×DK×DK×Bool->Option DK:=λa=>(K9 a.1).bind λb=>(QE a.2.1).bind λc=>(cat? b c).bind λb=>(ZM a).bind λa=>(QE a).bind λa=>(cat? b a).bind λa=>a
def jG:Int->Option DK:=λa=>(K9 a).bind λa=>(cat? [49] a).bind λa=>a
def jH:Int×(List Int)×Int×Int×Int×Int×(List DK)->Option (Int):=λa=>bif 0<a.2.2.1 then a.2.2.1 else bif 0<=a.2.2.2.2.2.1&&a.2.2.2.2.1<0 then some 0 else some 4
def jI:Int->Option DK:=λa=>bif a<0 then some [48]else(K9 a).bind λa=>(cat? [49] a).bind λa=>a
def jJ:DK->Option DK:=λa=>(K7 a).bind λb=>bif b.2 then(K9 b.1).bind λb=>(cat? [50] b).bind λb=>b else(cat? [49] a).bind λa=>(cat? a [32]).bind λa=>a
def jK:FP×DK×Bool->Option (FP×DK):=λ(a,b,c)=>bif c then(K9 a.2.2.2.2.2.1).bind λc=>(cat? [48] c).bind λc=>(cat? b c).bind λc=>(a,c)else(cat? b [49]).bind λb=>(a,b)
def NW:Int×(List Int)×Int×Int×Int×Int×(List DK)->Option DK:=λa=>(K9 a.1).bind λb=>(ZO a.2.1).bind λc=>(ZS (c,[48],λx=>(jG x).bind λr=>r)).bind λc=>(cat? b c).bind λb=>(jH a).bind λc=>(strconv_Itoa c).bind λc=>(K9 a.2.2.2.1).bind λd=>(cat? c d).bind λc=>(jI a.2.2.2.2.1).bind λd=>(cat? c d).bind λc=>(cat? b c).bind λb=>(jK (a,b,0<=a.2.2.2.2.2.1)).bind λa=>bif DO a.1.2.2.2.2.2.2.length 0 then(cat? a.2 [48]).bind λb=>b else(cat? a.2 [49]).bind λb=>(ZT (a.1.2.2.2.2.2.2,[48],λx=>(jJ x).bind λr=>r)).bind λa=>(cat? b a).bind λa=>a
def ZU:Unit->Option (List DK):=λ_=>some [[97,108,112,104,97],[98,101,116,97],[109,105,108,101,115,116,111,110,101],[114,99],[115,110,97,112,115,104,111,116]]
def A4Q:Rd ((List DK)×DK×Int×Int) GR:=λa (b,c,d,e)=>bif e<d then(at? b e).bind λf=>bif DP c f then some (.inr e)else a (b,c,d,i64.wrap (e+1))else some (.inl ())
def wZ:=DX A4Q fuel
def ZV:(List DK)×DK->Option (Int):=λ(a,b)=>(wZ (a,b,a.length,0)).bind λa=>match a with|.inl _=>some (-1)|.inr a=>a
def NX:(List DK)×DK->Option (Bool):=λ(a,b)=>(ZV (a,b)).bind λa=>some (0<=a)
def VV:Bool×DK×Int->Option (Bool):=λa=>(bif a.1 then ZU ()else some []).bind λb=>(bif a.1 then NX (b,a.2.1)else some false).bind λb=>some (a.1&&b)
def ZW:Bool×DK×Int->Option DK:=λa=>bif !a.1 then(K9 a.2.2).bind λb=>(cat? [56] b).bind λb=>b else(VV a).bind λb=>bif b then(ZU ()).bind λb=>(ZV (b,a.2.1)).bind λb=>(strconv_Itoa b).bind λb=>b else bif DP a.2.1 [115,112]then some [54]else(cat? [55] a.2.1).bind λa=>(cat? a [32]).bind λa=>a
def A4R:Rd (DK×Int×G_×Int×Int) DK:=λa (b,c,d,e,f)=>bif f<e then(at? d f).bind λg=>(TQ g).bind λh=>bif h then a (b,i64.wrap (c+1),d,e,i64.wrap (f+1))else(VV g).bind λh=>bif h then(strconv_Itoa (i64.wrap (100+c))).bind λh=>(cat? [49] h).bind λh=>(ZW g).bind λi=>(cat? h i).bind λh=>(cat? b h).bind λh=>a (h,0,d,e,i64.wrap (f+1))else(strconv_Itoa (i64.wrap (900-c))).bind λc=>(cat? [51] c).bind λc=>(ZW g).bind λg=>(cat? c g).bind λc=>(cat? b c).bind λc=>a (c,0,d,e,i64.wrap (f+1))else b
def w_:=DX A4R fuel
def NY:List LO->Option DK:=λa=>(w_ ([],0,a,a.length,0)).bind λa=>(cat? a [50]).bind λa=>a
def NZ:Int->Option DK:=λa=>(K9 a).bind λa=>a
def VW:Int×DK->Option (DK×Int):=λ(a,b)=>(K8 (a,b)).bind λa=>bif !DO a.2 0 then some ([],a.2)else((λz=>Sum.casesOn (motive:=λ_=>Option DK) z (λx=>(NU x).bind λr=>r) (λz=>z.casesOn (λx=>(NV x).bind λr=>r) (λz=>z.casesOn (λx=>(NW x).bind λr=>r) (λz=>z.casesOn (λx=>(NY x).bind λr=>r) (λz=>z.casesOn (λx=>(NZ x).bind λr=>r) (λ_=>none)))))) a.1).bind λa=>some (a,0)
def A4S:Rd ((List DY)×Int×FJ×Int) (List DY):=λa (b,c,d,e)=>(bif c<e then in? b.length e else some ()).bind λ_=>(bif c<e then in? b.length (i64.wrap (e-1))else some ()).bind λ_=>(bif c<e then d (b.getD e.toNat (0,[],[],0),b.getD ((i64.wrap (e-1)).toNat) (0,[],[],0))else some 0).bind λf=>bif c<e&&f<0 then(in? b.length (i64.wrap (e-1))).bind λ_=>let f:=b.getD ((i64.wrap (e-1)).toNat) (0,[],[],0);(in? b.length e).bind λ_=>(in? b.length e).bind λ_=>(in? (b.set e.toNat f).length (i64.wrap (e-1))).bind λ_=>a ((b.set e.toNat f).set ((i64.wrap (e-1)).toNat) (b.getD e.toNat (0,[],[],0)),c,d,i64.wrap (e-1))else b
def x6:=DX A4S fuel
def A4T:Rd ((List DY)×Int×Int×FJ×Int) (List DY):=λa (b,c,d,e,f)=>bif f<d then(x6 (b,c,e,f)).bind λg=>a (g,c,d,e,i64.wrap (f+1))else b
def x7:=DX A4T fuel
def ZX:(List DY)×Int×Int×FJ->Option (List DY):=λ(a,b,c,d)=>(x7 (a,b,c,d,i64.wrap (b+1))).bind λa=>a
def A4U:Rd ((List DY)×Int×Int×Int×Int) (List DY):=λa (b,c,d,e,f)=>bif f<e then(in? b.length (i64.wrap (d+f))).bind λ_=>let g:=b.getD ((i64.wrap (d+f)).toNat) (0,[],[],0);(in? b.length (i64.wrap (c+f))).bind λ_=>(in? b.length (i64.wrap (c+f))).bind λ_=>(in? (b.set ((i64.wrap (c+f)).toNat) g).length (i64.wrap (d+f))).bind λ_=>a ((b.set ((i64.wrap (c+f)).toNat) g).set ((i64.wrap (d+f)).toNat) (b.getD ((i64.wrap (c+f)).toNat) (0,[],[],0)),c,d,e,i64.wrap (f+1))else b
def x8:=DX A4U fuel
def VX:(List DY)×Int×Int×Int×FJ->Option (List DY):=λ(a,b,c,d,_)=>(x8 (a,b,c,d,0)).bind λa=>a
def A4V:Rd ((List DY)×Int×FJ×Int×Int) N4:=λa (b,c,d,e,f)=>bif !DO e f then bif f<e then(VX (b,i64.wrap (c-e),c,f,d)).bind λg=>a (g,c,d,i64.wrap (e-f),f)else(VX (b,i64.wrap (c-e),i64.wrap (i64.wrap (c+f)-e),e,d)).bind λg=>a (g,c,d,e,i64.wrap (f-e))else(b,e)
def x9:=DX A4V fuel
def jL:(List DY)×Int×Int×Int×FJ->Option (List DY):=λ(a,b,c,d,e)=>(x9 (a,c,e,i64.wrap (c-b),i64.wrap (d-c))).bind λa=>(VX (a.1,i64.wrap (c-a.2),c,a.2,e)).bind λa=>a
def A4W(slf:(List DY)×Int×Int×Int×FJ->Option (List DY))(a:(List DY)×Int×FJ×Int×Int->Option N4):(List DY)×Int×FJ×Int×Int->Option N4:=λ(b,c,d,e,f)=>bif e<f then(shr? u64 (u64.wrap (i64.wrap (e+f))) 1).bind λg=>(in? b.length (i64.wrap g)).bind λ_=>(in? b.length c).bind λ_=>(d (b.getD ((i64.wrap g).toNat) (0,[],[],0),b.getD c.toNat (0,[],[],0))).bind λh=>bif h<0 then a (b,c,d,i64.wrap (i64.wrap g+1),f)else a (b,c,d,e,i64.wrap g)else(b,e)
def xA(slf:(List DY)×Int×Int×Int×FJ->Option (List DY)):(List DY)×Int×FJ×Int×Int->Option N4:=DX (A4W slf) fuel
def A4X(slf:(List DY)×Int×Int×Int×FJ->Option (List DY))(a:(List DY)×Int×Int->Option (List DY)):(List DY)×Int×Int->Option (List DY):=λ(b,c,d)=>bif d<i64.wrap (c-1)then(in? b.length (i64.wrap (d+1))).bind λ_=>let e:=b.getD ((i64.wrap (d+1)).toNat) (0,[],[],0);(in? b.length d).bind λ_=>(in? b.length d).bind λ_=>(in? (b.set d.toNat e).length (i64.wrap (d+1))).bind λ_=>a ((b.set d.toNat e).set ((i64.wrap (d+1)).toNat) (b.getD d.toNat (0,[],[],0)),c,i64.wrap (d+1))else b
def xB(slf:(List DY)×Int×Int×Int×FJ->Option (List DY)):(List DY)×Int×Int->Option (List DY):=DX (A4X slf) fuel
def A4Y(slf:(List DY)×Int×Int×Int×FJ->Option (List DY))(a:(List DY)×Int×FJ×Int×Int->Option N4):(List DY)×Int×FJ×Int×Int->Option N4:=λ(b,c,d,e,f)=>bif e<f then(shr? u64 (u64.wrap (i64.wrap (e+f))) 1).bind λg=>(in? b.length c).bind λ_=>(in? b.length (i64.wrap g)).bind λ_=>(d (b.getD c.toNat (0,[],[],0),b.getD ((i64.wrap g).toNat) (0,[],[],0))).bind λh=>bif !(h<0)then a (b,c,d,i64.wrap (i64.wrap g+1),f)else a (b,c,d,e,i64.wrap g)else(b,e)
def xC(slf:(List DY)×Int×Int×Int×FJ->Option (List DY)):(List DY)×Int×FJ×Int×Int->Option N4:=DX (A4Y slf) fuel
def A4Z(slf:(List DY)×Int×Int×Int×FJ->Option (List DY))(a:(List DY)×Int×Int->Option (List DY)):(List DY)×Int×Int->Option (List DY):=λ(b,c,d)=>bif c<d then(in? b.length (i64.wrap (d-1))).bind λ_=>let e:=b.getD ((i64.wrap (d-1)).toNat) (0,[],[],0);(in? b.length d).bind λ_=>(in? b.length d).bind λ_=>(in? (b.set d.toNat e).length (i64.wrap (d-1))).bind λ_=>a ((b.set d.toNat e).set ((i64.wrap (d-1)).toNat) (b.getD d.toNat (0,[],[],0)),c,i64.wrap (d-1))else b
def xD(slf:(List DY)×Int×Int×Int×FJ->Option (List DY)):(List DY)×Int×Int->Option (List DY):=DX (A4Z slf) fuel
def jM(slf:(List DY)×Int×Int×Int×FJ->Option (List DY)):Int×Int×Int×Int×Int×Bool->Option (Int×Int):=λ(a,b,c,d,e,f)=>bif f then some (i64.wrap (e-c),d)else(a,b)
def A4_(slf:(List DY)×Int×Int×Int×FJ->Option (List DY))(a:(List DY)×FJ×Int×Int×Int->Option N4):(List DY)×FJ×Int×Int×Int->Option N4:=λ(b,c,d,e,f)=>bif d<e then(shr? u64 (u64.wrap (i64.wrap (d+e))) 1).bind λg=>(in? b.length (i64.wrap (f-i64.wrap g))).bind λ_=>(in? b.length (i64.wrap g)).bind λ_=>(c (b.getD ((i64.wrap (f-i64.wrap g)).toNat) (0,[],[],0),b.getD ((i64.wrap g).toNat) (0,[],[],0))).bind λh=>bif !(h<0)then a (b,c,i64.wrap (i64.wrap g+1),e,f)else a (b,c,d,i64.wrap g,f)else(b,d)
def xE(slf:(List DY)×Int×Int×Int×FJ->Option (List DY)):(List DY)×FJ×Int×Int×Int->Option N4:=DX (A4_ slf) fuel
def jN(slf:(List DY)×Int×Int×Int×FJ->Option (List DY)):(List DY)×Int×FJ×Int×Int×Bool->Option (List DY):=λ(a,b,c,d,e,f)=>bif f then(jL (a,d,b,e,c)).bind λb=>b else a
def jO(slf:(List DY)×Int×Int×Int×FJ->Option (List DY)):(List DY)×Int×FJ×Int×Int×Bool->Option (List DY):=λ(a,b,c,d,e,f)=>bif f then(slf (a,b,e,d,c)).bind λb=>b else a
def xF(slf:(List DY)×Int×Int×Int×FJ->Option (List DY)):(List DY)×Int×Int×Int×FJ->Option (List DY):=λ(a,b,c,d,e)=>bif DO (i64.wrap (c-b)) 1 then(xA slf (a,b,e,c,d)).bind λf=>(xB slf (f.1,f.2,b)).bind λf=>f else bif DO (i64.wrap (d-c)) 1 then(xC slf (a,c,e,b,c)).bind λf=>(xD slf (f.1,f.2,c)).bind λf=>f else(shr? u64 (u64.wrap (i64.wrap (b+d))) 1).bind λf=>(jM slf (b,c,d,i64.wrap f,i64.wrap (i64.wrap f+c),i64.wrap f<c)).bind λg=>(xE slf (a,e,g.1,g.2,i64.wrap (i64.wrap (i64.wrap f+c)-1))).bind λa=>let g:=i64.wrap (i64.wrap (i64.wrap f+c)-a.2);(jN slf (a.1,c,e,a.2,g,(a.2<c)&&c<g)).bind λc=>(jO slf (c,b,e,i64.wrap f,a.2,(b<a.2)&&a.2<i64.wrap f)).bind λa=>bif i64.wrap f<g&&g<d then(slf (a,i64.wrap f,g,d,e)).bind λb=>b else a
def ME:Nat->(List DY)×Int×Int×Int×FJ->Option (List DY)
 |0=>λ_=>none
 |n+1=>xF (ME n)
def ZY:(List DY)×Int×Int×Int×FJ->Option (List DY):=ME 100
def A4a:Rd ((List DY)×Int×FJ×Int×Int×Int) N4:=λa (b,c,d,e,f,g)=>bif g<=c then(ZX (b,f,g,d)).bind λh=>a (h,c,d,e,g,i64.wrap (g+e))else(b,f)
def xG:=DX A4a fuel
def A4b:Rd ((List DY)×Int×FJ×Int×Int×Int) N4:=λa (b,c,d,e,f,g)=>bif g<=c then(ZY (b,f,i64.wrap (f+e),g,d)).bind λh=>a (h,c,d,e,g,i64.wrap (g+i64.wrap (2*e)))else(b,f)
def xH:=DX A4b fuel
def A4c:Rd ((List DY)×Int×FJ×Int) (List DY):=λa (b,c,d,e)=>bif e<c then(xH (b,c,d,e,0,i64.wrap (2*e))).bind λf=>bif i64.wrap (f.2+e)<c then(ZY (f.1,f.2,i64.wrap (f.2+e),c,d)).bind λg=>a (g,c,d,i64.wrap (e*2))else a (f.1,c,d,i64.wrap (e*2))else b
def xI:=DX A4c fuel
def jP:(List DY)×Int×FJ->Option (List DY):=λ(a,b,c)=>(xG (a,b,c,20,0,20)).bind λa=>(ZX (a.1,a.2,b,c)).bind λa=>(xI (a,b,c,20)).bind λa=>a
def jQ:(List DY)×FJ->Option (List DY):=λ(a,b)=>(jP (a,a.length,b)).bind λa=>a
def jR:DY×DY->Option (Int):=λ(a,b)=>(KR (a.2.1,b.2.1)).bind λc=>(OR (a.1,b.1)).bind λa=>(QD [c,a]).bind λa=>a
def A4d:Rd (GQ×(List DY)×JD×Int×Int) (List DY):=λa (b,c,d,e,f)=>bif f<e then(at? d f).bind λg=>(jE ()).bind λh=>(at? h g.1).bind λh=>bif !DP g.2 []then(VW (b.2.1,g.2)).bind λi=>(TR (b.2.1,g.2)).bind λj=>(app? 96 c [(h,i.1,j.1,g.1)]).bind λi=>a (b,i,d,e,i64.wrap (f+1))else(app? 96 c [(h,[],[],g.1)]).bind λg=>a (b,g,d,e,i64.wrap (f+1))else c
def xJ:=DX A4d fuel
def jS:DK×Int×JD×(List DK)×(List DK)->Option (List DY):=λa=>(xJ (a,[],a.2.2.1,a.2.2.1.length,0)).bind λa=>(jQ (a,λx=>(jR x).bind λr=>r)).bind λa=>a
def A4e:Rd (F6×Bool×GI×(List DY)×Int×Int) (F6×Bool×GI):=λa (b,c,d,e,f,g)=>bif g<f then(at? e g).bind λh=>bif DO h.2.2.2 1&&!c then bif !DP h.2.2.1 []then a (b,true,(true,true,h.2.2.1),e,f,i64.wrap (g+1))else a (b,true,(false,false,[]),e,f,i64.wrap (g+1))else bif !DO h.2.2.2 1&&c then(app? 144 b [(d,true,DO h.2.2.2 3,h.2.2.1)]).bind λh=>a (h,false,d,e,f,i64.wrap (g+1))else a (b,c,d,e,f,i64.wrap (g+1))else(b,c,d)
def xK:=DX A4e fuel
def jT:F6×GI×Bool->Option F6:=λ(a,b,c)=>bif c then(app? 144 a [(b,false,false,[])]).bind λb=>b else a
def A4f:Rd (GQ×F6×(List DK)×Int×Int) F6:=λa (b,c,d,e,f)=>bif f<e then(at? d f).bind λg=>(TR (b.2.1,g)).bind λg=>(app? 144 c [((true,true,g.1),true,true,g.1)]).bind λg=>a (b,g,d,e,i64.wrap (f+1))else c
def xL:=DX A4f fuel
def jU:DK×Int×JD×(List DK)×(List DK)->Option F6:=λa=>(jS a).bind λb=>(xK ([],false,(false,false,[]),b,b.length,0)).bind λb=>(jT (b.1,b.2.2,b.2.1)).bind λb=>(xL (a,b,a.2.2.2.1,a.2.2.2.1.length,0)).bind λa=>a
def S0:Int×GI->Option (DK×Int):=λ(a,b)=>bif !b.1 then bif b.2.1||!DP b.2.2 []then some ([],2)else some ([],0)else(K8 (a,b.2.2)).bind λa=>bif !DO a.2 0 then some ([],a.2)else((λz=>Sum.casesOn (motive:=λ_=>Option DK) z (λx=>(ZK x).bind λr=>r) (λz=>z.casesOn (λx=>(ZN x).bind λr=>r) (λz=>z.casesOn (λx=>(ZP x).bind λr=>r) (λz=>z.casesOn (λx=>(ZQ x).bind λr=>r) (λz=>z.casesOn (λx=>(ZR x).bind λr=>r) (λ_=>none)))))) a.1).bind λc=>bif !DP c b.2.2 then some ([],2)else((λz=>Sum.casesOn (motive:=λ_=>Option DK) z (λx=>(NU x).bind λr=>r) (λz=>z.casesOn (λx=>(NV x).bind λr=>r) (λz=>z.casesOn (λx=>(NW x).bind λr=>r) (λz=>z.casesOn (λx=>(NY x).bind λr=>r) (λz=>z.casesOn (λx=>(NZ x).bind λr=>r) (λ_=>none)))))) a.1).bind λa=>some (a,0)
def ZZ:GI×DK->Option LP:=λ(a,b)=>bif !a.1 then some (-1,[],false,[])else some (0,b,!a.2.1,a.2.2)
def Z_:GI×DK->Option LP:=λ(a,b)=>bif !a.1 then some (1,[],false,[])else some (0,b,a.2.1,a.2.2)
def N7:LP×LP->Option (Int):=λ(a,b)=>bif !DO a.1 b.1||!DO a.1 0 then(OR (a.1,b.1)).bind λc=>c else(KR (a.2.1,b.2.1)).bind λc=>bif !DO c 0||I3 a.2.2.1 b.2.2.1 then c else bif a.2.2.1 then some 1 else some (-1)
def QF:FG×FG->Option (Int):=λ(a,b)=>(N7 (a.1,b.1)).bind λa=>a
def jV:FG×Int×Bool->Option (FG×Int):=λ(a,b,c)=>bif c then(K7 a.1.2.2.2).bind λc=>bif a.1.2.2.1 then some (a,i64.wrap (c.1+1))else(a,c.1)else(a,b)
def jW:LP×LP->Option (Int×Int×Bool):=λa=>(jV (a,0,DO a.1.1 0)).bind λa=>bif DO a.1.2.1 0 then(K7 a.1.2.2.2.2).bind λb=>bif !a.1.2.2.2.1 then some (a.2,i64.wrap (b.1-1),a.2<=i64.wrap (b.1-1))else some (a.2,b.1,a.2<=b.1)else some (a.2,999999999999999999,a.2<=999999999999999999)
def jX:Int×LP×Bool->Option LP:=λ(a,b,c)=>bif c then(K9 a).bind λc=>(strconv_Itoa a).bind λa=>some (0,c,true,a)else b
def A4g:Rd ((List FG)×Int×(List FG)×Int×Int) (List FG):=λa (b,c,d,e,f)=>bif f<e then(at? d f).bind λg=>(jW g).bind λg=>bif !g.2.2 then a (b,c,d,e,i64.wrap (f+1))else(jX (g.2.1,(1,[],false,[]),g.2.1<999999999999999999)).bind λh=>bif 0<(b.length:Int)&&DO g.1 (i64.wrap (c+1))then(in? b.length (i64.wrap (b.length-1))).bind λ_=>a (b.set ((i64.wrap (b.length-1)).toNat) ((b.getD ((i64.wrap (b.length-1)).toNat) ((0,[],false,[]),0,[],false,[])).1,h),g.2.1,d,e,i64.wrap (f+1))else(K9 g.1).bind λc=>(strconv_Itoa g.1).bind λi=>(app? 192 b [((0,c,false,i),h)]).bind λc=>a (c,g.2.1,d,e,i64.wrap (f+1))else b
def xM:=DX A4g fuel
def jY:List FG->Option (List FG):=λa=>(xM ([],-2,a,a.length,0)).bind λa=>a
def jZ:(List FG)×Bool->Option (List FG):=λ(a,b)=>bif b then(jY a).bind λb=>b else a
def j_:FG×(GI×GI)×Bool->Option (FG×(GI×GI)):=λ(a,b,c)=>bif c then some (a,(true,!a.1.2.2.1,a.1.2.2.2),b.2)else(a,b)
def A4h:Rd ((Int×F6)×(List FG)×Int×Int) (Int×F6):=λa (b,c,d,e)=>bif e<d then(at? c e).bind λf=>(j_ (f,((false,false,[]),false,false,[]),DO f.1.1 0)).bind λf=>bif DO f.1.2.1 0 then(app? 144 b.2 [(f.2.1,true,f.1.2.2.2.1,f.1.2.2.2.2)]).bind λg=>a ((b.1,g),c,d,i64.wrap (e+1))else(app? 144 b.2 [f.2]).bind λf=>a ((b.1,f),c,d,i64.wrap (e+1))else(b.1,b.2)
def xN:=DX A4h fuel
def k9:Int×(List FG)->Option ((Int×F6)×Int):=λ(a,b)=>(jZ (b,DO a 5)).bind λb=>bif 200<(b.length:Int)then some ((0,[]),3)else(xN ((a,[]),b,b.length,0)).bind λa=>some ((a.1,a.2),0)
def A4i:Rd (Int×(Int×F6)×(List FG)×F6×Int×Int) (Sum ((Int×F6)×(List FG)) ((Int×F6)×Int)):=λa (b,c,d,e,f,g)=>bif g<f then(at? e g).bind λh=>(S0 (b,h.1)).bind λi=>bif !DO i.2 0 then some (.inr ((0,[]),i.2))else(S0 (b,h.2)).bind λj=>bif !DO j.2 0 then some (.inr ((0,[]),j.2))else(ZZ (h.1,i.1)).bind λi=>(Z_ (h.2,j.1)).bind λh=>(N7 (i,h)).bind λj=>bif j<0 then(app? 192 d [(i,h)]).bind λh=>a (b,c,h,e,f,i64.wrap (g+1))else a (b,c,d,e,f,i64.wrap (g+1))else some (.inl (c,d))
def xO:=DX A4i fuel
def A4j:Rd ((List FG)×(List FG)×Int×Int) (List FG):=λa (b,c,d,e)=>bif e<d then(in? c.length e).bind λ_=>let f:=c.getD e.toNat ((0,[],false,[]),0,[],false,[]);(bif !DO b.length 0 then in? b.length (i64.wrap (b.length-1))else some ()).bind λ_=>(bif !DO b.length 0 then N7 ((b.getD ((i64.wrap (b.length-1)).toNat) ((0,[],false,[]),0,[],false,[])).2,f.1)else some 0).bind λg=>bif DO b.length 0||g<0 then(app? 192 b [f]).bind λg=>a (g,c,d,i64.wrap (e+1))else(in? b.length (i64.wrap (b.length-1))).bind λ_=>(N7 ((b.getD ((i64.wrap (b.length-1)).toNat) ((0,[],false,[]),0,[],false,[])).2,f.2)).bind λg=>bif g<0 then(in? b.length (i64.wrap (b.length-1))).bind λ_=>a (b.set ((i64.wrap (b.length-1)).toNat) ((b.getD ((i64.wrap (b.length-1)).toNat) ((0,[],false,[]),0,[],false,[])).1,f.2),c,d,i64.wrap (e+1))else a (b,c,d,i64.wrap (e+1))else b
def xP:=DX A4j fuel
def kA:Int×F6->Option ((Int×F6)×Int):=λ(a,b)=>(xO (a,(0,[]),[],b,b.length,0)).bind λb=>match b with|.inl b=>(uO (b.2,λx=>(QF x).bind λr=>r)).bind λb=>(xP ([],b,b.length,0)).bind λb=>(k9 (a,b)).bind λa=>(a.1,a.2)|.inr a=>(a.1,a.2)
def kB:DK×Int×JD×(List DK)×(List DK)->Option ((Int×F6)×Int):=λa=>(jD a).bind λb=>bif !DO b 0 then some ((0,[]),b)else(jU a).bind λb=>(kA (a.2.1,b)).bind λa=>(a.1,a.2)
def VY:G9×Bool->Option (Sum G9 (K6×Int)):=λ(a,b)=>bif b then(TL a.2.2.2.2.2.1).bind λb=>bif !DO b.2 0 then some (.inr ([],b.2))else some (.inl a)else some (.inl a)
def xQ:Rd (K6×(List GQ)×Int×Int) (Sum K6 (K6×Int)):=λa (b,c,d,e)=>bif e<d then(at? c e).bind λf=>(kB f).bind λf=>bif !DO f.2 0 then some (.inr ([],f.2))else(app? 48 b [f.1]).bind λf=>a (f,c,d,i64.wrap (e+1))else some (.inl b)
def VZ:=DX xQ fuel
def N8:DK×(List DK)×DK×Int×Bool×DK×(List GQ)->Option (K6×Int):=λa=>(VR a.1).bind λb=>bif !b then some ([],8)else(gG a).bind λb=>bif !DO b 0 then some ([],b)else(VR a.2.2.1).bind λb=>bif !b then some ([],8)else bif a.2.2.2.1<0||1000000<a.2.2.2.1 then some ([],9)else(VY (a,!DP a.2.2.2.2.2.1 [])).bind λa=>match a with|.inl a=>(bif 50<(a.2.2.2.2.2.2.length:Int)then some ([],3)else(VZ ([],a.2.2.2.2.2.2,a.2.2.2.2.2.2.length,0)).bind λa=>match a with|.inl a=>some (a,0)|.inr a=>(a.1,a.2))|.inr a=>(a.1,a.2)
def TT:DK×(List DK)×DK×Int×Bool×DK×(List GQ)->Option (Int):=λa=>(N8 a).bind λa=>a.2
def A4k:Rd (NT×(List G9)×Int×Int) GR:=λa (b,c,d,e)=>bif e<d then(at? c e).bind λf=>(TT f).bind λg=>bif !DO g 0 then some (.inr g)else(bif 0<e then at? b.2.1 (i64.wrap (e-1))else some ([],[],[],0,false,[],[])).bind λg=>bif 0<e&&(Op.bytesLess f.1 g.1||DP f.1 g.1)then some (.inr 10)else(at? b.2.2 e).bind λf=>(bif !(f<0)then at? b.2.2 e else some 0).bind λg=>bif f<0||b.1<g then some (.inr 9)else a (b,c,d,i64.wrap (e+1))else some (.inl ())
def xR:=DX A4k fuel
def V_:Int×(List G9)×(List Int)->Option (Int):=λa=>bif a.1<0||1000000000<a.1 then some 9 else bif 2000<(a.2.1.length:Int)then some 3 else bif !DO a.2.2.length a.2.1.length then some 2 else(xR (a,a.2.1,a.2.1.length,0)).bind λa=>match a with|.inl _=>some 0|.inr a=>a
def xS:Rd (VK×(List (DK×(List DK)))×Int×Int) VK:=λa (b,c,d,e)=>bif e<d then(at? c e).bind λf=>a ((b.1,EB DP f.1 f b.2.1,b.2.2.1,b.2.2.2),c,d,i64.wrap (e+1))else(b.1,b.2.1,b.2.2.1,b.2.2.2)
def A4l:=DX xS fuel
def xT:Rd (VK×(List (DK×DT))×Int×Int) VK:=λa (b,c,d,e)=>bif e<d then(at? c e).bind λf=>a ((b.1,b.2.1,EB DP f.1 true b.2.2.1,b.2.2.2),c,d,i64.wrap (e+1))else(b.1,b.2.1,b.2.2.1,b.2.2.2)
def A4m:=DX xT fuel
def xU:Rd (VK×QC×Int×Int) VK:=λa (b,c,d,e)=>bif e<d then(at? c e).bind λf=>a ((b.1,b.2.1,b.2.2.1,EB DP f.1 true b.2.2.2),c,d,i64.wrap (e+1))else(b.1,b.2.1,b.2.2.1,b.2.2.2)
def A4n:=DX xU fuel
def kC:JE×Bool->Option LQ:=λ(a,b)=>(A4l ((b,[],[],[]),a.1,a.1.length,0)).bind λb=>(A4m ((b.1,b.2.1,b.2.2.1,b.2.2.2),a.2.1,a.2.1.length,0)).bind λb=>(A4n ((b.1,b.2.1,b.2.2.1,b.2.2.2),a.2.2.1,a.2.2.1.length,0)).bind λa=>(a.1,a.2.1,a.2.2.1,a.2.2.2)
def kD:Rd EP KP:=λa (b,c,d)=>bif d<c then(at? b d).bind λe=>(bif !((e.toNat:Int)<33)then at? b d else some 0).bind λf=>let g:=((e.toNat:Int)<33||126<(f.toNat:Int));(bif !g then at? b d else some 0).bind λe=>bif g||DO e.toNat 35 then some (.inr false)else a (b,c,i64.wrap (d+1))else some (.inl ())
def A4o:=DX kD fuel
def S1:DK->Option (Bool):=λa=>(A4o (a,a.length,0)).bind λb=>match b with|.inl _=>some (!DP a []&&(a.length:Int)<=100)|.inr a=>a
def QG:DK×DK×Bool->Option (Int):=λ(a,b,c)=>(S1 a).bind λd=>bif !d then some 8 else bif !c&&(Op.bytesLess a b||DP a b)then some 10 else some 0
def kE:Rd (DK×(List DK)×Int×Int) GR:=λa (b,c,d,e)=>bif e<d then(at? c e).bind λf=>(QG (f,b,DO e 0)).bind λb=>bif !DO b 0 then some (.inr b)else a (f,c,d,i64.wrap (e+1))else some (.inl ())
def A4p:=DX kE fuel
def kF:Rd (DK×(List (DK×(List DK)))×Int×Int) GR:=λa (b,c,d,e)=>bif e<d then(at? c e).bind λf=>(QG (f.1,b,DO e 0)).bind λb=>bif !DO b 0 then some (.inr b)else bif DO f.2.length 0 then some (.inr 13)else bif 200<(f.2.length:Int)then some (.inr 3)else(A4p ([],f.2,f.2.length,0)).bind λb=>match b with|.inl _=>a (f.1,c,d,i64.wrap (e+1))|.inr a=>some (.inr a)else some (.inl ())
def A4q:=DX kF fuel
def kG:LQ×(List (DK×(List DK)))->Option (Int):=λ(_,a)=>(A4q ([],a,a.length,0)).bind λa=>match a with|.inl _=>some 0|.inr a=>a
def kH:Rd (LQ×DK×DT×Int×Int) (Sum LQ (Int)):=λa (b,c,d,e,f)=>bif f<e then(at? d f).bind λg=>(QG (g.1,c,DO f 0)).bind λc=>bif !DO c 0 then some (.inr c)else bif !b.1&&!(DU DP g.2 b.2.2.2).getD false then some (.inr 4)else a (b,g.1,d,e,i64.wrap (f+1))else some (.inl b)
def A4r:=DX kH fuel
def kI:Rd (LQ×DK×(List (DK×DT))×Int×Int) GR:=λa (b,c,d,e,f)=>bif f<e then(at? d f).bind λg=>(QG (g.1,c,DO f 0)).bind λc=>bif !DO c 0 then some (.inr c)else bif 200<(g.2.length:Int)then some (.inr 3)else(A4r (b,[],g.2,g.2.length,0)).bind λb=>match b with|.inl b=>a (b,g.1,d,e,i64.wrap (f+1))|.inr a=>some (.inr a)else some (.inl ())
def A4s:=DX kI fuel
def kJ:LQ×(List (DK×DT))->Option (Int):=λ(a,b)=>(A4s (a,[],b,b.length,0)).bind λa=>match a with|.inl _=>some 0|.inr a=>a
def kK:LQ×IX->Option (Int):=λ(a,b)=>bif DO b.1 1 then bif !a.1&&!(DU DP b.2.1 a.2.2.2).getD false then some 4 else bif !DP b.2.2.1 []then some 2 else(bif !DP b.2.2.2 []then S1 b.2.2.2 else some false).bind λc=>bif !DP b.2.2.2 []&&!c then some 8 else some 0 else bif DO b.1 2 then(bif !a.1&&!(!(DU DP b.2.1 a.2.1).isSome)then NX (((DU DP b.2.1 a.2.1).getD ([],[])).2,b.2.2.1)else some false).bind λc=>bif !a.1&&(!(DU DP b.2.1 a.2.1).isSome||!c)then some 4 else(bif !DP b.2.2.2 []then S1 b.2.2.2 else some false).bind λa=>bif !DP b.2.2.2 []&&!a then some 8 else some 0 else some 7
def kL:Rd ((List DK)×(List (DK×Bool))×LQ×(List DK)×Int×Int) GR:=λa (b,c,d,e,f,g)=>bif g<f then(at? e g).bind λh=>bif !d.1&&!(DU DP h c).getD false then some (.inr 4)else(bif 0<g then at? b (i64.wrap (g-1))else some []).bind λi=>bif 0<g&&(Op.bytesLess h i||DP h i)then some (.inr 10)else a (b,c,d,e,f,i64.wrap (g+1))else some (.inl ())
def A4t:=DX kL fuel
def aA:LQ×(List DK)×(List (DK×Bool))->Option (Int):=λ(a,b,c)=>(A4t (b,c,a,b,b.length,0)).bind λa=>match a with|.inl _=>some 0|.inr a=>a
def kM:Rd (LQ×(List IX)×Int×Int) (Sum LQ (Int)):=λa (b,c,d,e)=>bif e<d then(at? c e).bind λf=>(kK (b,f)).bind λf=>bif !DO f 0 then some (.inr f)else a (b,c,d,i64.wrap (e+1))else some (.inl b)
def A4u:=DX kM fuel
def kN:Rd (LQ×DK×QC×Int×Int) GR:=λa (b,c,d,e,f)=>bif f<e then(at? d f).bind λg=>(QG (g.1,c,DO f 0)).bind λc=>bif !DO c 0 then some (.inr c)else(S1 g.2.1).bind λc=>bif !c then some (.inr 8)else bif 200<(g.2.2.1.length:Int)then some (.inr 3)else(A4u (b,g.2.2.1,g.2.2.1.length,0)).bind λb=>match b with|.inl b=>(aA (b,g.2.2.2,b.2.2.1)).bind λc=>bif !DO c 0 then some (.inr c)else a (b,g.1,d,e,i64.wrap (f+1))|.inr a=>some (.inr a)else some (.inl ())
def A4v:=DX kN fuel
def kO:LQ×QC->Option (Int):=λ(a,b)=>(A4v (a,[],b,b.length,0)).bind λa=>match a with|.inl _=>some 0|.inr a=>a
def xV:LQ×JE->Option (Int):=λ(a,b)=>bif 200<(b.1.length:Int)||500<(b.2.1.length:Int)||3000<(b.2.2.1.length:Int)then some 3 else(kG (a,b.1)).bind λc=>bif !DO c 0 then c else(kJ (a,b.2.1)).bind λc=>bif !DO c 0 then c else(kO (a,b.2.2.1)).bind λc=>bif !DO c 0 then c else(aA (a,b.2.2.2,a.2.2.2)).bind λa=>a
def kP:(List (DK×(List DK)))×(List (DK×DT))×QC×(List DK)->Option (Int):=λa=>(kC (a,false)).bind λb=>(xV (b,a)).bind λa=>a
def kQ:Rd (DK×(List DK)×Int×Int) GR:=λa (b,c,d,e)=>bif e<d then(at? c e).bind λf=>(QG (f,b,DO e 0)).bind λb=>bif !DO b 0 then some (.inr b)else a (f,c,d,i64.wrap (e+1))else some (.inl ())
def A4w:=DX kQ fuel
def kR:List DK->Option (Int):=λa=>bif 30<(a.length:Int)then some 3 else(A4w ([],a,a.length,0)).bind λa=>match a with|.inl _=>some 0|.inr a=>a
def A4x:Rd (DT×DK×(((DK×DK)×DK)->Option Int)×Int×Int) (Int):=λa (b,c,d,e,f)=>bif e<f then(shr? u64 (u64.wrap (i64.wrap (e+f))) 1).bind λg=>(at? b (i64.wrap g)).bind λh=>(d (h,c)).bind λh=>bif h<0 then a (b,c,d,i64.wrap (i64.wrap g+1),f)else a (b,c,d,e,i64.wrap g)else e
def A4y:=DX A4x fuel
def kS:DT×DK×(((DK×DK)×DK)->Option Int)->Option (Int×Bool):=λ(a,b,c)=>(A4y (a,b,c,0,a.length)).bind λd=>(bif d<a.length then at? a d else some ([],[])).bind λe=>(bif d<a.length then c (e,b)else some 0).bind λb=>some (d,(d<a.length)&&DO b 0)
def xW:(DK×DK)×DK->Option (Int):=λ(a,b)=>(KR (a.1,b)).bind λa=>a
def W0:(DK×DT)×DK->Option (DK×Bool):=λ(a,b)=>(kS (a.2,b,λx=>(xW x).bind λr=>r)).bind λb=>bif !b.2 then some ([],false)else(at? a.2 b.1).bind λa=>some (a.2,true)
def kT:Rd ((DK×DT)×(List DK)×Int×Int) KP:=λa (b,c,d,e)=>bif e<d then(at? c e).bind λf=>(W0 (b,f)).bind λf=>bif !f.2 then some (.inr false)else a (b,c,d,i64.wrap (e+1))else some (.inl ())
def A4z:=DX kT fuel
def kU:(DK×DT)×(DK×(List DK))->Option (Bool):=λ(a,b)=>(A4z (a,b.2,b.2.length,0)).bind λa=>match a with|.inl _=>some true|.inr a=>a
def xX:Rd (OP×QC×Int×Int) OP:=λa (b,c,d,e)=>bif e<d then(at? c e).bind λf=>a ((b.1,EB DP f.1 e b.2.1,b.2.2.1,b.2.2.2.1,b.2.2.2.2.1,b.2.2.2.2.2),c,d,i64.wrap (e+1))else(b.1,b.2.1,b.2.2.1,b.2.2.2.1,b.2.2.2.2.1,b.2.2.2.2.2)
def A50:=DX xX fuel
def xY:Rd (OP×(List (DK×DT))×Int×Int) OP:=λa (b,c,d,e)=>bif e<d then(at? c e).bind λf=>a ((b.1,b.2.1,EB DP f.1 e b.2.2.1,b.2.2.2.1,b.2.2.2.2.1,b.2.2.2.2.2),c,d,i64.wrap (e+1))else(b.1,b.2.1,b.2.2.1,b.2.2.2.1,b.2.2.2.2.1,b.2.2.2.2.2)
def A51:=DX xY fuel
def xZ:Rd (OP×(DK×(List DK))×(List (DK×DT))×Int×Int) OP:=λa (b,c,d,e,f)=>bif f<e then(at? d f).bind λg=>(kU (g,c)).bind λg=>bif g then(app? 24 ((DU DP c.1 b.2.2.2.1).getD []) [f]).bind λg=>(bif DP c.1 c.1 then some ()else none).bind λ_=>a ((b.1,b.2.1,b.2.2.1,EB DP c.1 g b.2.2.2.1,b.2.2.2.2.1,b.2.2.2.2.2),c,d,e,i64.wrap (f+1))else a ((b.1,b.2.1,b.2.2.1,b.2.2.2.1,b.2.2.2.2.1,b.2.2.2.2.2),c,d,e,i64.wrap (f+1))else(b.1,b.2.1,b.2.2.1,b.2.2.2.1,b.2.2.2.2.1,b.2.2.2.2.2)
def A52:=DX xZ fuel
def x_:Rd (JE×OP×(List (DK×(List DK)))×Int×Int) OP:=λa (b,c,d,e,f)=>bif f<e then(at? d f).bind λg=>(A52 ((c.1,c.2.1,c.2.2.1,c.2.2.2.1,c.2.2.2.2.1,c.2.2.2.2.2),g,b.2.1,b.2.1.length,0)).bind λg=>a (b,(g.1,g.2.1,g.2.2.1,g.2.2.2.1,g.2.2.2.2.1,g.2.2.2.2.2),d,e,i64.wrap (f+1))else(c.1,c.2.1,c.2.2.1,c.2.2.2.1,c.2.2.2.2.1,c.2.2.2.2.2)
def yA:=DX x_ fuel
def yB:Rd (OP×(List DK)×Int×Int) OP:=λa (b,c,d,e)=>bif e<d then(at? c e).bind λf=>a ((b.1,b.2.1,b.2.2.1,b.2.2.2.1,EB DP f true b.2.2.2.2.1,b.2.2.2.2.2),c,d,i64.wrap (e+1))else(b.1,b.2.1,b.2.2.1,b.2.2.2.1,b.2.2.2.2.1,b.2.2.2.2.2)
def A53:=DX yB fuel
def kV:JE×Int×(List DK)->Option (Option GZ):=λ(a,b,c)=>(A50 ((a,[],[],[],EB DP [] true [],DO b 2),a.2.2.1,a.2.2.1.length,0)).bind λb=>(A51 ((b.1,b.2.1,b.2.2.1,b.2.2.2.1,b.2.2.2.2.1,b.2.2.2.2.2),a.2.1,a.2.1.length,0)).bind λb=>(yA (a,(b.1,b.2.1,b.2.2.1,b.2.2.2.1,b.2.2.2.2.1,b.2.2.2.2.2),a.1,a.1.length,0)).bind λa=>(A53 ((a.1,a.2.1,a.2.2.1,a.2.2.2.1,a.2.2.2.2.1,a.2.2.2.2.2),c,c.length,0)).bind λa=>some (some (a.1,a.2.1,a.2.2.1,a.2.2.2.1,a.2.2.2.2.1,a.2.2.2.2.2))
def aB:JE×Int×(List DK)->Option ((Option GZ)×Int):=λ(a,b,c)=>(kP a).bind λd=>bif !DO d 0 then some ((none:Option GZ),d)else(kR c).bind λd=>bif !DO d 0 then some ((none:Option GZ),d)else bif !DO b 1&&!DO b 2 then some ((none:Option GZ),7)else(kV (a,b,c)).bind λa=>some (a,0)
def TU:JF×Int->Option JF:=λ(a,b)=>(in? a.2.1.length b).bind λ_=>bif !a.2.1.getD b.toNat false then(in? a.2.1.length b).bind λ_=>(app? 24 a.2.2.2.2.2.2 [b]).bind λc=>some (a.1,a.2.1.set b.toNat true,a.2.2.1,a.2.2.2.1,a.2.2.2.2.1,a.2.2.2.2.2.1,c)else(a.1,a.2.1,a.2.2.1,a.2.2.2.1,a.2.2.2.2.1,a.2.2.2.2.2.1,a.2.2.2.2.2.2)
def kW:Rd ((List Int)×Int×Int×Int) GR:=λa (b,c,d,e)=>bif e<d then(at? b e).bind λf=>bif DO c f then some (.inr e)else a (b,c,d,i64.wrap (e+1))else some (.inl ())
def A54:=DX kW fuel
def yC:(List Int)×Int->Option (Int):=λ(a,b)=>(A54 (a,b,a.length,0)).bind λa=>match a with|.inl _=>some (-1)|.inr a=>a
def kX:(List Int)×Int->Option (Bool):=λ(a,b)=>(yC (a,b)).bind λa=>some (0<=a)
def TV:(Option GZ)×IX×Int->Option (Int):=λ(a,b,c)=>(a).bind λd=>(at? d.1.2.1 c).bind λc=>(W0 (c,b.2.2.1)).bind λb=>(a).bind λa=>some ((DU DP b.1 a.2.1).getD 0)
def kY:Rd (JF×Int×DT×Int×Int) JF:=λa (b,c,d,e,f)=>bif f<e then(at? d f).bind λg=>(b.1).bind λh=>(kX ((DU DP g.1 h.2.2.2.1).getD [],c)).bind λh=>bif h then(TV (b.1,(0,g.1,g.2,[]),c)).bind λg=>(TU ((b.1,b.2.1,b.2.2.1,b.2.2.2.1,b.2.2.2.2.1,b.2.2.2.2.2.1,b.2.2.2.2.2.2),g)).bind λg=>a ((g.1,g.2.1,g.2.2.1,g.2.2.2.1,g.2.2.2.2.1,g.2.2.2.2.2.1,g.2.2.2.2.2.2),c,d,e,i64.wrap (f+1))else a ((b.1,b.2.1,b.2.2.1,b.2.2.2.1,b.2.2.2.2.1,b.2.2.2.2.2.1,b.2.2.2.2.2.2),c,d,e,i64.wrap (f+1))else(b.1,b.2.1,b.2.2.1,b.2.2.2.1,b.2.2.2.2.1,b.2.2.2.2.2.1,b.2.2.2.2.2.2)
def A55:=DX kY fuel
def kZ:JF×Int->Option JF:=λ(a,b)=>(in? a.2.2.1.length b).bind λ_=>bif a.2.2.1.getD b.toNat false then(a.1,a.2.1,a.2.2.1,a.2.2.2.1,a.2.2.2.2.1,a.2.2.2.2.2.1,a.2.2.2.2.2.2)else(in? a.2.2.1.length b).bind λ_=>(a.1).bind λc=>bif !c.2.2.2.2.2 then some (a.1,a.2.1,a.2.2.1.set b.toNat true,a.2.2.2.1,a.2.2.2.2.1,a.2.2.2.2.2.1,a.2.2.2.2.2.2)else(A55 ((a.1,a.2.1,a.2.2.1.set b.toNat true,a.2.2.2.1,a.2.2.2.2.1,a.2.2.2.2.2.1,a.2.2.2.2.2.2),b,a.2.2.2.2.1,a.2.2.2.2.1.length,0)).bind λa=>(a.1,a.2.1,a.2.2.1,a.2.2.2.1,a.2.2.2.2.1,a.2.2.2.2.2.1,a.2.2.2.2.2.2)
def k_:Rd (JF×IX×(List Int)×Int×Int) JF:=λa (b,c,d,e,f)=>bif f<e then(at? d f).bind λg=>(b.1).bind λh=>(bif !(!h.2.2.2.2.2)then in? b.2.2.1.length g else some ()).bind λ_=>bif !h.2.2.2.2.2||b.2.2.1.getD g.toNat false then(TV (b.1,c,g)).bind λg=>(TU ((b.1,b.2.1,b.2.2.1,b.2.2.2.1,b.2.2.2.2.1,b.2.2.2.2.2.1,b.2.2.2.2.2.2),g)).bind λg=>a ((g.1,g.2.1,g.2.2.1,g.2.2.2.1,g.2.2.2.2.1,g.2.2.2.2.2.1,g.2.2.2.2.2.2),c,d,e,i64.wrap (f+1))else a ((b.1,b.2.1,b.2.2.1,b.2.2.2.1,b.2.2.2.2.1,b.2.2.2.2.2.1,b.2.2.2.2.2.2),c,d,e,i64.wrap (f+1))else(b.1,b.2.1,b.2.2.1,b.2.2.2.1,b.2.2.2.2.1,b.2.2.2.2.2.1,b.2.2.2.2.2.2)
def A56:=DX k_ fuel
def lA:JF×IX->Option JF:=λ(a,b)=>bif DO b.1 1 then(a.1).bind λc=>(TU ((a.1,a.2.1,a.2.2.1,a.2.2.2.1,a.2.2.2.2.1,a.2.2.2.2.2.1,a.2.2.2.2.2.2),(DU DP b.2.1 c.2.1).getD 0)).bind λc=>(c.1,c.2.1,c.2.2.1,c.2.2.2.1,c.2.2.2.2.1,c.2.2.2.2.2.1,c.2.2.2.2.2.2)else bif (DU (λ(x y:DK×DK)=>DP x.1 y.1&&DP x.2 y.2) (b.2.1,b.2.2.1) a.2.2.2.1).getD false then(a.1,a.2.1,a.2.2.1,a.2.2.2.1,a.2.2.2.2.1,a.2.2.2.2.2.1,a.2.2.2.2.2.2)else(app? 48 a.2.2.2.2.1 [(b.2.1,b.2.2.1)]).bind λc=>(a.1).bind λd=>(A56 ((a.1,a.2.1,a.2.2.1,EB (λ(x y:DK×DK)=>DP x.1 y.1&&DP x.2 y.2) (b.2.1,b.2.2.1) true a.2.2.2.1,c,a.2.2.2.2.2.1,a.2.2.2.2.2.2),b,(DU DP b.2.1 d.2.2.2.1).getD [],(((DU DP b.2.1 d.2.2.2.1).getD []).length:Int),0)).bind λa=>(a.1,a.2.1,a.2.2.1,a.2.2.2.1,a.2.2.2.2.1,a.2.2.2.2.2.1,a.2.2.2.2.2.2)
def lB:Rd ((Option GZ)×JF×(List DK)×Int×Int) JF:=λa (b,c,d,e,f)=>bif f<e then(at? d f).bind λg=>(b).bind λh=>(TU ((c.1,c.2.1,c.2.2.1,c.2.2.2.1,c.2.2.2.2.1,c.2.2.2.2.2.1,c.2.2.2.2.2.2),(DU DP g h.2.1).getD 0)).bind λg=>a (b,(g.1,g.2.1,g.2.2.1,g.2.2.2.1,g.2.2.2.2.1,g.2.2.2.2.2.1,g.2.2.2.2.2.2),d,e,i64.wrap (f+1))else(c.1,c.2.1,c.2.2.1,c.2.2.2.1,c.2.2.2.2.1,c.2.2.2.2.2.1,c.2.2.2.2.2.2)
def A57:=DX lB fuel
def lC:Rd ((Option GZ)×JF×(List DK)×Int×Int) JF:=λa (b,c,d,e,f)=>bif f<e then(at? d f).bind λg=>(b).bind λh=>(kZ ((c.1,c.2.1,c.2.2.1,c.2.2.2.1,c.2.2.2.2.1,c.2.2.2.2.2.1,c.2.2.2.2.2.2),(DU DP g h.2.2.1).getD 0)).bind λg=>a (b,(g.1,g.2.1,g.2.2.1,g.2.2.2.1,g.2.2.2.2.1,g.2.2.2.2.2.1,g.2.2.2.2.2.2),d,e,i64.wrap (f+1))else(c.1,c.2.1,c.2.2.1,c.2.2.2.1,c.2.2.2.2.1,c.2.2.2.2.2.1,c.2.2.2.2.2.2)
def A58:=DX lC fuel
def lD:Rd ((Option GZ)×Int×JF×(List IX)×Int×Int) (Sum JF JF):=λa (b,c,d,e,f,g)=>bif g<f then(at? e g).bind λh=>(b).bind λi=>bif !(DU DP h.2.2.2 i.2.2.2.2.1).getD false then a (b,c,(d.1,d.2.1,d.2.2.1,d.2.2.2.1,d.2.2.2.2.1,d.2.2.2.2.2.1,d.2.2.2.2.2.2),e,f,i64.wrap (g+1))else(lA ((d.1,d.2.1,d.2.2.1,d.2.2.2.1,d.2.2.2.2.1,d.2.2.2.2.2.1,d.2.2.2.2.2.2),h)).bind λh=>(bif 0<=c then in? h.2.1.length c else some ()).bind λ_=>bif 0<=c&&h.2.1.getD c.toNat false then some (.inl (h.1,h.2.1,h.2.2.1,h.2.2.2.1,h.2.2.2.2.1,h.2.2.2.2.2.1,h.2.2.2.2.2.2))else a (b,c,(h.1,h.2.1,h.2.2.1,h.2.2.2.1,h.2.2.2.2.1,h.2.2.2.2.2.1,h.2.2.2.2.2.2),e,f,i64.wrap (g+1))else some (.inr (d.1,d.2.1,d.2.2.1,d.2.2.2.1,d.2.2.2.2.1,d.2.2.2.2.2.1,d.2.2.2.2.2.2))
def A59:=DX lD fuel
def A5A:Rd ((Option GZ)×Int×JF) JF:=λa (b,c,d)=>bif 0<(d.2.2.2.2.2.2.length:Int)then(in? d.2.2.2.2.2.2.length 0).bind λ_=>(cut? d.2.2.2.2.2.2 1 d.2.2.2.2.2.2.length).bind λe=>bif DO (d.2.2.2.2.2.2.getD 0 0) c then(d.1,d.2.1,d.2.2.1,d.2.2.2.1,d.2.2.2.2.1,d.2.2.2.2.2.1,e)else(b).bind λf=>(at? f.1.2.2.1 (d.2.2.2.2.2.2.getD 0 0)).bind λf=>(A58 (b,(d.1,d.2.1,d.2.2.1,d.2.2.2.1,d.2.2.2.2.1,d.2.2.2.2.2.1,e),f.2.2.2,f.2.2.2.length,0)).bind λe=>(b).bind λf=>(at? f.1.2.2.1 (d.2.2.2.2.2.2.getD 0 0)).bind λf=>(A59 (b,c,(e.1,e.2.1,e.2.2.1,e.2.2.2.1,e.2.2.2.2.1,e.2.2.2.2.2.1,e.2.2.2.2.2.2),f.2.2.1,f.2.2.1.length,0)).bind λe=>match e with|.inl e=>(e.1,e.2.1,e.2.2.1,e.2.2.2.1,e.2.2.2.2.1,e.2.2.2.2.2.1,e.2.2.2.2.2.2)|.inr e=>a (b,c,e.1,e.2.1,e.2.2.1,e.2.2.2.1,e.2.2.2.2.1,e.2.2.2.2.2.1,e.2.2.2.2.2.2)else(d.1,d.2.1,d.2.2.1,d.2.2.2.1,d.2.2.2.2.1,d.2.2.2.2.2.1,d.2.2.2.2.2.2)
def A5B:=DX A5A fuel
def aC:(Option GZ)×Int->Option N1:=λ(a,b)=>(a).bind λc=>(mks? 24 c.1.2.2.1.length c.1.2.2.1.length false).bind λc=>(a).bind λd=>(mks? 24 d.1.2.1.length d.1.2.1.length false).bind λd=>(a).bind λe=>(A57 (a,(a,c,d,[],[],[],[]),e.1.2.2.2,e.1.2.2.2.length,0)).bind λc=>(A5B (a,b,c.1,c.2.1,c.2.2.1,c.2.2.2.1,c.2.2.2.2.1,c.2.2.2.2.2.1,c.2.2.2.2.2.2)).bind λa=>some (some (a.1,a.2.1,a.2.2.1,a.2.2.2.1,a.2.2.2.2.1,a.2.2.2.2.2.1,a.2.2.2.2.2.2))
def lE:Rd (JE×(List DK)×(List Bool)×Int×Int) (List DK):=λa (b,c,d,e,f)=>bif f<e then(at? d f).bind λg=>bif g then(at? b.2.2.1 f).bind λg=>(app? 24 c [g.1]).bind λg=>a (b,g,d,e,i64.wrap (f+1))else a (b,c,d,e,i64.wrap (f+1))else c
def A5C:=DX lE fuel
def WA:JE×Int×(List DK)->Option ((List DK)×Int):=λ(a,b,c)=>(aB (a,b,c)).bind λb=>bif !DO b.2 0 then some ([],b.2)else(aC (b.1,-1)).bind λb=>(b).bind λb=>(A5C (a,[],b.2.1,b.2.1.length,0)).bind λa=>some (a,0)
def aD:H7×Int×NT×(List JE)×Int×(List DK)×(List JO)->Option (Int):=λa=>bif 1<(a.2.2.2.1.length:Int)then some 2 else bif DO a.2.2.2.1.length 0 then bif !DO a.2.2.2.2.1 0||0<(a.2.2.2.2.2.1.length:Int)then some 2 else some 0 else(at? a.2.2.2.1 0).bind λb=>(WA (b,a.2.2.2.2.1,a.2.2.2.2.2.1)).bind λa=>a.2
def lF:Rd EP KP:=λa (b,c,d)=>bif d<c then(at? b d).bind λe=>bif !(97<=(e.toNat:Int)&&(e.toNat:Int)<=122||65<=(e.toNat:Int)&&(e.toNat:Int)<=90||48<=(e.toNat:Int)&&(e.toNat:Int)<=57||DO e.toNat 46||DO e.toNat 45||DO e.toNat 95)then some (.inr false)else a (b,c,i64.wrap (d+1))else some (.inl ())
def A5D:=DX lF fuel
def lG:DK->Option (Bool):=λa=>(A5D (a,a.length,0)).bind λb=>match b with|.inl _=>some (!DP a []&&(a.length:Int)<=60)|.inr a=>a
def lH:Rd EP KP:=λa (b,c,d)=>bif d<c then(at? b d).bind λe=>(bif !((e.toNat:Int)<32)then at? b d else some 0).bind λf=>bif (e.toNat:Int)<32||DO f.toNat 127 then some (.inr false)else a (b,c,i64.wrap (d+1))else some (.inl ())
def A5E:=DX lH fuel
def lI:DK->Option (Bool):=λa=>(A5E (a,a.length,0)).bind λb=>match b with|.inl _=>some ((a.length:Int)<=100)|.inr a=>a
def A5F:Rd (EP×Bool×HX) (Sum (EP×HX) (EP×HX×Bool)):=λa (b,c,d)=>bif b.2.2<0 then(L3 (some b)).bind λe=>bif !DO e 42 then(ZC b).bind λe=>bif !e.2.1 then some (.inl (e.2.2,d))else(app? 48 d [(1,e.1)]).bind λf=>a (e.2.2,c,f)else(L3 (some (b.1,i64.wrap (b.2.1+1),b.2.2))).bind λe=>bif DO e 42 then(bif !(!c||0<(d.length:Int))then cut? b.1 (i64.wrap (b.2.1+1)) b.1.length else some []).bind λe=>(bif !(!c||0<(d.length:Int))then strings_HasPrefix (e,[42,47])else some false).bind λe=>bif !c||0<(d.length:Int)||!e then(N5 ((b.1,i64.wrap (b.2.1+1),b.2.2),i64.wrap (b.2.1+1))).bind λe=>some (.inr (e,[],false))else some (.inr ((b.1,i64.wrap (i64.wrap (b.2.1+1)+1),b.2.2),[],true))else(app? 48 d [(2,0)]).bind λe=>a ((b.1,i64.wrap (b.2.1+1),b.2.2),c,e)else some (.inl (b,d))
def A5G:=DX A5F fuel
def aF:EP×Bool->Option (HX×Bool×EP):=λ(a,b)=>(A5G (a,b,[])).bind λa=>match a with|.inl a=>bif DO a.2.length 0 then(N5 (a.1,a.1.2.1)).bind λb=>some (a.2,false,b)else some (a.2,false,a.1)|.inr a=>(a.2.1,a.2.2,a.1)
def yD:(DK×(HX×Int))×HX×Bool->Option (DK×(HX×Int)):=λ(a,b,c)=>bif c then(app? 48 a.2.1 [(4,0)]).bind λc=>(a.1,c,a.2.2)else(app? 48 a.2.1 b).bind λb=>(a.1,b,a.2.2)
def A5H:Rd (EP×K5×(DK×(HX×Int))) (Sum (EP×K5×(DK×(HX×Int))) (EP×K5)):=λa (b,c,d)=>bif b.2.2<0 then(aF (b,true)).bind λe=>bif 0<=e.2.2.2.2 then some (.inr (e.2.2,d.1,d.2.1,d.2.2))else(yD ((d.1,d.2.1,d.2.2),e.1,e.2.1)).bind λf=>(L3 (some e.2.2)).bind λg=>bif !DO g 47 then some (.inl (e.2.2,c,f.1,f.2.1,f.2.2))else bif !e.2.1 then(app? 48 f.2.1 [(3,0)]).bind λg=>a ((e.2.2.1,i64.wrap (e.2.2.2.1+1),e.2.2.2.2),c,f.1,g,i64.wrap (f.2.2+1))else a ((e.2.2.1,i64.wrap (e.2.2.2.1+1),e.2.2.2.2),c,f.1,f.2.1,i64.wrap (f.2.2+1))else some (.inl (b,c,d.1,d.2.1,d.2.2))
def A5I:=DX A5H fuel
def yE:EP×(DK×(HX×Int))×Bool->Option (EP×(DK×(HX×Int))):=λ(a,b,c)=>bif c then(a,b.1,b.2.1,b.2.2)else bif DO a.2.1 a.1.length then(app? 48 b.2.1 [(6,0)]).bind λc=>(a,b.1,c,b.2.2)else(L3 (some a)).bind λc=>bif DO c 64 then(aF ((a.1,i64.wrap (a.2.1+1),a.2.2),false)).bind λc=>(app? 48 b.2.1 [(5,0)]).bind λd=>(app? 48 d c.1).bind λd=>(c.2.2,b.1,d,b.2.2)else(a,b.1,b.2.1,b.2.2)
def lJ:DK×Int×Int->Option (K5×EP):=λa=>(ZB (a,true)).bind λa=>(A5I (a.2,([],[],0),a.1,[],0)).bind λa=>match a with|.inl a=>(yE (a.1,(a.2.2.1,a.2.2.2.1,a.2.2.2.2),0<=a.1.2.2)).bind λa=>bif a.1.2.2<0&&a.1.2.1<a.1.1.length then(N5 (a.1,a.1.2.1)).bind λb=>some ((a.2.1,a.2.2.1,a.2.2.2),b)else some ((a.2.1,a.2.2.1,a.2.2.2),a.1)|.inr a=>(a.2,a.1)
def aG:DK->Option (K5×Int×Int):=λa=>bif 3000<(a.length:Int)then some (([],[],0),0,3)else(lJ (a,0,-1)).bind λa=>bif 0<=a.2.2.2 then some (([],[],0),a.2.2.2,6)else(bif !DP a.1.1 [42]then YW a.1.1 else some 0).bind λb=>bif !DP a.1.1 [42]&&b<0 then some (([],[],0),0,7)else bif 10<a.1.2.2 then some (([],[],0),0,3)else some (a.1,0,0)
def lK:DK->Option (Int×Int):=λa=>(aG a).bind λa=>(a.2.1,a.2.2)
def N_:DK×DK×DK×Int×Int×Int×Int->Option (Int):=λa=>(lG a.1).bind λb=>(bif !(!b)then lI a.2.1 else some false).bind λc=>bif !b||!c then some 8 else(lK a.2.2.1).bind λb=>bif !DO b.2 0 then b.2 else bif a.2.2.2.1<1||4<a.2.2.2.1 then some 7 else bif !DO a.2.2.2.1 4&&!DO a.2.2.2.2.1 0 then some 2 else bif DO a.2.2.2.1 4&&(a.2.2.2.2.1<1||5<a.2.2.2.2.1)then some 7 else bif a.2.2.2.2.2.1<0||1000000<a.2.2.2.2.2.1||a.2.2.2.2.2.2<0||100<a.2.2.2.2.2.2 then some 9 else some 0
def lL:Rd ((List JO)×Int×Int) GR:=λa (b,c,d)=>bif d<c then(at? b d).bind λe=>(N_ e).bind λe=>bif !DO e 0 then some (.inr e)else a (b,c,i64.wrap (d+1))else some (.inl ())
def yF:=DX lL fuel
def S2:H7×Int×NT×(List JE)×Int×(List DK)×(List JO)->Option (Int):=λa=>(VQ a.1).bind λb=>bif !DO b 0 then b else bif a.2.1<1||4<a.2.1 then some 9 else(V_ a.2.2.1).bind λb=>bif !DO b 0 then b else(aD a).bind λb=>bif !DO b 0 then b else bif 2000<(a.2.2.2.2.2.2.length:Int)then some 3 else(yF (a.2.2.2.2.2.2,a.2.2.2.2.2.2.length,0)).bind λa=>match a with|.inl _=>some 0|.inr a=>a
def aH:Int×DK->Option (Int):=λ(a,b)=>(K8 (a,b)).bind λa=>a.2
def lM:(GI×GI)×(List FG)->Option (Int):=λ(a,b)=>bif !a.1.1||!a.1.2.1||a.2.1&&(!a.2.2.1||DP a.2.2.2 [57,57,57,57,57,57,57,57,57,57,57,57,57,57,57,57,57,57])then some 2 else bif 0<(b.length:Int)then(K7 a.1.2.2).bind λa=>(at? b (i64.wrap (b.length-1))).bind λb=>(K7 b.2.2.2.2).bind λb=>bif a.1<i64.wrap (b.1+2)then some 10 else some 0 else some 0
def A5J:Rd ((Int×F6)×(List FG)×F6×Int×Int) (Sum (List FG) ((List FG)×Int)):=λa (b,c,d,e,f)=>bif f<e then(at? d f).bind λg=>(S0 (b.1,g.1)).bind λh=>bif !DO h.2 0 then some (.inr ([],h.2))else(S0 (b.1,g.2)).bind λi=>bif !DO i.2 0 then some (.inr ([],i.2))else(ZZ (g.1,h.1)).bind λh=>(Z_ (g.2,i.1)).bind λi=>(N7 (h,i)).bind λj=>(bif !(0<=j)&&0<(c.length:Int)then at? c (i64.wrap (c.length-1))else some ((0,[],false,[]),0,[],false,[])).bind λk=>(bif !(0<=j)&&0<(c.length:Int)then N7 (h,k.2)else some 0).bind λk=>bif 0<=j||0<(c.length:Int)&&k<=0 then some (.inr ([],10))else bif DO b.1 5 then(lM (g,c)).bind λg=>bif !DO g 0 then some (.inr ([],g))else(app? 192 c [(h,i)]).bind λg=>a (b,g,d,e,i64.wrap (f+1))else(app? 192 c [(h,i)]).bind λg=>a (b,g,d,e,i64.wrap (f+1))else some (.inl c)
def yG:=DX A5J fuel
def aI:Int×F6->Option ((List FG)×Int):=λa=>bif a.1<1||5<a.1 then some ([],7)else bif 200<(a.2.length:Int)then some ([],3)else(yG (a,[],a.2,a.2.length,0)).bind λa=>match a with|.inl a=>some (a,0)|.inr a=>(a.1,a.2)
def lN:FG×(Option LP)->Option (Bool):=λ(a,b)=>(b).bind λc=>(N7 (a.1,c)).bind λc=>(bif c<=0 then b else some (0,[],false,[])).bind λb=>(bif c<=0 then N7 (b,a.2)else some 0).bind λa=>some (c<=0&&a<0)
def A5K:Rd ((List FG)×(FG->Option Bool)×Int×Int) GR:=λa (b,c,d,e)=>bif e<d then(at? b e).bind λf=>(c f).bind λf=>bif f then some (.inr e)else a (b,c,d,i64.wrap (e+1))else some (.inl ())
def A5L:=DX A5K fuel
def yH:(List FG)×(FG->Option Bool)->Option (Int):=λ(a,b)=>(A5L (a,b,a.length,0)).bind λa=>match a with|.inl _=>some (-1)|.inr a=>a
def aJ:(List FG)×DK->Option (Int):=λ(a,b)=>(yH (a,λx=>(lN (x,some (0,b,false,[]))).bind λr=>r)).bind λa=>a
def aK:(Int×F6)×DK->Option (Bool×Int):=λ(a,b)=>(aI a).bind λc=>bif !DO c.2 0 then some (false,c.2)else(K8 (a.1,b)).bind λa=>bif !DO a.2 0 then some (false,a.2)else((λz=>Sum.casesOn (motive:=λ_=>Option DK) z (λx=>(NU x).bind λr=>r) (λz=>z.casesOn (λx=>(NV x).bind λr=>r) (λz=>z.casesOn (λx=>(NW x).bind λr=>r) (λz=>z.casesOn (λx=>(NY x).bind λr=>r) (λz=>z.casesOn (λx=>(NZ x).bind λr=>r) (λ_=>none)))))) a.1).bind λa=>(aJ (c.1,a)).bind λa=>some (0<=a,0)
def TW:GQ×(Int×F6)×DK×DK->Option (Bool):=λ(a,b,c,d)=>(bif !(!DP a.1 c||DP d [])then aH (a.2.1,d)else some 0).bind λe=>bif !DP a.1 c||DP d []||!DO e 0 then some false else(aK (b,d)).bind λa=>some (DO a.2 0&&a.1)
def lO:(Int×Int)×(Int×Int)->Option (Int):=λ(a,b)=>(OR (a.1,b.1)).bind λc=>(OR (a.2,b.2)).bind λa=>(QD [c,a]).bind λa=>a
def lP:Rd (H7×K6×HX×Int×GQ×(List Int)×Int×Int) (H7×HX):=λa (b,c,d,e,f,g,h,i)=>bif i<h then(at? g i).bind λj=>(at? c e).bind λk=>(at? b.2.2.2.1 j).bind λl=>(TW (f,k,f.1,l.2.1.2.2.2.1)).bind λk=>bif k then(app? 48 d [(j,e)]).bind λj=>a (b,c,j,e,f,g,h,i64.wrap (i+1))else a (b,c,d,e,f,g,h,i64.wrap (i+1))else(b,d)
def A5M:=DX lP fuel
def lQ:Rd ((List (DK×(List Int)))×H7×K6×HX×(List GQ)×Int×Int) HX:=λa (b,c,d,e,f,g,h)=>bif h<g then(at? f h).bind λi=>(A5M (c,d,e,h,i,(DU DP i.1 b).getD [],(((DU DP i.1 b).getD []).length:Int),0)).bind λc=>a (b,c.1,d,c.2,f,g,i64.wrap (h+1))else e
def A5N:=DX lQ fuel
def lR:G9×H7×(List (DK×(List Int)))->Option HX:=λ(a,b,c)=>(N8 a).bind λd=>(A5N (c,b,d.1,[],a.2.2.2.2.2.2,a.2.2.2.2.2.2.length,0)).bind λa=>(uP (a,λx=>(lO x).bind λr=>r)).bind λa=>a
def lS:Rd ((List (DK×List Int))×(List GV)×Int×Int) (List (DK×List Int)):=λa (b,c,d,e)=>bif e<d then(at? c e).bind λf=>(MD f.2.1).bind λf=>(app? 24 ((DU DP f.1 b).getD []) [e]).bind λg=>(bif DP f.1 f.1 then some ()else none).bind λ_=>a (EB DP f.1 g b,c,d,i64.wrap (e+1))else b
def yI:=DX lS fuel
def lT:Rd (H7×(List FE)×G9×HX×Int×Int) (Sum (H7×(List FE)) ((List FE)×Int)):=λa (b,c,d,e,f,g)=>bif g<f then(at? e g).bind λh=>bif DO c.length 100000 then some (.inr ([],3))else(at? b.2.2.2.1 h.1).bind λi=>(app? 72 c [(d.1,i.1,h.2)]).bind λh=>a (b,h,d,e,f,i64.wrap (g+1))else some (.inl (b,c))
def yJ:=DX lT fuel
def lU:Rd (H7×(List (DK×(List Int)))×(List FE)×(List G9)×Int×Int) (Sum (List FE) ((List FE)×Int)):=λa (b,c,d,e,f,g)=>bif g<f then(at? e g).bind λh=>bif h.2.2.2.2.1 then a (b,c,d,e,f,i64.wrap (g+1))else(lR (h,b,c)).bind λi=>(yJ (b,d,h,i,i.length,0)).bind λb=>match b with|.inl b=>a (b.1,c,b.2,e,f,i64.wrap (g+1))|.inr a=>some (.inr (a.1,a.2))else some (.inl d)
def A5O:=DX lU fuel
def aL:NT×H7->Option ((List FE)×Int):=λ(a,b)=>(V_ a).bind λc=>bif !DO c 0 then some ([],c)else(VQ b).bind λc=>bif !DO c 0 then some ([],c)else(yI ([],b.2.2.2.1,b.2.2.2.1.length,0)).bind λc=>(A5O (b,c,[],a.2.1,a.2.1.length,0)).bind λa=>match a with|.inl a=>some (a,0)|.inr a=>(a.1,a.2)
def lV:Rd (RW×(List G9)×Int×Int) RW:=λa (b,c,d,e)=>bif e<d then(at? c e).bind λf=>a ((b.1,EB DP f.1 f b.2.1,b.2.2.1,b.2.2.2.1,b.2.2.2.2),c,d,i64.wrap (e+1))else(b.1,b.2.1,b.2.2.1,b.2.2.2.1,b.2.2.2.2)
def yK:=DX lV fuel
def lW:Rd (RW×(List GV)×Int×Int) RW:=λa (b,c,d,e)=>bif e<d then(at? c e).bind λf=>a ((b.1,b.2.1,EB DP f.1 f b.2.2.1,b.2.2.2.1,b.2.2.2.2),c,d,i64.wrap (e+1))else(b.1,b.2.1,b.2.2.1,b.2.2.2.1,b.2.2.2.2)
def yL:=DX lW fuel
def lX:Rd (TG×RW×(List FE)×Int×Int) (TG×RW):=λa (b,c,d,e,f)=>bif f<e then(at? d f).bind λg=>bif g.2.2<=b.2.1 then a (b,(c.1,c.2.1,c.2.2.1,c.2.2.2.1,EB (λ(x y:DK×DK×Int)=>DP x.1 y.1&&(λ(x y:DK×Int)=>DP x.1 y.1&&DO x.2 y.2) x.2 y.2) (g.1,g.2.1,0) true c.2.2.2.2),d,e,i64.wrap (f+1))else a (b,(c.1,c.2.1,c.2.2.1,c.2.2.2.1,c.2.2.2.2),d,e,i64.wrap (f+1))else(b,c.1,c.2.1,c.2.2.1,c.2.2.2.1,c.2.2.2.2)
def yM:=DX lX fuel
def lY:Rd (RW×(List DK)×Int×Int) RW:=λa (b,c,d,e)=>bif e<d then(at? c e).bind λf=>a ((b.1,b.2.1,b.2.2.1,EB DP f true b.2.2.2.1,b.2.2.2.2),c,d,i64.wrap (e+1))else(b.1,b.2.1,b.2.2.1,b.2.2.2.1,b.2.2.2.2)
def lZ:=DX lY fuel
def l_:H7×Int×NT×(List JE)×Int×(List DK)×(List JO)->Option (Option IY):=λa=>(yK ((a,[],[],[],[]),a.2.2.1.2.1,a.2.2.1.2.1.length,0)).bind λb=>(yL ((b.1,b.2.1,b.2.2.1,b.2.2.2.1,b.2.2.2.2),a.1.2.2.2.1,a.1.2.2.2.1.length,0)).bind λb=>(yM (a,(b.1,b.2.1,b.2.2.1,b.2.2.2.1,b.2.2.2.2),a.1.2.2.2.2,a.1.2.2.2.2.length,0)).bind λa=>bif DO a.1.2.2.2.1.length 1 then(at? a.1.2.2.2.1 0).bind λb=>(WA (b,a.1.2.2.2.2.1,a.1.2.2.2.2.2.1)).bind λb=>(lZ ((a.2.1,a.2.2.1,a.2.2.2.1,a.2.2.2.2.1,a.2.2.2.2.2),b.1,b.1.length,0)).bind λb=>some (some (b.1,b.2.1,b.2.2.1,b.2.2.2.1,b.2.2.2.2))else some (some (a.2.1,a.2.2.1,a.2.2.2.1,a.2.2.2.2.1,a.2.2.2.2.2))
def yN:Rd ((List (DK×Int))×(List GV)×Int×Int) (List (DK×Int)):=λa (b,c,d,e)=>bif e<d then(at? c e).bind λf=>a (EB DP f.1 e b,c,d,i64.wrap (e+1))else b
def A5P:=DX yN fuel
def m6:Rd (Int×(List (DK×Int))×(H7×(Int×(JG×JG)))×(List FE)×Int×Int) (H7×(Int×(JG×JG))):=λa (b,c,d,e,f,g)=>bif g<f then(at? e g).bind λh=>bif b<h.2.2 then a (b,c,(d.1,d.2.1,d.2.2.1,d.2.2.2),e,f,i64.wrap (g+1))else(in? d.2.2.1.length ((DU DP h.1 c).getD 0)).bind λ_=>(app? 24 (d.2.2.1.getD (((DU DP h.1 c).getD 0).toNat) []) [(DU DP h.2.1 c).getD 0]).bind λi=>(in? d.2.2.2.length ((DU DP h.2.1 c).getD 0)).bind λ_=>(app? 24 (d.2.2.2.getD (((DU DP h.2.1 c).getD 0).toNat) []) [(DU DP h.1 c).getD 0]).bind λj=>(in? d.2.2.1.length ((DU DP h.1 c).getD 0)).bind λ_=>(bif Nat.beq (((DU DP h.1 c).getD 0).toNat) (((DU DP h.1 c).getD 0).toNat)then some ()else none).bind λ_=>(in? d.2.2.2.length ((DU DP h.2.1 c).getD 0)).bind λ_=>(bif Nat.beq (((DU DP h.2.1 c).getD 0).toNat) (((DU DP h.2.1 c).getD 0).toNat)then some ()else none).bind λ_=>a (b,c,(d.1,d.2.1,d.2.2.1.set (((DU DP h.1 c).getD 0).toNat) i,d.2.2.2.set (((DU DP h.2.1 c).getD 0).toNat) j),e,f,i64.wrap (g+1))else(d.1,d.2.1,d.2.2.1,d.2.2.2)
def A5Q:=DX m6 fuel
def m7:Rd ((H7×(Int×(JG×JG)))×Int×Int) (H7×(Int×(JG×JG))):=λa (b,c,d)=>bif d<c then(in? b.2.2.1.length d).bind λ_=>(slices_Compact_int (b.2.2.1.getD d.toNat [])).bind λe=>(in? b.2.2.2.length d).bind λ_=>(slices_Compact_int (b.2.2.2.getD d.toNat [])).bind λf=>(in? b.2.2.1.length d).bind λ_=>(bif Nat.beq d.toNat d.toNat then some ()else none).bind λ_=>(in? b.2.2.2.length d).bind λ_=>(bif Nat.beq d.toNat d.toNat then some ()else none).bind λ_=>a ((b.1,b.2.1,b.2.2.1.set d.toNat e,b.2.2.2.set d.toNat f),c,i64.wrap (d+1))else(b.1,b.2.1,b.2.2.1,b.2.2.2)
def A5R:=DX m7 fuel
def m8:H7×Int->Option TI:=λ(a,b)=>(A5P ([],a.2.2.2.1,a.2.2.2.1.length,0)).bind λc=>(mks? 24 a.2.2.2.1.length a.2.2.2.1.length []).bind λd=>(mks? 24 a.2.2.2.1.length a.2.2.2.1.length []).bind λe=>(A5Q (b,c,(a,(DU DP a.2.2.1 c).getD 0,d,e),a.2.2.2.2,a.2.2.2.2.length,0)).bind λb=>(A5R ((b.1,b.2.1,b.2.2.1,b.2.2.2),a.2.2.2.1.length,0)).bind λa=>(a.1,a.2.1,a.2.2.1,a.2.2.2)
def yO:H7×Int->Option (TI×Int):=λ(a,b)=>(VQ a).bind λc=>bif !DO c 0 then some ((([],[],[],[],[]),0,[],[]),c)else bif b<1||4<b then some ((([],[],[],[],[]),0,[],[]),9)else(m8 (a,b)).bind λa=>some (a,0)
def A5S:Rd ((List GV)×DK×((GV×DK)->Option Int)×Int×Int) (Int):=λa (b,c,d,e,f)=>bif e<f then(shr? u64 (u64.wrap (i64.wrap (e+f))) 1).bind λg=>(at? b (i64.wrap g)).bind λh=>(d (h,c)).bind λh=>bif h<0 then a (b,c,d,i64.wrap (i64.wrap g+1),f)else a (b,c,d,e,i64.wrap g)else e
def A5T:=DX A5S fuel
def m9:(List GV)×DK×((GV×DK)->Option Int)->Option (Int×Bool):=λ(a,b,c)=>(A5T (a,b,c,0,a.length)).bind λd=>(bif d<a.length then at? a d else some ([],([],[],[],[],[],[]),[],[],[])).bind λe=>(bif d<a.length then c (e,b)else some 0).bind λb=>some (d,(d<a.length)&&DO b 0)
def yP:GV×DK->Option (Int):=λ(a,b)=>(KR (a.1,b)).bind λa=>a
def yQ:H7×DK->Option (Int×Bool):=λ(a,b)=>(m9 (a.2.2.2.1,b,λx=>(yP x).bind λr=>r)).bind λa=>(a.1,a.2)
def yR:H7×DK×Int->Option (TI×Int×Int):=λ(a,b,c)=>(yO (a,c)).bind λc=>bif !DO c.2 0 then some ((([],[],[],[],[]),0,[],[]),0,c.2)else(yQ (a,b)).bind λa=>bif !a.2 then some ((([],[],[],[],[]),0,[],[]),0,4)else some (c.1,a.1,0)
def yS:Rd ((List Int)×Int×Int) (List Int):=λa (b,c,d)=>bif d<c then(in? b.length d).bind λ_=>a (b.set d.toNat (-1),c,i64.wrap (d+1))else b
def yT:=DX yS fuel
def WB:Rd (Int×(List Int)×(List Int)×Int×(List Int)×Int×Int) ((List Int)×(List Int)):=λa (b,c,d,e,f,g,h)=>bif h<g then(at? f h).bind λi=>(in? c.length i).bind λ_=>bif c.getD i.toNat 0<0&&!DO i b then(in? c.length e).bind λ_=>(in? c.length i).bind λ_=>(app? 24 d [i]).bind λj=>a (b,c.set i.toNat (i64.wrap (c.getD e.toNat 0+1)),j,e,f,g,i64.wrap (h+1))else a (b,c,d,e,f,g,i64.wrap (h+1))else(c,d)
def mA:=DX WB fuel
def aM:Rd (JG×Int×(List Int)×(List Int)) (List Int):=λa (b,c,d,e)=>bif 0<(e.length:Int)then(in? e.length 0).bind λ_=>(cut? e 1 e.length).bind λf=>(at? b (e.getD 0 0)).bind λg=>(mA (c,d,f,e.getD 0 0,g,g.length,0)).bind λe=>a (b,c,e.1,e.2)else d
def yU:=DX aM fuel
def mB:JG×Int×Int->Option (List Int):=λ(a,b,c)=>(mks? 24 a.length a.length 0).bind λd=>(yT (d,d.length,0)).bind λd=>bif DO b c then d else(in? d.length b).bind λ_=>(yU (a,c,d.set b.toNat 0,[b])).bind λa=>a
def yV:Int×(Option (List Int))×(Option Int)->Option (Bool):=λ(a,b,c)=>(b).bind λd=>(at? d a).bind λa=>(b).bind λb=>(c).bind λc=>(at? b c).bind λb=>some (DO a (i64.wrap (b-1)))
def yW:Rd ((List Int)×N3×Int×Int) GR:=λa (b,c,d,e)=>bif e<d then(at? b e).bind λf=>(c f).bind λf=>bif f then some (.inr e)else a (b,c,d,i64.wrap (e+1))else some (.inl ())
def A5U:=DX yW fuel
def mC:(List Int)×N3->Option (Int):=λ(a,b)=>(A5U (a,b,a.length,0)).bind λa=>match a with|.inl _=>some (-1)|.inr a=>a
def A5V:Rd (Int×TI×(List Int)×(List Int)×Int) (List Int):=λa (b,c,d,e,f)=>bif !DO f b then(at? c.2.2.1 f).bind λg=>(mC (g,λx=>(yV (x,some d,some f)).bind λr=>r)).bind λg=>(at? c.2.2.1 f).bind λf=>(at? f g).bind λf=>(app? 24 e [f]).bind λg=>a (b,c,d,g,f)else e
def A5W:=DX A5V fuel
def mD:TI×Int->Option (List Int):=λ(a,b)=>(mB (a.2.2.2,b,-1)).bind λc=>(at? c a.2.1).bind λd=>bif d<0 then some []else(A5W (b,a,c,[a.2.1],a.2.1)).bind λa=>a
def mE:Rd (TI×(List DK)×(List Int)×Int×Int) (List DK):=λa (b,c,d,e,f)=>bif f<e then(at? d f).bind λg=>(at? b.1.2.2.2.1 g).bind λg=>(app? 24 c [g.1]).bind λg=>a (b,g,d,e,i64.wrap (f+1))else c
def A5X:=DX mE fuel
def mF:TI×(List Int)->Option (List DK):=λ(a,b)=>(A5X (a,[],b,b.length,0)).bind λa=>a
def mG:H7×DK×Int->Option ((List DK)×Bool×Int):=λ(a,b,c)=>(yR (a,b,c)).bind λa=>bif !DO a.2.2 0 then some ([],false,a.2.2)else(mD (a.1,a.2.1)).bind λb=>(mF (a.1,b)).bind λa=>some (a,0<(a.length:Int),0)
def S3(a:(Int×Bool)×Bool):List ((Int×Bool)×Bool)->Option (Sum KO (Unit)):=λb=>some (.inl (EB (λ(x y:Int×Bool)=>DO x.1 y.1&&I3 x.2 y.2) a.1 true b))
def mH:KO×(Int×Bool)->Option KO:=λ(a,b)=>(EY S3 a (EB (λ(x y:Int×Bool)=>DO x.1 y.1&&I3 x.2 y.2) b true [])).bind λa=>match a with|.inl a=>a|.inr _=>some []
def LR(a:(Int×Bool)×Bool):KO×K5×Bool->Option (Sum (KO×K5×Bool) (Unit)):=λ(b,c,d)=>(bif !(a.1.2||c.2.1.length<=a.1.1)then at? c.2.1 a.1.1 else some (0,0)).bind λe=>(bif !(a.1.2||c.2.1.length<=a.1.1)&&!DO e.1 2 then at? c.2.1 a.1.1 else some (0,0)).bind λf=>bif a.1.2||c.2.1.length<=a.1.1||!DO e.1 2&&!DO f.1 4 then some (.inl (b,c,d))else bif !(DU (λ(x y:Int×Bool)=>DO x.1 y.1&&I3 x.2 y.2) (i64.wrap (a.1.1+1),false) b).getD false then(mH (b,i64.wrap (a.1.1+1),false)).bind λa=>some (.inl (a,c,true))else some (.inl (b,c,d))
def A5Y:Rd (KO×K5×Bool) KO:=λa (b,c,d)=>bif d then(EY LR b (b,c,false)).bind λc=>match c with|.inl c=>a (c.1,c.2.1,c.2.2)|.inr _=>none else b
def A5Z:=DX A5Y fuel
def aN:K5×KO->Option KO:=λ(a,b)=>(A5Z (b,a,true)).bind λa=>a
def mI:DK×HX×Int->Option KO:=λa=>(aN (a,EB (λ(x y:Int×Bool)=>DO x.1 y.1&&I3 x.2 y.2) (0,false) true [])).bind λa=>a
def yX:(List Int)×Bool->Option (List Int):=λ(a,b)=>bif b then(app? 24 a [256]).bind λb=>b else a
def mJ:Rd ((List Int)×DK×Int×Int) (List Int):=λa (b,c,d,e)=>bif e<d then(at? c e).bind λf=>(app? 24 b [i64.wrap f.toNat]).bind λf=>a (f,c,d,i64.wrap (e+1))else b
def yY:=DX mJ fuel
def mK:Rd ((List Int)×(List DK)×Int×Int) (List Int):=λa (b,c,d,e)=>bif e<d then(at? c e).bind λf=>(yX (b,0<(b.length:Int))).bind λg=>(yY (g,f,f.length,0)).bind λf=>a (f,c,d,i64.wrap (e+1))else b
def A5_:=DX mK fuel
def mL:Rd (I5×(List Int)×Int×Int) (List Int):=λa (b,c,d,e)=>bif e<d then(at? b.2.2.2.1 e).bind λf=>(app? 24 c [i64.wrap f.toNat]).bind λf=>a (b,f,d,i64.wrap (e+1))else c
def A5a:=DX mL fuel
def mM:DK×DK×DK×DK×DT×DK->Option (List Int):=λa=>(TK a.2.1).bind λb=>(app? 24 b [a.2.2.1]).bind λb=>(A5_ ([],b,b.length,0)).bind λb=>bif !DP a.2.2.2.1 []then(app? 24 b [257]).bind λc=>(A5a (a,c,a.2.2.2.1.length,0)).bind λa=>a else b
def O0:K5×(Int×Bool)×Int->Option ((Int×Bool)×Bool):=λ(a,b,c)=>bif a.2.1.length<=b.1 then some ((0,false),false)else(at? a.2.1 b.1).bind λa=>bif DO a.1 1 then some ((i64.wrap (b.1+1),false),DO c (i64.wrap a.2))else bif DO a.1 2 then some (b,(c<256)&&!DO c 47)else bif DO a.1 3 then some ((i64.wrap (b.1+1),false),DO c 256)else bif DO a.1 5 then some ((i64.wrap (b.1+1),false),DO c 257)else bif DO a.1 4 then bif DO c 256 then some ((b.1,false),b.2)else some ((b.1,true),c<256)else some ((b.1,true),(DO c 257&&!b.2)||c<256&&b.2)
def LT(a:(Int×Bool)×Bool):Int×K5×KO->Option (Sum (Int×K5×KO) (Unit)):=λ(b,c,d)=>(O0 (c,a.1,b)).bind λa=>bif a.2 then some (.inl (b,c,EB (λ(x y:Int×Bool)=>DO x.1 y.1&&I3 x.2 y.2) a.1 true d))else some (.inl (b,c,d))
def mN:K5×KO×Int->Option KO:=λ(a,b,c)=>(EY LT b (c,a,[])).bind λa=>match a with|.inl a=>(aN (a.2.1,a.2.2)).bind λa=>a|.inr _=>some []
def TX:K5×(Int×Bool)->Option (Bool):=λ(a,b)=>(bif !DO b.1 a.2.1.length then at? a.2.1 b.1 else some (0,0)).bind λc=>some (DO b.1 a.2.1.length||DO c.1 6)
def mO:Rd (K5×KO×(List Int)×Int×Int) (Sum (K5×KO) (Bool×Int)):=λa (b,c,d,e,f)=>bif f<e then(at? d f).bind λg=>(mN (b,c,g)).bind λg=>(len? g.length).bind λh=>bif DO h 0 then some (.inr (false,0))else a (b,g,d,e,i64.wrap (f+1))else some (.inl (b,c))
def A5b:=DX mO fuel
def TY(a:(Int×Bool)×Bool):DK×HX×Int->Option (Sum K5 (Bool×Int)):=λb=>(TX (b,a.1)).bind λa=>bif a then some (.inr (true,0))else some (.inl b)
def aO:DK×I5->Option (Bool×Int):=λ(a,b)=>(aG a).bind λa=>bif !DO a.2.2 0 then some (false,a.2.2)else(KQ b).bind λc=>bif !DO c 0 then some (false,c)else(TO b).bind λb=>bif !DP a.1.1 [42]&&!DP a.1.1 b.1 then some (false,0)else(mI a.1).bind λc=>(mM b).bind λb=>(A5b (a.1,c,b,b.length,0)).bind λa=>match a with|.inl a=>(OE (λb:List ((Int×Bool)×Bool)=>b.Perm a.2) λb=>(EY TY b a.1).bind λa=>match a with|.inl _=>some (false,0)|.inr a=>(a.1,a.2))|.inr a=>(a.1,a.2)
def mP:(Option IY)×JO×G9×GV->Option (Bool):=λ(a,b,c,d)=>(bif !DP b.1 c.1 then NX (c.2.1,b.1)else some false).bind λe=>(bif !(!DP b.1 c.1&&!e)&&!DP b.2.1 []then a else some ((([],[],[],[],[]),0,(0,[],[]),[],0,[],[]),[],[],[],[])).bind λa=>bif !DP b.1 c.1&&!e||!DP b.2.1 []&&!DP b.2.1 a.1.1.1 then some false else(aO (b.2.2.1,d.2.1)).bind λa=>a.1
def mQ:Rd ((Option IY)×G9×GV×Int×(List JO)×Int×Int) (Int):=λa (b,c,d,e,f,g,h)=>bif h<g then(at? f h).bind λi=>(mP (b,i,c,d)).bind λj=>bif !j then a (b,c,d,e,f,g,i64.wrap (h+1))else bif e<0 then a (b,c,d,h,f,g,i64.wrap (h+1))else(b).bind λj=>(at? j.1.2.2.2.2.2.2 e).bind λj=>bif DP i.1 j.1&&(DP i.2.1 j.2.1&&(DP i.2.2.1 j.2.2.1&&(DO i.2.2.2.1 j.2.2.2.1&&(DO i.2.2.2.2.1 j.2.2.2.2.1&&(DO i.2.2.2.2.2.1 j.2.2.2.2.2.1&&DO i.2.2.2.2.2.2 j.2.2.2.2.2.2)))))||j.2.2.2.2.2.2<i.2.2.2.2.2.2||DO i.2.2.2.2.2.2 j.2.2.2.2.2.2&&j.2.2.2.2.2.1<=i.2.2.2.2.2.1 then a (b,c,d,h,f,g,i64.wrap (h+1))else a (b,c,d,e,f,g,i64.wrap (h+1))else e
def A5c:=DX mQ fuel
def mR:(Option IY)×G9×GV->Option (Int):=λ(a,b,c)=>(a).bind λd=>(A5c (a,b,c,-1,d.1.2.2.2.2.2.2,d.1.2.2.2.2.2.2.length,0)).bind λa=>a
def WC:(Option IY)×FE×G9×GV×(List DK)×Int×(List DK)->Option (List DK):=λa=>(at? a.2.2.1.2.2.2.2.2.2 a.2.1.2.2).bind λa=>a.2.2.2.2
def mS:Rd (FE×fO×QC×Int×Int) (FE×fO):=λa (b,c,d,e,f)=>bif f<e then(at? d f).bind λg=>(bif DP g.2.1 b.2.1 then WC (c.1,c.2.1,c.2.2.1,c.2.2.2.1,c.2.2.2.2.1,c.2.2.2.2.2.1,c.2.2.2.2.2.2)else some []).bind λh=>(bif DP g.2.1 b.2.1&&!DO h.length 0 then WC (c.1,c.2.1,c.2.2.1,c.2.2.2.1,c.2.2.2.2.1,c.2.2.2.2.2.1,c.2.2.2.2.2.2)else some []).bind λi=>(bif DP g.2.1 b.2.1&&!DO h.length 0 then NX (i,g.1)else some false).bind λi=>bif DP g.2.1 b.2.1&&(DO h.length 0||i)then(app? 24 c.2.2.2.2.2.2 [g.1]).bind λg=>a (b,(c.1,c.2.1,c.2.2.1,c.2.2.2.1,c.2.2.2.2.1,c.2.2.2.2.2.1,g),d,e,i64.wrap (f+1))else a (b,(c.1,c.2.1,c.2.2.1,c.2.2.2.1,c.2.2.2.2.1,c.2.2.2.2.2.1,c.2.2.2.2.2.2),d,e,i64.wrap (f+1))else(b,c.1,c.2.1,c.2.2.1,c.2.2.2.1,c.2.2.2.2.1,c.2.2.2.2.2.1,c.2.2.2.2.2.2)
def yZ:=DX mS fuel
def mT:Rd (FE×fO×(List JE)×Int×Int) fO:=λa (b,c,d,e,f)=>bif f<e then(at? d f).bind λg=>(yZ (b,(c.1,c.2.1,c.2.2.1,c.2.2.2.1,c.2.2.2.2.1,c.2.2.2.2.2.1,c.2.2.2.2.2.2),g.2.2.1,g.2.2.1.length,0)).bind λb=>a (b.1,(b.2.1,b.2.2.1,b.2.2.2.1,b.2.2.2.2.1,b.2.2.2.2.2.1,b.2.2.2.2.2.2.1,b.2.2.2.2.2.2.2),d,e,i64.wrap (f+1))else(c.1,c.2.1,c.2.2.1,c.2.2.2.1,c.2.2.2.2.1,c.2.2.2.2.2.1,c.2.2.2.2.2.2)
def y_:=DX mT fuel
def S4:(Option IY)×FE->Option VL:=λ(a,b)=>(a).bind λc=>let d:=(DU DP b.1 c.2.1).getD ([],[],[],0,false,[],[]);(a).bind λc=>let e:=(DU DP b.2.1 c.2.2.1).getD ([],([],[],[],[],[],[]),[],[],[]);(a).bind λc=>(a).bind λf=>(mG (c.1.1,b.2.1,f.1.2.1)).bind λc=>(mR (a,d,e)).bind λf=>(a).bind λg=>(y_ (b,(a,b,d,e,c.1,f,[]),g.1.2.2.2.1,g.1.2.2.2.1.length,0)).bind λa=>(a.1,a.2.1,a.2.2.1,a.2.2.2.1,a.2.2.2.2.1,a.2.2.2.2.2.1,a.2.2.2.2.2.2)
def mU:(Option IY)×FE×G9×GV×(List DK)×Int×(List DK)->Option (Bool):=λa=>some (DO a.2.2.2.2.1.length 0)
def aP:VL×Int×Int->Option (Bool):=λ(a,b,c)=>bif a.2.2.2.2.2.1<0 then some false else(a.1).bind λd=>(at? d.1.2.2.2.2.2.2 a.2.2.2.2.2.1).bind λa=>some (DO a.2.2.2.1 b||DO a.2.2.2.1 c)
def aQ:(Option IY)×FE×G9×GV×(List DK)×Int×(List DK)->Option (Bool):=λa=>(aP (a,3,4)).bind λa=>a
def mV:Rd (VL×(List DK)×Int×Int) (Sum (Unit) DK):=λa (b,c,d,e)=>bif e<d then(at? c e).bind λf=>(b.1).bind λg=>bif (DU DP f g.2.2.2.1).getD false then some (.inr f)else a (b,c,d,i64.wrap (e+1))else some (.inl ())
def A5d:=DX mV fuel
def aR:(Option IY)×FE×G9×GV×(List DK)×Int×(List DK)->Option DK:=λa=>(A5d (a,a.2.2.2.2.2.2,a.2.2.2.2.2.2.length,0)).bind λa=>match a with|.inl _=>some []|.inr a=>a
def aS:(Option IY)×FE×G9×GV×(List DK)×Int×(List DK)->Option (Bool):=λa=>(aR a).bind λa=>some (!DP a [])
def aT:(Option IY)×FE×G9×GV×(List DK)×Int×(List DK)->Option (Bool):=λa=>(aP (a,2,2)).bind λa=>a
def WD:(Option IY)×FE×G9×GV×(List DK)×Int×(List DK)->Option (Bool):=λa=>(a.1).bind λb=>let c:=(DO b.1.2.2.2.1.length 1&&0<(a.2.2.2.2.2.2.length:Int));(bif c then WC a else some []).bind λb=>some (c&&b.length<=(a.2.2.2.2.2.2.length:Int))
def z6:Unit->Option (List (Int×(Option (VL->Option Bool)))):=λ_=>some [(1,some (λx=>(mU x).bind λr=>r)),(2,some (λx=>(aQ x).bind λr=>r)),(6,some (λx=>(aS x).bind λr=>r)),(5,some (λx=>(aT x).bind λr=>r)),(3,some (λx=>(WD x).bind λr=>r))]
def S5:Rd (VL×(List (Int×(Option (VL->Option Bool))))×Int×Int) GR:=λa (b,c,d,e)=>bif e<d then(at? c e).bind λf=>(f.2.bind (λF=>F b)).bind λg=>bif g then some (.inr f.1)else a (b,c,d,i64.wrap (e+1))else some (.inl ())
def z7:=DX S5 fuel
def aU:(Option IY)×FE×G9×GV×(List DK)×Int×(List DK)->Option (Int):=λa=>(z6 ()).bind λb=>(z7 (a,b,b.length,0)).bind λa=>match a with|.inl _=>some 4|.inr a=>a
def mW:(Option IY)×FE×G9×GV×(List DK)×Int×(List DK)->Option (Int):=λa=>bif DP a.2.2.1.2.2.2.2.2.1 []then some 100 else(TL a.2.2.1.2.2.2.2.2.1).bind λa=>a.1
def z8:JE×Int×(List DK)×DK->Option ((Option GZ)×Int×Int):=λ(a,b,c,d)=>(aB (a,b,c)).bind λa=>bif !DO a.2 0 then some ((none:Option GZ),0,a.2)else(a.1).bind λb=>bif !(DU DP d b.2.1).isSome then some ((none:Option GZ),0,4)else some (a.1,(DU DP d b.2.1).getD 0,0)
def aV:(Option GZ)×N1->Option (Option (List Bool)):=λ(a,b)=>(a).bind λa=>bif a.2.2.2.2.2 then(b).bind λa=>some (some a.2.2.1)else some (none:Option (List Bool))
def mX:Rd ((Option GZ)×(Option (List Bool))×IX×(List Int)×(List Int)×Int×Int) (List Int):=λa (b,c,d,e,f,g,h)=>bif h<g then(at? f h).bind λi=>(nilM? c).bind λj=>(bif !j then at? (c.getD []) i else some false).bind λk=>bif j||k then(TV (b,d,i)).bind λi=>(app? 24 e [i]).bind λi=>a (b,c,d,i,f,g,i64.wrap (h+1))else a (b,c,d,e,f,g,i64.wrap (h+1))else e
def zA:=DX mX fuel
def aW:(Option GZ)×IX×(Option (List Bool))->Option (List Int):=λ(a,b,c)=>bif DO b.1 1 then(a).bind λd=>some [(DU DP b.2.1 d.2.1).getD 0]else(a).bind λd=>(zA (a,c,b,[],(DU DP b.2.1 d.2.2.2.1).getD [],(((DU DP b.2.1 d.2.2.2.1).getD []).length:Int),0)).bind λa=>(slices_Sort_int a).bind λa=>(slices_Compact_int a).bind λa=>a
def mY:Rd (JG×Int×(List Int)×Int×Int) JG:=λa (b,c,d,e,f)=>bif f<e then(at? d f).bind λg=>(in? b.length g).bind λ_=>(app? 24 (b.getD g.toNat []) [c]).bind λh=>(in? b.length g).bind λ_=>(bif Nat.beq g.toNat g.toNat then some ()else none).bind λ_=>a (b.set g.toNat h,c,d,e,i64.wrap (f+1))else b
def zB:=DX mY fuel
def mZ:Rd ((Option GZ)×N1×JG×Int×(List IX)×Int×Int) JG:=λa (b,c,d,e,f,g,h)=>bif h<g then(at? f h).bind λi=>(b).bind λj=>bif (DU DP i.2.2.2 j.2.2.2.2.1).getD false then(aV (b,c)).bind λj=>(aW (b,i,j)).bind λi=>(zB (d,e,i,i.length,0)).bind λi=>a (b,c,i,e,f,g,i64.wrap (h+1))else a (b,c,d,e,f,g,i64.wrap (h+1))else d
def A5e:=DX mZ fuel
def m_:Rd ((Option GZ)×N1×JG×QC×Int×Int) JG:=λa (b,c,d,e,f,g)=>bif g<f then(at? e g).bind λh=>(c).bind λi=>(at? i.2.1 g).bind λi=>bif !i then a (b,c,d,e,f,i64.wrap (g+1))else(A5e (b,c,d,g,h.2.2.1,h.2.2.1.length,0)).bind λh=>a (b,c,h,e,f,i64.wrap (g+1))else d
def zC:=DX m_ fuel
def AIG:Rd ((List Int)×Int×Int) (List Int):=λa (b,c,d)=>bif d<c then(in? b.length d).bind λ_=>a (b.set d.toNat (-1),c,i64.wrap (d+1))else b
def zD:=DX AIG fuel
def nA:Rd ((List Int)×(List Int)×Int×(List Int)×Int×Int) ((List Int)×(List Int)):=λa (b,c,d,e,f,g)=>bif g<f then(at? e g).bind λh=>(in? b.length h).bind λ_=>bif b.getD h.toNat 0<0 then(in? b.length d).bind λ_=>(in? b.length h).bind λ_=>(app? 24 c [h]).bind λi=>a (b.set h.toNat (i64.wrap (b.getD d.toNat 0+1)),i,d,e,f,i64.wrap (g+1))else a (b,c,d,e,f,i64.wrap (g+1))else(b,c)
def zF:=DX nA fuel
def nB:Rd (JG×(List Int)×(List Int)) (List Int):=λa (b,c,d)=>bif 0<(d.length:Int)then(in? d.length 0).bind λ_=>(cut? d 1 d.length).bind λe=>(at? b (d.getD 0 0)).bind λf=>(zF (c,e,d.getD 0 0,f,f.length,0)).bind λd=>a (b,d.1,d.2)else c
def zG:=DX nB fuel
def nC:(Option GZ)×N1×Int->Option (List Int):=λ(a,b,c)=>(a).bind λd=>(mks? 24 d.1.2.2.1.length d.1.2.2.1.length []).bind λd=>(a).bind λe=>(zC (a,b,d,e.1.2.2.1,e.1.2.2.1.length,0)).bind λb=>(a).bind λa=>(mks? 24 a.1.2.2.1.length a.1.2.2.1.length 0).bind λa=>(zD (a,a.length,0)).bind λa=>(in? a.length c).bind λ_=>(zG (b,a.set c.toNat 0,[c])).bind λa=>a
def nD:Rd ((Option GZ)×(List Int)×Int×L2×IX×Int×IX×(List Int)×Int×Int) (Sum (L2×IX) (L2×IX×Int)):=λa (b,c,d,e,f,g,h,i,j,k)=>bif k<j then(at? i k).bind λl=>(at? c l).bind λm=>(at? c d).bind λn=>bif DO m (i64.wrap (n-1))then(b).bind λm=>(at? m.1.2.2.1 d).bind λm=>(b).bind λn=>(at? n.1.2.2.1 l).bind λn=>some (.inr (((m.1,g),n.1),h,l))else a (b,c,d,e,f,g,h,i,j,i64.wrap (k+1))else some (.inl (e,f))
def A5f:=DX nD fuel
def zH:Rd ((Option GZ)×N1×(List Int)×Int×L2×IX×(List IX)×Int×Int) (Sum (L2×IX) (L2×IX×Int)):=λa (b,c,d,e,f,g,h,i,j)=>bif j<i then(at? h j).bind λk=>(b).bind λl=>bif !(DU DP k.2.2.2 l.2.2.2.2.1).getD false then a (b,c,d,e,f,g,h,i,i64.wrap (j+1))else(aV (b,c)).bind λl=>(aW (b,k,l)).bind λl=>(A5f (b,d,e,f,g,j,k,l,l.length,0)).bind λk=>match k with|.inl k=>a (b,c,d,e,k.1,k.2,h,i,i64.wrap (j+1))|.inr a=>some (.inr (a.1,a.2.1,a.2.2))else some (.inl (f,g))
def A5g:=DX zH fuel
def nE:(Option GZ)×N1×(List Int)×Int->Option (L2×IX×Int):=λ(a,b,c,d)=>(a).bind λe=>(at? e.1.2.2.1 d).bind λe=>(A5g (a,b,c,d,(([],0),[]),(0,[],[],[]),e.2.2.1,e.2.2.1.length,0)).bind λa=>match a with|.inl _=>some ((([],0),[]),(0,[],[],[]),d)|.inr a=>(a.1,a.2.1,a.2.2)
def nF:Rd ((Option GZ)×N1×Int×IX×(List Int)×Int×Int) (Sum (Unit) DK):=λa (b,c,d,e,f,g,h)=>bif h<g then(at? f h).bind λi=>(c).bind λj=>(at? j.2.2.1 i).bind λj=>(bif j then TV (b,e,i)else some 0).bind λk=>bif j&&DO k d then(b).bind λj=>(at? j.1.2.1 i).bind λi=>some (.inr i.1)else a (b,c,d,e,f,g,i64.wrap (h+1))else some (.inl ())
def A5h:=DX nF fuel
def nG:(Option GZ)×N1×IX×Int->Option DK:=λ(a,b,c,d)=>(a).bind λe=>(A5h (a,b,d,c,(DU DP c.2.1 e.2.2.2.1).getD [],(((DU DP c.2.1 e.2.2.2.1).getD []).length:Int),0)).bind λa=>match a with|.inl _=>some []|.inr a=>a
def nH:Rd (N1×DK×QC×Int×Int) (Sum (Unit) DK):=λa (b,c,d,e,f)=>bif f<e then(at? d f).bind λg=>(b).bind λh=>(at? h.2.1 f).bind λh=>(bif h then NX (g.2.2.2,c)else some false).bind λi=>bif h&&i then some (.inr g.1)else a (b,c,d,e,i64.wrap (f+1))else some (.inl ())
def A5i:=DX nH fuel
def nI:(Option GZ)×N1×DK->Option DK:=λ(a,b,c)=>(a).bind λa=>(A5i (b,c,a.1.2.2.1,a.1.2.2.1.length,0)).bind λa=>match a with|.inl _=>some []|.inr a=>a
def S6:(DK×DK)×(DK×DK)->Option (Int):=λ(a,b)=>(KR (a.1,b.1)).bind λa=>a
def nJ:Rd ((Option GZ)×(List Int)×Int×(List DK)×Int×Int) (Int):=λa (b,c,d,e,f,g)=>bif g<f then(at? e g).bind λh=>(b).bind λi=>(at? c ((DU DP h i.2.1).getD 0)).bind λj=>(bif 0<=j&&!(d<0)then at? c ((DU DP h i.2.1).getD 0)else some 0).bind λk=>(bif 0<=j&&!(d<0)then at? c d else some 0).bind λl=>bif 0<=j&&(d<0||k<l)then a (b,c,(DU DP h i.2.1).getD 0,e,f,i64.wrap (g+1))else a (b,c,d,e,f,i64.wrap (g+1))else d
def A5j:=DX nJ fuel
def A5k:Rd ((Option GZ)×Int×N1×(List Int)×(DK×((List L2)×DT))×DT×Int) ((DK×((List L2)×DT))×DT):=λa (b,c,d,e,f,g,h)=>bif !DO h c then(nE (b,d,e,h)).bind λh=>(b).bind λi=>bif i.2.2.2.2.2&&DO h.2.1.1 2 then(nG (b,d,h.2.1,h.2.2)).bind λi=>(nI (b,d,i)).bind λj=>(app? 72 f.2.1 [h.1]).bind λk=>a (b,c,d,e,(f.1,k,f.2.2),EB DP i j g,h.2.2)else(app? 72 f.2.1 [h.1]).bind λi=>a (b,c,d,e,(f.1,i,f.2.2),g,h.2.2)else some ((f.1,f.2.1,f.2.2),g)
def A5l:=DX A5k fuel
def WE(a:DK×DK):DK×((List L2)×DT)->Option (Sum (DK×((List L2)×DT)) (Unit)):=λb=>(app? 48 b.2.2 [(a.1,a.2)]).bind λa=>some (.inl (b.1,b.2.1,a))
def aX:JE×Int×(List DK)×DK->Option ((DK×(List L2)×DT)×Bool×Int):=λ(a,b,c,d)=>(z8 (a,b,c,d)).bind λb=>bif !DO b.2.2 0 then some (([],[],[]),false,b.2.2)else(aC (b.1,-1)).bind λc=>(c).bind λd=>(at? d.2.1 b.2.1).bind λd=>bif !d then some (([],[],[]),false,0)else(nC (b.1,c,b.2.1)).bind λd=>(A5j (b.1,d,-1,a.2.2.2,a.2.2.2.length,0)).bind λe=>(at? a.2.2.1 e).bind λa=>(A5l (b.1,b.2.1,c,d,(a.1,[],[]),[],e)).bind λa=>OE (λb:List (DK×DK)=>b.Perm a.2) λb=>(EY WE b (a.1.1,a.1.2.1,a.1.2.2)).bind λa=>match a with|.inl a=>(fL (a.2.2,λx=>(S6 x).bind λr=>r)).bind λb=>some ((a.1,a.2.1,b),true,0)|.inr _=>some (([],[],[]),false,0)
def S7:(Option IY)×FE×G9×GV×(List DK)×Int×(List DK)->Option N2:=λa=>(aU a).bind λb=>(mW a).bind λc=>let d:=(a.2.1.1,a.2.1.2.1,a.2.1.2.2,b,c,a.2.2.2.2.1,[],[],a.2.2.2.2.2.1);bif DO d.2.2.2.1 6 then(aR a).bind λb=>(a.1).bind λc=>(at? c.1.2.2.2.1 0).bind λc=>(a.1).bind λe=>(a.1).bind λa=>(aX (c,e.1.2.2.2.2.1,a.1.2.2.2.2.2.1,b)).bind λa=>some (d.1,d.2.1,d.2.2.1,d.2.2.2.1,d.2.2.2.2.1,d.2.2.2.2.2.1,b,[a.1],d.2.2.2.2.2.2.2.2)else some d
def nK:Rd ((Option IY)×(List N2)×(List FE)×Int×Int) (List N2):=λa (b,c,d,e,f)=>bif f<e then(at? d f).bind λg=>(S4 (b,g)).bind λg=>(S7 g).bind λg=>(app? 216 c [g]).bind λg=>a (b,g,d,e,i64.wrap (f+1))else c
def A5m:=DX nK fuel
def OT:H7×Int×NT×(List JE)×Int×(List DK)×(List JO)->Option ((Option IY)×(List N2)×Int):=λa=>(S2 a).bind λb=>bif !DO b 0 then some ((none:Option IY),[],b)else(aL (a.2.2.1,a.1)).bind λb=>bif !DO b.2 0 then some ((none:Option IY),[],b.2)else(l_ a).bind λa=>(A5m (a,[],b.1,b.1.length,0)).bind λb=>some (a,b,0)
def N9:H7×Int×NT×(List JE)×Int×(List DK)×(List JO)->Option ((List N2)×Int):=λa=>(OT a).bind λa=>(a.2.1,a.2.2)
def AIH:Unit->Option (List JO):=λ_=>some []
def zI:List JO->Option (List JO):=λa=>(app? 168 [] a).bind λa=>a
def aY:List JO->Option (List JO):=zI
def zJ:DK×DK×Int×Int×Int×(List DK)×DK×(List (DK×(List L2)×DT))×Int->Option (Int):=λa=>bif a.2.2.2.1<1||6<a.2.2.2.1 then some 7 else bif a.2.2.2.2.1<0||100<a.2.2.2.2.1 then some 9 else some 0
def nL:Rd ((List N2)×Int×Int) GR:=λa (b,c,d)=>bif d<c then(at? b d).bind λe=>(zJ e).bind λe=>bif !DO e 0 then some (.inr e)else a (b,c,i64.wrap (d+1))else some (.inl ())
def A5n:=DX nL fuel
def nM:List N2->Option (Int):=λa=>bif 100000<(a.length:Int)then some 3 else(A5n (a,a.length,0)).bind λa=>match a with|.inl _=>some 0|.inr a=>a
def nN:DK×DK×Int×Int×Int×(List DK)×DK×(List (DK×(List L2)×DT))×Int->Option FE:=λa=>some (a.1,a.2.1,a.2.2.1)
def nO:Rd ((List (FE×Int))×(List N2)×Int×Int) (Sum (List (FE×Int)) ((List (FE×Int))×Bool)):=λa (b,c,d,e)=>bif e<d then(at? c e).bind λf=>(nN f).bind λg=>bif !DO ((DU (λ(x y:DK×DK×Int)=>DP x.1 y.1&&(λ(x y:DK×Int)=>DP x.1 y.1&&DO x.2 y.2) x.2 y.2) g b).getD 0) 0 then some (.inr ([],false))else(nN f).bind λg=>a (EB (λ(x y:DK×DK×Int)=>DP x.1 y.1&&(λ(x y:DK×Int)=>DP x.1 y.1&&DO x.2 y.2) x.2 y.2) g f.2.2.2.1 b,c,d,i64.wrap (e+1))else some (.inl b)
def A5o:=DX nO fuel
def aZ:List N2->Option ((List (FE×Int))×Bool):=λa=>(A5o ([],a,a.length,0)).bind λa=>match a with|.inl a=>some (a,true)|.inr a=>(a.1,a.2)
def zK:FE×FE->Option (Int):=λ(a,b)=>(KR (a.1,b.1)).bind λc=>(KR (a.2.1,b.2.1)).bind λd=>(OR (a.2.2,b.2.2)).bind λa=>(QD [c,d,a]).bind λa=>a
def nP:Rd ((List (List N2))×Int×Int) (Sum (Unit) (OQ×Int)):=λa (b,c,d)=>bif d<c then(at? b d).bind λe=>(nM e).bind λe=>bif !DO e 0 then some (.inr ([],e))else a (b,c,i64.wrap (d+1))else some (.inl ())
def A5p:=DX nP fuel
def TZ(a:FE×Int):List FE->Option (Sum (List FE) (Unit)):=λb=>(app? 72 b [a.1]).bind λa=>some (.inl a)
def OU(a:FE×Int):(List (FE×Int))×(List FE)->Option (Sum ((List (FE×Int))×(List FE)) (Unit)):=λ(b,c)=>bif DO ((DU (λ(x y:DK×DK×Int)=>DP x.1 y.1&&(λ(x y:DK×Int)=>DP x.1 y.1&&DO x.2 y.2) x.2 y.2) a.1 b).getD 0) 0 then(app? 72 c [a.1]).bind λa=>some (.inl (b,a))else some (.inl (b,c))
def nQ:Rd ((List (FE×Int))×(List (FE×Int))×OQ×(List FE)×Int×Int) OQ:=λa (b,c,d,e,f,g)=>bif g<f then(in? e.length g).bind λ_=>let h:=e.getD g.toNat ([],[],0);bif !DO ((DU (λ(x y:DK×DK×Int)=>DP x.1 y.1&&(λ(x y:DK×Int)=>DP x.1 y.1&&DO x.2 y.2) x.2 y.2) h b).getD 0) ((DU (λ(x y:DK×DK×Int)=>DP x.1 y.1&&(λ(x y:DK×Int)=>DP x.1 y.1&&DO x.2 y.2) x.2 y.2) h c).getD 0)then(app? 120 d [(h.1,h.2.1,h.2.2,(DU (λ(x y:DK×DK×Int)=>DP x.1 y.1&&(λ(x y:DK×Int)=>DP x.1 y.1&&DO x.2 y.2) x.2 y.2) h b).getD 0,(DU (λ(x y:DK×DK×Int)=>DP x.1 y.1&&(λ(x y:DK×Int)=>DP x.1 y.1&&DO x.2 y.2) x.2 y.2) h c).getD 0)]).bind λh=>a (b,c,h,e,f,i64.wrap (g+1))else a (b,c,d,e,f,i64.wrap (g+1))else d
def zL:=DX nQ fuel
def a_:(List N2)×(List N2)->Option (OQ×Int):=λ(a,b)=>let c:=[a,b];(A5p (c,c.length,0)).bind λc=>match c with|.inl _=>((aZ a).bind λa=>(aZ b).bind λb=>bif !a.2||!b.2 then some ([],5)else OE (λc:List (FE×Int)=>c.Perm a.1) λc=>(EY TZ c []).bind λc=>match c with|.inl c=>(OE (λd:List (FE×Int)=>d.Perm b.1) λd=>(EY OU d (a.1,c)).bind λa=>match a with|.inl a=>(fM (a.2,λx=>(zK x).bind λr=>r)).bind λc=>(zL (a.1,b.1,[],c,c.length,0)).bind λa=>some (a,0)|.inr _=>none)|.inr _=>none)|.inr a=>(a.1,a.2)
def OV:TG×JO->Option (OQ×Int):=λ(a,b)=>(S2 a).bind λc=>bif !DO c 0 then some ([],c)else(N_ b).bind λc=>bif !DO c 0 then some ([],c)else bif 2000<=(a.2.2.2.2.2.2.length:Int)then some ([],3)else(N9 a).bind λc=>bif !DO c.2 0 then some ([],c.2)else(aY a.2.2.2.2.2.2).bind λd=>(app? 168 d [b]).bind λb=>(N9 (a.1,a.2.1,a.2.2.1,a.2.2.2.1,a.2.2.2.2.1,a.2.2.2.2.2.1,b)).bind λa=>bif !DO a.2 0 then some ([],a.2)else(a_ (c.1,a.1)).bind λa=>(a.1,a.2)
def A5q:Unit->Option TG:=λ_=>some (([97,112,112],[],[114],[([99],([112,108,97,105,110],[],[99],[49],[],[]),[],[],[]),([114],([112,108,97,105,110],[],[97,112,112],[],[],[]),[],[],[])],[([114],[99],1)]),1,(0,[([65],[],[120],0,false,[78,72,76,76,78,78],[([112,107,103,58,112,108,97,105,110,47,99],5,[(1,[])],[],[])])],[0]),[],0,[],[])
def nR:Unit->Option (Bool):=λ_=>(A5q ()).bind λa=>(N9 a).bind λa=>let b:=(DO a.2 0&&DO a.1.length 1);(bif b then in? a.1.length 0 else some ()).bind λ_=>let c:=(((((a.1.getD 0 ([],[],0,0,0,[],[],[],0)).2).2).2).2).1;(bif b&&DO c 34 then in? a.1.length 0 else some ()).bind λ_=>some (b&&DO c 34&&DO (((((a.1.getD 0 ([],[],0,0,0,[],[],[],0)).2).2).2).1) 4)
def bA:G9×(Option (DK×DK×Int×Int×Int))->Option (Bool):=λ(a,b)=>(b).bind λb=>some (DP a.1 b.1)
def nS:Rd ((List G9)×(G9->Option Bool)×Int×Int) GR:=λa (b,c,d,e)=>bif e<d then(at? b e).bind λf=>(c f).bind λf=>bif f then some (.inr e)else a (b,c,d,i64.wrap (e+1))else some (.inl ())
def A5r:=DX nS fuel
def nT:(List G9)×(G9->Option Bool)->Option (Int):=λ(a,b)=>(A5r (a,b,a.length,0)).bind λa=>match a with|.inl _=>some (-1)|.inr a=>a
def nU:Rd (OQ×OQ×Int×Int) KP:=λa (s1_0,s2_1,b,c)=>bif c<b then(at? s1_0 c).bind λd=>(at? s2_1 c).bind λe=>bif !(DP d.1 e.1&&(DP d.2.1 e.2.1&&(DO d.2.2.1 e.2.2.1&&(DO d.2.2.2.1 e.2.2.2.1&&DO d.2.2.2.2 e.2.2.2.2))))then some (.inr false)else a (s1_0,s2_1,b,i64.wrap (c+1))else some (.inl ())
def A5s:=DX nU fuel
def nV:OQ×OQ->Option (Bool):=λ(s1_0,s2_1)=>bif !DO s1_0.length s2_1.length then some false else(A5s (s1_0,s2_1,s1_0.length,0)).bind λa=>match a with|.inl _=>some true|.inr a=>a
def nW:Rd ((H7×(Int×(NT×((List JE)×(Int×((List DK)×(List JO)))))))×JO×OQ×Int×Int) KP:=λa (b,c,d,e,f)=>bif f<e then(at? d f).bind λg=>(nT (b.2.2.1.2.1,λx=>(bA (x,some g)).bind λr=>r)).bind λh=>(bif !(h<0)&&!DP c.1 g.1 then at? b.2.2.1.2.1 h else some ([],[],[],0,false,[],[])).bind λi=>(bif !(h<0)&&!DP c.1 g.1 then NX (i.2.1,c.1)else some false).bind λi=>bif h<0||!DP c.1 g.1&&!i then some (.inr false)else a ((b.1,b.2.1,b.2.2.1,b.2.2.2.1,b.2.2.2.2.1,b.2.2.2.2.2.1,b.2.2.2.2.2.2),c,d,e,i64.wrap (f+1))else some (.inl ())
def A5t:=DX nW fuel
def nX:TG×JO->Option (Bool):=λ(a,b)=>(OV (a,b)).bind λc=>bif !DO c.2 0 then(nR ()).bind λd=>d else(N9 a).bind λd=>(aY a.2.2.2.2.2.2).bind λe=>(app? 168 e [b]).bind λe=>(N9 (a.1,a.2.1,a.2.2.1,a.2.2.2.1,a.2.2.2.2.1,a.2.2.2.2.2.1,e)).bind λf=>(a_ (d.1,f.1)).bind λg=>(A5t ((a.1,a.2.1,a.2.2.1,a.2.2.2.1,a.2.2.2.2.1,a.2.2.2.2.2.1,e),b,c.1,c.1.length,0)).bind λa=>match a with|.inl _=>let a:=(DO d.2 0&&DO f.2 0&&DO g.2 0);(bif a then nV (c.1,g.1)else some false).bind λb=>(bif a&&b then nR ()else some false).bind λc=>some (a&&b&&c)|.inr a=>a
def A5u:Int×DK×DK->Option (H8×H8×Int):=λ(a,b,c)=>(K8 (a,b)).bind λb=>bif !DO b.2 0 then some (.inr (.inr (.inr (.inr (.inr ())))),.inr (.inr (.inr (.inr (.inr ())))),b.2)else(K8 (a,c)).bind λa=>(b.1,a.1,a.2)
def AII:Int×DK×DK->Option (Int×Int):=λ(a,b,c)=>(A5u (a,b,c)).bind λa=>bif !DO a.2.2 0 then some (0,a.2.2)else((λz=>Sum.casesOn (motive:=λ_=>Option DK) z (λx=>(NU x).bind λr=>r) (λz=>z.casesOn (λx=>(NV x).bind λr=>r) (λz=>z.casesOn (λx=>(NW x).bind λr=>r) (λz=>z.casesOn (λx=>(NY x).bind λr=>r) (λz=>z.casesOn (λx=>(NZ x).bind λr=>r) (λ_=>none)))))) a.1).bind λb=>((λz=>Sum.casesOn (motive:=λ_=>Option DK) z (λx=>(NU x).bind λr=>r) (λz=>z.casesOn (λx=>(NV x).bind λr=>r) (λz=>z.casesOn (λx=>(NW x).bind λr=>r) (λz=>z.casesOn (λx=>(NY x).bind λr=>r) (λz=>z.casesOn (λx=>(NZ x).bind λr=>r) (λ_=>none)))))) a.2.1).bind λa=>(KR (b,a)).bind λa=>some (a,0)
def nY:DK->Option (Int×Bool):=λa=>(VT a).bind λb=>bif !DO b.2.2 0 then some (0,false)else(MD b.1).bind λc=>bif !DO c.2 0||!DP c.1 a then some (0,false)else(VN b.1.1).bind λa=>some (a.1.2.2.2.2,DO a.2 0)
def zM:DK×DK->Option (Int×Int):=λ(a,b)=>(nY a).bind λa=>bif !a.2 then some (0,8)else(aH (a.1,b)).bind λb=>(a.1,b)
def A5v:Int×F6->Option (Int):=λa=>(aI a).bind λa=>a.2
def AIJ:Rd (RX×RX×Int×Int) GR:=λa (b,c,d,e)=>bif e<d then(at? c e).bind λf=>(nY f.1).bind λg=>bif !g.2 then some (.inr 8)else(A5v f.2.1).bind λh=>bif !DO h 0 then some (.inr h)else bif !DO f.2.1.1 g.1 then some (.inr 7)else bif f.2.2<1||4<f.2.2 then some (.inr 9)else(bif 0<e then at? b (i64.wrap (e-1))else some ([],(0,[]),0)).bind λg=>bif 0<e&&(Op.bytesLess f.1 g.1||DP f.1 g.1)then some (.inr 10)else a (b,c,d,i64.wrap (e+1))else some (.inl ())
def AIK:=DX AIJ fuel
def A5w:List (DK×(Int×F6)×Int)->Option (Int):=λa=>bif 12<(a.length:Int)then some 3 else(AIK (a,a,a.length,0)).bind λa=>match a with|.inl _=>some 0|.inr a=>a
def AIL:(DK×(Int×F6)×Int)×(Option RY)->Option (Bool):=λ(a,b)=>(b).bind λb=>some (DP a.1 b.1)
def AIM:Rd (RX×((DK×(Int×F6)×Int)->Option Bool)×Int×Int) GR:=λa (b,c,d,e)=>bif e<d then(at? b e).bind λf=>(c f).bind λf=>bif f then some (.inr e)else a (b,c,d,i64.wrap (e+1))else some (.inl ())
def AIN:=DX AIM fuel
def AIO:RX×((DK×(Int×F6)×Int)->Option Bool)->Option (Int):=λ(a,b)=>(AIN (a,b,a.length,0)).bind λa=>match a with|.inl _=>some (-1)|.inr a=>a
def AIP:RX×((DK×(Int×F6)×Int)->Option Bool)->Option (Bool):=λ(a,b)=>(AIO (a,b)).bind λa=>some (0<=a)
def AIQ:RY×(List RY)->Option (Int):=λ(a,b)=>(zM (a.1,a.2.1)).bind λc=>bif !DO c.2 0 then c.2 else(A5w a.2.2.1).bind λd=>bif !DO d 0 then d else(AIP (a.2.2.1,λx=>(AIL (x,some a)).bind λr=>r)).bind λd=>bif d then some 2 else bif DO b.length 0 then some 0 else(at? b (i64.wrap (b.length-1))).bind λb=>bif Op.bytesLess a.1 b.1 then some 10 else bif DP a.1 b.1 then(AII (c.1,b.2.1,a.2.1)).bind λa=>bif 0<=a.1 then some 10 else some 0 else some 0
def AIR:Rd ((List RY)×Int×Int×(List RY)×Int×Int) GR:=λa (b,c,d,e,f,g)=>bif g<f then(at? e g).bind λh=>(cut? b 0 g).bind λi=>(AIQ (h,i)).bind λi=>bif !DO i 0 then some (.inr i)else(bif !DO g 0 then at? b (i64.wrap (g-1))else some ([],[],[],false)).bind λi=>bif DO g 0||!DP i.1 h.1 then bif (8:Int)<1||12<i64.wrap (c+1)then some (.inr 3)else a (b,i64.wrap (c+1),1,e,f,i64.wrap (g+1))else bif 8<i64.wrap (d+1)||12<c then some (.inr 3)else a (b,c,i64.wrap (d+1),e,f,i64.wrap (g+1))else some (.inl ())
def AIS:=DX AIR fuel
def AIT:List RY->Option (Int):=λa=>(AIS (a,0,0,a,a.length,0)).bind λa=>match a with|.inl _=>some 0|.inr a=>a
def AIU:Rd (DT×DT×Int×Int) GR:=λa (b,c,d,e)=>bif e<d then(at? c e).bind λf=>(zM (f.1,f.2)).bind λg=>bif !DO g.2 0 then some (.inr g.2)else(bif 0<e then at? b (i64.wrap (e-1))else some ([],[])).bind λg=>bif 0<e&&(Op.bytesLess f.1 g.1||DP f.1 g.1)then some (.inr 10)else a (b,c,d,i64.wrap (e+1))else some (.inl ())
def AIV:=DX AIU fuel
def AIW:List (DK×DK)->Option (Int):=λa=>bif 12<(a.length:Int)then some 3 else(AIV (a,a,a.length,0)).bind λa=>match a with|.inl _=>some 0|.inr a=>a
def AIX:(DK×DK)×(Option DK)->Option (Bool):=λ(a,b)=>(b).bind λb=>some (DP a.1 b)
def AIY:Rd (DT×((DK×DK)->Option Bool)×Int×Int) GR:=λa (b,c,d,e)=>bif e<d then(at? b e).bind λf=>(c f).bind λf=>bif f then some (.inr e)else a (b,c,d,i64.wrap (e+1))else some (.inl ())
def AIZ:=DX AIY fuel
def AI_:DT×((DK×DK)->Option Bool)->Option (Int):=λ(a,b)=>(AIZ (a,b,a.length,0)).bind λa=>match a with|.inl _=>some (-1)|.inr a=>a
def A5x:DT×DK->Option (DK×Bool):=λ(a,b)=>(AI_ (a,λx=>(AIX (x,some b)).bind λr=>r)).bind λb=>bif b<0 then some ([],false)else(at? a b).bind λa=>some (a.2,true)
def AIa:Rd (fN×(List DK)×Int×Int) (Sum fN (Int)):=λa (b,c,d,e)=>bif e<d then(at? c e).bind λf=>(A5x (b.2.2.2.1,f)).bind λg=>bif !g.2 then some (.inr 4)else(bif 0<e then at? b.2.2.2.2.1 (i64.wrap (e-1))else some []).bind λg=>bif 0<e&&(Op.bytesLess f g||DP f g)then some (.inr 10)else a (b,c,d,i64.wrap (e+1))else some (.inl b)
def AIb:=DX AIa fuel
def zN:(List RY)×RX×Int×DT×(List DK)×Bool×NT->Option (Int):=λa=>(AIT a.1).bind λb=>bif !DO b 0 then b else(A5w a.2.1).bind λb=>bif !DO b 0 then b else bif a.2.2.1<1||4<a.2.2.1 then some 9 else(AIW a.2.2.2.1).bind λb=>bif !DO b 0 then b else(AIb (a,a.2.2.2.2.1,a.2.2.2.2.1.length,0)).bind λa=>match a with|.inl a=>(V_ a.2.2.2.2.2.2).bind λa=>a|.inr a=>a
def AIc:(List Int)×(List DK)->Option (Bool):=λa=>some (0<(a.2.length:Int))
def AId:Int×DK×DK×Bool->Option (Bool):=λa=>(strings_IndexByte (a.2.1,126)).bind λb=>(bif !(0<=b)then strings_IndexByte (a.2.2.1,126)else some 0).bind λa=>some (0<=b||0<=a)
def AIe:Int×(List Int)×Int×Int×Int×Int×(List DK)->Option (Bool):=λa=>some (0<a.2.2.1||0<=a.2.2.2.2.2.1)
def AIf:Rd (G_×(LO->Option Bool)×Int×Int) GR:=λa (b,c,d,e)=>bif e<d then(at? b e).bind λf=>(c f).bind λf=>bif f then some (.inr e)else a (b,c,d,i64.wrap (e+1))else some (.inl ())
def AIg:=DX AIf fuel
def AIh:G_×(LO->Option Bool)->Option (Int):=λ(a,b)=>(AIg (a,b,a.length,0)).bind λa=>match a with|.inl _=>some (-1)|.inr a=>a
def AIi:G_×(LO->Option Bool)->Option (Bool):=λ(a,b)=>(AIh (a,b)).bind λa=>some (0<=a)
def AIj:Bool×DK×Int->Option (Bool):=λa=>(VV a).bind λa=>a
def AIk:List LO->Option (Bool):=λa=>(AIi (a,λx=>(AIj x).bind λr=>r)).bind λa=>a
def AIl:Int->Option (Bool):=λ_=>some false
def AIm:Int×DK->Option (Bool×Int):=λ(a,b)=>(K8 (a,b)).bind λa=>bif !DO a.2 0 then some (false,a.2)else((λz=>Sum.casesOn (motive:=λ_=>Option Bool) z (λx=>(AIc x).bind λr=>r) (λz=>z.casesOn (λx=>(AId x).bind λr=>r) (λz=>z.casesOn (λx=>(AIe x).bind λr=>r) (λz=>z.casesOn (λx=>(AIk x).bind λr=>r) (λz=>z.casesOn (λx=>(AIl x).bind λr=>r) (λ_=>none)))))) a.1).bind λa=>some (a,0)
def AIn:DK×DK×DK×DK×DT×DK->Option (I5×Int):=λa=>(KQ a).bind λb=>bif !DO b 0 then some (([],[],[],[],[],[]),b)else(TO a).bind λa=>some (a,0)
def AIo:I5×DK->Option (I5×Int):=λ(a,b)=>(KQ a).bind λc=>bif !DO c 0 then some (([],[],[],[],[],[]),c)else(AIn (a.1,a.2.1,a.2.2.1,b,a.2.2.2.2)).bind λa=>(a.1,a.2)
def AIp:Rd (G9×I5×K6×DK×(List Int)×(List GQ)×Int×Int) (List Int):=λa (b,c,d,e,f,g,h,i)=>bif i<h then(at? g i).bind λj=>(bif !b.2.2.2.2.1 then at? d i else some (0,[])).bind λk=>(bif !b.2.2.2.2.1 then TW (j,k,e,c.2.2.2.1)else some false).bind λj=>bif !b.2.2.2.2.1&&j then(app? 24 f [i]).bind λj=>a (b,c,d,e,j,g,h,i64.wrap (i+1))else a (b,c,d,e,f,g,h,i64.wrap (i+1))else f
def AIq:=DX AIp fuel
def AIr:G9×I5->Option ((List Int)×Int):=λ(a,b)=>(N8 a).bind λc=>bif !DO c.2 0 then some ([],c.2)else(MD b).bind λd=>bif !DO d.2 0 then some ([],d.2)else(AIq (a,b,c.1,d.1,[],a.2.2.2.2.2.2,a.2.2.2.2.2.2.length,0)).bind λa=>some (a,0)
def AIs:Rd (I5×Int×(List G9)×Int×Int) (Int):=λa (b,c,d,e,f)=>bif f<e then(at? d f).bind λg=>(AIr (g,b)).bind λh=>bif DO h.1.length 0 then a (b,c,d,e,i64.wrap (f+1))else bif !DP g.2.2.2.2.2.1 []then(TL g.2.2.2.2.2.1).bind λg=>a (b,i64.wrap (c+g.1),d,e,i64.wrap (f+1))else a (b,i64.wrap (c+100),d,e,i64.wrap (f+1))else c
def AIt:=DX AIs fuel
def AIu:fN×(DK×DK)->Option (Int):=λ(a,b)=>(VT b.1).bind λc=>(AIo (c.1,b.2)).bind λb=>bif !DO b.2 0 then some 0 else(AIt (b.1,0,a.2.2.2.2.2.2.2.1,a.2.2.2.2.2.2.2.1.length,0)).bind λa=>a
def nZ:Bool×Bool->Option (Int):=λ(a,b)=>bif a then some 3 else bif b then some 2 else some 1
def o5:(List Int)×Int->Option (Int):=λ(a,b)=>bif b<a.length then(at? a b).bind λa=>a else some 0
def o6:G_×Int->Option LO:=λ(a,b)=>(bif b<a.length then at? a b else some (false,[],0)).bind λc=>(bif b<a.length then TQ c else some false).bind λc=>bif b<a.length&&!c then(at? a b).bind λa=>a else some (false,[],0)
def AIv:Int×DK×DK->Option (Int×Int):=λ(a,b,c)=>(A5u (a,b,c)).bind λa=>bif !DO a.2.2 0 then some (0,a.2.2)else((λz=>Sum.casesOn (motive:=λ_=>Option DK) z (λx=>(NU x).bind λr=>r) (λz=>z.casesOn (λx=>(NV x).bind λr=>r) (λz=>z.casesOn (λx=>(NW x).bind λr=>r) (λz=>z.casesOn (λx=>(NY x).bind λr=>r) (λz=>z.casesOn (λx=>(NZ x).bind λr=>r) (λ_=>none)))))) a.1).bind λb=>((λz=>Sum.casesOn (motive:=λ_=>Option DK) z (λx=>(NU x).bind λr=>r) (λz=>z.casesOn (λx=>(NV x).bind λr=>r) (λz=>z.casesOn (λx=>(NW x).bind λr=>r) (λz=>z.casesOn (λx=>(NY x).bind λr=>r) (λz=>z.casesOn (λx=>(NZ x).bind λr=>r) (λ_=>none)))))) a.2.1).bind λc=>bif DP b c then some (0,0)else bif ((Sum.casesOn a.1 (λb=>b) (λc=>Sum.casesOn c (λd=>none) (λe=>Sum.casesOn e (λf=>none) (λg=>Sum.casesOn g (λh=>none) (λi=>Sum.casesOn i (λj=>none) (λk=>none)))))):Option KN).isSome then(nZ (!DO (((((Sum.casesOn a.1 (λb=>b) (λc=>Sum.casesOn c (λd=>none) (λe=>Sum.casesOn e (λf=>none) (λg=>Sum.casesOn g (λh=>none) (λi=>Sum.casesOn i (λj=>none) (λk=>none)))))):Option KN).getD (List.replicate 3 0,[])).1).getD 0 0) (((((Sum.casesOn a.2.1 (λl=>l) (λm=>Sum.casesOn m (λn=>none) (λo=>Sum.casesOn o (λp=>none) (λq=>Sum.casesOn q (λs=>none) (λt=>Sum.casesOn t (λu=>none) (λv=>none)))))):Option KN).getD (List.replicate 3 0,[])).1).getD 0 0),!DO (((((Sum.casesOn a.1 (λb=>b) (λc=>Sum.casesOn c (λd=>none) (λe=>Sum.casesOn e (λf=>none) (λg=>Sum.casesOn g (λh=>none) (λi=>Sum.casesOn i (λj=>none) (λk=>none)))))):Option KN).getD (List.replicate 3 0,[])).1).getD 1 0) (((((Sum.casesOn a.2.1 (λl=>l) (λm=>Sum.casesOn m (λn=>none) (λo=>Sum.casesOn o (λp=>none) (λq=>Sum.casesOn q (λs=>none) (λt=>Sum.casesOn t (λu=>none) (λv=>none)))))):Option KN).getD (List.replicate 3 0,[])).1).getD 1 0))).bind λb=>some (b,0)else bif ((Sum.casesOn a.1 (λb=>none) (λc=>Sum.casesOn c (λd=>d) (λe=>Sum.casesOn e (λf=>none) (λg=>Sum.casesOn g (λh=>none) (λi=>Sum.casesOn i (λj=>none) (λk=>none)))))):Option K4).isSome then(QE (((((Sum.casesOn a.1 (λb=>none) (λc=>Sum.casesOn c (λd=>d) (λe=>Sum.casesOn e (λf=>none) (λg=>Sum.casesOn g (λh=>none) (λi=>Sum.casesOn i (λj=>none) (λk=>none)))))):Option K4).getD (0,[],[],false)).2).1)).bind λl=>(QE (((((Sum.casesOn a.2.1 (λm=>none) (λn=>Sum.casesOn n (λo=>o) (λp=>Sum.casesOn p (λq=>none) (λs=>Sum.casesOn s (λt=>none) (λu=>Sum.casesOn u (λv=>none) (λw=>none)))))):Option K4).getD (0,[],[],false)).2).1)).bind λy=>(nZ (!DO ((((Sum.casesOn a.1 (λb=>none) (λc=>Sum.casesOn c (λd=>d) (λe=>Sum.casesOn e (λf=>none) (λg=>Sum.casesOn g (λh=>none) (λi=>Sum.casesOn i (λj=>none) (λk=>none)))))):Option K4).getD (0,[],[],false)).1) ((((Sum.casesOn a.2.1 (λm=>none) (λn=>Sum.casesOn n (λo=>o) (λp=>Sum.casesOn p (λq=>none) (λs=>Sum.casesOn s (λt=>none) (λu=>Sum.casesOn u (λv=>none) (λw=>none)))))):Option K4).getD (0,[],[],false)).1),!DP l y)).bind λb=>some (b,0)else bif ((Sum.casesOn a.1 (λb=>none) (λc=>Sum.casesOn c (λd=>none) (λe=>Sum.casesOn e (λf=>f) (λg=>Sum.casesOn g (λh=>none) (λi=>Sum.casesOn i (λj=>none) (λk=>none)))))):Option FP).isSome then let l:=(((Sum.casesOn a.1 (λb=>none) (λc=>Sum.casesOn c (λd=>none) (λe=>Sum.casesOn e (λf=>f) (λg=>Sum.casesOn g (λh=>none) (λi=>Sum.casesOn i (λj=>none) (λk=>none)))))):Option FP).getD (0,[],0,0,0,0,[])).1;let m:=(((Sum.casesOn a.2.1 (λn=>none) (λo=>Sum.casesOn o (λp=>none) (λq=>Sum.casesOn q (λs=>s) (λt=>Sum.casesOn t (λu=>none) (λv=>Sum.casesOn v (λw=>none) (λy=>none)))))):Option FP).getD (0,[],0,0,0,0,[])).1;(bif !(!DO l m)then o5 (((((Sum.casesOn a.1 (λb=>none) (λc=>Sum.casesOn c (λd=>none) (λe=>Sum.casesOn e (λf=>f) (λg=>Sum.casesOn g (λh=>none) (λi=>Sum.casesOn i (λj=>none) (λk=>none)))))):Option FP).getD (0,[],0,0,0,0,[])).2).1,0)else some 0).bind λaa=>(bif !(!DO l m)then o5 (((((Sum.casesOn a.2.1 (λn=>none) (λo=>Sum.casesOn o (λp=>none) (λq=>Sum.casesOn q (λs=>s) (λt=>Sum.casesOn t (λu=>none) (λv=>Sum.casesOn v (λw=>none) (λy=>none)))))):Option FP).getD (0,[],0,0,0,0,[])).2).1,0)else some 0).bind λab=>(o5 (((((Sum.casesOn a.1 (λb=>none) (λc=>Sum.casesOn c (λd=>none) (λe=>Sum.casesOn e (λf=>f) (λg=>Sum.casesOn g (λh=>none) (λi=>Sum.casesOn i (λj=>none) (λk=>none)))))):Option FP).getD (0,[],0,0,0,0,[])).2).1,1)).bind λb=>(o5 (((((Sum.casesOn a.2.1 (λn=>none) (λo=>Sum.casesOn o (λp=>none) (λq=>Sum.casesOn q (λs=>s) (λt=>Sum.casesOn t (λu=>none) (λv=>Sum.casesOn v (λw=>none) (λy=>none)))))):Option FP).getD (0,[],0,0,0,0,[])).2).1,1)).bind λc=>(nZ (!DO l m||!DO aa ab,!DO b c)).bind λb=>some (b,0)else bif ((Sum.casesOn a.1 (λb=>none) (λc=>Sum.casesOn c (λd=>none) (λe=>Sum.casesOn e (λf=>none) (λg=>Sum.casesOn g (λh=>h) (λi=>Sum.casesOn i (λj=>none) (λk=>none)))))):Option G_).isSome then(o6 (((Sum.casesOn a.1 (λb=>none) (λc=>Sum.casesOn c (λd=>none) (λe=>Sum.casesOn e (λf=>none) (λg=>Sum.casesOn g (λh=>h) (λi=>Sum.casesOn i (λj=>none) (λk=>none)))))):Option G_).getD [],0)).bind λl=>(o6 (((Sum.casesOn a.2.1 (λm=>none) (λn=>Sum.casesOn n (λo=>none) (λp=>Sum.casesOn p (λq=>none) (λs=>Sum.casesOn s (λt=>t) (λu=>Sum.casesOn u (λv=>none) (λw=>none)))))):Option G_).getD [],0)).bind λy=>(o6 (((Sum.casesOn a.1 (λb=>none) (λc=>Sum.casesOn c (λd=>none) (λe=>Sum.casesOn e (λf=>none) (λg=>Sum.casesOn g (λh=>h) (λi=>Sum.casesOn i (λj=>none) (λk=>none)))))):Option G_).getD [],1)).bind λb=>(o6 (((Sum.casesOn a.2.1 (λm=>none) (λn=>Sum.casesOn n (λo=>none) (λp=>Sum.casesOn p (λq=>none) (λs=>Sum.casesOn s (λt=>t) (λu=>Sum.casesOn u (λv=>none) (λw=>none)))))):Option G_).getD [],1)).bind λa=>(nZ (!(I3 l.1 y.1&&(DP l.2.1 y.2.1&&DO l.2.2 y.2.2)),!(I3 b.1 a.1&&(DP b.2.1 a.2.1&&DO b.2.2 a.2.2)))).bind λa=>some (a,0)else some (1,0)
def AIw:(Int×Int×Int)×Bool->Option (Int×Int×Int):=λ(a,b)=>bif b then some (a.1,1,a.2.2)else a
def AIx:fN×(DK×DK)->Option (Int×Int×Int):=λ(a,b)=>(A5x (a.2.2.2.1,b.1)).bind λc=>(AIw ((0,0,0),!DP c.1 b.2)).bind λd=>bif DP b.2 []then d else(AIu (a,b)).bind λa=>bif c.2 then(nY b.1).bind λe=>(AIv (e.1,c.1,b.2)).bind λb=>(a,d.2.1,b.1)else(a,d.2)
end
end Go.Ev.Pv
