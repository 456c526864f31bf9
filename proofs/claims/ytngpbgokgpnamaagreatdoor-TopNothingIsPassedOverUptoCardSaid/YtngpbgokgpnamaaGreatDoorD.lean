/-
  The program's functions as plain Lean functions (printed by a program of the author's from the translation).
-/
import Derived.Test.YtngpbgokgpnamaaGreatDoorE4
import Derived.Lib.AtoiAll
import Derived.Lib.ItoaNum
import Derived.Lib.Join
import Derived.Lib.Split
import Derived.Lib.Repeat
import Derived.Lib.FieldsP
import Derived.Lib.MapU
import Derived.Lib.LastIndexByte
import Derived.Lib.SlicesCompact
import GoSem.Decode
import Derived.Lib.Case
set_option linter.all false
set_option maxRecDepth 100000
open Go.IntKind hiding min max bits signed
namespace Go.Ev.Pv
def fuel:Nat:=18446744073709551616
def str? (s:DL):Option DL:=bif decide (s.length<=281474976710656)then some s else none
def str?_some{s r:DL}(h:str? s=some r):r=s/\s.length<=281474976710656:=by
 unfold str? at h;cases hd:decide (s.length<=281474976710656)with
 |false=>rw[hd]at h;cases h
 |true=>rw[hd]at h;cases h;exact⟨rfl,AB hd⟩
def IT{α:Type}(c:Prop) [Decidable c](x:Option α):Option α:=bif decide c then x else none
def OR{α:Type}{c:Prop}{_:Decidable c}{x:Option α}{r:α}(h:IT c x=some r):c/\x=some r:=by
 unfold IT at h;cases hd:decide c with
 |false=>rw[hd]at h;cases h
 |true=>rw[hd]at h;exact⟨AB hd,h⟩
def N0:Nat->Nat->DL
 |0,_=>[]
 |k+1,u=>if u<10 then [UInt8.ofNat (48+u)]else N0 k (u / 10)++[UInt8.ofNat (48+u % 10)]
def A3W:∀(k u:Nat),u<10 ^ k->1<=k->N0 k u=Lib.decDigits u:=by
 intro k;induction k with
 |zero=>intro u _ h;omega
 |succ k ih=>
  intro u hu _;rw[Lib.decDigits];simp only[N0];by_cases h:u<10
  .rw[if_pos h,dif_pos h]
  .rw[if_neg h,dif_neg h];have hk:1<=k:=by
    rcases k with _|k
    .simp at hu;omega
    .omega
   rw[ih (u / 10) (by rw[Nat.pow_succ]at hu;omega) hk]
def RV(n:Int):DL:=if n<0 then 45::N0 20 n.natAbs else N0 20 n.toNat
def AIE{n:Int}(h0:-9223372036854775808<=n)(h1:n<=9223372036854775807):RV n=Lib.itoa n:=by unfold RV Lib.itoa;rw[A3W 20 n.natAbs oa oi,A3W 20 n.toNat oa oi]
def A3X:∀(k u:Nat),(N0 k u).length<=k:=by
 intro k;induction k with
 |zero=>intro u;exact AD _
 |succ k ih=>
  intro u;simp only[N0];split
  .simp
  .have:=ih (u / 10);simp only[AI,BL,C4];omega
def A3Y(n:Int):(RV n).length<=21:=by
 unfold RV;split
 .have:=A3X 20 n.natAbs;simp only[BL];omega
 .have:=A3X 20 n.toNat;omega
def strings_Join:(List (List UInt8))×(List UInt8)->Option (List UInt8):=λx=>IT (x.1.length<=140737488355328/\(Lib.join x.1 x.2).length<=140737488355328) (some (Lib.join x.1 x.2))
def ZE:List UInt8->Option (List UInt8):=λs=>IT (s.length<35184372088832) (str? (Lib.toLowerD s))
def strconv_Itoa:Int->Option (List UInt8):=λn=>some (RV n)
def strings_IndexByte:(List UInt8)×Int->Option (Int):=λx=>IT (x.1.length<4611686018427387904) (some (Lib.indexByte x.1 x.2.toNat.toUInt8))
def strings_LastIndexByte:(List UInt8)×Int->Option (Int):=λx=>IT (x.1.length<4611686018427387904) (some (Lib.lastIndexByte ⟨x.1.toArray⟩ x.2))
def strings_Cut:(List UInt8)×(List UInt8)->Option ((List UInt8)×(List UInt8)×Bool):=λx=>IT (x.1.length<4294967281) (some (Lib.cut x.1 x.2))
def strings_Repeat:(List UInt8)×Int->Option (List UInt8):=λx=>IT (0<=x.2/\x.1.length*x.2.toNat<=140737488355328) (some (Lib.repeatL x.1 x.2.toNat))
def strings_Split:(List UInt8)×(List UInt8)->Option (List (List UInt8)):=λx=>IT (x.1.length<4294967281/\1<=x.2.length) (some ((Lib.splitB ⟨x.2.toArray⟩ 0 (Lib.countB ⟨x.1.toArray⟩ ⟨x.2.toArray⟩) ⟨x.1.toArray⟩).map λb=>b.data.toList))
def fO:List UInt8->Option (Int×Unit):=λs=>IT (s.length<=281474976710656) (match Lib.atoiAll s with
 | .ok v=>some (v,())
 | .range=>some (Lib.atoiSat s,())
 |_=>some (0,()))
noncomputable def VO:(List UInt8)×(Int->Option Bool)->Option (List (List UInt8)):=λx=>@IT _ (x.1.length<=4294967296/\(∀r:Nat,r<=1114111->∃b,x.2 (r:Int)=some b)/\(Lib.goFieldsP (λr=>(x.2 (r:Int)).getD false) ⟨x.1.toArray⟩).length<=281474976710656) (Classical.propDecidable _) (some ((Lib.goFieldsP (λr=>(x.2 (r:Int)).getD false) ⟨x.1.toArray⟩).map λb=>b.data.toList))
def strings_HasPrefix:(List UInt8)×(List UInt8)->Option (Bool):=λx=>some (Lib.hasPrefix x.1 x.2)
def strings_TrimPrefix:(List UInt8)×(List UInt8)->Option (List UInt8):=λx=>some (Lib.trimPrefix x.1 x.2)
def strings_CutPrefix:(List UInt8)×(List UInt8)->Option ((List UInt8)×Bool):=λx=>some (Lib.trimPrefix x.1 x.2,Lib.hasPrefix x.1 x.2)
def fP:List Int->Option (List Int):=λxs=>some xs
def PY:List Int->Option (List UInt8):=λxs=>some (IR xs)
section
variable{T:Type}
def NV(xs:List T)(F:T×T->Option Int)(i j:Fin xs.length):Int:=(F (xs.get i,xs.get j)).getD 0
def IL(xs:List T)(F:T×T->Option Int)(i j:Fin xs.length):Bool:=decide (NV xs F i j<0)
def TI(xs:List T)(F:T×T->Option Int):Prop:=
 (∀i j:Fin xs.length,(F (xs.get i,xs.get j)).isSome=true)/\(∀i:Fin xs.length,IL xs F i i=false)/\
 (∀i j k:Fin xs.length,IL xs F i j=true->IL xs F j k=true->IL xs F i k=true)/\(∀i j k:Fin xs.length,IL xs F i j=false->IL xs F j k=false->IL xs F i k=false)
instance{xs:List T}{F:T×T->Option Int}:Decidable (TI xs F):=by unfold TI;infer_instance
def fQ{α:Type} [Inhabited α](lt:α->α->Bool):Nat->Nat->Array α->Array α
 |0,_,d=>d
 |n+1,i,d=>fQ lt n (i+1) (Sort.insInner lt 0 i d)
theorem AIF{α:Type} [Inhabited α](lt:α->α->Bool):∀(n i:Nat) (d:Array α),Sort.insOuter lt 0 (i+n) i d=fQ lt n i d:=by
 intro n;induction n with
 |zero=>intro i d;rw[Sort.insOuter,if_neg oa];rfl
 |succ n ih=>intro i d;rw[Sort.insOuter,if_pos oa,show i+(n+1)=(i+1)+n by omega,ih];rfl
def L3(xs:List T)(F:T×T->Option Int)(h:0<xs.length):Array (Fin xs.length):=
 haveI:Inhabited (Fin xs.length):=⟨⟨0,h⟩⟩
 if xs.length<=12 then fQ (IL xs F) (xs.length-1) 1 (Array.ofFn id)else Sort.pdq (IL xs F) (Array.ofFn id) 0 xs.length (Lib.bitLen xs.length) true true
def AIG{α:Type} [Inhabited α](lt:α->α->Bool)(d:Array α)(n lim:Nat)(h:0<n)(h12:n<=12):Sort.pdq lt d 0 n lim true true=fQ lt (n-1) 1 d:=by rw[Sort.pdq,if_pos oa,Sort.insertionSort];have:=AIF lt (n-1) 1 d;rw[show 1+(n-1)=n by omega]at this;exact this
theorem A3Z(xs:List T)(F:T×T->Option Int)(h:0<xs.length):
 L3 xs F h= @Sort.pdq _ ⟨⟨0,h⟩⟩ (IL xs F) (Array.ofFn id) 0 xs.length (Lib.bitLen xs.length) true true:=by
 unfold L3;split
 .rename_i h12;exact(@AIG _ ⟨⟨0,h⟩⟩ (IL xs F) (Array.ofFn id) xs.length _ h h12).symm
 .rfl
def NW(xs:List T)(F:T×T->Option Int):Option (List T):=
 if h:0<xs.length then IT (TI xs F) (some ((L3 xs F h).toList.map xs.get))else some []
end
def uQ:(List ((Int×(List UInt8)×Bool×(List UInt8))×(Int×(List UInt8)×Bool×(List UInt8))))×((((Int×(List UInt8)×Bool×(List UInt8))×(Int×(List UInt8)×Bool×(List UInt8)))×((Int×(List UInt8)×Bool×(List UInt8))×(Int×(List UInt8)×Bool×(List UInt8))))->Option Int)->Option (List ((Int×(List UInt8)×Bool×(List UInt8))×(Int×(List UInt8)×Bool×(List UInt8)))):=λv=>NW v.1 v.2
def A3_:(List (Int×Int))×(((Int×Int)×(Int×Int))->Option Int)->Option (List (Int×Int)):=λx=>NW x.1 x.2
def K7(c:UInt8):Bool:=decide (97<=(c.toNat:Int))&&((c.toNat:Int)<=122)||(65<=(c.toNat:Int))&&((c.toNat:Int)<=90)||(48<=(c.toNat:Int))&&((c.toNat:Int)<=57)||((c.toNat:Int)=46)||((c.toNat:Int)=45)
def wordL:List (List UInt8):=[[65,78,68],[79,82],[87,73,84,72],[97,110,100],[111,114],[119,105,116,104]]
def KN(s:ByteArray):Bool:=wordL.contains s.toList
def H8(s:ByteArray):Bool:=decide (0<s.size)&&((s.size<=60)&&(!(s.data.toList.headD 0==46)&&(!(s.data.toList.headD 0==45)&&(!(KN s)&&s.data.toList.all K7))))
structure RS where
 en:Nat
 k:Int
 tx:ByteArray
 at_:Nat
 tg:Bool
 op:Int
def N1(c:UInt8):Bool:=c==32||c==9||c==10
def F4(l:List UInt8)(i:Nat):Nat:=i+((l.drop i).takeWhile N1).length
def JR(l:List UInt8)(i:Nat):Nat:=((l.drop i).takeWhile K7).length
def RW(t:ByteArray):ByteArray:=⟨(Lib.toUpperA t.data.toList).toArray⟩
def FQ(s:ByteArray)(en:Nat)(op:Int):Except Nat RS:=
 if F4 s.data.toList en=s.size then .ok ⟨en,0,⟨#[]⟩,F4 s.data.toList en,decide (F4 s.data.toList en=en/\0<F4 s.data.toList en),op⟩
 else if JR s.data.toList (F4 s.data.toList en)=0 then
  (if s.data.toList.getD (F4 s.data.toList en) 0=43 then .ok ⟨F4 s.data.toList en+1,3,⟨#[]⟩,F4 s.data.toList en,decide (F4 s.data.toList en=en/\0<F4 s.data.toList en),op⟩
  else if s.data.toList.getD (F4 s.data.toList en) 0=40 then .ok ⟨F4 s.data.toList en+1,4,⟨#[]⟩,F4 s.data.toList en,decide (F4 s.data.toList en=en/\0<F4 s.data.toList en),op⟩
  else if s.data.toList.getD (F4 s.data.toList en) 0=41 then .ok ⟨F4 s.data.toList en+1,5,⟨#[]⟩,F4 s.data.toList en,decide (F4 s.data.toList en=en/\0<F4 s.data.toList en),op⟩
  else .error (F4 s.data.toList en))
 else if KN (s.extract (F4 s.data.toList en) (F4 s.data.toList en+JR s.data.toList (F4 s.data.toList en)))=true then
  .ok ⟨F4 s.data.toList en+JR s.data.toList (F4 s.data.toList en),2,RW (s.extract (F4 s.data.toList en) (F4 s.data.toList en+JR s.data.toList (F4 s.data.toList en))),F4 s.data.toList en,decide (F4 s.data.toList en=en/\0<F4 s.data.toList en),op⟩
 else if H8 (s.extract (F4 s.data.toList en) (F4 s.data.toList en+JR s.data.toList (F4 s.data.toList en)))=true then
  .ok ⟨F4 s.data.toList en+JR s.data.toList (F4 s.data.toList en),1,s.extract (F4 s.data.toList en) (F4 s.data.toList en+JR s.data.toList (F4 s.data.toList en)),F4 s.data.toList en,decide (F4 s.data.toList en=en/\0<F4 s.data.toList en),op⟩
 else .error (F4 s.data.toList en)
def IU(s:ByteArray)(word:ByteArray)(r:RS):Except (Nat×Int) (Bool×RS):=
 if r.k≠2\/r.tx≠word then .ok (false,r)else match FQ s r.en r.op with
  | .ok r=>.ok (true,r)
  | .error a=>.error (a,6)
def J1(s:ByteArray)(r:RS):Except (Nat×Int) (ByteArray×RS):=
 if r.k≠1 then .error (r.at_,6)else match FQ s r.en r.op with
  | .ok r'=>.ok (r.tx,r')
  | .error a=>.error (a,6)
inductive Tr where
 |node (k:Int) (n:ByteArray) (l:Bool) (x:ByteArray) (kids:List Tr)
abbrev PF:=RS->Option (Except (Nat×Int) (Tr×RS))
def K8(s word:ByteArray)(one:PF):Nat->List Tr->RS->Option (Except (Nat×Int) (List Tr×RS))
 |0,_,_=>none
 |m+1,kids,r=>match IU s word r with
  | .error e=>some (.error e)
  | .ok (false,r')=>some (.ok (kids,r'))
  | .ok (true,r')=>match one r' with
   |none=>none
   |some (.error e)=>some (.error e)
   |some (.ok (t,r''))=>K8 s word one m (kids++[t]) r''
def J2(s:ByteArray)(kind:Int)(word:ByteArray)(one:PF)(m:Nat):PF:=λr=>match one r with
 |none=>none
 |some (.error e)=>some (.error e)
 |some (.ok (t,r'))=>if r'.k≠2\/r'.tx≠word then some (.ok (t,r'))else match K8 s word one m [t] r' with
  |none=>none
  |some (.error e)=>some (.error e)
  |some (.ok (kids,r''))=>some (.ok (.node kind ⟨#[]⟩ false ⟨#[]⟩ kids,r''))
def PZ(o:Int):Int:=IntKind.wrap .i64 o
def OS(s:ByteArray)(eitherR:PF)(r:RS):Option (Except (Nat×Int) (Tr×RS)):=
 if 30<PZ (r.op+1)then some (.error (r.at_,3))else match FQ s r.en (PZ (r.op+1))with
  | .error a=>some (.error (a,6))
  | .ok b=>match eitherR b with
   |none=>none
   |some (.error e)=>some (.error e)
   |some (.ok (t,b))=>if b.k≠5 then some (.error (b.at_,6))else match FQ s b.en (PZ (b.op-1))with
    | .error a=>some (.error (a,6))
    | .ok b=>some (.ok (t,b))
def LO(s:ByteArray)(r:RS):Except (Nat×Int) (Bool×RS):=
 if r.k=3/\r.tg=true then(match FQ s r.en r.op with| .error a=>.error (a,6)| .ok b=>.ok (true,b))else .ok (false,r)
def KO(s:ByteArray)(r:RS):Except (Nat×Int) (ByteArray×RS):=match IU s ⟨#[87,73,84,72]⟩ r with
 | .error e=>.error e
 | .ok (false,a)=>.ok (⟨#[]⟩,a)
 | .ok (true,a)=>J1 s a
def JC(s:ByteArray)(r:RS):Except (Nat×Int) (Tr×RS):=match J1 s r with
 | .error e=>.error e
 | .ok (n,a)=>match LO s a with
  | .error e=>.error e
  | .ok (l,a)=>match KO s a with
   | .error e=>.error e
   | .ok (x,a)=>.ok (.node 1 n l x [],a)
def N2(s:ByteArray)(m:Nat):Nat->PF
 |0=>λ_=>none
 |d+1=>λr=>if r.k=4 then OS s (J2 s 3 ⟨#[79,82]⟩ (J2 s 2 ⟨#[65,78,68]⟩ (N2 s m d) m) m) r else some (JC s r)
def P_(s:ByteArray)(m d:Nat):PF:=J2 s 3 ⟨#[79,82]⟩ (J2 s 2 ⟨#[65,78,68]⟩ (N2 s m d) m) m
def N3(s:ByteArray)(e:PF):Option (Except (Nat×Int) Tr):=match FQ s 0 0 with
 | .error a=>some (.error (a,6))
 | .ok r=>match e r with
  |none=>none
  |some (.error x)=>some (.error x)
  |some (.ok (t,r'))=>if r'.k≠0 then some (.error (r'.at_,6))else some (.ok t)
mutual
def IM:Tr->Int->Int×Int
 | .node _ _ _ _ kids,d=>if 30<d then(1,d)else L4 kids d (1,d)
def L4:List Tr->Int->Int×Int->Int×Int
 |[],_,acc=>acc
 |t::ts,d,acc=>L4 ts d (min (acc.1+(IM t (d+1)).1) 201,max acc.2 (IM t (d+1)).2)
end
mutual
def N4:Tr->Int
 | .node k n l x kids=>if k<1\/3<k then 7 else if k=1 then(if 0<kids.length then 2 else if H8 n=false\/x≠⟨#[]⟩/\H8 x=false then 8 else 0)
   else if n≠⟨#[]⟩\/l=true\/x≠⟨#[]⟩\/kids.length<2 then 2 else Q0 kids
def Q0:List Tr->Int
 |[]=>0
 |t::ts=>if N4 t≠0 then N4 t else Q0 ts
end
def QA(t:Tr):Int:=if 30<(IM t 1).2\/200<(IM t 1).1 then 3 else N4 t
def TJ(s:ByteArray)(e:PF):Option (Except (Nat×Int) Tr):=if 4000<s.size then some (.error (0,3))else match N3 s e with
 |none=>none
 |some (.error x)=>some (.error x)
 |some (.ok t)=>if QA t≠0 then some (.error (0,QA t))else some (.ok t)
def AIH:Option (Except (Nat×Int) Tr)->(Int×(List UInt8)×Bool×(List UInt8)×Unit)×Int×Int
 |some (.ok (.node k n l x _))=>((k,n.data.toList,l,x.data.toList,()),0,0)
 |some (.error (a,c))=>((0,[],false,[],()),a,c)
 |none=>((0,[],false,[],()),0,0)
noncomputable def uR:List UInt8->Option ((Int×(List UInt8)×Bool×(List UInt8)×Unit)×Int×Int):=λs=>some (AIH (TJ ⟨s.toArray⟩ (P_ ⟨s.toArray⟩ 4500 31)))
def AII(s:List UInt8):∃r,uR s=some r:=⟨_,rfl⟩
def slices_Sort_int(xs:List Int):Option (List Int):=some (xs.mergeSort λx y=>decide (x<=y))
def slices_Compact_int(xs:List Int):Option (List Int):=some (Lib.compact xs)
def fR:(List ((List UInt8)×(List UInt8)))×(((List UInt8)×(List UInt8))×((List UInt8)×(List UInt8))->Option Int)->Option (List ((List UInt8)×(List UInt8))):=λx=>NW x.1 x.2
noncomputable section
abbrev DU:=(List (DL×DL))
abbrev HX:=(DL×DL×DL×DL×DU×DL)
abbrev GM:=(DL×HX×DU×DL×(List DL))
abbrev GD:=(DL×DL×Int)
abbrev H7:=(DL×DL×DL×(List GM)×(List GD))
abbrev JK:=(List (Int×DL))
abbrev F_:=(DL×Int×JK×(List DL)×(List DL))
abbrev G9:=(DL×(List DL)×DL×Int×Bool×DL×(List F_))
abbrev NX:=(Int×(List G9)×(List Int))
abbrev J3:=(Int×DL×DL×DL)
abbrev OT:=(List (DL×DL×(List J3)×(List DL)))
abbrev JD:=((List (DL×(List DL)))×(List (DL×DU))×OT×(List DL))
abbrev QB:=(List (DL×DL×DL×Int×Int×Int×Int))
abbrev LP:=(H7×Int×NX×(List JD)×Int×(List DL)×QB)
abbrev G_:=(JD×(List (DL×Int))×(List (DL×Int))×(List (DL×(List Int)))×(List (DL×Bool))×Bool)
abbrev DZ:=(Int×DL×DL×Int)
abbrev KP:=((List Int)×(List DL))
abbrev K9:=(Int×DL×DL×Bool)
abbrev FS:=(Int×(List Int)×Int×Int×Int×Int×(List DL))
abbrev LQ:=(Bool×DL×Int)
abbrev H0:=(List LQ)
abbrev H9:=(Sum KP (Sum K9 (Sum FS (Sum H0 (Sum Int Unit)))))
abbrev GN:=(Bool×Bool×DL)
abbrev FD:=(List (GN×GN))
abbrev JL:=(Option (LP×(List (DL×G9))×(List (DL×GM))×(List (DL×Bool))×(List (GD×Bool))))
abbrev LR:=(Int×DL×Bool×DL)
abbrev FI:=(LR×LR)
abbrev JM:=((Option G_)×((List Bool)×((List Bool)×((List ((DL×DL)×Bool))×(DU×((List Int)×(List Int)))))))
abbrev FM:=(((DL×DL)×(DL×DL))->Option Int)
abbrev EQ:=(DL×Int×Int)
abbrev N5:=(Option ((Option G_)×(List Bool)×(List Bool)×(List ((DL×DL)×Bool))×DU×(List Int)×(List Int)))
abbrev ME:=((DL×Int)×DL)
abbrev N6:=(DL×DL×Int×Int×Int×(List DL)×DL×(List (DL×(List ME)×DU))×Int)
abbrev FN:=((DZ×DZ)->Option Int)
abbrev LT:=(Bool×(List (DL×(DL×(List DL))))×(List (DL×Bool))×(List (DL×Bool)))
abbrev HD:=((DL×DL)×(DL×DL)->Option Int)
abbrev OU:=(JD×((List (DL×Int))×((List (DL×Int))×((List (DL×List Int))×((List (DL×Bool))×Bool)))))
abbrev IF:=(DL×(DL×(DL×(DL×(DU×DL)))))
abbrev RX:=(LP×((List (DL×G9))×((List (DL×GM))×((List (DL×Bool))×(List (GD×Bool))))))
abbrev RY:=(List (DL×(Int×FD)×Int))
abbrev HY:=(List (Int×Int))
abbrev HG:=(DZ×DZ->Option Int)
abbrev VP:=(Bool×((List (DL×(DL×(List DL))))×((List (DL×Bool))×(List (DL×Bool)))))
abbrev GX:=(Sum (Unit) (Int))
abbrev KQ:=(List ((Int×Bool)×Bool))
abbrev JN:=(List (List Int))
abbrev RZ:=(DL×DL×RY×Bool)
abbrev fS:=((List RZ)×RY×Int×DU×(List DL)×Bool×NX)
abbrev VQ:=(JL×GD×G9×GM×(List DL)×Int×(List DL))
abbrev KA:=(DL×HY×Int)
abbrev KB:=(List (Int×FD))
abbrev L5:=((List DL)×Bool)
abbrev fT:=(JL×(GD×(G9×(GM×((List DL)×(Int×(List DL)))))))
abbrev LU:=(Sum (Unit) (Bool))
abbrev TK:=(DL×Int×Bool×Bool×Int)
abbrev N7:=(Int->Option Bool)
abbrev R_:=(Bool×(List (DL×Bool)))
abbrev N8:=((List DZ)×Int)
abbrev TL:=(H7×Int×JN×JN)
abbrev Rd(A B:Type):=(A->Option B)->A->Option B
def fU:Rd EQ LU:=λa (b,c,d)=>bif d<c then(at? b d).bind λe=>(bif !((e.toNat:Int)<32)then at? b d else some 0).bind λf=>bif (e.toNat:Int)<32||DP f.toNat 127 then some (.inr false)else a (b,c,i64.wrap (d+1))else some (.inl ())
def A3a:=DX fU fuel
def TM:DL->Option (Bool):=λa=>(A3a (a,a.length,0)).bind λb=>match b with|.inl _=>some ((a.length:Int)<=100)|.inr a=>a
def fV:Rd EQ LU:=λa (b,c,d)=>bif d<c then(at? b d).bind λe=>(bif !((e.toNat:Int)<33)then at? b d else some 0).bind λf=>bif (e.toNat:Int)<33||126<(f.toNat:Int)then some (.inr false)else a (b,c,i64.wrap (d+1))else some (.inl ())
def A3b:=DX fV fuel
def VR:DL×Int->Option (Bool):=λ(a,b)=>(A3b (a,a.length,0)).bind λc=>match c with|.inl _=>some (!DQ a []&&a.length<=b)|.inr a=>a
def fW:Unit->Option (List TK):=λ_=>some [([100,111,116,116,101,100],2,true,false,1),([114,101,118,105,115,101,100],3,true,false,2),([115,116,97,103,101,100],1,true,true,3),([113,117,97,108,105,102,105,101,100],3,false,false,4),([112,108,97,105,110],2,false,false,5)]
def A3c:Rd (DL×(List TK)×Int) GX:=λa (b,c,d)=>bif d<5 then(at? c d).bind λe=>bif DQ e.1 b then some (.inr d)else a (b,c,i64.wrap (d+1))else some (.inl ())
def uS:=DX A3c fuel
def ZF:DL->Option (Int):=λa=>(fW ()).bind λb=>(uS (a,b,0)).bind λa=>match a with|.inl _=>some (-1)|.inr a=>a
def VS:DL->Option (TK×Int):=λa=>(ZF a).bind λa=>bif a<0 then some (([],0,false,false,0),7)else(fW ()).bind λb=>(at? b a).bind λa=>some (a,0)
def A3d:Rd ((List DL)×Int×Int) LU:=λa (b,c,d)=>bif d<c then(at? b d).bind λe=>bif 200<(e.length:Int)then some (.inr true)else a (b,c,i64.wrap (d+1))else some (.inl ())
def uT:=DX A3d fuel
def A3e:Rd (DU×Int×Int) LU:=λa (b,c,d)=>bif d<c then(at? b d).bind λe=>bif 200<(e.1.length:Int)||200<(e.2.length:Int)then some (.inr true)else a (b,c,i64.wrap (d+1))else some (.inl ())
def uU:=DX A3e fuel
def fX:DL×DL×DL×DL×DU×DL->Option (Bool):=λa=>let b:=[a.2.1,a.2.2.1,a.2.2.2.1,a.2.2.2.2.2];(uT (b,b.length,0)).bind λb=>match b with|.inl _=>((uU (a.2.2.2.2.1,a.2.2.2.2.1.length,0)).bind λb=>match b with|.inl _=>some (10<(a.2.2.2.2.1.length:Int))|.inr a=>a)|.inr a=>a
def TN:DL->Option (List DL):=λa=>bif DQ a []then some []else(strings_Split (a,[47])).bind λa=>a
def A3f:Rd (Bool×(List DL)×Int×Int) LU:=λa (b,c,d,e)=>bif e<d then(at? c e).bind λf=>bif DQ f []||b&&(DQ f [46]||DQ f [46,46])then some (.inr true)else a (b,c,d,i64.wrap (e+1))else some (.inl ())
def uV:=DX A3f fuel
def ZG:(List DL)×Bool->Option (Bool):=λ(a,b)=>(uV (b,a,a.length,0)).bind λb=>match b with|.inl _=>some (10<(a.length:Int))|.inr a=>a
def ZH:Int×Bool->Option (Bool):=λ(a,b)=>bif 97<=a&&a<=122 then some true else some (!b&&(48<=a&&a<=57||DP a 46||DP a 45||DP a 95))
def A3g:Rd EQ LU:=λa (b,c,d)=>bif d<c then(at? b d).bind λe=>(ZH (e.toNat,DP d 0)).bind λe=>bif !e then some (.inr false)else a (b,c,i64.wrap (d+1))else some (.inl ())
def uW:=DX A3g fuel
def fY:DL->Option (Bool):=λa=>(uW (a,a.length,0)).bind λb=>match b with|.inl _=>some (!DQ a [])|.inr a=>a
def A3h:Rd (DU×DU×Int×Int) GX:=λa (b,c,d,e)=>bif e<d then(at? c e).bind λf=>(fY f.1).bind λg=>bif !g then some (.inr 8)else bif DQ f.2 []then some (.inr 2)else(bif 0<e then at? b (i64.wrap (e-1))else some ([],[])).bind λg=>bif 0<e&&(Op.bytesLess f.1 g.1||DQ f.1 g.1)then some (.inr 10)else a (b,c,d,i64.wrap (e+1))else some (.inl ())
def uX:=DX A3h fuel
def fZ:List (DL×DL)->Option (Int):=λa=>(uX (a,a,a.length,0)).bind λa=>match a with|.inl _=>some 0|.inr a=>a
def A3i:Rd EQ LU:=λa (b,c,d)=>bif d<c then(at? b d).bind λe=>(bif !((e.toNat:Int)<32)then at? b d else some 0).bind λf=>bif (e.toNat:Int)<32||DP f.toNat 127 then some (.inr true)else a (b,c,i64.wrap (d+1))else some (.inl ())
def uY:=DX A3i fuel
def ZI:DL->Option (Bool):=λa=>(uY (a,a.length,0)).bind λa=>match a with|.inl _=>some false|.inr a=>a
def A3j:Rd ((List DL)×Int×Int) GX:=λa (b,c,d)=>bif d<c then(at? b d).bind λe=>(ZI e).bind λe=>bif e then some (.inr 8)else a (b,c,i64.wrap (d+1))else some (.inl ())
def uZ:=DX A3j fuel
def A3k:Rd (DU×Int×Int) GX:=λa (b,c,d)=>bif d<c then(at? b d).bind λe=>(ZI e.2).bind λe=>bif e then some (.inr 8)else a (b,c,i64.wrap (d+1))else some (.inl ())
def u_:=DX A3k fuel
def KR:DL×DL×DL×DL×DU×DL->Option (Int):=λa=>(VS a.1).bind λb=>bif !DP b.2 0 then b.2 else(fX a).bind λc=>bif c then some 3 else bif !DQ a.2.1 []&&DP b.1.2.1 1||DQ a.2.1 []&&DP b.1.2.1 3 then some 2 else(TN a.2.1).bind λb=>(ZG (b,false)).bind λb=>bif b then some 2 else(bif !DQ a.2.2.1 []then strings_IndexByte (a.2.2.1,47)else some 0).bind λb=>bif DQ a.2.2.1 []||0<=b then some 8 else(fZ a.2.2.2.2.1).bind λb=>bif !DP b 0 then b else(TN a.2.2.2.2.2).bind λb=>(ZG (b,true)).bind λb=>bif b then some 2 else let b:=[a.2.1,a.2.2.1,a.2.2.2.1,a.2.2.2.2.2];(uZ (b,b.length,0)).bind λb=>match b with|.inl _=>((u_ (a.2.2.2.2.1,a.2.2.2.2.1.length,0)).bind λa=>match a with|.inl _=>some 0|.inr a=>a)|.inr a=>a
def ZJ:Int->Option (Int):=λa=>bif 48<=a&&a<=57 then some (i64.wrap (u8.wrap (a-48)))else bif 97<=a&&a<=102 then some (i64.wrap (i64.wrap (u8.wrap (a-97))+10))else bif 65<=a&&a<=70 then some (i64.wrap (i64.wrap (u8.wrap (a-65))+10))else some (-1)
def f_:Rd EQ LU:=λa (b,c,d)=>bif d<c then(at? b d).bind λe=>(ZJ e.toNat).bind λe=>(bif !(e<0)then at? b d else some 0).bind λf=>(bif !(e<0)&&65<=(f.toNat:Int)then at? b d else some 0).bind λg=>bif e<0||65<=(f.toNat:Int)&&(g.toNat:Int)<=70 then some (.inr false)else a (b,c,i64.wrap (d+1))else some (.inl ())
def A3l:=DX f_ fuel
def gA:DL×Int->Option (Bool):=λ(a,b)=>(A3l (a,a.length,0)).bind λc=>match c with|.inl _=>some (DP a.length b)|.inr a=>a
def vA:Int×Bool->Option (Int):=λ(a,b)=>bif b then some 16 else a
def gB:Rd (DU×DU×Int×Int) GX:=λa (b,c,d,e)=>bif e<d then(at? c e).bind λf=>(vA (64,DQ f.1 [115,117,109,54,52])).bind λg=>bif !DQ f.1 [115,104,97,50,53,54]&&!DQ f.1 [115,117,109,54,52]then some (.inr 7)else(gA (f.2,g)).bind λg=>bif !g then some (.inr 2)else(bif 0<e then at? b (i64.wrap (e-1))else some ([],[])).bind λg=>bif 0<e&&(Op.bytesLess f.1 g.1||DQ f.1 g.1)then some (.inr 10)else a (b,c,d,i64.wrap (e+1))else some (.inl ())
def A3m:=DX gB fuel
def gC:List (DL×DL)->Option (Int):=λa=>bif 4<(a.length:Int)then some 3 else(A3m (a,a,a.length,0)).bind λa=>match a with|.inl _=>some 0|.inr a=>a
def gD:Rd ((List DL)×R_×(List DL)×Int×Int) GX:=λa (b,c,d,e,f)=>bif f<e then(at? d f).bind λg=>(VR (g,200)).bind λh=>bif !h then some (.inr 8)else(bif !c.1&&0<f then at? b (i64.wrap (f-1))else some []).bind λh=>bif !c.1&&0<f&&(Op.bytesLess g h||DQ g h)then some (.inr 10)else a (b,c,d,e,i64.wrap (f+1))else some (.inl ())
def A3n:=DX gD fuel
def ZK:R_×(List DL)->Option (Int):=λ(a,b)=>bif 100<(b.length:Int)then some 3 else(A3n (b,a,b,b.length,0)).bind λa=>match a with|.inl _=>some 0|.inr a=>a
def gE:Rd (GM×Int×Int) (Sum GM (Int)):=λa (b,c,d)=>bif d<c then(at? b.2.2.2.1 d).bind λe=>(bif !((e.toNat:Int)<32)then at? b.2.2.2.1 d else some 0).bind λf=>bif (e.toNat:Int)<32||126<(f.toNat:Int)then some (.inr 2)else a (b,c,i64.wrap (d+1))else some (.inl b)
def A3o:=DX gE fuel
def gF:R_×GM->Option (Int):=λ(a,b)=>(VR (b.1,100)).bind λc=>bif !c then some 8 else(KR b.2.1).bind λc=>bif !DP c 0 then c else(gC b.2.2.1).bind λc=>bif !DP c 0 then c else(A3o (b,b.2.2.2.1.length,0)).bind λb=>match b with|.inl b=>bif !DQ b.2.2.2.1 []then(uR b.2.2.2.1).bind λc=>bif !DP c.2.2 0 then c.2.2 else(ZK (a,b.2.2.2.2)).bind λc=>c else(ZK (a,b.2.2.2.2)).bind λa=>a|.inr a=>a
def VT:DL->Option (Bool):=λa=>some (!DQ a a)
def LV:DL×DL->Option (Int):=λ(a,b)=>(VT a).bind λc=>(VT b).bind λd=>bif c then bif d then some 0 else some (-1)else bif d then some 1 else bif Op.bytesLess a b then some (-1)else bif !(Op.bytesLess a b||DQ a b)then some 1 else some 0
def gG:Int->Option (Bool):=λa=>some (!DP a a)
def QC:Int×Int->Option (Int):=λ(a,b)=>(gG a).bind λc=>(gG b).bind λd=>bif c then bif d then some 0 else some (-1)else bif d then some 1 else bif a<b then some (-1)else bif b<a then some 1 else some 0
def gH:Rd (Int×(List Int)×Int×Int) GX:=λa (b,c,d,e)=>bif e<d then(at? c e).bind λf=>bif !DP f b then some (.inr f)else a (b,c,d,i64.wrap (e+1))else some (.inl ())
def gI:=DX gH fuel
def S0:List Int->Option (Int):=λa=>(gI (0,a,a.length,0)).bind λa=>match a with|.inl _=>some 0|.inr a=>a
def ZL:GD×GD->Option (Int):=λ(a,b)=>(LV (a.1,b.1)).bind λc=>(LV (a.2.1,b.2.1)).bind λd=>(QC (a.2.2,b.2.2)).bind λa=>(S0 [c,d,a]).bind λa=>a
def gJ:Rd ((List GD)×R_×(List GD)×Int×Int) GX:=λa (b,c,d,e,f)=>bif f<e then(at? d f).bind λg=>bif g.2.2<1||4<g.2.2 then some (.inr 9)else bif !(DW DQ g.1 c.2).getD false||!(DW DQ g.2.1 c.2).getD false then some (.inr 4)else bif DQ g.1 g.2.1 then some (.inr 2)else(bif !c.1&&0<f then at? b (i64.wrap (f-1))else some ([],[],0)).bind λh=>(bif !c.1&&0<f then ZL (h,g)else some 0).bind λg=>bif !c.1&&0<f&&0<=g then some (.inr 10)else a (b,c,d,e,i64.wrap (f+1))else some (.inl ())
def A3p:=DX gJ fuel
def vB:R_×(List GD)->Option (Int):=λ(a,b)=>(A3p (b,a,b,b.length,0)).bind λa=>match a with|.inl _=>some 0|.inr a=>a
def gK:Rd (R_×H7×(List GM)×Int×Int) (Sum (R_×H7) (Int)):=λa (b,c,d,e,f)=>bif f<e then(at? d f).bind λg=>(gF ((b.1,b.2),g)).bind λh=>bif !DP h 0 then some (.inr h)else(bif !b.1&&0<f then at? c.2.2.2.1 (i64.wrap (f-1))else some ([],([],[],[],[],[],[]),[],[],[])).bind λh=>bif !b.1&&0<f&&(Op.bytesLess g.1 h.1||DQ g.1 h.1)then some (.inr 10)else a ((b.1,EB DQ g.1 true b.2),c,d,e,i64.wrap (f+1))else some (.inl ((b.1,b.2),c))
def A3q:=DX gK fuel
def vC:R_×H7->Option (Int):=λ(a,b)=>(bif !DQ b.1 []then TM b.1 else some false).bind λc=>(bif !(DQ b.1 []||!c)then TM b.2.1 else some false).bind λd=>bif DQ b.1 []||!c||!d then some 8 else bif 3000<(b.2.2.2.1.length:Int)||20000<(b.2.2.2.2.length:Int)then some 3 else(A3q ((a.1,a.2),b,b.2.2.2.1,b.2.2.2.1.length,0)).bind λa=>match a with|.inl a=>bif !(DW DQ a.2.2.2.1 a.1.2).getD false then some 4 else(vB ((a.1.1,a.1.2),a.2.2.2.2.2)).bind λa=>a|.inr a=>a
def S1:DL×DL×DL×(List GM)×(List GD)->Option (Int):=λa=>(vC ((false,[]),a)).bind λa=>a
def A3r:Rd EQ LU:=λa (b,c,d)=>bif d<c then(at? b d).bind λe=>bif !(97<=(e.toNat:Int)&&(e.toNat:Int)<=122||65<=(e.toNat:Int)&&(e.toNat:Int)<=90||48<=(e.toNat:Int)&&(e.toNat:Int)<=57||DP e.toNat 46||DP e.toNat 45||DP e.toNat 95)then some (.inr false)else a (b,c,i64.wrap (d+1))else some (.inl ())
def vD:=DX A3r fuel
def VU:DL->Option (Bool):=λa=>(vD (a,a.length,0)).bind λb=>match b with|.inl _=>some (!DQ a []&&(a.length:Int)<=60)|.inr a=>a
def A3s:Rd (G9×(List DL)×Int×Int) GX:=λa (b,c,d,e)=>bif e<d then(at? c e).bind λf=>(VU f).bind λg=>bif !g then some (.inr 8)else bif DQ f b.1 then some (.inr 5)else(bif 0<e then at? b.2.1 (i64.wrap (e-1))else some []).bind λg=>bif 0<e&&(Op.bytesLess f g||DQ f g)then some (.inr 10)else a (b,c,d,i64.wrap (e+1))else some (.inl ())
def vE:=DX A3s fuel
def gL:DL×(List DL)×DL×Int×Bool×DL×(List F_)->Option (Int):=λa=>bif 20<(a.2.1.length:Int)then some 3 else(vE (a,a.2.1,a.2.1.length,0)).bind λa=>match a with|.inl _=>some 0|.inr a=>a
def gM:Unit->Option (List HY):=λ_=>let a:=EB DP 76 22 (EB DP 72 56 []);some [EB DP 80 20 (EB DP 76 55 (EB DP 65 62 (EB DP 78 85 []))),EB DP 72 44 (EB DP 76 77 []),EB DP 72 27 (EB DP 76 62 (EB DP 78 85 [])),EB DP 78 0 a,EB DP 78 0 a,EB DP 78 0 a]
def vF:Rd (DL×(List Int)×(List HY)×Int) (Sum (List Int) (Int×Int)):=λa (b,c,d,e)=>bif e<6 then(at? d e).bind λf=>(at? b e).bind λg=>bif !(DW DP g.toNat f).isSome then some (.inr (0,7))else(in? 6 e).bind λ_=>a (b,c.set e.toNat ((DW DP g.toNat f).getD 0),d,i64.wrap (e+1))else some (.inl c)
def gN:=DX vF fuel
def S2:DL->Option (Int×Int):=λa=>(gM ()).bind λb=>bif !DP a.length 6 then some (0,2)else(gN (a,List.replicate 6 0,b,0)).bind λa=>match a with|.inl a=>let b:=i64.wrap (i64.wrap (i64.wrap (100-a.getD 3 0)*i64.wrap (100-a.getD 4 0))*i64.wrap (100-a.getD 5 0));bif DP (i64.wrap (1000000-b)) 0 then some (0,0)else(div? i64 (i64.wrap (i64.wrap (i64.wrap (10*i64.wrap (i64.wrap (642*i64.wrap (1000000-b))+i64.wrap (i64.wrap (i64.wrap (822*a.getD 0 0)*a.getD 1 0)*a.getD 2 0)))+100000000)-1)) 100000000).bind λa=>some (YD 100 a,0)|.inr a=>(a.1,a.2)
def A3t:Rd ((List Int)×Int×Int) (List Int):=λa (b,c,d)=>bif d<c then(in? b.length d).bind λ_=>bif 65<=b.getD d.toNat 0&&b.getD d.toNat 0<=90 then(in? b.length d).bind λ_=>a (b.set d.toNat (u8.wrap (u8.wrap (b.getD d.toNat 0+97)-65)),c,i64.wrap (d+1))else a (b,c,i64.wrap (d+1))else b
def vG:=DX A3t fuel
def TO:DL->Option DL:=λa=>(vG (FY a,((FY a).length:Int),0)).bind λa=>(cat? [] (IR a)).bind λa=>a
def N9:EQ×Int->Option EQ:=λ(a,b)=>bif a.2.2<0 then(a.1,a.2.1,b)else a
def L6:Option EQ->Option (Int):=λa=>(a).bind λb=>(a).bind λc=>bif b.2.1<c.1.length then(a).bind λb=>(a).bind λa=>(at? b.1 a.2.1).bind λa=>some a.toNat else some 0
def ZM:Int->Option (Bool):=λa=>some (97<=a&&a<=122||65<=a&&a<=90)
def A3u:Rd (EQ×Int) (Sum EQ (EQ×DL)):=λa (b,c)=>bif c<4 then(bif !(b.1.length<=c)then cut? b.1 c (i64.wrap (c+1))else some []).bind λd=>(bif !(b.1.length<=c)then TO d else some []).bind λd=>(bif !(b.1.length<=c)then cut? [112,107,103,58] c (i64.wrap (c+1))else some []).bind λe=>bif b.1.length<=c||!DQ d e then(N9 (b,c)).bind λd=>some (.inr (d,[]))else a (b,i64.wrap (c+1))else some (.inl b)
def vH:=DX A3u fuel
def A3v:Rd EQ EQ:=λa b=>(bif b.2.1<b.1.length then at? b.1 b.2.1 else some 0).bind λc=>(bif b.2.1<b.1.length then ZM c.toNat else some false).bind λc=>bif b.2.1<b.1.length&&c then a (b.1,i64.wrap (b.2.1+1),b.2.2)else b
def vI:=DX A3v fuel
def gO:EQ×Bool->Option EQ:=λ(a,b)=>bif b then some (a.1,i64.wrap (a.2.1+1),a.2.2)else(vI a).bind λa=>a
def ZN:EQ×Bool->Option (DL×EQ):=λ(a,b)=>(vH (a,0)).bind λa=>match a with|.inl a=>(bif b then L6 (some (a.1,4,a.2.2))else some 0).bind λc=>(gO ((a.1,4,a.2.2),b&&DP c 42)).bind λa=>(cut? a.1 4 a.2.1).bind λb=>(bif !DQ b []then L6 (some a)else some 0).bind λc=>bif DQ b []||!DP c 47 then(N9 (a,a.2.1)).bind λc=>some ([],c)else(TO b).bind λb=>some (b,a.1,i64.wrap (a.2.1+1),a.2.2)|.inr a=>(a.2,a.1)
def gP:EQ×Int×Int×Bool->Option (EQ×Int):=λ(a,b,c,d)=>bif d then(at? a.1 (i64.wrap (a.2.1+b))).bind λb=>(ZJ b.toNat).bind λb=>(a,b)else(a,c)
def A3w:Rd (EQ×Int×Int) (Sum (EQ×Int) (EQ×Int×Bool)):=λa (b,c,d)=>bif d<=2 then(gP (b,d,-1,i64.wrap (b.2.1+d)<b.1.length)).bind λe=>bif e.2<0 then(N9 (e.1,i64.wrap (e.1.2.1+d))).bind λf=>some (.inr (f,0,false))else a (e.1,i64.wrap (i64.wrap (16*c)+e.2),i64.wrap (d+1))else some (.inl (b,c))
def vJ:=DX A3w fuel
def ZO:DL×Int×Int->Option (Int×Bool×EQ):=λa=>bif a.1.length<=a.2.1 then some (0,false,a)else(at? a.1 a.2.1).bind λb=>bif !DP b.toNat 37 then let c:=((b.toNat:Int)<33||126<(b.toNat:Int));(bif !c then strings_IndexByte ([47,64,63,35,38,61],b.toNat)else some 0).bind λd=>bif c||0<=d then some (0,false,a)else some (b.toNat,true,a.1,i64.wrap (a.2.1+1),a.2.2)else(vJ (a,0,1)).bind λa=>match a with|.inl a=>some (u8.wrap a.2,true,a.1.1,i64.wrap (a.1.2.1+3),a.1.2.2)|.inr a=>(a.2.1,a.2.2,a.1)
def A3x:Rd (EQ×(List Int)) (EQ×(List Int)):=λa (b,c)=>bif b.2.2<0 then(ZO b).bind λd=>bif !d.2.1 then(d.2.2,c)else(app? 24 c [d.1]).bind λe=>a (d.2.2,e)else(b,c)
def vK:=DX A3x fuel
def TP:DL×Int×Int->Option (DL×EQ):=λa=>(vK (a,[])).bind λa=>bif DP a.2.length 0 then(N9 (a.1,a.1.2.1)).bind λb=>(cat? [] (IR a.2)).bind λc=>(c,b)else(cat? [] (IR a.2)).bind λb=>(b,a.1)
def A3y:Rd (EQ×(List DL)) (EQ×(List DL)):=λa (b,c)=>(bif b.2.2<0 then L6 (some b)else some 0).bind λd=>bif b.2.2<0&&DP d 47 then(TP (b.1,i64.wrap (b.2.1+1),b.2.2)).bind λd=>(app? 24 c [d.1]).bind λe=>a (d.2,e)else(b,c)
def vL:=DX A3y fuel
def ZP:DL×Int×Int->Option ((List DL)×EQ):=λa=>(TP a).bind λa=>(vL (a.2,[a.1])).bind λa=>(a.2,a.1)
def A3z:Rd (EQ×Int) EQ:=λa (b,c)=>(bif b.2.1<b.1.length then at? b.1 b.2.1 else some 0).bind λd=>(bif b.2.1<b.1.length then ZH (d.toNat,DP b.2.1 c)else some false).bind λd=>bif b.2.1<b.1.length&&d then a ((b.1,i64.wrap (b.2.1+1),b.2.2),c)else b
def vM:=DX A3z fuel
def gQ:DL×Int×Int->Option ((DL×DL)×EQ):=λa=>(vM (a,a.2.1)).bind λb=>(cut? b.1 a.2.1 b.2.1).bind λa=>(bif !DQ a []then L6 (some b)else some 0).bind λc=>bif DQ a []||!DP c 61 then(N9 (b,b.2.1)).bind λc=>some (([],[]),c)else(TP (b.1,i64.wrap (b.2.1+1),b.2.2)).bind λb=>some ((a,b.1),b.2)
def gR:EQ×IF×Bool->Option (EQ×IF):=λ(a,b,c)=>bif c then(TP (a.1,i64.wrap (a.2.1+1),a.2.2)).bind λc=>(c.2,b.1,b.2.1,b.2.2.1,c.1,b.2.2.2.2.1,b.2.2.2.2.2)else(a,b.1,b.2.1,b.2.2.1,b.2.2.2.1,b.2.2.2.2.1,b.2.2.2.2.2)
def A40:Rd (EQ×IF×Int) (EQ×IF):=λa (b,c,d)=>let e:=(b.2.2<0&&b.2.1<b.1.length);(bif e then L6 (some b)else some 0).bind λf=>bif e&&DP f d then(gQ (b.1,i64.wrap (b.2.1+1),b.2.2)).bind λd=>(app? 48 c.2.2.2.2.1 [d.1]).bind λe=>a (d.2,(c.1,c.2.1,c.2.2.1,c.2.2.2.1,e,c.2.2.2.2.2),38)else(b,c.1,c.2.1,c.2.2.1,c.2.2.2.1,c.2.2.2.2.1,c.2.2.2.2.2)
def vN:=DX A40 fuel
def gS:EQ×IF×Bool->Option (EQ×IF):=λ(a,b,c)=>bif c then(ZP (a.1,i64.wrap (a.2.1+1),a.2.2)).bind λc=>(strings_Join (c.1,[47])).bind λd=>(c.2,b.1,b.2.1,b.2.2.1,b.2.2.2.1,b.2.2.2.2.1,d)else(a,b.1,b.2.1,b.2.2.1,b.2.2.2.1,b.2.2.2.2.1,b.2.2.2.2.2)
def gT:DL×Int×Int->Option (IF×EQ):=λa=>(ZN (a,false)).bind λa=>bif 0<=a.2.2.2 then some ((a.1,[],[],[],[],[]),a.2)else(ZP a.2).bind λb=>(cut? b.1 0 (i64.wrap (b.1.length-1))).bind λc=>(strings_Join (c,[47])).bind λc=>(at? b.1 (i64.wrap (b.1.length-1))).bind λd=>(bif b.2.2.2<0 then L6 (some b.2)else some 0).bind λe=>(gR (b.2,(a.1,c,d,[],[],[]),(b.2.2.2<0)&&DP e 64)).bind λa=>(vN (a.1,(a.2.1,a.2.2.1,a.2.2.2.1,a.2.2.2.2.1,a.2.2.2.2.2.1,a.2.2.2.2.2.2),63)).bind λa=>(bif a.1.2.2<0 then L6 (some a.1)else some 0).bind λb=>(gS (a.1,(a.2.1,a.2.2.1,a.2.2.2.1,a.2.2.2.2.1,a.2.2.2.2.2.1,a.2.2.2.2.2.2),(a.1.2.2<0)&&DP b 35)).bind λa=>bif a.1.2.2<0&&a.1.2.1<a.1.1.length then(N9 (a.1,a.1.2.1)).bind λb=>some ((a.2.1,a.2.2.1,a.2.2.2.1,a.2.2.2.2.1,a.2.2.2.2.2.1,a.2.2.2.2.2.2),b)else some ((a.2.1,a.2.2.1,a.2.2.2.1,a.2.2.2.2.1,a.2.2.2.2.2.1,a.2.2.2.2.2.2),a.1)
def A41:Rd (DU×Int×FM×Int) DU:=λa (b,c,d,e)=>(bif c<e then in? b.length e else some ()).bind λ_=>(bif c<e then in? b.length (i64.wrap (e-1))else some ()).bind λ_=>(bif c<e then d (b.getD e.toNat ([],[]),b.getD ((i64.wrap (e-1)).toNat) ([],[]))else some 0).bind λf=>bif c<e&&f<0 then(in? b.length (i64.wrap (e-1))).bind λ_=>let f:=b.getD ((i64.wrap (e-1)).toNat) ([],[]);(in? b.length e).bind λ_=>(in? b.length e).bind λ_=>(in? (b.set e.toNat f).length (i64.wrap (e-1))).bind λ_=>a ((b.set e.toNat f).set ((i64.wrap (e-1)).toNat) (b.getD e.toNat ([],[])),c,d,i64.wrap (e-1))else b
def vO:=DX A41 fuel
def A42:Rd (DU×Int×Int×FM×Int) DU:=λa (b,c,d,e,f)=>bif f<d then(vO (b,c,e,f)).bind λg=>a (g,c,d,e,i64.wrap (f+1))else b
def vP:=DX A42 fuel
def ZQ:DU×Int×Int×FM->Option DU:=λ(a,b,c,d)=>(vP (a,b,c,d,i64.wrap (b+1))).bind λa=>a
def A43:Rd (DU×Int×Int×Int×Int) DU:=λa (b,c,d,e,f)=>bif f<e then(in? b.length (i64.wrap (d+f))).bind λ_=>let g:=b.getD ((i64.wrap (d+f)).toNat) ([],[]);(in? b.length (i64.wrap (c+f))).bind λ_=>(in? b.length (i64.wrap (c+f))).bind λ_=>(in? (b.set ((i64.wrap (c+f)).toNat) g).length (i64.wrap (d+f))).bind λ_=>a ((b.set ((i64.wrap (c+f)).toNat) g).set ((i64.wrap (d+f)).toNat) (b.getD ((i64.wrap (c+f)).toNat) ([],[])),c,d,e,i64.wrap (f+1))else b
def vQ:=DX A43 fuel
def VV:DU×Int×Int×Int×FM->Option DU:=λ(a,b,c,d,_)=>(vQ (a,b,c,d,0)).bind λa=>a
def A44:Rd (DU×Int×FM×Int×Int) (DU×Int):=λa (b,c,d,e,f)=>bif !DP e f then bif f<e then(VV (b,i64.wrap (c-e),c,f,d)).bind λg=>a (g,c,d,i64.wrap (e-f),f)else(VV (b,i64.wrap (c-e),i64.wrap (i64.wrap (c+f)-e),e,d)).bind λg=>a (g,c,d,e,i64.wrap (f-e))else(b,e)
def vR:=DX A44 fuel
def gU:DU×Int×Int×Int×FM->Option DU:=λ(a,b,c,d,e)=>(vR (a,c,e,i64.wrap (c-b),i64.wrap (d-c))).bind λa=>(VV (a.1,i64.wrap (c-a.2),c,a.2,e)).bind λa=>a
def A45(slf:DU×Int×Int×Int×FM->Option DU)(a:DU×Int×FM×Int×Int->Option (DU×Int)):DU×Int×FM×Int×Int->Option (DU×Int):=λ(b,c,d,e,f)=>bif e<f then(shr? u64 (u64.wrap (i64.wrap (e+f))) 1).bind λg=>(in? b.length (i64.wrap g)).bind λ_=>(in? b.length c).bind λ_=>(d (b.getD ((i64.wrap g).toNat) ([],[]),b.getD c.toNat ([],[]))).bind λh=>bif h<0 then a (b,c,d,i64.wrap (i64.wrap g+1),f)else a (b,c,d,e,i64.wrap g)else(b,e)
def vS(slf:DU×Int×Int×Int×FM->Option DU):DU×Int×FM×Int×Int->Option (DU×Int):=DX (A45 slf) fuel
def A46(slf:DU×Int×Int×Int×FM->Option DU)(a:DU×Int×Int->Option DU):DU×Int×Int->Option DU:=λ(b,c,d)=>bif d<i64.wrap (c-1)then(in? b.length (i64.wrap (d+1))).bind λ_=>let e:=b.getD ((i64.wrap (d+1)).toNat) ([],[]);(in? b.length d).bind λ_=>(in? b.length d).bind λ_=>(in? (b.set d.toNat e).length (i64.wrap (d+1))).bind λ_=>a ((b.set d.toNat e).set ((i64.wrap (d+1)).toNat) (b.getD d.toNat ([],[])),c,i64.wrap (d+1))else b
def vT(slf:DU×Int×Int×Int×FM->Option DU):DU×Int×Int->Option DU:=DX (A46 slf) fuel
def A47(slf:DU×Int×Int×Int×FM->Option DU)(a:DU×Int×FM×Int×Int->Option (DU×Int)):DU×Int×FM×Int×Int->Option (DU×Int):=λ(b,c,d,e,f)=>bif e<f then(shr? u64 (u64.wrap (i64.wrap (e+f))) 1).bind λg=>(in? b.length c).bind λ_=>(in? b.length (i64.wrap g)).bind λ_=>(d (b.getD c.toNat ([],[]),b.getD ((i64.wrap g).toNat) ([],[]))).bind λh=>bif !(h<0)then a (b,c,d,i64.wrap (i64.wrap g+1),f)else a (b,c,d,e,i64.wrap g)else(b,e)
def vU(slf:DU×Int×Int×Int×FM->Option DU):DU×Int×FM×Int×Int->Option (DU×Int):=DX (A47 slf) fuel
def A48(slf:DU×Int×Int×Int×FM->Option DU)(a:DU×Int×Int->Option DU):DU×Int×Int->Option DU:=λ(b,c,d)=>bif c<d then(in? b.length (i64.wrap (d-1))).bind λ_=>let e:=b.getD ((i64.wrap (d-1)).toNat) ([],[]);(in? b.length d).bind λ_=>(in? b.length d).bind λ_=>(in? (b.set d.toNat e).length (i64.wrap (d-1))).bind λ_=>a ((b.set d.toNat e).set ((i64.wrap (d-1)).toNat) (b.getD d.toNat ([],[])),c,i64.wrap (d-1))else b
def vV(slf:DU×Int×Int×Int×FM->Option DU):DU×Int×Int->Option DU:=DX (A48 slf) fuel
def gV(slf:DU×Int×Int×Int×FM->Option DU):Int×Int×Int×Int×Int×Bool->Option (Int×Int):=λ(a,b,c,d,e,f)=>bif f then some (i64.wrap (e-c),d)else(a,b)
def A49(slf:DU×Int×Int×Int×FM->Option DU)(a:DU×FM×Int×Int×Int->Option (DU×Int)):DU×FM×Int×Int×Int->Option (DU×Int):=λ(b,c,d,e,f)=>bif d<e then(shr? u64 (u64.wrap (i64.wrap (d+e))) 1).bind λg=>(in? b.length (i64.wrap (f-i64.wrap g))).bind λ_=>(in? b.length (i64.wrap g)).bind λ_=>(c (b.getD ((i64.wrap (f-i64.wrap g)).toNat) ([],[]),b.getD ((i64.wrap g).toNat) ([],[]))).bind λh=>bif !(h<0)then a (b,c,i64.wrap (i64.wrap g+1),e,f)else a (b,c,d,i64.wrap g,f)else(b,d)
def vW(slf:DU×Int×Int×Int×FM->Option DU):DU×FM×Int×Int×Int->Option (DU×Int):=DX (A49 slf) fuel
def gW(slf:DU×Int×Int×Int×FM->Option DU):DU×Int×FM×Int×Int×Bool->Option DU:=λ(a,b,c,d,e,f)=>bif f then(gU (a,d,b,e,c)).bind λb=>b else a
def gX(slf:DU×Int×Int×Int×FM->Option DU):DU×Int×FM×Int×Int×Bool->Option DU:=λ(a,b,c,d,e,f)=>bif f then(slf (a,b,e,d,c)).bind λb=>b else a
def vX(slf:DU×Int×Int×Int×FM->Option DU):DU×Int×Int×Int×FM->Option DU:=λ(a,b,c,d,e)=>bif DP (i64.wrap (c-b)) 1 then(vS slf (a,b,e,c,d)).bind λf=>(vT slf (f.1,f.2,b)).bind λf=>f else bif DP (i64.wrap (d-c)) 1 then(vU slf (a,c,e,b,c)).bind λf=>(vV slf (f.1,f.2,c)).bind λf=>f else(shr? u64 (u64.wrap (i64.wrap (b+d))) 1).bind λf=>(gV slf (b,c,d,i64.wrap f,i64.wrap (i64.wrap f+c),i64.wrap f<c)).bind λg=>(vW slf (a,e,g.1,g.2,i64.wrap (i64.wrap (i64.wrap f+c)-1))).bind λa=>let g:=i64.wrap (i64.wrap (i64.wrap f+c)-a.2);(gW slf (a.1,c,e,a.2,g,(a.2<c)&&c<g)).bind λc=>(gX slf (c,b,e,i64.wrap f,a.2,(b<a.2)&&a.2<i64.wrap f)).bind λa=>bif i64.wrap f<g&&g<d then(slf (a,i64.wrap f,g,d,e)).bind λb=>b else a
def MF:Nat->DU×Int×Int×Int×FM->Option DU
 |0=>λ_=>none
 |n+1=>vX (MF n)
def ZR:DU×Int×Int×Int×FM->Option DU:=MF 100
def A4A:Rd (DU×Int×FM×Int×Int×Int) (DU×Int):=λa (b,c,d,e,f,g)=>bif g<=c then(ZQ (b,f,g,d)).bind λh=>a (h,c,d,e,g,i64.wrap (g+e))else(b,f)
def vY:=DX A4A fuel
def A4B:Rd (DU×Int×FM×Int×Int×Int) (DU×Int):=λa (b,c,d,e,f,g)=>bif g<=c then(ZR (b,f,i64.wrap (f+e),g,d)).bind λh=>a (h,c,d,e,g,i64.wrap (g+i64.wrap (2*e)))else(b,f)
def vZ:=DX A4B fuel
def A4C:Rd (DU×Int×FM×Int) DU:=λa (b,c,d,e)=>bif e<c then(vZ (b,c,d,e,0,i64.wrap (2*e))).bind λf=>bif i64.wrap (f.2+e)<c then(ZR (f.1,f.2,i64.wrap (f.2+e),c,d)).bind λg=>a (g,c,d,i64.wrap (e*2))else a (f.1,c,d,i64.wrap (e*2))else b
def v_:=DX A4C fuel
def gY:DU×Int×FM->Option DU:=λ(a,b,c)=>(vY (a,b,c,20,0,20)).bind λa=>(ZQ (a.1,a.2,b,c)).bind λa=>(v_ (a,b,c,20)).bind λa=>a
def gZ:DU×FM->Option DU:=λ(a,b)=>(gY (a,a.length,b)).bind λa=>a
def g_:(DL×DL)×(DL×DL)->Option (Int):=λ(a,b)=>(LV (a.1,b.1)).bind λa=>a
def ZS:Int->Option (Bool):=λa=>some (DP a 45||DP a 95||DP a 46)
def OV:(List Int)×Int->Option (Unit×(List Int)):=λ(a,b)=>(fP a).bind λa=>(app? 24 a [b]).bind λa=>some ((),a)
def A4D:Rd (DL×(List Int)×Int×Int) (List Int):=λa (b,c,d,e)=>bif e<d then(at? b e).bind λf=>(ZS f.toNat).bind λf=>bif !f then(at? b e).bind λf=>(OV (c,f.toNat)).bind λf=>a (b,f.2,d,i64.wrap (e+1))else(bif !DP e 0 then at? b (i64.wrap (e-1))else some 0).bind λf=>(bif !DP e 0 then ZS f.toNat else some false).bind λf=>bif DP e 0||!f then(OV (c,45)).bind λf=>a (b,f.2,d,i64.wrap (e+1))else a (b,c,d,i64.wrap (e+1))else c
def w6:=DX A4D fuel
def hY:DL->Option DL:=λa=>(w6 (a,[],a.length,0)).bind λa=>(PY a).bind λa=>a
def hZ:HX×Bool->Option HX:=λ(a,b)=>bif b then(TO a.2.1).bind λb=>(TO a.2.2.1).bind λc=>(a.1,b,c,a.2.2.2)else a
def TQ:DL×DL×DL×DL×DU×DL->Option HX:=λa=>(VS a.1).bind λb=>(hZ (a,b.1.2.2.1)).bind λa=>bif b.1.2.2.2.1 then(hY a.2.2.1).bind λb=>(app? 48 [] a.2.2.2.2.1).bind λc=>(a.1,a.2.1,b,a.2.2.2.1,c,a.2.2.2.2.2)else(app? 48 [] a.2.2.2.2.1).bind λb=>(a.1,a.2.1,a.2.2.1,a.2.2.2.1,b,a.2.2.2.2.2)
def A4E:Rd (HX×IF×Int) (Sum (HX×IF) (HX×Int×Int)):=λa (b,c,d)=>bif d<c.2.2.2.2.1.length then(in? c.2.2.2.2.1.length d).bind λ_=>(in? c.2.2.2.2.1.length (i64.wrap (d-1))).bind λ_=>bif DQ ((c.2.2.2.2.1.getD d.toNat ([],[])).1) ((c.2.2.2.2.1.getD ((i64.wrap (d-1)).toNat) ([],[])).1)then some (.inr (([],[],[],[],[],[]),0,5))else a (b,(c.1,c.2.1,c.2.2.1,c.2.2.2.1,c.2.2.2.2.1,c.2.2.2.2.2),i64.wrap (d+1))else some (.inl (b,c.1,c.2.1,c.2.2.1,c.2.2.2.1,c.2.2.2.2.1,c.2.2.2.2.2))
def w7:=DX A4E fuel
def VW:DL->Option (HX×Int×Int):=λa=>bif 3000<(a.length:Int)then some (([],[],[],[],[],[]),0,3)else(gT (a,0,-1)).bind λa=>bif 0<=a.2.2.2 then some (([],[],[],[],[],[]),a.2.2.2,6)else(gZ (a.1.2.2.2.2.1,λx=>(g_ x).bind λr=>r)).bind λb=>(w7 (([],[],[],[],[],[]),(a.1.1,a.1.2.1,a.1.2.2.1,a.1.2.2.2.1,b,a.1.2.2.2.2.2),1)).bind λa=>match a with|.inl a=>(KR (a.2.1,a.2.2.1,a.2.2.2.1,a.2.2.2.2.1,a.2.2.2.2.2.1,a.2.2.2.2.2.2)).bind λb=>bif !DP b 0 then some (([],[],[],[],[],[]),0,b)else(TQ (a.2.1,a.2.2.1,a.2.2.2.1,a.2.2.2.2.1,a.2.2.2.2.2.1,a.2.2.2.2.2.2)).bind λa=>some (a,0,0)|.inr a=>(a.1,a.2.1,a.2.2)
def S3:(List Int)×DL->Option (Int×Unit×(List Int)):=λ(a,b)=>(fP a).bind λa=>(app? 24 a (FY b)).bind λa=>some (b.length,(),a)
def A4F:Rd (DL×(List Int)×Int×Int) (List Int):=λa (b,c,d,e)=>bif e<d then(at? b e).bind λf=>(ZM f.toNat).bind λg=>let h:=(48<=(f.toNat:Int)&&(f.toNat:Int)<=57);(bif !(g||h)then strings_IndexByte ([46,45,95,126],f.toNat)else some 0).bind λi=>bif g||h||0<=i then(OV (c,f.toNat)).bind λg=>a (b,g.2,d,i64.wrap (e+1))else(div? u8 f.toNat 16).bind λg=>(div? u8 f.toNat 16).bind λh=>(cut? [48,49,50,51,52,53,54,55,56,57,65,66,67,68,69,70] g (u8.wrap (h+1))).bind λg=>(cat? [37] g).bind λg=>(mod? f.toNat 16).bind λh=>(mod? f.toNat 16).bind λf=>(cut? [48,49,50,51,52,53,54,55,56,57,65,66,67,68,69,70] h (u8.wrap (f+1))).bind λf=>(cat? g f).bind λf=>(S3 (c,f)).bind λf=>a (b,f.2.2,d,i64.wrap (e+1))else c
def w8:=DX A4F fuel
def VX:DL->Option DL:=λa=>(w8 (a,[],a.length,0)).bind λa=>(PY a).bind λa=>a
def A4G:Rd ((List DL)×(List DL)×Int×Int) (List DL):=λa (b,c,d,e)=>bif e<d then(at? c e).bind λf=>(VX f).bind λf=>(app? 24 b [f]).bind λf=>a (f,c,d,i64.wrap (e+1))else b
def w9:=DX A4G fuel
def iA:DL->Option DL:=λa=>(TN a).bind λa=>(w9 ([],a,a.length,0)).bind λa=>(strings_Join (a,[47])).bind λa=>a
def iB:DL×DL×DL×DL×DU×DL->Option DL:=λa=>(cat? [112,107,103,58] a.1).bind λb=>(cat? b [47]).bind λb=>bif !DQ a.2.1 []then(iA a.2.1).bind λc=>(cat? c [47]).bind λc=>(cat? b c).bind λc=>(VX a.2.2.1).bind λd=>(cat? c d).bind λc=>c else(VX a.2.2.1).bind λa=>(cat? b a).bind λa=>a
def J4:DL×DL×DL×DL×DU×DL->Option (DL×Int):=λa=>(KR a).bind λb=>bif !DP b 0 then some ([],b)else(TQ a).bind λa=>(iB a).bind λa=>some (a,0)
def iC:DL->Option (Bool):=λa=>(VW a).bind λb=>bif !DP b.2.2 0 then some false else(J4 b.1).bind λb=>some (DP b.2 0&&DQ b.1 a)
def A4H:Rd (DL×Int×N7×Int) (Int):=λa (b,c,d,e)=>let f:=decide (i64.wrap (c+e)<b.length);(bif f then at? b (i64.wrap (c+e))else some 0).bind λg=>(bif f then d g.toNat else some false).bind λg=>bif f&&g then a (b,c,d,i64.wrap (e+1))else e
def wA:=DX A4H fuel
def J5:DL×Int×N7->Option (Int):=λ(a,b,c)=>(wA (a,b,c,0)).bind λa=>a
def H1:Int->Option (Bool):=λa=>some (48<=a&&a<=57)
def KC:DL->Option (Int×Bool):=λa=>let b:=(DQ a []||18<(a.length:Int));(bif !b then J5 (a,0,λx=>(H1 x).bind λr=>r)else some 0).bind λc=>bif b||!DP c a.length then some (0,false)else(fO a).bind λa=>some (a.1,true)
def TR:DL->Option (Int×Bool):=λa=>(bif 1<(a.length:Int)then at? a 0 else some 0).bind λb=>bif 1<(a.length:Int)&&DP b.toNat 48 then some (0,false)else(KC a).bind λa=>(a.1,a.2)
def NA:Int->Option (Bool):=λa=>some (65<=a&&a<=90||97<=a&&a<=122)
def iD:Int->Option (Bool):=λa=>(H1 a).bind λb=>(bif !b then NA a else some false).bind λc=>some (b||c||DP a 45)
def A4I:Rd ((List DL)×Int×Int) (Sum (Unit) L5):=λa (b,c,d)=>bif d<c then(at? b d).bind λe=>(bif !DQ e []then J5 (e,0,λx=>(iD x).bind λr=>r)else some 0).bind λf=>bif DQ e []||!DP f e.length then some (.inr ([],false))else a (b,c,i64.wrap (d+1))else some (.inl ())
def wB:=DX A4I fuel
def ZT:DL->Option L5:=λa=>(strings_Split (a,[46])).bind λa=>(wB (a,a.length,0)).bind λb=>match b with|.inl _=>some (a,true)|.inr a=>(a.1,a.2)
def A4J:Rd ((List DL)×Int×Int) (Sum (Unit) L5):=λa (b,c,d)=>bif d<c then(at? b d).bind λe=>(J5 (e,0,λx=>(H1 x).bind λr=>r)).bind λf=>bif DP f e.length then(TR e).bind λe=>bif !e.2 then some (.inr ([],false))else a (b,c,i64.wrap (d+1))else a (b,c,i64.wrap (d+1))else some (.inl ())
def wC:=DX A4J fuel
def iE:DL->Option L5:=λa=>(ZT a).bind λa=>(wC (a.1,a.1.length,0)).bind λb=>match b with|.inl _=>(a.1,a.2)|.inr a=>(a.1,a.2)
def iF:DL->Option L5:=λa=>(strings_Cut (a,[43])).bind λa=>(ZT a.2.1).bind λb=>bif a.2.2&&!b.2 then some ([],false)else bif DQ a.1 []then some ([],true)else(at? a.1 0).bind λb=>bif !DP b.toNat 45 then some ([],false)else(cut? a.1 1 a.1.length).bind λa=>(iE a).bind λa=>(a.1,a.2)
def iG:DL×Int×Bool->Option (Sum (Int) (H9×Bool)):=λ(a,b,c)=>bif c then(bif !(a.length<=b)then at? a b else some 0).bind λc=>bif a.length<=b||!DP c.toNat 46 then some (.inr (.inr (.inr (.inr (.inr (.inr ())))),false))else some (.inl (i64.wrap (b+1)))else some (.inl b)
def A4K:Rd (DL×KP×Int×Int) (Sum (KP×Int) (H9×Bool)):=λa (b,c,d,e)=>bif e<3 then(iG (b,d,0<e)).bind λf=>match f with|.inl f=>(J5 (b,f,λx=>(H1 x).bind λr=>r)).bind λg=>(cut? b f (i64.wrap (f+g))).bind λh=>(TR h).bind λh=>bif !h.2 then some (.inr (.inr (.inr (.inr (.inr (.inr ())))),false))else(in? 3 e).bind λ_=>a (b,(c.1.set e.toNat h.1,c.2),i64.wrap (f+g),i64.wrap (e+1))|.inr a=>some (.inr (a.1,a.2))else some (.inl ((c.1,c.2),d))
def wD:=DX A4K fuel
def iH:DL->Option (H9×Bool):=λa=>(wD (a,(List.replicate 3 0,[]),0,0)).bind λb=>match b with|.inl b=>(cut? a b.2 a.length).bind λa=>(iF a).bind λa=>some (.inl (b.1.1,a.1),a.2)|.inr a=>(a.1,a.2)
def iI:Int->Option (Bool):=λa=>(H1 a).bind λb=>(bif !b then NA a else some false).bind λc=>(bif !(b||c)then strings_IndexByte ([46,43,126,45],a)else some 0).bind λa=>some (b||c||0<=a)
def A4L:Rd (DL×Int) LU:=λa (b,c)=>bif c<b.length then(J5 (b,c,λx=>(H1 x).bind λr=>r)).bind λd=>bif 18<d then some (.inr false)else a (b,i64.wrap (c+YE d 1))else some (.inl ())
def wE:=DX A4L fuel
def iJ:DL->Option (Bool):=λa=>(wE (a,0)).bind λa=>match a with|.inl _=>some true|.inr a=>a
def iK:DL×K9×DL×DL×Bool->Option (Sum (DL×K9) (H9×Bool)):=λ(a,b,c,d,e)=>bif e then(TR c).bind λc=>bif !c.2 then some (.inr (.inr (.inr (.inr (.inr (.inr ())))),false))else some (.inl (d,c.1,b.2))else some (.inl (a,b))
def iL:DL->Option (H9×Bool):=λa=>(strings_Cut (a,[58])).bind λb=>(iK (a,(0,[],[],false),b.1,b.2.1,b.2.2)).bind λa=>match a with|.inl a=>(bif !DQ a.1 []then at? a.1 0 else some 0).bind λb=>(bif !DQ a.1 []then H1 b.toNat else some false).bind λb=>(bif !(DQ a.1 []||!b)then J5 (a.1,0,λx=>(iI x).bind λr=>r)else some 0).bind λc=>let d:=(DQ a.1 []||!b||!DP c a.1.length);(bif !d then iJ a.1 else some false).bind λb=>bif d||!b then some (.inr (.inr (.inr (.inr (.inr ())))),false)else(strings_LastIndexByte (a.1,45)).bind λb=>bif 0<=b then(cut? a.1 0 b).bind λc=>(cut? a.1 (i64.wrap (b+1)) a.1.length).bind λb=>bif DQ b []then some (.inr (.inr (.inr (.inr (.inr ())))),false)else(strings_IndexByte (c,45)).bind λd=>some (.inr (.inl (a.2.1,c,b,0<=d)),true)else(strings_IndexByte (a.1,45)).bind λb=>some (.inr (.inl (a.2.1,a.1,a.2.2.2.1,0<=b)),true)|.inr a=>(a.1,a.2)
def A4M:Rd (DL×(List Int)) ((List Int)×DL×Bool):=λa (b,c)=>(J5 (b,0,λx=>(H1 x).bind λr=>r)).bind λd=>(cut? b 0 d).bind λe=>(KC e).bind λe=>bif !e.2 then some ([],[],false)else(app? 24 c [e.1]).bind λc=>(cut? b d b.length).bind λb=>(bif !((b.length:Int)<2)then at? b 0 else some 0).bind λd=>let e:=((b.length:Int)<2||!DP d.toNat 46);(bif !e then at? b 1 else some 0).bind λd=>(bif !e then H1 d.toNat else some false).bind λd=>bif e||!d then some (c,b,true)else(cut? b 1 b.length).bind λb=>a (b,c)
def wF:=DX A4M fuel
def iM:DL->Option ((List Int)×DL×Bool):=λa=>(wF (a,[])).bind λa=>(a.1,a.2.1,a.2.2)
def wG:Int->Option (Bool):=λa=>some (DP a 46||DP a 45||DP a 95)
def ZU:DL×N7->Option (Int):=λ(a,b)=>(bif 1<(a.length:Int)then at? a 0 else some 0).bind λc=>(bif 1<(a.length:Int)then wG c.toNat else some false).bind λc=>(bif 1<(a.length:Int)&&c then at? a 1 else some 0).bind λd=>(bif 1<(a.length:Int)&&c then b d.toNat else some false).bind λb=>bif 1<(a.length:Int)&&c&&b then some 1 else some 0
def A4N:Rd (DL×DL×(List DL)×Int×Int) DL:=λa (b,c,d,e,f)=>bif f<e then(at? d f).bind λg=>(strings_HasPrefix (b,g)).bind λh=>bif h then g else a (b,c,d,e,i64.wrap (f+1))else c
def wH:=DX A4N fuel
def iN:DL×Bool->Option (Bool):=λ(a,b)=>bif b then b else some (DQ a [97,108,112,104,97])
def iO:DL×Bool->Option (Bool):=λ(a,b)=>bif b then b else some (DQ a [98,101,116,97])
def iP:DL×Bool->Option (Bool):=λ(a,b)=>bif b then b else bif DQ a [114,99]then some (DQ a [114,99])else bif DQ a [112,114,101]then some (DQ a [112,114,101])else some (DQ a [112,114,101,118,105,101,119])
def iQ:DL->Option EQ:=λa=>let b:=[[112,114,101,118,105,101,119],[97,108,112,104,97],[98,101,116,97],[112,111,115,116],[112,114,101],[114,101,118],[100,101,118],[114,99],[97],[98],[99],[114]];(wH (a,[],b,b.length,0)).bind λa=>bif DQ a []then some ([],0,0)else(iN (a,DQ a [97])).bind λb=>bif b then some (a,1,1)else(iO (a,DQ a [98])).bind λb=>bif b then some (a,1,2)else(iP (a,DQ a [99])).bind λb=>bif b then some (a,1,3)else bif DQ a [112,111,115,116]then bif DQ a [112,111,115,116]then some (a,2,0)else some (a,3,0)else bif DQ a [114,101,118]then bif DQ a [114,101,118]then some (a,2,0)else some (a,3,0)else bif DQ a [114]then some (a,2,0)else some (a,3,0)
def iR:DL×Int×Int×Bool->Option (Sum (DL×Int) (DL×Bool)):=λ(a,b,c,d)=>bif d then(J5 (a,c,λx=>(H1 x).bind λr=>r)).bind λd=>(cut? a c (i64.wrap (c+d))).bind λe=>(KC e).bind λe=>bif !e.2 then some (.inr ([],false))else(cut? a (i64.wrap (c+d)) a.length).bind λc=>some (.inl (c,e.1))else some (.inl (a,b))
def A4O:Rd (FS×DL×Int) (FS×DL×Bool):=λa (b,c,d)=>(ZU (c,λx=>(NA x).bind λr=>r)).bind λe=>(cut? c e c.length).bind λe=>(iQ e).bind λf=>bif DQ f.1 []then some (b,c,true)else bif f.2.1<=d then some (b,[],false)else(cut? e f.1.length e.length).bind λc=>(ZU (c,λx=>(H1 x).bind λr=>r)).bind λd=>(bif !(0<d)&&!DQ c []then at? c 0 else some 0).bind λe=>(bif !(0<d)&&!DQ c []then H1 e.toNat else some false).bind λe=>(iR (c,0,d,(0<d)||!DQ c []&&e)).bind λc=>match c with|.inl c=>bif DP f.2.1 1 then a ((b.1,b.2.1,f.2.2,c.2,b.2.2.2.2),c.1,f.2.1)else bif DP f.2.1 2 then a ((b.1,b.2.1,b.2.2.1,b.2.2.2.1,c.2,b.2.2.2.2.2),c.1,f.2.1)else bif DP f.2.1 3 then a ((b.1,b.2.1,b.2.2.1,b.2.2.2.1,b.2.2.2.2.1,c.2,b.2.2.2.2.2.2),c.1,f.2.1)else a (b,c.1,f.2.1)|.inr a=>(b,a.1,a.2)
def wI:=DX A4O fuel
def iS:FS×DL->Option (DL×Bool×FS):=λ(a,b)=>(wI (a,b,0)).bind λa=>(a.2.1,a.2.2,a.1)
def wJ:Int->Option (Bool):=λa=>some (DP a 46||DP a 45||DP a 95)
def iT:Int->Option (Bool):=λa=>(H1 a).bind λb=>(bif !b then NA a else some false).bind λa=>some (b||a)
def A4P:Rd (Int×(List DL)×Int×Int) (Sum (Int) L5):=λa (b,c,d,e)=>bif e<d then(at? c e).bind λf=>(J5 (f,0,λx=>(H1 x).bind λr=>r)).bind λg=>(J5 (f,0,λx=>(iT x).bind λr=>r)).bind λh=>bif !DP h f.length||DP g f.length&&18<g then some (.inr ([],false))else a (i64.wrap (b+f.length),c,d,i64.wrap (e+1))else some (.inl b)
def wK:=DX A4P fuel
def iU:DL->Option L5:=λa=>(VO (a,λx=>(wJ x).bind λr=>r)).bind λb=>(wK (b.length,b,b.length,0)).bind λc=>match c with|.inl c=>some (b,(0<(b.length:Int))&&DP (i64.wrap (c-1)) a.length)|.inr a=>(a.1,a.2)
def iV:DL×FS×Int×Bool->Option (Sum (DL×FS) (H9×Bool)):=λ(a,b,c,d)=>bif d then(cut? a 0 c).bind λd=>(KC d).bind λd=>bif !d.2 then some (.inr (.inr (.inr (.inr (.inr (.inr ())))),false))else(cut? a (i64.wrap (c+1)) a.length).bind λc=>some (.inl (c,d.1,b.2))else some (.inl (a,b))
def iW:DL->Option (H9×Bool):=λa=>(strings_TrimPrefix (a,[118])).bind λa=>(J5 (a,0,λx=>(H1 x).bind λr=>r)).bind λb=>(bif b<a.length then at? a b else some 0).bind λc=>(iV (a,(0,[],0,0,-1,-1,[]),b,(b<a.length)&&DP c.toNat 33)).bind λa=>match a with|.inl a=>(iM a.1).bind λb=>bif !b.2.2 then some (.inr (.inr (.inr (.inr (.inr ())))),false)else(iS ((a.2.1,b.1,a.2.2.2),b.2.1)).bind λa=>bif !a.2.1 then some (.inr (.inr (.inr (.inr (.inr ())))),false)else(strings_CutPrefix (a.1,[43])).bind λb=>bif b.2 then(iU b.1).bind λb=>some (.inr (.inr (.inl (a.2.2.1,a.2.2.2.1,a.2.2.2.2.1,a.2.2.2.2.2.1,a.2.2.2.2.2.2.1,a.2.2.2.2.2.2.2.1,b.1))),b.2)else some (.inr (.inr (.inl a.2.2)),DQ a.1 [])|.inr a=>(a.1,a.2)
def iX:DL×Bool->Option DL:=λ(a,b)=>(ZE a).bind λa=>bif DQ a [97]&&b then some [97,108,112,104,97]else bif DQ a [98]&&b then some [98,101,116,97]else bif DQ a [109]&&b then some [109,105,108,101,115,116,111,110,101]else bif DQ a [99,114]then some [114,99]else bif DQ a [102,105,110,97,108]||DQ a [103,97]||DQ a [114,101,108,101,97,115,101]then some []else a
def TT:Bool×DL×Int->Option (Bool):=λa=>some (a.1&&DQ a.2.1 []||!a.1&&DP a.2.2 0)
def iY:DL×Int×Bool->Option (Sum (Int) (H9×Bool)):=λ(a,b,c)=>bif c then let c:=DP b (i64.wrap (a.length-1));(bif !(DP b 0||c)then at? a (i64.wrap (b+1))else some 0).bind λd=>(bif !(DP b 0||c)then H1 d.toNat else some false).bind λd=>(bif !(DP b 0||c)&&!d then at? a (i64.wrap (b+1))else some 0).bind λa=>(bif !(DP b 0||c)&&!d then NA a.toNat else some false).bind λa=>bif DP b 0||c||!d&&!a then some (.inr (.inr (.inr (.inr (.inr (.inr ())))),false))else some (.inl (i64.wrap (b+1)))else some (.inl b)
def A4Q:Rd (DL×H0×Int) (Sum H0 (H9×Bool)):=λa (b,c,d)=>bif d<b.length then(at? b d).bind λe=>(bif !DP e.toNat 46 then at? b d else some 0).bind λf=>(iY (b,d,DP e.toNat 46||DP f.toNat 45)).bind λd=>match d with|.inl d=>(J5 (b,d,λx=>(H1 x).bind λr=>r)).bind λe=>bif 0<e then(cut? b d (i64.wrap (d+e))).bind λf=>(KC f).bind λf=>bif !f.2 then some (.inr (.inr (.inr (.inr (.inr (.inr ())))),false))else(app? 72 c [(false,[],f.1)]).bind λf=>a (b,f,i64.wrap (d+e))else(J5 (b,d,λx=>(NA x).bind λr=>r)).bind λe=>bif DP e 0 then some (.inr (.inr (.inr (.inr (.inr (.inr ())))),false))else let f:=decide (i64.wrap (d+e)<b.length);(bif f then at? b (i64.wrap (d+e))else some 0).bind λg=>(bif f then H1 g.toNat else some false).bind λg=>(cut? b d (i64.wrap (d+e))).bind λh=>(iX (h,f&&g)).bind λf=>(app? 72 c [(true,f,0)]).bind λf=>a (b,f,i64.wrap (d+e))|.inr a=>some (.inr (a.1,a.2))else some (.inl c)
def wL:=DX A4Q fuel
def A4R:Rd H0 H0:=λa b=>(bif 0<(b.length:Int)then at? b (i64.wrap (b.length-1))else some (false,[],0)).bind λc=>(bif 0<(b.length:Int)then TT c else some false).bind λc=>bif 0<(b.length:Int)&&c then(cut? b 0 (i64.wrap (b.length-1))).bind λc=>a c else b
def wM:=DX A4R fuel
def iZ:DL->Option (H9×Bool):=λa=>(wL (a,[],0)).bind λa=>match a with|.inl a=>(wM a).bind λa=>some (.inr (.inr (.inr (.inl a))),true)|.inr a=>(a.1,a.2)
def i_:DL->Option (H9×Bool):=λa=>(TR a).bind λa=>some (.inr (.inr (.inr (.inr (.inl a.1)))),a.2)
def KD:Int×DL->Option (H9×Int):=λ(a,b)=>bif a<1||5<a then some (.inr (.inr (.inr (.inr (.inr ())))),7)else bif DQ b []||100<(b.length:Int)then some (.inr (.inr (.inr (.inr (.inr ())))),3)else bif DP a 1 then(iH b).bind λc=>bif !c.2 then some (.inr (.inr (.inr (.inr (.inr ())))),6)else some (c.1,0)else bif DP a 2 then(iL b).bind λc=>bif !c.2 then some (.inr (.inr (.inr (.inr (.inr ())))),6)else some (c.1,0)else bif DP a 3 then(ZE b).bind λc=>(iW c).bind λc=>bif !c.2 then some (.inr (.inr (.inr (.inr (.inr ())))),6)else some (c.1,0)else bif DP a 4 then(iZ b).bind λc=>bif !c.2 then some (.inr (.inr (.inr (.inr (.inr ())))),6)else some (c.1,0)else bif DP a 5 then(i_ b).bind λa=>bif !a.2 then some (.inr (.inr (.inr (.inr (.inr ())))),6)else some (a.1,0)else bif !false then some (.inr (.inr (.inr (.inr (.inr ())))),6)else some (.inr (.inr (.inr (.inr (.inr ())))),0)
def A4S:Rd ((List DL)×(List Int)×Int×Int) (List DL):=λa (b,c,d,e)=>bif e<d then(at? c e).bind λf=>(strconv_Itoa f).bind λf=>(app? 24 b [f]).bind λf=>a (f,c,d,i64.wrap (e+1))else b
def wN:=DX A4S fuel
def ZV:List Int->Option DL:=λa=>(wN ([],a,a.length,0)).bind λa=>(strings_Join (a,[46])).bind λa=>a
def ZW:(List Int)×(List DL)->Option DL:=λa=>(cut? a.1 0 a.1.length).bind λb=>(ZV b).bind λb=>bif 0<(a.2.length:Int)then(strings_Join (a.2,[46])).bind λa=>(cat? [45] a).bind λa=>(cat? b a).bind λa=>a else b
def A4T:Rd (DL×(List Int)×Int) (List Int):=λa (b,c,d)=>bif d<b.length then(J5 (b,d,λx=>(H1 x).bind λr=>r)).bind λe=>bif DP e 0 then(at? b d).bind λf=>(OV (c,f.toNat)).bind λf=>a (b,f.2,i64.wrap (d+1))else(cut? b d (i64.wrap (d+e))).bind λf=>(KC f).bind λf=>bif !DP f.1 0||i64.wrap (d+e)<b.length||DP e b.length then(strconv_Itoa f.1).bind λf=>(S3 (c,f)).bind λf=>a (b,f.2.2,i64.wrap (d+e))else a (b,c,i64.wrap (d+e))else c
def wO:=DX A4T fuel
def ZX:DL->Option DL:=λa=>(wO (a,[],0)).bind λa=>(PY a).bind λa=>a
def ZY:Int×DL×DL×Bool->Option DL:=λa=>bif DQ a.2.2.1 []then some [48]else a.2.2.1
def j6:Int->Option (Bool):=λa=>(H1 a).bind λa=>some (!a)
def A4U:Rd (DL×(List Int)×Int×Int) (List Int):=λa (b,c,d,e)=>bif e<d then(at? b e).bind λf=>bif DP f.toNat 126 then(OV (c,1)).bind λf=>a (b,f.2,d,i64.wrap (e+1))else(at? b e).bind λf=>(NA f.toNat).bind λf=>bif f then(at? b e).bind λf=>(OV (c,f.toNat)).bind λf=>a (b,f.2,d,i64.wrap (e+1))else(at? b e).bind λf=>(OV (c,u8.wrap (f.toNat+128))).bind λf=>a (b,f.2,d,i64.wrap (e+1))else c
def wP:=DX A4U fuel
def j7:DL->Option DL:=λa=>(wP (a,[],a.length,0)).bind λa=>(PY a).bind λa=>(cat? a [2]).bind λa=>a
def KE:Int->Option DL:=λa=>(strconv_Itoa a).bind λa=>(strings_Repeat ([48],i64.wrap (18-a.length))).bind λb=>(cat? b a).bind λa=>a
def A4V:Rd (DL×(List Int)) (List Int):=λa (b,c)=>bif !DQ b []then(J5 (b,0,λx=>(j6 x).bind λr=>r)).bind λd=>(J5 (b,d,λx=>(H1 x).bind λr=>r)).bind λe=>(cut? b d (i64.wrap (d+e))).bind λf=>(KC f).bind λf=>(cut? b 0 d).bind λg=>(j7 g).bind λg=>(KE f.1).bind λf=>(cat? g f).bind λf=>(S3 (c,f)).bind λf=>(cut? b (i64.wrap (d+e)) b.length).bind λb=>a (b,f.2.2)else c
def wQ:=DX A4V fuel
def QD:DL->Option DL:=λa=>(wQ (a,[])).bind λa=>(PY a).bind λa=>(cat? a [2]).bind λa=>a
def j8:K9×DL×Bool->Option (K9×DL):=λ(a,b,c)=>bif c then(strconv_Itoa a.1).bind λc=>(cat? c [58]).bind λc=>(cat? c b).bind λc=>(a,c)else(a,b)
def ZZ:Int×DL×DL×Bool->Option DL:=λa=>(ZX a.2.1).bind λb=>(j8 (a,b,!DP a.1 0)).bind λa=>(ZY a.1).bind λb=>(QD b).bind λb=>(QD [48]).bind λc=>bif !DQ b c then(cat? a.2 [45]).bind λb=>(ZX a.1.2.2.1).bind λc=>(cat? b c).bind λb=>b else bif a.1.2.2.2 then(cat? a.2 [45,48]).bind λb=>b else a.2
def A4W:Rd (List Int) (List Int):=λa b=>(bif 0<(b.length:Int)then at? b (i64.wrap (b.length-1))else some 0).bind λc=>bif 0<(b.length:Int)&&DP c 0 then(cut? b 0 (i64.wrap (b.length-1))).bind λc=>a c else b
def wR:=DX A4W fuel
def Z_:List Int->Option (List Int):=λa=>(wR a).bind λa=>a
def j9:FS×DL×Bool->Option (FS×DL):=λ(a,b,c)=>bif c then(strconv_Itoa a.1).bind λc=>(cat? c [33]).bind λc=>(a,c)else(a,b)
def jA:DL×(List Int)×Bool->Option DL:=λ(a,b,c)=>bif c then(ZV b).bind λb=>(cat? a b).bind λb=>b else(cat? a [48]).bind λa=>a
def jB:FS×DL×Bool->Option (FS×DL):=λ(a,b,c)=>bif c then(at? [[],[97],[98],[114,99]] a.2.2.1).bind λc=>(strconv_Itoa a.2.2.2.1).bind λd=>(cat? c d).bind λc=>(cat? b c).bind λc=>(a,c)else(a,b)
def jC:FS×DL×Bool->Option (FS×DL):=λ(a,b,c)=>bif c then(strconv_Itoa a.2.2.2.2.1).bind λc=>(cat? [46,112,111,115,116] c).bind λc=>(cat? b c).bind λc=>(a,c)else(a,b)
def jD:FS×DL×Bool->Option (FS×DL):=λ(a,b,c)=>bif c then(strconv_Itoa a.2.2.2.2.2.1).bind λc=>(cat? [46,100,101,118] c).bind λc=>(cat? b c).bind λc=>(a,c)else(a,b)
def jE:DL×Int×Bool->Option DL:=λ(a,b,c)=>bif c then(strconv_Itoa b).bind λb=>b else a
def A4X:Rd (DL×(List DL)×Int×Int) DL:=λa (b,c,d,e)=>bif e<d then(at? c e).bind λf=>(KC f).bind λg=>(jE (f,g.1,g.2)).bind λf=>bif DP e 0 then(cat? [43] f).bind λg=>(cat? b g).bind λg=>a (g,c,d,i64.wrap (e+1))else(cat? [46] f).bind λf=>(cat? b f).bind λf=>a (f,c,d,i64.wrap (e+1))else b
def wS:=DX A4X fuel
def aA:Int×(List Int)×Int×Int×Int×Int×(List DL)->Option DL:=λa=>(j9 (a,[],!DP a.1 0)).bind λa=>(Z_ a.1.2.1).bind λb=>(jA (a.2,b,0<(b.length:Int))).bind λb=>(jB (a.1,b,0<a.1.2.2.1)).bind λa=>(jC (a.1,a.2,0<=a.1.2.2.2.2.1)).bind λa=>(jD (a.1,a.2,0<=a.1.2.2.2.2.2.1)).bind λa=>(wS (a.2,a.1.2.2.2.2.2.2,a.1.2.2.2.2.2.2.length,0)).bind λa=>a
def A4Y:Rd ((List DL)×H0×Int×Int) (List DL):=λa (b,c,d,e)=>bif e<d then(at? c e).bind λf=>(TT f).bind λg=>bif g then(app? 24 b [[48]]).bind λg=>a (g,c,d,i64.wrap (e+1))else bif f.1 then(app? 24 b [f.2.1]).bind λg=>a (g,c,d,i64.wrap (e+1))else(strconv_Itoa f.2.2).bind λf=>(app? 24 b [f]).bind λf=>a (f,c,d,i64.wrap (e+1))else b
def wT:=DX A4Y fuel
def aB:List LQ->Option DL:=λa=>(wT ([],a,a.length,0)).bind λa=>bif DP a.length 0 then some [48]else(strings_Join (a,[45])).bind λa=>a
def aC:Int->Option DL:=λa=>(strconv_Itoa a).bind λa=>a
def jF:Sum KP (Sum K9 (Sum FS (Sum H0 (Sum Int Unit))))->Option (DL×Int):=λa=>((λz=>Sum.casesOn (motive:=λ_=>Option DL) z (λx=>(ZW x).bind λr=>r) (λz=>z.casesOn (λx=>(ZZ x).bind λr=>r) (λz=>z.casesOn (λx=>(aA x).bind λr=>r) (λz=>z.casesOn (λx=>(aB x).bind λr=>r) (λz=>z.casesOn (λx=>(aC x).bind λr=>r) (λ_=>none)))))) a).bind λa=>bif 100<(a.length:Int)then some ([],3)else some (a,0)
def TU:Int×DL->Option (DL×Int):=λ(a,b)=>(KD (a,b)).bind λa=>bif !DP a.2 0 then some ([],a.2)else(jF a.1).bind λa=>(a.1,a.2)
def A4Z:Rd (F_×JK×Int×Int) GX:=λa (b,c,d,e)=>bif e<d then(at? c e).bind λf=>bif f.1<1||3<f.1 then some (.inr 7)else bif DQ f.2 []then bif !DP f.1 1 then some (.inr 2)else a (b,c,d,i64.wrap (e+1))else(TU (b.2.1,f.2)).bind λf=>bif !DP f.2 0 then some (.inr f.2)else a (b,c,d,i64.wrap (e+1))else some (.inl ())
def wU:=DX A4Z fuel
def jG:DL×Int×JK×(List DL)×(List DL)->Option (Int):=λa=>bif 100<(a.2.2.1.length:Int)then some 3 else(wU (a,a.2.2.1,a.2.2.1.length,0)).bind λa=>match a with|.inl _=>some 0|.inr a=>a
def A4_:Rd (DL×Bool×Int×Int) (Bool):=λa (b,c,d,e)=>bif e<d then(bif !c then at? b e else some 0).bind λf=>(bif !(c||(f.toNat:Int)<33)then at? b e else some 0).bind λg=>a (b,(c||(f.toNat:Int)<33)||(126<(g.toNat:Int)),d,i64.wrap (e+1))else c
def wV:=DX A4_ fuel
def A4a:Rd ((List DL)×(List DL)×Int×Int) GX:=λa (b,c,d,e)=>bif e<d then(at? c e).bind λf=>(wV (f,DQ f []||(200<(f.length:Int)),f.length,0)).bind λg=>bif g then some (.inr 8)else(bif 0<e then at? b (i64.wrap (e-1))else some []).bind λg=>bif 0<e&&(Op.bytesLess f g||DQ f g)then some (.inr 10)else a (b,c,d,i64.wrap (e+1))else some (.inl ())
def wW:=DX A4a fuel
def jH:List DL->Option (Int):=λa=>bif 200<(a.length:Int)then some 3 else(wW (a,a,a.length,0)).bind λa=>match a with|.inl _=>some 0|.inr a=>a
def A4b:Rd (F_×(List DL)×Int×Int) (Sum F_ (Int)):=λa (b,c,d,e)=>bif e<d then(at? c e).bind λf=>(TU (b.2.1,f)).bind λf=>bif !DP f.2 0 then some (.inr f.2)else a (b,c,d,i64.wrap (e+1))else some (.inl b)
def wX:=DX A4b fuel
def jI:DL×Int×JK×(List DL)×(List DL)->Option (Int):=λa=>(iC a.1).bind λb=>bif !b then some 8 else bif a.2.1<1||5<a.2.1 then some 7 else(jG a).bind λb=>bif !DP b 0 then b else bif 500<(a.2.2.2.1.length:Int)then some 3 else(wX (a,a.2.2.2.1,a.2.2.2.1.length,0)).bind λa=>match a with|.inl a=>(jH a.2.2.2.2).bind λa=>a|.inr a=>a
def jJ:Unit->Option (List Int):=λ_=>some [0,1,0,2]
def A4c:Rd ((Int->Option DL)×(List Int)×(List Int)×Int×Int) (List Int):=λa (b,c,d,e,f)=>bif f<e then(at? d f).bind λg=>(b g).bind λg=>(S3 (c,g)).bind λg=>a (b,g.2.2,d,e,i64.wrap (f+1))else c
def wY:=DX A4c fuel
def aD:(List Int)×DL×(Int->Option DL)->Option DL:=λ(a,b,c)=>(wY (c,[],a,a.length,0)).bind λa=>(PY a).bind λa=>(cat? a b).bind λa=>a
def A4d:Rd ((DL->Option DL)×(List Int)×(List DL)×Int×Int) (List Int):=λa (b,c,d,e,f)=>bif f<e then(at? d f).bind λg=>(b g).bind λg=>(S3 (c,g)).bind λg=>a (b,g.2.2,d,e,i64.wrap (f+1))else c
def wZ:=DX A4d fuel
def aF:(List DL)×DL×(DL->Option DL)->Option DL:=λ(a,b,c)=>(wZ (c,[],a,a.length,0)).bind λa=>(PY a).bind λa=>(cat? a b).bind λa=>a
def jK:DL->Option DL:=λa=>(KC a).bind λb=>bif b.2 then(KE b.1).bind λb=>(cat? [48] b).bind λb=>b else(cat? [49] a).bind λa=>(cat? a [32]).bind λa=>a
def NY:(List Int)×(List DL)->Option DL:=λa=>(cut? a.1 0 a.1.length).bind λb=>(aD (b,[],λx=>(KE x).bind λr=>r)).bind λb=>bif DP a.2.length 0 then(cat? b [126]).bind λc=>c else(cat? b [33]).bind λb=>(aF (a.2,[33],λx=>(jK x).bind λr=>r)).bind λa=>(cat? b a).bind λa=>a
def NZ:Int×DL×DL×Bool->Option DL:=λa=>(KE a.1).bind λb=>(QD a.2.1).bind λc=>(cat? b c).bind λb=>(ZY a).bind λa=>(QD a).bind λa=>(cat? b a).bind λa=>a
def jL:Int->Option DL:=λa=>(KE a).bind λa=>(cat? [49] a).bind λa=>a
def jM:Int×(List Int)×Int×Int×Int×Int×(List DL)->Option (Int):=λa=>bif 0<a.2.2.1 then a.2.2.1 else bif 0<=a.2.2.2.2.2.1&&a.2.2.2.2.1<0 then some 0 else some 4
def jN:Int->Option DL:=λa=>bif a<0 then some [48]else(KE a).bind λa=>(cat? [49] a).bind λa=>a
def jO:DL->Option DL:=λa=>(KC a).bind λb=>bif b.2 then(KE b.1).bind λb=>(cat? [50] b).bind λb=>b else(cat? [49] a).bind λa=>(cat? a [32]).bind λa=>a
def jP:FS×DL×Bool->Option (FS×DL):=λ(a,b,c)=>bif c then(KE a.2.2.2.2.2.1).bind λc=>(cat? [48] c).bind λc=>(cat? b c).bind λc=>(a,c)else(cat? b [49]).bind λb=>(a,b)
def N_:Int×(List Int)×Int×Int×Int×Int×(List DL)->Option DL:=λa=>(KE a.1).bind λb=>(Z_ a.2.1).bind λc=>(aD (c,[48],λx=>(jL x).bind λr=>r)).bind λc=>(cat? b c).bind λb=>(jM a).bind λc=>(strconv_Itoa c).bind λc=>(KE a.2.2.2.1).bind λd=>(cat? c d).bind λc=>(jN a.2.2.2.2.1).bind λd=>(cat? c d).bind λc=>(cat? b c).bind λb=>(jP (a,b,0<=a.2.2.2.2.2.1)).bind λa=>bif DP a.1.2.2.2.2.2.2.length 0 then(cat? a.2 [48]).bind λb=>b else(cat? a.2 [49]).bind λb=>(aF (a.1.2.2.2.2.2.2,[48],λx=>(jO x).bind λr=>r)).bind λa=>(cat? b a).bind λa=>a
def aG:Unit->Option (List DL):=λ_=>some [[97,108,112,104,97],[98,101,116,97],[109,105,108,101,115,116,111,110,101],[114,99],[115,110,97,112,115,104,111,116]]
def jQ:Rd ((List DL)×DL×Int×Int) GX:=λa (b,c,d,e)=>bif e<d then(at? b e).bind λf=>bif DQ c f then some (.inr e)else a (b,c,d,i64.wrap (e+1))else some (.inl ())
def jR:=DX jQ fuel
def TV:(List DL)×DL->Option (Int):=λ(a,b)=>(jR (a,b,a.length,0)).bind λa=>match a with|.inl _=>some (-1)|.inr a=>a
def KS:(List DL)×DL->Option (Bool):=λ(a,b)=>(TV (a,b)).bind λa=>some (0<=a)
def VY:Bool×DL×Int->Option (Bool):=λa=>(bif a.1 then aG ()else some []).bind λb=>(bif a.1 then KS (b,a.2.1)else some false).bind λb=>some (a.1&&b)
def aH:Bool×DL×Int->Option DL:=λa=>bif !a.1 then(KE a.2.2).bind λb=>(cat? [56] b).bind λb=>b else(VY a).bind λb=>bif b then(aG ()).bind λb=>(TV (b,a.2.1)).bind λb=>(strconv_Itoa b).bind λb=>b else bif DQ a.2.1 [115,112]then some [54]else(cat? [55] a.2.1).bind λa=>(cat? a [32]).bind λa=>a
def A4e:Rd (DL×Int×H0×Int×Int) DL:=λa (b,c,d,e,f)=>bif f<e then(at? d f).bind λg=>(TT g).bind λh=>bif h then a (b,i64.wrap (c+1),d,e,i64.wrap (f+1))else(VY g).bind λh=>bif h then(strconv_Itoa (i64.wrap (100+c))).bind λh=>(cat? [49] h).bind λh=>(aH g).bind λi=>(cat? h i).bind λh=>(cat? b h).bind λh=>a (h,0,d,e,i64.wrap (f+1))else(strconv_Itoa (i64.wrap (900-c))).bind λc=>(cat? [51] c).bind λc=>(aH g).bind λg=>(cat? c g).bind λc=>(cat? b c).bind λc=>a (c,0,d,e,i64.wrap (f+1))else b
def w_:=DX A4e fuel
def O0:List LQ->Option DL:=λa=>(w_ ([],0,a,a.length,0)).bind λa=>(cat? a [50]).bind λa=>a
def O1:Int->Option DL:=λa=>(KE a).bind λa=>a
def VZ:Int×DL->Option (DL×Int):=λ(a,b)=>(KD (a,b)).bind λa=>bif !DP a.2 0 then some ([],a.2)else((λz=>Sum.casesOn (motive:=λ_=>Option DL) z (λx=>(NY x).bind λr=>r) (λz=>z.casesOn (λx=>(NZ x).bind λr=>r) (λz=>z.casesOn (λx=>(N_ x).bind λr=>r) (λz=>z.casesOn (λx=>(O0 x).bind λr=>r) (λz=>z.casesOn (λx=>(O1 x).bind λr=>r) (λ_=>none)))))) a.1).bind λa=>some (a,0)
def A4f:Rd ((List DZ)×Int×FN×Int) (List DZ):=λa (b,c,d,e)=>(bif c<e then in? b.length e else some ()).bind λ_=>(bif c<e then in? b.length (i64.wrap (e-1))else some ()).bind λ_=>(bif c<e then d (b.getD e.toNat (0,[],[],0),b.getD ((i64.wrap (e-1)).toNat) (0,[],[],0))else some 0).bind λf=>bif c<e&&f<0 then(in? b.length (i64.wrap (e-1))).bind λ_=>let f:=b.getD ((i64.wrap (e-1)).toNat) (0,[],[],0);(in? b.length e).bind λ_=>(in? b.length e).bind λ_=>(in? (b.set e.toNat f).length (i64.wrap (e-1))).bind λ_=>a ((b.set e.toNat f).set ((i64.wrap (e-1)).toNat) (b.getD e.toNat (0,[],[],0)),c,d,i64.wrap (e-1))else b
def x6:=DX A4f fuel
def A4g:Rd ((List DZ)×Int×Int×FN×Int) (List DZ):=λa (b,c,d,e,f)=>bif f<d then(x6 (b,c,e,f)).bind λg=>a (g,c,d,e,i64.wrap (f+1))else b
def x7:=DX A4g fuel
def aI:(List DZ)×Int×Int×FN->Option (List DZ):=λ(a,b,c,d)=>(x7 (a,b,c,d,i64.wrap (b+1))).bind λa=>a
def A4h:Rd ((List DZ)×Int×Int×Int×Int) (List DZ):=λa (b,c,d,e,f)=>bif f<e then(in? b.length (i64.wrap (d+f))).bind λ_=>let g:=b.getD ((i64.wrap (d+f)).toNat) (0,[],[],0);(in? b.length (i64.wrap (c+f))).bind λ_=>(in? b.length (i64.wrap (c+f))).bind λ_=>(in? (b.set ((i64.wrap (c+f)).toNat) g).length (i64.wrap (d+f))).bind λ_=>a ((b.set ((i64.wrap (c+f)).toNat) g).set ((i64.wrap (d+f)).toNat) (b.getD ((i64.wrap (c+f)).toNat) (0,[],[],0)),c,d,e,i64.wrap (f+1))else b
def x8:=DX A4h fuel
def V_:(List DZ)×Int×Int×Int×FN->Option (List DZ):=λ(a,b,c,d,_)=>(x8 (a,b,c,d,0)).bind λa=>a
def A4i:Rd ((List DZ)×Int×FN×Int×Int) N8:=λa (b,c,d,e,f)=>bif !DP e f then bif f<e then(V_ (b,i64.wrap (c-e),c,f,d)).bind λg=>a (g,c,d,i64.wrap (e-f),f)else(V_ (b,i64.wrap (c-e),i64.wrap (i64.wrap (c+f)-e),e,d)).bind λg=>a (g,c,d,e,i64.wrap (f-e))else(b,e)
def x9:=DX A4i fuel
def jS:(List DZ)×Int×Int×Int×FN->Option (List DZ):=λ(a,b,c,d,e)=>(x9 (a,c,e,i64.wrap (c-b),i64.wrap (d-c))).bind λa=>(V_ (a.1,i64.wrap (c-a.2),c,a.2,e)).bind λa=>a
def A4j(slf:(List DZ)×Int×Int×Int×FN->Option (List DZ))(a:(List DZ)×Int×FN×Int×Int->Option N8):(List DZ)×Int×FN×Int×Int->Option N8:=λ(b,c,d,e,f)=>bif e<f then(shr? u64 (u64.wrap (i64.wrap (e+f))) 1).bind λg=>(in? b.length (i64.wrap g)).bind λ_=>(in? b.length c).bind λ_=>(d (b.getD ((i64.wrap g).toNat) (0,[],[],0),b.getD c.toNat (0,[],[],0))).bind λh=>bif h<0 then a (b,c,d,i64.wrap (i64.wrap g+1),f)else a (b,c,d,e,i64.wrap g)else(b,e)
def xA(slf:(List DZ)×Int×Int×Int×FN->Option (List DZ)):(List DZ)×Int×FN×Int×Int->Option N8:=DX (A4j slf) fuel
def A4k(slf:(List DZ)×Int×Int×Int×FN->Option (List DZ))(a:(List DZ)×Int×Int->Option (List DZ)):(List DZ)×Int×Int->Option (List DZ):=λ(b,c,d)=>bif d<i64.wrap (c-1)then(in? b.length (i64.wrap (d+1))).bind λ_=>let e:=b.getD ((i64.wrap (d+1)).toNat) (0,[],[],0);(in? b.length d).bind λ_=>(in? b.length d).bind λ_=>(in? (b.set d.toNat e).length (i64.wrap (d+1))).bind λ_=>a ((b.set d.toNat e).set ((i64.wrap (d+1)).toNat) (b.getD d.toNat (0,[],[],0)),c,i64.wrap (d+1))else b
def xB(slf:(List DZ)×Int×Int×Int×FN->Option (List DZ)):(List DZ)×Int×Int->Option (List DZ):=DX (A4k slf) fuel
def A4l(slf:(List DZ)×Int×Int×Int×FN->Option (List DZ))(a:(List DZ)×Int×FN×Int×Int->Option N8):(List DZ)×Int×FN×Int×Int->Option N8:=λ(b,c,d,e,f)=>bif e<f then(shr? u64 (u64.wrap (i64.wrap (e+f))) 1).bind λg=>(in? b.length c).bind λ_=>(in? b.length (i64.wrap g)).bind λ_=>(d (b.getD c.toNat (0,[],[],0),b.getD ((i64.wrap g).toNat) (0,[],[],0))).bind λh=>bif !(h<0)then a (b,c,d,i64.wrap (i64.wrap g+1),f)else a (b,c,d,e,i64.wrap g)else(b,e)
def xC(slf:(List DZ)×Int×Int×Int×FN->Option (List DZ)):(List DZ)×Int×FN×Int×Int->Option N8:=DX (A4l slf) fuel
def A4m(slf:(List DZ)×Int×Int×Int×FN->Option (List DZ))(a:(List DZ)×Int×Int->Option (List DZ)):(List DZ)×Int×Int->Option (List DZ):=λ(b,c,d)=>bif c<d then(in? b.length (i64.wrap (d-1))).bind λ_=>let e:=b.getD ((i64.wrap (d-1)).toNat) (0,[],[],0);(in? b.length d).bind λ_=>(in? b.length d).bind λ_=>(in? (b.set d.toNat e).length (i64.wrap (d-1))).bind λ_=>a ((b.set d.toNat e).set ((i64.wrap (d-1)).toNat) (b.getD d.toNat (0,[],[],0)),c,i64.wrap (d-1))else b
def xD(slf:(List DZ)×Int×Int×Int×FN->Option (List DZ)):(List DZ)×Int×Int->Option (List DZ):=DX (A4m slf) fuel
def jT(slf:(List DZ)×Int×Int×Int×FN->Option (List DZ)):Int×Int×Int×Int×Int×Bool->Option (Int×Int):=λ(a,b,c,d,e,f)=>bif f then some (i64.wrap (e-c),d)else(a,b)
def A4n(slf:(List DZ)×Int×Int×Int×FN->Option (List DZ))(a:(List DZ)×FN×Int×Int×Int->Option N8):(List DZ)×FN×Int×Int×Int->Option N8:=λ(b,c,d,e,f)=>bif d<e then(shr? u64 (u64.wrap (i64.wrap (d+e))) 1).bind λg=>(in? b.length (i64.wrap (f-i64.wrap g))).bind λ_=>(in? b.length (i64.wrap g)).bind λ_=>(c (b.getD ((i64.wrap (f-i64.wrap g)).toNat) (0,[],[],0),b.getD ((i64.wrap g).toNat) (0,[],[],0))).bind λh=>bif !(h<0)then a (b,c,i64.wrap (i64.wrap g+1),e,f)else a (b,c,d,i64.wrap g,f)else(b,d)
def xE(slf:(List DZ)×Int×Int×Int×FN->Option (List DZ)):(List DZ)×FN×Int×Int×Int->Option N8:=DX (A4n slf) fuel
def jU(slf:(List DZ)×Int×Int×Int×FN->Option (List DZ)):(List DZ)×Int×FN×Int×Int×Bool->Option (List DZ):=λ(a,b,c,d,e,f)=>bif f then(jS (a,d,b,e,c)).bind λb=>b else a
def jV(slf:(List DZ)×Int×Int×Int×FN->Option (List DZ)):(List DZ)×Int×FN×Int×Int×Bool->Option (List DZ):=λ(a,b,c,d,e,f)=>bif f then(slf (a,b,e,d,c)).bind λb=>b else a
def xF(slf:(List DZ)×Int×Int×Int×FN->Option (List DZ)):(List DZ)×Int×Int×Int×FN->Option (List DZ):=λ(a,b,c,d,e)=>bif DP (i64.wrap (c-b)) 1 then(xA slf (a,b,e,c,d)).bind λf=>(xB slf (f.1,f.2,b)).bind λf=>f else bif DP (i64.wrap (d-c)) 1 then(xC slf (a,c,e,b,c)).bind λf=>(xD slf (f.1,f.2,c)).bind λf=>f else(shr? u64 (u64.wrap (i64.wrap (b+d))) 1).bind λf=>(jT slf (b,c,d,i64.wrap f,i64.wrap (i64.wrap f+c),i64.wrap f<c)).bind λg=>(xE slf (a,e,g.1,g.2,i64.wrap (i64.wrap (i64.wrap f+c)-1))).bind λa=>let g:=i64.wrap (i64.wrap (i64.wrap f+c)-a.2);(jU slf (a.1,c,e,a.2,g,(a.2<c)&&c<g)).bind λc=>(jV slf (c,b,e,i64.wrap f,a.2,(b<a.2)&&a.2<i64.wrap f)).bind λa=>bif i64.wrap f<g&&g<d then(slf (a,i64.wrap f,g,d,e)).bind λb=>b else a
def MG:Nat->(List DZ)×Int×Int×Int×FN->Option (List DZ)
 |0=>λ_=>none
 |n+1=>xF (MG n)
def aJ:(List DZ)×Int×Int×Int×FN->Option (List DZ):=MG 100
def A4o:Rd ((List DZ)×Int×FN×Int×Int×Int) N8:=λa (b,c,d,e,f,g)=>bif g<=c then(aI (b,f,g,d)).bind λh=>a (h,c,d,e,g,i64.wrap (g+e))else(b,f)
def xG:=DX A4o fuel
def A4p:Rd ((List DZ)×Int×FN×Int×Int×Int) N8:=λa (b,c,d,e,f,g)=>bif g<=c then(aJ (b,f,i64.wrap (f+e),g,d)).bind λh=>a (h,c,d,e,g,i64.wrap (g+i64.wrap (2*e)))else(b,f)
def xH:=DX A4p fuel
def A4q:Rd ((List DZ)×Int×FN×Int) (List DZ):=λa (b,c,d,e)=>bif e<c then(xH (b,c,d,e,0,i64.wrap (2*e))).bind λf=>bif i64.wrap (f.2+e)<c then(aJ (f.1,f.2,i64.wrap (f.2+e),c,d)).bind λg=>a (g,c,d,i64.wrap (e*2))else a (f.1,c,d,i64.wrap (e*2))else b
def xI:=DX A4q fuel
def jW:(List DZ)×Int×FN->Option (List DZ):=λ(a,b,c)=>(xG (a,b,c,20,0,20)).bind λa=>(aI (a.1,a.2,b,c)).bind λa=>(xI (a,b,c,20)).bind λa=>a
def jX:(List DZ)×FN->Option (List DZ):=λ(a,b)=>(jW (a,a.length,b)).bind λa=>a
def jY:DZ×DZ->Option (Int):=λ(a,b)=>(LV (a.2.1,b.2.1)).bind λc=>(QC (a.1,b.1)).bind λa=>(S0 [c,a]).bind λa=>a
def A4r:Rd (F_×(List DZ)×JK×Int×Int) (List DZ):=λa (b,c,d,e,f)=>bif f<e then(at? d f).bind λg=>(jJ ()).bind λh=>(at? h g.1).bind λh=>bif !DQ g.2 []then(VZ (b.2.1,g.2)).bind λi=>(TU (b.2.1,g.2)).bind λj=>(app? 96 c [(h,i.1,j.1,g.1)]).bind λi=>a (b,i,d,e,i64.wrap (f+1))else(app? 96 c [(h,[],[],g.1)]).bind λg=>a (b,g,d,e,i64.wrap (f+1))else c
def xJ:=DX A4r fuel
def jZ:DL×Int×JK×(List DL)×(List DL)->Option (List DZ):=λa=>(xJ (a,[],a.2.2.1,a.2.2.1.length,0)).bind λa=>(jX (a,λx=>(jY x).bind λr=>r)).bind λa=>a
def A4s:Rd (FD×Bool×GN×(List DZ)×Int×Int) (FD×Bool×GN):=λa (b,c,d,e,f,g)=>bif g<f then(at? e g).bind λh=>bif DP h.2.2.2 1&&!c then bif !DQ h.2.2.1 []then a (b,true,(true,true,h.2.2.1),e,f,i64.wrap (g+1))else a (b,true,(false,false,[]),e,f,i64.wrap (g+1))else bif !DP h.2.2.2 1&&c then(app? 144 b [(d,true,DP h.2.2.2 3,h.2.2.1)]).bind λh=>a (h,false,d,e,f,i64.wrap (g+1))else a (b,c,d,e,f,i64.wrap (g+1))else(b,c,d)
def xK:=DX A4s fuel
def j_:FD×GN×Bool->Option FD:=λ(a,b,c)=>bif c then(app? 144 a [(b,false,false,[])]).bind λb=>b else a
def A4t:Rd (F_×FD×(List DL)×Int×Int) FD:=λa (b,c,d,e,f)=>bif f<e then(at? d f).bind λg=>(TU (b.2.1,g)).bind λg=>(app? 144 c [((true,true,g.1),true,true,g.1)]).bind λg=>a (b,g,d,e,i64.wrap (f+1))else c
def xL:=DX A4t fuel
def k9:DL×Int×JK×(List DL)×(List DL)->Option FD:=λa=>(jZ a).bind λb=>(xK ([],false,(false,false,[]),b,b.length,0)).bind λb=>(j_ (b.1,b.2.2,b.2.1)).bind λb=>(xL (a,b,a.2.2.2.1,a.2.2.2.1.length,0)).bind λa=>a
def S4:Int×GN->Option (DL×Int):=λ(a,b)=>bif !b.1 then bif b.2.1||!DQ b.2.2 []then some ([],2)else some ([],0)else(KD (a,b.2.2)).bind λa=>bif !DP a.2 0 then some ([],a.2)else((λz=>Sum.casesOn (motive:=λ_=>Option DL) z (λx=>(ZW x).bind λr=>r) (λz=>z.casesOn (λx=>(ZZ x).bind λr=>r) (λz=>z.casesOn (λx=>(aA x).bind λr=>r) (λz=>z.casesOn (λx=>(aB x).bind λr=>r) (λz=>z.casesOn (λx=>(aC x).bind λr=>r) (λ_=>none)))))) a.1).bind λc=>bif !DQ c b.2.2 then some ([],2)else((λz=>Sum.casesOn (motive:=λ_=>Option DL) z (λx=>(NY x).bind λr=>r) (λz=>z.casesOn (λx=>(NZ x).bind λr=>r) (λz=>z.casesOn (λx=>(N_ x).bind λr=>r) (λz=>z.casesOn (λx=>(O0 x).bind λr=>r) (λz=>z.casesOn (λx=>(O1 x).bind λr=>r) (λ_=>none)))))) a.1).bind λa=>some (a,0)
def aK:GN×DL->Option LR:=λ(a,b)=>bif !a.1 then some (-1,[],false,[])else some (0,b,!a.2.1,a.2.2)
def aL:GN×DL->Option LR:=λ(a,b)=>bif !a.1 then some (1,[],false,[])else some (0,b,a.2.1,a.2.2)
def NB:LR×LR->Option (Int):=λ(a,b)=>bif !DP a.1 b.1||!DP a.1 0 then(QC (a.1,b.1)).bind λc=>c else(LV (a.2.1,b.2.1)).bind λc=>bif !DP c 0||I6 a.2.2.1 b.2.2.1 then c else bif a.2.2.1 then some 1 else some (-1)
def QE:FI×FI->Option (Int):=λ(a,b)=>(NB (a.1,b.1)).bind λa=>a
def kA:FI×Int×Bool->Option (FI×Int):=λ(a,b,c)=>bif c then(KC a.1.2.2.2).bind λc=>bif a.1.2.2.1 then some (a,i64.wrap (c.1+1))else(a,c.1)else(a,b)
def kB:LR×LR->Option (Int×Int×Bool):=λa=>(kA (a,0,DP a.1.1 0)).bind λa=>bif DP a.1.2.1 0 then(KC a.1.2.2.2.2).bind λb=>bif !a.1.2.2.2.1 then some (a.2,i64.wrap (b.1-1),a.2<=i64.wrap (b.1-1))else some (a.2,b.1,a.2<=b.1)else some (a.2,999999999999999999,a.2<=999999999999999999)
def kC:Int×LR×Bool->Option LR:=λ(a,b,c)=>bif c then(KE a).bind λc=>(strconv_Itoa a).bind λa=>some (0,c,true,a)else b
def A4u:Rd ((List FI)×Int×(List FI)×Int×Int) (List FI):=λa (b,c,d,e,f)=>bif f<e then(at? d f).bind λg=>(kB g).bind λg=>bif !g.2.2 then a (b,c,d,e,i64.wrap (f+1))else(kC (g.2.1,(1,[],false,[]),g.2.1<999999999999999999)).bind λh=>bif 0<(b.length:Int)&&DP g.1 (i64.wrap (c+1))then(in? b.length (i64.wrap (b.length-1))).bind λ_=>a (b.set ((i64.wrap (b.length-1)).toNat) ((b.getD ((i64.wrap (b.length-1)).toNat) ((0,[],false,[]),0,[],false,[])).1,h),g.2.1,d,e,i64.wrap (f+1))else(KE g.1).bind λc=>(strconv_Itoa g.1).bind λi=>(app? 192 b [((0,c,false,i),h)]).bind λc=>a (c,g.2.1,d,e,i64.wrap (f+1))else b
def xM:=DX A4u fuel
def kD:List FI->Option (List FI):=λa=>(xM ([],-2,a,a.length,0)).bind λa=>a
def kE:(List FI)×Bool->Option (List FI):=λ(a,b)=>bif b then(kD a).bind λb=>b else a
def kF:FI×(GN×GN)×Bool->Option (FI×(GN×GN)):=λ(a,b,c)=>bif c then some (a,(true,!a.1.2.2.1,a.1.2.2.2),b.2)else(a,b)
def A4v:Rd ((Int×FD)×(List FI)×Int×Int) (Int×FD):=λa (b,c,d,e)=>bif e<d then(at? c e).bind λf=>(kF (f,((false,false,[]),false,false,[]),DP f.1.1 0)).bind λf=>bif DP f.1.2.1 0 then(app? 144 b.2 [(f.2.1,true,f.1.2.2.2.1,f.1.2.2.2.2)]).bind λg=>a ((b.1,g),c,d,i64.wrap (e+1))else(app? 144 b.2 [f.2]).bind λf=>a ((b.1,f),c,d,i64.wrap (e+1))else(b.1,b.2)
def xN:=DX A4v fuel
def W0:Int×(List FI)->Option ((Int×FD)×Int):=λ(a,b)=>(kE (b,DP a 5)).bind λb=>bif 200<(b.length:Int)then some ((0,[]),3)else(xN ((a,[]),b,b.length,0)).bind λa=>some ((a.1,a.2),0)
def xO:Rd (Int×(Int×FD)×(List FI)×FD×Int×Int) (Sum ((Int×FD)×(List FI)) ((Int×FD)×Int)):=λa (b,c,d,e,f,g)=>bif g<f then(at? e g).bind λh=>(S4 (b,h.1)).bind λi=>bif !DP i.2 0 then some (.inr ((0,[]),i.2))else(S4 (b,h.2)).bind λj=>bif !DP j.2 0 then some (.inr ((0,[]),j.2))else(aK (h.1,i.1)).bind λi=>(aL (h.2,j.1)).bind λh=>(NB (i,h)).bind λj=>bif j<0 then(app? 192 d [(i,h)]).bind λh=>a (b,c,h,e,f,i64.wrap (g+1))else a (b,c,d,e,f,i64.wrap (g+1))else some (.inl (c,d))
def kG:=DX xO fuel
def A4w:Rd ((List FI)×(List FI)×Int×Int) (List FI):=λa (b,c,d,e)=>bif e<d then(in? c.length e).bind λ_=>let f:=c.getD e.toNat ((0,[],false,[]),0,[],false,[]);(bif !DP b.length 0 then in? b.length (i64.wrap (b.length-1))else some ()).bind λ_=>(bif !DP b.length 0 then NB ((b.getD ((i64.wrap (b.length-1)).toNat) ((0,[],false,[]),0,[],false,[])).2,f.1)else some 0).bind λg=>bif DP b.length 0||g<0 then(app? 192 b [f]).bind λg=>a (g,c,d,i64.wrap (e+1))else(in? b.length (i64.wrap (b.length-1))).bind λ_=>(NB ((b.getD ((i64.wrap (b.length-1)).toNat) ((0,[],false,[]),0,[],false,[])).2,f.2)).bind λg=>bif g<0 then(in? b.length (i64.wrap (b.length-1))).bind λ_=>a (b.set ((i64.wrap (b.length-1)).toNat) ((b.getD ((i64.wrap (b.length-1)).toNat) ((0,[],false,[]),0,[],false,[])).1,f.2),c,d,i64.wrap (e+1))else a (b,c,d,i64.wrap (e+1))else b
def xP:=DX A4w fuel
def WA:Int×FD->Option ((Int×FD)×Int):=λ(a,b)=>(kG (a,(0,[]),[],b,b.length,0)).bind λb=>match b with|.inl b=>(uQ (b.2,λx=>(QE x).bind λr=>r)).bind λb=>(xP ([],b,b.length,0)).bind λb=>(W0 (a,b)).bind λa=>(a.1,a.2)|.inr a=>(a.1,a.2)
def LW:DL×Int×JK×(List DL)×(List DL)->Option ((Int×FD)×Int):=λa=>(jI a).bind λb=>bif !DP b 0 then some ((0,[]),b)else(k9 a).bind λb=>(WA (a.2.1,b)).bind λa=>(a.1,a.2)
def TW:G9×Bool->Option (Sum G9 (KB×Int)):=λ(a,b)=>bif b then(S2 a.2.2.2.2.2.1).bind λb=>bif !DP b.2 0 then some (.inr ([],b.2))else some (.inl a)else some (.inl a)
def aM:Rd (KB×(List F_)×Int×Int) (Sum KB (KB×Int)):=λa (b,c,d,e)=>bif e<d then(at? c e).bind λf=>(LW f).bind λf=>bif !DP f.2 0 then some (.inr ([],f.2))else(app? 48 b [f.1]).bind λf=>a (f,c,d,i64.wrap (e+1))else some (.inl b)
def S5:=DX aM fuel
def LX:DL×(List DL)×DL×Int×Bool×DL×(List F_)->Option (KB×Int):=λa=>(VU a.1).bind λb=>bif !b then some ([],8)else(gL a).bind λb=>bif !DP b 0 then some ([],b)else(VU a.2.2.1).bind λb=>bif !b then some ([],8)else bif a.2.2.2.1<0||1000000<a.2.2.2.1 then some ([],9)else(TW (a,!DQ a.2.2.2.2.2.1 [])).bind λa=>match a with|.inl a=>(bif 50<(a.2.2.2.2.2.2.length:Int)then some ([],3)else(S5 ([],a.2.2.2.2.2.2,a.2.2.2.2.2.2.length,0)).bind λa=>match a with|.inl a=>some (a,0)|.inr a=>(a.1,a.2))|.inr a=>(a.1,a.2)
def TX:DL×(List DL)×DL×Int×Bool×DL×(List F_)->Option (Int):=λa=>(LX a).bind λa=>a.2
def A4x:Rd (NX×(List G9)×Int×Int) GX:=λa (b,c,d,e)=>bif e<d then(at? c e).bind λf=>(TX f).bind λg=>bif !DP g 0 then some (.inr g)else(bif 0<e then at? b.2.1 (i64.wrap (e-1))else some ([],[],[],0,false,[],[])).bind λg=>bif 0<e&&(Op.bytesLess f.1 g.1||DQ f.1 g.1)then some (.inr 10)else(at? b.2.2 e).bind λf=>(bif !(f<0)then at? b.2.2 e else some 0).bind λg=>bif f<0||b.1<g then some (.inr 9)else a (b,c,d,i64.wrap (e+1))else some (.inl ())
def xQ:=DX A4x fuel
def WB:Int×(List G9)×(List Int)->Option (Int):=λa=>bif a.1<0||1000000000<a.1 then some 9 else bif 2000<(a.2.1.length:Int)then some 3 else bif !DP a.2.2.length a.2.1.length then some 2 else(xQ (a,a.2.1,a.2.1.length,0)).bind λa=>match a with|.inl _=>some 0|.inr a=>a
def xR:Rd (VP×(List (DL×(List DL)))×Int×Int) VP:=λa (b,c,d,e)=>bif e<d then(at? c e).bind λf=>a ((b.1,EB DQ f.1 f b.2.1,b.2.2.1,b.2.2.2),c,d,i64.wrap (e+1))else(b.1,b.2.1,b.2.2.1,b.2.2.2)
def A4y:=DX xR fuel
def xS:Rd (VP×(List (DL×DU))×Int×Int) VP:=λa (b,c,d,e)=>bif e<d then(at? c e).bind λf=>a ((b.1,b.2.1,EB DQ f.1 true b.2.2.1,b.2.2.2),c,d,i64.wrap (e+1))else(b.1,b.2.1,b.2.2.1,b.2.2.2)
def A4z:=DX xS fuel
def xT:Rd (VP×OT×Int×Int) VP:=λa (b,c,d,e)=>bif e<d then(at? c e).bind λf=>a ((b.1,b.2.1,b.2.2.1,EB DQ f.1 true b.2.2.2),c,d,i64.wrap (e+1))else(b.1,b.2.1,b.2.2.1,b.2.2.2)
def A50:=DX xT fuel
def kH:JD×Bool->Option LT:=λ(a,b)=>(A4y ((b,[],[],[]),a.1,a.1.length,0)).bind λb=>(A4z ((b.1,b.2.1,b.2.2.1,b.2.2.2),a.2.1,a.2.1.length,0)).bind λb=>(A50 ((b.1,b.2.1,b.2.2.1,b.2.2.2),a.2.2.1,a.2.2.1.length,0)).bind λa=>(a.1,a.2.1,a.2.2.1,a.2.2.2)
def WC:Rd EQ LU:=λa (b,c,d)=>bif d<c then(at? b d).bind λe=>(bif !((e.toNat:Int)<33)then at? b d else some 0).bind λf=>let g:=((e.toNat:Int)<33||126<(f.toNat:Int));(bif !g then at? b d else some 0).bind λe=>bif g||DP e.toNat 35 then some (.inr false)else a (b,c,i64.wrap (d+1))else some (.inl ())
def A51:=DX WC fuel
def OW:DL->Option (Bool):=λa=>(A51 (a,a.length,0)).bind λb=>match b with|.inl _=>some (!DQ a []&&(a.length:Int)<=100)|.inr a=>a
def O2:DL×DL×Bool->Option (Int):=λ(a,b,c)=>(OW a).bind λd=>bif !d then some 8 else bif !c&&(Op.bytesLess a b||DQ a b)then some 10 else some 0
def kI:Rd (DL×(List DL)×Int×Int) GX:=λa (b,c,d,e)=>bif e<d then(at? c e).bind λf=>(O2 (f,b,DP e 0)).bind λb=>bif !DP b 0 then some (.inr b)else a (f,c,d,i64.wrap (e+1))else some (.inl ())
def A52:=DX kI fuel
def kJ:Rd (DL×(List (DL×(List DL)))×Int×Int) GX:=λa (b,c,d,e)=>bif e<d then(at? c e).bind λf=>(O2 (f.1,b,DP e 0)).bind λb=>bif !DP b 0 then some (.inr b)else bif DP f.2.length 0 then some (.inr 13)else bif 200<(f.2.length:Int)then some (.inr 3)else(A52 ([],f.2,f.2.length,0)).bind λb=>match b with|.inl _=>a (f.1,c,d,i64.wrap (e+1))|.inr a=>some (.inr a)else some (.inl ())
def A53:=DX kJ fuel
def kK:LT×(List (DL×(List DL)))->Option (Int):=λ(_,a)=>(A53 ([],a,a.length,0)).bind λa=>match a with|.inl _=>some 0|.inr a=>a
def kL:Rd (LT×DL×DU×Int×Int) (Sum LT (Int)):=λa (b,c,d,e,f)=>bif f<e then(at? d f).bind λg=>(O2 (g.1,c,DP f 0)).bind λc=>bif !DP c 0 then some (.inr c)else bif !b.1&&!(DW DQ g.2 b.2.2.2).getD false then some (.inr 4)else a (b,g.1,d,e,i64.wrap (f+1))else some (.inl b)
def A54:=DX kL fuel
def kM:Rd (LT×DL×(List (DL×DU))×Int×Int) GX:=λa (b,c,d,e,f)=>bif f<e then(at? d f).bind λg=>(O2 (g.1,c,DP f 0)).bind λc=>bif !DP c 0 then some (.inr c)else bif 200<(g.2.length:Int)then some (.inr 3)else(A54 (b,[],g.2,g.2.length,0)).bind λb=>match b with|.inl b=>a (b,g.1,d,e,i64.wrap (f+1))|.inr a=>some (.inr a)else some (.inl ())
def A55:=DX kM fuel
def kN:LT×(List (DL×DU))->Option (Int):=λ(a,b)=>(A55 (a,[],b,b.length,0)).bind λa=>match a with|.inl _=>some 0|.inr a=>a
def kO:LT×J3->Option (Int):=λ(a,b)=>bif DP b.1 1 then bif !a.1&&!(DW DQ b.2.1 a.2.2.2).getD false then some 4 else bif !DQ b.2.2.1 []then some 2 else(bif !DQ b.2.2.2 []then OW b.2.2.2 else some false).bind λc=>bif !DQ b.2.2.2 []&&!c then some 8 else some 0 else bif DP b.1 2 then(bif !a.1&&!(!(DW DQ b.2.1 a.2.1).isSome)then KS (((DW DQ b.2.1 a.2.1).getD ([],[])).2,b.2.2.1)else some false).bind λc=>bif !a.1&&(!(DW DQ b.2.1 a.2.1).isSome||!c)then some 4 else(bif !DQ b.2.2.2 []then OW b.2.2.2 else some false).bind λa=>bif !DQ b.2.2.2 []&&!a then some 8 else some 0 else some 7
def kP:Rd ((List DL)×(List (DL×Bool))×LT×(List DL)×Int×Int) GX:=λa (b,c,d,e,f,g)=>bif g<f then(at? e g).bind λh=>bif !d.1&&!(DW DQ h c).getD false then some (.inr 4)else(bif 0<g then at? b (i64.wrap (g-1))else some []).bind λi=>bif 0<g&&(Op.bytesLess h i||DQ h i)then some (.inr 10)else a (b,c,d,e,f,i64.wrap (g+1))else some (.inl ())
def A56:=DX kP fuel
def aN:LT×(List DL)×(List (DL×Bool))->Option (Int):=λ(a,b,c)=>(A56 (b,c,a,b,b.length,0)).bind λa=>match a with|.inl _=>some 0|.inr a=>a
def WD:Rd (LT×(List J3)×Int×Int) (Sum LT (Int)):=λa (b,c,d,e)=>bif e<d then(at? c e).bind λf=>(kO (b,f)).bind λf=>bif !DP f 0 then some (.inr f)else a (b,c,d,i64.wrap (e+1))else some (.inl b)
def A57:=DX WD fuel
def WE:Rd (LT×DL×OT×Int×Int) GX:=λa (b,c,d,e,f)=>bif f<e then(at? d f).bind λg=>(O2 (g.1,c,DP f 0)).bind λc=>bif !DP c 0 then some (.inr c)else(OW g.2.1).bind λc=>bif !c then some (.inr 8)else bif 200<(g.2.2.1.length:Int)then some (.inr 3)else(A57 (b,g.2.2.1,g.2.2.1.length,0)).bind λb=>match b with|.inl b=>(aN (b,g.2.2.2,b.2.2.1)).bind λc=>bif !DP c 0 then some (.inr c)else a (b,g.1,d,e,i64.wrap (f+1))|.inr a=>some (.inr a)else some (.inl ())
def A58:=DX WE fuel
def WF:LT×OT->Option (Int):=λ(a,b)=>(A58 (a,[],b,b.length,0)).bind λa=>match a with|.inl _=>some 0|.inr a=>a
def kQ:LT×JD->Option (Int):=λ(a,b)=>bif 200<(b.1.length:Int)||500<(b.2.1.length:Int)||3000<(b.2.2.1.length:Int)then some 3 else(kK (a,b.1)).bind λc=>bif !DP c 0 then c else(kN (a,b.2.1)).bind λc=>bif !DP c 0 then c else(WF (a,b.2.2.1)).bind λc=>bif !DP c 0 then c else(aN (a,b.2.2.2,a.2.2.2)).bind λa=>a
def aO:(List (DL×(List DL)))×(List (DL×DU))×OT×(List DL)->Option (Int):=λa=>(kH (a,false)).bind λb=>(kQ (b,a)).bind λa=>a
def kR:Rd (DL×(List DL)×Int×Int) GX:=λa (b,c,d,e)=>bif e<d then(at? c e).bind λf=>(O2 (f,b,DP e 0)).bind λb=>bif !DP b 0 then some (.inr b)else a (f,c,d,i64.wrap (e+1))else some (.inl ())
def A59:=DX kR fuel
def kS:List DL->Option (Int):=λa=>bif 30<(a.length:Int)then some 3 else(A59 ([],a,a.length,0)).bind λa=>match a with|.inl _=>some 0|.inr a=>a
def A5A:Rd (DU×DL×(((DL×DL)×DL)->Option Int)×Int×Int) (Int):=λa (b,c,d,e,f)=>bif e<f then(shr? u64 (u64.wrap (i64.wrap (e+f))) 1).bind λg=>(at? b (i64.wrap g)).bind λh=>(d (h,c)).bind λh=>bif h<0 then a (b,c,d,i64.wrap (i64.wrap g+1),f)else a (b,c,d,e,i64.wrap g)else e
def A5B:=DX A5A fuel
def kT:DU×DL×(((DL×DL)×DL)->Option Int)->Option (Int×Bool):=λ(a,b,c)=>(A5B (a,b,c,0,a.length)).bind λd=>(bif d<a.length then at? a d else some ([],[])).bind λe=>(bif d<a.length then c (e,b)else some 0).bind λb=>some (d,(d<a.length)&&DP b 0)
def xU:(DL×DL)×DL->Option (Int):=λ(a,b)=>(LV (a.1,b)).bind λa=>a
def WG:(DL×DU)×DL->Option (DL×Bool):=λ(a,b)=>(kT (a.2,b,λx=>(xU x).bind λr=>r)).bind λb=>bif !b.2 then some ([],false)else(at? a.2 b.1).bind λa=>some (a.2,true)
def kU:Rd ((DL×DU)×(List DL)×Int×Int) LU:=λa (b,c,d,e)=>bif e<d then(at? c e).bind λf=>(WG (b,f)).bind λf=>bif !f.2 then some (.inr false)else a (b,c,d,i64.wrap (e+1))else some (.inl ())
def A5C:=DX kU fuel
def kV:(DL×DU)×(DL×(List DL))->Option (Bool):=λ(a,b)=>(A5C (a,b.2,b.2.length,0)).bind λa=>match a with|.inl _=>some true|.inr a=>a
def xV:Rd (OU×OT×Int×Int) OU:=λa (b,c,d,e)=>bif e<d then(at? c e).bind λf=>a ((b.1,EB DQ f.1 e b.2.1,b.2.2.1,b.2.2.2.1,b.2.2.2.2.1,b.2.2.2.2.2),c,d,i64.wrap (e+1))else(b.1,b.2.1,b.2.2.1,b.2.2.2.1,b.2.2.2.2.1,b.2.2.2.2.2)
def A5D:=DX xV fuel
def xW:Rd (OU×(List (DL×DU))×Int×Int) OU:=λa (b,c,d,e)=>bif e<d then(at? c e).bind λf=>a ((b.1,b.2.1,EB DQ f.1 e b.2.2.1,b.2.2.2.1,b.2.2.2.2.1,b.2.2.2.2.2),c,d,i64.wrap (e+1))else(b.1,b.2.1,b.2.2.1,b.2.2.2.1,b.2.2.2.2.1,b.2.2.2.2.2)
def A5E:=DX xW fuel
def xX:Rd (OU×(DL×(List DL))×(List (DL×DU))×Int×Int) OU:=λa (b,c,d,e,f)=>bif f<e then(at? d f).bind λg=>(kV (g,c)).bind λg=>bif g then(app? 24 ((DW DQ c.1 b.2.2.2.1).getD []) [f]).bind λg=>(bif DQ c.1 c.1 then some ()else none).bind λ_=>a ((b.1,b.2.1,b.2.2.1,EB DQ c.1 g b.2.2.2.1,b.2.2.2.2.1,b.2.2.2.2.2),c,d,e,i64.wrap (f+1))else a ((b.1,b.2.1,b.2.2.1,b.2.2.2.1,b.2.2.2.2.1,b.2.2.2.2.2),c,d,e,i64.wrap (f+1))else(b.1,b.2.1,b.2.2.1,b.2.2.2.1,b.2.2.2.2.1,b.2.2.2.2.2)
def A5F:=DX xX fuel
def xY:Rd (JD×OU×(List (DL×(List DL)))×Int×Int) OU:=λa (b,c,d,e,f)=>bif f<e then(at? d f).bind λg=>(A5F ((c.1,c.2.1,c.2.2.1,c.2.2.2.1,c.2.2.2.2.1,c.2.2.2.2.2),g,b.2.1,b.2.1.length,0)).bind λg=>a (b,(g.1,g.2.1,g.2.2.1,g.2.2.2.1,g.2.2.2.2.1,g.2.2.2.2.2),d,e,i64.wrap (f+1))else(c.1,c.2.1,c.2.2.1,c.2.2.2.1,c.2.2.2.2.1,c.2.2.2.2.2)
def xZ:=DX xY fuel
def x_:Rd (OU×(List DL)×Int×Int) OU:=λa (b,c,d,e)=>bif e<d then(at? c e).bind λf=>a ((b.1,b.2.1,b.2.2.1,b.2.2.2.1,EB DQ f true b.2.2.2.2.1,b.2.2.2.2.2),c,d,i64.wrap (e+1))else(b.1,b.2.1,b.2.2.1,b.2.2.2.1,b.2.2.2.2.1,b.2.2.2.2.2)
def A5G:=DX x_ fuel
def kW:JD×Int×(List DL)->Option (Option G_):=λ(a,b,c)=>(A5D ((a,[],[],[],EB DQ [] true [],DP b 2),a.2.2.1,a.2.2.1.length,0)).bind λb=>(A5E ((b.1,b.2.1,b.2.2.1,b.2.2.2.1,b.2.2.2.2.1,b.2.2.2.2.2),a.2.1,a.2.1.length,0)).bind λb=>(xZ (a,(b.1,b.2.1,b.2.2.1,b.2.2.2.1,b.2.2.2.2.1,b.2.2.2.2.2),a.1,a.1.length,0)).bind λa=>(A5G ((a.1,a.2.1,a.2.2.1,a.2.2.2.1,a.2.2.2.2.1,a.2.2.2.2.2),c,c.length,0)).bind λa=>some (some (a.1,a.2.1,a.2.2.1,a.2.2.2.1,a.2.2.2.2.1,a.2.2.2.2.2))
def WH:JD×Int×(List DL)->Option ((Option G_)×Int):=λ(a,b,c)=>(aO a).bind λd=>bif !DP d 0 then some ((none:Option G_),d)else(kS c).bind λd=>bif !DP d 0 then some ((none:Option G_),d)else bif !DP b 1&&!DP b 2 then some ((none:Option G_),7)else(kW (a,b,c)).bind λa=>some (a,0)
def TY:JM×Int->Option JM:=λ(a,b)=>(in? a.2.1.length b).bind λ_=>bif !a.2.1.getD b.toNat false then(in? a.2.1.length b).bind λ_=>(app? 24 a.2.2.2.2.2.2 [b]).bind λc=>some (a.1,a.2.1.set b.toNat true,a.2.2.1,a.2.2.2.1,a.2.2.2.2.1,a.2.2.2.2.2.1,c)else(a.1,a.2.1,a.2.2.1,a.2.2.2.1,a.2.2.2.2.1,a.2.2.2.2.2.1,a.2.2.2.2.2.2)
def kX:Rd ((List Int)×Int×Int×Int) GX:=λa (b,c,d,e)=>bif e<d then(at? b e).bind λf=>bif DP c f then some (.inr e)else a (b,c,d,i64.wrap (e+1))else some (.inl ())
def A5H:=DX kX fuel
def yA:(List Int)×Int->Option (Int):=λ(a,b)=>(A5H (a,b,a.length,0)).bind λa=>match a with|.inl _=>some (-1)|.inr a=>a
def kY:(List Int)×Int->Option (Bool):=λ(a,b)=>(yA (a,b)).bind λa=>some (0<=a)
def TZ:(Option G_)×J3×Int->Option (Int):=λ(a,b,c)=>(a).bind λd=>(at? d.1.2.1 c).bind λc=>(WG (c,b.2.2.1)).bind λb=>(a).bind λa=>some ((DW DQ b.1 a.2.1).getD 0)
def kZ:Rd (JM×Int×DU×Int×Int) JM:=λa (b,c,d,e,f)=>bif f<e then(at? d f).bind λg=>(b.1).bind λh=>(kY ((DW DQ g.1 h.2.2.2.1).getD [],c)).bind λh=>bif h then(TZ (b.1,(0,g.1,g.2,[]),c)).bind λg=>(TY ((b.1,b.2.1,b.2.2.1,b.2.2.2.1,b.2.2.2.2.1,b.2.2.2.2.2.1,b.2.2.2.2.2.2),g)).bind λg=>a ((g.1,g.2.1,g.2.2.1,g.2.2.2.1,g.2.2.2.2.1,g.2.2.2.2.2.1,g.2.2.2.2.2.2),c,d,e,i64.wrap (f+1))else a ((b.1,b.2.1,b.2.2.1,b.2.2.2.1,b.2.2.2.2.1,b.2.2.2.2.2.1,b.2.2.2.2.2.2),c,d,e,i64.wrap (f+1))else(b.1,b.2.1,b.2.2.1,b.2.2.2.1,b.2.2.2.2.1,b.2.2.2.2.2.1,b.2.2.2.2.2.2)
def A5I:=DX kZ fuel
def k_:JM×Int->Option JM:=λ(a,b)=>(in? a.2.2.1.length b).bind λ_=>bif a.2.2.1.getD b.toNat false then(a.1,a.2.1,a.2.2.1,a.2.2.2.1,a.2.2.2.2.1,a.2.2.2.2.2.1,a.2.2.2.2.2.2)else(in? a.2.2.1.length b).bind λ_=>(a.1).bind λc=>bif !c.2.2.2.2.2 then some (a.1,a.2.1,a.2.2.1.set b.toNat true,a.2.2.2.1,a.2.2.2.2.1,a.2.2.2.2.2.1,a.2.2.2.2.2.2)else(A5I ((a.1,a.2.1,a.2.2.1.set b.toNat true,a.2.2.2.1,a.2.2.2.2.1,a.2.2.2.2.2.1,a.2.2.2.2.2.2),b,a.2.2.2.2.1,a.2.2.2.2.1.length,0)).bind λa=>(a.1,a.2.1,a.2.2.1,a.2.2.2.1,a.2.2.2.2.1,a.2.2.2.2.2.1,a.2.2.2.2.2.2)
def lA:Rd (JM×J3×(List Int)×Int×Int) JM:=λa (b,c,d,e,f)=>bif f<e then(at? d f).bind λg=>(b.1).bind λh=>(bif !(!h.2.2.2.2.2)then in? b.2.2.1.length g else some ()).bind λ_=>bif !h.2.2.2.2.2||b.2.2.1.getD g.toNat false then(TZ (b.1,c,g)).bind λg=>(TY ((b.1,b.2.1,b.2.2.1,b.2.2.2.1,b.2.2.2.2.1,b.2.2.2.2.2.1,b.2.2.2.2.2.2),g)).bind λg=>a ((g.1,g.2.1,g.2.2.1,g.2.2.2.1,g.2.2.2.2.1,g.2.2.2.2.2.1,g.2.2.2.2.2.2),c,d,e,i64.wrap (f+1))else a ((b.1,b.2.1,b.2.2.1,b.2.2.2.1,b.2.2.2.2.1,b.2.2.2.2.2.1,b.2.2.2.2.2.2),c,d,e,i64.wrap (f+1))else(b.1,b.2.1,b.2.2.1,b.2.2.2.1,b.2.2.2.2.1,b.2.2.2.2.2.1,b.2.2.2.2.2.2)
def A5J:=DX lA fuel
def lB:JM×J3->Option JM:=λ(a,b)=>bif DP b.1 1 then(a.1).bind λc=>(TY ((a.1,a.2.1,a.2.2.1,a.2.2.2.1,a.2.2.2.2.1,a.2.2.2.2.2.1,a.2.2.2.2.2.2),(DW DQ b.2.1 c.2.1).getD 0)).bind λc=>(c.1,c.2.1,c.2.2.1,c.2.2.2.1,c.2.2.2.2.1,c.2.2.2.2.2.1,c.2.2.2.2.2.2)else bif (DW (λ(x y:DL×DL)=>DQ x.1 y.1&&DQ x.2 y.2) (b.2.1,b.2.2.1) a.2.2.2.1).getD false then(a.1,a.2.1,a.2.2.1,a.2.2.2.1,a.2.2.2.2.1,a.2.2.2.2.2.1,a.2.2.2.2.2.2)else(app? 48 a.2.2.2.2.1 [(b.2.1,b.2.2.1)]).bind λc=>(a.1).bind λd=>(A5J ((a.1,a.2.1,a.2.2.1,EB (λ(x y:DL×DL)=>DQ x.1 y.1&&DQ x.2 y.2) (b.2.1,b.2.2.1) true a.2.2.2.1,c,a.2.2.2.2.2.1,a.2.2.2.2.2.2),b,(DW DQ b.2.1 d.2.2.2.1).getD [],(((DW DQ b.2.1 d.2.2.2.1).getD []).length:Int),0)).bind λa=>(a.1,a.2.1,a.2.2.1,a.2.2.2.1,a.2.2.2.2.1,a.2.2.2.2.2.1,a.2.2.2.2.2.2)
def lC:Rd ((Option G_)×JM×(List DL)×Int×Int) JM:=λa (b,c,d,e,f)=>bif f<e then(at? d f).bind λg=>(b).bind λh=>(TY ((c.1,c.2.1,c.2.2.1,c.2.2.2.1,c.2.2.2.2.1,c.2.2.2.2.2.1,c.2.2.2.2.2.2),(DW DQ g h.2.1).getD 0)).bind λg=>a (b,(g.1,g.2.1,g.2.2.1,g.2.2.2.1,g.2.2.2.2.1,g.2.2.2.2.2.1,g.2.2.2.2.2.2),d,e,i64.wrap (f+1))else(c.1,c.2.1,c.2.2.1,c.2.2.2.1,c.2.2.2.2.1,c.2.2.2.2.2.1,c.2.2.2.2.2.2)
def A5K:=DX lC fuel
def lD:Rd ((Option G_)×JM×(List DL)×Int×Int) JM:=λa (b,c,d,e,f)=>bif f<e then(at? d f).bind λg=>(b).bind λh=>(k_ ((c.1,c.2.1,c.2.2.1,c.2.2.2.1,c.2.2.2.2.1,c.2.2.2.2.2.1,c.2.2.2.2.2.2),(DW DQ g h.2.2.1).getD 0)).bind λg=>a (b,(g.1,g.2.1,g.2.2.1,g.2.2.2.1,g.2.2.2.2.1,g.2.2.2.2.2.1,g.2.2.2.2.2.2),d,e,i64.wrap (f+1))else(c.1,c.2.1,c.2.2.1,c.2.2.2.1,c.2.2.2.2.1,c.2.2.2.2.2.1,c.2.2.2.2.2.2)
def A5L:=DX lD fuel
def lE:Rd ((Option G_)×Int×JM×(List J3)×Int×Int) (Sum JM JM):=λa (b,c,d,e,f,g)=>bif g<f then(at? e g).bind λh=>(b).bind λi=>bif !(DW DQ h.2.2.2 i.2.2.2.2.1).getD false then a (b,c,(d.1,d.2.1,d.2.2.1,d.2.2.2.1,d.2.2.2.2.1,d.2.2.2.2.2.1,d.2.2.2.2.2.2),e,f,i64.wrap (g+1))else(lB ((d.1,d.2.1,d.2.2.1,d.2.2.2.1,d.2.2.2.2.1,d.2.2.2.2.2.1,d.2.2.2.2.2.2),h)).bind λh=>(bif 0<=c then in? h.2.1.length c else some ()).bind λ_=>bif 0<=c&&h.2.1.getD c.toNat false then some (.inl (h.1,h.2.1,h.2.2.1,h.2.2.2.1,h.2.2.2.2.1,h.2.2.2.2.2.1,h.2.2.2.2.2.2))else a (b,c,(h.1,h.2.1,h.2.2.1,h.2.2.2.1,h.2.2.2.2.1,h.2.2.2.2.2.1,h.2.2.2.2.2.2),e,f,i64.wrap (g+1))else some (.inr (d.1,d.2.1,d.2.2.1,d.2.2.2.1,d.2.2.2.2.1,d.2.2.2.2.2.1,d.2.2.2.2.2.2))
def A5M:=DX lE fuel
def A5N:Rd ((Option G_)×Int×JM) JM:=λa (b,c,d)=>bif 0<(d.2.2.2.2.2.2.length:Int)then(in? d.2.2.2.2.2.2.length 0).bind λ_=>(cut? d.2.2.2.2.2.2 1 d.2.2.2.2.2.2.length).bind λe=>bif DP (d.2.2.2.2.2.2.getD 0 0) c then(d.1,d.2.1,d.2.2.1,d.2.2.2.1,d.2.2.2.2.1,d.2.2.2.2.2.1,e)else(b).bind λf=>(at? f.1.2.2.1 (d.2.2.2.2.2.2.getD 0 0)).bind λf=>(A5L (b,(d.1,d.2.1,d.2.2.1,d.2.2.2.1,d.2.2.2.2.1,d.2.2.2.2.2.1,e),f.2.2.2,f.2.2.2.length,0)).bind λe=>(b).bind λf=>(at? f.1.2.2.1 (d.2.2.2.2.2.2.getD 0 0)).bind λf=>(A5M (b,c,(e.1,e.2.1,e.2.2.1,e.2.2.2.1,e.2.2.2.2.1,e.2.2.2.2.2.1,e.2.2.2.2.2.2),f.2.2.1,f.2.2.1.length,0)).bind λe=>match e with|.inl e=>(e.1,e.2.1,e.2.2.1,e.2.2.2.1,e.2.2.2.2.1,e.2.2.2.2.2.1,e.2.2.2.2.2.2)|.inr e=>a (b,c,e.1,e.2.1,e.2.2.1,e.2.2.2.1,e.2.2.2.2.1,e.2.2.2.2.2.1,e.2.2.2.2.2.2)else(d.1,d.2.1,d.2.2.1,d.2.2.2.1,d.2.2.2.2.1,d.2.2.2.2.2.1,d.2.2.2.2.2.2)
def A5O:=DX A5N fuel
def aP:(Option G_)×Int->Option N5:=λ(a,b)=>(a).bind λc=>(mks? 24 c.1.2.2.1.length c.1.2.2.1.length false).bind λc=>(a).bind λd=>(mks? 24 d.1.2.1.length d.1.2.1.length false).bind λd=>(a).bind λe=>(A5K (a,(a,c,d,[],[],[],[]),e.1.2.2.2,e.1.2.2.2.length,0)).bind λc=>(A5O (a,b,c.1,c.2.1,c.2.2.1,c.2.2.2.1,c.2.2.2.2.1,c.2.2.2.2.2.1,c.2.2.2.2.2.2)).bind λa=>some (some (a.1,a.2.1,a.2.2.1,a.2.2.2.1,a.2.2.2.2.1,a.2.2.2.2.2.1,a.2.2.2.2.2.2))
def lF:Rd (JD×(List DL)×(List Bool)×Int×Int) (List DL):=λa (b,c,d,e,f)=>bif f<e then(at? d f).bind λg=>bif g then(at? b.2.2.1 f).bind λg=>(app? 24 c [g.1]).bind λg=>a (b,g,d,e,i64.wrap (f+1))else a (b,c,d,e,i64.wrap (f+1))else c
def A5P:=DX lF fuel
def O3:JD×Int×(List DL)->Option ((List DL)×Int):=λ(a,b,c)=>(WH (a,b,c)).bind λb=>bif !DP b.2 0 then some ([],b.2)else(aP (b.1,-1)).bind λb=>(b).bind λb=>(A5P (a,[],b.2.1,b.2.1.length,0)).bind λa=>some (a,0)
def aQ:H7×Int×NX×(List JD)×Int×(List DL)×QB->Option (Int):=λa=>bif 1<(a.2.2.2.1.length:Int)then some 2 else bif DP a.2.2.2.1.length 0 then bif !DP a.2.2.2.2.1 0||0<(a.2.2.2.2.2.1.length:Int)then some 2 else some 0 else(at? a.2.2.2.1 0).bind λb=>(O3 (b,a.2.2.2.2.1,a.2.2.2.2.2.1)).bind λa=>a.2
def lG:Rd EQ LU:=λa (b,c,d)=>bif d<c then(at? b d).bind λe=>bif !(97<=(e.toNat:Int)&&(e.toNat:Int)<=122||65<=(e.toNat:Int)&&(e.toNat:Int)<=90||48<=(e.toNat:Int)&&(e.toNat:Int)<=57||DP e.toNat 46||DP e.toNat 45||DP e.toNat 95)then some (.inr false)else a (b,c,i64.wrap (d+1))else some (.inl ())
def A5Q:=DX lG fuel
def lH:DL->Option (Bool):=λa=>(A5Q (a,a.length,0)).bind λb=>match b with|.inl _=>some (!DQ a []&&(a.length:Int)<=60)|.inr a=>a
def lI:Rd EQ LU:=λa (b,c,d)=>bif d<c then(at? b d).bind λe=>(bif !((e.toNat:Int)<32)then at? b d else some 0).bind λf=>bif (e.toNat:Int)<32||DP f.toNat 127 then some (.inr false)else a (b,c,i64.wrap (d+1))else some (.inl ())
def A5R:=DX lI fuel
def lJ:DL->Option (Bool):=λa=>(A5R (a,a.length,0)).bind λb=>match b with|.inl _=>some ((a.length:Int)<=100)|.inr a=>a
def A5S:Rd (EQ×Bool×HY) (Sum (EQ×HY) (EQ×HY×Bool)):=λa (b,c,d)=>bif b.2.2<0 then(L6 (some b)).bind λe=>bif !DP e 42 then(ZO b).bind λe=>bif !e.2.1 then some (.inl (e.2.2,d))else(app? 48 d [(1,e.1)]).bind λf=>a (e.2.2,c,f)else(L6 (some (b.1,i64.wrap (b.2.1+1),b.2.2))).bind λe=>bif DP e 42 then(bif !(!c||0<(d.length:Int))then cut? b.1 (i64.wrap (b.2.1+1)) b.1.length else some []).bind λe=>(bif !(!c||0<(d.length:Int))then strings_HasPrefix (e,[42,47])else some false).bind λe=>bif !c||0<(d.length:Int)||!e then(N9 ((b.1,i64.wrap (b.2.1+1),b.2.2),i64.wrap (b.2.1+1))).bind λe=>some (.inr (e,[],false))else some (.inr ((b.1,i64.wrap (i64.wrap (b.2.1+1)+1),b.2.2),[],true))else(app? 48 d [(2,0)]).bind λe=>a ((b.1,i64.wrap (b.2.1+1),b.2.2),c,e)else some (.inl (b,d))
def A5T:=DX A5S fuel
def aR:EQ×Bool->Option (HY×Bool×EQ):=λ(a,b)=>(A5T (a,b,[])).bind λa=>match a with|.inl a=>bif DP a.2.length 0 then(N9 (a.1,a.1.2.1)).bind λb=>some (a.2,false,b)else some (a.2,false,a.1)|.inr a=>(a.2.1,a.2.2,a.1)
def yB:(DL×(HY×Int))×HY×Bool->Option (DL×(HY×Int)):=λ(a,b,c)=>bif c then(app? 48 a.2.1 [(4,0)]).bind λc=>(a.1,c,a.2.2)else(app? 48 a.2.1 b).bind λb=>(a.1,b,a.2.2)
def A5U:Rd (EQ×KA×(DL×(HY×Int))) (Sum (EQ×KA×(DL×(HY×Int))) (EQ×KA)):=λa (b,c,d)=>bif b.2.2<0 then(aR (b,true)).bind λe=>bif 0<=e.2.2.2.2 then some (.inr (e.2.2,d.1,d.2.1,d.2.2))else(yB ((d.1,d.2.1,d.2.2),e.1,e.2.1)).bind λf=>(L6 (some e.2.2)).bind λg=>bif !DP g 47 then some (.inl (e.2.2,c,f.1,f.2.1,f.2.2))else bif !e.2.1 then(app? 48 f.2.1 [(3,0)]).bind λg=>a ((e.2.2.1,i64.wrap (e.2.2.2.1+1),e.2.2.2.2),c,f.1,g,i64.wrap (f.2.2+1))else a ((e.2.2.1,i64.wrap (e.2.2.2.1+1),e.2.2.2.2),c,f.1,f.2.1,i64.wrap (f.2.2+1))else some (.inl (b,c,d.1,d.2.1,d.2.2))
def A5V:=DX A5U fuel
def yC:EQ×(DL×(HY×Int))×Bool->Option (EQ×(DL×(HY×Int))):=λ(a,b,c)=>bif c then(a,b.1,b.2.1,b.2.2)else bif DP a.2.1 a.1.length then(app? 48 b.2.1 [(6,0)]).bind λc=>(a,b.1,c,b.2.2)else(L6 (some a)).bind λc=>bif DP c 64 then(aR ((a.1,i64.wrap (a.2.1+1),a.2.2),false)).bind λc=>(app? 48 b.2.1 [(5,0)]).bind λd=>(app? 48 d c.1).bind λd=>(c.2.2,b.1,d,b.2.2)else(a,b.1,b.2.1,b.2.2)
def lK:DL×Int×Int->Option (KA×EQ):=λa=>(ZN (a,true)).bind λa=>(A5V (a.2,([],[],0),a.1,[],0)).bind λa=>match a with|.inl a=>(yC (a.1,(a.2.2.1,a.2.2.2.1,a.2.2.2.2),0<=a.1.2.2)).bind λa=>bif a.1.2.2<0&&a.1.2.1<a.1.1.length then(N9 (a.1,a.1.2.1)).bind λb=>some ((a.2.1,a.2.2.1,a.2.2.2),b)else some ((a.2.1,a.2.2.1,a.2.2.2),a.1)|.inr a=>(a.2,a.1)
def aS:DL->Option (KA×Int×Int):=λa=>bif 3000<(a.length:Int)then some (([],[],0),0,3)else(lK (a,0,-1)).bind λa=>bif 0<=a.2.2.2 then some (([],[],0),a.2.2.2,6)else(bif !DQ a.1.1 [42]then ZF a.1.1 else some 0).bind λb=>bif !DQ a.1.1 [42]&&b<0 then some (([],[],0),0,7)else bif 10<a.1.2.2 then some (([],[],0),0,3)else some (a.1,0,0)
def lL:DL->Option (Int×Int):=λa=>(aS a).bind λa=>(a.2.1,a.2.2)
def S6:DL×DL×DL×Int×Int×Int×Int->Option (Int):=λa=>(lH a.1).bind λb=>(bif !(!b)then lJ a.2.1 else some false).bind λc=>bif !b||!c then some 8 else(lL a.2.2.1).bind λb=>bif !DP b.2 0 then b.2 else bif a.2.2.2.1<1||4<a.2.2.2.1 then some 7 else bif !DP a.2.2.2.1 4&&!DP a.2.2.2.2.1 0 then some 2 else bif DP a.2.2.2.1 4&&(a.2.2.2.2.1<1||5<a.2.2.2.2.1)then some 7 else bif a.2.2.2.2.2.1<0||1000000<a.2.2.2.2.2.1||a.2.2.2.2.2.2<0||100<a.2.2.2.2.2.2 then some 9 else some 0
def lM:Rd (QB×Int×Int) GX:=λa (b,c,d)=>bif d<c then(at? b d).bind λe=>(S6 e).bind λe=>bif !DP e 0 then some (.inr e)else a (b,c,i64.wrap (d+1))else some (.inl ())
def yD:=DX lM fuel
def OX:H7×Int×NX×(List JD)×Int×(List DL)×QB->Option (Int):=λa=>(S1 a.1).bind λb=>bif !DP b 0 then b else bif a.2.1<1||4<a.2.1 then some 9 else(WB a.2.2.1).bind λb=>bif !DP b 0 then b else(aQ a).bind λb=>bif !DP b 0 then b else bif 2000<(a.2.2.2.2.2.2.length:Int)then some 3 else(yD (a.2.2.2.2.2.2,a.2.2.2.2.2.2.length,0)).bind λa=>match a with|.inl _=>some 0|.inr a=>a
def T_:Int×DL->Option (Int):=λ(a,b)=>(KD (a,b)).bind λa=>a.2
def lN:(GN×GN)×(List FI)->Option (Int):=λ(a,b)=>bif !a.1.1||!a.1.2.1||a.2.1&&(!a.2.2.1||DQ a.2.2.2 [57,57,57,57,57,57,57,57,57,57,57,57,57,57,57,57,57,57])then some 2 else bif 0<(b.length:Int)then(KC a.1.2.2).bind λa=>(at? b (i64.wrap (b.length-1))).bind λb=>(KC b.2.2.2.2).bind λb=>bif a.1<i64.wrap (b.1+2)then some 10 else some 0 else some 0
def A5W:Rd ((Int×FD)×(List FI)×FD×Int×Int) (Sum (List FI) ((List FI)×Int)):=λa (b,c,d,e,f)=>bif f<e then(at? d f).bind λg=>(S4 (b.1,g.1)).bind λh=>bif !DP h.2 0 then some (.inr ([],h.2))else(S4 (b.1,g.2)).bind λi=>bif !DP i.2 0 then some (.inr ([],i.2))else(aK (g.1,h.1)).bind λh=>(aL (g.2,i.1)).bind λi=>(NB (h,i)).bind λj=>(bif !(0<=j)&&0<(c.length:Int)then at? c (i64.wrap (c.length-1))else some ((0,[],false,[]),0,[],false,[])).bind λk=>(bif !(0<=j)&&0<(c.length:Int)then NB (h,k.2)else some 0).bind λk=>bif 0<=j||0<(c.length:Int)&&k<=0 then some (.inr ([],10))else bif DP b.1 5 then(lN (g,c)).bind λg=>bif !DP g 0 then some (.inr ([],g))else(app? 192 c [(h,i)]).bind λg=>a (b,g,d,e,i64.wrap (f+1))else(app? 192 c [(h,i)]).bind λg=>a (b,g,d,e,i64.wrap (f+1))else some (.inl c)
def yE:=DX A5W fuel
def aT:Int×FD->Option ((List FI)×Int):=λa=>bif a.1<1||5<a.1 then some ([],7)else bif 200<(a.2.length:Int)then some ([],3)else(yE (a,[],a.2,a.2.length,0)).bind λa=>match a with|.inl a=>some (a,0)|.inr a=>(a.1,a.2)
def lO:FI×(Option LR)->Option (Bool):=λ(a,b)=>(b).bind λc=>(NB (a.1,c)).bind λc=>(bif c<=0 then b else some (0,[],false,[])).bind λb=>(bif c<=0 then NB (b,a.2)else some 0).bind λa=>some (c<=0&&a<0)
def A5X:Rd ((List FI)×(FI->Option Bool)×Int×Int) GX:=λa (b,c,d,e)=>bif e<d then(at? b e).bind λf=>(c f).bind λf=>bif f then some (.inr e)else a (b,c,d,i64.wrap (e+1))else some (.inl ())
def A5Y:=DX A5X fuel
def yF:(List FI)×(FI->Option Bool)->Option (Int):=λ(a,b)=>(A5Y (a,b,a.length,0)).bind λa=>match a with|.inl _=>some (-1)|.inr a=>a
def aU:(List FI)×DL->Option (Int):=λ(a,b)=>(yF (a,λx=>(lO (x,some (0,b,false,[]))).bind λr=>r)).bind λa=>a
def S7:(Int×FD)×DL->Option (Bool×Int):=λ(a,b)=>(aT a).bind λc=>bif !DP c.2 0 then some (false,c.2)else(KD (a.1,b)).bind λa=>bif !DP a.2 0 then some (false,a.2)else((λz=>Sum.casesOn (motive:=λ_=>Option DL) z (λx=>(NY x).bind λr=>r) (λz=>z.casesOn (λx=>(NZ x).bind λr=>r) (λz=>z.casesOn (λx=>(N_ x).bind λr=>r) (λz=>z.casesOn (λx=>(O0 x).bind λr=>r) (λz=>z.casesOn (λx=>(O1 x).bind λr=>r) (λ_=>none)))))) a.1).bind λa=>(aU (c.1,a)).bind λa=>some (0<=a,0)
def S8:F_×(Int×FD)×DL×DL->Option (Bool):=λ(a,b,c,d)=>(bif !(!DQ a.1 c||DQ d [])then T_ (a.2.1,d)else some 0).bind λe=>bif !DQ a.1 c||DQ d []||!DP e 0 then some false else(S7 (b,d)).bind λa=>some (DP a.2 0&&a.1)
def lP:(Int×Int)×(Int×Int)->Option (Int):=λ(a,b)=>(QC (a.1,b.1)).bind λc=>(QC (a.2,b.2)).bind λa=>(S0 [c,a]).bind λa=>a
def lQ:Rd (H7×KB×HY×Int×F_×(List Int)×Int×Int) (H7×HY):=λa (b,c,d,e,f,g,h,i)=>bif i<h then(at? g i).bind λj=>(at? c e).bind λk=>(at? b.2.2.2.1 j).bind λl=>(S8 (f,k,f.1,l.2.1.2.2.2.1)).bind λk=>bif k then(app? 48 d [(j,e)]).bind λj=>a (b,c,j,e,f,g,h,i64.wrap (i+1))else a (b,c,d,e,f,g,h,i64.wrap (i+1))else(b,d)
def A5Z:=DX lQ fuel
def yG:Rd ((List (DL×(List Int)))×H7×KB×HY×(List F_)×Int×Int) HY:=λa (b,c,d,e,f,g,h)=>bif h<g then(at? f h).bind λi=>(A5Z (c,d,e,h,i,(DW DQ i.1 b).getD [],(((DW DQ i.1 b).getD []).length:Int),0)).bind λc=>a (b,c.1,d,c.2,f,g,i64.wrap (h+1))else e
def yH:=DX yG fuel
def lR:G9×H7×(List (DL×(List Int)))->Option HY:=λ(a,b,c)=>(LX a).bind λd=>(yH (c,b,d.1,[],a.2.2.2.2.2.2,a.2.2.2.2.2.2.length,0)).bind λa=>(A3_ (a,λx=>(lP x).bind λr=>r)).bind λa=>a
def yI:Rd ((List (DL×List Int))×(List GM)×Int×Int) (List (DL×List Int)):=λa (b,c,d,e)=>bif e<d then(at? c e).bind λf=>(J4 f.2.1).bind λf=>(app? 24 ((DW DQ f.1 b).getD []) [e]).bind λg=>(bif DQ f.1 f.1 then some ()else none).bind λ_=>a (EB DQ f.1 g b,c,d,i64.wrap (e+1))else b
def yJ:=DX yI fuel
def lS:Rd (H7×(List GD)×G9×HY×Int×Int) (Sum (H7×(List GD)) ((List GD)×Int)):=λa (b,c,d,e,f,g)=>bif g<f then(at? e g).bind λh=>bif DP c.length 100000 then some (.inr ([],3))else(at? b.2.2.2.1 h.1).bind λi=>(app? 72 c [(d.1,i.1,h.2)]).bind λh=>a (b,h,d,e,f,i64.wrap (g+1))else some (.inl (b,c))
def yK:=DX lS fuel
def lT:Rd (H7×(List (DL×(List Int)))×(List GD)×(List G9)×Int×Int) (Sum (List GD) ((List GD)×Int)):=λa (b,c,d,e,f,g)=>bif g<f then(at? e g).bind λh=>bif h.2.2.2.2.1 then a (b,c,d,e,f,i64.wrap (g+1))else(lR (h,b,c)).bind λi=>(yK (b,d,h,i,i.length,0)).bind λb=>match b with|.inl b=>a (b.1,c,b.2,e,f,i64.wrap (g+1))|.inr a=>some (.inr (a.1,a.2))else some (.inl d)
def A5_:=DX lT fuel
def lU:NX×H7->Option ((List GD)×Int):=λ(a,b)=>(WB a).bind λc=>bif !DP c 0 then some ([],c)else(S1 b).bind λc=>bif !DP c 0 then some ([],c)else(yJ ([],b.2.2.2.1,b.2.2.2.1.length,0)).bind λc=>(A5_ (b,c,[],a.2.1,a.2.1.length,0)).bind λa=>match a with|.inl a=>some (a,0)|.inr a=>(a.1,a.2)
def lV:Rd (RX×(List G9)×Int×Int) RX:=λa (b,c,d,e)=>bif e<d then(at? c e).bind λf=>a ((b.1,EB DQ f.1 f b.2.1,b.2.2.1,b.2.2.2.1,b.2.2.2.2),c,d,i64.wrap (e+1))else(b.1,b.2.1,b.2.2.1,b.2.2.2.1,b.2.2.2.2)
def yL:=DX lV fuel
def lW:Rd (RX×(List GM)×Int×Int) RX:=λa (b,c,d,e)=>bif e<d then(at? c e).bind λf=>a ((b.1,b.2.1,EB DQ f.1 f b.2.2.1,b.2.2.2.1,b.2.2.2.2),c,d,i64.wrap (e+1))else(b.1,b.2.1,b.2.2.1,b.2.2.2.1,b.2.2.2.2)
def yM:=DX lW fuel
def lX:Rd (LP×RX×(List GD)×Int×Int) (LP×RX):=λa (b,c,d,e,f)=>bif f<e then(at? d f).bind λg=>bif g.2.2<=b.2.1 then a (b,(c.1,c.2.1,c.2.2.1,c.2.2.2.1,EB (λ(x y:DL×DL×Int)=>DQ x.1 y.1&&(λ(x y:DL×Int)=>DQ x.1 y.1&&DP x.2 y.2) x.2 y.2) (g.1,g.2.1,0) true c.2.2.2.2),d,e,i64.wrap (f+1))else a (b,(c.1,c.2.1,c.2.2.1,c.2.2.2.1,c.2.2.2.2),d,e,i64.wrap (f+1))else(b,c.1,c.2.1,c.2.2.1,c.2.2.2.1,c.2.2.2.2)
def yN:=DX lX fuel
def lY:Rd (RX×(List DL)×Int×Int) RX:=λa (b,c,d,e)=>bif e<d then(at? c e).bind λf=>a ((b.1,b.2.1,b.2.2.1,EB DQ f true b.2.2.2.1,b.2.2.2.2),c,d,i64.wrap (e+1))else(b.1,b.2.1,b.2.2.1,b.2.2.2.1,b.2.2.2.2)
def lZ:=DX lY fuel
def QF:H7×Int×NX×(List JD)×Int×(List DL)×QB->Option JL:=λa=>(yL ((a,[],[],[],[]),a.2.2.1.2.1,a.2.2.1.2.1.length,0)).bind λb=>(yM ((b.1,b.2.1,b.2.2.1,b.2.2.2.1,b.2.2.2.2),a.1.2.2.2.1,a.1.2.2.2.1.length,0)).bind λb=>(yN (a,(b.1,b.2.1,b.2.2.1,b.2.2.2.1,b.2.2.2.2),a.1.2.2.2.2,a.1.2.2.2.2.length,0)).bind λa=>bif DP a.1.2.2.2.1.length 1 then(at? a.1.2.2.2.1 0).bind λb=>(O3 (b,a.1.2.2.2.2.1,a.1.2.2.2.2.2.1)).bind λb=>(lZ ((a.2.1,a.2.2.1,a.2.2.2.1,a.2.2.2.2.1,a.2.2.2.2.2),b.1,b.1.length,0)).bind λb=>some (some (b.1,b.2.1,b.2.2.1,b.2.2.2.1,b.2.2.2.2))else some (some (a.2.1,a.2.2.1,a.2.2.2.1,a.2.2.2.2.1,a.2.2.2.2.2))
def yO:Rd ((List (DL×Int))×(List GM)×Int×Int) (List (DL×Int)):=λa (b,c,d,e)=>bif e<d then(at? c e).bind λf=>a (EB DQ f.1 e b,c,d,i64.wrap (e+1))else b
def A5a:=DX yO fuel
def l_:Rd (Int×(List (DL×Int))×(H7×(Int×(JN×JN)))×(List GD)×Int×Int) (H7×(Int×(JN×JN))):=λa (b,c,d,e,f,g)=>bif g<f then(at? e g).bind λh=>bif b<h.2.2 then a (b,c,(d.1,d.2.1,d.2.2.1,d.2.2.2),e,f,i64.wrap (g+1))else(in? d.2.2.1.length ((DW DQ h.1 c).getD 0)).bind λ_=>(app? 24 (d.2.2.1.getD (((DW DQ h.1 c).getD 0).toNat) []) [(DW DQ h.2.1 c).getD 0]).bind λi=>(in? d.2.2.2.length ((DW DQ h.2.1 c).getD 0)).bind λ_=>(app? 24 (d.2.2.2.getD (((DW DQ h.2.1 c).getD 0).toNat) []) [(DW DQ h.1 c).getD 0]).bind λj=>(in? d.2.2.1.length ((DW DQ h.1 c).getD 0)).bind λ_=>(bif Nat.beq (((DW DQ h.1 c).getD 0).toNat) (((DW DQ h.1 c).getD 0).toNat)then some ()else none).bind λ_=>(in? d.2.2.2.length ((DW DQ h.2.1 c).getD 0)).bind λ_=>(bif Nat.beq (((DW DQ h.2.1 c).getD 0).toNat) (((DW DQ h.2.1 c).getD 0).toNat)then some ()else none).bind λ_=>a (b,c,(d.1,d.2.1,d.2.2.1.set (((DW DQ h.1 c).getD 0).toNat) i,d.2.2.2.set (((DW DQ h.2.1 c).getD 0).toNat) j),e,f,i64.wrap (g+1))else(d.1,d.2.1,d.2.2.1,d.2.2.2)
def A5b:=DX l_ fuel
def m6:Rd ((H7×(Int×(JN×JN)))×Int×Int) (H7×(Int×(JN×JN))):=λa (b,c,d)=>bif d<c then(in? b.2.2.1.length d).bind λ_=>(slices_Compact_int (b.2.2.1.getD d.toNat [])).bind λe=>(in? b.2.2.2.length d).bind λ_=>(slices_Compact_int (b.2.2.2.getD d.toNat [])).bind λf=>(in? b.2.2.1.length d).bind λ_=>(bif Nat.beq d.toNat d.toNat then some ()else none).bind λ_=>(in? b.2.2.2.length d).bind λ_=>(bif Nat.beq d.toNat d.toNat then some ()else none).bind λ_=>a ((b.1,b.2.1,b.2.2.1.set d.toNat e,b.2.2.2.set d.toNat f),c,i64.wrap (d+1))else(b.1,b.2.1,b.2.2.1,b.2.2.2)
def A5c:=DX m6 fuel
def m7:H7×Int->Option TL:=λ(a,b)=>(A5a ([],a.2.2.2.1,a.2.2.2.1.length,0)).bind λc=>(mks? 24 a.2.2.2.1.length a.2.2.2.1.length []).bind λd=>(mks? 24 a.2.2.2.1.length a.2.2.2.1.length []).bind λe=>(A5b (b,c,(a,(DW DQ a.2.2.1 c).getD 0,d,e),a.2.2.2.2,a.2.2.2.2.length,0)).bind λb=>(A5c ((b.1,b.2.1,b.2.2.1,b.2.2.2),a.2.2.2.1.length,0)).bind λa=>(a.1,a.2.1,a.2.2.1,a.2.2.2)
def WI:H7×Int->Option (TL×Int):=λ(a,b)=>(S1 a).bind λc=>bif !DP c 0 then some ((([],[],[],[],[]),0,[],[]),c)else bif b<1||4<b then some ((([],[],[],[],[]),0,[],[]),9)else(m7 (a,b)).bind λa=>some (a,0)
def A5d:Rd ((List GM)×DL×((GM×DL)->Option Int)×Int×Int) (Int):=λa (b,c,d,e,f)=>bif e<f then(shr? u64 (u64.wrap (i64.wrap (e+f))) 1).bind λg=>(at? b (i64.wrap g)).bind λh=>(d (h,c)).bind λh=>bif h<0 then a (b,c,d,i64.wrap (i64.wrap g+1),f)else a (b,c,d,e,i64.wrap g)else e
def A5e:=DX A5d fuel
def m8:(List GM)×DL×((GM×DL)->Option Int)->Option (Int×Bool):=λ(a,b,c)=>(A5e (a,b,c,0,a.length)).bind λd=>(bif d<a.length then at? a d else some ([],([],[],[],[],[],[]),[],[],[])).bind λe=>(bif d<a.length then c (e,b)else some 0).bind λb=>some (d,(d<a.length)&&DP b 0)
def m9:GM×DL->Option (Int):=λ(a,b)=>(LV (a.1,b)).bind λa=>a
def aV:H7×DL->Option (Int×Bool):=λ(a,b)=>(m8 (a.2.2.2.1,b,λx=>(m9 x).bind λr=>r)).bind λa=>(a.1,a.2)
def aW:H7×DL×Int->Option (TL×Int×Int):=λ(a,b,c)=>(WI (a,c)).bind λc=>bif !DP c.2 0 then some ((([],[],[],[],[]),0,[],[]),0,c.2)else(aV (a,b)).bind λa=>bif !a.2 then some ((([],[],[],[],[]),0,[],[]),0,4)else some (c.1,a.1,0)
def yP:Rd ((List Int)×Int×Int) (List Int):=λa (b,c,d)=>bif d<c then(in? b.length d).bind λ_=>a (b.set d.toNat (-1),c,i64.wrap (d+1))else b
def yQ:=DX yP fuel
def WJ:Rd (Int×(List Int)×(List Int)×Int×(List Int)×Int×Int) ((List Int)×(List Int)):=λa (b,c,d,e,f,g,h)=>bif h<g then(at? f h).bind λi=>(in? c.length i).bind λ_=>bif c.getD i.toNat 0<0&&!DP i b then(in? c.length e).bind λ_=>(in? c.length i).bind λ_=>(app? 24 d [i]).bind λj=>a (b,c.set i.toNat (i64.wrap (c.getD e.toNat 0+1)),j,e,f,g,i64.wrap (h+1))else a (b,c,d,e,f,g,i64.wrap (h+1))else(c,d)
def mA:=DX WJ fuel
def aX:Rd (JN×Int×(List Int)×(List Int)) (List Int):=λa (b,c,d,e)=>bif 0<(e.length:Int)then(in? e.length 0).bind λ_=>(cut? e 1 e.length).bind λf=>(at? b (e.getD 0 0)).bind λg=>(mA (c,d,f,e.getD 0 0,g,g.length,0)).bind λe=>a (b,c,e.1,e.2)else d
def yR:=DX aX fuel
def aY:JN×Int×Int->Option (List Int):=λ(a,b,c)=>(mks? 24 a.length a.length 0).bind λd=>(yQ (d,d.length,0)).bind λd=>bif DP b c then d else(in? d.length b).bind λ_=>(yR (a,c,d.set b.toNat 0,[b])).bind λa=>a
def yS:Int×(Option (List Int))×(Option Int)->Option (Bool):=λ(a,b,c)=>(b).bind λd=>(at? d a).bind λa=>(b).bind λb=>(c).bind λc=>(at? b c).bind λb=>some (DP a (i64.wrap (b-1)))
def yT:Rd ((List Int)×N7×Int×Int) GX:=λa (b,c,d,e)=>bif e<d then(at? b e).bind λf=>(c f).bind λf=>bif f then some (.inr e)else a (b,c,d,i64.wrap (e+1))else some (.inl ())
def A5f:=DX yT fuel
def mB:(List Int)×N7->Option (Int):=λ(a,b)=>(A5f (a,b,a.length,0)).bind λa=>match a with|.inl _=>some (-1)|.inr a=>a
def mC:Rd (Int×TL×(List Int)×(List Int)×Int) (List Int):=λa (b,c,d,e,f)=>bif !DP f b then(at? c.2.2.1 f).bind λg=>(mB (g,λx=>(yS (x,some d,some f)).bind λr=>r)).bind λg=>(at? c.2.2.1 f).bind λf=>(at? f g).bind λf=>(app? 24 e [f]).bind λg=>a (b,c,d,g,f)else e
def A5g:=DX mC fuel
def aZ:TL×Int->Option (List Int):=λ(a,b)=>(aY (a.2.2.2,b,-1)).bind λc=>(at? c a.2.1).bind λd=>bif d<0 then some []else(A5g (b,a,c,[a.2.1],a.2.1)).bind λa=>a
def U0:Rd (TL×(List DL)×(List Int)×Int×Int) (List DL):=λa (b,c,d,e,f)=>bif f<e then(at? d f).bind λg=>(at? b.1.2.2.2.1 g).bind λg=>(app? 24 c [g.1]).bind λg=>a (b,g,d,e,i64.wrap (f+1))else c
def A5h:=DX U0 fuel
def U1:TL×(List Int)->Option (List DL):=λ(a,b)=>(A5h (a,[],b,b.length,0)).bind λa=>a
def WK:H7×DL×Int->Option ((List DL)×Bool×Int):=λ(a,b,c)=>(aW (a,b,c)).bind λa=>bif !DP a.2.2 0 then some ([],false,a.2.2)else(aZ (a.1,a.2.1)).bind λb=>(U1 (a.1,b)).bind λa=>some (a,0<(a.length:Int),0)
def S9(a:(Int×Bool)×Bool):List ((Int×Bool)×Bool)->Option (Sum KQ (Unit)):=λb=>some (.inl (EB (λ(x y:Int×Bool)=>DP x.1 y.1&&I6 x.2 y.2) a.1 true b))
def mD:KQ×(Int×Bool)->Option KQ:=λ(a,b)=>(FF S9 a (EB (λ(x y:Int×Bool)=>DP x.1 y.1&&I6 x.2 y.2) b true [])).bind λa=>match a with|.inl a=>a|.inr _=>some []
def LY(a:(Int×Bool)×Bool):KQ×KA×Bool->Option (Sum (KQ×KA×Bool) (Unit)):=λ(b,c,d)=>(bif !(a.1.2||c.2.1.length<=a.1.1)then at? c.2.1 a.1.1 else some (0,0)).bind λe=>(bif !(a.1.2||c.2.1.length<=a.1.1)&&!DP e.1 2 then at? c.2.1 a.1.1 else some (0,0)).bind λf=>bif a.1.2||c.2.1.length<=a.1.1||!DP e.1 2&&!DP f.1 4 then some (.inl (b,c,d))else bif !(DW (λ(x y:Int×Bool)=>DP x.1 y.1&&I6 x.2 y.2) (i64.wrap (a.1.1+1),false) b).getD false then(mD (b,i64.wrap (a.1.1+1),false)).bind λa=>some (.inl (a,c,true))else some (.inl (b,c,d))
def A5i:Rd (KQ×KA×Bool) KQ:=λa (b,c,d)=>bif d then(FF LY b (b,c,false)).bind λc=>match c with|.inl c=>a (c.1,c.2.1,c.2.2)|.inr _=>none else b
def A5j:=DX A5i fuel
def a_:KA×KQ->Option KQ:=λ(a,b)=>(A5j (b,a,true)).bind λa=>a
def mE:DL×HY×Int->Option KQ:=λa=>(a_ (a,EB (λ(x y:Int×Bool)=>DP x.1 y.1&&I6 x.2 y.2) (0,false) true [])).bind λa=>a
def yU:(List Int)×Bool->Option (List Int):=λ(a,b)=>bif b then(app? 24 a [256]).bind λb=>b else a
def mF:Rd ((List Int)×DL×Int×Int) (List Int):=λa (b,c,d,e)=>bif e<d then(at? c e).bind λf=>(app? 24 b [i64.wrap f.toNat]).bind λf=>a (f,c,d,i64.wrap (e+1))else b
def yV:=DX mF fuel
def mG:Rd ((List Int)×(List DL)×Int×Int) (List Int):=λa (b,c,d,e)=>bif e<d then(at? c e).bind λf=>(yU (b,0<(b.length:Int))).bind λg=>(yV (g,f,f.length,0)).bind λf=>a (f,c,d,i64.wrap (e+1))else b
def A5k:=DX mG fuel
def mH:Rd (HX×(List Int)×Int×Int) (List Int):=λa (b,c,d,e)=>bif e<d then(at? b.2.2.2.1 e).bind λf=>(app? 24 c [i64.wrap f.toNat]).bind λf=>a (b,f,d,i64.wrap (e+1))else c
def A5l:=DX mH fuel
def mI:DL×DL×DL×DL×DU×DL->Option (List Int):=λa=>(TN a.2.1).bind λb=>(app? 24 b [a.2.2.1]).bind λb=>(A5k ([],b,b.length,0)).bind λb=>bif !DQ a.2.2.2.1 []then(app? 24 b [257]).bind λc=>(A5l (a,c,a.2.2.2.1.length,0)).bind λa=>a else b
def O4:KA×(Int×Bool)×Int->Option ((Int×Bool)×Bool):=λ(a,b,c)=>bif a.2.1.length<=b.1 then some ((0,false),false)else(at? a.2.1 b.1).bind λa=>bif DP a.1 1 then some ((i64.wrap (b.1+1),false),DP c (i64.wrap a.2))else bif DP a.1 2 then some (b,(c<256)&&!DP c 47)else bif DP a.1 3 then some ((i64.wrap (b.1+1),false),DP c 256)else bif DP a.1 5 then some ((i64.wrap (b.1+1),false),DP c 257)else bif DP a.1 4 then bif DP c 256 then some ((b.1,false),b.2)else some ((b.1,true),c<256)else some ((b.1,true),(DP c 257&&!b.2)||c<256&&b.2)
def LZ(a:(Int×Bool)×Bool):Int×KA×KQ->Option (Sum (Int×KA×KQ) (Unit)):=λ(b,c,d)=>(O4 (c,a.1,b)).bind λa=>bif a.2 then some (.inl (b,c,EB (λ(x y:Int×Bool)=>DP x.1 y.1&&I6 x.2 y.2) a.1 true d))else some (.inl (b,c,d))
def mJ:KA×KQ×Int->Option KQ:=λ(a,b,c)=>(FF LZ b (c,a,[])).bind λa=>match a with|.inl a=>(a_ (a.2.1,a.2.2)).bind λa=>a|.inr _=>some []
def U2:KA×(Int×Bool)->Option (Bool):=λ(a,b)=>(bif !DP b.1 a.2.1.length then at? a.2.1 b.1 else some (0,0)).bind λc=>some (DP b.1 a.2.1.length||DP c.1 6)
def mK:Rd (KA×KQ×(List Int)×Int×Int) (Sum (KA×KQ) (Bool×Int)):=λa (b,c,d,e,f)=>bif f<e then(at? d f).bind λg=>(mJ (b,c,g)).bind λg=>(len? g.length).bind λh=>bif DP h 0 then some (.inr (false,0))else a (b,g,d,e,i64.wrap (f+1))else some (.inl (b,c))
def A5m:=DX mK fuel
def U3(a:(Int×Bool)×Bool):DL×HY×Int->Option (Sum KA (Bool×Int)):=λb=>(U2 (b,a.1)).bind λa=>bif a then some (.inr (true,0))else some (.inl b)
def bA:DL×HX->Option (Bool×Int):=λ(a,b)=>(aS a).bind λa=>bif !DP a.2.2 0 then some (false,a.2.2)else(KR b).bind λc=>bif !DP c 0 then some (false,c)else(TQ b).bind λb=>bif !DQ a.1.1 [42]&&!DQ a.1.1 b.1 then some (false,0)else(mE a.1).bind λc=>(mI b).bind λb=>(A5m (a.1,c,b,b.length,0)).bind λa=>match a with|.inl a=>(QW (λb:List ((Int×Bool)×Bool)=>b.Perm a.2) λb=>(FF U3 b a.1).bind λa=>match a with|.inl _=>some (false,0)|.inr a=>(a.1,a.2))|.inr a=>(a.1,a.2)
def mL:JL×(DL×DL×DL×Int×Int×Int×Int)×G9×GM->Option (Bool):=λ(a,b,c,d)=>(bif !DQ b.1 c.1 then KS (c.2.1,b.1)else some false).bind λe=>(bif !(!DQ b.1 c.1&&!e)&&!DQ b.2.1 []then a else some ((([],[],[],[],[]),0,(0,[],[]),[],0,[],[]),[],[],[],[])).bind λa=>bif !DQ b.1 c.1&&!e||!DQ b.2.1 []&&!DQ b.2.1 a.1.1.1 then some false else(bA (b.2.2.1,d.2.1)).bind λa=>a.1
def mM:Rd (JL×G9×GM×Int×QB×Int×Int) (Int):=λa (b,c,d,e,f,g,h)=>bif h<g then(at? f h).bind λi=>(mL (b,i,c,d)).bind λj=>bif !j then a (b,c,d,e,f,g,i64.wrap (h+1))else bif e<0 then a (b,c,d,h,f,g,i64.wrap (h+1))else(b).bind λj=>(at? j.1.2.2.2.2.2.2 e).bind λj=>bif DQ i.1 j.1&&(DQ i.2.1 j.2.1&&(DQ i.2.2.1 j.2.2.1&&(DP i.2.2.2.1 j.2.2.2.1&&(DP i.2.2.2.2.1 j.2.2.2.2.1&&(DP i.2.2.2.2.2.1 j.2.2.2.2.2.1&&DP i.2.2.2.2.2.2 j.2.2.2.2.2.2)))))||j.2.2.2.2.2.2<i.2.2.2.2.2.2||DP i.2.2.2.2.2.2 j.2.2.2.2.2.2&&j.2.2.2.2.2.1<=i.2.2.2.2.2.1 then a (b,c,d,h,f,g,i64.wrap (h+1))else a (b,c,d,e,f,g,i64.wrap (h+1))else e
def A5n:=DX mM fuel
def WL:JL×G9×GM->Option (Int):=λ(a,b,c)=>(a).bind λd=>(A5n (a,b,c,-1,d.1.2.2.2.2.2.2,d.1.2.2.2.2.2.2.length,0)).bind λa=>a
def WM:JL×GD×G9×GM×(List DL)×Int×(List DL)->Option (List DL):=λa=>(at? a.2.2.1.2.2.2.2.2.2 a.2.1.2.2).bind λa=>a.2.2.2.2
def mN:Rd (GD×fT×OT×Int×Int) (GD×fT):=λa (b,c,d,e,f)=>bif f<e then(at? d f).bind λg=>(bif DQ g.2.1 b.2.1 then WM (c.1,c.2.1,c.2.2.1,c.2.2.2.1,c.2.2.2.2.1,c.2.2.2.2.2.1,c.2.2.2.2.2.2)else some []).bind λh=>(bif DQ g.2.1 b.2.1&&!DP h.length 0 then WM (c.1,c.2.1,c.2.2.1,c.2.2.2.1,c.2.2.2.2.1,c.2.2.2.2.2.1,c.2.2.2.2.2.2)else some []).bind λi=>(bif DQ g.2.1 b.2.1&&!DP h.length 0 then KS (i,g.1)else some false).bind λi=>bif DQ g.2.1 b.2.1&&(DP h.length 0||i)then(app? 24 c.2.2.2.2.2.2 [g.1]).bind λg=>a (b,(c.1,c.2.1,c.2.2.1,c.2.2.2.1,c.2.2.2.2.1,c.2.2.2.2.2.1,g),d,e,i64.wrap (f+1))else a (b,(c.1,c.2.1,c.2.2.1,c.2.2.2.1,c.2.2.2.2.1,c.2.2.2.2.2.1,c.2.2.2.2.2.2),d,e,i64.wrap (f+1))else(b,c.1,c.2.1,c.2.2.1,c.2.2.2.1,c.2.2.2.2.1,c.2.2.2.2.2.1,c.2.2.2.2.2.2)
def yW:=DX mN fuel
def mO:Rd (GD×fT×(List JD)×Int×Int) fT:=λa (b,c,d,e,f)=>bif f<e then(at? d f).bind λg=>(yW (b,(c.1,c.2.1,c.2.2.1,c.2.2.2.1,c.2.2.2.2.1,c.2.2.2.2.2.1,c.2.2.2.2.2.2),g.2.2.1,g.2.2.1.length,0)).bind λb=>a (b.1,(b.2.1,b.2.2.1,b.2.2.2.1,b.2.2.2.2.1,b.2.2.2.2.2.1,b.2.2.2.2.2.2.1,b.2.2.2.2.2.2.2),d,e,i64.wrap (f+1))else(c.1,c.2.1,c.2.2.1,c.2.2.2.1,c.2.2.2.2.1,c.2.2.2.2.2.1,c.2.2.2.2.2.2)
def yX:=DX mO fuel
def WN:JL×GD->Option VQ:=λ(a,b)=>(a).bind λc=>let d:=(DW DQ b.1 c.2.1).getD ([],[],[],0,false,[],[]);(a).bind λc=>let e:=(DW DQ b.2.1 c.2.2.1).getD ([],([],[],[],[],[],[]),[],[],[]);(a).bind λc=>(a).bind λf=>(WK (c.1.1,b.2.1,f.1.2.1)).bind λc=>(WL (a,d,e)).bind λf=>(a).bind λg=>(yX (b,(a,b,d,e,c.1,f,[]),g.1.2.2.2.1,g.1.2.2.2.1.length,0)).bind λa=>(a.1,a.2.1,a.2.2.1,a.2.2.2.1,a.2.2.2.2.1,a.2.2.2.2.2.1,a.2.2.2.2.2.2)
def mP:JL×GD×G9×GM×(List DL)×Int×(List DL)->Option (Bool):=λa=>some (DP a.2.2.2.2.1.length 0)
def bB:VQ×Int×Int->Option (Bool):=λ(a,b,c)=>bif a.2.2.2.2.2.1<0 then some false else(a.1).bind λd=>(at? d.1.2.2.2.2.2.2 a.2.2.2.2.2.1).bind λa=>some (DP a.2.2.2.1 b||DP a.2.2.2.1 c)
def bC:JL×GD×G9×GM×(List DL)×Int×(List DL)->Option (Bool):=λa=>(bB (a,3,4)).bind λa=>a
def mQ:Rd (VQ×(List DL)×Int×Int) (Sum (Unit) DL):=λa (b,c,d,e)=>bif e<d then(at? c e).bind λf=>(b.1).bind λg=>bif (DW DQ f g.2.2.2.1).getD false then some (.inr f)else a (b,c,d,i64.wrap (e+1))else some (.inl ())
def A5o:=DX mQ fuel
def bD:JL×GD×G9×GM×(List DL)×Int×(List DL)->Option DL:=λa=>(A5o (a,a.2.2.2.2.2.2,a.2.2.2.2.2.2.length,0)).bind λa=>match a with|.inl _=>some []|.inr a=>a
def bE:JL×GD×G9×GM×(List DL)×Int×(List DL)->Option (Bool):=λa=>(bD a).bind λa=>some (!DQ a [])
def bF:JL×GD×G9×GM×(List DL)×Int×(List DL)->Option (Bool):=λa=>(bB (a,2,2)).bind λa=>a
def WO:JL×GD×G9×GM×(List DL)×Int×(List DL)->Option (Bool):=λa=>(a.1).bind λb=>let c:=(DP b.1.2.2.2.1.length 1&&0<(a.2.2.2.2.2.2.length:Int));(bif c then WM a else some []).bind λb=>some (c&&b.length<=(a.2.2.2.2.2.2.length:Int))
def yY:Unit->Option (List (Int×(Option (VQ->Option Bool)))):=λ_=>some [(1,some (λx=>(mP x).bind λr=>r)),(2,some (λx=>(bC x).bind λr=>r)),(6,some (λx=>(bE x).bind λr=>r)),(5,some (λx=>(bF x).bind λr=>r)),(3,some (λx=>(WO x).bind λr=>r))]
def SA:Rd (VQ×(List (Int×(Option (VQ->Option Bool))))×Int×Int) GX:=λa (b,c,d,e)=>bif e<d then(at? c e).bind λf=>(f.2.bind (λF=>F b)).bind λg=>bif g then some (.inr f.1)else a (b,c,d,i64.wrap (e+1))else some (.inl ())
def yZ:=DX SA fuel
def bG:JL×GD×G9×GM×(List DL)×Int×(List DL)->Option (Int):=λa=>(yY ()).bind λb=>(yZ (a,b,b.length,0)).bind λa=>match a with|.inl _=>some 4|.inr a=>a
def mR:JL×GD×G9×GM×(List DL)×Int×(List DL)->Option (Int):=λa=>bif DQ a.2.2.1.2.2.2.2.2.1 []then some 100 else(S2 a.2.2.1.2.2.2.2.2.1).bind λa=>a.1
def y_:JD×Int×(List DL)×DL->Option ((Option G_)×Int×Int):=λ(a,b,c,d)=>(WH (a,b,c)).bind λa=>bif !DP a.2 0 then some ((none:Option G_),0,a.2)else(a.1).bind λb=>bif !(DW DQ d b.2.1).isSome then some ((none:Option G_),0,4)else some (a.1,(DW DQ d b.2.1).getD 0,0)
def bH:(Option G_)×N5->Option (Option (List Bool)):=λ(a,b)=>(a).bind λa=>bif a.2.2.2.2.2 then(b).bind λa=>some (some a.2.2.1)else some (none:Option (List Bool))
def mS:Rd ((Option G_)×(Option (List Bool))×J3×(List Int)×(List Int)×Int×Int) (List Int):=λa (b,c,d,e,f,g,h)=>bif h<g then(at? f h).bind λi=>(nilM? c).bind λj=>(bif !j then at? (c.getD []) i else some false).bind λk=>bif j||k then(TZ (b,d,i)).bind λi=>(app? 24 e [i]).bind λi=>a (b,c,d,i,f,g,i64.wrap (h+1))else a (b,c,d,e,f,g,i64.wrap (h+1))else e
def z6:=DX mS fuel
def bI:(Option G_)×J3×(Option (List Bool))->Option (List Int):=λ(a,b,c)=>bif DP b.1 1 then(a).bind λd=>some [(DW DQ b.2.1 d.2.1).getD 0]else(a).bind λd=>(z6 (a,c,b,[],(DW DQ b.2.1 d.2.2.2.1).getD [],(((DW DQ b.2.1 d.2.2.2.1).getD []).length:Int),0)).bind λa=>(slices_Sort_int a).bind λa=>(slices_Compact_int a).bind λa=>a
def mT:Rd (JN×Int×(List Int)×Int×Int) JN:=λa (b,c,d,e,f)=>bif f<e then(at? d f).bind λg=>(in? b.length g).bind λ_=>(app? 24 (b.getD g.toNat []) [c]).bind λh=>(in? b.length g).bind λ_=>(bif Nat.beq g.toNat g.toNat then some ()else none).bind λ_=>a (b.set g.toNat h,c,d,e,i64.wrap (f+1))else b
def z7:=DX mT fuel
def mU:Rd ((Option G_)×N5×JN×Int×(List J3)×Int×Int) JN:=λa (b,c,d,e,f,g,h)=>bif h<g then(at? f h).bind λi=>(b).bind λj=>bif (DW DQ i.2.2.2 j.2.2.2.2.1).getD false then(bH (b,c)).bind λj=>(bI (b,i,j)).bind λi=>(z7 (d,e,i,i.length,0)).bind λi=>a (b,c,i,e,f,g,i64.wrap (h+1))else a (b,c,d,e,f,g,i64.wrap (h+1))else d
def A5p:=DX mU fuel
def mV:Rd ((Option G_)×N5×JN×OT×Int×Int) JN:=λa (b,c,d,e,f,g)=>bif g<f then(at? e g).bind λh=>(c).bind λi=>(at? i.2.1 g).bind λi=>bif !i then a (b,c,d,e,f,i64.wrap (g+1))else(A5p (b,c,d,g,h.2.2.1,h.2.2.1.length,0)).bind λh=>a (b,c,h,e,f,i64.wrap (g+1))else d
def z8:=DX mV fuel
def AIJ:Rd ((List Int)×Int×Int) (List Int):=λa (b,c,d)=>bif d<c then(in? b.length d).bind λ_=>a (b.set d.toNat (-1),c,i64.wrap (d+1))else b
def zA:=DX AIJ fuel
def mW:Rd ((List Int)×(List Int)×Int×(List Int)×Int×Int) ((List Int)×(List Int)):=λa (b,c,d,e,f,g)=>bif g<f then(at? e g).bind λh=>(in? b.length h).bind λ_=>bif b.getD h.toNat 0<0 then(in? b.length d).bind λ_=>(in? b.length h).bind λ_=>(app? 24 c [h]).bind λi=>a (b.set h.toNat (i64.wrap (b.getD d.toNat 0+1)),i,d,e,f,i64.wrap (g+1))else a (b,c,d,e,f,i64.wrap (g+1))else(b,c)
def zB:=DX mW fuel
def mX:Rd (JN×(List Int)×(List Int)) (List Int):=λa (b,c,d)=>bif 0<(d.length:Int)then(in? d.length 0).bind λ_=>(cut? d 1 d.length).bind λe=>(at? b (d.getD 0 0)).bind λf=>(zB (c,e,d.getD 0 0,f,f.length,0)).bind λd=>a (b,d.1,d.2)else c
def zC:=DX mX fuel
def mY:(Option G_)×N5×Int->Option (List Int):=λ(a,b,c)=>(a).bind λd=>(mks? 24 d.1.2.2.1.length d.1.2.2.1.length []).bind λd=>(a).bind λe=>(z8 (a,b,d,e.1.2.2.1,e.1.2.2.1.length,0)).bind λb=>(a).bind λa=>(mks? 24 a.1.2.2.1.length a.1.2.2.1.length 0).bind λa=>(zA (a,a.length,0)).bind λa=>(in? a.length c).bind λ_=>(zC (b,a.set c.toNat 0,[c])).bind λa=>a
def mZ:Rd ((Option G_)×(List Int)×Int×ME×J3×Int×J3×(List Int)×Int×Int) (Sum (ME×J3) (ME×J3×Int)):=λa (b,c,d,e,f,g,h,i,j,k)=>bif k<j then(at? i k).bind λl=>(at? c l).bind λm=>(at? c d).bind λn=>bif DP m (i64.wrap (n-1))then(b).bind λm=>(at? m.1.2.2.1 d).bind λm=>(b).bind λn=>(at? n.1.2.2.1 l).bind λn=>some (.inr (((m.1,g),n.1),h,l))else a (b,c,d,e,f,g,h,i,j,i64.wrap (k+1))else some (.inl (e,f))
def A5q:=DX mZ fuel
def zD:Rd ((Option G_)×N5×(List Int)×Int×ME×J3×(List J3)×Int×Int) (Sum (ME×J3) (ME×J3×Int)):=λa (b,c,d,e,f,g,h,i,j)=>bif j<i then(at? h j).bind λk=>(b).bind λl=>bif !(DW DQ k.2.2.2 l.2.2.2.2.1).getD false then a (b,c,d,e,f,g,h,i,i64.wrap (j+1))else(bH (b,c)).bind λl=>(bI (b,k,l)).bind λl=>(A5q (b,d,e,f,g,j,k,l,l.length,0)).bind λk=>match k with|.inl k=>a (b,c,d,e,k.1,k.2,h,i,i64.wrap (j+1))|.inr a=>some (.inr (a.1,a.2.1,a.2.2))else some (.inl (f,g))
def A5r:=DX zD fuel
def m_:(Option G_)×N5×(List Int)×Int->Option (ME×J3×Int):=λ(a,b,c,d)=>(a).bind λe=>(at? e.1.2.2.1 d).bind λe=>(A5r (a,b,c,d,(([],0),[]),(0,[],[],[]),e.2.2.1,e.2.2.1.length,0)).bind λa=>match a with|.inl _=>some ((([],0),[]),(0,[],[],[]),d)|.inr a=>(a.1,a.2.1,a.2.2)
def nA:Rd ((Option G_)×N5×Int×J3×(List Int)×Int×Int) (Sum (Unit) DL):=λa (b,c,d,e,f,g,h)=>bif h<g then(at? f h).bind λi=>(c).bind λj=>(at? j.2.2.1 i).bind λj=>(bif j then TZ (b,e,i)else some 0).bind λk=>bif j&&DP k d then(b).bind λj=>(at? j.1.2.1 i).bind λi=>some (.inr i.1)else a (b,c,d,e,f,g,i64.wrap (h+1))else some (.inl ())
def A5s:=DX nA fuel
def nB:(Option G_)×N5×J3×Int->Option DL:=λ(a,b,c,d)=>(a).bind λe=>(A5s (a,b,d,c,(DW DQ c.2.1 e.2.2.2.1).getD [],(((DW DQ c.2.1 e.2.2.2.1).getD []).length:Int),0)).bind λa=>match a with|.inl _=>some []|.inr a=>a
def nC:Rd (N5×DL×OT×Int×Int) (Sum (Unit) DL):=λa (b,c,d,e,f)=>bif f<e then(at? d f).bind λg=>(b).bind λh=>(at? h.2.1 f).bind λh=>(bif h then KS (g.2.2.2,c)else some false).bind λi=>bif h&&i then some (.inr g.1)else a (b,c,d,e,i64.wrap (f+1))else some (.inl ())
def A5t:=DX nC fuel
def nD:(Option G_)×N5×DL->Option DL:=λ(a,b,c)=>(a).bind λa=>(A5t (b,c,a.1.2.2.1,a.1.2.2.1.length,0)).bind λa=>match a with|.inl _=>some []|.inr a=>a
def SB:(DL×DL)×(DL×DL)->Option (Int):=λ(a,b)=>(LV (a.1,b.1)).bind λa=>a
def nE:Rd ((Option G_)×(List Int)×Int×(List DL)×Int×Int) (Int):=λa (b,c,d,e,f,g)=>bif g<f then(at? e g).bind λh=>(b).bind λi=>(at? c ((DW DQ h i.2.1).getD 0)).bind λj=>(bif 0<=j&&!(d<0)then at? c ((DW DQ h i.2.1).getD 0)else some 0).bind λk=>(bif 0<=j&&!(d<0)then at? c d else some 0).bind λl=>bif 0<=j&&(d<0||k<l)then a (b,c,(DW DQ h i.2.1).getD 0,e,f,i64.wrap (g+1))else a (b,c,d,e,f,i64.wrap (g+1))else d
def A5u:=DX nE fuel
def A5v:Rd ((Option G_)×Int×N5×(List Int)×(DL×((List ME)×DU))×DU×Int) ((DL×((List ME)×DU))×DU):=λa (b,c,d,e,f,g,h)=>bif !DP h c then(m_ (b,d,e,h)).bind λh=>(b).bind λi=>bif i.2.2.2.2.2&&DP h.2.1.1 2 then(nB (b,d,h.2.1,h.2.2)).bind λi=>(nD (b,d,i)).bind λj=>(app? 72 f.2.1 [h.1]).bind λk=>a (b,c,d,e,(f.1,k,f.2.2),EB DQ i j g,h.2.2)else(app? 72 f.2.1 [h.1]).bind λi=>a (b,c,d,e,(f.1,i,f.2.2),g,h.2.2)else some ((f.1,f.2.1,f.2.2),g)
def A5w:=DX A5v fuel
def WP(a:DL×DL):DL×((List ME)×DU)->Option (Sum (DL×((List ME)×DU)) (Unit)):=λb=>(app? 48 b.2.2 [(a.1,a.2)]).bind λa=>some (.inl (b.1,b.2.1,a))
def bJ:JD×Int×(List DL)×DL->Option ((DL×(List ME)×DU)×Bool×Int):=λ(a,b,c,d)=>(y_ (a,b,c,d)).bind λb=>bif !DP b.2.2 0 then some (([],[],[]),false,b.2.2)else(aP (b.1,-1)).bind λc=>(c).bind λd=>(at? d.2.1 b.2.1).bind λd=>bif !d then some (([],[],[]),false,0)else(mY (b.1,c,b.2.1)).bind λd=>(A5u (b.1,d,-1,a.2.2.2,a.2.2.2.length,0)).bind λe=>(at? a.2.2.1 e).bind λa=>(A5w (b.1,b.2.1,c,d,(a.1,[],[]),[],e)).bind λa=>QW (λb:List (DL×DL)=>b.Perm a.2) λb=>(FF WP b (a.1.1,a.1.2.1,a.1.2.2)).bind λa=>match a with|.inl a=>(fR (a.2.2,λx=>(SB x).bind λr=>r)).bind λb=>some ((a.1,a.2.1,b),true,0)|.inr _=>some (([],[],[]),false,0)
def WQ:JL×GD×G9×GM×(List DL)×Int×(List DL)->Option N6:=λa=>(bG a).bind λb=>(mR a).bind λc=>let d:=(a.2.1.1,a.2.1.2.1,a.2.1.2.2,b,c,a.2.2.2.2.1,[],[],a.2.2.2.2.2.1);bif DP d.2.2.2.1 6 then(bD a).bind λb=>(a.1).bind λc=>(at? c.1.2.2.2.1 0).bind λc=>(a.1).bind λe=>(a.1).bind λa=>(bJ (c,e.1.2.2.2.2.1,a.1.2.2.2.2.2.1,b)).bind λa=>some (d.1,d.2.1,d.2.2.1,d.2.2.2.1,d.2.2.2.2.1,d.2.2.2.2.2.1,b,[a.1],d.2.2.2.2.2.2.2.2)else some d
def nF:Rd (JL×(List N6)×(List GD)×Int×Int) (List N6):=λa (b,c,d,e,f)=>bif f<e then(at? d f).bind λg=>(WN (b,g)).bind λg=>(WQ g).bind λg=>(app? 216 c [g]).bind λg=>a (b,g,d,e,i64.wrap (f+1))else c
def A5x:=DX nF fuel
def WR:H7×Int×NX×(List JD)×Int×(List DL)×QB->Option (JL×(List N6)×Int):=λa=>(OX a).bind λb=>bif !DP b 0 then some ((none:Option (LP×(List (DL×G9))×(List (DL×GM))×(List (DL×Bool))×(List (GD×Bool)))),[],b)else(lU (a.2.2.1,a.1)).bind λb=>bif !DP b.2 0 then some ((none:Option (LP×(List (DL×G9))×(List (DL×GM))×(List (DL×Bool))×(List (GD×Bool)))),[],b.2)else(QF a).bind λa=>(A5x (a,[],b.1,b.1.length,0)).bind λb=>some (a,b,0)
def zF:H7×Int×NX×(List JD)×Int×(List DL)×QB->Option ((List N6)×Int):=λa=>(WR a).bind λa=>(a.2.1,a.2.2)
def zG:Int×DL×DL->Option (H9×H9×Int):=λ(a,b,c)=>(KD (a,b)).bind λb=>bif !DP b.2 0 then some (.inr (.inr (.inr (.inr (.inr ())))),.inr (.inr (.inr (.inr (.inr ())))),b.2)else(KD (a,c)).bind λa=>(b.1,a.1,a.2)
def zH:Int×DL×DL->Option (Int×Int):=λ(a,b,c)=>(zG (a,b,c)).bind λa=>bif !DP a.2.2 0 then some (0,a.2.2)else((λz=>Sum.casesOn (motive:=λ_=>Option DL) z (λx=>(NY x).bind λr=>r) (λz=>z.casesOn (λx=>(NZ x).bind λr=>r) (λz=>z.casesOn (λx=>(N_ x).bind λr=>r) (λz=>z.casesOn (λx=>(O0 x).bind λr=>r) (λz=>z.casesOn (λx=>(O1 x).bind λr=>r) (λ_=>none)))))) a.1).bind λb=>((λz=>Sum.casesOn (motive:=λ_=>Option DL) z (λx=>(NY x).bind λr=>r) (λz=>z.casesOn (λx=>(NZ x).bind λr=>r) (λz=>z.casesOn (λx=>(N_ x).bind λr=>r) (λz=>z.casesOn (λx=>(O0 x).bind λr=>r) (λz=>z.casesOn (λx=>(O1 x).bind λr=>r) (λ_=>none)))))) a.2.1).bind λa=>(LV (b,a)).bind λa=>some (a,0)
def nG:Unit->Option (Bool):=λ_=>(S2 [78,72,76,76,78,78]).bind λa=>(zH (5,[57],[49,48])).bind λb=>some (DP a.1 34&&DP a.2 0&&DP b.1 (-1)&&DP b.2 0)
def bK:F_×HX->Option (Bool):=λ(a,b)=>(J4 b).bind λc=>(LW a).bind λd=>bif !DP c.2 0||!DP d.2 0||!DQ c.1 a.1||DQ b.2.2.2.1 []then some false else(S7 (d.1,b.2.2.2.1)).bind λa=>some (DP a.2 0&&a.1)
def nH:Rd ((List Int)×(List Int)×Int×Int) (List Int):=λa (b,c,d,e)=>bif e<d then(at? c e).bind λf=>bif 0<=f then(app? 24 b [e]).bind λf=>a (f,c,d,i64.wrap (e+1))else a (b,c,d,i64.wrap (e+1))else b
def A5y:=DX nH fuel
def nI:List Int->Option (List Int):=λa=>(A5y ([],a,a.length,0)).bind λa=>a
def nJ:H7×Int->Option ((List DL)×Int):=λ(a,b)=>(WI (a,b)).bind λa=>bif !DP a.2 0 then some ([],a.2)else(aY (a.1.2.2.1,a.1.2.1,-1)).bind λb=>(nI b).bind λb=>(U1 (a.1,b)).bind λa=>some (a,0)
def nK:LP×GD->Option (Int×Bool×Int):=λ(a,b)=>(OX a).bind λc=>bif !DP c 0 then some (0,false,c)else(QF a).bind λa=>(a).bind λc=>(a).bind λd=>bif !(DW DQ b.1 c.2.1).isSome||!(DW DQ b.2.1 d.2.2.1).isSome||b.2.2<0||(((((((((DW DQ b.1 c.2.1).getD ([],[],[],0,false,[],[])).2).2).2).2).2).2).length:Int)<=b.2.2 then some (0,false,4)else(WL (a,(DW DQ b.1 c.2.1).getD ([],[],[],0,false,[],[]),(DW DQ b.2.1 d.2.2.1).getD ([],([],[],[],[],[],[]),[],[],[]))).bind λa=>bif a<0 then some (0,false,0)else some (a,true,0)
def nL:Rd (DL×F_×(List DL)×OT×Int×Int) (F_×(List DL)):=λa (b,c,d,e,f,g)=>bif g<f then(at? e g).bind λh=>(bif DQ h.2.1 b&&!DP c.2.2.2.2.length 0 then KS (c.2.2.2.2,h.1)else some false).bind λi=>bif DQ h.2.1 b&&(DP c.2.2.2.2.length 0||i)then(app? 24 d [h.1]).bind λh=>a (b,c,h,e,f,i64.wrap (g+1))else a (b,c,d,e,f,i64.wrap (g+1))else(c,d)
def zI:=DX nL fuel
def nM:Rd (DL×F_×(List DL)×(List JD)×Int×Int) (F_×(List DL)):=λa (b,c,d,e,f,g)=>bif g<f then(at? e g).bind λh=>(zI (b,c,d,h.2.2.1,h.2.2.1.length,0)).bind λh=>a (b,h.1,h.2,e,f,i64.wrap (g+1))else(c,d)
def zJ:=DX nM fuel
def nN:Rd ((List DL)×(List DL)×Int×Int) (Sum (List DL) L5):=λa (b,c,d,e)=>bif e<d then(at? c e).bind λf=>(KS (b,f)).bind λf=>bif !f then some (.inr (b,false))else a (b,c,d,i64.wrap (e+1))else some (.inl b)
def zK:=DX nN fuel
def bL:LP×DL×F_->Option L5:=λ(a,b,c)=>(zJ (b,c,[],a.2.2.2.1,a.2.2.2.1.length,0)).bind λa=>(zK (a.2,a.1.2.2.2.2,a.1.2.2.2.2.length,0)).bind λa=>match a with|.inl a=>some (a,0<(a.length:Int))|.inr a=>(a.1,a.2)
def WS:DL×(Option (List DL))->Option (Bool):=λ(a,b)=>(b).bind λb=>(KS (b,a)).bind λa=>a
def nO:Rd ((List DL)×(DL->Option Bool)×Int×Int) GX:=λa (b,c,d,e)=>bif e<d then(at? b e).bind λf=>(c f).bind λf=>bif f then some (.inr e)else a (b,c,d,i64.wrap (e+1))else some (.inl ())
def zL:=DX nO fuel
def zM:(List DL)×(DL->Option Bool)->Option (Int):=λ(a,b)=>(zL (a,b,a.length,0)).bind λa=>match a with|.inl _=>some (-1)|.inr a=>a
def nP:(List DL)×(DL->Option Bool)->Option (Bool):=λ(a,b)=>(zM (a,b)).bind λa=>some (0<=a)
def bM:LP×N6×F_->Option (Bool):=λ(a,b,c)=>bif DP b.2.2.2.1 1 then(nJ (a.1,a.2.1)).bind λd=>(bif DP d.2 0 then KS (d.1,b.2.1)else some false).bind λe=>some (DP d.2 0&&!e)else bif DP b.2.2.2.1 2 then(nK (a,b.1,b.2.1,b.2.2.1)).bind λd=>let e:=(d.2.1&&DP d.2.2 0&&DP d.1 b.2.2.2.2.2.2.2.2);(bif e&&d.1<a.2.2.2.2.2.2.length then at? a.2.2.2.2.2.2 d.1 else some ([],[],[],0,0,0,0)).bind λf=>(bif e&&d.1<a.2.2.2.2.2.2.length&&!DP f.2.2.2.1 3 then at? a.2.2.2.2.2.2 d.1 else some ([],[],[],0,0,0,0)).bind λg=>some (e&&d.1<a.2.2.2.2.2.2.length&&(DP f.2.2.2.1 3||DP g.2.2.2.1 4))else bif DP b.2.2.2.1 3 then(bL (a,b.2.1,c)).bind λb=>bif !b.2||!DP a.2.2.2.1.length 1 then some false else(at? a.2.2.2.1 0).bind λc=>(O3 (c,a.2.2.2.2.1,a.2.2.2.2.2.1)).bind λa=>(bif DP a.2 0 then nP (b.1,λx=>(WS (x,some a.1)).bind λr=>r)else some false).bind λb=>bif DP a.2 0 then some (DP a.2 0&&!b)else some (DP a.2 0&&!b)else some true
def nQ:Rd (LP×(List N6)×Int×G9×GM×(List F_)×Int×Int) (Sum (LP×(List N6)×Int×G9) (Bool)):=λa (b,c,d,e,f,g,h,i)=>bif i<h then(at? g i).bind λj=>(bif !e.2.2.2.2.1 then bK (j,f.2.1)else some false).bind λk=>bif e.2.2.2.2.1||!k then a (b,c,d,e,f,g,h,i64.wrap (i+1))else(bif !DP d c.length then in? c.length d else some ()).bind λ_=>let k:=(c.getD d.toNat ([],[],0,0,0,[],[],[],0)).1;(bif !(DP d c.length||!DQ k e.1)then in? c.length d else some ()).bind λ_=>let l:=(DP d c.length||!DQ k e.1||!DQ (((c.getD d.toNat ([],[],0,0,0,[],[],[],0)).2).1) f.1);(bif !l then in? c.length d else some ()).bind λ_=>let k:=(((c.getD d.toNat ([],[],0,0,0,[],[],[],0)).2).2).1;(bif !(l||!DP k i)then in? c.length d else some ()).bind λ_=>(bif !(l||!DP k i)then bM (b,c.getD d.toNat ([],[],0,0,0,[],[],[],0),j)else some false).bind λj=>bif l||!DP k i||!j then some (.inr false)else a (b,c,i64.wrap (d+1),e,f,g,h,i64.wrap (i+1))else some (.inl (b,c,d,e))
def zN:=DX nQ fuel
def nR:Rd (LP×(List N6)×Int×G9×(List GM)×Int×Int) (Sum (LP×(List N6)×Int) (Bool)):=λa (b,c,d,e,f,g,h)=>bif h<g then(at? f h).bind λi=>(zN (b,c,d,e,i,e.2.2.2.2.2.2,e.2.2.2.2.2.2.length,0)).bind λe=>match e with|.inl e=>a (e.1,e.2.1,e.2.2.1,e.2.2.2,f,g,i64.wrap (h+1))|.inr a=>some (.inr a)else some (.inl (b,c,d))
def zO:=DX nR fuel
def nS:Rd (LP×(List N6)×Int×(List G9)×Int×Int) (Sum ((List N6)×Int) (Bool)):=λa (b,c,d,e,f,g)=>bif g<f then(at? e g).bind λh=>(zO (b,c,d,h,b.1.2.2.2.1,b.1.2.2.2.1.length,0)).bind λb=>match b with|.inl b=>a (b.1,b.2.1,b.2.2,e,f,i64.wrap (g+1))|.inr a=>some (.inr a)else some (.inl (c,d))
def zP:=DX nS fuel
def nT:H7×Int×NX×(List JD)×Int×(List DL)×QB->Option (Bool):=λa=>(zF a).bind λb=>bif !DP b.2 0 then(nG ()).bind λc=>c else(zP (a,b.1,0,a.2.2.1.2.1,a.2.2.1.2.1.length,0)).bind λa=>match a with|.inl a=>(bif DP a.2 a.1.length then nG ()else some false).bind λb=>some (DP a.2 a.1.length&&b)|.inr a=>a
def nU:DL->Option (Int×Bool):=λa=>(VW a).bind λb=>bif !DP b.2.2 0 then some (0,false)else(J4 b.1).bind λc=>bif !DP c.2 0||!DQ c.1 a then some (0,false)else(VS b.1.1).bind λa=>some (a.1.2.2.2.2,DP a.2 0)
def zQ:DL×DL->Option (Int×Int):=λ(a,b)=>(nU a).bind λa=>bif !a.2 then some (0,8)else(T_ (a.1,b)).bind λb=>(a.1,b)
def A5z:Int×FD->Option (Int):=λa=>(aT a).bind λa=>a.2
def AIK:Rd (RY×RY×Int×Int) GX:=λa (b,c,d,e)=>bif e<d then(at? c e).bind λf=>(nU f.1).bind λg=>bif !g.2 then some (.inr 8)else(A5z f.2.1).bind λh=>bif !DP h 0 then some (.inr h)else bif !DP f.2.1.1 g.1 then some (.inr 7)else bif f.2.2<1||4<f.2.2 then some (.inr 9)else(bif 0<e then at? b (i64.wrap (e-1))else some ([],(0,[]),0)).bind λg=>bif 0<e&&(Op.bytesLess f.1 g.1||DQ f.1 g.1)then some (.inr 10)else a (b,c,d,i64.wrap (e+1))else some (.inl ())
def AIL:=DX AIK fuel
def A60:List (DL×(Int×FD)×Int)->Option (Int):=λa=>bif 12<(a.length:Int)then some 3 else(AIL (a,a,a.length,0)).bind λa=>match a with|.inl _=>some 0|.inr a=>a
def AIM:(DL×(Int×FD)×Int)×(Option RZ)->Option (Bool):=λ(a,b)=>(b).bind λb=>some (DQ a.1 b.1)
def AIN:Rd (RY×((DL×(Int×FD)×Int)->Option Bool)×Int×Int) GX:=λa (b,c,d,e)=>bif e<d then(at? b e).bind λf=>(c f).bind λf=>bif f then some (.inr e)else a (b,c,d,i64.wrap (e+1))else some (.inl ())
def AIO:=DX AIN fuel
def AIP:RY×((DL×(Int×FD)×Int)->Option Bool)->Option (Int):=λ(a,b)=>(AIO (a,b,a.length,0)).bind λa=>match a with|.inl _=>some (-1)|.inr a=>a
def AIQ:RY×((DL×(Int×FD)×Int)->Option Bool)->Option (Bool):=λ(a,b)=>(AIP (a,b)).bind λa=>some (0<=a)
def AIR:RZ×(List RZ)->Option (Int):=λ(a,b)=>(zQ (a.1,a.2.1)).bind λc=>bif !DP c.2 0 then c.2 else(A60 a.2.2.1).bind λd=>bif !DP d 0 then d else(AIQ (a.2.2.1,λx=>(AIM (x,some a)).bind λr=>r)).bind λd=>bif d then some 2 else bif DP b.length 0 then some 0 else(at? b (i64.wrap (b.length-1))).bind λb=>bif Op.bytesLess a.1 b.1 then some 10 else bif DQ a.1 b.1 then(zH (c.1,b.2.1,a.2.1)).bind λa=>bif 0<=a.1 then some 10 else some 0 else some 0
def AIS:Rd ((List RZ)×Int×Int×(List RZ)×Int×Int) GX:=λa (b,c,d,e,f,g)=>bif g<f then(at? e g).bind λh=>(cut? b 0 g).bind λi=>(AIR (h,i)).bind λi=>bif !DP i 0 then some (.inr i)else(bif !DP g 0 then at? b (i64.wrap (g-1))else some ([],[],[],false)).bind λi=>bif DP g 0||!DQ i.1 h.1 then bif (8:Int)<1||12<i64.wrap (c+1)then some (.inr 3)else a (b,i64.wrap (c+1),1,e,f,i64.wrap (g+1))else bif 8<i64.wrap (d+1)||12<c then some (.inr 3)else a (b,c,i64.wrap (d+1),e,f,i64.wrap (g+1))else some (.inl ())
def AIT:=DX AIS fuel
def AIU:List RZ->Option (Int):=λa=>(AIT (a,0,0,a,a.length,0)).bind λa=>match a with|.inl _=>some 0|.inr a=>a
def AIV:Rd (DU×DU×Int×Int) GX:=λa (b,c,d,e)=>bif e<d then(at? c e).bind λf=>(zQ (f.1,f.2)).bind λg=>bif !DP g.2 0 then some (.inr g.2)else(bif 0<e then at? b (i64.wrap (e-1))else some ([],[])).bind λg=>bif 0<e&&(Op.bytesLess f.1 g.1||DQ f.1 g.1)then some (.inr 10)else a (b,c,d,i64.wrap (e+1))else some (.inl ())
def AIW:=DX AIV fuel
def AIX:List (DL×DL)->Option (Int):=λa=>bif 12<(a.length:Int)then some 3 else(AIW (a,a,a.length,0)).bind λa=>match a with|.inl _=>some 0|.inr a=>a
def AIY:(DL×DL)×(Option DL)->Option (Bool):=λ(a,b)=>(b).bind λb=>some (DQ a.1 b)
def AIZ:Rd (DU×((DL×DL)->Option Bool)×Int×Int) GX:=λa (b,c,d,e)=>bif e<d then(at? b e).bind λf=>(c f).bind λf=>bif f then some (.inr e)else a (b,c,d,i64.wrap (e+1))else some (.inl ())
def AI_:=DX AIZ fuel
def AIa:DU×((DL×DL)->Option Bool)->Option (Int):=λ(a,b)=>(AI_ (a,b,a.length,0)).bind λa=>match a with|.inl _=>some (-1)|.inr a=>a
def A61:DU×DL->Option (DL×Bool):=λ(a,b)=>(AIa (a,λx=>(AIY (x,some b)).bind λr=>r)).bind λb=>bif b<0 then some ([],false)else(at? a b).bind λa=>some (a.2,true)
def AIb:Rd (fS×(List DL)×Int×Int) (Sum fS (Int)):=λa (b,c,d,e)=>bif e<d then(at? c e).bind λf=>(A61 (b.2.2.2.1,f)).bind λg=>bif !g.2 then some (.inr 4)else(bif 0<e then at? b.2.2.2.2.1 (i64.wrap (e-1))else some []).bind λg=>bif 0<e&&(Op.bytesLess f g||DQ f g)then some (.inr 10)else a (b,c,d,i64.wrap (e+1))else some (.inl b)
def AIc:=DX AIb fuel
def zR:(List RZ)×RY×Int×DU×(List DL)×Bool×NX->Option (Int):=λa=>(AIU a.1).bind λb=>bif !DP b 0 then b else(A60 a.2.1).bind λb=>bif !DP b 0 then b else bif a.2.2.1<1||4<a.2.2.1 then some 9 else(AIX a.2.2.2.1).bind λb=>bif !DP b 0 then b else(AIc (a,a.2.2.2.2.1,a.2.2.2.2.1.length,0)).bind λa=>match a with|.inl a=>(WB a.2.2.2.2.2.2).bind λa=>a|.inr a=>a
def AId:(List Int)×(List DL)->Option (Bool):=λa=>some (0<(a.2.length:Int))
def AIe:Int×DL×DL×Bool->Option (Bool):=λa=>(strings_IndexByte (a.2.1,126)).bind λb=>(bif !(0<=b)then strings_IndexByte (a.2.2.1,126)else some 0).bind λa=>some (0<=b||0<=a)
def AIf:Int×(List Int)×Int×Int×Int×Int×(List DL)->Option (Bool):=λa=>some (0<a.2.2.1||0<=a.2.2.2.2.2.1)
def AIg:Rd (H0×(LQ->Option Bool)×Int×Int) GX:=λa (b,c,d,e)=>bif e<d then(at? b e).bind λf=>(c f).bind λf=>bif f then some (.inr e)else a (b,c,d,i64.wrap (e+1))else some (.inl ())
def AIh:=DX AIg fuel
def AIi:H0×(LQ->Option Bool)->Option (Int):=λ(a,b)=>(AIh (a,b,a.length,0)).bind λa=>match a with|.inl _=>some (-1)|.inr a=>a
def AIj:H0×(LQ->Option Bool)->Option (Bool):=λ(a,b)=>(AIi (a,b)).bind λa=>some (0<=a)
def AIk:Bool×DL×Int->Option (Bool):=λa=>(VY a).bind λa=>a
def AIl:List LQ->Option (Bool):=λa=>(AIj (a,λx=>(AIk x).bind λr=>r)).bind λa=>a
def AIm:Int->Option (Bool):=λ_=>some false
def AIn:Int×DL->Option (Bool×Int):=λ(a,b)=>(KD (a,b)).bind λa=>bif !DP a.2 0 then some (false,a.2)else((λz=>Sum.casesOn (motive:=λ_=>Option Bool) z (λx=>(AId x).bind λr=>r) (λz=>z.casesOn (λx=>(AIe x).bind λr=>r) (λz=>z.casesOn (λx=>(AIf x).bind λr=>r) (λz=>z.casesOn (λx=>(AIl x).bind λr=>r) (λz=>z.casesOn (λx=>(AIm x).bind λr=>r) (λ_=>none)))))) a.1).bind λa=>some (a,0)
def AIo:DL×DL×DL×DL×DU×DL->Option (HX×Int):=λa=>(KR a).bind λb=>bif !DP b 0 then some (([],[],[],[],[],[]),b)else(TQ a).bind λa=>some (a,0)
def AIp:HX×DL->Option (HX×Int):=λ(a,b)=>(KR a).bind λc=>bif !DP c 0 then some (([],[],[],[],[],[]),c)else(AIo (a.1,a.2.1,a.2.2.1,b,a.2.2.2.2)).bind λa=>(a.1,a.2)
def AIq:Rd (G9×HX×KB×DL×(List Int)×(List F_)×Int×Int) (List Int):=λa (b,c,d,e,f,g,h,i)=>bif i<h then(at? g i).bind λj=>(bif !b.2.2.2.2.1 then at? d i else some (0,[])).bind λk=>(bif !b.2.2.2.2.1 then S8 (j,k,e,c.2.2.2.1)else some false).bind λj=>bif !b.2.2.2.2.1&&j then(app? 24 f [i]).bind λj=>a (b,c,d,e,j,g,h,i64.wrap (i+1))else a (b,c,d,e,f,g,h,i64.wrap (i+1))else f
def AIr:=DX AIq fuel
def AIs:G9×HX->Option ((List Int)×Int):=λ(a,b)=>(LX a).bind λc=>bif !DP c.2 0 then some ([],c.2)else(J4 b).bind λd=>bif !DP d.2 0 then some ([],d.2)else(AIr (a,b,c.1,d.1,[],a.2.2.2.2.2.2,a.2.2.2.2.2.2.length,0)).bind λa=>some (a,0)
def AIt:Rd (HX×Int×(List G9)×Int×Int) (Int):=λa (b,c,d,e,f)=>bif f<e then(at? d f).bind λg=>(AIs (g,b)).bind λh=>bif DP h.1.length 0 then a (b,c,d,e,i64.wrap (f+1))else bif !DQ g.2.2.2.2.2.1 []then(S2 g.2.2.2.2.2.1).bind λg=>a (b,i64.wrap (c+g.1),d,e,i64.wrap (f+1))else a (b,i64.wrap (c+100),d,e,i64.wrap (f+1))else c
def AIu:=DX AIt fuel
def AIv:fS×(DL×DL)->Option (Int):=λ(a,b)=>(VW b.1).bind λc=>(AIp (c.1,b.2)).bind λb=>bif !DP b.2 0 then some 0 else(AIu (b.1,0,a.2.2.2.2.2.2.2.1,a.2.2.2.2.2.2.2.1.length,0)).bind λa=>a
def nV:Bool×Bool->Option (Int):=λ(a,b)=>bif a then some 3 else bif b then some 2 else some 1
def nW:(List Int)×Int->Option (Int):=λ(a,b)=>bif b<a.length then(at? a b).bind λa=>a else some 0
def nX:H0×Int->Option LQ:=λ(a,b)=>(bif b<a.length then at? a b else some (false,[],0)).bind λc=>(bif b<a.length then TT c else some false).bind λc=>bif b<a.length&&!c then(at? a b).bind λa=>a else some (false,[],0)
def AIw:Int×DL×DL->Option (Int×Int):=λ(a,b,c)=>(zG (a,b,c)).bind λa=>bif !DP a.2.2 0 then some (0,a.2.2)else((λz=>Sum.casesOn (motive:=λ_=>Option DL) z (λx=>(NY x).bind λr=>r) (λz=>z.casesOn (λx=>(NZ x).bind λr=>r) (λz=>z.casesOn (λx=>(N_ x).bind λr=>r) (λz=>z.casesOn (λx=>(O0 x).bind λr=>r) (λz=>z.casesOn (λx=>(O1 x).bind λr=>r) (λ_=>none)))))) a.1).bind λb=>((λz=>Sum.casesOn (motive:=λ_=>Option DL) z (λx=>(NY x).bind λr=>r) (λz=>z.casesOn (λx=>(NZ x).bind λr=>r) (λz=>z.casesOn (λx=>(N_ x).bind λr=>r) (λz=>z.casesOn (λx=>(O0 x).bind λr=>r) (λz=>z.casesOn (λx=>(O1 x).bind λr=>r) (λ_=>none)))))) a.2.1).bind λc=>bif DQ b c then some (0,0)else bif ((Sum.casesOn a.1 (λb=>b) (λc=>Sum.casesOn c (λd=>none) (λe=>Sum.casesOn e (λf=>none) (λg=>Sum.casesOn g (λh=>none) (λi=>Sum.casesOn i (λj=>none) (λk=>none)))))):Option KP).isSome then(nV (!DP (((((Sum.casesOn a.1 (λb=>b) (λc=>Sum.casesOn c (λd=>none) (λe=>Sum.casesOn e (λf=>none) (λg=>Sum.casesOn g (λh=>none) (λi=>Sum.casesOn i (λj=>none) (λk=>none)))))):Option KP).getD (List.replicate 3 0,[])).1).getD 0 0) (((((Sum.casesOn a.2.1 (λl=>l) (λm=>Sum.casesOn m (λn=>none) (λo=>Sum.casesOn o (λp=>none) (λq=>Sum.casesOn q (λs=>none) (λt=>Sum.casesOn t (λu=>none) (λv=>none)))))):Option KP).getD (List.replicate 3 0,[])).1).getD 0 0),!DP (((((Sum.casesOn a.1 (λb=>b) (λc=>Sum.casesOn c (λd=>none) (λe=>Sum.casesOn e (λf=>none) (λg=>Sum.casesOn g (λh=>none) (λi=>Sum.casesOn i (λj=>none) (λk=>none)))))):Option KP).getD (List.replicate 3 0,[])).1).getD 1 0) (((((Sum.casesOn a.2.1 (λl=>l) (λm=>Sum.casesOn m (λn=>none) (λo=>Sum.casesOn o (λp=>none) (λq=>Sum.casesOn q (λs=>none) (λt=>Sum.casesOn t (λu=>none) (λv=>none)))))):Option KP).getD (List.replicate 3 0,[])).1).getD 1 0))).bind λb=>some (b,0)else bif ((Sum.casesOn a.1 (λb=>none) (λc=>Sum.casesOn c (λd=>d) (λe=>Sum.casesOn e (λf=>none) (λg=>Sum.casesOn g (λh=>none) (λi=>Sum.casesOn i (λj=>none) (λk=>none)))))):Option K9).isSome then(QD (((((Sum.casesOn a.1 (λb=>none) (λc=>Sum.casesOn c (λd=>d) (λe=>Sum.casesOn e (λf=>none) (λg=>Sum.casesOn g (λh=>none) (λi=>Sum.casesOn i (λj=>none) (λk=>none)))))):Option K9).getD (0,[],[],false)).2).1)).bind λl=>(QD (((((Sum.casesOn a.2.1 (λm=>none) (λn=>Sum.casesOn n (λo=>o) (λp=>Sum.casesOn p (λq=>none) (λs=>Sum.casesOn s (λt=>none) (λu=>Sum.casesOn u (λv=>none) (λw=>none)))))):Option K9).getD (0,[],[],false)).2).1)).bind λy=>(nV (!DP ((((Sum.casesOn a.1 (λb=>none) (λc=>Sum.casesOn c (λd=>d) (λe=>Sum.casesOn e (λf=>none) (λg=>Sum.casesOn g (λh=>none) (λi=>Sum.casesOn i (λj=>none) (λk=>none)))))):Option K9).getD (0,[],[],false)).1) ((((Sum.casesOn a.2.1 (λm=>none) (λn=>Sum.casesOn n (λo=>o) (λp=>Sum.casesOn p (λq=>none) (λs=>Sum.casesOn s (λt=>none) (λu=>Sum.casesOn u (λv=>none) (λw=>none)))))):Option K9).getD (0,[],[],false)).1),!DQ l y)).bind λb=>some (b,0)else bif ((Sum.casesOn a.1 (λb=>none) (λc=>Sum.casesOn c (λd=>none) (λe=>Sum.casesOn e (λf=>f) (λg=>Sum.casesOn g (λh=>none) (λi=>Sum.casesOn i (λj=>none) (λk=>none)))))):Option FS).isSome then let l:=(((Sum.casesOn a.1 (λb=>none) (λc=>Sum.casesOn c (λd=>none) (λe=>Sum.casesOn e (λf=>f) (λg=>Sum.casesOn g (λh=>none) (λi=>Sum.casesOn i (λj=>none) (λk=>none)))))):Option FS).getD (0,[],0,0,0,0,[])).1;let m:=(((Sum.casesOn a.2.1 (λn=>none) (λo=>Sum.casesOn o (λp=>none) (λq=>Sum.casesOn q (λs=>s) (λt=>Sum.casesOn t (λu=>none) (λv=>Sum.casesOn v (λw=>none) (λy=>none)))))):Option FS).getD (0,[],0,0,0,0,[])).1;(bif !(!DP l m)then nW (((((Sum.casesOn a.1 (λb=>none) (λc=>Sum.casesOn c (λd=>none) (λe=>Sum.casesOn e (λf=>f) (λg=>Sum.casesOn g (λh=>none) (λi=>Sum.casesOn i (λj=>none) (λk=>none)))))):Option FS).getD (0,[],0,0,0,0,[])).2).1,0)else some 0).bind λaa=>(bif !(!DP l m)then nW (((((Sum.casesOn a.2.1 (λn=>none) (λo=>Sum.casesOn o (λp=>none) (λq=>Sum.casesOn q (λs=>s) (λt=>Sum.casesOn t (λu=>none) (λv=>Sum.casesOn v (λw=>none) (λy=>none)))))):Option FS).getD (0,[],0,0,0,0,[])).2).1,0)else some 0).bind λab=>(nW (((((Sum.casesOn a.1 (λb=>none) (λc=>Sum.casesOn c (λd=>none) (λe=>Sum.casesOn e (λf=>f) (λg=>Sum.casesOn g (λh=>none) (λi=>Sum.casesOn i (λj=>none) (λk=>none)))))):Option FS).getD (0,[],0,0,0,0,[])).2).1,1)).bind λb=>(nW (((((Sum.casesOn a.2.1 (λn=>none) (λo=>Sum.casesOn o (λp=>none) (λq=>Sum.casesOn q (λs=>s) (λt=>Sum.casesOn t (λu=>none) (λv=>Sum.casesOn v (λw=>none) (λy=>none)))))):Option FS).getD (0,[],0,0,0,0,[])).2).1,1)).bind λc=>(nV (!DP l m||!DP aa ab,!DP b c)).bind λb=>some (b,0)else bif ((Sum.casesOn a.1 (λb=>none) (λc=>Sum.casesOn c (λd=>none) (λe=>Sum.casesOn e (λf=>none) (λg=>Sum.casesOn g (λh=>h) (λi=>Sum.casesOn i (λj=>none) (λk=>none)))))):Option H0).isSome then(nX (((Sum.casesOn a.1 (λb=>none) (λc=>Sum.casesOn c (λd=>none) (λe=>Sum.casesOn e (λf=>none) (λg=>Sum.casesOn g (λh=>h) (λi=>Sum.casesOn i (λj=>none) (λk=>none)))))):Option H0).getD [],0)).bind λl=>(nX (((Sum.casesOn a.2.1 (λm=>none) (λn=>Sum.casesOn n (λo=>none) (λp=>Sum.casesOn p (λq=>none) (λs=>Sum.casesOn s (λt=>t) (λu=>Sum.casesOn u (λv=>none) (λw=>none)))))):Option H0).getD [],0)).bind λy=>(nX (((Sum.casesOn a.1 (λb=>none) (λc=>Sum.casesOn c (λd=>none) (λe=>Sum.casesOn e (λf=>none) (λg=>Sum.casesOn g (λh=>h) (λi=>Sum.casesOn i (λj=>none) (λk=>none)))))):Option H0).getD [],1)).bind λb=>(nX (((Sum.casesOn a.2.1 (λm=>none) (λn=>Sum.casesOn n (λo=>none) (λp=>Sum.casesOn p (λq=>none) (λs=>Sum.casesOn s (λt=>t) (λu=>Sum.casesOn u (λv=>none) (λw=>none)))))):Option H0).getD [],1)).bind λa=>(nV (!(I6 l.1 y.1&&(DQ l.2.1 y.2.1&&DP l.2.2 y.2.2)),!(I6 b.1 a.1&&(DQ b.2.1 a.2.1&&DP b.2.2 a.2.2)))).bind λa=>some (a,0)else some (1,0)
def AIx:(Int×Int×Int)×Bool->Option (Int×Int×Int):=λ(a,b)=>bif b then some (a.1,1,a.2.2)else a
def AIy:fS×(DL×DL)->Option (Int×Int×Int):=λ(a,b)=>(A61 (a.2.2.2.1,b.1)).bind λc=>(AIx ((0,0,0),!DQ c.1 b.2)).bind λd=>bif DQ b.2 []then d else(AIv (a,b)).bind λa=>bif c.2 then(nU b.1).bind λe=>(AIw (e.1,c.1,b.2)).bind λb=>(a,d.2.1,b.1)else(a,d.2)
end
end Go.Ev.Pv
