/-
  The program's functions as plain Lean functions (printed by a program of the author's from the translation).
-/
import Derived.Test.YtkmlfnhigaoplaaGreatDoorE4
import Derived.Lib.AtoiAll
import Derived.Lib.ItoaNum
import Derived.Lib.Join
import Derived.Lib.Split
import Derived.Lib.Repeat
import Derived.Lib.FieldsP
import Derived.Lib.MapU
import Derived.Lib.LastIndexByte
import Derived.Lib.SlicesCompact
import GoSem.Decode
import Derived.Lib.Case
set_option linter.all false
set_option maxRecDepth 100000
open Go.IntKind hiding min max bits signed
namespace Go.Ev.Pv
def fuel:Nat:=18446744073709551616
def str? (s:DM):Option DM:=bif decide (s.length<=281474976710656)then some s else none
def str?_some{s r:DM}(h:str? s=some r):r=s/\s.length<=281474976710656:=by
 unfold str? at h;cases hd:decide (s.length<=281474976710656)with
 |false=>rw[hd]at h;cases h
 |true=>rw[hd]at h;cases h;exact⟨rfl,AC hd⟩
def IN{α:Type}(c:Prop) [Decidable c](x:Option α):Option α:=bif decide c then x else none
def OI{α:Type}{c:Prop}{_:Decidable c}{x:Option α}{r:α}(h:IN c x=some r):c/\x=some r:=by
 unfold IN at h;cases hd:decide c with
 |false=>rw[hd]at h;cases h
 |true=>rw[hd]at h;exact⟨AC hd,h⟩
def MR:Nat->Nat->DM
 |0,_=>[]
 |k+1,u=>if u<10 then [UInt8.ofNat (48+u)]else MR k (u / 10)++[UInt8.ofNat (48+u % 10)]
def A3C:∀(k u:Nat),u<10 ^ k->1<=k->MR k u=Lib.decDigits u:=by
 intro k;induction k with
 |zero=>intro u _ h;omega
 |succ k ih=>
  intro u hu _;rw[Lib.decDigits];simp only[MR];by_cases h:u<10
  .rw[if_pos h,dif_pos h]
  .rw[if_neg h,dif_neg h]
   have hk:1<=k:=by
    rcases k with _|k
    .simp at hu;omega
    .omega
   rw[ih (u / 10) (by rw[Nat.pow_succ]at hu;omega) hk]
def RN(n:Int):DM:=if n<0 then 45::MR 20 n.natAbs else MR 20 n.toNat
def AHu{n:Int}(h0:-9223372036854775808<=n)(h1:n<=9223372036854775807):RN n=Lib.itoa n:=by
 unfold RN Lib.itoa;rw[A3C 20 n.natAbs oa oi,A3C 20 n.toNat oa oi]
def A3D:∀(k u:Nat),(MR k u).length<=k:=by
 intro k;induction k with
 |zero=>intro u;exact AD _
 |succ k ih=>
  intro u;simp only[MR];split
  .simp
  .have:=ih (u / 10);simp only[AI,BN,C0];omega
def A3E(n:Int):(RN n).length<=21:=by
 unfold RN;split
 .have:=A3D 20 n.natAbs;simp only[BN];omega
 .have:=A3D 20 n.toNat;omega
def strings_Join:(List (List UInt8))×(List UInt8)->Option (List UInt8):=λx=>IN (x.1.length<=140737488355328/\(Lib.join x.1 x.2).length<=140737488355328) (some (Lib.join x.1 x.2))
def YQ:List UInt8->Option (List UInt8):=λs=>IN (s.length<35184372088832) (str? (Lib.toLowerD s))
def strconv_Itoa:Int->Option (List UInt8):=λn=>some (RN n)
def strings_IndexByte:(List UInt8)×Int->Option (Int):=λx=>IN (x.1.length<4611686018427387904) (some (Lib.indexByte x.1 x.2.toNat.toUInt8))
def strings_LastIndexByte:(List UInt8)×Int->Option (Int):=λx=>IN (x.1.length<4611686018427387904) (some (Lib.lastIndexByte ⟨x.1.toArray⟩ x.2))
def strings_Cut:(List UInt8)×(List UInt8)->Option ((List UInt8)×(List UInt8)×Bool):=λx=>IN (x.1.length<4294967281) (some (Lib.cut x.1 x.2))
def strings_Repeat:(List UInt8)×Int->Option (List UInt8):=λx=>IN (0<=x.2/\x.1.length*x.2.toNat<=140737488355328) (some (Lib.repeatL x.1 x.2.toNat))
def strings_Split:(List UInt8)×(List UInt8)->Option (List (List UInt8)):=λx=>IN (x.1.length<4294967281/\1<=x.2.length) (some ((Lib.splitB ⟨x.2.toArray⟩ 0 (Lib.countB ⟨x.1.toArray⟩ ⟨x.2.toArray⟩) ⟨x.1.toArray⟩).map λb=>b.data.toList))
def fC:List UInt8->Option (Int×Unit):=λs=>IN (s.length<=281474976710656) (match Lib.atoiAll s with
 | .ok v=>some (v,())
 | .range=>some (Lib.atoiSat s,())
 |_=>some (0,()))
noncomputable def VD:(List UInt8)×(Int->Option Bool)->Option (List (List UInt8)):=λx=>
 @IN _ (x.1.length<=4294967296/\(∀r:Nat,r<=1114111->∃b,x.2 (r:Int)=some b)/\(Lib.goFieldsP (λr=>(x.2 (r:Int)).getD false) ⟨x.1.toArray⟩).length<=281474976710656) (Classical.propDecidable _) (some ((Lib.goFieldsP (λr=>(x.2 (r:Int)).getD false) ⟨x.1.toArray⟩).map λb=>b.data.toList))
def strings_HasPrefix:(List UInt8)×(List UInt8)->Option (Bool):=λx=>some (Lib.hasPrefix x.1 x.2)
def strings_TrimPrefix:(List UInt8)×(List UInt8)->Option (List UInt8):=λx=>some (Lib.trimPrefix x.1 x.2)
def strings_CutPrefix:(List UInt8)×(List UInt8)->Option ((List UInt8)×Bool):=λx=>some (Lib.trimPrefix x.1 x.2,Lib.hasPrefix x.1 x.2)
def fD:List Int->Option (List Int):=λxs=>some xs
def PQ:List Int->Option (List UInt8):=λxs=>some (IL xs)
section
variable{T:Type}
def NO(xs:List T)(F:T×T->Option Int)(i j:Fin xs.length):Int:=(F (xs.get i,xs.get j)).getD 0
def IG(xs:List T)(F:T×T->Option Int)(i j:Fin xs.length):Bool:=decide (NO xs F i j<0)
def T6(xs:List T)(F:T×T->Option Int):Prop:=
 (∀i j:Fin xs.length,(F (xs.get i,xs.get j)).isSome=true)/\(∀i:Fin xs.length,IG xs F i i=false)/\
 (∀i j k:Fin xs.length,IG xs F i j=true->IG xs F j k=true->IG xs F i k=true)/\(∀i j k:Fin xs.length,IG xs F i j=false->IG xs F j k=false->IG xs F i k=false)
instance{xs:List T}{F:T×T->Option Int}:Decidable (T6 xs F):=by unfold T6;infer_instance
def fE{α:Type} [Inhabited α](lt:α->α->Bool):Nat->Nat->Array α->Array α
 |0,_,d=>d
 |n+1,i,d=>fE lt n (i+1) (Sort.insInner lt 0 i d)
theorem AHv{α:Type} [Inhabited α](lt:α->α->Bool):∀(n i:Nat) (d:Array α),Sort.insOuter lt 0 (i+n) i d=fE lt n i d:=by
 intro n;induction n with
 |zero=>intro i d;rw[Sort.insOuter,if_neg oa];rfl
 |succ n ih=>intro i d;rw[Sort.insOuter,if_pos oa,show i+(n+1)=(i+1)+n by omega,ih];rfl
def K_(xs:List T)(F:T×T->Option Int)(h:0<xs.length):Array (Fin xs.length):=
 haveI:Inhabited (Fin xs.length):=⟨⟨0,h⟩⟩
 if xs.length<=12 then fE (IG xs F) (xs.length-1) 1 (Array.ofFn id)else Sort.pdq (IG xs F) (Array.ofFn id) 0 xs.length (Lib.bitLen xs.length) true true
def AHw{α:Type} [Inhabited α](lt:α->α->Bool)(d:Array α)(n lim:Nat)(h:0<n)(h12:n<=12):Sort.pdq lt d 0 n lim true true=fE lt (n-1) 1 d:=by
 rw[Sort.pdq,if_pos oa,Sort.insertionSort];have:=AHv lt (n-1) 1 d;rw[show 1+(n-1)=n by omega]at this;exact this
theorem A3F(xs:List T)(F:T×T->Option Int)(h:0<xs.length):
 K_ xs F h= @Sort.pdq _ ⟨⟨0,h⟩⟩ (IG xs F) (Array.ofFn id) 0 xs.length (Lib.bitLen xs.length) true true:=by
 unfold K_;split
 .rename_i h12;exact(@AHw _ ⟨⟨0,h⟩⟩ (IG xs F) (Array.ofFn id) xs.length _ h h12).symm
 .rfl
def NP(xs:List T)(F:T×T->Option Int):Option (List T):=
 if h:0<xs.length then IN (T6 xs F) (some ((K_ xs F h).toList.map xs.get))else some []
end
def uA:(List ((Int×(List UInt8)×Bool×(List UInt8))×(Int×(List UInt8)×Bool×(List UInt8))))×((((Int×(List UInt8)×Bool×(List UInt8))×(Int×(List UInt8)×Bool×(List UInt8)))×((Int×(List UInt8)×Bool×(List UInt8))×(Int×(List UInt8)×Bool×(List UInt8))))->Option Int)->Option (List ((Int×(List UInt8)×Bool×(List UInt8))×(Int×(List UInt8)×Bool×(List UInt8)))):=λv=>NP v.1 v.2
def fF{α:Type}(l:List α)(i j:Int):Option (List α):=
 if 0<=i/\i<j/\j<=l.length then some (l.take i.toNat++l.drop j.toNat)else none
def uB:(List (Int×Int))×(((Int×Int)×(Int×Int))->Option Int)->Option (List (Int×Int)):=λx=>NP x.1 x.2
def K5(c:UInt8):Bool:=decide (97<=(c.toNat:Int))&&((c.toNat:Int)<=122)||(65<=(c.toNat:Int))&&((c.toNat:Int)<=90)||(48<=(c.toNat:Int))&&((c.toNat:Int)<=57)||((c.toNat:Int)=46)||((c.toNat:Int)=45)
def wordL:List (List UInt8):=[[65,78,68],[79,82],[87,73,84,72],[97,110,100],[111,114],[119,105,116,104]]
def KL(s:ByteArray):Bool:=wordL.contains s.toList
def H6(s:ByteArray):Bool:=decide (0<s.size)&&((s.size<=60)&&(!(s.data.toList.headD 0==46)&&(!(s.data.toList.headD 0==45)&&(!(KL s)&&s.data.toList.all K5))))
structure RS where
 en:Nat
 k:Int
 tx:ByteArray
 at_:Nat
 tg:Bool
 op:Int
def MS(c:UInt8):Bool:=c==32||c==9||c==10
def F4(l:List UInt8)(i:Nat):Nat:=i+((l.drop i).takeWhile MS).length
def JR(l:List UInt8)(i:Nat):Nat:=((l.drop i).takeWhile K5).length
def RO(t:ByteArray):ByteArray:=⟨(Lib.toUpperA t.data.toList).toArray⟩
def FP(s:ByteArray)(en:Nat)(op:Int):Except Nat RS:=
 if F4 s.data.toList en=s.size then .ok ⟨en,0,⟨#[]⟩,F4 s.data.toList en,decide (F4 s.data.toList en=en/\0<F4 s.data.toList en),op⟩
 else if JR s.data.toList (F4 s.data.toList en)=0 then
  (if s.data.toList.getD (F4 s.data.toList en) 0=43 then .ok ⟨F4 s.data.toList en+1,3,⟨#[]⟩,F4 s.data.toList en,decide (F4 s.data.toList en=en/\0<F4 s.data.toList en),op⟩
  else if s.data.toList.getD (F4 s.data.toList en) 0=40 then .ok ⟨F4 s.data.toList en+1,4,⟨#[]⟩,F4 s.data.toList en,decide (F4 s.data.toList en=en/\0<F4 s.data.toList en),op⟩
  else if s.data.toList.getD (F4 s.data.toList en) 0=41 then .ok ⟨F4 s.data.toList en+1,5,⟨#[]⟩,F4 s.data.toList en,decide (F4 s.data.toList en=en/\0<F4 s.data.toList en),op⟩
  else .error (F4 s.data.toList en))
 else if KL (s.extract (F4 s.data.toList en) (F4 s.data.toList en+JR s.data.toList (F4 s.data.toList en)))=true then
  .ok ⟨F4 s.data.toList en+JR s.data.toList (F4 s.data.toList en),2,RO (s.extract (F4 s.data.toList en) (F4 s.data.toList en+JR s.data.toList (F4 s.data.toList en))),F4 s.data.toList en,decide (F4 s.data.toList en=en/\0<F4 s.data.toList en),op⟩
 else if H6 (s.extract (F4 s.data.toList en) (F4 s.data.toList en+JR s.data.toList (F4 s.data.toList en)))=true then
  .ok ⟨F4 s.data.toList en+JR s.data.toList (F4 s.data.toList en),1,s.extract (F4 s.data.toList en) (F4 s.data.toList en+JR s.data.toList (F4 s.data.toList en)),F4 s.data.toList en,decide (F4 s.data.toList en=en/\0<F4 s.data.toList en),op⟩
 else .error (F4 s.data.toList en)
def IP(s:ByteArray)(word:ByteArray)(r:RS):Except (Nat×Int) (Bool×RS):=
 if r.k≠2\/r.tx≠word then .ok (false,r)else match FP s r.en r.op with
  | .ok r=>.ok (true,r)
  | .error a=>.error (a,6)
def IW(s:ByteArray)(r:RS):Except (Nat×Int) (ByteArray×RS):=
 if r.k≠1 then .error (r.at_,6)else match FP s r.en r.op with
  | .ok r'=>.ok (r.tx,r')
  | .error a=>.error (a,6)
inductive Tr where
 |node (k:Int) (n:ByteArray) (l:Bool) (x:ByteArray) (kids:List Tr)
abbrev PF:=RS->Option (Except (Nat×Int) (Tr×RS))
def K6(s word:ByteArray)(one:PF):Nat->List Tr->RS->Option (Except (Nat×Int) (List Tr×RS))
 |0,_,_=>none
 |m+1,kids,r=>match IP s word r with
  | .error e=>some (.error e)
  | .ok (false,r')=>some (.ok (kids,r'))
  | .ok (true,r')=>match one r' with
   |none=>none
   |some (.error e)=>some (.error e)
   |some (.ok (t,r''))=>K6 s word one m (kids++[t]) r''
def IX(s:ByteArray)(kind:Int)(word:ByteArray)(one:PF)(m:Nat):PF:=λr=>match one r with
 |none=>none
 |some (.error e)=>some (.error e)
 |some (.ok (t,r'))=>if r'.k≠2\/r'.tx≠word then some (.ok (t,r'))else match K6 s word one m [t] r' with
  |none=>none
  |some (.error e)=>some (.error e)
  |some (.ok (kids,r''))=>some (.ok (.node kind ⟨#[]⟩ false ⟨#[]⟩ kids,r''))
def PR(o:Int):Int:=IntKind.wrap .i64 o
def OJ(s:ByteArray)(eitherR:PF)(r:RS):Option (Except (Nat×Int) (Tr×RS)):=
 if 30<PR (r.op+1)then some (.error (r.at_,3))else match FP s r.en (PR (r.op+1))with
  | .error a=>some (.error (a,6))
  | .ok b=>match eitherR b with
   |none=>none
   |some (.error e)=>some (.error e)
   |some (.ok (t,b))=>if b.k≠5 then some (.error (b.at_,6))else match FP s b.en (PR (b.op-1))with
    | .error a=>some (.error (a,6))
    | .ok b=>some (.ok (t,b))
def LL(s:ByteArray)(r:RS):Except (Nat×Int) (Bool×RS):=
 if r.k=3/\r.tg=true then(match FP s r.en r.op with| .error a=>.error (a,6)| .ok b=>.ok (true,b))else .ok (false,r)
def KN(s:ByteArray)(r:RS):Except (Nat×Int) (ByteArray×RS):=match IP s ⟨#[87,73,84,72]⟩ r with
 | .error e=>.error e
 | .ok (false,a)=>.ok (⟨#[]⟩,a)
 | .ok (true,a)=>IW s a
def J7(s:ByteArray)(r:RS):Except (Nat×Int) (Tr×RS):=match IW s r with
 | .error e=>.error e
 | .ok (n,a)=>match LL s a with
  | .error e=>.error e
  | .ok (l,a)=>match KN s a with
   | .error e=>.error e
   | .ok (x,a)=>.ok (.node 1 n l x [],a)
def MT(s:ByteArray)(m:Nat):Nat->PF
 |0=>λ_=>none
 |d+1=>λr=>if r.k=4 then OJ s (IX s 3 ⟨#[79,82]⟩ (IX s 2 ⟨#[65,78,68]⟩ (MT s m d) m) m) r else some (J7 s r)
def PS(s:ByteArray)(m d:Nat):PF:=IX s 3 ⟨#[79,82]⟩ (IX s 2 ⟨#[65,78,68]⟩ (MT s m d) m) m
def MU(s:ByteArray)(e:PF):Option (Except (Nat×Int) Tr):=match FP s 0 0 with
 | .error a=>some (.error (a,6))
 | .ok r=>match e r with
  |none=>none
  |some (.error x)=>some (.error x)
  |some (.ok (t,r'))=>if r'.k≠0 then some (.error (r'.at_,6))else some (.ok t)
mutual
def IH:Tr->Int->Int×Int
 | .node _ _ _ _ kids,d=>if 30<d then(1,d)else L0 kids d (1,d)
def L0:List Tr->Int->Int×Int->Int×Int
 |[],_,acc=>acc
 |t::ts,d,acc=>L0 ts d (min (acc.1+(IH t (d+1)).1) 201,max acc.2 (IH t (d+1)).2)
end
mutual
def MV:Tr->Int
 | .node k n l x kids=>if k<1\/3<k then 7 else if k=1 then(if 0<kids.length then 2 else if H6 n=false\/x≠⟨#[]⟩/\H6 x=false then 8 else 0)
   else if n≠⟨#[]⟩\/l=true\/x≠⟨#[]⟩\/kids.length<2 then 2 else PU kids
def PU:List Tr->Int
 |[]=>0
 |t::ts=>if MV t≠0 then MV t else PU ts
end
def PV(t:Tr):Int:=if 30<(IH t 1).2\/200<(IH t 1).1 then 3 else MV t
def T7(s:ByteArray)(e:PF):Option (Except (Nat×Int) Tr):=if 4000<s.size then some (.error (0,3))else match MU s e with
 |none=>none
 |some (.error x)=>some (.error x)
 |some (.ok t)=>if PV t≠0 then some (.error (0,PV t))else some (.ok t)
def AHx:Option (Except (Nat×Int) Tr)->(Int×(List UInt8)×Bool×(List UInt8)×Unit)×Int×Int
 |some (.ok (.node k n l x _))=>((k,n.data.toList,l,x.data.toList,()),0,0)
 |some (.error (a,c))=>((0,[],false,[],()),a,c)
 |none=>((0,[],false,[],()),0,0)
noncomputable def uC:List UInt8->Option ((Int×(List UInt8)×Bool×(List UInt8)×Unit)×Int×Int):=λs=>some (AHx (T7 ⟨s.toArray⟩ (PS ⟨s.toArray⟩ 4500 31)))
def AHy(s:List UInt8):∃r,uC s=some r:=⟨_,rfl⟩
def fG:List ((List UInt8)×(List UInt8)×(List UInt8)×Int×Int×Int×Int)×Int×Int->Option (List ((List UInt8)×(List UInt8)×(List UInt8)×Int×Int×Int×Int)):=λx=>fF x.1 x.2.1 x.2.2
def slices_Sort_int(xs:List Int):Option (List Int):=some (xs.mergeSort λx y=>decide (x<=y))
def slices_Compact_int(xs:List Int):Option (List Int):=some (Lib.compact xs)
def fH:(List ((List UInt8)×(List UInt8)))×(((List UInt8)×(List UInt8))×((List UInt8)×(List UInt8))->Option Int)->Option (List ((List UInt8)×(List UInt8))):=λx=>NP x.1 x.2
noncomputable section
abbrev DW:=(List (DM×DM))
abbrev I4:=(DM×DM×DM×DM×DW×DM)
abbrev GU:=(DM×I4×DW×DM×(List DM))
abbrev GG:=(DM×DM×Int)
abbrev H7:=(DM×DM×DM×(List GU)×(List GG))
abbrev JG:=(List (Int×DM))
abbrev GP:=(DM×Int×JG×(List DM)×(List DM))
abbrev GN:=(DM×(List DM)×DM×Int×Bool×DM×(List GP))
abbrev NQ:=(Int×(List GN)×(List Int))
abbrev IY:=(Int×DM×DM×DM)
abbrev PX:=(List (DM×DM×(List IY)×(List DM)))
abbrev JH:=((List (DM×(List DM)))×(List (DM×DW))×PX×(List DM))
abbrev L1:=(DM×DM×DM×Int×Int×Int×Int)
abbrev VE:=(H7×Int×NQ×(List JH)×Int×(List DM)×(List L1))
abbrev IZ:=(VE×(List (DM×GN))×(List (DM×GU))×(List (DM×Bool))×(List (GG×Bool)))
abbrev GY:=(JH×(List (DM×Int))×(List (DM×Int))×(List (DM×(List Int)))×(List (DM×Bool))×Bool)
abbrev D_:=(Int×DM×DM×Int)
abbrev KO:=((List Int)×(List DM))
abbrev K7:=(Int×DM×DM×Bool)
abbrev FQ:=(Int×(List Int)×Int×Int×Int×Int×(List DM))
abbrev LM:=(Bool×DM×Int)
abbrev GZ:=(List LM)
abbrev H8:=(Sum KO (Sum K7 (Sum FQ (Sum GZ (Sum Int Unit)))))
abbrev GH:=(Bool×Bool×DM)
abbrev F6:=(List (GH×GH))
abbrev LN:=(Int×DM×Bool×DM)
abbrev FH:=(LN×LN)
abbrev JI:=((Option GY)×((List Bool)×((List Bool)×((List ((DM×DM)×Bool))×(DW×((List Int)×(List Int)))))))
abbrev FJ:=(((DM×DM)×(DM×DM))->Option Int)
abbrev PY:=(List ((DM×Int)×DM))
abbrev MW:=(DM×PY×DW)
abbrev JS:=(DM×DM×Int×Int×Int×(List DM)×DM×(List MW)×Int)
abbrev RP:=(VE×((List (DM×GN))×((List (DM×GU))×((List (DM×Bool))×(List (GG×Bool))))))
abbrev ER:=(DM×Int×Int)
abbrev MX:=(Option ((Option GY)×(List Bool)×(List Bool)×(List ((DM×DM)×Bool))×DW×(List Int)×(List Int)))
abbrev FK:=((D_×D_)->Option Int)
abbrev LO:=(Bool×(List (DM×(DM×(List DM))))×(List (DM×Bool))×(List (DM×Bool)))
abbrev H9:=((DM×DM)×(DM×DM)->Option Int)
abbrev OK:=(JH×((List (DM×Int))×((List (DM×Int))×((List (DM×List Int))×((List (DM×Bool))×Bool)))))
abbrev IA:=(DM×(DM×(DM×(DM×(DW×DM)))))
abbrev RQ:=(List (DM×(Int×F6)×Int))
abbrev HX:=(List (Int×Int))
abbrev HD:=(D_×D_->Option Int)
abbrev VF:=(Bool×((List (DM×(DM×(List DM))))×((List (DM×Bool))×(List (DM×Bool)))))
abbrev G_:=(Sum (Unit) (Int))
abbrev KP:=(List ((Int×Bool)×Bool))
abbrev JJ:=(List (List Int))
abbrev VG:=((Option IZ)×GG×GN×GU×(List DM)×Int×(List DM))
abbrev JK:=(Sum (Unit) (Bool))
abbrev RR:=(DM×DM×RQ×Bool)
abbrev fI:=((List RR)×RQ×Int×DW×(List DM)×Bool×NQ)
abbrev K8:=(DM×HX×Int)
abbrev fJ:=((Option IZ)×(GG×(GN×(GU×((List DM)×(Int×(List DM)))))))
abbrev K9:=(List (Int×F6))
abbrev T8:=(DM×Int×Bool×Bool×Int)
abbrev M7:=((List DM)×Bool)
abbrev MY:=(Int->Option Bool)
abbrev RT:=(Bool×(List (DM×Bool)))
abbrev MZ:=((List D_)×Int)
abbrev T9:=(H7×Int×JJ×JJ)
abbrev Rd(A B:Type):=(A->Option B)->A->Option B
def fK:Rd ER JK:=λa (b,c,d)=>bif d<c then(at? b d).bind λe=>(bif !((e.toNat:Int)<32)then at? b d else some 0).bind λf=>bif (e.toNat:Int)<32||DQ f.toNat 127 then some (.inr false)else a (b,c,i64.wrap (d+1))else some (.inl ())
def A3G:=DX fK fuel
def TA:DM->Option (Bool):=λa=>(A3G (a,a.length,0)).bind λb=>match b with|.inl _=>some ((a.length:Int)<=100)|.inr a=>a
def fL:Rd ER JK:=λa (b,c,d)=>bif d<c then(at? b d).bind λe=>(bif !((e.toNat:Int)<33)then at? b d else some 0).bind λf=>bif (e.toNat:Int)<33||126<(f.toNat:Int)then some (.inr false)else a (b,c,i64.wrap (d+1))else some (.inl ())
def A3H:=DX fL fuel
def VH:DM×Int->Option (Bool):=λ(a,b)=>(A3H (a,a.length,0)).bind λc=>match c with|.inl _=>some (!DR a []&&a.length<=b)|.inr a=>a
def fM:Unit->Option (List T8):=λ_=>some [([100,111,116,116,101,100],2,true,false,1),([114,101,118,105,115,101,100],3,true,false,2),([115,116,97,103,101,100],1,true,true,3),([113,117,97,108,105,102,105,101,100],3,false,false,4),([112,108,97,105,110],2,false,false,5)]
def A3I:Rd (DM×(List T8)×Int) G_:=λa (b,c,d)=>bif d<5 then(at? c d).bind λe=>bif DR e.1 b then some (.inr d)else a (b,c,i64.wrap (d+1))else some (.inl ())
def uD:=DX A3I fuel
def YR:DM->Option (Int):=λa=>(fM ()).bind λb=>(uD (a,b,0)).bind λa=>match a with|.inl _=>some (-1)|.inr a=>a
def VI:DM->Option (T8×Int):=λa=>(YR a).bind λa=>bif a<0 then some (([],0,false,false,0),7)else(fM ()).bind λb=>(at? b a).bind λa=>some (a,0)
def A3J:Rd ((List DM)×Int×Int) JK:=λa (b,c,d)=>bif d<c then(at? b d).bind λe=>bif 200<(e.length:Int)then some (.inr true)else a (b,c,i64.wrap (d+1))else some (.inl ())
def uE:=DX A3J fuel
def A3K:Rd (DW×Int×Int) JK:=λa (b,c,d)=>bif d<c then(at? b d).bind λe=>bif 200<(e.1.length:Int)||200<(e.2.length:Int)then some (.inr true)else a (b,c,i64.wrap (d+1))else some (.inl ())
def uF:=DX A3K fuel
def fN:DM×DM×DM×DM×DW×DM->Option (Bool):=λa=>let b:=[a.2.1,a.2.2.1,a.2.2.2.1,a.2.2.2.2.2];(uE (b,b.length,0)).bind λb=>match b with|.inl _=>((uF (a.2.2.2.2.1,a.2.2.2.2.1.length,0)).bind λb=>match b with|.inl _=>some (10<(a.2.2.2.2.1.length:Int))|.inr a=>a)|.inr a=>a
def TB:DM->Option (List DM):=λa=>bif DR a []then some []else(strings_Split (a,[47])).bind λa=>a
def A3L:Rd (Bool×(List DM)×Int×Int) JK:=λa (b,c,d,e)=>bif e<d then(at? c e).bind λf=>bif DR f []||b&&(DR f [46]||DR f [46,46])then some (.inr true)else a (b,c,d,i64.wrap (e+1))else some (.inl ())
def uG:=DX A3L fuel
def YS:(List DM)×Bool->Option (Bool):=λ(a,b)=>(uG (b,a,a.length,0)).bind λb=>match b with|.inl _=>some (10<(a.length:Int))|.inr a=>a
def YT:Int×Bool->Option (Bool):=λ(a,b)=>bif 97<=a&&a<=122 then some true else some (!b&&(48<=a&&a<=57||DQ a 46||DQ a 45||DQ a 95))
def A3M:Rd ER JK:=λa (b,c,d)=>bif d<c then(at? b d).bind λe=>(YT (e.toNat,DQ d 0)).bind λe=>bif !e then some (.inr false)else a (b,c,i64.wrap (d+1))else some (.inl ())
def uH:=DX A3M fuel
def fO:DM->Option (Bool):=λa=>(uH (a,a.length,0)).bind λb=>match b with|.inl _=>some (!DR a [])|.inr a=>a
def A3N:Rd (DW×DW×Int×Int) G_:=λa (b,c,d,e)=>bif e<d then(at? c e).bind λf=>(fO f.1).bind λg=>bif !g then some (.inr 8)else bif DR f.2 []then some (.inr 2)else(bif 0<e then at? b (i64.wrap (e-1))else some ([],[])).bind λg=>bif 0<e&&(Op.bytesLess f.1 g.1||DR f.1 g.1)then some (.inr 10)else a (b,c,d,i64.wrap (e+1))else some (.inl ())
def uI:=DX A3N fuel
def fP:List (DM×DM)->Option (Int):=λa=>(uI (a,a,a.length,0)).bind λa=>match a with|.inl _=>some 0|.inr a=>a
def A3O:Rd ER JK:=λa (b,c,d)=>bif d<c then(at? b d).bind λe=>(bif !((e.toNat:Int)<32)then at? b d else some 0).bind λf=>bif (e.toNat:Int)<32||DQ f.toNat 127 then some (.inr true)else a (b,c,i64.wrap (d+1))else some (.inl ())
def uJ:=DX A3O fuel
def YU:DM->Option (Bool):=λa=>(uJ (a,a.length,0)).bind λa=>match a with|.inl _=>some false|.inr a=>a
def A3P:Rd ((List DM)×Int×Int) G_:=λa (b,c,d)=>bif d<c then(at? b d).bind λe=>(YU e).bind λe=>bif e then some (.inr 8)else a (b,c,i64.wrap (d+1))else some (.inl ())
def uK:=DX A3P fuel
def A3Q:Rd (DW×Int×Int) G_:=λa (b,c,d)=>bif d<c then(at? b d).bind λe=>(YU e.2).bind λe=>bif e then some (.inr 8)else a (b,c,i64.wrap (d+1))else some (.inl ())
def uL:=DX A3Q fuel
def KQ:DM×DM×DM×DM×DW×DM->Option (Int):=λa=>(VI a.1).bind λb=>bif !DQ b.2 0 then b.2 else(fN a).bind λc=>bif c then some 3 else bif !DR a.2.1 []&&DQ b.1.2.1 1||DR a.2.1 []&&DQ b.1.2.1 3 then some 2 else(TB a.2.1).bind λb=>(YS (b,false)).bind λb=>bif b then some 2 else(bif !DR a.2.2.1 []then strings_IndexByte (a.2.2.1,47)else some 0).bind λb=>bif DR a.2.2.1 []||0<=b then some 8 else(fP a.2.2.2.2.1).bind λb=>bif !DQ b 0 then b else(TB a.2.2.2.2.2).bind λb=>(YS (b,true)).bind λb=>bif b then some 2 else let b:=[a.2.1,a.2.2.1,a.2.2.2.1,a.2.2.2.2.2];(uK (b,b.length,0)).bind λb=>match b with|.inl _=>((uL (a.2.2.2.2.1,a.2.2.2.2.1.length,0)).bind λa=>match a with|.inl _=>some 0|.inr a=>a)|.inr a=>a
def YV:Int->Option (Int):=λa=>bif 48<=a&&a<=57 then some (i64.wrap (u8.wrap (a-48)))else bif 97<=a&&a<=102 then some (i64.wrap (i64.wrap (u8.wrap (a-97))+10))else bif 65<=a&&a<=70 then some (i64.wrap (i64.wrap (u8.wrap (a-65))+10))else some (-1)
def fQ:Rd ER JK:=λa (b,c,d)=>bif d<c then(at? b d).bind λe=>(YV e.toNat).bind λe=>(bif !(e<0)then at? b d else some 0).bind λf=>(bif !(e<0)&&65<=(f.toNat:Int)then at? b d else some 0).bind λg=>bif e<0||65<=(f.toNat:Int)&&(g.toNat:Int)<=70 then some (.inr false)else a (b,c,i64.wrap (d+1))else some (.inl ())
def A3R:=DX fQ fuel
def fR:DM×Int->Option (Bool):=λ(a,b)=>(A3R (a,a.length,0)).bind λc=>match c with|.inl _=>some (DQ a.length b)|.inr a=>a
def uM:Int×Bool->Option (Int):=λ(a,b)=>bif b then some 16 else a
def fS:Rd (DW×DW×Int×Int) G_:=λa (b,c,d,e)=>bif e<d then(at? c e).bind λf=>(uM (64,DR f.1 [115,117,109,54,52])).bind λg=>bif !DR f.1 [115,104,97,50,53,54]&&!DR f.1 [115,117,109,54,52]then some (.inr 7)else(fR (f.2,g)).bind λg=>bif !g then some (.inr 2)else(bif 0<e then at? b (i64.wrap (e-1))else some ([],[])).bind λg=>bif 0<e&&(Op.bytesLess f.1 g.1||DR f.1 g.1)then some (.inr 10)else a (b,c,d,i64.wrap (e+1))else some (.inl ())
def A3S:=DX fS fuel
def fT:List (DM×DM)->Option (Int):=λa=>bif 4<(a.length:Int)then some 3 else(A3S (a,a,a.length,0)).bind λa=>match a with|.inl _=>some 0|.inr a=>a
def fU:Rd ((List DM)×RT×(List DM)×Int×Int) G_:=λa (b,c,d,e,f)=>bif f<e then(at? d f).bind λg=>(VH (g,200)).bind λh=>bif !h then some (.inr 8)else(bif !c.1&&0<f then at? b (i64.wrap (f-1))else some []).bind λh=>bif !c.1&&0<f&&(Op.bytesLess g h||DR g h)then some (.inr 10)else a (b,c,d,e,i64.wrap (f+1))else some (.inl ())
def A3T:=DX fU fuel
def YW:RT×(List DM)->Option (Int):=λ(a,b)=>bif 100<(b.length:Int)then some 3 else(A3T (b,a,b,b.length,0)).bind λa=>match a with|.inl _=>some 0|.inr a=>a
def fV:Rd (GU×Int×Int) (Sum GU (Int)):=λa (b,c,d)=>bif d<c then(at? b.2.2.2.1 d).bind λe=>(bif !((e.toNat:Int)<32)then at? b.2.2.2.1 d else some 0).bind λf=>bif (e.toNat:Int)<32||126<(f.toNat:Int)then some (.inr 2)else a (b,c,i64.wrap (d+1))else some (.inl b)
def A3U:=DX fV fuel
def fW:RT×GU->Option (Int):=λ(a,b)=>(VH (b.1,100)).bind λc=>bif !c then some 8 else(KQ b.2.1).bind λc=>bif !DQ c 0 then c else(fT b.2.2.1).bind λc=>bif !DQ c 0 then c else(A3U (b,b.2.2.2.1.length,0)).bind λb=>match b with|.inl b=>bif !DR b.2.2.2.1 []then(uC b.2.2.2.1).bind λc=>bif !DQ c.2.2 0 then c.2.2 else(YW (a,b.2.2.2.2)).bind λc=>c else(YW (a,b.2.2.2.2)).bind λa=>a|.inr a=>a
def VJ:DM->Option (Bool):=λa=>some (!DR a a)
def LP:DM×DM->Option (Int):=λ(a,b)=>(VJ a).bind λc=>(VJ b).bind λd=>bif c then bif d then some 0 else some (-1)else bif d then some 1 else bif Op.bytesLess a b then some (-1)else bif !(Op.bytesLess a b||DR a b)then some 1 else some 0
def fX:Int->Option (Bool):=λa=>some (!DQ a a)
def PZ:Int×Int->Option (Int):=λ(a,b)=>(fX a).bind λc=>(fX b).bind λd=>bif c then bif d then some 0 else some (-1)else bif d then some 1 else bif a<b then some (-1)else bif b<a then some 1 else some 0
def fY:Rd (Int×(List Int)×Int×Int) G_:=λa (b,c,d,e)=>bif e<d then(at? c e).bind λf=>bif !DQ f b then some (.inr f)else a (b,c,d,i64.wrap (e+1))else some (.inl ())
def fZ:=DX fY fuel
def RU:List Int->Option (Int):=λa=>(fZ (0,a,a.length,0)).bind λa=>match a with|.inl _=>some 0|.inr a=>a
def YX:GG×GG->Option (Int):=λ(a,b)=>(LP (a.1,b.1)).bind λc=>(LP (a.2.1,b.2.1)).bind λd=>(PZ (a.2.2,b.2.2)).bind λa=>(RU [c,d,a]).bind λa=>a
def f_:Rd ((List GG)×RT×(List GG)×Int×Int) G_:=λa (b,c,d,e,f)=>bif f<e then(at? d f).bind λg=>bif g.2.2<1||4<g.2.2 then some (.inr 9)else bif !(DZ DR g.1 c.2).getD false||!(DZ DR g.2.1 c.2).getD false then some (.inr 4)else bif DR g.1 g.2.1 then some (.inr 2)else(bif !c.1&&0<f then at? b (i64.wrap (f-1))else some ([],[],0)).bind λh=>(bif !c.1&&0<f then YX (h,g)else some 0).bind λg=>bif !c.1&&0<f&&0<=g then some (.inr 10)else a (b,c,d,e,i64.wrap (f+1))else some (.inl ())
def A3V:=DX f_ fuel
def uN:RT×(List GG)->Option (Int):=λ(a,b)=>(A3V (b,a,b,b.length,0)).bind λa=>match a with|.inl _=>some 0|.inr a=>a
def gA:Rd (RT×H7×(List GU)×Int×Int) (Sum (RT×H7) (Int)):=λa (b,c,d,e,f)=>bif f<e then(at? d f).bind λg=>(fW ((b.1,b.2),g)).bind λh=>bif !DQ h 0 then some (.inr h)else(bif !b.1&&0<f then at? c.2.2.2.1 (i64.wrap (f-1))else some ([],([],[],[],[],[],[]),[],[],[])).bind λh=>bif !b.1&&0<f&&(Op.bytesLess g.1 h.1||DR g.1 h.1)then some (.inr 10)else a ((b.1,ED DR g.1 true b.2),c,d,e,i64.wrap (f+1))else some (.inl ((b.1,b.2),c))
def A3W:=DX gA fuel
def uO:RT×H7->Option (Int):=λ(a,b)=>(bif !DR b.1 []then TA b.1 else some false).bind λc=>(bif !(DR b.1 []||!c)then TA b.2.1 else some false).bind λd=>bif DR b.1 []||!c||!d then some 8 else bif 3000<(b.2.2.2.1.length:Int)||20000<(b.2.2.2.2.length:Int)then some 3 else(A3W ((a.1,a.2),b,b.2.2.2.1,b.2.2.2.1.length,0)).bind λa=>match a with|.inl a=>bif !(DZ DR a.2.2.2.1 a.1.2).getD false then some 4 else(uN ((a.1.1,a.1.2),a.2.2.2.2.2)).bind λa=>a|.inr a=>a
def VK:DM×DM×DM×(List GU)×(List GG)->Option (Int):=λa=>(uO ((false,[]),a)).bind λa=>a
def A3X:Rd ER JK:=λa (b,c,d)=>bif d<c then(at? b d).bind λe=>bif !(97<=(e.toNat:Int)&&(e.toNat:Int)<=122||65<=(e.toNat:Int)&&(e.toNat:Int)<=90||48<=(e.toNat:Int)&&(e.toNat:Int)<=57||DQ e.toNat 46||DQ e.toNat 45||DQ e.toNat 95)then some (.inr false)else a (b,c,i64.wrap (d+1))else some (.inl ())
def uP:=DX A3X fuel
def VL:DM->Option (Bool):=λa=>(uP (a,a.length,0)).bind λb=>match b with|.inl _=>some (!DR a []&&(a.length:Int)<=60)|.inr a=>a
def A3Y:Rd (GN×(List DM)×Int×Int) G_:=λa (b,c,d,e)=>bif e<d then(at? c e).bind λf=>(VL f).bind λg=>bif !g then some (.inr 8)else bif DR f b.1 then some (.inr 5)else(bif 0<e then at? b.2.1 (i64.wrap (e-1))else some []).bind λg=>bif 0<e&&(Op.bytesLess f g||DR f g)then some (.inr 10)else a (b,c,d,i64.wrap (e+1))else some (.inl ())
def uQ:=DX A3Y fuel
def gB:DM×(List DM)×DM×Int×Bool×DM×(List GP)->Option (Int):=λa=>bif 20<(a.2.1.length:Int)then some 3 else(uQ (a,a.2.1,a.2.1.length,0)).bind λa=>match a with|.inl _=>some 0|.inr a=>a
def gC:Unit->Option (List HX):=λ_=>let a:=ED DQ 76 22 (ED DQ 72 56 []);some [ED DQ 80 20 (ED DQ 76 55 (ED DQ 65 62 (ED DQ 78 85 []))),ED DQ 72 44 (ED DQ 76 77 []),ED DQ 72 27 (ED DQ 76 62 (ED DQ 78 85 [])),ED DQ 78 0 a,ED DQ 78 0 a,ED DQ 78 0 a]
def uR:Rd (DM×(List Int)×(List HX)×Int) (Sum (List Int) (Int×Int)):=λa (b,c,d,e)=>bif e<6 then(at? d e).bind λf=>(at? b e).bind λg=>bif !(DZ DQ g.toNat f).isSome then some (.inr (0,7))else(in? 6 e).bind λ_=>a (b,c.set e.toNat ((DZ DQ g.toNat f).getD 0),d,i64.wrap (e+1))else some (.inl c)
def gD:=DX uR fuel
def TC:DM->Option (Int×Int):=λa=>(gC ()).bind λb=>bif !DQ a.length 6 then some (0,2)else(gD (a,List.replicate 6 0,b,0)).bind λa=>match a with|.inl a=>let b:=i64.wrap (i64.wrap (i64.wrap (100-a.getD 3 0)*i64.wrap (100-a.getD 4 0))*i64.wrap (100-a.getD 5 0));bif DQ (i64.wrap (1000000-b)) 0 then some (0,0)else(div? i64 (i64.wrap (i64.wrap (i64.wrap (10*i64.wrap (i64.wrap (642*i64.wrap (1000000-b))+i64.wrap (i64.wrap (i64.wrap (822*a.getD 0 0)*a.getD 1 0)*a.getD 2 0)))+100000000)-1)) 100000000).bind λa=>some (XY 100 a,0)|.inr a=>(a.1,a.2)
def A3Z:Rd ((List Int)×Int×Int) (List Int):=λa (b,c,d)=>bif d<c then(in? b.length d).bind λ_=>bif 65<=b.getD d.toNat 0&&b.getD d.toNat 0<=90 then(in? b.length d).bind λ_=>a (b.set d.toNat (u8.wrap (u8.wrap (b.getD d.toNat 0+97)-65)),c,i64.wrap (d+1))else a (b,c,i64.wrap (d+1))else b
def uS:=DX A3Z fuel
def TD:DM->Option DM:=λa=>(uS (FX a,((FX a).length:Int),0)).bind λa=>(cat? [] (IL a)).bind λa=>a
def M_:ER×Int->Option ER:=λ(a,b)=>bif a.2.2<0 then(a.1,a.2.1,b)else a
def L2:Option ER->Option (Int):=λa=>(a).bind λb=>(a).bind λc=>bif b.2.1<c.1.length then(a).bind λb=>(a).bind λa=>(at? b.1 a.2.1).bind λa=>some a.toNat else some 0
def YY:Int->Option (Bool):=λa=>some (97<=a&&a<=122||65<=a&&a<=90)
def A3_:Rd (ER×Int) (Sum ER (ER×DM)):=λa (b,c)=>bif c<4 then(bif !(b.1.length<=c)then cut? b.1 c (i64.wrap (c+1))else some []).bind λd=>(bif !(b.1.length<=c)then TD d else some []).bind λd=>(bif !(b.1.length<=c)then cut? [112,107,103,58] c (i64.wrap (c+1))else some []).bind λe=>bif b.1.length<=c||!DR d e then(M_ (b,c)).bind λd=>some (.inr (d,[]))else a (b,i64.wrap (c+1))else some (.inl b)
def uT:=DX A3_ fuel
def A3a:Rd ER ER:=λa b=>(bif b.2.1<b.1.length then at? b.1 b.2.1 else some 0).bind λc=>(bif b.2.1<b.1.length then YY c.toNat else some false).bind λc=>bif b.2.1<b.1.length&&c then a (b.1,i64.wrap (b.2.1+1),b.2.2)else b
def uU:=DX A3a fuel
def gE:ER×Bool->Option ER:=λ(a,b)=>bif b then some (a.1,i64.wrap (a.2.1+1),a.2.2)else(uU a).bind λa=>a
def YZ:ER×Bool->Option (DM×ER):=λ(a,b)=>(uT (a,0)).bind λa=>match a with|.inl a=>(bif b then L2 (some (a.1,4,a.2.2))else some 0).bind λc=>(gE ((a.1,4,a.2.2),b&&DQ c 42)).bind λa=>(cut? a.1 4 a.2.1).bind λb=>(bif !DR b []then L2 (some a)else some 0).bind λc=>bif DR b []||!DQ c 47 then(M_ (a,a.2.1)).bind λc=>some ([],c)else(TD b).bind λb=>some (b,a.1,i64.wrap (a.2.1+1),a.2.2)|.inr a=>(a.2,a.1)
def gF:ER×Int×Int×Bool->Option (ER×Int):=λ(a,b,c,d)=>bif d then(at? a.1 (i64.wrap (a.2.1+b))).bind λb=>(YV b.toNat).bind λb=>(a,b)else(a,c)
def A3b:Rd (ER×Int×Int) (Sum (ER×Int) (ER×Int×Bool)):=λa (b,c,d)=>bif d<=2 then(gF (b,d,-1,i64.wrap (b.2.1+d)<b.1.length)).bind λe=>bif e.2<0 then(M_ (e.1,i64.wrap (e.1.2.1+d))).bind λf=>some (.inr (f,0,false))else a (e.1,i64.wrap (i64.wrap (16*c)+e.2),i64.wrap (d+1))else some (.inl (b,c))
def uV:=DX A3b fuel
def Y_:DM×Int×Int->Option (Int×Bool×ER):=λa=>bif a.1.length<=a.2.1 then some (0,false,a)else(at? a.1 a.2.1).bind λb=>bif !DQ b.toNat 37 then let c:=((b.toNat:Int)<33||126<(b.toNat:Int));(bif !c then strings_IndexByte ([47,64,63,35,38,61],b.toNat)else some 0).bind λd=>bif c||0<=d then some (0,false,a)else some (b.toNat,true,a.1,i64.wrap (a.2.1+1),a.2.2)else(uV (a,0,1)).bind λa=>match a with|.inl a=>some (u8.wrap a.2,true,a.1.1,i64.wrap (a.1.2.1+3),a.1.2.2)|.inr a=>(a.2.1,a.2.2,a.1)
def A3c:Rd (ER×(List Int)) (ER×(List Int)):=λa (b,c)=>bif b.2.2<0 then(Y_ b).bind λd=>bif !d.2.1 then(d.2.2,c)else(app? 24 c [d.1]).bind λe=>a (d.2.2,e)else(b,c)
def uW:=DX A3c fuel
def TE:DM×Int×Int->Option (DM×ER):=λa=>(uW (a,[])).bind λa=>bif DQ a.2.length 0 then(M_ (a.1,a.1.2.1)).bind λb=>(cat? [] (IL a.2)).bind λc=>(c,b)else(cat? [] (IL a.2)).bind λb=>(b,a.1)
def A3d:Rd (ER×(List DM)) (ER×(List DM)):=λa (b,c)=>(bif b.2.2<0 then L2 (some b)else some 0).bind λd=>bif b.2.2<0&&DQ d 47 then(TE (b.1,i64.wrap (b.2.1+1),b.2.2)).bind λd=>(app? 24 c [d.1]).bind λe=>a (d.2,e)else(b,c)
def uX:=DX A3d fuel
def Z0:DM×Int×Int->Option ((List DM)×ER):=λa=>(TE a).bind λa=>(uX (a.2,[a.1])).bind λa=>(a.2,a.1)
def A3e:Rd (ER×Int) ER:=λa (b,c)=>(bif b.2.1<b.1.length then at? b.1 b.2.1 else some 0).bind λd=>(bif b.2.1<b.1.length then YT (d.toNat,DQ b.2.1 c)else some false).bind λd=>bif b.2.1<b.1.length&&d then a ((b.1,i64.wrap (b.2.1+1),b.2.2),c)else b
def uY:=DX A3e fuel
def gG:DM×Int×Int->Option ((DM×DM)×ER):=λa=>(uY (a,a.2.1)).bind λb=>(cut? b.1 a.2.1 b.2.1).bind λa=>(bif !DR a []then L2 (some b)else some 0).bind λc=>bif DR a []||!DQ c 61 then(M_ (b,b.2.1)).bind λc=>some (([],[]),c)else(TE (b.1,i64.wrap (b.2.1+1),b.2.2)).bind λb=>some ((a,b.1),b.2)
def gH:ER×IA×Bool->Option (ER×IA):=λ(a,b,c)=>bif c then(TE (a.1,i64.wrap (a.2.1+1),a.2.2)).bind λc=>(c.2,b.1,b.2.1,b.2.2.1,c.1,b.2.2.2.2.1,b.2.2.2.2.2)else(a,b.1,b.2.1,b.2.2.1,b.2.2.2.1,b.2.2.2.2.1,b.2.2.2.2.2)
def A3f:Rd (ER×IA×Int) (ER×IA):=λa (b,c,d)=>let e:=(b.2.2<0&&b.2.1<b.1.length);(bif e then L2 (some b)else some 0).bind λf=>bif e&&DQ f d then(gG (b.1,i64.wrap (b.2.1+1),b.2.2)).bind λd=>(app? 48 c.2.2.2.2.1 [d.1]).bind λe=>a (d.2,(c.1,c.2.1,c.2.2.1,c.2.2.2.1,e,c.2.2.2.2.2),38)else(b,c.1,c.2.1,c.2.2.1,c.2.2.2.1,c.2.2.2.2.1,c.2.2.2.2.2)
def uZ:=DX A3f fuel
def gI:ER×IA×Bool->Option (ER×IA):=λ(a,b,c)=>bif c then(Z0 (a.1,i64.wrap (a.2.1+1),a.2.2)).bind λc=>(strings_Join (c.1,[47])).bind λd=>(c.2,b.1,b.2.1,b.2.2.1,b.2.2.2.1,b.2.2.2.2.1,d)else(a,b.1,b.2.1,b.2.2.1,b.2.2.2.1,b.2.2.2.2.1,b.2.2.2.2.2)
def gJ:DM×Int×Int->Option (IA×ER):=λa=>(YZ (a,false)).bind λa=>bif 0<=a.2.2.2 then some ((a.1,[],[],[],[],[]),a.2)else(Z0 a.2).bind λb=>(cut? b.1 0 (i64.wrap (b.1.length-1))).bind λc=>(strings_Join (c,[47])).bind λc=>(at? b.1 (i64.wrap (b.1.length-1))).bind λd=>(bif b.2.2.2<0 then L2 (some b.2)else some 0).bind λe=>(gH (b.2,(a.1,c,d,[],[],[]),(b.2.2.2<0)&&DQ e 64)).bind λa=>(uZ (a.1,(a.2.1,a.2.2.1,a.2.2.2.1,a.2.2.2.2.1,a.2.2.2.2.2.1,a.2.2.2.2.2.2),63)).bind λa=>(bif a.1.2.2<0 then L2 (some a.1)else some 0).bind λb=>(gI (a.1,(a.2.1,a.2.2.1,a.2.2.2.1,a.2.2.2.2.1,a.2.2.2.2.2.1,a.2.2.2.2.2.2),(a.1.2.2<0)&&DQ b 35)).bind λa=>bif a.1.2.2<0&&a.1.2.1<a.1.1.length then(M_ (a.1,a.1.2.1)).bind λb=>some ((a.2.1,a.2.2.1,a.2.2.2.1,a.2.2.2.2.1,a.2.2.2.2.2.1,a.2.2.2.2.2.2),b)else some ((a.2.1,a.2.2.1,a.2.2.2.1,a.2.2.2.2.1,a.2.2.2.2.2.1,a.2.2.2.2.2.2),a.1)
def A3g:Rd (DW×Int×FJ×Int) DW:=λa (b,c,d,e)=>(bif c<e then in? b.length e else some ()).bind λ_=>(bif c<e then in? b.length (i64.wrap (e-1))else some ()).bind λ_=>(bif c<e then d (b.getD e.toNat ([],[]),b.getD ((i64.wrap (e-1)).toNat) ([],[]))else some 0).bind λf=>bif c<e&&f<0 then(in? b.length (i64.wrap (e-1))).bind λ_=>let f:=b.getD ((i64.wrap (e-1)).toNat) ([],[]);(in? b.length e).bind λ_=>(in? b.length e).bind λ_=>(in? (b.set e.toNat f).length (i64.wrap (e-1))).bind λ_=>a ((b.set e.toNat f).set ((i64.wrap (e-1)).toNat) (b.getD e.toNat ([],[])),c,d,i64.wrap (e-1))else b
def u_:=DX A3g fuel
def A3h:Rd (DW×Int×Int×FJ×Int) DW:=λa (b,c,d,e,f)=>bif f<d then(u_ (b,c,e,f)).bind λg=>a (g,c,d,e,i64.wrap (f+1))else b
def vA:=DX A3h fuel
def ZA:DW×Int×Int×FJ->Option DW:=λ(a,b,c,d)=>(vA (a,b,c,d,i64.wrap (b+1))).bind λa=>a
def A3i:Rd (DW×Int×Int×Int×Int) DW:=λa (b,c,d,e,f)=>bif f<e then(in? b.length (i64.wrap (d+f))).bind λ_=>let g:=b.getD ((i64.wrap (d+f)).toNat) ([],[]);(in? b.length (i64.wrap (c+f))).bind λ_=>(in? b.length (i64.wrap (c+f))).bind λ_=>(in? (b.set ((i64.wrap (c+f)).toNat) g).length (i64.wrap (d+f))).bind λ_=>a ((b.set ((i64.wrap (c+f)).toNat) g).set ((i64.wrap (d+f)).toNat) (b.getD ((i64.wrap (c+f)).toNat) ([],[])),c,d,e,i64.wrap (f+1))else b
def vB:=DX A3i fuel
def VM:DW×Int×Int×Int×FJ->Option DW:=λ(a,b,c,d,_)=>(vB (a,b,c,d,0)).bind λa=>a
def A3j:Rd (DW×Int×FJ×Int×Int) (DW×Int):=λa (b,c,d,e,f)=>bif !DQ e f then bif f<e then(VM (b,i64.wrap (c-e),c,f,d)).bind λg=>a (g,c,d,i64.wrap (e-f),f)else(VM (b,i64.wrap (c-e),i64.wrap (i64.wrap (c+f)-e),e,d)).bind λg=>a (g,c,d,e,i64.wrap (f-e))else(b,e)
def vC:=DX A3j fuel
def gK:DW×Int×Int×Int×FJ->Option DW:=λ(a,b,c,d,e)=>(vC (a,c,e,i64.wrap (c-b),i64.wrap (d-c))).bind λa=>(VM (a.1,i64.wrap (c-a.2),c,a.2,e)).bind λa=>a
def A3k(slf:DW×Int×Int×Int×FJ->Option DW)(a:DW×Int×FJ×Int×Int->Option (DW×Int)):DW×Int×FJ×Int×Int->Option (DW×Int):=λ(b,c,d,e,f)=>bif e<f then(shr? u64 (u64.wrap (i64.wrap (e+f))) 1).bind λg=>(in? b.length (i64.wrap g)).bind λ_=>(in? b.length c).bind λ_=>(d (b.getD ((i64.wrap g).toNat) ([],[]),b.getD c.toNat ([],[]))).bind λh=>bif h<0 then a (b,c,d,i64.wrap (i64.wrap g+1),f)else a (b,c,d,e,i64.wrap g)else(b,e)
def vD(slf:DW×Int×Int×Int×FJ->Option DW):DW×Int×FJ×Int×Int->Option (DW×Int):=DX (A3k slf) fuel
def A3l(slf:DW×Int×Int×Int×FJ->Option DW)(a:DW×Int×Int->Option DW):DW×Int×Int->Option DW:=λ(b,c,d)=>bif d<i64.wrap (c-1)then(in? b.length (i64.wrap (d+1))).bind λ_=>let e:=b.getD ((i64.wrap (d+1)).toNat) ([],[]);(in? b.length d).bind λ_=>(in? b.length d).bind λ_=>(in? (b.set d.toNat e).length (i64.wrap (d+1))).bind λ_=>a ((b.set d.toNat e).set ((i64.wrap (d+1)).toNat) (b.getD d.toNat ([],[])),c,i64.wrap (d+1))else b
def vE(slf:DW×Int×Int×Int×FJ->Option DW):DW×Int×Int->Option DW:=DX (A3l slf) fuel
def A3m(slf:DW×Int×Int×Int×FJ->Option DW)(a:DW×Int×FJ×Int×Int->Option (DW×Int)):DW×Int×FJ×Int×Int->Option (DW×Int):=λ(b,c,d,e,f)=>bif e<f then(shr? u64 (u64.wrap (i64.wrap (e+f))) 1).bind λg=>(in? b.length c).bind λ_=>(in? b.length (i64.wrap g)).bind λ_=>(d (b.getD c.toNat ([],[]),b.getD ((i64.wrap g).toNat) ([],[]))).bind λh=>bif !(h<0)then a (b,c,d,i64.wrap (i64.wrap g+1),f)else a (b,c,d,e,i64.wrap g)else(b,e)
def vF(slf:DW×Int×Int×Int×FJ->Option DW):DW×Int×FJ×Int×Int->Option (DW×Int):=DX (A3m slf) fuel
def A3n(slf:DW×Int×Int×Int×FJ->Option DW)(a:DW×Int×Int->Option DW):DW×Int×Int->Option DW:=λ(b,c,d)=>bif c<d then(in? b.length (i64.wrap (d-1))).bind λ_=>let e:=b.getD ((i64.wrap (d-1)).toNat) ([],[]);(in? b.length d).bind λ_=>(in? b.length d).bind λ_=>(in? (b.set d.toNat e).length (i64.wrap (d-1))).bind λ_=>a ((b.set d.toNat e).set ((i64.wrap (d-1)).toNat) (b.getD d.toNat ([],[])),c,i64.wrap (d-1))else b
def vG(slf:DW×Int×Int×Int×FJ->Option DW):DW×Int×Int->Option DW:=DX (A3n slf) fuel
def gL(slf:DW×Int×Int×Int×FJ->Option DW):Int×Int×Int×Int×Int×Bool->Option (Int×Int):=λ(a,b,c,d,e,f)=>bif f then some (i64.wrap (e-c),d)else(a,b)
def A3o(slf:DW×Int×Int×Int×FJ->Option DW)(a:DW×FJ×Int×Int×Int->Option (DW×Int)):DW×FJ×Int×Int×Int->Option (DW×Int):=λ(b,c,d,e,f)=>bif d<e then(shr? u64 (u64.wrap (i64.wrap (d+e))) 1).bind λg=>(in? b.length (i64.wrap (f-i64.wrap g))).bind λ_=>(in? b.length (i64.wrap g)).bind λ_=>(c (b.getD ((i64.wrap (f-i64.wrap g)).toNat) ([],[]),b.getD ((i64.wrap g).toNat) ([],[]))).bind λh=>bif !(h<0)then a (b,c,i64.wrap (i64.wrap g+1),e,f)else a (b,c,d,i64.wrap g,f)else(b,d)
def vH(slf:DW×Int×Int×Int×FJ->Option DW):DW×FJ×Int×Int×Int->Option (DW×Int):=DX (A3o slf) fuel
def gM(slf:DW×Int×Int×Int×FJ->Option DW):DW×Int×FJ×Int×Int×Bool->Option DW:=λ(a,b,c,d,e,f)=>bif f then(gK (a,d,b,e,c)).bind λb=>b else a
def gN(slf:DW×Int×Int×Int×FJ->Option DW):DW×Int×FJ×Int×Int×Bool->Option DW:=λ(a,b,c,d,e,f)=>bif f then(slf (a,b,e,d,c)).bind λb=>b else a
def vI(slf:DW×Int×Int×Int×FJ->Option DW):DW×Int×Int×Int×FJ->Option DW:=λ(a,b,c,d,e)=>bif DQ (i64.wrap (c-b)) 1 then(vD slf (a,b,e,c,d)).bind λf=>(vE slf (f.1,f.2,b)).bind λf=>f else bif DQ (i64.wrap (d-c)) 1 then(vF slf (a,c,e,b,c)).bind λf=>(vG slf (f.1,f.2,c)).bind λf=>f else(shr? u64 (u64.wrap (i64.wrap (b+d))) 1).bind λf=>(gL slf (b,c,d,i64.wrap f,i64.wrap (i64.wrap f+c),i64.wrap f<c)).bind λg=>(vH slf (a,e,g.1,g.2,i64.wrap (i64.wrap (i64.wrap f+c)-1))).bind λa=>let g:=i64.wrap (i64.wrap (i64.wrap f+c)-a.2);(gM slf (a.1,c,e,a.2,g,(a.2<c)&&c<g)).bind λc=>(gN slf (c,b,e,i64.wrap f,a.2,(b<a.2)&&a.2<i64.wrap f)).bind λa=>bif i64.wrap f<g&&g<d then(slf (a,i64.wrap f,g,d,e)).bind λb=>b else a
def M8:Nat->DW×Int×Int×Int×FJ->Option DW
 |0=>λ_=>none
 |n+1=>vI (M8 n)
def ZB:DW×Int×Int×Int×FJ->Option DW:=M8 100
def A3p:Rd (DW×Int×FJ×Int×Int×Int) (DW×Int):=λa (b,c,d,e,f,g)=>bif g<=c then(ZA (b,f,g,d)).bind λh=>a (h,c,d,e,g,i64.wrap (g+e))else(b,f)
def vJ:=DX A3p fuel
def A3q:Rd (DW×Int×FJ×Int×Int×Int) (DW×Int):=λa (b,c,d,e,f,g)=>bif g<=c then(ZB (b,f,i64.wrap (f+e),g,d)).bind λh=>a (h,c,d,e,g,i64.wrap (g+i64.wrap (2*e)))else(b,f)
def vK:=DX A3q fuel
def A3r:Rd (DW×Int×FJ×Int) DW:=λa (b,c,d,e)=>bif e<c then(vK (b,c,d,e,0,i64.wrap (2*e))).bind λf=>bif i64.wrap (f.2+e)<c then(ZB (f.1,f.2,i64.wrap (f.2+e),c,d)).bind λg=>a (g,c,d,i64.wrap (e*2))else a (f.1,c,d,i64.wrap (e*2))else b
def vL:=DX A3r fuel
def gO:DW×Int×FJ->Option DW:=λ(a,b,c)=>(vJ (a,b,c,20,0,20)).bind λa=>(ZA (a.1,a.2,b,c)).bind λa=>(vL (a,b,c,20)).bind λa=>a
def gP:DW×FJ->Option DW:=λ(a,b)=>(gO (a,a.length,b)).bind λa=>a
def gQ:(DM×DM)×(DM×DM)->Option (Int):=λ(a,b)=>(LP (a.1,b.1)).bind λa=>a
def ZC:Int->Option (Bool):=λa=>some (DQ a 45||DQ a 95||DQ a 46)
def OL:(List Int)×Int->Option (Unit×(List Int)):=λ(a,b)=>(fD a).bind λa=>(app? 24 a [b]).bind λa=>some ((),a)
def A3s:Rd (DM×(List Int)×Int×Int) (List Int):=λa (b,c,d,e)=>bif e<d then(at? b e).bind λf=>(ZC f.toNat).bind λf=>bif !f then(at? b e).bind λf=>(OL (c,f.toNat)).bind λf=>a (b,f.2,d,i64.wrap (e+1))else(bif !DQ e 0 then at? b (i64.wrap (e-1))else some 0).bind λf=>(bif !DQ e 0 then ZC f.toNat else some false).bind λf=>bif DQ e 0||!f then(OL (c,45)).bind λf=>a (b,f.2,d,i64.wrap (e+1))else a (b,c,d,i64.wrap (e+1))else c
def vM:=DX A3s fuel
def gR:DM->Option DM:=λa=>(vM (a,[],a.length,0)).bind λa=>(PQ a).bind λa=>a
def gS:I4×Bool->Option I4:=λ(a,b)=>bif b then(TD a.2.1).bind λb=>(TD a.2.2.1).bind λc=>(a.1,b,c,a.2.2.2)else a
def TF:DM×DM×DM×DM×DW×DM->Option I4:=λa=>(VI a.1).bind λb=>(gS (a,b.1.2.2.1)).bind λa=>bif b.1.2.2.2.1 then(gR a.2.2.1).bind λb=>(app? 48 [] a.2.2.2.2.1).bind λc=>(a.1,a.2.1,b,a.2.2.2.1,c,a.2.2.2.2.2)else(app? 48 [] a.2.2.2.2.1).bind λb=>(a.1,a.2.1,a.2.2.1,a.2.2.2.1,b,a.2.2.2.2.2)
def A3t:Rd (I4×IA×Int) (Sum (I4×IA) (I4×Int×Int)):=λa (b,c,d)=>bif d<c.2.2.2.2.1.length then(in? c.2.2.2.2.1.length d).bind λ_=>(in? c.2.2.2.2.1.length (i64.wrap (d-1))).bind λ_=>bif DR ((c.2.2.2.2.1.getD d.toNat ([],[])).1) ((c.2.2.2.2.1.getD ((i64.wrap (d-1)).toNat) ([],[])).1)then some (.inr (([],[],[],[],[],[]),0,5))else a (b,(c.1,c.2.1,c.2.2.1,c.2.2.2.1,c.2.2.2.2.1,c.2.2.2.2.2),i64.wrap (d+1))else some (.inl (b,c.1,c.2.1,c.2.2.1,c.2.2.2.1,c.2.2.2.2.1,c.2.2.2.2.2))
def vN:=DX A3t fuel
def VN:DM->Option (I4×Int×Int):=λa=>bif 3000<(a.length:Int)then some (([],[],[],[],[],[]),0,3)else(gJ (a,0,-1)).bind λa=>bif 0<=a.2.2.2 then some (([],[],[],[],[],[]),a.2.2.2,6)else(gP (a.1.2.2.2.2.1,λx=>(gQ x).bind λr=>r)).bind λb=>(vN (([],[],[],[],[],[]),(a.1.1,a.1.2.1,a.1.2.2.1,a.1.2.2.2.1,b,a.1.2.2.2.2.2),1)).bind λa=>match a with|.inl a=>(KQ (a.2.1,a.2.2.1,a.2.2.2.1,a.2.2.2.2.1,a.2.2.2.2.2.1,a.2.2.2.2.2.2)).bind λb=>bif !DQ b 0 then some (([],[],[],[],[],[]),0,b)else(TF (a.2.1,a.2.2.1,a.2.2.2.1,a.2.2.2.2.1,a.2.2.2.2.2.1,a.2.2.2.2.2.2)).bind λa=>some (a,0,0)|.inr a=>(a.1,a.2.1,a.2.2)
def RV:(List Int)×DM->Option (Int×Unit×(List Int)):=λ(a,b)=>(fD a).bind λa=>(app? 24 a (FX b)).bind λa=>some (b.length,(),a)
def A3u:Rd (DM×(List Int)×Int×Int) (List Int):=λa (b,c,d,e)=>bif e<d then(at? b e).bind λf=>(YY f.toNat).bind λg=>let h:=(48<=(f.toNat:Int)&&(f.toNat:Int)<=57);(bif !(g||h)then strings_IndexByte ([46,45,95,126],f.toNat)else some 0).bind λi=>bif g||h||0<=i then(OL (c,f.toNat)).bind λg=>a (b,g.2,d,i64.wrap (e+1))else(div? u8 f.toNat 16).bind λg=>(div? u8 f.toNat 16).bind λh=>(cut? [48,49,50,51,52,53,54,55,56,57,65,66,67,68,69,70] g (u8.wrap (h+1))).bind λg=>(cat? [37] g).bind λg=>(mod? f.toNat 16).bind λh=>(mod? f.toNat 16).bind λf=>(cut? [48,49,50,51,52,53,54,55,56,57,65,66,67,68,69,70] h (u8.wrap (f+1))).bind λf=>(cat? g f).bind λf=>(RV (c,f)).bind λf=>a (b,f.2.2,d,i64.wrap (e+1))else c
def vO:=DX A3u fuel
def VO:DM->Option DM:=λa=>(vO (a,[],a.length,0)).bind λa=>(PQ a).bind λa=>a
def A3v:Rd ((List DM)×(List DM)×Int×Int) (List DM):=λa (b,c,d,e)=>bif e<d then(at? c e).bind λf=>(VO f).bind λf=>(app? 24 b [f]).bind λf=>a (f,c,d,i64.wrap (e+1))else b
def vP:=DX A3v fuel
def gT:DM->Option DM:=λa=>(TB a).bind λa=>(vP ([],a,a.length,0)).bind λa=>(strings_Join (a,[47])).bind λa=>a
def gU:DM×DM×DM×DM×DW×DM->Option DM:=λa=>(cat? [112,107,103,58] a.1).bind λb=>(cat? b [47]).bind λb=>bif !DR a.2.1 []then(gT a.2.1).bind λc=>(cat? c [47]).bind λc=>(cat? b c).bind λc=>(VO a.2.2.1).bind λd=>(cat? c d).bind λc=>c else(VO a.2.2.1).bind λa=>(cat? b a).bind λa=>a
def M9:DM×DM×DM×DM×DW×DM->Option (DM×Int):=λa=>(KQ a).bind λb=>bif !DQ b 0 then some ([],b)else(TF a).bind λa=>(gU a).bind λa=>some (a,0)
def gV:DM->Option (Bool):=λa=>(VN a).bind λb=>bif !DQ b.2.2 0 then some false else(M9 b.1).bind λb=>some (DQ b.2 0&&DR b.1 a)
def A3w:Rd (DM×Int×MY×Int) (Int):=λa (b,c,d,e)=>let f:=decide (i64.wrap (c+e)<b.length);(bif f then at? b (i64.wrap (c+e))else some 0).bind λg=>(bif f then d g.toNat else some false).bind λg=>bif f&&g then a (b,c,d,i64.wrap (e+1))else e
def vQ:=DX A3w fuel
def I_:DM×Int×MY->Option (Int):=λ(a,b,c)=>(vQ (a,b,c,0)).bind λa=>a
def H0:Int->Option (Bool):=λa=>some (48<=a&&a<=57)
def KA:DM->Option (Int×Bool):=λa=>let b:=(DR a []||18<(a.length:Int));(bif !b then I_ (a,0,λx=>(H0 x).bind λr=>r)else some 0).bind λc=>bif b||!DQ c a.length then some (0,false)else(fC a).bind λa=>some (a.1,true)
def TG:DM->Option (Int×Bool):=λa=>(bif 1<(a.length:Int)then at? a 0 else some 0).bind λb=>bif 1<(a.length:Int)&&DQ b.toNat 48 then some (0,false)else(KA a).bind λa=>(a.1,a.2)
def N0:Int->Option (Bool):=λa=>some (65<=a&&a<=90||97<=a&&a<=122)
def gW:Int->Option (Bool):=λa=>(H0 a).bind λb=>(bif !b then N0 a else some false).bind λc=>some (b||c||DQ a 45)
def A3x:Rd ((List DM)×Int×Int) (Sum (Unit) M7):=λa (b,c,d)=>bif d<c then(at? b d).bind λe=>(bif !DR e []then I_ (e,0,λx=>(gW x).bind λr=>r)else some 0).bind λf=>bif DR e []||!DQ f e.length then some (.inr ([],false))else a (b,c,i64.wrap (d+1))else some (.inl ())
def vR:=DX A3x fuel
def ZD:DM->Option M7:=λa=>(strings_Split (a,[46])).bind λa=>(vR (a,a.length,0)).bind λb=>match b with|.inl _=>some (a,true)|.inr a=>(a.1,a.2)
def A3y:Rd ((List DM)×Int×Int) (Sum (Unit) M7):=λa (b,c,d)=>bif d<c then(at? b d).bind λe=>(I_ (e,0,λx=>(H0 x).bind λr=>r)).bind λf=>bif DQ f e.length then(TG e).bind λe=>bif !e.2 then some (.inr ([],false))else a (b,c,i64.wrap (d+1))else a (b,c,i64.wrap (d+1))else some (.inl ())
def vS:=DX A3y fuel
def gX:DM->Option M7:=λa=>(ZD a).bind λa=>(vS (a.1,a.1.length,0)).bind λb=>match b with|.inl _=>(a.1,a.2)|.inr a=>(a.1,a.2)
def gY:DM->Option M7:=λa=>(strings_Cut (a,[43])).bind λa=>(ZD a.2.1).bind λb=>bif a.2.2&&!b.2 then some ([],false)else bif DR a.1 []then some ([],true)else(at? a.1 0).bind λb=>bif !DQ b.toNat 45 then some ([],false)else(cut? a.1 1 a.1.length).bind λa=>(gX a).bind λa=>(a.1,a.2)
def gZ:DM×Int×Bool->Option (Sum (Int) (H8×Bool)):=λ(a,b,c)=>bif c then(bif !(a.length<=b)then at? a b else some 0).bind λc=>bif a.length<=b||!DQ c.toNat 46 then some (.inr (.inr (.inr (.inr (.inr (.inr ())))),false))else some (.inl (i64.wrap (b+1)))else some (.inl b)
def A3z:Rd (DM×KO×Int×Int) (Sum (KO×Int) (H8×Bool)):=λa (b,c,d,e)=>bif e<3 then(gZ (b,d,0<e)).bind λf=>match f with|.inl f=>(I_ (b,f,λx=>(H0 x).bind λr=>r)).bind λg=>(cut? b f (i64.wrap (f+g))).bind λh=>(TG h).bind λh=>bif !h.2 then some (.inr (.inr (.inr (.inr (.inr (.inr ())))),false))else(in? 3 e).bind λ_=>a (b,(c.1.set e.toNat h.1,c.2),i64.wrap (f+g),i64.wrap (e+1))|.inr a=>some (.inr (a.1,a.2))else some (.inl ((c.1,c.2),d))
def vT:=DX A3z fuel
def g_:DM->Option (H8×Bool):=λa=>(vT (a,(List.replicate 3 0,[]),0,0)).bind λb=>match b with|.inl b=>(cut? a b.2 a.length).bind λa=>(gY a).bind λa=>some (.inl (b.1.1,a.1),a.2)|.inr a=>(a.1,a.2)
def hY:Int->Option (Bool):=λa=>(H0 a).bind λb=>(bif !b then N0 a else some false).bind λc=>(bif !(b||c)then strings_IndexByte ([46,43,126,45],a)else some 0).bind λa=>some (b||c||0<=a)
def A40:Rd (DM×Int) JK:=λa (b,c)=>bif c<b.length then(I_ (b,c,λx=>(H0 x).bind λr=>r)).bind λd=>bif 18<d then some (.inr false)else a (b,i64.wrap (c+XZ d 1))else some (.inl ())
def vU:=DX A40 fuel
def hZ:DM->Option (Bool):=λa=>(vU (a,0)).bind λa=>match a with|.inl _=>some true|.inr a=>a
def iA:DM×K7×DM×DM×Bool->Option (Sum (DM×K7) (H8×Bool)):=λ(a,b,c,d,e)=>bif e then(TG c).bind λc=>bif !c.2 then some (.inr (.inr (.inr (.inr (.inr (.inr ())))),false))else some (.inl (d,c.1,b.2))else some (.inl (a,b))
def iB:DM->Option (H8×Bool):=λa=>(strings_Cut (a,[58])).bind λb=>(iA (a,(0,[],[],false),b.1,b.2.1,b.2.2)).bind λa=>match a with|.inl a=>(bif !DR a.1 []then at? a.1 0 else some 0).bind λb=>(bif !DR a.1 []then H0 b.toNat else some false).bind λb=>(bif !(DR a.1 []||!b)then I_ (a.1,0,λx=>(hY x).bind λr=>r)else some 0).bind λc=>let d:=(DR a.1 []||!b||!DQ c a.1.length);(bif !d then hZ a.1 else some false).bind λb=>bif d||!b then some (.inr (.inr (.inr (.inr (.inr ())))),false)else(strings_LastIndexByte (a.1,45)).bind λb=>bif 0<=b then(cut? a.1 0 b).bind λc=>(cut? a.1 (i64.wrap (b+1)) a.1.length).bind λb=>bif DR b []then some (.inr (.inr (.inr (.inr (.inr ())))),false)else(strings_IndexByte (c,45)).bind λd=>some (.inr (.inl (a.2.1,c,b,0<=d)),true)else(strings_IndexByte (a.1,45)).bind λb=>some (.inr (.inl (a.2.1,a.1,a.2.2.2.1,0<=b)),true)|.inr a=>(a.1,a.2)
def A41:Rd (DM×(List Int)) ((List Int)×DM×Bool):=λa (b,c)=>(I_ (b,0,λx=>(H0 x).bind λr=>r)).bind λd=>(cut? b 0 d).bind λe=>(KA e).bind λe=>bif !e.2 then some ([],[],false)else(app? 24 c [e.1]).bind λc=>(cut? b d b.length).bind λb=>(bif !((b.length:Int)<2)then at? b 0 else some 0).bind λd=>let e:=((b.length:Int)<2||!DQ d.toNat 46);(bif !e then at? b 1 else some 0).bind λd=>(bif !e then H0 d.toNat else some false).bind λd=>bif e||!d then some (c,b,true)else(cut? b 1 b.length).bind λb=>a (b,c)
def vV:=DX A41 fuel
def iC:DM->Option ((List Int)×DM×Bool):=λa=>(vV (a,[])).bind λa=>(a.1,a.2.1,a.2.2)
def vW:Int->Option (Bool):=λa=>some (DQ a 46||DQ a 45||DQ a 95)
def ZE:DM×MY->Option (Int):=λ(a,b)=>(bif 1<(a.length:Int)then at? a 0 else some 0).bind λc=>(bif 1<(a.length:Int)then vW c.toNat else some false).bind λc=>(bif 1<(a.length:Int)&&c then at? a 1 else some 0).bind λd=>(bif 1<(a.length:Int)&&c then b d.toNat else some false).bind λb=>bif 1<(a.length:Int)&&c&&b then some 1 else some 0
def A42:Rd (DM×DM×(List DM)×Int×Int) DM:=λa (b,c,d,e,f)=>bif f<e then(at? d f).bind λg=>(strings_HasPrefix (b,g)).bind λh=>bif h then g else a (b,c,d,e,i64.wrap (f+1))else c
def vX:=DX A42 fuel
def iD:DM×Bool->Option (Bool):=λ(a,b)=>bif b then b else some (DR a [97,108,112,104,97])
def iE:DM×Bool->Option (Bool):=λ(a,b)=>bif b then b else some (DR a [98,101,116,97])
def iF:DM×Bool->Option (Bool):=λ(a,b)=>bif b then b else bif DR a [114,99]then some (DR a [114,99])else bif DR a [112,114,101]then some (DR a [112,114,101])else some (DR a [112,114,101,118,105,101,119])
def iG:DM->Option ER:=λa=>let b:=[[112,114,101,118,105,101,119],[97,108,112,104,97],[98,101,116,97],[112,111,115,116],[112,114,101],[114,101,118],[100,101,118],[114,99],[97],[98],[99],[114]];(vX (a,[],b,b.length,0)).bind λa=>bif DR a []then some ([],0,0)else(iD (a,DR a [97])).bind λb=>bif b then some (a,1,1)else(iE (a,DR a [98])).bind λb=>bif b then some (a,1,2)else(iF (a,DR a [99])).bind λb=>bif b then some (a,1,3)else bif DR a [112,111,115,116]then bif DR a [112,111,115,116]then some (a,2,0)else some (a,3,0)else bif DR a [114,101,118]then bif DR a [114,101,118]then some (a,2,0)else some (a,3,0)else bif DR a [114]then some (a,2,0)else some (a,3,0)
def iH:DM×Int×Int×Bool->Option (Sum (DM×Int) (DM×Bool)):=λ(a,b,c,d)=>bif d then(I_ (a,c,λx=>(H0 x).bind λr=>r)).bind λd=>(cut? a c (i64.wrap (c+d))).bind λe=>(KA e).bind λe=>bif !e.2 then some (.inr ([],false))else(cut? a (i64.wrap (c+d)) a.length).bind λc=>some (.inl (c,e.1))else some (.inl (a,b))
def A43:Rd (FQ×DM×Int) (FQ×DM×Bool):=λa (b,c,d)=>(ZE (c,λx=>(N0 x).bind λr=>r)).bind λe=>(cut? c e c.length).bind λe=>(iG e).bind λf=>bif DR f.1 []then some (b,c,true)else bif f.2.1<=d then some (b,[],false)else(cut? e f.1.length e.length).bind λc=>(ZE (c,λx=>(H0 x).bind λr=>r)).bind λd=>(bif !(0<d)&&!DR c []then at? c 0 else some 0).bind λe=>(bif !(0<d)&&!DR c []then H0 e.toNat else some false).bind λe=>(iH (c,0,d,(0<d)||!DR c []&&e)).bind λc=>match c with|.inl c=>bif DQ f.2.1 1 then a ((b.1,b.2.1,f.2.2,c.2,b.2.2.2.2),c.1,f.2.1)else bif DQ f.2.1 2 then a ((b.1,b.2.1,b.2.2.1,b.2.2.2.1,c.2,b.2.2.2.2.2),c.1,f.2.1)else bif DQ f.2.1 3 then a ((b.1,b.2.1,b.2.2.1,b.2.2.2.1,b.2.2.2.2.1,c.2,b.2.2.2.2.2.2),c.1,f.2.1)else a (b,c.1,f.2.1)|.inr a=>(b,a.1,a.2)
def vY:=DX A43 fuel
def iI:FQ×DM->Option (DM×Bool×FQ):=λ(a,b)=>(vY (a,b,0)).bind λa=>(a.2.1,a.2.2,a.1)
def vZ:Int->Option (Bool):=λa=>some (DQ a 46||DQ a 45||DQ a 95)
def iJ:Int->Option (Bool):=λa=>(H0 a).bind λb=>(bif !b then N0 a else some false).bind λa=>some (b||a)
def A44:Rd (Int×(List DM)×Int×Int) (Sum (Int) M7):=λa (b,c,d,e)=>bif e<d then(at? c e).bind λf=>(I_ (f,0,λx=>(H0 x).bind λr=>r)).bind λg=>(I_ (f,0,λx=>(iJ x).bind λr=>r)).bind λh=>bif !DQ h f.length||DQ g f.length&&18<g then some (.inr ([],false))else a (i64.wrap (b+f.length),c,d,i64.wrap (e+1))else some (.inl b)
def v_:=DX A44 fuel
def iK:DM->Option M7:=λa=>(VD (a,λx=>(vZ x).bind λr=>r)).bind λb=>(v_ (b.length,b,b.length,0)).bind λc=>match c with|.inl c=>some (b,(0<(b.length:Int))&&DQ (i64.wrap (c-1)) a.length)|.inr a=>(a.1,a.2)
def iL:DM×FQ×Int×Bool->Option (Sum (DM×FQ) (H8×Bool)):=λ(a,b,c,d)=>bif d then(cut? a 0 c).bind λd=>(KA d).bind λd=>bif !d.2 then some (.inr (.inr (.inr (.inr (.inr (.inr ())))),false))else(cut? a (i64.wrap (c+1)) a.length).bind λc=>some (.inl (c,d.1,b.2))else some (.inl (a,b))
def iM:DM->Option (H8×Bool):=λa=>(strings_TrimPrefix (a,[118])).bind λa=>(I_ (a,0,λx=>(H0 x).bind λr=>r)).bind λb=>(bif b<a.length then at? a b else some 0).bind λc=>(iL (a,(0,[],0,0,-1,-1,[]),b,(b<a.length)&&DQ c.toNat 33)).bind λa=>match a with|.inl a=>(iC a.1).bind λb=>bif !b.2.2 then some (.inr (.inr (.inr (.inr (.inr ())))),false)else(iI ((a.2.1,b.1,a.2.2.2),b.2.1)).bind λa=>bif !a.2.1 then some (.inr (.inr (.inr (.inr (.inr ())))),false)else(strings_CutPrefix (a.1,[43])).bind λb=>bif b.2 then(iK b.1).bind λb=>some (.inr (.inr (.inl (a.2.2.1,a.2.2.2.1,a.2.2.2.2.1,a.2.2.2.2.2.1,a.2.2.2.2.2.2.1,a.2.2.2.2.2.2.2.1,b.1))),b.2)else some (.inr (.inr (.inl a.2.2)),DR a.1 [])|.inr a=>(a.1,a.2)
def iN:DM×Bool->Option DM:=λ(a,b)=>(YQ a).bind λa=>bif DR a [97]&&b then some [97,108,112,104,97]else bif DR a [98]&&b then some [98,101,116,97]else bif DR a [109]&&b then some [109,105,108,101,115,116,111,110,101]else bif DR a [99,114]then some [114,99]else bif DR a [102,105,110,97,108]||DR a [103,97]||DR a [114,101,108,101,97,115,101]then some []else a
def TH:Bool×DM×Int->Option (Bool):=λa=>some (a.1&&DR a.2.1 []||!a.1&&DQ a.2.2 0)
def iO:DM×Int×Bool->Option (Sum (Int) (H8×Bool)):=λ(a,b,c)=>bif c then let c:=DQ b (i64.wrap (a.length-1));(bif !(DQ b 0||c)then at? a (i64.wrap (b+1))else some 0).bind λd=>(bif !(DQ b 0||c)then H0 d.toNat else some false).bind λd=>(bif !(DQ b 0||c)&&!d then at? a (i64.wrap (b+1))else some 0).bind λa=>(bif !(DQ b 0||c)&&!d then N0 a.toNat else some false).bind λa=>bif DQ b 0||c||!d&&!a then some (.inr (.inr (.inr (.inr (.inr (.inr ())))),false))else some (.inl (i64.wrap (b+1)))else some (.inl b)
def A45:Rd (DM×GZ×Int) (Sum GZ (H8×Bool)):=λa (b,c,d)=>bif d<b.length then(at? b d).bind λe=>(bif !DQ e.toNat 46 then at? b d else some 0).bind λf=>(iO (b,d,DQ e.toNat 46||DQ f.toNat 45)).bind λd=>match d with|.inl d=>(I_ (b,d,λx=>(H0 x).bind λr=>r)).bind λe=>bif 0<e then(cut? b d (i64.wrap (d+e))).bind λf=>(KA f).bind λf=>bif !f.2 then some (.inr (.inr (.inr (.inr (.inr (.inr ())))),false))else(app? 72 c [(false,[],f.1)]).bind λf=>a (b,f,i64.wrap (d+e))else(I_ (b,d,λx=>(N0 x).bind λr=>r)).bind λe=>bif DQ e 0 then some (.inr (.inr (.inr (.inr (.inr (.inr ())))),false))else let f:=decide (i64.wrap (d+e)<b.length);(bif f then at? b (i64.wrap (d+e))else some 0).bind λg=>(bif f then H0 g.toNat else some false).bind λg=>(cut? b d (i64.wrap (d+e))).bind λh=>(iN (h,f&&g)).bind λf=>(app? 72 c [(true,f,0)]).bind λf=>a (b,f,i64.wrap (d+e))|.inr a=>some (.inr (a.1,a.2))else some (.inl c)
def w6:=DX A45 fuel
def A46:Rd GZ GZ:=λa b=>(bif 0<(b.length:Int)then at? b (i64.wrap (b.length-1))else some (false,[],0)).bind λc=>(bif 0<(b.length:Int)then TH c else some false).bind λc=>bif 0<(b.length:Int)&&c then(cut? b 0 (i64.wrap (b.length-1))).bind λc=>a c else b
def w7:=DX A46 fuel
def iP:DM->Option (H8×Bool):=λa=>(w6 (a,[],0)).bind λa=>match a with|.inl a=>(w7 a).bind λa=>some (.inr (.inr (.inr (.inl a))),true)|.inr a=>(a.1,a.2)
def iQ:DM->Option (H8×Bool):=λa=>(TG a).bind λa=>some (.inr (.inr (.inr (.inr (.inl a.1)))),a.2)
def KB:Int×DM->Option (H8×Int):=λ(a,b)=>bif a<1||5<a then some (.inr (.inr (.inr (.inr (.inr ())))),7)else bif DR b []||100<(b.length:Int)then some (.inr (.inr (.inr (.inr (.inr ())))),3)else bif DQ a 1 then(g_ b).bind λc=>bif !c.2 then some (.inr (.inr (.inr (.inr (.inr ())))),6)else some (c.1,0)else bif DQ a 2 then(iB b).bind λc=>bif !c.2 then some (.inr (.inr (.inr (.inr (.inr ())))),6)else some (c.1,0)else bif DQ a 3 then(YQ b).bind λc=>(iM c).bind λc=>bif !c.2 then some (.inr (.inr (.inr (.inr (.inr ())))),6)else some (c.1,0)else bif DQ a 4 then(iP b).bind λc=>bif !c.2 then some (.inr (.inr (.inr (.inr (.inr ())))),6)else some (c.1,0)else bif DQ a 5 then(iQ b).bind λa=>bif !a.2 then some (.inr (.inr (.inr (.inr (.inr ())))),6)else some (a.1,0)else bif !false then some (.inr (.inr (.inr (.inr (.inr ())))),6)else some (.inr (.inr (.inr (.inr (.inr ())))),0)
def A47:Rd ((List DM)×(List Int)×Int×Int) (List DM):=λa (b,c,d,e)=>bif e<d then(at? c e).bind λf=>(strconv_Itoa f).bind λf=>(app? 24 b [f]).bind λf=>a (f,c,d,i64.wrap (e+1))else b
def w8:=DX A47 fuel
def ZF:List Int->Option DM:=λa=>(w8 ([],a,a.length,0)).bind λa=>(strings_Join (a,[46])).bind λa=>a
def ZG:(List Int)×(List DM)->Option DM:=λa=>(cut? a.1 0 a.1.length).bind λb=>(ZF b).bind λb=>bif 0<(a.2.length:Int)then(strings_Join (a.2,[46])).bind λa=>(cat? [45] a).bind λa=>(cat? b a).bind λa=>a else b
def A48:Rd (DM×(List Int)×Int) (List Int):=λa (b,c,d)=>bif d<b.length then(I_ (b,d,λx=>(H0 x).bind λr=>r)).bind λe=>bif DQ e 0 then(at? b d).bind λf=>(OL (c,f.toNat)).bind λf=>a (b,f.2,i64.wrap (d+1))else(cut? b d (i64.wrap (d+e))).bind λf=>(KA f).bind λf=>bif !DQ f.1 0||i64.wrap (d+e)<b.length||DQ e b.length then(strconv_Itoa f.1).bind λf=>(RV (c,f)).bind λf=>a (b,f.2.2,i64.wrap (d+e))else a (b,c,i64.wrap (d+e))else c
def w9:=DX A48 fuel
def ZH:DM->Option DM:=λa=>(w9 (a,[],0)).bind λa=>(PQ a).bind λa=>a
def ZI:Int×DM×DM×Bool->Option DM:=λa=>bif DR a.2.2.1 []then some [48]else a.2.2.1
def iR:Int->Option (Bool):=λa=>(H0 a).bind λa=>some (!a)
def A49:Rd (DM×(List Int)×Int×Int) (List Int):=λa (b,c,d,e)=>bif e<d then(at? b e).bind λf=>bif DQ f.toNat 126 then(OL (c,1)).bind λf=>a (b,f.2,d,i64.wrap (e+1))else(at? b e).bind λf=>(N0 f.toNat).bind λf=>bif f then(at? b e).bind λf=>(OL (c,f.toNat)).bind λf=>a (b,f.2,d,i64.wrap (e+1))else(at? b e).bind λf=>(OL (c,u8.wrap (f.toNat+128))).bind λf=>a (b,f.2,d,i64.wrap (e+1))else c
def wA:=DX A49 fuel
def iS:DM->Option DM:=λa=>(wA (a,[],a.length,0)).bind λa=>(PQ a).bind λa=>(cat? a [2]).bind λa=>a
def KC:Int->Option DM:=λa=>(strconv_Itoa a).bind λa=>(strings_Repeat ([48],i64.wrap (18-a.length))).bind λb=>(cat? b a).bind λa=>a
def A4A:Rd (DM×(List Int)) (List Int):=λa (b,c)=>bif !DR b []then(I_ (b,0,λx=>(iR x).bind λr=>r)).bind λd=>(I_ (b,d,λx=>(H0 x).bind λr=>r)).bind λe=>(cut? b d (i64.wrap (d+e))).bind λf=>(KA f).bind λf=>(cut? b 0 d).bind λg=>(iS g).bind λg=>(KC f.1).bind λf=>(cat? g f).bind λf=>(RV (c,f)).bind λf=>(cut? b (i64.wrap (d+e)) b.length).bind λb=>a (b,f.2.2)else c
def wB:=DX A4A fuel
def P_:DM->Option DM:=λa=>(wB (a,[])).bind λa=>(PQ a).bind λa=>(cat? a [2]).bind λa=>a
def iT:K7×DM×Bool->Option (K7×DM):=λ(a,b,c)=>bif c then(strconv_Itoa a.1).bind λc=>(cat? c [58]).bind λc=>(cat? c b).bind λc=>(a,c)else(a,b)
def ZJ:Int×DM×DM×Bool->Option DM:=λa=>(ZH a.2.1).bind λb=>(iT (a,b,!DQ a.1 0)).bind λa=>(ZI a.1).bind λb=>(P_ b).bind λb=>(P_ [48]).bind λc=>bif !DR b c then(cat? a.2 [45]).bind λb=>(ZH a.1.2.2.1).bind λc=>(cat? b c).bind λb=>b else bif a.1.2.2.2 then(cat? a.2 [45,48]).bind λb=>b else a.2
def A4B:Rd (List Int) (List Int):=λa b=>(bif 0<(b.length:Int)then at? b (i64.wrap (b.length-1))else some 0).bind λc=>bif 0<(b.length:Int)&&DQ c 0 then(cut? b 0 (i64.wrap (b.length-1))).bind λc=>a c else b
def wC:=DX A4B fuel
def ZK:List Int->Option (List Int):=λa=>(wC a).bind λa=>a
def iU:FQ×DM×Bool->Option (FQ×DM):=λ(a,b,c)=>bif c then(strconv_Itoa a.1).bind λc=>(cat? c [33]).bind λc=>(a,c)else(a,b)
def iV:DM×(List Int)×Bool->Option DM:=λ(a,b,c)=>bif c then(ZF b).bind λb=>(cat? a b).bind λb=>b else(cat? a [48]).bind λa=>a
def iW:FQ×DM×Bool->Option (FQ×DM):=λ(a,b,c)=>bif c then(at? [[],[97],[98],[114,99]] a.2.2.1).bind λc=>(strconv_Itoa a.2.2.2.1).bind λd=>(cat? c d).bind λc=>(cat? b c).bind λc=>(a,c)else(a,b)
def iX:FQ×DM×Bool->Option (FQ×DM):=λ(a,b,c)=>bif c then(strconv_Itoa a.2.2.2.2.1).bind λc=>(cat? [46,112,111,115,116] c).bind λc=>(cat? b c).bind λc=>(a,c)else(a,b)
def iY:FQ×DM×Bool->Option (FQ×DM):=λ(a,b,c)=>bif c then(strconv_Itoa a.2.2.2.2.2.1).bind λc=>(cat? [46,100,101,118] c).bind λc=>(cat? b c).bind λc=>(a,c)else(a,b)
def iZ:DM×Int×Bool->Option DM:=λ(a,b,c)=>bif c then(strconv_Itoa b).bind λb=>b else a
def A4C:Rd (DM×(List DM)×Int×Int) DM:=λa (b,c,d,e)=>bif e<d then(at? c e).bind λf=>(KA f).bind λg=>(iZ (f,g.1,g.2)).bind λf=>bif DQ e 0 then(cat? [43] f).bind λg=>(cat? b g).bind λg=>a (g,c,d,i64.wrap (e+1))else(cat? [46] f).bind λf=>(cat? b f).bind λf=>a (f,c,d,i64.wrap (e+1))else b
def wD:=DX A4C fuel
def ZL:Int×(List Int)×Int×Int×Int×Int×(List DM)->Option DM:=λa=>(iU (a,[],!DQ a.1 0)).bind λa=>(ZK a.1.2.1).bind λb=>(iV (a.2,b,0<(b.length:Int))).bind λb=>(iW (a.1,b,0<a.1.2.2.1)).bind λa=>(iX (a.1,a.2,0<=a.1.2.2.2.2.1)).bind λa=>(iY (a.1,a.2,0<=a.1.2.2.2.2.2.1)).bind λa=>(wD (a.2,a.1.2.2.2.2.2.2,a.1.2.2.2.2.2.2.length,0)).bind λa=>a
def A4D:Rd ((List DM)×GZ×Int×Int) (List DM):=λa (b,c,d,e)=>bif e<d then(at? c e).bind λf=>(TH f).bind λg=>bif g then(app? 24 b [[48]]).bind λg=>a (g,c,d,i64.wrap (e+1))else bif f.1 then(app? 24 b [f.2.1]).bind λg=>a (g,c,d,i64.wrap (e+1))else(strconv_Itoa f.2.2).bind λf=>(app? 24 b [f]).bind λf=>a (f,c,d,i64.wrap (e+1))else b
def wE:=DX A4D fuel
def ZM:List LM->Option DM:=λa=>(wE ([],a,a.length,0)).bind λa=>bif DQ a.length 0 then some [48]else(strings_Join (a,[45])).bind λa=>a
def ZN:Int->Option DM:=λa=>(strconv_Itoa a).bind λa=>a
def i_:Sum KO (Sum K7 (Sum FQ (Sum GZ (Sum Int Unit))))->Option (DM×Int):=λa=>((λz=>Sum.casesOn (motive:=λ_=>Option DM) z (λx=>(ZG x).bind λr=>r) (λz=>z.casesOn (λx=>(ZJ x).bind λr=>r) (λz=>z.casesOn (λx=>(ZL x).bind λr=>r) (λz=>z.casesOn (λx=>(ZM x).bind λr=>r) (λz=>z.casesOn (λx=>(ZN x).bind λr=>r) (λ_=>none)))))) a).bind λa=>bif 100<(a.length:Int)then some ([],3)else some (a,0)
def TI:Int×DM->Option (DM×Int):=λ(a,b)=>(KB (a,b)).bind λa=>bif !DQ a.2 0 then some ([],a.2)else(i_ a.1).bind λa=>(a.1,a.2)
def A4E:Rd (GP×JG×Int×Int) G_:=λa (b,c,d,e)=>bif e<d then(at? c e).bind λf=>bif f.1<1||3<f.1 then some (.inr 7)else bif DR f.2 []then bif !DQ f.1 1 then some (.inr 2)else a (b,c,d,i64.wrap (e+1))else(TI (b.2.1,f.2)).bind λf=>bif !DQ f.2 0 then some (.inr f.2)else a (b,c,d,i64.wrap (e+1))else some (.inl ())
def wF:=DX A4E fuel
def j6:DM×Int×JG×(List DM)×(List DM)->Option (Int):=λa=>bif 100<(a.2.2.1.length:Int)then some 3 else(wF (a,a.2.2.1,a.2.2.1.length,0)).bind λa=>match a with|.inl _=>some 0|.inr a=>a
def A4F:Rd (DM×Bool×Int×Int) (Bool):=λa (b,c,d,e)=>bif e<d then(bif !c then at? b e else some 0).bind λf=>(bif !(c||(f.toNat:Int)<33)then at? b e else some 0).bind λg=>a (b,(c||(f.toNat:Int)<33)||(126<(g.toNat:Int)),d,i64.wrap (e+1))else c
def wG:=DX A4F fuel
def A4G:Rd ((List DM)×(List DM)×Int×Int) G_:=λa (b,c,d,e)=>bif e<d then(at? c e).bind λf=>(wG (f,DR f []||(200<(f.length:Int)),f.length,0)).bind λg=>bif g then some (.inr 8)else(bif 0<e then at? b (i64.wrap (e-1))else some []).bind λg=>bif 0<e&&(Op.bytesLess f g||DR f g)then some (.inr 10)else a (b,c,d,i64.wrap (e+1))else some (.inl ())
def wH:=DX A4G fuel
def j7:List DM->Option (Int):=λa=>bif 200<(a.length:Int)then some 3 else(wH (a,a,a.length,0)).bind λa=>match a with|.inl _=>some 0|.inr a=>a
def A4H:Rd (GP×(List DM)×Int×Int) (Sum GP (Int)):=λa (b,c,d,e)=>bif e<d then(at? c e).bind λf=>(TI (b.2.1,f)).bind λf=>bif !DQ f.2 0 then some (.inr f.2)else a (b,c,d,i64.wrap (e+1))else some (.inl b)
def wI:=DX A4H fuel
def j8:DM×Int×JG×(List DM)×(List DM)->Option (Int):=λa=>(gV a.1).bind λb=>bif !b then some 8 else bif a.2.1<1||5<a.2.1 then some 7 else(j6 a).bind λb=>bif !DQ b 0 then b else bif 500<(a.2.2.2.1.length:Int)then some 3 else(wI (a,a.2.2.2.1,a.2.2.2.1.length,0)).bind λa=>match a with|.inl a=>(j7 a.2.2.2.2).bind λa=>a|.inr a=>a
def j9:Unit->Option (List Int):=λ_=>some [0,1,0,2]
def A4I:Rd ((Int->Option DM)×(List Int)×(List Int)×Int×Int) (List Int):=λa (b,c,d,e,f)=>bif f<e then(at? d f).bind λg=>(b g).bind λg=>(RV (c,g)).bind λg=>a (b,g.2.2,d,e,i64.wrap (f+1))else c
def wJ:=DX A4I fuel
def ZO:(List Int)×DM×(Int->Option DM)->Option DM:=λ(a,b,c)=>(wJ (c,[],a,a.length,0)).bind λa=>(PQ a).bind λa=>(cat? a b).bind λa=>a
def A4J:Rd ((DM->Option DM)×(List Int)×(List DM)×Int×Int) (List Int):=λa (b,c,d,e,f)=>bif f<e then(at? d f).bind λg=>(b g).bind λg=>(RV (c,g)).bind λg=>a (b,g.2.2,d,e,i64.wrap (f+1))else c
def wK:=DX A4J fuel
def ZP:(List DM)×DM×(DM->Option DM)->Option DM:=λ(a,b,c)=>(wK (c,[],a,a.length,0)).bind λa=>(PQ a).bind λa=>(cat? a b).bind λa=>a
def jA:DM->Option DM:=λa=>(KA a).bind λb=>bif b.2 then(KC b.1).bind λb=>(cat? [48] b).bind λb=>b else(cat? [49] a).bind λa=>(cat? a [32]).bind λa=>a
def NR:(List Int)×(List DM)->Option DM:=λa=>(cut? a.1 0 a.1.length).bind λb=>(ZO (b,[],λx=>(KC x).bind λr=>r)).bind λb=>bif DQ a.2.length 0 then(cat? b [126]).bind λc=>c else(cat? b [33]).bind λb=>(ZP (a.2,[33],λx=>(jA x).bind λr=>r)).bind λa=>(cat? b a).bind λa=>a
def NT:Int×DM×DM×Bool->Option DM:=λa=>(KC a.1).bind λb=>(P_ a.2.1).bind λc=>(cat? b c).bind λb=>(ZI a).bind λa=>(P_ a).bind λa=>(cat? b a).bind λa=>a
def jB:Int->Option DM:=λa=>(KC a).bind λa=>(cat? [49] a).bind λa=>a
def jC:Int×(List Int)×Int×Int×Int×Int×(List DM)->Option (Int):=λa=>bif 0<a.2.2.1 then a.2.2.1 else bif 0<=a.2.2.2.2.2.1&&a.2.2.2.2.1<0 then some 0 else some 4
def jD:Int->Option DM:=λa=>bif a<0 then some [48]else(KC a).bind λa=>(cat? [49] a).bind λa=>a
def jE:DM->Option DM:=λa=>(KA a).bind λb=>bif b.2 then(KC b.1).bind λb=>(cat? [50] b).bind λb=>b else(cat? [49] a).bind λa=>(cat? a [32]).bind λa=>a
def jF:FQ×DM×Bool->Option (FQ×DM):=λ(a,b,c)=>bif c then(KC a.2.2.2.2.2.1).bind λc=>(cat? [48] c).bind λc=>(cat? b c).bind λc=>(a,c)else(cat? b [49]).bind λb=>(a,b)
def NU:Int×(List Int)×Int×Int×Int×Int×(List DM)->Option DM:=λa=>(KC a.1).bind λb=>(ZK a.2.1).bind λc=>(ZO (c,[48],λx=>(jB x).bind λr=>r)).bind λc=>(cat? b c).bind λb=>(jC a).bind λc=>(strconv_Itoa c).bind λc=>(KC a.2.2.2.1).bind λd=>(cat? c d).bind λc=>(jD a.2.2.2.2.1).bind λd=>(cat? c d).bind λc=>(cat? b c).bind λb=>(jF (a,b,0<=a.2.2.2.2.2.1)).bind λa=>bif DQ a.1.2.2.2.2.2.2.length 0 then(cat? a.2 [48]).bind λb=>b else(cat? a.2 [49]).bind λb=>(ZP (a.1.2.2.2.2.2.2,[48],λx=>(jE x).bind λr=>r)).bind λa=>(cat? b a).bind λa=>a
def ZQ:Unit->Option (List DM):=λ_=>some [[97,108,112,104,97],[98,101,116,97],[109,105,108,101,115,116,111,110,101],[114,99],[115,110,97,112,115,104,111,116]]
def A4K:Rd ((List DM)×DM×Int×Int) G_:=λa (b,c,d,e)=>bif e<d then(at? b e).bind λf=>bif DR c f then some (.inr e)else a (b,c,d,i64.wrap (e+1))else some (.inl ())
def wL:=DX A4K fuel
def ZR:(List DM)×DM->Option (Int):=λ(a,b)=>(wL (a,b,a.length,0)).bind λa=>match a with|.inl _=>some (-1)|.inr a=>a
def OM:(List DM)×DM->Option (Bool):=λ(a,b)=>(ZR (a,b)).bind λa=>some (0<=a)
def VP:Bool×DM×Int->Option (Bool):=λa=>(bif a.1 then ZQ ()else some []).bind λb=>(bif a.1 then OM (b,a.2.1)else some false).bind λb=>some (a.1&&b)
def ZS:Bool×DM×Int->Option DM:=λa=>bif !a.1 then(KC a.2.2).bind λb=>(cat? [56] b).bind λb=>b else(VP a).bind λb=>bif b then(ZQ ()).bind λb=>(ZR (b,a.2.1)).bind λb=>(strconv_Itoa b).bind λb=>b else bif DR a.2.1 [115,112]then some [54]else(cat? [55] a.2.1).bind λa=>(cat? a [32]).bind λa=>a
def A4L:Rd (DM×Int×GZ×Int×Int) DM:=λa (b,c,d,e,f)=>bif f<e then(at? d f).bind λg=>(TH g).bind λh=>bif h then a (b,i64.wrap (c+1),d,e,i64.wrap (f+1))else(VP g).bind λh=>bif h then(strconv_Itoa (i64.wrap (100+c))).bind λh=>(cat? [49] h).bind λh=>(ZS g).bind λi=>(cat? h i).bind λh=>(cat? b h).bind λh=>a (h,0,d,e,i64.wrap (f+1))else(strconv_Itoa (i64.wrap (900-c))).bind λc=>(cat? [51] c).bind λc=>(ZS g).bind λg=>(cat? c g).bind λc=>(cat? b c).bind λc=>a (c,0,d,e,i64.wrap (f+1))else b
def wM:=DX A4L fuel
def NV:List LM->Option DM:=λa=>(wM ([],0,a,a.length,0)).bind λa=>(cat? a [50]).bind λa=>a
def NW:Int->Option DM:=λa=>(KC a).bind λa=>a
def VQ:Int×DM->Option (DM×Int):=λ(a,b)=>(KB (a,b)).bind λa=>bif !DQ a.2 0 then some ([],a.2)else((λz=>Sum.casesOn (motive:=λ_=>Option DM) z (λx=>(NR x).bind λr=>r) (λz=>z.casesOn (λx=>(NT x).bind λr=>r) (λz=>z.casesOn (λx=>(NU x).bind λr=>r) (λz=>z.casesOn (λx=>(NV x).bind λr=>r) (λz=>z.casesOn (λx=>(NW x).bind λr=>r) (λ_=>none)))))) a.1).bind λa=>some (a,0)
def A4M:Rd ((List D_)×Int×FK×Int) (List D_):=λa (b,c,d,e)=>(bif c<e then in? b.length e else some ()).bind λ_=>(bif c<e then in? b.length (i64.wrap (e-1))else some ()).bind λ_=>(bif c<e then d (b.getD e.toNat (0,[],[],0),b.getD ((i64.wrap (e-1)).toNat) (0,[],[],0))else some 0).bind λf=>bif c<e&&f<0 then(in? b.length (i64.wrap (e-1))).bind λ_=>let f:=b.getD ((i64.wrap (e-1)).toNat) (0,[],[],0);(in? b.length e).bind λ_=>(in? b.length e).bind λ_=>(in? (b.set e.toNat f).length (i64.wrap (e-1))).bind λ_=>a ((b.set e.toNat f).set ((i64.wrap (e-1)).toNat) (b.getD e.toNat (0,[],[],0)),c,d,i64.wrap (e-1))else b
def wN:=DX A4M fuel
def A4N:Rd ((List D_)×Int×Int×FK×Int) (List D_):=λa (b,c,d,e,f)=>bif f<d then(wN (b,c,e,f)).bind λg=>a (g,c,d,e,i64.wrap (f+1))else b
def wO:=DX A4N fuel
def ZT:(List D_)×Int×Int×FK->Option (List D_):=λ(a,b,c,d)=>(wO (a,b,c,d,i64.wrap (b+1))).bind λa=>a
def A4O:Rd ((List D_)×Int×Int×Int×Int) (List D_):=λa (b,c,d,e,f)=>bif f<e then(in? b.length (i64.wrap (d+f))).bind λ_=>let g:=b.getD ((i64.wrap (d+f)).toNat) (0,[],[],0);(in? b.length (i64.wrap (c+f))).bind λ_=>(in? b.length (i64.wrap (c+f))).bind λ_=>(in? (b.set ((i64.wrap (c+f)).toNat) g).length (i64.wrap (d+f))).bind λ_=>a ((b.set ((i64.wrap (c+f)).toNat) g).set ((i64.wrap (d+f)).toNat) (b.getD ((i64.wrap (c+f)).toNat) (0,[],[],0)),c,d,e,i64.wrap (f+1))else b
def wP:=DX A4O fuel
def VR:(List D_)×Int×Int×Int×FK->Option (List D_):=λ(a,b,c,d,_)=>(wP (a,b,c,d,0)).bind λa=>a
def A4P:Rd ((List D_)×Int×FK×Int×Int) MZ:=λa (b,c,d,e,f)=>bif !DQ e f then bif f<e then(VR (b,i64.wrap (c-e),c,f,d)).bind λg=>a (g,c,d,i64.wrap (e-f),f)else(VR (b,i64.wrap (c-e),i64.wrap (i64.wrap (c+f)-e),e,d)).bind λg=>a (g,c,d,e,i64.wrap (f-e))else(b,e)
def wQ:=DX A4P fuel
def jG:(List D_)×Int×Int×Int×FK->Option (List D_):=λ(a,b,c,d,e)=>(wQ (a,c,e,i64.wrap (c-b),i64.wrap (d-c))).bind λa=>(VR (a.1,i64.wrap (c-a.2),c,a.2,e)).bind λa=>a
def A4Q(slf:(List D_)×Int×Int×Int×FK->Option (List D_))(a:(List D_)×Int×FK×Int×Int->Option MZ):(List D_)×Int×FK×Int×Int->Option MZ:=λ(b,c,d,e,f)=>bif e<f then(shr? u64 (u64.wrap (i64.wrap (e+f))) 1).bind λg=>(in? b.length (i64.wrap g)).bind λ_=>(in? b.length c).bind λ_=>(d (b.getD ((i64.wrap g).toNat) (0,[],[],0),b.getD c.toNat (0,[],[],0))).bind λh=>bif h<0 then a (b,c,d,i64.wrap (i64.wrap g+1),f)else a (b,c,d,e,i64.wrap g)else(b,e)
def wR(slf:(List D_)×Int×Int×Int×FK->Option (List D_)):(List D_)×Int×FK×Int×Int->Option MZ:=DX (A4Q slf) fuel
def A4R(slf:(List D_)×Int×Int×Int×FK->Option (List D_))(a:(List D_)×Int×Int->Option (List D_)):(List D_)×Int×Int->Option (List D_):=λ(b,c,d)=>bif d<i64.wrap (c-1)then(in? b.length (i64.wrap (d+1))).bind λ_=>let e:=b.getD ((i64.wrap (d+1)).toNat) (0,[],[],0);(in? b.length d).bind λ_=>(in? b.length d).bind λ_=>(in? (b.set d.toNat e).length (i64.wrap (d+1))).bind λ_=>a ((b.set d.toNat e).set ((i64.wrap (d+1)).toNat) (b.getD d.toNat (0,[],[],0)),c,i64.wrap (d+1))else b
def wS(slf:(List D_)×Int×Int×Int×FK->Option (List D_)):(List D_)×Int×Int->Option (List D_):=DX (A4R slf) fuel
def A4S(slf:(List D_)×Int×Int×Int×FK->Option (List D_))(a:(List D_)×Int×FK×Int×Int->Option MZ):(List D_)×Int×FK×Int×Int->Option MZ:=λ(b,c,d,e,f)=>bif e<f then(shr? u64 (u64.wrap (i64.wrap (e+f))) 1).bind λg=>(in? b.length c).bind λ_=>(in? b.length (i64.wrap g)).bind λ_=>(d (b.getD c.toNat (0,[],[],0),b.getD ((i64.wrap g).toNat) (0,[],[],0))).bind λh=>bif !(h<0)then a (b,c,d,i64.wrap (i64.wrap g+1),f)else a (b,c,d,e,i64.wrap g)else(b,e)
def wT(slf:(List D_)×Int×Int×Int×FK->Option (List D_)):(List D_)×Int×FK×Int×Int->Option MZ:=DX (A4S slf) fuel
def A4T(slf:(List D_)×Int×Int×Int×FK->Option (List D_))(a:(List D_)×Int×Int->Option (List D_)):(List D_)×Int×Int->Option (List D_):=λ(b,c,d)=>bif c<d then(in? b.length (i64.wrap (d-1))).bind λ_=>let e:=b.getD ((i64.wrap (d-1)).toNat) (0,[],[],0);(in? b.length d).bind λ_=>(in? b.length d).bind λ_=>(in? (b.set d.toNat e).length (i64.wrap (d-1))).bind λ_=>a ((b.set d.toNat e).set ((i64.wrap (d-1)).toNat) (b.getD d.toNat (0,[],[],0)),c,i64.wrap (d-1))else b
def wU(slf:(List D_)×Int×Int×Int×FK->Option (List D_)):(List D_)×Int×Int->Option (List D_):=DX (A4T slf) fuel
def jH(slf:(List D_)×Int×Int×Int×FK->Option (List D_)):Int×Int×Int×Int×Int×Bool->Option (Int×Int):=λ(a,b,c,d,e,f)=>bif f then some (i64.wrap (e-c),d)else(a,b)
def A4U(slf:(List D_)×Int×Int×Int×FK->Option (List D_))(a:(List D_)×FK×Int×Int×Int->Option MZ):(List D_)×FK×Int×Int×Int->Option MZ:=λ(b,c,d,e,f)=>bif d<e then(shr? u64 (u64.wrap (i64.wrap (d+e))) 1).bind λg=>(in? b.length (i64.wrap (f-i64.wrap g))).bind λ_=>(in? b.length (i64.wrap g)).bind λ_=>(c (b.getD ((i64.wrap (f-i64.wrap g)).toNat) (0,[],[],0),b.getD ((i64.wrap g).toNat) (0,[],[],0))).bind λh=>bif !(h<0)then a (b,c,i64.wrap (i64.wrap g+1),e,f)else a (b,c,d,i64.wrap g,f)else(b,d)
def wV(slf:(List D_)×Int×Int×Int×FK->Option (List D_)):(List D_)×FK×Int×Int×Int->Option MZ:=DX (A4U slf) fuel
def jI(slf:(List D_)×Int×Int×Int×FK->Option (List D_)):(List D_)×Int×FK×Int×Int×Bool->Option (List D_):=λ(a,b,c,d,e,f)=>bif f then(jG (a,d,b,e,c)).bind λb=>b else a
def jJ(slf:(List D_)×Int×Int×Int×FK->Option (List D_)):(List D_)×Int×FK×Int×Int×Bool->Option (List D_):=λ(a,b,c,d,e,f)=>bif f then(slf (a,b,e,d,c)).bind λb=>b else a
def wW(slf:(List D_)×Int×Int×Int×FK->Option (List D_)):(List D_)×Int×Int×Int×FK->Option (List D_):=λ(a,b,c,d,e)=>bif DQ (i64.wrap (c-b)) 1 then(wR slf (a,b,e,c,d)).bind λf=>(wS slf (f.1,f.2,b)).bind λf=>f else bif DQ (i64.wrap (d-c)) 1 then(wT slf (a,c,e,b,c)).bind λf=>(wU slf (f.1,f.2,c)).bind λf=>f else(shr? u64 (u64.wrap (i64.wrap (b+d))) 1).bind λf=>(jH slf (b,c,d,i64.wrap f,i64.wrap (i64.wrap f+c),i64.wrap f<c)).bind λg=>(wV slf (a,e,g.1,g.2,i64.wrap (i64.wrap (i64.wrap f+c)-1))).bind λa=>let g:=i64.wrap (i64.wrap (i64.wrap f+c)-a.2);(jI slf (a.1,c,e,a.2,g,(a.2<c)&&c<g)).bind λc=>(jJ slf (c,b,e,i64.wrap f,a.2,(b<a.2)&&a.2<i64.wrap f)).bind λa=>bif i64.wrap f<g&&g<d then(slf (a,i64.wrap f,g,d,e)).bind λb=>b else a
def MA:Nat->(List D_)×Int×Int×Int×FK->Option (List D_)
 |0=>λ_=>none
 |n+1=>wW (MA n)
def ZU:(List D_)×Int×Int×Int×FK->Option (List D_):=MA 100
def A4V:Rd ((List D_)×Int×FK×Int×Int×Int) MZ:=λa (b,c,d,e,f,g)=>bif g<=c then(ZT (b,f,g,d)).bind λh=>a (h,c,d,e,g,i64.wrap (g+e))else(b,f)
def wX:=DX A4V fuel
def A4W:Rd ((List D_)×Int×FK×Int×Int×Int) MZ:=λa (b,c,d,e,f,g)=>bif g<=c then(ZU (b,f,i64.wrap (f+e),g,d)).bind λh=>a (h,c,d,e,g,i64.wrap (g+i64.wrap (2*e)))else(b,f)
def wY:=DX A4W fuel
def A4X:Rd ((List D_)×Int×FK×Int) (List D_):=λa (b,c,d,e)=>bif e<c then(wY (b,c,d,e,0,i64.wrap (2*e))).bind λf=>bif i64.wrap (f.2+e)<c then(ZU (f.1,f.2,i64.wrap (f.2+e),c,d)).bind λg=>a (g,c,d,i64.wrap (e*2))else a (f.1,c,d,i64.wrap (e*2))else b
def wZ:=DX A4X fuel
def jK:(List D_)×Int×FK->Option (List D_):=λ(a,b,c)=>(wX (a,b,c,20,0,20)).bind λa=>(ZT (a.1,a.2,b,c)).bind λa=>(wZ (a,b,c,20)).bind λa=>a
def jL:(List D_)×FK->Option (List D_):=λ(a,b)=>(jK (a,a.length,b)).bind λa=>a
def jM:D_×D_->Option (Int):=λ(a,b)=>(LP (a.2.1,b.2.1)).bind λc=>(PZ (a.1,b.1)).bind λa=>(RU [c,a]).bind λa=>a
def A4Y:Rd (GP×(List D_)×JG×Int×Int) (List D_):=λa (b,c,d,e,f)=>bif f<e then(at? d f).bind λg=>(j9 ()).bind λh=>(at? h g.1).bind λh=>bif !DR g.2 []then(VQ (b.2.1,g.2)).bind λi=>(TI (b.2.1,g.2)).bind λj=>(app? 96 c [(h,i.1,j.1,g.1)]).bind λi=>a (b,i,d,e,i64.wrap (f+1))else(app? 96 c [(h,[],[],g.1)]).bind λg=>a (b,g,d,e,i64.wrap (f+1))else c
def w_:=DX A4Y fuel
def jN:DM×Int×JG×(List DM)×(List DM)->Option (List D_):=λa=>(w_ (a,[],a.2.2.1,a.2.2.1.length,0)).bind λa=>(jL (a,λx=>(jM x).bind λr=>r)).bind λa=>a
def A4Z:Rd (F6×Bool×GH×(List D_)×Int×Int) (F6×Bool×GH):=λa (b,c,d,e,f,g)=>bif g<f then(at? e g).bind λh=>bif DQ h.2.2.2 1&&!c then bif !DR h.2.2.1 []then a (b,true,(true,true,h.2.2.1),e,f,i64.wrap (g+1))else a (b,true,(false,false,[]),e,f,i64.wrap (g+1))else bif !DQ h.2.2.2 1&&c then(app? 144 b [(d,true,DQ h.2.2.2 3,h.2.2.1)]).bind λh=>a (h,false,d,e,f,i64.wrap (g+1))else a (b,c,d,e,f,i64.wrap (g+1))else(b,c,d)
def x6:=DX A4Z fuel
def jO:F6×GH×Bool->Option F6:=λ(a,b,c)=>bif c then(app? 144 a [(b,false,false,[])]).bind λb=>b else a
def A4_:Rd (GP×F6×(List DM)×Int×Int) F6:=λa (b,c,d,e,f)=>bif f<e then(at? d f).bind λg=>(TI (b.2.1,g)).bind λg=>(app? 144 c [((true,true,g.1),true,true,g.1)]).bind λg=>a (b,g,d,e,i64.wrap (f+1))else c
def x7:=DX A4_ fuel
def jP:DM×Int×JG×(List DM)×(List DM)->Option F6:=λa=>(jN a).bind λb=>(x6 ([],false,(false,false,[]),b,b.length,0)).bind λb=>(jO (b.1,b.2.2,b.2.1)).bind λb=>(x7 (a,b,a.2.2.2.1,a.2.2.2.1.length,0)).bind λa=>a
def RW:Int×GH->Option (DM×Int):=λ(a,b)=>bif !b.1 then bif b.2.1||!DR b.2.2 []then some ([],2)else some ([],0)else(KB (a,b.2.2)).bind λa=>bif !DQ a.2 0 then some ([],a.2)else((λz=>Sum.casesOn (motive:=λ_=>Option DM) z (λx=>(ZG x).bind λr=>r) (λz=>z.casesOn (λx=>(ZJ x).bind λr=>r) (λz=>z.casesOn (λx=>(ZL x).bind λr=>r) (λz=>z.casesOn (λx=>(ZM x).bind λr=>r) (λz=>z.casesOn (λx=>(ZN x).bind λr=>r) (λ_=>none)))))) a.1).bind λc=>bif !DR c b.2.2 then some ([],2)else((λz=>Sum.casesOn (motive:=λ_=>Option DM) z (λx=>(NR x).bind λr=>r) (λz=>z.casesOn (λx=>(NT x).bind λr=>r) (λz=>z.casesOn (λx=>(NU x).bind λr=>r) (λz=>z.casesOn (λx=>(NV x).bind λr=>r) (λz=>z.casesOn (λx=>(NW x).bind λr=>r) (λ_=>none)))))) a.1).bind λa=>some (a,0)
def ZV:GH×DM->Option LN:=λ(a,b)=>bif !a.1 then some (-1,[],false,[])else some (0,b,!a.2.1,a.2.2)
def ZW:GH×DM->Option LN:=λ(a,b)=>bif !a.1 then some (1,[],false,[])else some (0,b,a.2.1,a.2.2)
def N1:LN×LN->Option (Int):=λ(a,b)=>bif !DQ a.1 b.1||!DQ a.1 0 then(PZ (a.1,b.1)).bind λc=>c else(LP (a.2.1,b.2.1)).bind λc=>bif !DQ c 0||H_ a.2.2.1 b.2.2.1 then c else bif a.2.2.1 then some 1 else some (-1)
def Q0:FH×FH->Option (Int):=λ(a,b)=>(N1 (a.1,b.1)).bind λa=>a
def jQ:FH×Int×Bool->Option (FH×Int):=λ(a,b,c)=>bif c then(KA a.1.2.2.2).bind λc=>bif a.1.2.2.1 then some (a,i64.wrap (c.1+1))else(a,c.1)else(a,b)
def jR:LN×LN->Option (Int×Int×Bool):=λa=>(jQ (a,0,DQ a.1.1 0)).bind λa=>bif DQ a.1.2.1 0 then(KA a.1.2.2.2.2).bind λb=>bif !a.1.2.2.2.1 then some (a.2,i64.wrap (b.1-1),a.2<=i64.wrap (b.1-1))else some (a.2,b.1,a.2<=b.1)else some (a.2,999999999999999999,a.2<=999999999999999999)
def jS:Int×LN×Bool->Option LN:=λ(a,b,c)=>bif c then(KC a).bind λc=>(strconv_Itoa a).bind λa=>some (0,c,true,a)else b
def A4a:Rd ((List FH)×Int×(List FH)×Int×Int) (List FH):=λa (b,c,d,e,f)=>bif f<e then(at? d f).bind λg=>(jR g).bind λg=>bif !g.2.2 then a (b,c,d,e,i64.wrap (f+1))else(jS (g.2.1,(1,[],false,[]),g.2.1<999999999999999999)).bind λh=>bif 0<(b.length:Int)&&DQ g.1 (i64.wrap (c+1))then(in? b.length (i64.wrap (b.length-1))).bind λ_=>a (b.set ((i64.wrap (b.length-1)).toNat) ((b.getD ((i64.wrap (b.length-1)).toNat) ((0,[],false,[]),0,[],false,[])).1,h),g.2.1,d,e,i64.wrap (f+1))else(KC g.1).bind λc=>(strconv_Itoa g.1).bind λi=>(app? 192 b [((0,c,false,i),h)]).bind λc=>a (c,g.2.1,d,e,i64.wrap (f+1))else b
def x8:=DX A4a fuel
def jT:List FH->Option (List FH):=λa=>(x8 ([],-2,a,a.length,0)).bind λa=>a
def jU:(List FH)×Bool->Option (List FH):=λ(a,b)=>bif b then(jT a).bind λb=>b else a
def jV:FH×(GH×GH)×Bool->Option (FH×(GH×GH)):=λ(a,b,c)=>bif c then some (a,(true,!a.1.2.2.1,a.1.2.2.2),b.2)else(a,b)
def A4b:Rd ((Int×F6)×(List FH)×Int×Int) (Int×F6):=λa (b,c,d,e)=>bif e<d then(at? c e).bind λf=>(jV (f,((false,false,[]),false,false,[]),DQ f.1.1 0)).bind λf=>bif DQ f.1.2.1 0 then(app? 144 b.2 [(f.2.1,true,f.1.2.2.2.1,f.1.2.2.2.2)]).bind λg=>a ((b.1,g),c,d,i64.wrap (e+1))else(app? 144 b.2 [f.2]).bind λf=>a ((b.1,f),c,d,i64.wrap (e+1))else(b.1,b.2)
def x9:=DX A4b fuel
def jW:Int×(List FH)->Option ((Int×F6)×Int):=λ(a,b)=>(jU (b,DQ a 5)).bind λb=>bif 200<(b.length:Int)then some ((0,[]),3)else(x9 ((a,[]),b,b.length,0)).bind λa=>some ((a.1,a.2),0)
def A4c:Rd (Int×(Int×F6)×(List FH)×F6×Int×Int) (Sum ((Int×F6)×(List FH)) ((Int×F6)×Int)):=λa (b,c,d,e,f,g)=>bif g<f then(at? e g).bind λh=>(RW (b,h.1)).bind λi=>bif !DQ i.2 0 then some (.inr ((0,[]),i.2))else(RW (b,h.2)).bind λj=>bif !DQ j.2 0 then some (.inr ((0,[]),j.2))else(ZV (h.1,i.1)).bind λi=>(ZW (h.2,j.1)).bind λh=>(N1 (i,h)).bind λj=>bif j<0 then(app? 192 d [(i,h)]).bind λh=>a (b,c,h,e,f,i64.wrap (g+1))else a (b,c,d,e,f,i64.wrap (g+1))else some (.inl (c,d))
def xA:=DX A4c fuel
def A4d:Rd ((List FH)×(List FH)×Int×Int) (List FH):=λa (b,c,d,e)=>bif e<d then(in? c.length e).bind λ_=>let f:=c.getD e.toNat ((0,[],false,[]),0,[],false,[]);(bif !DQ b.length 0 then in? b.length (i64.wrap (b.length-1))else some ()).bind λ_=>(bif !DQ b.length 0 then N1 ((b.getD ((i64.wrap (b.length-1)).toNat) ((0,[],false,[]),0,[],false,[])).2,f.1)else some 0).bind λg=>bif DQ b.length 0||g<0 then(app? 192 b [f]).bind λg=>a (g,c,d,i64.wrap (e+1))else(in? b.length (i64.wrap (b.length-1))).bind λ_=>(N1 ((b.getD ((i64.wrap (b.length-1)).toNat) ((0,[],false,[]),0,[],false,[])).2,f.2)).bind λg=>bif g<0 then(in? b.length (i64.wrap (b.length-1))).bind λ_=>a (b.set ((i64.wrap (b.length-1)).toNat) ((b.getD ((i64.wrap (b.length-1)).toNat) ((0,[],false,[]),0,[],false,[])).1,f.2),c,d,i64.wrap (e+1))else a (b,c,d,i64.wrap (e+1))else b
def xB:=DX A4d fuel
def jX:Int×F6->Option ((Int×F6)×Int):=λ(a,b)=>(xA (a,(0,[]),[],b,b.length,0)).bind λb=>match b with|.inl b=>(uA (b.2,λx=>(Q0 x).bind λr=>r)).bind λb=>(xB ([],b,b.length,0)).bind λb=>(jW (a,b)).bind λa=>(a.1,a.2)|.inr a=>(a.1,a.2)
def jY:DM×Int×JG×(List DM)×(List DM)->Option ((Int×F6)×Int):=λa=>(j8 a).bind λb=>bif !DQ b 0 then some ((0,[]),b)else(jP a).bind λb=>(jX (a.2.1,b)).bind λa=>(a.1,a.2)
def VS:GN×Bool->Option (Sum GN (K9×Int)):=λ(a,b)=>bif b then(TC a.2.2.2.2.2.1).bind λb=>bif !DQ b.2 0 then some (.inr ([],b.2))else some (.inl a)else some (.inl a)
def xC:Rd (K9×(List GP)×Int×Int) (Sum K9 (K9×Int)):=λa (b,c,d,e)=>bif e<d then(at? c e).bind λf=>(jY f).bind λf=>bif !DQ f.2 0 then some (.inr ([],f.2))else(app? 48 b [f.1]).bind λf=>a (f,c,d,i64.wrap (e+1))else some (.inl b)
def VT:=DX xC fuel
def N2:DM×(List DM)×DM×Int×Bool×DM×(List GP)->Option (K9×Int):=λa=>(VL a.1).bind λb=>bif !b then some ([],8)else(gB a).bind λb=>bif !DQ b 0 then some ([],b)else(VL a.2.2.1).bind λb=>bif !b then some ([],8)else bif a.2.2.2.1<0||1000000<a.2.2.2.1 then some ([],9)else(VS (a,!DR a.2.2.2.2.2.1 [])).bind λa=>match a with|.inl a=>(bif 50<(a.2.2.2.2.2.2.length:Int)then some ([],3)else(VT ([],a.2.2.2.2.2.2,a.2.2.2.2.2.2.length,0)).bind λa=>match a with|.inl a=>some (a,0)|.inr a=>(a.1,a.2))|.inr a=>(a.1,a.2)
def TJ:DM×(List DM)×DM×Int×Bool×DM×(List GP)->Option (Int):=λa=>(N2 a).bind λa=>a.2
def A4e:Rd (NQ×(List GN)×Int×Int) G_:=λa (b,c,d,e)=>bif e<d then(at? c e).bind λf=>(TJ f).bind λg=>bif !DQ g 0 then some (.inr g)else(bif 0<e then at? b.2.1 (i64.wrap (e-1))else some ([],[],[],0,false,[],[])).bind λg=>bif 0<e&&(Op.bytesLess f.1 g.1||DR f.1 g.1)then some (.inr 10)else(at? b.2.2 e).bind λf=>(bif !(f<0)then at? b.2.2 e else some 0).bind λg=>bif f<0||b.1<g then some (.inr 9)else a (b,c,d,i64.wrap (e+1))else some (.inl ())
def xD:=DX A4e fuel
def VU:Int×(List GN)×(List Int)->Option (Int):=λa=>bif a.1<0||1000000000<a.1 then some 9 else bif 2000<(a.2.1.length:Int)then some 3 else bif !DQ a.2.2.length a.2.1.length then some 2 else(xD (a,a.2.1,a.2.1.length,0)).bind λa=>match a with|.inl _=>some 0|.inr a=>a
def xE:Rd (VF×(List (DM×(List DM)))×Int×Int) VF:=λa (b,c,d,e)=>bif e<d then(at? c e).bind λf=>a ((b.1,ED DR f.1 f b.2.1,b.2.2.1,b.2.2.2),c,d,i64.wrap (e+1))else(b.1,b.2.1,b.2.2.1,b.2.2.2)
def A4f:=DX xE fuel
def xF:Rd (VF×(List (DM×DW))×Int×Int) VF:=λa (b,c,d,e)=>bif e<d then(at? c e).bind λf=>a ((b.1,b.2.1,ED DR f.1 true b.2.2.1,b.2.2.2),c,d,i64.wrap (e+1))else(b.1,b.2.1,b.2.2.1,b.2.2.2)
def A4g:=DX xF fuel
def xG:Rd (VF×PX×Int×Int) VF:=λa (b,c,d,e)=>bif e<d then(at? c e).bind λf=>a ((b.1,b.2.1,b.2.2.1,ED DR f.1 true b.2.2.2),c,d,i64.wrap (e+1))else(b.1,b.2.1,b.2.2.1,b.2.2.2)
def A4h:=DX xG fuel
def jZ:JH×Bool->Option LO:=λ(a,b)=>(A4f ((b,[],[],[]),a.1,a.1.length,0)).bind λb=>(A4g ((b.1,b.2.1,b.2.2.1,b.2.2.2),a.2.1,a.2.1.length,0)).bind λb=>(A4h ((b.1,b.2.1,b.2.2.1,b.2.2.2),a.2.2.1,a.2.2.1.length,0)).bind λa=>(a.1,a.2.1,a.2.2.1,a.2.2.2)
def j_:Rd ER JK:=λa (b,c,d)=>bif d<c then(at? b d).bind λe=>(bif !((e.toNat:Int)<33)then at? b d else some 0).bind λf=>let g:=((e.toNat:Int)<33||126<(f.toNat:Int));(bif !g then at? b d else some 0).bind λe=>bif g||DQ e.toNat 35 then some (.inr false)else a (b,c,i64.wrap (d+1))else some (.inl ())
def A4i:=DX j_ fuel
def RX:DM->Option (Bool):=λa=>(A4i (a,a.length,0)).bind λb=>match b with|.inl _=>some (!DR a []&&(a.length:Int)<=100)|.inr a=>a
def QA:DM×DM×Bool->Option (Int):=λ(a,b,c)=>(RX a).bind λd=>bif !d then some 8 else bif !c&&(Op.bytesLess a b||DR a b)then some 10 else some 0
def k9:Rd (DM×(List DM)×Int×Int) G_:=λa (b,c,d,e)=>bif e<d then(at? c e).bind λf=>(QA (f,b,DQ e 0)).bind λb=>bif !DQ b 0 then some (.inr b)else a (f,c,d,i64.wrap (e+1))else some (.inl ())
def A4j:=DX k9 fuel
def kA:Rd (DM×(List (DM×(List DM)))×Int×Int) G_:=λa (b,c,d,e)=>bif e<d then(at? c e).bind λf=>(QA (f.1,b,DQ e 0)).bind λb=>bif !DQ b 0 then some (.inr b)else bif DQ f.2.length 0 then some (.inr 13)else bif 200<(f.2.length:Int)then some (.inr 3)else(A4j ([],f.2,f.2.length,0)).bind λb=>match b with|.inl _=>a (f.1,c,d,i64.wrap (e+1))|.inr a=>some (.inr a)else some (.inl ())
def A4k:=DX kA fuel
def kB:LO×(List (DM×(List DM)))->Option (Int):=λ(_,a)=>(A4k ([],a,a.length,0)).bind λa=>match a with|.inl _=>some 0|.inr a=>a
def kC:Rd (LO×DM×DW×Int×Int) (Sum LO (Int)):=λa (b,c,d,e,f)=>bif f<e then(at? d f).bind λg=>(QA (g.1,c,DQ f 0)).bind λc=>bif !DQ c 0 then some (.inr c)else bif !b.1&&!(DZ DR g.2 b.2.2.2).getD false then some (.inr 4)else a (b,g.1,d,e,i64.wrap (f+1))else some (.inl b)
def A4l:=DX kC fuel
def kD:Rd (LO×DM×(List (DM×DW))×Int×Int) G_:=λa (b,c,d,e,f)=>bif f<e then(at? d f).bind λg=>(QA (g.1,c,DQ f 0)).bind λc=>bif !DQ c 0 then some (.inr c)else bif 200<(g.2.length:Int)then some (.inr 3)else(A4l (b,[],g.2,g.2.length,0)).bind λb=>match b with|.inl b=>a (b,g.1,d,e,i64.wrap (f+1))|.inr a=>some (.inr a)else some (.inl ())
def A4m:=DX kD fuel
def kE:LO×(List (DM×DW))->Option (Int):=λ(a,b)=>(A4m (a,[],b,b.length,0)).bind λa=>match a with|.inl _=>some 0|.inr a=>a
def kF:LO×IY->Option (Int):=λ(a,b)=>bif DQ b.1 1 then bif !a.1&&!(DZ DR b.2.1 a.2.2.2).getD false then some 4 else bif !DR b.2.2.1 []then some 2 else(bif !DR b.2.2.2 []then RX b.2.2.2 else some false).bind λc=>bif !DR b.2.2.2 []&&!c then some 8 else some 0 else bif DQ b.1 2 then(bif !a.1&&!(!(DZ DR b.2.1 a.2.1).isSome)then OM (((DZ DR b.2.1 a.2.1).getD ([],[])).2,b.2.2.1)else some false).bind λc=>bif !a.1&&(!(DZ DR b.2.1 a.2.1).isSome||!c)then some 4 else(bif !DR b.2.2.2 []then RX b.2.2.2 else some false).bind λa=>bif !DR b.2.2.2 []&&!a then some 8 else some 0 else some 7
def kG:Rd ((List DM)×(List (DM×Bool))×LO×(List DM)×Int×Int) G_:=λa (b,c,d,e,f,g)=>bif g<f then(at? e g).bind λh=>bif !d.1&&!(DZ DR h c).getD false then some (.inr 4)else(bif 0<g then at? b (i64.wrap (g-1))else some []).bind λi=>bif 0<g&&(Op.bytesLess h i||DR h i)then some (.inr 10)else a (b,c,d,e,f,i64.wrap (g+1))else some (.inl ())
def A4n:=DX kG fuel
def ZX:LO×(List DM)×(List (DM×Bool))->Option (Int):=λ(a,b,c)=>(A4n (b,c,a,b,b.length,0)).bind λa=>match a with|.inl _=>some 0|.inr a=>a
def kH:Rd (LO×(List IY)×Int×Int) (Sum LO (Int)):=λa (b,c,d,e)=>bif e<d then(at? c e).bind λf=>(kF (b,f)).bind λf=>bif !DQ f 0 then some (.inr f)else a (b,c,d,i64.wrap (e+1))else some (.inl b)
def A4o:=DX kH fuel
def kI:Rd (LO×DM×PX×Int×Int) G_:=λa (b,c,d,e,f)=>bif f<e then(at? d f).bind λg=>(QA (g.1,c,DQ f 0)).bind λc=>bif !DQ c 0 then some (.inr c)else(RX g.2.1).bind λc=>bif !c then some (.inr 8)else bif 200<(g.2.2.1.length:Int)then some (.inr 3)else(A4o (b,g.2.2.1,g.2.2.1.length,0)).bind λb=>match b with|.inl b=>(ZX (b,g.2.2.2,b.2.2.1)).bind λc=>bif !DQ c 0 then some (.inr c)else a (b,g.1,d,e,i64.wrap (f+1))|.inr a=>some (.inr a)else some (.inl ())
def A4p:=DX kI fuel
def kJ:LO×PX->Option (Int):=λ(a,b)=>(A4p (a,[],b,b.length,0)).bind λa=>match a with|.inl _=>some 0|.inr a=>a
def xH:LO×JH->Option (Int):=λ(a,b)=>bif 200<(b.1.length:Int)||500<(b.2.1.length:Int)||3000<(b.2.2.1.length:Int)then some 3 else(kB (a,b.1)).bind λc=>bif !DQ c 0 then c else(kE (a,b.2.1)).bind λc=>bif !DQ c 0 then c else(kJ (a,b.2.2.1)).bind λc=>bif !DQ c 0 then c else(ZX (a,b.2.2.2,a.2.2.2)).bind λa=>a
def kK:(List (DM×(List DM)))×(List (DM×DW))×PX×(List DM)->Option (Int):=λa=>(jZ (a,false)).bind λb=>(xH (b,a)).bind λa=>a
def kL:Rd (DM×(List DM)×Int×Int) G_:=λa (b,c,d,e)=>bif e<d then(at? c e).bind λf=>(QA (f,b,DQ e 0)).bind λb=>bif !DQ b 0 then some (.inr b)else a (f,c,d,i64.wrap (e+1))else some (.inl ())
def A4q:=DX kL fuel
def kM:List DM->Option (Int):=λa=>bif 30<(a.length:Int)then some 3 else(A4q ([],a,a.length,0)).bind λa=>match a with|.inl _=>some 0|.inr a=>a
def A4r:Rd (DW×DM×(((DM×DM)×DM)->Option Int)×Int×Int) (Int):=λa (b,c,d,e,f)=>bif e<f then(shr? u64 (u64.wrap (i64.wrap (e+f))) 1).bind λg=>(at? b (i64.wrap g)).bind λh=>(d (h,c)).bind λh=>bif h<0 then a (b,c,d,i64.wrap (i64.wrap g+1),f)else a (b,c,d,e,i64.wrap g)else e
def A4s:=DX A4r fuel
def kN:DW×DM×(((DM×DM)×DM)->Option Int)->Option (Int×Bool):=λ(a,b,c)=>(A4s (a,b,c,0,a.length)).bind λd=>(bif d<a.length then at? a d else some ([],[])).bind λe=>(bif d<a.length then c (e,b)else some 0).bind λb=>some (d,(d<a.length)&&DQ b 0)
def xI:(DM×DM)×DM->Option (Int):=λ(a,b)=>(LP (a.1,b)).bind λa=>a
def VV:(DM×DW)×DM->Option (DM×Bool):=λ(a,b)=>(kN (a.2,b,λx=>(xI x).bind λr=>r)).bind λb=>bif !b.2 then some ([],false)else(at? a.2 b.1).bind λa=>some (a.2,true)
def kO:Rd ((DM×DW)×(List DM)×Int×Int) JK:=λa (b,c,d,e)=>bif e<d then(at? c e).bind λf=>(VV (b,f)).bind λf=>bif !f.2 then some (.inr false)else a (b,c,d,i64.wrap (e+1))else some (.inl ())
def A4t:=DX kO fuel
def kP:(DM×DW)×(DM×(List DM))->Option (Bool):=λ(a,b)=>(A4t (a,b.2,b.2.length,0)).bind λa=>match a with|.inl _=>some true|.inr a=>a
def xJ:Rd (OK×PX×Int×Int) OK:=λa (b,c,d,e)=>bif e<d then(at? c e).bind λf=>a ((b.1,ED DR f.1 e b.2.1,b.2.2.1,b.2.2.2.1,b.2.2.2.2.1,b.2.2.2.2.2),c,d,i64.wrap (e+1))else(b.1,b.2.1,b.2.2.1,b.2.2.2.1,b.2.2.2.2.1,b.2.2.2.2.2)
def A4u:=DX xJ fuel
def xK:Rd (OK×(List (DM×DW))×Int×Int) OK:=λa (b,c,d,e)=>bif e<d then(at? c e).bind λf=>a ((b.1,b.2.1,ED DR f.1 e b.2.2.1,b.2.2.2.1,b.2.2.2.2.1,b.2.2.2.2.2),c,d,i64.wrap (e+1))else(b.1,b.2.1,b.2.2.1,b.2.2.2.1,b.2.2.2.2.1,b.2.2.2.2.2)
def A4v:=DX xK fuel
def xL:Rd (OK×(DM×(List DM))×(List (DM×DW))×Int×Int) OK:=λa (b,c,d,e,f)=>bif f<e then(at? d f).bind λg=>(kP (g,c)).bind λg=>bif g then(app? 24 ((DZ DR c.1 b.2.2.2.1).getD []) [f]).bind λg=>(bif DR c.1 c.1 then some ()else none).bind λ_=>a ((b.1,b.2.1,b.2.2.1,ED DR c.1 g b.2.2.2.1,b.2.2.2.2.1,b.2.2.2.2.2),c,d,e,i64.wrap (f+1))else a ((b.1,b.2.1,b.2.2.1,b.2.2.2.1,b.2.2.2.2.1,b.2.2.2.2.2),c,d,e,i64.wrap (f+1))else(b.1,b.2.1,b.2.2.1,b.2.2.2.1,b.2.2.2.2.1,b.2.2.2.2.2)
def A4w:=DX xL fuel
def xM:Rd (JH×OK×(List (DM×(List DM)))×Int×Int) OK:=λa (b,c,d,e,f)=>bif f<e then(at? d f).bind λg=>(A4w ((c.1,c.2.1,c.2.2.1,c.2.2.2.1,c.2.2.2.2.1,c.2.2.2.2.2),g,b.2.1,b.2.1.length,0)).bind λg=>a (b,(g.1,g.2.1,g.2.2.1,g.2.2.2.1,g.2.2.2.2.1,g.2.2.2.2.2),d,e,i64.wrap (f+1))else(c.1,c.2.1,c.2.2.1,c.2.2.2.1,c.2.2.2.2.1,c.2.2.2.2.2)
def xN:=DX xM fuel
def xO:Rd (OK×(List DM)×Int×Int) OK:=λa (b,c,d,e)=>bif e<d then(at? c e).bind λf=>a ((b.1,b.2.1,b.2.2.1,b.2.2.2.1,ED DR f true b.2.2.2.2.1,b.2.2.2.2.2),c,d,i64.wrap (e+1))else(b.1,b.2.1,b.2.2.1,b.2.2.2.1,b.2.2.2.2.1,b.2.2.2.2.2)
def A4x:=DX xO fuel
def kQ:JH×Int×(List DM)->Option (Option GY):=λ(a,b,c)=>(A4u ((a,[],[],[],ED DR [] true [],DQ b 2),a.2.2.1,a.2.2.1.length,0)).bind λb=>(A4v ((b.1,b.2.1,b.2.2.1,b.2.2.2.1,b.2.2.2.2.1,b.2.2.2.2.2),a.2.1,a.2.1.length,0)).bind λb=>(xN (a,(b.1,b.2.1,b.2.2.1,b.2.2.2.1,b.2.2.2.2.1,b.2.2.2.2.2),a.1,a.1.length,0)).bind λa=>(A4x ((a.1,a.2.1,a.2.2.1,a.2.2.2.1,a.2.2.2.2.1,a.2.2.2.2.2),c,c.length,0)).bind λa=>some (some (a.1,a.2.1,a.2.2.1,a.2.2.2.1,a.2.2.2.2.1,a.2.2.2.2.2))
def ZY:JH×Int×(List DM)->Option ((Option GY)×Int):=λ(a,b,c)=>(kK a).bind λd=>bif !DQ d 0 then some ((none:Option GY),d)else(kM c).bind λd=>bif !DQ d 0 then some ((none:Option GY),d)else bif !DQ b 1&&!DQ b 2 then some ((none:Option GY),7)else(kQ (a,b,c)).bind λa=>some (a,0)
def TK:JI×Int->Option JI:=λ(a,b)=>(in? a.2.1.length b).bind λ_=>bif !a.2.1.getD b.toNat false then(in? a.2.1.length b).bind λ_=>(app? 24 a.2.2.2.2.2.2 [b]).bind λc=>some (a.1,a.2.1.set b.toNat true,a.2.2.1,a.2.2.2.1,a.2.2.2.2.1,a.2.2.2.2.2.1,c)else(a.1,a.2.1,a.2.2.1,a.2.2.2.1,a.2.2.2.2.1,a.2.2.2.2.2.1,a.2.2.2.2.2.2)
def kR:Rd ((List Int)×Int×Int×Int) G_:=λa (b,c,d,e)=>bif e<d then(at? b e).bind λf=>bif DQ c f then some (.inr e)else a (b,c,d,i64.wrap (e+1))else some (.inl ())
def A4y:=DX kR fuel
def xP:(List Int)×Int->Option (Int):=λ(a,b)=>(A4y (a,b,a.length,0)).bind λa=>match a with|.inl _=>some (-1)|.inr a=>a
def ZZ:(List Int)×Int->Option (Bool):=λ(a,b)=>(xP (a,b)).bind λa=>some (0<=a)
def TL:(Option GY)×IY×Int->Option (Int):=λ(a,b,c)=>(a).bind λd=>(at? d.1.2.1 c).bind λc=>(VV (c,b.2.2.1)).bind λb=>(a).bind λa=>some ((DZ DR b.1 a.2.1).getD 0)
def kS:Rd (JI×Int×DW×Int×Int) JI:=λa (b,c,d,e,f)=>bif f<e then(at? d f).bind λg=>(b.1).bind λh=>(ZZ ((DZ DR g.1 h.2.2.2.1).getD [],c)).bind λh=>bif h then(TL (b.1,(0,g.1,g.2,[]),c)).bind λg=>(TK ((b.1,b.2.1,b.2.2.1,b.2.2.2.1,b.2.2.2.2.1,b.2.2.2.2.2.1,b.2.2.2.2.2.2),g)).bind λg=>a ((g.1,g.2.1,g.2.2.1,g.2.2.2.1,g.2.2.2.2.1,g.2.2.2.2.2.1,g.2.2.2.2.2.2),c,d,e,i64.wrap (f+1))else a ((b.1,b.2.1,b.2.2.1,b.2.2.2.1,b.2.2.2.2.1,b.2.2.2.2.2.1,b.2.2.2.2.2.2),c,d,e,i64.wrap (f+1))else(b.1,b.2.1,b.2.2.1,b.2.2.2.1,b.2.2.2.2.1,b.2.2.2.2.2.1,b.2.2.2.2.2.2)
def A4z:=DX kS fuel
def kT:JI×Int->Option JI:=λ(a,b)=>(in? a.2.2.1.length b).bind λ_=>bif a.2.2.1.getD b.toNat false then(a.1,a.2.1,a.2.2.1,a.2.2.2.1,a.2.2.2.2.1,a.2.2.2.2.2.1,a.2.2.2.2.2.2)else(in? a.2.2.1.length b).bind λ_=>(a.1).bind λc=>bif !c.2.2.2.2.2 then some (a.1,a.2.1,a.2.2.1.set b.toNat true,a.2.2.2.1,a.2.2.2.2.1,a.2.2.2.2.2.1,a.2.2.2.2.2.2)else(A4z ((a.1,a.2.1,a.2.2.1.set b.toNat true,a.2.2.2.1,a.2.2.2.2.1,a.2.2.2.2.2.1,a.2.2.2.2.2.2),b,a.2.2.2.2.1,a.2.2.2.2.1.length,0)).bind λa=>(a.1,a.2.1,a.2.2.1,a.2.2.2.1,a.2.2.2.2.1,a.2.2.2.2.2.1,a.2.2.2.2.2.2)
def kU:Rd (JI×IY×(List Int)×Int×Int) JI:=λa (b,c,d,e,f)=>bif f<e then(at? d f).bind λg=>(b.1).bind λh=>(bif !(!h.2.2.2.2.2)then in? b.2.2.1.length g else some ()).bind λ_=>bif !h.2.2.2.2.2||b.2.2.1.getD g.toNat false then(TL (b.1,c,g)).bind λg=>(TK ((b.1,b.2.1,b.2.2.1,b.2.2.2.1,b.2.2.2.2.1,b.2.2.2.2.2.1,b.2.2.2.2.2.2),g)).bind λg=>a ((g.1,g.2.1,g.2.2.1,g.2.2.2.1,g.2.2.2.2.1,g.2.2.2.2.2.1,g.2.2.2.2.2.2),c,d,e,i64.wrap (f+1))else a ((b.1,b.2.1,b.2.2.1,b.2.2.2.1,b.2.2.2.2.1,b.2.2.2.2.2.1,b.2.2.2.2.2.2),c,d,e,i64.wrap (f+1))else(b.1,b.2.1,b.2.2.1,b.2.2.2.1,b.2.2.2.2.1,b.2.2.2.2.2.1,b.2.2.2.2.2.2)
def A50:=DX kU fuel
def kV:JI×IY->Option JI:=λ(a,b)=>bif DQ b.1 1 then(a.1).bind λc=>(TK ((a.1,a.2.1,a.2.2.1,a.2.2.2.1,a.2.2.2.2.1,a.2.2.2.2.2.1,a.2.2.2.2.2.2),(DZ DR b.2.1 c.2.1).getD 0)).bind λc=>(c.1,c.2.1,c.2.2.1,c.2.2.2.1,c.2.2.2.2.1,c.2.2.2.2.2.1,c.2.2.2.2.2.2)else bif (DZ (λ(x y:DM×DM)=>DR x.1 y.1&&DR x.2 y.2) (b.2.1,b.2.2.1) a.2.2.2.1).getD false then(a.1,a.2.1,a.2.2.1,a.2.2.2.1,a.2.2.2.2.1,a.2.2.2.2.2.1,a.2.2.2.2.2.2)else(app? 48 a.2.2.2.2.1 [(b.2.1,b.2.2.1)]).bind λc=>(a.1).bind λd=>(A50 ((a.1,a.2.1,a.2.2.1,ED (λ(x y:DM×DM)=>DR x.1 y.1&&DR x.2 y.2) (b.2.1,b.2.2.1) true a.2.2.2.1,c,a.2.2.2.2.2.1,a.2.2.2.2.2.2),b,(DZ DR b.2.1 d.2.2.2.1).getD [],(((DZ DR b.2.1 d.2.2.2.1).getD []).length:Int),0)).bind λa=>(a.1,a.2.1,a.2.2.1,a.2.2.2.1,a.2.2.2.2.1,a.2.2.2.2.2.1,a.2.2.2.2.2.2)
def kW:Rd ((Option GY)×JI×(List DM)×Int×Int) JI:=λa (b,c,d,e,f)=>bif f<e then(at? d f).bind λg=>(b).bind λh=>(TK ((c.1,c.2.1,c.2.2.1,c.2.2.2.1,c.2.2.2.2.1,c.2.2.2.2.2.1,c.2.2.2.2.2.2),(DZ DR g h.2.1).getD 0)).bind λg=>a (b,(g.1,g.2.1,g.2.2.1,g.2.2.2.1,g.2.2.2.2.1,g.2.2.2.2.2.1,g.2.2.2.2.2.2),d,e,i64.wrap (f+1))else(c.1,c.2.1,c.2.2.1,c.2.2.2.1,c.2.2.2.2.1,c.2.2.2.2.2.1,c.2.2.2.2.2.2)
def A51:=DX kW fuel
def kX:Rd ((Option GY)×JI×(List DM)×Int×Int) JI:=λa (b,c,d,e,f)=>bif f<e then(at? d f).bind λg=>(b).bind λh=>(kT ((c.1,c.2.1,c.2.2.1,c.2.2.2.1,c.2.2.2.2.1,c.2.2.2.2.2.1,c.2.2.2.2.2.2),(DZ DR g h.2.2.1).getD 0)).bind λg=>a (b,(g.1,g.2.1,g.2.2.1,g.2.2.2.1,g.2.2.2.2.1,g.2.2.2.2.2.1,g.2.2.2.2.2.2),d,e,i64.wrap (f+1))else(c.1,c.2.1,c.2.2.1,c.2.2.2.1,c.2.2.2.2.1,c.2.2.2.2.2.1,c.2.2.2.2.2.2)
def A52:=DX kX fuel
def kY:Rd ((Option GY)×Int×JI×(List IY)×Int×Int) (Sum JI JI):=λa (b,c,d,e,f,g)=>bif g<f then(at? e g).bind λh=>(b).bind λi=>bif !(DZ DR h.2.2.2 i.2.2.2.2.1).getD false then a (b,c,(d.1,d.2.1,d.2.2.1,d.2.2.2.1,d.2.2.2.2.1,d.2.2.2.2.2.1,d.2.2.2.2.2.2),e,f,i64.wrap (g+1))else(kV ((d.1,d.2.1,d.2.2.1,d.2.2.2.1,d.2.2.2.2.1,d.2.2.2.2.2.1,d.2.2.2.2.2.2),h)).bind λh=>(bif 0<=c then in? h.2.1.length c else some ()).bind λ_=>bif 0<=c&&h.2.1.getD c.toNat false then some (.inl (h.1,h.2.1,h.2.2.1,h.2.2.2.1,h.2.2.2.2.1,h.2.2.2.2.2.1,h.2.2.2.2.2.2))else a (b,c,(h.1,h.2.1,h.2.2.1,h.2.2.2.1,h.2.2.2.2.1,h.2.2.2.2.2.1,h.2.2.2.2.2.2),e,f,i64.wrap (g+1))else some (.inr (d.1,d.2.1,d.2.2.1,d.2.2.2.1,d.2.2.2.2.1,d.2.2.2.2.2.1,d.2.2.2.2.2.2))
def A53:=DX kY fuel
def A54:Rd ((Option GY)×Int×JI) JI:=λa (b,c,d)=>bif 0<(d.2.2.2.2.2.2.length:Int)then(in? d.2.2.2.2.2.2.length 0).bind λ_=>(cut? d.2.2.2.2.2.2 1 d.2.2.2.2.2.2.length).bind λe=>bif DQ (d.2.2.2.2.2.2.getD 0 0) c then(d.1,d.2.1,d.2.2.1,d.2.2.2.1,d.2.2.2.2.1,d.2.2.2.2.2.1,e)else(b).bind λf=>(at? f.1.2.2.1 (d.2.2.2.2.2.2.getD 0 0)).bind λf=>(A52 (b,(d.1,d.2.1,d.2.2.1,d.2.2.2.1,d.2.2.2.2.1,d.2.2.2.2.2.1,e),f.2.2.2,f.2.2.2.length,0)).bind λe=>(b).bind λf=>(at? f.1.2.2.1 (d.2.2.2.2.2.2.getD 0 0)).bind λf=>(A53 (b,c,(e.1,e.2.1,e.2.2.1,e.2.2.2.1,e.2.2.2.2.1,e.2.2.2.2.2.1,e.2.2.2.2.2.2),f.2.2.1,f.2.2.1.length,0)).bind λe=>match e with|.inl e=>(e.1,e.2.1,e.2.2.1,e.2.2.2.1,e.2.2.2.2.1,e.2.2.2.2.2.1,e.2.2.2.2.2.2)|.inr e=>a (b,c,e.1,e.2.1,e.2.2.1,e.2.2.2.1,e.2.2.2.2.1,e.2.2.2.2.2.1,e.2.2.2.2.2.2)else(d.1,d.2.1,d.2.2.1,d.2.2.2.1,d.2.2.2.2.1,d.2.2.2.2.2.1,d.2.2.2.2.2.2)
def A55:=DX A54 fuel
def Z_:(Option GY)×Int->Option MX:=λ(a,b)=>(a).bind λc=>(mks? 24 c.1.2.2.1.length c.1.2.2.1.length false).bind λc=>(a).bind λd=>(mks? 24 d.1.2.1.length d.1.2.1.length false).bind λd=>(a).bind λe=>(A51 (a,(a,c,d,[],[],[],[]),e.1.2.2.2,e.1.2.2.2.length,0)).bind λc=>(A55 (a,b,c.1,c.2.1,c.2.2.1,c.2.2.2.1,c.2.2.2.2.1,c.2.2.2.2.2.1,c.2.2.2.2.2.2)).bind λa=>some (some (a.1,a.2.1,a.2.2.1,a.2.2.2.1,a.2.2.2.2.1,a.2.2.2.2.2.1,a.2.2.2.2.2.2))
def kZ:Rd (JH×(List DM)×(List Bool)×Int×Int) (List DM):=λa (b,c,d,e,f)=>bif f<e then(at? d f).bind λg=>bif g then(at? b.2.2.1 f).bind λg=>(app? 24 c [g.1]).bind λg=>a (b,g,d,e,i64.wrap (f+1))else a (b,c,d,e,i64.wrap (f+1))else c
def A56:=DX kZ fuel
def VW:JH×Int×(List DM)->Option ((List DM)×Int):=λ(a,b,c)=>(ZY (a,b,c)).bind λb=>bif !DQ b.2 0 then some ([],b.2)else(Z_ (b.1,-1)).bind λb=>(b).bind λb=>(A56 (a,[],b.2.1,b.2.1.length,0)).bind λa=>some (a,0)
def aA:H7×Int×NQ×(List JH)×Int×(List DM)×(List L1)->Option (Int):=λa=>bif 1<(a.2.2.2.1.length:Int)then some 2 else bif DQ a.2.2.2.1.length 0 then bif !DQ a.2.2.2.2.1 0||0<(a.2.2.2.2.2.1.length:Int)then some 2 else some 0 else(at? a.2.2.2.1 0).bind λb=>(VW (b,a.2.2.2.2.1,a.2.2.2.2.2.1)).bind λa=>a.2
def k_:Rd ER JK:=λa (b,c,d)=>bif d<c then(at? b d).bind λe=>bif !(97<=(e.toNat:Int)&&(e.toNat:Int)<=122||65<=(e.toNat:Int)&&(e.toNat:Int)<=90||48<=(e.toNat:Int)&&(e.toNat:Int)<=57||DQ e.toNat 46||DQ e.toNat 45||DQ e.toNat 95)then some (.inr false)else a (b,c,i64.wrap (d+1))else some (.inl ())
def A57:=DX k_ fuel
def lA:DM->Option (Bool):=λa=>(A57 (a,a.length,0)).bind λb=>match b with|.inl _=>some (!DR a []&&(a.length:Int)<=60)|.inr a=>a
def lB:Rd ER JK:=λa (b,c,d)=>bif d<c then(at? b d).bind λe=>(bif !((e.toNat:Int)<32)then at? b d else some 0).bind λf=>bif (e.toNat:Int)<32||DQ f.toNat 127 then some (.inr false)else a (b,c,i64.wrap (d+1))else some (.inl ())
def A58:=DX lB fuel
def lC:DM->Option (Bool):=λa=>(A58 (a,a.length,0)).bind λb=>match b with|.inl _=>some ((a.length:Int)<=100)|.inr a=>a
def A59:Rd (ER×Bool×HX) (Sum (ER×HX) (ER×HX×Bool)):=λa (b,c,d)=>bif b.2.2<0 then(L2 (some b)).bind λe=>bif !DQ e 42 then(Y_ b).bind λe=>bif !e.2.1 then some (.inl (e.2.2,d))else(app? 48 d [(1,e.1)]).bind λf=>a (e.2.2,c,f)else(L2 (some (b.1,i64.wrap (b.2.1+1),b.2.2))).bind λe=>bif DQ e 42 then(bif !(!c||0<(d.length:Int))then cut? b.1 (i64.wrap (b.2.1+1)) b.1.length else some []).bind λe=>(bif !(!c||0<(d.length:Int))then strings_HasPrefix (e,[42,47])else some false).bind λe=>bif !c||0<(d.length:Int)||!e then(M_ ((b.1,i64.wrap (b.2.1+1),b.2.2),i64.wrap (b.2.1+1))).bind λe=>some (.inr (e,[],false))else some (.inr ((b.1,i64.wrap (i64.wrap (b.2.1+1)+1),b.2.2),[],true))else(app? 48 d [(2,0)]).bind λe=>a ((b.1,i64.wrap (b.2.1+1),b.2.2),c,e)else some (.inl (b,d))
def A5A:=DX A59 fuel
def aB:ER×Bool->Option (HX×Bool×ER):=λ(a,b)=>(A5A (a,b,[])).bind λa=>match a with|.inl a=>bif DQ a.2.length 0 then(M_ (a.1,a.1.2.1)).bind λb=>some (a.2,false,b)else some (a.2,false,a.1)|.inr a=>(a.2.1,a.2.2,a.1)
def xQ:(DM×(HX×Int))×HX×Bool->Option (DM×(HX×Int)):=λ(a,b,c)=>bif c then(app? 48 a.2.1 [(4,0)]).bind λc=>(a.1,c,a.2.2)else(app? 48 a.2.1 b).bind λb=>(a.1,b,a.2.2)
def A5B:Rd (ER×K8×(DM×(HX×Int))) (Sum (ER×K8×(DM×(HX×Int))) (ER×K8)):=λa (b,c,d)=>bif b.2.2<0 then(aB (b,true)).bind λe=>bif 0<=e.2.2.2.2 then some (.inr (e.2.2,d.1,d.2.1,d.2.2))else(xQ ((d.1,d.2.1,d.2.2),e.1,e.2.1)).bind λf=>(L2 (some e.2.2)).bind λg=>bif !DQ g 47 then some (.inl (e.2.2,c,f.1,f.2.1,f.2.2))else bif !e.2.1 then(app? 48 f.2.1 [(3,0)]).bind λg=>a ((e.2.2.1,i64.wrap (e.2.2.2.1+1),e.2.2.2.2),c,f.1,g,i64.wrap (f.2.2+1))else a ((e.2.2.1,i64.wrap (e.2.2.2.1+1),e.2.2.2.2),c,f.1,f.2.1,i64.wrap (f.2.2+1))else some (.inl (b,c,d.1,d.2.1,d.2.2))
def A5C:=DX A5B fuel
def xR:ER×(DM×(HX×Int))×Bool->Option (ER×(DM×(HX×Int))):=λ(a,b,c)=>bif c then(a,b.1,b.2.1,b.2.2)else bif DQ a.2.1 a.1.length then(app? 48 b.2.1 [(6,0)]).bind λc=>(a,b.1,c,b.2.2)else(L2 (some a)).bind λc=>bif DQ c 64 then(aB ((a.1,i64.wrap (a.2.1+1),a.2.2),false)).bind λc=>(app? 48 b.2.1 [(5,0)]).bind λd=>(app? 48 d c.1).bind λd=>(c.2.2,b.1,d,b.2.2)else(a,b.1,b.2.1,b.2.2)
def lD:DM×Int×Int->Option (K8×ER):=λa=>(YZ (a,true)).bind λa=>(A5C (a.2,([],[],0),a.1,[],0)).bind λa=>match a with|.inl a=>(xR (a.1,(a.2.2.1,a.2.2.2.1,a.2.2.2.2),0<=a.1.2.2)).bind λa=>bif a.1.2.2<0&&a.1.2.1<a.1.1.length then(M_ (a.1,a.1.2.1)).bind λb=>some ((a.2.1,a.2.2.1,a.2.2.2),b)else some ((a.2.1,a.2.2.1,a.2.2.2),a.1)|.inr a=>(a.2,a.1)
def aC:DM->Option (K8×Int×Int):=λa=>bif 3000<(a.length:Int)then some (([],[],0),0,3)else(lD (a,0,-1)).bind λa=>bif 0<=a.2.2.2 then some (([],[],0),a.2.2.2,6)else(bif !DR a.1.1 [42]then YR a.1.1 else some 0).bind λb=>bif !DR a.1.1 [42]&&b<0 then some (([],[],0),0,7)else bif 10<a.1.2.2 then some (([],[],0),0,3)else some (a.1,0,0)
def lE:DM->Option (Int×Int):=λa=>(aC a).bind λa=>(a.2.1,a.2.2)
def ON:DM×DM×DM×Int×Int×Int×Int->Option (Int):=λa=>(lA a.1).bind λb=>(bif !(!b)then lC a.2.1 else some false).bind λc=>bif !b||!c then some 8 else(lE a.2.2.1).bind λb=>bif !DQ b.2 0 then b.2 else bif a.2.2.2.1<1||4<a.2.2.2.1 then some 7 else bif !DQ a.2.2.2.1 4&&!DQ a.2.2.2.2.1 0 then some 2 else bif DQ a.2.2.2.1 4&&(a.2.2.2.2.1<1||5<a.2.2.2.2.1)then some 7 else bif a.2.2.2.2.2.1<0||1000000<a.2.2.2.2.2.1||a.2.2.2.2.2.2<0||100<a.2.2.2.2.2.2 then some 9 else some 0
def lF:Rd ((List L1)×Int×Int) G_:=λa (b,c,d)=>bif d<c then(at? b d).bind λe=>(ON e).bind λe=>bif !DQ e 0 then some (.inr e)else a (b,c,i64.wrap (d+1))else some (.inl ())
def xS:=DX lF fuel
def TM:H7×Int×NQ×(List JH)×Int×(List DM)×(List L1)->Option (Int):=λa=>(VK a.1).bind λb=>bif !DQ b 0 then b else bif a.2.1<1||4<a.2.1 then some 9 else(VU a.2.2.1).bind λb=>bif !DQ b 0 then b else(aA a).bind λb=>bif !DQ b 0 then b else bif 2000<(a.2.2.2.2.2.2.length:Int)then some 3 else(xS (a.2.2.2.2.2.2,a.2.2.2.2.2.2.length,0)).bind λa=>match a with|.inl _=>some 0|.inr a=>a
def aD:Int×DM->Option (Int):=λ(a,b)=>(KB (a,b)).bind λa=>a.2
def lG:(GH×GH)×(List FH)->Option (Int):=λ(a,b)=>bif !a.1.1||!a.1.2.1||a.2.1&&(!a.2.2.1||DR a.2.2.2 [57,57,57,57,57,57,57,57,57,57,57,57,57,57,57,57,57,57])then some 2 else bif 0<(b.length:Int)then(KA a.1.2.2).bind λa=>(at? b (i64.wrap (b.length-1))).bind λb=>(KA b.2.2.2.2).bind λb=>bif a.1<i64.wrap (b.1+2)then some 10 else some 0 else some 0
def A5D:Rd ((Int×F6)×(List FH)×F6×Int×Int) (Sum (List FH) ((List FH)×Int)):=λa (b,c,d,e,f)=>bif f<e then(at? d f).bind λg=>(RW (b.1,g.1)).bind λh=>bif !DQ h.2 0 then some (.inr ([],h.2))else(RW (b.1,g.2)).bind λi=>bif !DQ i.2 0 then some (.inr ([],i.2))else(ZV (g.1,h.1)).bind λh=>(ZW (g.2,i.1)).bind λi=>(N1 (h,i)).bind λj=>(bif !(0<=j)&&0<(c.length:Int)then at? c (i64.wrap (c.length-1))else some ((0,[],false,[]),0,[],false,[])).bind λk=>(bif !(0<=j)&&0<(c.length:Int)then N1 (h,k.2)else some 0).bind λk=>bif 0<=j||0<(c.length:Int)&&k<=0 then some (.inr ([],10))else bif DQ b.1 5 then(lG (g,c)).bind λg=>bif !DQ g 0 then some (.inr ([],g))else(app? 192 c [(h,i)]).bind λg=>a (b,g,d,e,i64.wrap (f+1))else(app? 192 c [(h,i)]).bind λg=>a (b,g,d,e,i64.wrap (f+1))else some (.inl c)
def xT:=DX A5D fuel
def aF:Int×F6->Option ((List FH)×Int):=λa=>bif a.1<1||5<a.1 then some ([],7)else bif 200<(a.2.length:Int)then some ([],3)else(xT (a,[],a.2,a.2.length,0)).bind λa=>match a with|.inl a=>some (a,0)|.inr a=>(a.1,a.2)
def lH:FH×(Option LN)->Option (Bool):=λ(a,b)=>(b).bind λc=>(N1 (a.1,c)).bind λc=>(bif c<=0 then b else some (0,[],false,[])).bind λb=>(bif c<=0 then N1 (b,a.2)else some 0).bind λa=>some (c<=0&&a<0)
def A5E:Rd ((List FH)×(FH->Option Bool)×Int×Int) G_:=λa (b,c,d,e)=>bif e<d then(at? b e).bind λf=>(c f).bind λf=>bif f then some (.inr e)else a (b,c,d,i64.wrap (e+1))else some (.inl ())
def A5F:=DX A5E fuel
def xU:(List FH)×(FH->Option Bool)->Option (Int):=λ(a,b)=>(A5F (a,b,a.length,0)).bind λa=>match a with|.inl _=>some (-1)|.inr a=>a
def aG:(List FH)×DM->Option (Int):=λ(a,b)=>(xU (a,λx=>(lH (x,some (0,b,false,[]))).bind λr=>r)).bind λa=>a
def aH:(Int×F6)×DM->Option (Bool×Int):=λ(a,b)=>(aF a).bind λc=>bif !DQ c.2 0 then some (false,c.2)else(KB (a.1,b)).bind λa=>bif !DQ a.2 0 then some (false,a.2)else((λz=>Sum.casesOn (motive:=λ_=>Option DM) z (λx=>(NR x).bind λr=>r) (λz=>z.casesOn (λx=>(NT x).bind λr=>r) (λz=>z.casesOn (λx=>(NU x).bind λr=>r) (λz=>z.casesOn (λx=>(NV x).bind λr=>r) (λz=>z.casesOn (λx=>(NW x).bind λr=>r) (λ_=>none)))))) a.1).bind λa=>(aG (c.1,a)).bind λa=>some (0<=a,0)
def TN:GP×(Int×F6)×DM×DM->Option (Bool):=λ(a,b,c,d)=>(bif !(!DR a.1 c||DR d [])then aD (a.2.1,d)else some 0).bind λe=>bif !DR a.1 c||DR d []||!DQ e 0 then some false else(aH (b,d)).bind λa=>some (DQ a.2 0&&a.1)
def lI:(Int×Int)×(Int×Int)->Option (Int):=λ(a,b)=>(PZ (a.1,b.1)).bind λc=>(PZ (a.2,b.2)).bind λa=>(RU [c,a]).bind λa=>a
def lJ:Rd (H7×K9×HX×Int×GP×(List Int)×Int×Int) (H7×HX):=λa (b,c,d,e,f,g,h,i)=>bif i<h then(at? g i).bind λj=>(at? c e).bind λk=>(at? b.2.2.2.1 j).bind λl=>(TN (f,k,f.1,l.2.1.2.2.2.1)).bind λk=>bif k then(app? 48 d [(j,e)]).bind λj=>a (b,c,j,e,f,g,h,i64.wrap (i+1))else a (b,c,d,e,f,g,h,i64.wrap (i+1))else(b,d)
def A5G:=DX lJ fuel
def lK:Rd ((List (DM×(List Int)))×H7×K9×HX×(List GP)×Int×Int) HX:=λa (b,c,d,e,f,g,h)=>bif h<g then(at? f h).bind λi=>(A5G (c,d,e,h,i,(DZ DR i.1 b).getD [],(((DZ DR i.1 b).getD []).length:Int),0)).bind λc=>a (b,c.1,d,c.2,f,g,i64.wrap (h+1))else e
def A5H:=DX lK fuel
def lL:GN×H7×(List (DM×(List Int)))->Option HX:=λ(a,b,c)=>(N2 a).bind λd=>(A5H (c,b,d.1,[],a.2.2.2.2.2.2,a.2.2.2.2.2.2.length,0)).bind λa=>(uB (a,λx=>(lI x).bind λr=>r)).bind λa=>a
def lM:Rd ((List (DM×List Int))×(List GU)×Int×Int) (List (DM×List Int)):=λa (b,c,d,e)=>bif e<d then(at? c e).bind λf=>(M9 f.2.1).bind λf=>(app? 24 ((DZ DR f.1 b).getD []) [e]).bind λg=>(bif DR f.1 f.1 then some ()else none).bind λ_=>a (ED DR f.1 g b,c,d,i64.wrap (e+1))else b
def xV:=DX lM fuel
def lN:Rd (H7×(List GG)×GN×HX×Int×Int) (Sum (H7×(List GG)) ((List GG)×Int)):=λa (b,c,d,e,f,g)=>bif g<f then(at? e g).bind λh=>bif DQ c.length 100000 then some (.inr ([],3))else(at? b.2.2.2.1 h.1).bind λi=>(app? 72 c [(d.1,i.1,h.2)]).bind λh=>a (b,h,d,e,f,i64.wrap (g+1))else some (.inl (b,c))
def xW:=DX lN fuel
def lO:Rd (H7×(List (DM×(List Int)))×(List GG)×(List GN)×Int×Int) (Sum (List GG) ((List GG)×Int)):=λa (b,c,d,e,f,g)=>bif g<f then(at? e g).bind λh=>bif h.2.2.2.2.1 then a (b,c,d,e,f,i64.wrap (g+1))else(lL (h,b,c)).bind λi=>(xW (b,d,h,i,i.length,0)).bind λb=>match b with|.inl b=>a (b.1,c,b.2,e,f,i64.wrap (g+1))|.inr a=>some (.inr (a.1,a.2))else some (.inl d)
def A5I:=DX lO fuel
def aI:NQ×H7->Option ((List GG)×Int):=λ(a,b)=>(VU a).bind λc=>bif !DQ c 0 then some ([],c)else(VK b).bind λc=>bif !DQ c 0 then some ([],c)else(xV ([],b.2.2.2.1,b.2.2.2.1.length,0)).bind λc=>(A5I (b,c,[],a.2.1,a.2.1.length,0)).bind λa=>match a with|.inl a=>some (a,0)|.inr a=>(a.1,a.2)
def lP:Rd (RP×(List GN)×Int×Int) RP:=λa (b,c,d,e)=>bif e<d then(at? c e).bind λf=>a ((b.1,ED DR f.1 f b.2.1,b.2.2.1,b.2.2.2.1,b.2.2.2.2),c,d,i64.wrap (e+1))else(b.1,b.2.1,b.2.2.1,b.2.2.2.1,b.2.2.2.2)
def xX:=DX lP fuel
def lQ:Rd (RP×(List GU)×Int×Int) RP:=λa (b,c,d,e)=>bif e<d then(at? c e).bind λf=>a ((b.1,b.2.1,ED DR f.1 f b.2.2.1,b.2.2.2.1,b.2.2.2.2),c,d,i64.wrap (e+1))else(b.1,b.2.1,b.2.2.1,b.2.2.2.1,b.2.2.2.2)
def xY:=DX lQ fuel
def lR:Rd (VE×RP×(List GG)×Int×Int) (VE×RP):=λa (b,c,d,e,f)=>bif f<e then(at? d f).bind λg=>bif g.2.2<=b.2.1 then a (b,(c.1,c.2.1,c.2.2.1,c.2.2.2.1,ED (λ(x y:DM×DM×Int)=>DR x.1 y.1&&(λ(x y:DM×Int)=>DR x.1 y.1&&DQ x.2 y.2) x.2 y.2) (g.1,g.2.1,0) true c.2.2.2.2),d,e,i64.wrap (f+1))else a (b,(c.1,c.2.1,c.2.2.1,c.2.2.2.1,c.2.2.2.2),d,e,i64.wrap (f+1))else(b,c.1,c.2.1,c.2.2.1,c.2.2.2.1,c.2.2.2.2)
def xZ:=DX lR fuel
def lS:Rd (RP×(List DM)×Int×Int) RP:=λa (b,c,d,e)=>bif e<d then(at? c e).bind λf=>a ((b.1,b.2.1,b.2.2.1,ED DR f true b.2.2.2.1,b.2.2.2.2),c,d,i64.wrap (e+1))else(b.1,b.2.1,b.2.2.1,b.2.2.2.1,b.2.2.2.2)
def lT:=DX lS fuel
def lU:H7×Int×NQ×(List JH)×Int×(List DM)×(List L1)->Option (Option IZ):=λa=>(xX ((a,[],[],[],[]),a.2.2.1.2.1,a.2.2.1.2.1.length,0)).bind λb=>(xY ((b.1,b.2.1,b.2.2.1,b.2.2.2.1,b.2.2.2.2),a.1.2.2.2.1,a.1.2.2.2.1.length,0)).bind λb=>(xZ (a,(b.1,b.2.1,b.2.2.1,b.2.2.2.1,b.2.2.2.2),a.1.2.2.2.2,a.1.2.2.2.2.length,0)).bind λa=>bif DQ a.1.2.2.2.1.length 1 then(at? a.1.2.2.2.1 0).bind λb=>(VW (b,a.1.2.2.2.2.1,a.1.2.2.2.2.2.1)).bind λb=>(lT ((a.2.1,a.2.2.1,a.2.2.2.1,a.2.2.2.2.1,a.2.2.2.2.2),b.1,b.1.length,0)).bind λb=>some (some (b.1,b.2.1,b.2.2.1,b.2.2.2.1,b.2.2.2.2))else some (some (a.2.1,a.2.2.1,a.2.2.2.1,a.2.2.2.2.1,a.2.2.2.2.2))
def x_:Rd ((List (DM×Int))×(List GU)×Int×Int) (List (DM×Int)):=λa (b,c,d,e)=>bif e<d then(at? c e).bind λf=>a (ED DR f.1 e b,c,d,i64.wrap (e+1))else b
def A5J:=DX x_ fuel
def lV:Rd (Int×(List (DM×Int))×(H7×(Int×(JJ×JJ)))×(List GG)×Int×Int) (H7×(Int×(JJ×JJ))):=λa (b,c,d,e,f,g)=>bif g<f then(at? e g).bind λh=>bif b<h.2.2 then a (b,c,(d.1,d.2.1,d.2.2.1,d.2.2.2),e,f,i64.wrap (g+1))else(in? d.2.2.1.length ((DZ DR h.1 c).getD 0)).bind λ_=>(app? 24 (d.2.2.1.getD (((DZ DR h.1 c).getD 0).toNat) []) [(DZ DR h.2.1 c).getD 0]).bind λi=>(in? d.2.2.2.length ((DZ DR h.2.1 c).getD 0)).bind λ_=>(app? 24 (d.2.2.2.getD (((DZ DR h.2.1 c).getD 0).toNat) []) [(DZ DR h.1 c).getD 0]).bind λj=>(in? d.2.2.1.length ((DZ DR h.1 c).getD 0)).bind λ_=>(bif Nat.beq (((DZ DR h.1 c).getD 0).toNat) (((DZ DR h.1 c).getD 0).toNat)then some ()else none).bind λ_=>(in? d.2.2.2.length ((DZ DR h.2.1 c).getD 0)).bind λ_=>(bif Nat.beq (((DZ DR h.2.1 c).getD 0).toNat) (((DZ DR h.2.1 c).getD 0).toNat)then some ()else none).bind λ_=>a (b,c,(d.1,d.2.1,d.2.2.1.set (((DZ DR h.1 c).getD 0).toNat) i,d.2.2.2.set (((DZ DR h.2.1 c).getD 0).toNat) j),e,f,i64.wrap (g+1))else(d.1,d.2.1,d.2.2.1,d.2.2.2)
def A5K:=DX lV fuel
def lW:Rd ((H7×(Int×(JJ×JJ)))×Int×Int) (H7×(Int×(JJ×JJ))):=λa (b,c,d)=>bif d<c then(in? b.2.2.1.length d).bind λ_=>(slices_Compact_int (b.2.2.1.getD d.toNat [])).bind λe=>(in? b.2.2.2.length d).bind λ_=>(slices_Compact_int (b.2.2.2.getD d.toNat [])).bind λf=>(in? b.2.2.1.length d).bind λ_=>(bif Nat.beq d.toNat d.toNat then some ()else none).bind λ_=>(in? b.2.2.2.length d).bind λ_=>(bif Nat.beq d.toNat d.toNat then some ()else none).bind λ_=>a ((b.1,b.2.1,b.2.2.1.set d.toNat e,b.2.2.2.set d.toNat f),c,i64.wrap (d+1))else(b.1,b.2.1,b.2.2.1,b.2.2.2)
def A5L:=DX lW fuel
def lX:H7×Int->Option T9:=λ(a,b)=>(A5J ([],a.2.2.2.1,a.2.2.2.1.length,0)).bind λc=>(mks? 24 a.2.2.2.1.length a.2.2.2.1.length []).bind λd=>(mks? 24 a.2.2.2.1.length a.2.2.2.1.length []).bind λe=>(A5K (b,c,(a,(DZ DR a.2.2.1 c).getD 0,d,e),a.2.2.2.2,a.2.2.2.2.length,0)).bind λb=>(A5L ((b.1,b.2.1,b.2.2.1,b.2.2.2),a.2.2.2.1.length,0)).bind λa=>(a.1,a.2.1,a.2.2.1,a.2.2.2)
def yA:H7×Int->Option (T9×Int):=λ(a,b)=>(VK a).bind λc=>bif !DQ c 0 then some ((([],[],[],[],[]),0,[],[]),c)else bif b<1||4<b then some ((([],[],[],[],[]),0,[],[]),9)else(lX (a,b)).bind λa=>some (a,0)
def A5M:Rd ((List GU)×DM×((GU×DM)->Option Int)×Int×Int) (Int):=λa (b,c,d,e,f)=>bif e<f then(shr? u64 (u64.wrap (i64.wrap (e+f))) 1).bind λg=>(at? b (i64.wrap g)).bind λh=>(d (h,c)).bind λh=>bif h<0 then a (b,c,d,i64.wrap (i64.wrap g+1),f)else a (b,c,d,e,i64.wrap g)else e
def A5N:=DX A5M fuel
def lY:(List GU)×DM×((GU×DM)->Option Int)->Option (Int×Bool):=λ(a,b,c)=>(A5N (a,b,c,0,a.length)).bind λd=>(bif d<a.length then at? a d else some ([],([],[],[],[],[],[]),[],[],[])).bind λe=>(bif d<a.length then c (e,b)else some 0).bind λb=>some (d,(d<a.length)&&DQ b 0)
def yB:GU×DM->Option (Int):=λ(a,b)=>(LP (a.1,b)).bind λa=>a
def yC:H7×DM->Option (Int×Bool):=λ(a,b)=>(lY (a.2.2.2.1,b,λx=>(yB x).bind λr=>r)).bind λa=>(a.1,a.2)
def yD:H7×DM×Int->Option (T9×Int×Int):=λ(a,b,c)=>(yA (a,c)).bind λc=>bif !DQ c.2 0 then some ((([],[],[],[],[]),0,[],[]),0,c.2)else(yC (a,b)).bind λa=>bif !a.2 then some ((([],[],[],[],[]),0,[],[]),0,4)else some (c.1,a.1,0)
def yE:Rd ((List Int)×Int×Int) (List Int):=λa (b,c,d)=>bif d<c then(in? b.length d).bind λ_=>a (b.set d.toNat (-1),c,i64.wrap (d+1))else b
def yF:=DX yE fuel
def VX:Rd (Int×(List Int)×(List Int)×Int×(List Int)×Int×Int) ((List Int)×(List Int)):=λa (b,c,d,e,f,g,h)=>bif h<g then(at? f h).bind λi=>(in? c.length i).bind λ_=>bif c.getD i.toNat 0<0&&!DQ i b then(in? c.length e).bind λ_=>(in? c.length i).bind λ_=>(app? 24 d [i]).bind λj=>a (b,c.set i.toNat (i64.wrap (c.getD e.toNat 0+1)),j,e,f,g,i64.wrap (h+1))else a (b,c,d,e,f,g,i64.wrap (h+1))else(c,d)
def lZ:=DX VX fuel
def aJ:Rd (JJ×Int×(List Int)×(List Int)) (List Int):=λa (b,c,d,e)=>bif 0<(e.length:Int)then(in? e.length 0).bind λ_=>(cut? e 1 e.length).bind λf=>(at? b (e.getD 0 0)).bind λg=>(lZ (c,d,f,e.getD 0 0,g,g.length,0)).bind λe=>a (b,c,e.1,e.2)else d
def yG:=DX aJ fuel
def l_:JJ×Int×Int->Option (List Int):=λ(a,b,c)=>(mks? 24 a.length a.length 0).bind λd=>(yF (d,d.length,0)).bind λd=>bif DQ b c then d else(in? d.length b).bind λ_=>(yG (a,c,d.set b.toNat 0,[b])).bind λa=>a
def yH:Int×(Option (List Int))×(Option Int)->Option (Bool):=λ(a,b,c)=>(b).bind λd=>(at? d a).bind λa=>(b).bind λb=>(c).bind λc=>(at? b c).bind λb=>some (DQ a (i64.wrap (b-1)))
def yI:Rd ((List Int)×MY×Int×Int) G_:=λa (b,c,d,e)=>bif e<d then(at? b e).bind λf=>(c f).bind λf=>bif f then some (.inr e)else a (b,c,d,i64.wrap (e+1))else some (.inl ())
def A5O:=DX yI fuel
def m6:(List Int)×MY->Option (Int):=λ(a,b)=>(A5O (a,b,a.length,0)).bind λa=>match a with|.inl _=>some (-1)|.inr a=>a
def A5P:Rd (Int×T9×(List Int)×(List Int)×Int) (List Int):=λa (b,c,d,e,f)=>bif !DQ f b then(at? c.2.2.1 f).bind λg=>(m6 (g,λx=>(yH (x,some d,some f)).bind λr=>r)).bind λg=>(at? c.2.2.1 f).bind λf=>(at? f g).bind λf=>(app? 24 e [f]).bind λg=>a (b,c,d,g,f)else e
def A5Q:=DX A5P fuel
def m7:T9×Int->Option (List Int):=λ(a,b)=>(l_ (a.2.2.2,b,-1)).bind λc=>(at? c a.2.1).bind λd=>bif d<0 then some []else(A5Q (b,a,c,[a.2.1],a.2.1)).bind λa=>a
def m8:Rd (T9×(List DM)×(List Int)×Int×Int) (List DM):=λa (b,c,d,e,f)=>bif f<e then(at? d f).bind λg=>(at? b.1.2.2.2.1 g).bind λg=>(app? 24 c [g.1]).bind λg=>a (b,g,d,e,i64.wrap (f+1))else c
def A5R:=DX m8 fuel
def m9:T9×(List Int)->Option (List DM):=λ(a,b)=>(A5R (a,[],b,b.length,0)).bind λa=>a
def mA:H7×DM×Int->Option ((List DM)×Bool×Int):=λ(a,b,c)=>(yD (a,b,c)).bind λa=>bif !DQ a.2.2 0 then some ([],false,a.2.2)else(m7 (a.1,a.2.1)).bind λb=>(m9 (a.1,b)).bind λa=>some (a,0<(a.length:Int),0)
def RY(a:(Int×Bool)×Bool):List ((Int×Bool)×Bool)->Option (Sum KP (Unit)):=λb=>some (.inl (ED (λ(x y:Int×Bool)=>DQ x.1 y.1&&H_ x.2 y.2) a.1 true b))
def mB:KP×(Int×Bool)->Option KP:=λ(a,b)=>(FF RY a (ED (λ(x y:Int×Bool)=>DQ x.1 y.1&&H_ x.2 y.2) b true [])).bind λa=>match a with|.inl a=>a|.inr _=>some []
def LQ(a:(Int×Bool)×Bool):KP×K8×Bool->Option (Sum (KP×K8×Bool) (Unit)):=λ(b,c,d)=>(bif !(a.1.2||c.2.1.length<=a.1.1)then at? c.2.1 a.1.1 else some (0,0)).bind λe=>(bif !(a.1.2||c.2.1.length<=a.1.1)&&!DQ e.1 2 then at? c.2.1 a.1.1 else some (0,0)).bind λf=>bif a.1.2||c.2.1.length<=a.1.1||!DQ e.1 2&&!DQ f.1 4 then some (.inl (b,c,d))else bif !(DZ (λ(x y:Int×Bool)=>DQ x.1 y.1&&H_ x.2 y.2) (i64.wrap (a.1.1+1),false) b).getD false then(mB (b,i64.wrap (a.1.1+1),false)).bind λa=>some (.inl (a,c,true))else some (.inl (b,c,d))
def A5S:Rd (KP×K8×Bool) KP:=λa (b,c,d)=>bif d then(FF LQ b (b,c,false)).bind λc=>match c with|.inl c=>a (c.1,c.2.1,c.2.2)|.inr _=>none else b
def A5T:=DX A5S fuel
def aK:K8×KP->Option KP:=λ(a,b)=>(A5T (b,a,true)).bind λa=>a
def mC:DM×HX×Int->Option KP:=λa=>(aK (a,ED (λ(x y:Int×Bool)=>DQ x.1 y.1&&H_ x.2 y.2) (0,false) true [])).bind λa=>a
def yJ:(List Int)×Bool->Option (List Int):=λ(a,b)=>bif b then(app? 24 a [256]).bind λb=>b else a
def mD:Rd ((List Int)×DM×Int×Int) (List Int):=λa (b,c,d,e)=>bif e<d then(at? c e).bind λf=>(app? 24 b [i64.wrap f.toNat]).bind λf=>a (f,c,d,i64.wrap (e+1))else b
def yK:=DX mD fuel
def mE:Rd ((List Int)×(List DM)×Int×Int) (List Int):=λa (b,c,d,e)=>bif e<d then(at? c e).bind λf=>(yJ (b,0<(b.length:Int))).bind λg=>(yK (g,f,f.length,0)).bind λf=>a (f,c,d,i64.wrap (e+1))else b
def A5U:=DX mE fuel
def mF:Rd (I4×(List Int)×Int×Int) (List Int):=λa (b,c,d,e)=>bif e<d then(at? b.2.2.2.1 e).bind λf=>(app? 24 c [i64.wrap f.toNat]).bind λf=>a (b,f,d,i64.wrap (e+1))else c
def A5V:=DX mF fuel
def mG:DM×DM×DM×DM×DW×DM->Option (List Int):=λa=>(TB a.2.1).bind λb=>(app? 24 b [a.2.2.1]).bind λb=>(A5U ([],b,b.length,0)).bind λb=>bif !DR a.2.2.2.1 []then(app? 24 b [257]).bind λc=>(A5V (a,c,a.2.2.2.1.length,0)).bind λa=>a else b
def NX:K8×(Int×Bool)×Int->Option ((Int×Bool)×Bool):=λ(a,b,c)=>bif a.2.1.length<=b.1 then some ((0,false),false)else(at? a.2.1 b.1).bind λa=>bif DQ a.1 1 then some ((i64.wrap (b.1+1),false),DQ c (i64.wrap a.2))else bif DQ a.1 2 then some (b,(c<256)&&!DQ c 47)else bif DQ a.1 3 then some ((i64.wrap (b.1+1),false),DQ c 256)else bif DQ a.1 5 then some ((i64.wrap (b.1+1),false),DQ c 257)else bif DQ a.1 4 then bif DQ c 256 then some ((b.1,false),b.2)else some ((b.1,true),c<256)else some ((b.1,true),(DQ c 257&&!b.2)||c<256&&b.2)
def LR(a:(Int×Bool)×Bool):Int×K8×KP->Option (Sum (Int×K8×KP) (Unit)):=λ(b,c,d)=>(NX (c,a.1,b)).bind λa=>bif a.2 then some (.inl (b,c,ED (λ(x y:Int×Bool)=>DQ x.1 y.1&&H_ x.2 y.2) a.1 true d))else some (.inl (b,c,d))
def mH:K8×KP×Int->Option KP:=λ(a,b,c)=>(FF LR b (c,a,[])).bind λa=>match a with|.inl a=>(aK (a.2.1,a.2.2)).bind λa=>a|.inr _=>some []
def TO:K8×(Int×Bool)->Option (Bool):=λ(a,b)=>(bif !DQ b.1 a.2.1.length then at? a.2.1 b.1 else some (0,0)).bind λc=>some (DQ b.1 a.2.1.length||DQ c.1 6)
def mI:Rd (K8×KP×(List Int)×Int×Int) (Sum (K8×KP) (Bool×Int)):=λa (b,c,d,e,f)=>bif f<e then(at? d f).bind λg=>(mH (b,c,g)).bind λg=>(len? g.length).bind λh=>bif DQ h 0 then some (.inr (false,0))else a (b,g,d,e,i64.wrap (f+1))else some (.inl (b,c))
def A5W:=DX mI fuel
def TP(a:(Int×Bool)×Bool):DM×HX×Int->Option (Sum K8 (Bool×Int)):=λb=>(TO (b,a.1)).bind λa=>bif a then some (.inr (true,0))else some (.inl b)
def aL:DM×I4->Option (Bool×Int):=λ(a,b)=>(aC a).bind λa=>bif !DQ a.2.2 0 then some (false,a.2.2)else(KQ b).bind λc=>bif !DQ c 0 then some (false,c)else(TF b).bind λb=>bif !DR a.1.1 [42]&&!DR a.1.1 b.1 then some (false,0)else(mC a.1).bind λc=>(mG b).bind λb=>(A5W (a.1,c,b,b.length,0)).bind λa=>match a with|.inl a=>(QP (λb:List ((Int×Bool)×Bool)=>b.Perm a.2) λb=>(FF TP b a.1).bind λa=>match a with|.inl _=>some (false,0)|.inr a=>(a.1,a.2))|.inr a=>(a.1,a.2)
def mJ:(Option IZ)×L1×GN×GU->Option (Bool):=λ(a,b,c,d)=>(bif !DR b.1 c.1 then OM (c.2.1,b.1)else some false).bind λe=>(bif !(!DR b.1 c.1&&!e)&&!DR b.2.1 []then a else some ((([],[],[],[],[]),0,(0,[],[]),[],0,[],[]),[],[],[],[])).bind λa=>bif !DR b.1 c.1&&!e||!DR b.2.1 []&&!DR b.2.1 a.1.1.1 then some false else(aL (b.2.2.1,d.2.1)).bind λa=>a.1
def mK:Rd ((Option IZ)×GN×GU×Int×(List L1)×Int×Int) (Int):=λa (b,c,d,e,f,g,h)=>bif h<g then(at? f h).bind λi=>(mJ (b,i,c,d)).bind λj=>bif !j then a (b,c,d,e,f,g,i64.wrap (h+1))else bif e<0 then a (b,c,d,h,f,g,i64.wrap (h+1))else(b).bind λj=>(at? j.1.2.2.2.2.2.2 e).bind λj=>bif DR i.1 j.1&&(DR i.2.1 j.2.1&&(DR i.2.2.1 j.2.2.1&&(DQ i.2.2.2.1 j.2.2.2.1&&(DQ i.2.2.2.2.1 j.2.2.2.2.1&&(DQ i.2.2.2.2.2.1 j.2.2.2.2.2.1&&DQ i.2.2.2.2.2.2 j.2.2.2.2.2.2)))))||j.2.2.2.2.2.2<i.2.2.2.2.2.2||DQ i.2.2.2.2.2.2 j.2.2.2.2.2.2&&j.2.2.2.2.2.1<=i.2.2.2.2.2.1 then a (b,c,d,h,f,g,i64.wrap (h+1))else a (b,c,d,e,f,g,i64.wrap (h+1))else e
def A5X:=DX mK fuel
def mL:(Option IZ)×GN×GU->Option (Int):=λ(a,b,c)=>(a).bind λd=>(A5X (a,b,c,-1,d.1.2.2.2.2.2.2,d.1.2.2.2.2.2.2.length,0)).bind λa=>a
def VY:(Option IZ)×GG×GN×GU×(List DM)×Int×(List DM)->Option (List DM):=λa=>(at? a.2.2.1.2.2.2.2.2.2 a.2.1.2.2).bind λa=>a.2.2.2.2
def mM:Rd (GG×fJ×PX×Int×Int) (GG×fJ):=λa (b,c,d,e,f)=>bif f<e then(at? d f).bind λg=>(bif DR g.2.1 b.2.1 then VY (c.1,c.2.1,c.2.2.1,c.2.2.2.1,c.2.2.2.2.1,c.2.2.2.2.2.1,c.2.2.2.2.2.2)else some []).bind λh=>(bif DR g.2.1 b.2.1&&!DQ h.length 0 then VY (c.1,c.2.1,c.2.2.1,c.2.2.2.1,c.2.2.2.2.1,c.2.2.2.2.2.1,c.2.2.2.2.2.2)else some []).bind λi=>(bif DR g.2.1 b.2.1&&!DQ h.length 0 then OM (i,g.1)else some false).bind λi=>bif DR g.2.1 b.2.1&&(DQ h.length 0||i)then(app? 24 c.2.2.2.2.2.2 [g.1]).bind λg=>a (b,(c.1,c.2.1,c.2.2.1,c.2.2.2.1,c.2.2.2.2.1,c.2.2.2.2.2.1,g),d,e,i64.wrap (f+1))else a (b,(c.1,c.2.1,c.2.2.1,c.2.2.2.1,c.2.2.2.2.1,c.2.2.2.2.2.1,c.2.2.2.2.2.2),d,e,i64.wrap (f+1))else(b,c.1,c.2.1,c.2.2.1,c.2.2.2.1,c.2.2.2.2.1,c.2.2.2.2.2.1,c.2.2.2.2.2.2)
def yL:=DX mM fuel
def mN:Rd (GG×fJ×(List JH)×Int×Int) fJ:=λa (b,c,d,e,f)=>bif f<e then(at? d f).bind λg=>(yL (b,(c.1,c.2.1,c.2.2.1,c.2.2.2.1,c.2.2.2.2.1,c.2.2.2.2.2.1,c.2.2.2.2.2.2),g.2.2.1,g.2.2.1.length,0)).bind λb=>a (b.1,(b.2.1,b.2.2.1,b.2.2.2.1,b.2.2.2.2.1,b.2.2.2.2.2.1,b.2.2.2.2.2.2.1,b.2.2.2.2.2.2.2),d,e,i64.wrap (f+1))else(c.1,c.2.1,c.2.2.1,c.2.2.2.1,c.2.2.2.2.1,c.2.2.2.2.2.1,c.2.2.2.2.2.2)
def yM:=DX mN fuel
def RZ:(Option IZ)×GG->Option VG:=λ(a,b)=>(a).bind λc=>let d:=(DZ DR b.1 c.2.1).getD ([],[],[],0,false,[],[]);(a).bind λc=>let e:=(DZ DR b.2.1 c.2.2.1).getD ([],([],[],[],[],[],[]),[],[],[]);(a).bind λc=>(a).bind λf=>(mA (c.1.1,b.2.1,f.1.2.1)).bind λc=>(mL (a,d,e)).bind λf=>(a).bind λg=>(yM (b,(a,b,d,e,c.1,f,[]),g.1.2.2.2.1,g.1.2.2.2.1.length,0)).bind λa=>(a.1,a.2.1,a.2.2.1,a.2.2.2.1,a.2.2.2.2.1,a.2.2.2.2.2.1,a.2.2.2.2.2.2)
def mO:(Option IZ)×GG×GN×GU×(List DM)×Int×(List DM)->Option (Bool):=λa=>some (DQ a.2.2.2.2.1.length 0)
def aM:VG×Int×Int->Option (Bool):=λ(a,b,c)=>bif a.2.2.2.2.2.1<0 then some false else(a.1).bind λd=>(at? d.1.2.2.2.2.2.2 a.2.2.2.2.2.1).bind λa=>some (DQ a.2.2.2.1 b||DQ a.2.2.2.1 c)
def aN:(Option IZ)×GG×GN×GU×(List DM)×Int×(List DM)->Option (Bool):=λa=>(aM (a,3,4)).bind λa=>a
def mP:Rd (VG×(List DM)×Int×Int) (Sum (Unit) DM):=λa (b,c,d,e)=>bif e<d then(at? c e).bind λf=>(b.1).bind λg=>bif (DZ DR f g.2.2.2.1).getD false then some (.inr f)else a (b,c,d,i64.wrap (e+1))else some (.inl ())
def A5Y:=DX mP fuel
def aO:(Option IZ)×GG×GN×GU×(List DM)×Int×(List DM)->Option DM:=λa=>(A5Y (a,a.2.2.2.2.2.2,a.2.2.2.2.2.2.length,0)).bind λa=>match a with|.inl _=>some []|.inr a=>a
def aP:(Option IZ)×GG×GN×GU×(List DM)×Int×(List DM)->Option (Bool):=λa=>(aO a).bind λa=>some (!DR a [])
def aQ:(Option IZ)×GG×GN×GU×(List DM)×Int×(List DM)->Option (Bool):=λa=>(aM (a,2,2)).bind λa=>a
def VZ:(Option IZ)×GG×GN×GU×(List DM)×Int×(List DM)->Option (Bool):=λa=>(a.1).bind λb=>let c:=(DQ b.1.2.2.2.1.length 1&&0<(a.2.2.2.2.2.2.length:Int));(bif c then VY a else some []).bind λb=>some (c&&b.length<=(a.2.2.2.2.2.2.length:Int))
def yN:Unit->Option (List (Int×(Option (VG->Option Bool)))):=λ_=>some [(1,some (λx=>(mO x).bind λr=>r)),(2,some (λx=>(aN x).bind λr=>r)),(6,some (λx=>(aP x).bind λr=>r)),(5,some (λx=>(aQ x).bind λr=>r)),(3,some (λx=>(VZ x).bind λr=>r))]
def R_:Rd (VG×(List (Int×(Option (VG->Option Bool))))×Int×Int) G_:=λa (b,c,d,e)=>bif e<d then(at? c e).bind λf=>(f.2.bind (λF=>F b)).bind λg=>bif g then some (.inr f.1)else a (b,c,d,i64.wrap (e+1))else some (.inl ())
def yO:=DX R_ fuel
def aR:(Option IZ)×GG×GN×GU×(List DM)×Int×(List DM)->Option (Int):=λa=>(yN ()).bind λb=>(yO (a,b,b.length,0)).bind λa=>match a with|.inl _=>some 4|.inr a=>a
def mQ:(Option IZ)×GG×GN×GU×(List DM)×Int×(List DM)->Option (Int):=λa=>bif DR a.2.2.1.2.2.2.2.2.1 []then some 100 else(TC a.2.2.1.2.2.2.2.2.1).bind λa=>a.1
def yP:JH×Int×(List DM)×DM->Option ((Option GY)×Int×Int):=λ(a,b,c,d)=>(ZY (a,b,c)).bind λa=>bif !DQ a.2 0 then some ((none:Option GY),0,a.2)else(a.1).bind λb=>bif !(DZ DR d b.2.1).isSome then some ((none:Option GY),0,4)else some (a.1,(DZ DR d b.2.1).getD 0,0)
def aS:(Option GY)×MX->Option (Option (List Bool)):=λ(a,b)=>(a).bind λa=>bif a.2.2.2.2.2 then(b).bind λa=>some (some a.2.2.1)else some (none:Option (List Bool))
def mR:Rd ((Option GY)×(Option (List Bool))×IY×(List Int)×(List Int)×Int×Int) (List Int):=λa (b,c,d,e,f,g,h)=>bif h<g then(at? f h).bind λi=>(nilM? c).bind λj=>(bif !j then at? (c.getD []) i else some false).bind λk=>bif j||k then(TL (b,d,i)).bind λi=>(app? 24 e [i]).bind λi=>a (b,c,d,i,f,g,i64.wrap (h+1))else a (b,c,d,e,f,g,i64.wrap (h+1))else e
def yQ:=DX mR fuel
def aT:(Option GY)×IY×(Option (List Bool))->Option (List Int):=λ(a,b,c)=>bif DQ b.1 1 then(a).bind λd=>some [(DZ DR b.2.1 d.2.1).getD 0]else(a).bind λd=>(yQ (a,c,b,[],(DZ DR b.2.1 d.2.2.2.1).getD [],(((DZ DR b.2.1 d.2.2.2.1).getD []).length:Int),0)).bind λa=>(slices_Sort_int a).bind λa=>(slices_Compact_int a).bind λa=>a
def mS:Rd (JJ×Int×(List Int)×Int×Int) JJ:=λa (b,c,d,e,f)=>bif f<e then(at? d f).bind λg=>(in? b.length g).bind λ_=>(app? 24 (b.getD g.toNat []) [c]).bind λh=>(in? b.length g).bind λ_=>(bif Nat.beq g.toNat g.toNat then some ()else none).bind λ_=>a (b.set g.toNat h,c,d,e,i64.wrap (f+1))else b
def yR:=DX mS fuel
def mT:Rd ((Option GY)×MX×JJ×Int×(List IY)×Int×Int) JJ:=λa (b,c,d,e,f,g,h)=>bif h<g then(at? f h).bind λi=>(b).bind λj=>bif (DZ DR i.2.2.2 j.2.2.2.2.1).getD false then(aS (b,c)).bind λj=>(aT (b,i,j)).bind λi=>(yR (d,e,i,i.length,0)).bind λi=>a (b,c,i,e,f,g,i64.wrap (h+1))else a (b,c,d,e,f,g,i64.wrap (h+1))else d
def A5Z:=DX mT fuel
def mU:Rd ((Option GY)×MX×JJ×PX×Int×Int) JJ:=λa (b,c,d,e,f,g)=>bif g<f then(at? e g).bind λh=>(c).bind λi=>(at? i.2.1 g).bind λi=>bif !i then a (b,c,d,e,f,i64.wrap (g+1))else(A5Z (b,c,d,g,h.2.2.1,h.2.2.1.length,0)).bind λh=>a (b,c,h,e,f,i64.wrap (g+1))else d
def yS:=DX mU fuel
def AHz:Rd ((List Int)×Int×Int) (List Int):=λa (b,c,d)=>bif d<c then(in? b.length d).bind λ_=>a (b.set d.toNat (-1),c,i64.wrap (d+1))else b
def yT:=DX AHz fuel
def mV:Rd ((List Int)×(List Int)×Int×(List Int)×Int×Int) ((List Int)×(List Int)):=λa (b,c,d,e,f,g)=>bif g<f then(at? e g).bind λh=>(in? b.length h).bind λ_=>bif b.getD h.toNat 0<0 then(in? b.length d).bind λ_=>(in? b.length h).bind λ_=>(app? 24 c [h]).bind λi=>a (b.set h.toNat (i64.wrap (b.getD d.toNat 0+1)),i,d,e,f,i64.wrap (g+1))else a (b,c,d,e,f,i64.wrap (g+1))else(b,c)
def yU:=DX mV fuel
def mW:Rd (JJ×(List Int)×(List Int)) (List Int):=λa (b,c,d)=>bif 0<(d.length:Int)then(in? d.length 0).bind λ_=>(cut? d 1 d.length).bind λe=>(at? b (d.getD 0 0)).bind λf=>(yU (c,e,d.getD 0 0,f,f.length,0)).bind λd=>a (b,d.1,d.2)else c
def yV:=DX mW fuel
def mX:(Option GY)×MX×Int->Option (List Int):=λ(a,b,c)=>(a).bind λd=>(mks? 24 d.1.2.2.1.length d.1.2.2.1.length []).bind λd=>(a).bind λe=>(yS (a,b,d,e.1.2.2.1,e.1.2.2.1.length,0)).bind λb=>(a).bind λa=>(mks? 24 a.1.2.2.1.length a.1.2.2.1.length 0).bind λa=>(yT (a,a.length,0)).bind λa=>(in? a.length c).bind λ_=>(yV (b,a.set c.toNat 0,[c])).bind λa=>a
def mY:Rd ((Option GY)×(List Int)×Int×((DM×Int)×DM)×IY×Int×IY×(List Int)×Int×Int) (Sum (((DM×Int)×DM)×IY) (((DM×Int)×DM)×IY×Int)):=λa (b,c,d,e,f,g,h,i,j,k)=>bif k<j then(at? i k).bind λl=>(at? c l).bind λm=>(at? c d).bind λn=>bif DQ m (i64.wrap (n-1))then(b).bind λm=>(at? m.1.2.2.1 d).bind λm=>(b).bind λn=>(at? n.1.2.2.1 l).bind λn=>some (.inr (((m.1,g),n.1),h,l))else a (b,c,d,e,f,g,h,i,j,i64.wrap (k+1))else some (.inl (e,f))
def A5_:=DX mY fuel
def yW:Rd ((Option GY)×MX×(List Int)×Int×((DM×Int)×DM)×IY×(List IY)×Int×Int) (Sum (((DM×Int)×DM)×IY) (((DM×Int)×DM)×IY×Int)):=λa (b,c,d,e,f,g,h,i,j)=>bif j<i then(at? h j).bind λk=>(b).bind λl=>bif !(DZ DR k.2.2.2 l.2.2.2.2.1).getD false then a (b,c,d,e,f,g,h,i,i64.wrap (j+1))else(aS (b,c)).bind λl=>(aT (b,k,l)).bind λl=>(A5_ (b,d,e,f,g,j,k,l,l.length,0)).bind λk=>match k with|.inl k=>a (b,c,d,e,k.1,k.2,h,i,i64.wrap (j+1))|.inr a=>some (.inr (a.1,a.2.1,a.2.2))else some (.inl (f,g))
def A5a:=DX yW fuel
def mZ:(Option GY)×MX×(List Int)×Int->Option (((DM×Int)×DM)×IY×Int):=λ(a,b,c,d)=>(a).bind λe=>(at? e.1.2.2.1 d).bind λe=>(A5a (a,b,c,d,(([],0),[]),(0,[],[],[]),e.2.2.1,e.2.2.1.length,0)).bind λa=>match a with|.inl _=>some ((([],0),[]),(0,[],[],[]),d)|.inr a=>(a.1,a.2.1,a.2.2)
def m_:Rd ((Option GY)×MX×Int×IY×(List Int)×Int×Int) (Sum (Unit) DM):=λa (b,c,d,e,f,g,h)=>bif h<g then(at? f h).bind λi=>(c).bind λj=>(at? j.2.2.1 i).bind λj=>(bif j then TL (b,e,i)else some 0).bind λk=>bif j&&DQ k d then(b).bind λj=>(at? j.1.2.1 i).bind λi=>some (.inr i.1)else a (b,c,d,e,f,g,i64.wrap (h+1))else some (.inl ())
def A5b:=DX m_ fuel
def nA:(Option GY)×MX×IY×Int->Option DM:=λ(a,b,c,d)=>(a).bind λe=>(A5b (a,b,d,c,(DZ DR c.2.1 e.2.2.2.1).getD [],(((DZ DR c.2.1 e.2.2.2.1).getD []).length:Int),0)).bind λa=>match a with|.inl _=>some []|.inr a=>a
def nB:Rd (MX×DM×PX×Int×Int) (Sum (Unit) DM):=λa (b,c,d,e,f)=>bif f<e then(at? d f).bind λg=>(b).bind λh=>(at? h.2.1 f).bind λh=>(bif h then OM (g.2.2.2,c)else some false).bind λi=>bif h&&i then some (.inr g.1)else a (b,c,d,e,i64.wrap (f+1))else some (.inl ())
def A5c:=DX nB fuel
def nC:(Option GY)×MX×DM->Option DM:=λ(a,b,c)=>(a).bind λa=>(A5c (b,c,a.1.2.2.1,a.1.2.2.1.length,0)).bind λa=>match a with|.inl _=>some []|.inr a=>a
def S0:(DM×DM)×(DM×DM)->Option (Int):=λ(a,b)=>(LP (a.1,b.1)).bind λa=>a
def nD:Rd ((Option GY)×(List Int)×Int×(List DM)×Int×Int) (Int):=λa (b,c,d,e,f,g)=>bif g<f then(at? e g).bind λh=>(b).bind λi=>(at? c ((DZ DR h i.2.1).getD 0)).bind λj=>(bif 0<=j&&!(d<0)then at? c ((DZ DR h i.2.1).getD 0)else some 0).bind λk=>(bif 0<=j&&!(d<0)then at? c d else some 0).bind λl=>bif 0<=j&&(d<0||k<l)then a (b,c,(DZ DR h i.2.1).getD 0,e,f,i64.wrap (g+1))else a (b,c,d,e,f,i64.wrap (g+1))else d
def A5d:=DX nD fuel
def A5e:Rd ((Option GY)×Int×MX×(List Int)×(DM×(PY×DW))×DW×Int) ((DM×(PY×DW))×DW):=λa (b,c,d,e,f,g,h)=>bif !DQ h c then(mZ (b,d,e,h)).bind λh=>(b).bind λi=>bif i.2.2.2.2.2&&DQ h.2.1.1 2 then(nA (b,d,h.2.1,h.2.2)).bind λi=>(nC (b,d,i)).bind λj=>(app? 72 f.2.1 [h.1]).bind λk=>a (b,c,d,e,(f.1,k,f.2.2),ED DR i j g,h.2.2)else(app? 72 f.2.1 [h.1]).bind λi=>a (b,c,d,e,(f.1,i,f.2.2),g,h.2.2)else some ((f.1,f.2.1,f.2.2),g)
def A5f:=DX A5e fuel
def V_(a:DM×DM):DM×(PY×DW)->Option (Sum (DM×(PY×DW)) (Unit)):=λb=>(app? 48 b.2.2 [(a.1,a.2)]).bind λa=>some (.inl (b.1,b.2.1,a))
def aU:JH×Int×(List DM)×DM->Option (MW×Bool×Int):=λ(a,b,c,d)=>(yP (a,b,c,d)).bind λb=>bif !DQ b.2.2 0 then some (([],[],[]),false,b.2.2)else(Z_ (b.1,-1)).bind λc=>(c).bind λd=>(at? d.2.1 b.2.1).bind λd=>bif !d then some (([],[],[]),false,0)else(mX (b.1,c,b.2.1)).bind λd=>(A5d (b.1,d,-1,a.2.2.2,a.2.2.2.length,0)).bind λe=>(at? a.2.2.1 e).bind λa=>(A5f (b.1,b.2.1,c,d,(a.1,[],[]),[],e)).bind λa=>QP (λb:List (DM×DM)=>b.Perm a.2) λb=>(FF V_ b (a.1.1,a.1.2.1,a.1.2.2)).bind λa=>match a with|.inl a=>(fH (a.2.2,λx=>(S0 x).bind λr=>r)).bind λb=>some ((a.1,a.2.1,b),true,0)|.inr _=>some (([],[],[]),false,0)
def S1:(Option IZ)×GG×GN×GU×(List DM)×Int×(List DM)->Option JS:=λa=>(aR a).bind λb=>(mQ a).bind λc=>let d:=(a.2.1.1,a.2.1.2.1,a.2.1.2.2,b,c,a.2.2.2.2.1,[],[],a.2.2.2.2.2.1);bif DQ d.2.2.2.1 6 then(aO a).bind λb=>(a.1).bind λc=>(at? c.1.2.2.2.1 0).bind λc=>(a.1).bind λe=>(a.1).bind λa=>(aU (c,e.1.2.2.2.2.1,a.1.2.2.2.2.2.1,b)).bind λa=>some (d.1,d.2.1,d.2.2.1,d.2.2.2.1,d.2.2.2.2.1,d.2.2.2.2.2.1,b,[a.1],d.2.2.2.2.2.2.2.2)else some d
def nE:Rd ((Option IZ)×(List JS)×(List GG)×Int×Int) (List JS):=λa (b,c,d,e,f)=>bif f<e then(at? d f).bind λg=>(RZ (b,g)).bind λg=>(S1 g).bind λg=>(app? 216 c [g]).bind λg=>a (b,g,d,e,i64.wrap (f+1))else c
def A5g:=DX nE fuel
def NY:H7×Int×NQ×(List JH)×Int×(List DM)×(List L1)->Option ((Option IZ)×(List JS)×Int):=λa=>(TM a).bind λb=>bif !DQ b 0 then some ((none:Option IZ),[],b)else(aI (a.2.2.1,a.1)).bind λb=>bif !DQ b.2 0 then some ((none:Option IZ),[],b.2)else(lU a).bind λa=>(A5g (a,[],b.1,b.1.length,0)).bind λb=>some (a,b,0)
def S2:H7×Int×NQ×(List JH)×Int×(List DM)×(List L1)->Option ((List JS)×Int):=λa=>(NY a).bind λa=>(a.2.1,a.2.2)
def nF:Rd ((List Int)×(List JS)×Int×Int) (List Int):=λa (b,c,d,e)=>bif e<d then(in? c.length e).bind λ_=>let f:=c.getD e.toNat ([],[],0,0,0,[],[],[],0);bif 0<=f.2.2.2.2.2.2.2.2 then(app? 24 b [f.2.2.2.2.2.2.2.2]).bind λf=>a (f,c,d,i64.wrap (e+1))else a (b,c,d,i64.wrap (e+1))else b
def yX:=DX nF fuel
def W0:H7×Int×NQ×(List JH)×Int×(List DM)×(List L1)->Option ((List Int)×Int):=λa=>(NY a).bind λa=>bif !DQ a.2.2 0 then some ([],a.2.2)else(yX ([],a.2.1,a.2.1.length,0)).bind λa=>(slices_Sort_int a).bind λa=>(slices_Compact_int a).bind λa=>some (a,0)
def A5h:Unit->Option VE:=λ_=>some (([97,112,112],[],[114],[([99],([112,108,97,105,110],[],[99],[49],[],[]),[],[],[]),([114],([112,108,97,105,110],[],[97,112,112],[],[],[]),[],[],[])],[([114],[99],1)]),1,(0,[([65],[],[120],0,false,[78,72,76,76,78,78],[([112,107,103,58,112,108,97,105,110,47,99],5,[(1,[])],[],[])])],[0]),[],0,[],[])
def aV:Unit->Option (Bool):=λ_=>(A5h ()).bind λa=>(S2 a).bind λa=>let b:=(DQ a.2 0&&DQ a.1.length 1);(bif b then in? a.1.length 0 else some ()).bind λ_=>let c:=(((((a.1.getD 0 ([],[],0,0,0,[],[],[],0)).2).2).2).2).1;(bif b&&DQ c 34 then in? a.1.length 0 else some ()).bind λ_=>some (b&&DQ c 34&&DQ (((((a.1.getD 0 ([],[],0,0,0,[],[],[],0)).2).2).2).1) 4)
def AI0:Unit->Option (List L1):=λ_=>some []
def yY:List L1->Option (List L1):=λa=>(app? 168 [] a).bind λa=>a
def nG:List L1->Option (List L1):=yY
def nH:Rd ((List JS)×((JS×JS)->Option Bool)×(List JS)×Int×Int) JK:=λa (s2_1,b,c,d,e)=>bif e<d then(at? c e).bind λf=>(at? s2_1 e).bind λg=>(b (f,g)).bind λf=>bif !f then some (.inr false)else a (s2_1,b,c,d,i64.wrap (e+1))else some (.inl ())
def A5i:=DX nH fuel
def nI:(List JS)×(List JS)×((JS×JS)->Option Bool)->Option (Bool):=λ(s1_0,s2_1,a)=>bif !DQ s1_0.length s2_1.length then some false else(A5i (s2_1,a,s1_0,s1_0.length,0)).bind λa=>match a with|.inl _=>some true|.inr a=>a
def A5j:Rd ((List DM)×(List DM)×Int×Int) JK:=λa (s1_0,s2_1,b,c)=>bif c<b then(at? s1_0 c).bind λd=>(at? s2_1 c).bind λe=>bif !DR d e then some (.inr false)else a (s1_0,s2_1,b,i64.wrap (c+1))else some (.inl ())
def yZ:=DX A5j fuel
def nJ:(List DM)×(List DM)->Option (Bool):=λ(s1_0,s2_1)=>bif !DQ s1_0.length s2_1.length then some false else(yZ (s1_0,s2_1,s1_0.length,0)).bind λa=>match a with|.inl _=>some true|.inr a=>a
def nK:Rd ((List MW)×((MW×MW)->Option Bool)×(List MW)×Int×Int) JK:=λa (s2_1,b,c,d,e)=>bif e<d then(at? c e).bind λf=>(at? s2_1 e).bind λg=>(b (f,g)).bind λf=>bif !f then some (.inr false)else a (s2_1,b,c,d,i64.wrap (e+1))else some (.inl ())
def A5k:=DX nK fuel
def aW:(List MW)×(List MW)×((MW×MW)->Option Bool)->Option (Bool):=λ(s1_0,s2_1,a)=>bif !DQ s1_0.length s2_1.length then some false else(A5k (s2_1,a,s1_0,s1_0.length,0)).bind λa=>match a with|.inl _=>some true|.inr a=>a
def nL:Rd (PY×PY×Int×Int) JK:=λa (s1_0,s2_1,b,c)=>bif c<b then(at? s1_0 c).bind λd=>(at? s2_1 c).bind λe=>bif !(DR d.1.1 e.1.1&&DQ d.1.2 e.1.2&&DR d.2 e.2)then some (.inr false)else a (s1_0,s2_1,b,i64.wrap (c+1))else some (.inl ())
def A5l:=DX nL fuel
def nM:PY×PY->Option (Bool):=λ(s1_0,s2_1)=>bif !DQ s1_0.length s2_1.length then some false else(A5l (s1_0,s2_1,s1_0.length,0)).bind λa=>match a with|.inl _=>some true|.inr a=>a
def nN:Rd (DW×DW×Int×Int) JK:=λa (s1_0,s2_1,b,c)=>bif c<b then(at? s1_0 c).bind λd=>(at? s2_1 c).bind λe=>bif !(DR d.1 e.1&&DR d.2 e.2)then some (.inr false)else a (s1_0,s2_1,b,i64.wrap (c+1))else some (.inl ())
def A5m:=DX nN fuel
def nO:DW×DW->Option (Bool):=λ(s1_0,s2_1)=>bif !DQ s1_0.length s2_1.length then some false else(A5m (s1_0,s2_1,s1_0.length,0)).bind λa=>match a with|.inl _=>some true|.inr a=>a
def TQ:MW×MW->Option (Bool):=λ(a,b)=>(bif DR a.1 b.1 then nM (a.2.1,b.2.1)else some false).bind λc=>(bif DR a.1 b.1&&c then nO (a.2.2,b.2.2)else some false).bind λd=>some (DR a.1 b.1&&c&&d)
def WA:JS×JS->Option (Bool):=λ(a,b)=>let c:=(DR a.1 b.1&&DR a.2.1 b.2.1&&DQ a.2.2.1 b.2.2.1&&DQ a.2.2.2.1 b.2.2.2.1&&DQ a.2.2.2.2.1 b.2.2.2.2.1);(bif c then nJ (a.2.2.2.2.2.1,b.2.2.2.2.2.1)else some false).bind λd=>(bif c&&d&&DR a.2.2.2.2.2.2.1 b.2.2.2.2.2.2.1 then aW (a.2.2.2.2.2.2.2.1,b.2.2.2.2.2.2.2.1,λx=>(TQ x).bind λr=>r)else some false).bind λe=>some (c&&d&&DR a.2.2.2.2.2.2.1 b.2.2.2.2.2.2.1&&e&&DQ a.2.2.2.2.2.2.2.2 b.2.2.2.2.2.2.2.2)
def nP:Rd (Int×(List JS)×Int×Int) (List JS):=λa (b,c,d,e)=>bif e<d then(in? c.length e).bind λ_=>bif b<=((((((((c.getD e.toNat ([],[],0,0,0,[],[],[],0)).2).2).2).2).2).2).2).2 then(in? c.length e).bind λ_=>(in? c.length e).bind λ_=>a (b,c.set e.toNat ((c.getD e.toNat ([],[],0,0,0,[],[],[],0)).1,((c.getD e.toNat ([],[],0,0,0,[],[],[],0)).2).1,(((c.getD e.toNat ([],[],0,0,0,[],[],[],0)).2).2).1,((((c.getD e.toNat ([],[],0,0,0,[],[],[],0)).2).2).2).1,(((((c.getD e.toNat ([],[],0,0,0,[],[],[],0)).2).2).2).2).1,((((((c.getD e.toNat ([],[],0,0,0,[],[],[],0)).2).2).2).2).2).1,(((((((c.getD e.toNat ([],[],0,0,0,[],[],[],0)).2).2).2).2).2).2).1,((((((((c.getD e.toNat ([],[],0,0,0,[],[],[],0)).2).2).2).2).2).2).2).1,i64.wrap (((((((((c.getD e.toNat ([],[],0,0,0,[],[],[],0)).2).2).2).2).2).2).2).2+1)),d,i64.wrap (e+1))else a (b,c,d,i64.wrap (e+1))else c
def y_:=DX nP fuel
def nQ:VE×Int->Option (Bool):=λ(a,b)=>(S2 a).bind λc=>(W0 a).bind λd=>let e:=(!DQ c.2 0||!DQ d.2 0||b<0);(bif !(e||a.2.2.2.2.2.2.length<=b)then ZZ (d.1,b)else some false).bind λd=>bif e||a.2.2.2.2.2.2.length<=b||d then(aV ()).bind λd=>d else(nG a.2.2.2.2.2.2).bind λd=>(fG (d,b,i64.wrap (b+1))).bind λd=>(S2 (a.1,a.2.1,a.2.2.1,a.2.2.2.1,a.2.2.2.2.1,a.2.2.2.2.2.1,d)).bind λa=>(y_ (b,a.1,a.1.length,0)).bind λb=>(bif DQ a.2 0 then nI (c.1,b,λx=>(WA x).bind λr=>r)else some false).bind λb=>bif DQ a.2 0 then(bif DQ a.2 0&&b then aV ()else some false).bind λc=>some (DQ a.2 0&&b&&c)else(bif DQ a.2 0&&b then aV ()else some false).bind λc=>some (DQ a.2 0&&b&&c)
def A5n:Int×DM×DM->Option (H8×H8×Int):=λ(a,b,c)=>(KB (a,b)).bind λb=>bif !DQ b.2 0 then some (.inr (.inr (.inr (.inr (.inr ())))),.inr (.inr (.inr (.inr (.inr ())))),b.2)else(KB (a,c)).bind λa=>(b.1,a.1,a.2)
def AI1:Int×DM×DM->Option (Int×Int):=λ(a,b,c)=>(A5n (a,b,c)).bind λa=>bif !DQ a.2.2 0 then some (0,a.2.2)else((λz=>Sum.casesOn (motive:=λ_=>Option DM) z (λx=>(NR x).bind λr=>r) (λz=>z.casesOn (λx=>(NT x).bind λr=>r) (λz=>z.casesOn (λx=>(NU x).bind λr=>r) (λz=>z.casesOn (λx=>(NV x).bind λr=>r) (λz=>z.casesOn (λx=>(NW x).bind λr=>r) (λ_=>none)))))) a.1).bind λb=>((λz=>Sum.casesOn (motive:=λ_=>Option DM) z (λx=>(NR x).bind λr=>r) (λz=>z.casesOn (λx=>(NT x).bind λr=>r) (λz=>z.casesOn (λx=>(NU x).bind λr=>r) (λz=>z.casesOn (λx=>(NV x).bind λr=>r) (λz=>z.casesOn (λx=>(NW x).bind λr=>r) (λ_=>none)))))) a.2.1).bind λa=>(LP (b,a)).bind λa=>some (a,0)
def nR:DM->Option (Int×Bool):=λa=>(VN a).bind λb=>bif !DQ b.2.2 0 then some (0,false)else(M9 b.1).bind λc=>bif !DQ c.2 0||!DR c.1 a then some (0,false)else(VI b.1.1).bind λa=>some (a.1.2.2.2.2,DQ a.2 0)
def z6:DM×DM->Option (Int×Int):=λ(a,b)=>(nR a).bind λa=>bif !a.2 then some (0,8)else(aD (a.1,b)).bind λb=>(a.1,b)
def A5o:Int×F6->Option (Int):=λa=>(aF a).bind λa=>a.2
def AI2:Rd (RQ×RQ×Int×Int) G_:=λa (b,c,d,e)=>bif e<d then(at? c e).bind λf=>(nR f.1).bind λg=>bif !g.2 then some (.inr 8)else(A5o f.2.1).bind λh=>bif !DQ h 0 then some (.inr h)else bif !DQ f.2.1.1 g.1 then some (.inr 7)else bif f.2.2<1||4<f.2.2 then some (.inr 9)else(bif 0<e then at? b (i64.wrap (e-1))else some ([],(0,[]),0)).bind λg=>bif 0<e&&(Op.bytesLess f.1 g.1||DR f.1 g.1)then some (.inr 10)else a (b,c,d,i64.wrap (e+1))else some (.inl ())
def AI3:=DX AI2 fuel
def A5p:List (DM×(Int×F6)×Int)->Option (Int):=λa=>bif 12<(a.length:Int)then some 3 else(AI3 (a,a,a.length,0)).bind λa=>match a with|.inl _=>some 0|.inr a=>a
def AI4:(DM×(Int×F6)×Int)×(Option RR)->Option (Bool):=λ(a,b)=>(b).bind λb=>some (DR a.1 b.1)
def AI5:Rd (RQ×((DM×(Int×F6)×Int)->Option Bool)×Int×Int) G_:=λa (b,c,d,e)=>bif e<d then(at? b e).bind λf=>(c f).bind λf=>bif f then some (.inr e)else a (b,c,d,i64.wrap (e+1))else some (.inl ())
def AI6:=DX AI5 fuel
def AI7:RQ×((DM×(Int×F6)×Int)->Option Bool)->Option (Int):=λ(a,b)=>(AI6 (a,b,a.length,0)).bind λa=>match a with|.inl _=>some (-1)|.inr a=>a
def AI8:RQ×((DM×(Int×F6)×Int)->Option Bool)->Option (Bool):=λ(a,b)=>(AI7 (a,b)).bind λa=>some (0<=a)
def AI9:RR×(List RR)->Option (Int):=λ(a,b)=>(z6 (a.1,a.2.1)).bind λc=>bif !DQ c.2 0 then c.2 else(A5p a.2.2.1).bind λd=>bif !DQ d 0 then d else(AI8 (a.2.2.1,λx=>(AI4 (x,some a)).bind λr=>r)).bind λd=>bif d then some 2 else bif DQ b.length 0 then some 0 else(at? b (i64.wrap (b.length-1))).bind λb=>bif Op.bytesLess a.1 b.1 then some 10 else bif DR a.1 b.1 then(AI1 (c.1,b.2.1,a.2.1)).bind λa=>bif 0<=a.1 then some 10 else some 0 else some 0
def AIA:Rd ((List RR)×Int×Int×(List RR)×Int×Int) G_:=λa (b,c,d,e,f,g)=>bif g<f then(at? e g).bind λh=>(cut? b 0 g).bind λi=>(AI9 (h,i)).bind λi=>bif !DQ i 0 then some (.inr i)else(bif !DQ g 0 then at? b (i64.wrap (g-1))else some ([],[],[],false)).bind λi=>bif DQ g 0||!DR i.1 h.1 then bif (8:Int)<1||12<i64.wrap (c+1)then some (.inr 3)else a (b,i64.wrap (c+1),1,e,f,i64.wrap (g+1))else bif 8<i64.wrap (d+1)||12<c then some (.inr 3)else a (b,c,i64.wrap (d+1),e,f,i64.wrap (g+1))else some (.inl ())
def AIB:=DX AIA fuel
def AIC:List RR->Option (Int):=λa=>(AIB (a,0,0,a,a.length,0)).bind λa=>match a with|.inl _=>some 0|.inr a=>a
def AID:Rd (DW×DW×Int×Int) G_:=λa (b,c,d,e)=>bif e<d then(at? c e).bind λf=>(z6 (f.1,f.2)).bind λg=>bif !DQ g.2 0 then some (.inr g.2)else(bif 0<e then at? b (i64.wrap (e-1))else some ([],[])).bind λg=>bif 0<e&&(Op.bytesLess f.1 g.1||DR f.1 g.1)then some (.inr 10)else a (b,c,d,i64.wrap (e+1))else some (.inl ())
def AIE:=DX AID fuel
def AIF:List (DM×DM)->Option (Int):=λa=>bif 12<(a.length:Int)then some 3 else(AIE (a,a,a.length,0)).bind λa=>match a with|.inl _=>some 0|.inr a=>a
def AIG:(DM×DM)×(Option DM)->Option (Bool):=λ(a,b)=>(b).bind λb=>some (DR a.1 b)
def AIH:Rd (DW×((DM×DM)->Option Bool)×Int×Int) G_:=λa (b,c,d,e)=>bif e<d then(at? b e).bind λf=>(c f).bind λf=>bif f then some (.inr e)else a (b,c,d,i64.wrap (e+1))else some (.inl ())
def AII:=DX AIH fuel
def AIJ:DW×((DM×DM)->Option Bool)->Option (Int):=λ(a,b)=>(AII (a,b,a.length,0)).bind λa=>match a with|.inl _=>some (-1)|.inr a=>a
def A5q:DW×DM->Option (DM×Bool):=λ(a,b)=>(AIJ (a,λx=>(AIG (x,some b)).bind λr=>r)).bind λb=>bif b<0 then some ([],false)else(at? a b).bind λa=>some (a.2,true)
def AIK:Rd (fI×(List DM)×Int×Int) (Sum fI (Int)):=λa (b,c,d,e)=>bif e<d then(at? c e).bind λf=>(A5q (b.2.2.2.1,f)).bind λg=>bif !g.2 then some (.inr 4)else(bif 0<e then at? b.2.2.2.2.1 (i64.wrap (e-1))else some []).bind λg=>bif 0<e&&(Op.bytesLess f g||DR f g)then some (.inr 10)else a (b,c,d,i64.wrap (e+1))else some (.inl b)
def AIL:=DX AIK fuel
def z7:(List RR)×RQ×Int×DW×(List DM)×Bool×NQ->Option (Int):=λa=>(AIC a.1).bind λb=>bif !DQ b 0 then b else(A5p a.2.1).bind λb=>bif !DQ b 0 then b else bif a.2.2.1<1||4<a.2.2.1 then some 9 else(AIF a.2.2.2.1).bind λb=>bif !DQ b 0 then b else(AIL (a,a.2.2.2.2.1,a.2.2.2.2.1.length,0)).bind λa=>match a with|.inl a=>(VU a.2.2.2.2.2.2).bind λa=>a|.inr a=>a
def AIM:(List Int)×(List DM)->Option (Bool):=λa=>some (0<(a.2.length:Int))
def AIN:Int×DM×DM×Bool->Option (Bool):=λa=>(strings_IndexByte (a.2.1,126)).bind λb=>(bif !(0<=b)then strings_IndexByte (a.2.2.1,126)else some 0).bind λa=>some (0<=b||0<=a)
def AIO:Int×(List Int)×Int×Int×Int×Int×(List DM)->Option (Bool):=λa=>some (0<a.2.2.1||0<=a.2.2.2.2.2.1)
def AIP:Rd (GZ×(LM->Option Bool)×Int×Int) G_:=λa (b,c,d,e)=>bif e<d then(at? b e).bind λf=>(c f).bind λf=>bif f then some (.inr e)else a (b,c,d,i64.wrap (e+1))else some (.inl ())
def AIQ:=DX AIP fuel
def AIR:GZ×(LM->Option Bool)->Option (Int):=λ(a,b)=>(AIQ (a,b,a.length,0)).bind λa=>match a with|.inl _=>some (-1)|.inr a=>a
def AIS:GZ×(LM->Option Bool)->Option (Bool):=λ(a,b)=>(AIR (a,b)).bind λa=>some (0<=a)
def AIT:Bool×DM×Int->Option (Bool):=λa=>(VP a).bind λa=>a
def AIU:List LM->Option (Bool):=λa=>(AIS (a,λx=>(AIT x).bind λr=>r)).bind λa=>a
def AIV:Int->Option (Bool):=λ_=>some false
def AIW:Int×DM->Option (Bool×Int):=λ(a,b)=>(KB (a,b)).bind λa=>bif !DQ a.2 0 then some (false,a.2)else((λz=>Sum.casesOn (motive:=λ_=>Option Bool) z (λx=>(AIM x).bind λr=>r) (λz=>z.casesOn (λx=>(AIN x).bind λr=>r) (λz=>z.casesOn (λx=>(AIO x).bind λr=>r) (λz=>z.casesOn (λx=>(AIU x).bind λr=>r) (λz=>z.casesOn (λx=>(AIV x).bind λr=>r) (λ_=>none)))))) a.1).bind λa=>some (a,0)
def AIX:DM×DM×DM×DM×DW×DM->Option (I4×Int):=λa=>(KQ a).bind λb=>bif !DQ b 0 then some (([],[],[],[],[],[]),b)else(TF a).bind λa=>some (a,0)
def AIY:I4×DM->Option (I4×Int):=λ(a,b)=>(KQ a).bind λc=>bif !DQ c 0 then some (([],[],[],[],[],[]),c)else(AIX (a.1,a.2.1,a.2.2.1,b,a.2.2.2.2)).bind λa=>(a.1,a.2)
def AIZ:Rd (GN×I4×K9×DM×(List Int)×(List GP)×Int×Int) (List Int):=λa (b,c,d,e,f,g,h,i)=>bif i<h then(at? g i).bind λj=>(bif !b.2.2.2.2.1 then at? d i else some (0,[])).bind λk=>(bif !b.2.2.2.2.1 then TN (j,k,e,c.2.2.2.1)else some false).bind λj=>bif !b.2.2.2.2.1&&j then(app? 24 f [i]).bind λj=>a (b,c,d,e,j,g,h,i64.wrap (i+1))else a (b,c,d,e,f,g,h,i64.wrap (i+1))else f
def AI_:=DX AIZ fuel
def AIa:GN×I4->Option ((List Int)×Int):=λ(a,b)=>(N2 a).bind λc=>bif !DQ c.2 0 then some ([],c.2)else(M9 b).bind λd=>bif !DQ d.2 0 then some ([],d.2)else(AI_ (a,b,c.1,d.1,[],a.2.2.2.2.2.2,a.2.2.2.2.2.2.length,0)).bind λa=>some (a,0)
def AIb:Rd (I4×Int×(List GN)×Int×Int) (Int):=λa (b,c,d,e,f)=>bif f<e then(at? d f).bind λg=>(AIa (g,b)).bind λh=>bif DQ h.1.length 0 then a (b,c,d,e,i64.wrap (f+1))else bif !DR g.2.2.2.2.2.1 []then(TC g.2.2.2.2.2.1).bind λg=>a (b,i64.wrap (c+g.1),d,e,i64.wrap (f+1))else a (b,i64.wrap (c+100),d,e,i64.wrap (f+1))else c
def AIc:=DX AIb fuel
def AId:fI×(DM×DM)->Option (Int):=λ(a,b)=>(VN b.1).bind λc=>(AIY (c.1,b.2)).bind λb=>bif !DQ b.2 0 then some 0 else(AIc (b.1,0,a.2.2.2.2.2.2.2.1,a.2.2.2.2.2.2.2.1.length,0)).bind λa=>a
def nS:Bool×Bool->Option (Int):=λ(a,b)=>bif a then some 3 else bif b then some 2 else some 1
def nT:(List Int)×Int->Option (Int):=λ(a,b)=>bif b<a.length then(at? a b).bind λa=>a else some 0
def nU:GZ×Int->Option LM:=λ(a,b)=>(bif b<a.length then at? a b else some (false,[],0)).bind λc=>(bif b<a.length then TH c else some false).bind λc=>bif b<a.length&&!c then(at? a b).bind λa=>a else some (false,[],0)
def AIe:Int×DM×DM->Option (Int×Int):=λ(a,b,c)=>(A5n (a,b,c)).bind λa=>bif !DQ a.2.2 0 then some (0,a.2.2)else((λz=>Sum.casesOn (motive:=λ_=>Option DM) z (λx=>(NR x).bind λr=>r) (λz=>z.casesOn (λx=>(NT x).bind λr=>r) (λz=>z.casesOn (λx=>(NU x).bind λr=>r) (λz=>z.casesOn (λx=>(NV x).bind λr=>r) (λz=>z.casesOn (λx=>(NW x).bind λr=>r) (λ_=>none)))))) a.1).bind λb=>((λz=>Sum.casesOn (motive:=λ_=>Option DM) z (λx=>(NR x).bind λr=>r) (λz=>z.casesOn (λx=>(NT x).bind λr=>r) (λz=>z.casesOn (λx=>(NU x).bind λr=>r) (λz=>z.casesOn (λx=>(NV x).bind λr=>r) (λz=>z.casesOn (λx=>(NW x).bind λr=>r) (λ_=>none)))))) a.2.1).bind λc=>bif DR b c then some (0,0)else bif ((Sum.casesOn a.1 (λb=>b) (λc=>Sum.casesOn c (λd=>none) (λe=>Sum.casesOn e (λf=>none) (λg=>Sum.casesOn g (λh=>none) (λi=>Sum.casesOn i (λj=>none) (λk=>none)))))):Option KO).isSome then(nS (!DQ (((((Sum.casesOn a.1 (λb=>b) (λc=>Sum.casesOn c (λd=>none) (λe=>Sum.casesOn e (λf=>none) (λg=>Sum.casesOn g (λh=>none) (λi=>Sum.casesOn i (λj=>none) (λk=>none)))))):Option KO).getD (List.replicate 3 0,[])).1).getD 0 0) (((((Sum.casesOn a.2.1 (λl=>l) (λm=>Sum.casesOn m (λn=>none) (λo=>Sum.casesOn o (λp=>none) (λq=>Sum.casesOn q (λs=>none) (λt=>Sum.casesOn t (λu=>none) (λv=>none)))))):Option KO).getD (List.replicate 3 0,[])).1).getD 0 0),!DQ (((((Sum.casesOn a.1 (λb=>b) (λc=>Sum.casesOn c (λd=>none) (λe=>Sum.casesOn e (λf=>none) (λg=>Sum.casesOn g (λh=>none) (λi=>Sum.casesOn i (λj=>none) (λk=>none)))))):Option KO).getD (List.replicate 3 0,[])).1).getD 1 0) (((((Sum.casesOn a.2.1 (λl=>l) (λm=>Sum.casesOn m (λn=>none) (λo=>Sum.casesOn o (λp=>none) (λq=>Sum.casesOn q (λs=>none) (λt=>Sum.casesOn t (λu=>none) (λv=>none)))))):Option KO).getD (List.replicate 3 0,[])).1).getD 1 0))).bind λb=>some (b,0)else bif ((Sum.casesOn a.1 (λb=>none) (λc=>Sum.casesOn c (λd=>d) (λe=>Sum.casesOn e (λf=>none) (λg=>Sum.casesOn g (λh=>none) (λi=>Sum.casesOn i (λj=>none) (λk=>none)))))):Option K7).isSome then(P_ (((((Sum.casesOn a.1 (λb=>none) (λc=>Sum.casesOn c (λd=>d) (λe=>Sum.casesOn e (λf=>none) (λg=>Sum.casesOn g (λh=>none) (λi=>Sum.casesOn i (λj=>none) (λk=>none)))))):Option K7).getD (0,[],[],false)).2).1)).bind λl=>(P_ (((((Sum.casesOn a.2.1 (λm=>none) (λn=>Sum.casesOn n (λo=>o) (λp=>Sum.casesOn p (λq=>none) (λs=>Sum.casesOn s (λt=>none) (λu=>Sum.casesOn u (λv=>none) (λw=>none)))))):Option K7).getD (0,[],[],false)).2).1)).bind λy=>(nS (!DQ ((((Sum.casesOn a.1 (λb=>none) (λc=>Sum.casesOn c (λd=>d) (λe=>Sum.casesOn e (λf=>none) (λg=>Sum.casesOn g (λh=>none) (λi=>Sum.casesOn i (λj=>none) (λk=>none)))))):Option K7).getD (0,[],[],false)).1) ((((Sum.casesOn a.2.1 (λm=>none) (λn=>Sum.casesOn n (λo=>o) (λp=>Sum.casesOn p (λq=>none) (λs=>Sum.casesOn s (λt=>none) (λu=>Sum.casesOn u (λv=>none) (λw=>none)))))):Option K7).getD (0,[],[],false)).1),!DR l y)).bind λb=>some (b,0)else bif ((Sum.casesOn a.1 (λb=>none) (λc=>Sum.casesOn c (λd=>none) (λe=>Sum.casesOn e (λf=>f) (λg=>Sum.casesOn g (λh=>none) (λi=>Sum.casesOn i (λj=>none) (λk=>none)))))):Option FQ).isSome then let l:=(((Sum.casesOn a.1 (λb=>none) (λc=>Sum.casesOn c (λd=>none) (λe=>Sum.casesOn e (λf=>f) (λg=>Sum.casesOn g (λh=>none) (λi=>Sum.casesOn i (λj=>none) (λk=>none)))))):Option FQ).getD (0,[],0,0,0,0,[])).1;let m:=(((Sum.casesOn a.2.1 (λn=>none) (λo=>Sum.casesOn o (λp=>none) (λq=>Sum.casesOn q (λs=>s) (λt=>Sum.casesOn t (λu=>none) (λv=>Sum.casesOn v (λw=>none) (λy=>none)))))):Option FQ).getD (0,[],0,0,0,0,[])).1;(bif !(!DQ l m)then nT (((((Sum.casesOn a.1 (λb=>none) (λc=>Sum.casesOn c (λd=>none) (λe=>Sum.casesOn e (λf=>f) (λg=>Sum.casesOn g (λh=>none) (λi=>Sum.casesOn i (λj=>none) (λk=>none)))))):Option FQ).getD (0,[],0,0,0,0,[])).2).1,0)else some 0).bind λaa=>(bif !(!DQ l m)then nT (((((Sum.casesOn a.2.1 (λn=>none) (λo=>Sum.casesOn o (λp=>none) (λq=>Sum.casesOn q (λs=>s) (λt=>Sum.casesOn t (λu=>none) (λv=>Sum.casesOn v (λw=>none) (λy=>none)))))):Option FQ).getD (0,[],0,0,0,0,[])).2).1,0)else some 0).bind λab=>(nT (((((Sum.casesOn a.1 (λb=>none) (λc=>Sum.casesOn c (λd=>none) (λe=>Sum.casesOn e (λf=>f) (λg=>Sum.casesOn g (λh=>none) (λi=>Sum.casesOn i (λj=>none) (λk=>none)))))):Option FQ).getD (0,[],0,0,0,0,[])).2).1,1)).bind λb=>(nT (((((Sum.casesOn a.2.1 (λn=>none) (λo=>Sum.casesOn o (λp=>none) (λq=>Sum.casesOn q (λs=>s) (λt=>Sum.casesOn t (λu=>none) (λv=>Sum.casesOn v (λw=>none) (λy=>none)))))):Option FQ).getD (0,[],0,0,0,0,[])).2).1,1)).bind λc=>(nS (!DQ l m||!DQ aa ab,!DQ b c)).bind λb=>some (b,0)else bif ((Sum.casesOn a.1 (λb=>none) (λc=>Sum.casesOn c (λd=>none) (λe=>Sum.casesOn e (λf=>none) (λg=>Sum.casesOn g (λh=>h) (λi=>Sum.casesOn i (λj=>none) (λk=>none)))))):Option GZ).isSome then(nU (((Sum.casesOn a.1 (λb=>none) (λc=>Sum.casesOn c (λd=>none) (λe=>Sum.casesOn e (λf=>none) (λg=>Sum.casesOn g (λh=>h) (λi=>Sum.casesOn i (λj=>none) (λk=>none)))))):Option GZ).getD [],0)).bind λl=>(nU (((Sum.casesOn a.2.1 (λm=>none) (λn=>Sum.casesOn n (λo=>none) (λp=>Sum.casesOn p (λq=>none) (λs=>Sum.casesOn s (λt=>t) (λu=>Sum.casesOn u (λv=>none) (λw=>none)))))):Option GZ).getD [],0)).bind λy=>(nU (((Sum.casesOn a.1 (λb=>none) (λc=>Sum.casesOn c (λd=>none) (λe=>Sum.casesOn e (λf=>none) (λg=>Sum.casesOn g (λh=>h) (λi=>Sum.casesOn i (λj=>none) (λk=>none)))))):Option GZ).getD [],1)).bind λb=>(nU (((Sum.casesOn a.2.1 (λm=>none) (λn=>Sum.casesOn n (λo=>none) (λp=>Sum.casesOn p (λq=>none) (λs=>Sum.casesOn s (λt=>t) (λu=>Sum.casesOn u (λv=>none) (λw=>none)))))):Option GZ).getD [],1)).bind λa=>(nS (!(H_ l.1 y.1&&(DR l.2.1 y.2.1&&DQ l.2.2 y.2.2)),!(H_ b.1 a.1&&(DR b.2.1 a.2.1&&DQ b.2.2 a.2.2)))).bind λa=>some (a,0)else some (1,0)
def AIf:(Int×Int×Int)×Bool->Option (Int×Int×Int):=λ(a,b)=>bif b then some (a.1,1,a.2.2)else a
def AIg:fI×(DM×DM)->Option (Int×Int×Int):=λ(a,b)=>(A5q (a.2.2.2.1,b.1)).bind λc=>(AIf ((0,0,0),!DR c.1 b.2)).bind λd=>bif DR b.2 []then d else(AId (a,b)).bind λa=>bif c.2 then(nR b.1).bind λe=>(AIe (e.1,c.1,b.2)).bind λb=>(a,d.2.1,b.1)else(a,d.2)
end
end Go.Ev.Pv
