/-
  The program's functions as plain Lean functions (printed by a program of the author's from the translation).
-/
import Derived.Test.YtlljgbmoloklgaaGreatDoorBE4
import Derived.Lib.AtoiAll
import Derived.Lib.ItoaNum
import Derived.Lib.Strings
import Derived.Lib.Join
import Derived.Lib.Split
import Derived.Lib.Repeat
import Derived.Lib.FieldsP
import Derived.Lib.MapU
import Derived.Lib.LastIndexByte
import Derived.Lib.Bytealg
import Derived.Lib.IndexMore
import Derived.Lib.CountLaws
import Derived.Lib.BitFns
import Derived.Sort.Defs
set_option linter.unusedVariables false
set_option linter.unusedSimpArgs false
set_option linter.unusedSectionVars false
set_option maxRecDepth 100000
open Go.IntKind hiding min max bits signed
namespace Go.Ev.Pv
def fuel:Nat:=18446744073709551616
def str? (s:E1):Option E1:=bif decide (s.length<=281474976710656)then some s else none
theorem str?_some{s r:E1}(h:str? s=some r):r=s/\s.length<=281474976710656:=by
 unfold str? at h;cases hd:decide (s.length<=281474976710656)with
 |false=>rw[hd]at h;cases h
 |true=>rw[hd]at h;cases h;exact⟨rfl,A9 hd⟩
def HZ{α:Type}(c:Prop) [Decidable c](x:Option α):Option α:=bif decide c then x else none
theorem MH{α:Type}{c:Prop}{_:Decidable c}{x:Option α}{r:α}(h:HZ c x=some r):c/\x=some r:=by
 unfold HZ at h;cases hd:decide c with
 |false=>rw[hd]at h;cases h
 |true=>rw[hd]at h;exact⟨A9 hd,h⟩
def L3:Nat->Nat->E1
 |0,_=>[]
 |k+1,u=>if u<10 then [UInt8.ofNat (48+u)]else L3 k (u / 10)++[UInt8.ofNat (48+u % 10)]
theorem zM:∀(k u:Nat),u<10 ^ k->1<=k->L3 k u=Lib.decDigits u:=by
 intro k;induction k with
 |zero=>intro u _ h;omega
 |succ k ih=>
  intro u hu _;rw[Lib.decDigits];simp only[L3];by_cases h:u<10
  ·rw[if_pos h,dif_pos h]
  ·rw[if_neg h,dif_neg h]
   have hk:1<=k:=by
    rcases k with _|k
    ·simp at hu;omega
    ·omega
   rw[ih (u / 10) (by rw[Nat.pow_succ]at hu;omega) hk]
def O8(n:Int):E1:=if n<0 then 45::L3 20 n.natAbs else L3 20 n.toNat
theorem ABd{n:Int}(h0:-9223372036854775808<=n)(h1:n<=9223372036854775807):O8 n=Lib.itoa n:=by
 unfold O8 Lib.itoa;rw[zM 20 n.natAbs (by omega) (by decide),zM 20 n.toNat (by omega) (by decide)]
theorem zN:∀(k u:Nat),(L3 k u).length<=k:=by
 intro k;induction k with
 |zero=>intro u;exact AM _
 |succ k ih=>
  intro u;simp only[L3];split
  ·simp
  ·have:=ih (u / 10);simp only[A7,AD,AJ];omega
theorem zO(n:Int):(O8 n).length<=21:=by
 unfold O8;split
 ·have:=zN 20 n.natAbs;simp only[AD];omega
 ·have:=zN 20 n.toNat;omega
def strings_Join:(List (List UInt8))×(List UInt8)->Option (List UInt8):=fun x=>HZ (x.1.length<=140737488355328/\(Lib.join x.1 x.2).length<=140737488355328) (some (Lib.join x.1 x.2))
def UY:List UInt8->Option (List UInt8):=fun s=>HZ (s.length<35184372088832) (str? (Lib.toLowerD s))
def strconv_Itoa:Int->Option (List UInt8):=fun n=>some (O8 n)
def strings_IndexByte:(List UInt8)×Int->Option (Int):=fun x=>HZ (x.1.length<4611686018427387904) (some (Lib.indexByte x.1 x.2.toNat.toUInt8))
def strings_LastIndexByte:(List UInt8)×Int->Option (Int):=fun x=>HZ (x.1.length<4611686018427387904) (some (Lib.lastIndexByte ⟨x.1.toArray⟩ x.2))
def strings_Cut:(List UInt8)×(List UInt8)->Option ((List UInt8)×(List UInt8)×Bool):=fun x=>HZ (x.1.length<4294967281) (some (Lib.cut x.1 x.2))
def strings_Repeat:(List UInt8)×Int->Option (List UInt8):=fun x=>HZ (0<=x.2/\x.1.length*x.2.toNat<=140737488355328) (some (Lib.repeatL x.1 x.2.toNat))
def strings_Split:(List UInt8)×(List UInt8)->Option (List (List UInt8)):=fun x=>
 HZ (x.1.length<4294967281/\1<=x.2.length) (some ((Lib.splitB ⟨x.2.toArray⟩ 0 (Lib.countB ⟨x.1.toArray⟩ ⟨x.2.toArray⟩) ⟨x.1.toArray⟩).map fun b=>b.data.toList))
def ZT:List UInt8->Option (Int×Unit):=fun s=>HZ (s.length<=281474976710656) (match Lib.atoiAll s with
 | .ok v=>some (v,())
 | .range=>some (Lib.atoiSat s,())
 |_=>some (0,()))
noncomputable def RX:(List UInt8)×(Int->Option Bool)->Option (List (List UInt8)):=fun x=>
 @HZ _ (x.1.length<=4294967296/\(∀r:Nat,r<=1114111->∃b,x.2 (r:Int)=some b)/\(Lib.goFieldsP (fun r=>(x.2 (r:Int)).getD false) ⟨x.1.toArray⟩).length<=281474976710656) (Classical.propDecidable _) (some ((Lib.goFieldsP (fun r=>(x.2 (r:Int)).getD false) ⟨x.1.toArray⟩).map fun b=>b.data.toList))
def strings_HasPrefix:(List UInt8)×(List UInt8)->Option (Bool):=fun x=>some (Lib.hasPrefix x.1 x.2)
def strings_TrimPrefix:(List UInt8)×(List UInt8)->Option (List UInt8):=fun x=>some (Lib.trimPrefix x.1 x.2)
def strings_CutPrefix:(List UInt8)×(List UInt8)->Option ((List UInt8)×Bool):=fun x=>some (Lib.trimPrefix x.1 x.2,Lib.hasPrefix x.1 x.2)
def ZU:List Int->Option (List Int):=fun xs=>some xs
def N7:List Int->Option (List UInt8):=fun xs=>some (HJ xs)
section
variable{T:Type}
def N8(xs:List T)(F:T×T->Option Int)(i j:Fin xs.length):Int:=(F (xs.get i,xs.get j)).getD 0
def IL(xs:List T)(F:T×T->Option Int)(i j:Fin xs.length):Bool:=decide (N8 xs F i j<0)
def UZ(xs:List T)(F:T×T->Option Int):Prop:=
 (∀i j:Fin xs.length,(F (xs.get i,xs.get j)).isSome=true)/\(∀i:Fin xs.length,IL xs F i i=false)/\
 (∀i j k:Fin xs.length,IL xs F i j=true->IL xs F j k=true->IL xs F i k=true)/\(∀i j k:Fin xs.length,IL xs F i j=false->IL xs F j k=false->IL xs F i k=false)
instance{xs:List T}{F:T×T->Option Int}:Decidable (UZ xs F):=by unfold UZ;infer_instance
def ZV{α:Type} [Inhabited α](lt:α->α->Bool):Nat->Nat->Array α->Array α
 |0,_,d=>d
 |n+1,i,d=>ZV lt n (i+1) (Sort.insInner lt 0 i d)
theorem ABe{α:Type} [Inhabited α](lt:α->α->Bool):∀(n i:Nat) (d:Array α),Sort.insOuter lt 0 (i+n) i d=ZV lt n i d:=by
 intro n;induction n with
 |zero=>intro i d;rw[Sort.insOuter,if_neg (by omega)];rfl
 |succ n ih=>intro i d;rw[Sort.insOuter,if_pos (by omega),show i+(n+1)=(i+1)+n by omega,ih];rfl
def JR(xs:List T)(F:T×T->Option Int)(h:0<xs.length):Array (Fin xs.length):=
 haveI:Inhabited (Fin xs.length):=⟨⟨0,h⟩⟩
 if xs.length<=12 then ZV (IL xs F) (xs.length-1) 1 (Array.ofFn id)else Sort.pdq (IL xs F) (Array.ofFn id) 0 xs.length (Lib.bitLen xs.length) true true
theorem ABf{α:Type} [Inhabited α](lt:α->α->Bool)(d:Array α)(n lim:Nat)(h:0<n)(h12:n<=12):Sort.pdq lt d 0 n lim true true=ZV lt (n-1) 1 d:=by
 rw[Sort.pdq,if_pos (by omega),Sort.insertionSort];have:=ABe lt (n-1) 1 d;rw[show 1+(n-1)=n by omega]at this;exact this
theorem zP(xs:List T)(F:T×T->Option Int)(h:0<xs.length):
 JR xs F h= @Sort.pdq _ ⟨⟨0,h⟩⟩ (IL xs F) (Array.ofFn id) 0 xs.length (Lib.bitLen xs.length) true true:=by
 unfold JR;split
 ·rename_i h12;exact(@ABf _ ⟨⟨0,h⟩⟩ (IL xs F) (Array.ofFn id) xs.length _ h h12).symm
 ·rfl
def P5(xs:List T)(F:T×T->Option Int):Option (List T):=
 if h:0<xs.length then HZ (UZ xs F) (some ((JR xs F h).toList.map xs.get))else some []
end
def lE:(List ((Int×(List UInt8)×Bool×(List UInt8))×(Int×(List UInt8)×Bool×(List UInt8))))×((((Int×(List UInt8)×Bool×(List UInt8))×(Int×(List UInt8)×Bool×(List UInt8)))×((Int×(List UInt8)×Bool×(List UInt8))×(Int×(List UInt8)×Bool×(List UInt8))))->Option Int)->Option (List ((Int×(List UInt8)×Bool×(List UInt8))×(Int×(List UInt8)×Bool×(List UInt8)))):=fun v=>P5 v.1 v.2
end Go.Ev.Pv
namespace Go.Ev.Pv
noncomputable section
abbrev GJ:=(Bool×Bool×E1)
abbrev FN:=(List (GJ×GJ))
abbrev P6:=(E1×(Int×FN)×Int)
abbrev H6:=(List P6)
abbrev JD:=(List (E1×E1×H6×Bool))
abbrev E7:=(List (E1×E1))
abbrev ID:=(List (Int×E1))
abbrev GY:=(E1×Int×ID×(List E1)×(List E1))
abbrev L4:=(E1×(List E1)×E1×Int×Bool×E1×(List GY))
abbrev RY:=(Int×(List L4)×(List Int))
abbrev GP:=(JD×H6×Int×E7×(List E1)×Bool×RY)
abbrev EB:=(Int×E1×E1×Int)
abbrev FZ:=(Option (GP×(List E1)×(List (List E1))×(List (List Int))×(List (List (List Int)))×(List Int)×Int))
abbrev JE:=((List Int)×(List E1))
abbrev IZ:=(Int×E1×E1×Bool)
abbrev F_:=(Int×(List Int)×Int×Int×Int×Int×(List E1))
abbrev K1:=(Bool×E1×Int)
abbrev GZ:=(List K1)
abbrev H3:=(Sum JE (Sum IZ (Sum F_ (Sum GZ (Sum Int Unit)))))
abbrev H4:=(GP×((List E1)×((List (List E1))×((List (List Int))×((List (List (List Int)))×((List Int)×Int))))))
abbrev K2:=(Int×E1×Bool×E1)
abbrev FS:=(K2×K2)
abbrev FV:=(((E1×E1)×(E1×E1))->Option Int)
abbrev FA:=(E1×Int×Int)
abbrev FW:=((EB×EB)->Option Int)
abbrev FP:=(Int×Int×Int)
abbrev H7:=((E1×E1)×(E1×E1)->Option Int)
abbrev HF:=(E1×(E1×(E1×(E1×(E7×E1)))))
abbrev H_:=(E1×E1×E1×E1×E7×E1)
abbrev H8:=(EB×EB->Option Int)
abbrev IM:=(Option ((List Int)->Option FP))
abbrev I9:=(Option (List Int))
abbrev IE:=(Sum (Unit) (Int))
abbrev LX:=(List (Int×E1×E1))
abbrev JS:=(List (Int×FN))
abbrev P7:=(E1×Int×Bool×Bool×Int)
abbrev KL:=((List E1)×Bool)
abbrev L5:=((List EB)×Int)
abbrev MI:=(Int->Option Bool)
abbrev lF:=(Sum ((List E7)×FZ×Int) (Bool×(List E7)×FZ×Int))
abbrev O9:=(Bool×I9×FP)
abbrev N9:=(Sum (Unit) (Bool))
abbrev Nj0(z:H3):Option JE:=Sum.casesOn z (fun a=>some a) (fun b=>(Sum.casesOn b (fun c=>none) (fun d=>(Sum.casesOn d (fun e=>none) (fun f=>(Sum.casesOn f (fun g=>none) (fun h=>(Sum.casesOn h (fun i=>none) (fun j=>none)))))))))
abbrev Nj1(z:H3):Option IZ:=Sum.casesOn z (fun a=>none) (fun b=>(Sum.casesOn b (fun c=>some c) (fun d=>(Sum.casesOn d (fun e=>none) (fun f=>(Sum.casesOn f (fun g=>none) (fun h=>(Sum.casesOn h (fun i=>none) (fun j=>none)))))))))
abbrev Nj2(z:H3):Option F_:=Sum.casesOn z (fun a=>none) (fun b=>(Sum.casesOn b (fun c=>none) (fun d=>(Sum.casesOn d (fun e=>some e) (fun f=>(Sum.casesOn f (fun g=>none) (fun h=>(Sum.casesOn h (fun i=>none) (fun j=>none)))))))))
abbrev Nj3(z:H3):Option GZ:=Sum.casesOn z (fun a=>none) (fun b=>(Sum.casesOn b (fun c=>none) (fun d=>(Sum.casesOn d (fun e=>none) (fun f=>(Sum.casesOn f (fun g=>some g) (fun h=>(Sum.casesOn h (fun i=>none) (fun j=>none)))))))))
abbrev Rd(A B:Type):=(A->Option B)->A->Option B
def ZW:List Int->Option (Bool):=fun _=>
 some true
def L6:Int×Int->Option (Bool):=fun(a,b)=>
 (shr? u16 a b).bind fun a=>
 some (E6 (IH u16 a 1) 1)
def lG:Rd (Int×Int) IE:=fun a (b,c)=>
 bif (decide (c<16))then
  (L6 (b,c)).bind fun d=>
  bif d then
   some (.inr c)
  else
   a (b,(i64.wrap (c+1)))
 else
  some (.inl ())
def ZX:=EL lG fuel
def P8:Int->Option (Int):=fun a=>
 (ZX (a,0)).bind fun a=>
 match a with
 | .inl _=>
  some 0
 | .inr a=>
  some a
def lH:Rd (FZ×E7×(List Int)×Int×Int) E7:=fun a (b,c,d,e,f)=>
 bif (decide (f<e))then
  (at? d f).bind fun g=>
  (P8 g).bind fun g=>
  bif (decide (0<g))then
   (b).bind fun h=>
   (at? h.2.1 f).bind fun h=>
   (b).bind fun i=>
   (at? i.2.2.1 f).bind fun i=>
   (at? i (i64.wrap (g-1))).bind fun g=>
   (app? 48 c [(h,g)]).bind fun g=>
   a (b,g,d,e,(i64.wrap (f+1)))
  else
   a (b,c,d,e,(i64.wrap (f+1)))
 else
  some c
def lI:=EL lH fuel
def RZ:FZ×(List Int)->Option E7:=fun(a,b)=>
 (lI (a,[],b,(b.length:Int),0)).bind fun a=>
 some a
def lJ:(List Int)×(List E7)×FZ×Int->Option (Bool×(List E7)):=fun(a,b,c,d)=>
 (RZ (c,a)).bind fun a=>
 (app? 24 b [a]).bind fun a=>
 some ((decide ((a.length:Int)<d)),a)
def zQ:Rd ((List Int)×Int×Int) (List Int):=fun a (b,c,d)=>
 bif (decide (d<c))then
  (in? b.length d).bind fun _=>
  bif ((decide (65<=(b.getD d.toNat 0)))&&(decide ((b.getD d.toNat 0)<=90)))then
   (in? b.length d).bind fun _=>
   a ((b.set d.toNat (u8.wrap ((u8.wrap ((b.getD d.toNat 0)+97))-65))),c,(i64.wrap (d+1)))
  else
   a (b,c,(i64.wrap (d+1)))
 else
  some b
def lK:=EL zQ fuel
def P9:E1->Option E1:=fun a=>
 (lK ((GB a),((GB a).length:Int),0)).bind fun a=>
 (cat? [] (HJ a)).bind fun a=>
 some a
def NA:FA×Int->Option FA:=fun(a,b)=>
 bif (decide (a.2.2<0))then
  some (a.1,(a.2.1,b))
 else
  some a
def MJ:Option FA->Option (Int):=fun a=>
 (a).bind fun b=>
 (a).bind fun c=>
 bif (decide (b.2.1<(c.1.length:Int)))then
  (a).bind fun b=>
  (a).bind fun a=>
  (at? b.1 a.2.1).bind fun a=>
  some (a.toNat:Int)
 else
  some 0
def U_:Int->Option (Bool):=fun a=>
 some (((decide (97<=a))&&(decide (a<=122)))||((decide (65<=a))&&(decide (a<=90))))
def zR:Rd (FA×Int) (Sum FA (FA×E1)):=fun a (b,c)=>
 bif (decide (c<4))then
  (bif (!(decide ((b.1.length:Int)<=c)))then cut? b.1 c (i64.wrap (c+1))else some []).bind fun d=>
  (bif (!(decide ((b.1.length:Int)<=c)))then P9 d else some []).bind fun d=>
  (bif (!(decide ((b.1.length:Int)<=c)))then cut? [112,107,103,58] c (i64.wrap (c+1))else some []).bind fun e=>
  bif ((decide ((b.1.length:Int)<=c))||(!(EM d e)))then
   (NA (b,c)).bind fun d=>
   some (.inr (d,[]))
  else
   a (b,(i64.wrap (c+1)))
 else
  some (.inl b)
def lL:=EL zR fuel
def zS:Rd FA FA:=fun a b=>
 (bif (decide (b.2.1<(b.1.length:Int)))then at? b.1 b.2.1 else some 0).bind fun c=>
 (bif (decide (b.2.1<(b.1.length:Int)))then U_ (c.toNat:Int)else some false).bind fun c=>
 bif ((decide (b.2.1<(b.1.length:Int)))&&c)then
  a (b.1,((i64.wrap (b.2.1+1)),b.2.2))
 else
  some b
def lM:=EL zS fuel
def ZY:FA×Bool->Option FA:=fun(a,b)=>
 bif b then
  some (a.1,((i64.wrap (a.2.1+1)),a.2.2))
 else
  (lM a).bind fun a=>
  some a
def ZZ:FA×Bool->Option (E1×FA):=fun(a,b)=>
 (lL (a,0)).bind fun a=>
 match a with
 | .inl a=>
  (bif b then MJ (some (a.1,(4,a.2.2)))else some 0).bind fun c=>
  (ZY ((a.1,(4,a.2.2)),(b&&(E6 c 42)))).bind fun a=>
  (cut? a.1 4 a.2.1).bind fun b=>
  (bif (!(EM b []))then MJ (some a)else some 0).bind fun c=>
  bif ((EM b [])||(!(E6 c 47)))then
   (NA (a,a.2.1)).bind fun c=>
   some ([],c)
  else
   (P9 b).bind fun b=>
   some (b,(a.1,((i64.wrap (a.2.1+1)),a.2.2)))
 | .inr a=>
  some (a.2,a.1)
def Z_:Int->Option (Int):=fun a=>
 bif ((decide (48<=a))&&(decide (a<=57)))then
  some (i64.wrap (u8.wrap (a-48)))
 else
  bif ((decide (97<=a))&&(decide (a<=102)))then
   some (i64.wrap ((i64.wrap (u8.wrap (a-97)))+10))
  else
   bif ((decide (65<=a))&&(decide (a<=70)))then
    some (i64.wrap ((i64.wrap (u8.wrap (a-65)))+10))
   else
    some (-1:Int)
def aA:FA×Int×Int×Bool->Option (FA×Int):=fun(a,b,c,d)=>
 bif d then
  (at? a.1 (i64.wrap (a.2.1+b))).bind fun b=>
  (Z_ (b.toNat:Int)).bind fun b=>
  some (a,b)
 else
  some (a,c)
def zT:Rd (FA×Int×Int) (Sum (FA×Int) (FA×Int×Bool)):=fun a (b,c,d)=>
 bif (decide (d<=2))then
  (aA (b,d,(-1:Int),(decide ((i64.wrap (b.2.1+d))<(b.1.length:Int))))).bind fun e=>
  bif (decide (e.2<0))then
   (NA (e.1,(i64.wrap (e.1.2.1+d)))).bind fun f=>
   some (.inr (f,0,false))
  else
   a (e.1,(i64.wrap ((i64.wrap (16*c))+e.2)),(i64.wrap (d+1)))
 else
  some (.inl (b,c))
def lN:=EL zT fuel
def aB:E1×Int×Int->Option (Int×Bool×FA):=fun a=>
 bif (decide ((a.1.length:Int)<=a.2.1))then
  some (0,false,a)
 else
  (at? a.1 a.2.1).bind fun b=>
  bif (!(E6 (b.toNat:Int) 37))then
   let c:=((decide ((b.toNat:Int)<33))||(decide (126<(b.toNat:Int))))
   (bif (!c)then strings_IndexByte ([47,64,63,35,38,61],(b.toNat:Int))else some 0).bind fun d=>
   bif (c||(decide (0<=d)))then
    some (0,false,a)
   else
    some ((b.toNat:Int),true,(a.1,((i64.wrap (a.2.1+1)),a.2.2)))
  else
   (lN (a,0,1)).bind fun a=>
   match a with
   | .inl a=>
    some ((u8.wrap a.2),true,(a.1.1,((i64.wrap (a.1.2.1+3)),a.1.2.2)))
   | .inr a=>
    some (a.2.1,a.2.2,a.1)
def zU:Rd (FA×(List Int)) (FA×(List Int)):=fun a (b,c)=>
 bif (decide (b.2.2<0))then
  (aB b).bind fun d=>
  bif (!d.2.1)then
   some (d.2.2,c)
  else
   (app? 24 c [d.1]).bind fun e=>
   a (d.2.2,e)
 else
  some (b,c)
def lO:=EL zU fuel
def PA:E1×Int×Int->Option (E1×FA):=fun a=>
 (lO (a,[])).bind fun a=>
 bif (E6 (a.2.length:Int) 0)then
  (NA (a.1,a.1.2.1)).bind fun b=>
  (cat? [] (HJ a.2)).bind fun c=>
  some (c,b)
 else
  (cat? [] (HJ a.2)).bind fun b=>
  some (b,a.1)
def zV:Rd (FA×(List E1)) (FA×(List E1)):=fun a (b,c)=>
 (bif (decide (b.2.2<0))then MJ (some b)else some 0).bind fun d=>
 bif ((decide (b.2.2<0))&&(E6 d 47))then
  (PA (b.1,((i64.wrap (b.2.1+1)),b.2.2))).bind fun d=>
  (app? 24 c [d.1]).bind fun e=>
  a (d.2,e)
 else
  some (b,c)
def lP:=EL zV fuel
def V0:E1×Int×Int->Option ((List E1)×FA):=fun a=>
 (PA a).bind fun a=>
 (lP (a.2,[a.1])).bind fun a=>
 some (a.2,a.1)
def V1:Int×Bool->Option (Bool):=fun(a,b)=>
 bif ((decide (97<=a))&&(decide (a<=122)))then
  some true
 else
  some ((!b)&&(((((decide (48<=a))&&(decide (a<=57)))||(E6 a 46))||(E6 a 45))||(E6 a 95)))
def zW:Rd (FA×Int) FA:=fun a (b,c)=>
 (bif (decide (b.2.1<(b.1.length:Int)))then at? b.1 b.2.1 else some 0).bind fun d=>
 (bif (decide (b.2.1<(b.1.length:Int)))then V1 ((d.toNat:Int),(E6 b.2.1 c))else some false).bind fun d=>
 bif ((decide (b.2.1<(b.1.length:Int)))&&d)then
  a ((b.1,((i64.wrap (b.2.1+1)),b.2.2)),c)
 else
  some b
def lQ:=EL zW fuel
def aC:E1×Int×Int->Option ((E1×E1)×FA):=fun a=>
 (lQ (a,a.2.1)).bind fun b=>
 (cut? b.1 a.2.1 b.2.1).bind fun a=>
 (bif (!(EM a []))then MJ (some b)else some 0).bind fun c=>
 bif ((EM a [])||(!(E6 c 61)))then
  (NA (b,b.2.1)).bind fun c=>
  some (([],[]),c)
 else
  (PA (b.1,((i64.wrap (b.2.1+1)),b.2.2))).bind fun b=>
  some ((a,b.1),b.2)
def aD:FA×HF×Bool->Option (FA×HF):=fun(a,b,c)=>
 bif c then
  (PA (a.1,((i64.wrap (a.2.1+1)),a.2.2))).bind fun c=>
  some (c.2,(b.1,(b.2.1,(b.2.2.1,(c.1,(b.2.2.2.2.1,b.2.2.2.2.2))))))
 else
  some (a,(b.1,(b.2.1,(b.2.2.1,(b.2.2.2.1,(b.2.2.2.2.1,b.2.2.2.2.2))))))
def zX:Rd (FA×HF×Int) (FA×HF):=fun a (b,c,d)=>
 let e:=((decide (b.2.2<0))&&(decide (b.2.1<(b.1.length:Int))))
 (bif e then MJ (some b)else some 0).bind fun f=>
 bif (e&&(E6 f d))then
  (aC (b.1,((i64.wrap (b.2.1+1)),b.2.2))).bind fun d=>
  (app? 48 c.2.2.2.2.1 [d.1]).bind fun e=>
  a (d.2,(c.1,(c.2.1,(c.2.2.1,(c.2.2.2.1,(e,c.2.2.2.2.2))))),38)
 else
  some (b,(c.1,(c.2.1,(c.2.2.1,(c.2.2.2.1,(c.2.2.2.2.1,c.2.2.2.2.2))))))
def lR:=EL zX fuel
def aF:FA×HF×Bool->Option (FA×HF):=fun(a,b,c)=>
 bif c then
  (V0 (a.1,((i64.wrap (a.2.1+1)),a.2.2))).bind fun c=>
  (strings_Join (c.1,[47])).bind fun d=>
  some (c.2,(b.1,(b.2.1,(b.2.2.1,(b.2.2.2.1,(b.2.2.2.2.1,d))))))
 else
  some (a,(b.1,(b.2.1,(b.2.2.1,(b.2.2.2.1,(b.2.2.2.2.1,b.2.2.2.2.2))))))
def aG:E1×Int×Int->Option (HF×FA):=fun a=>
 (ZZ (a,false)).bind fun a=>
 bif (decide (0<=a.2.2.2))then
  some ((a.1,([],([],([],([],[]))))),a.2)
 else
  (V0 a.2).bind fun b=>
  (cut? b.1 0 (i64.wrap ((b.1.length:Int)-1))).bind fun c=>
  (strings_Join (c,[47])).bind fun c=>
  (at? b.1 (i64.wrap ((b.1.length:Int)-1))).bind fun d=>
  (bif (decide (b.2.2.2<0))then MJ (some b.2)else some 0).bind fun e=>
  (aD (b.2,(a.1,(c,(d,([],([],[]))))),((decide (b.2.2.2<0))&&(E6 e 64)))).bind fun a=>
  (lR (a.1,(a.2.1,(a.2.2.1,(a.2.2.2.1,(a.2.2.2.2.1,(a.2.2.2.2.2.1,a.2.2.2.2.2.2))))),63)).bind fun a=>
  (bif (decide (a.1.2.2<0))then MJ (some a.1)else some 0).bind fun b=>
  (aF (a.1,(a.2.1,(a.2.2.1,(a.2.2.2.1,(a.2.2.2.2.1,(a.2.2.2.2.2.1,a.2.2.2.2.2.2))))),((decide (a.1.2.2<0))&&(E6 b 35)))).bind fun a=>
  bif ((decide (a.1.2.2<0))&&(decide (a.1.2.1<(a.1.1.length:Int))))then
   (NA (a.1,a.1.2.1)).bind fun b=>
   some ((a.2.1,(a.2.2.1,(a.2.2.2.1,(a.2.2.2.2.1,(a.2.2.2.2.2.1,a.2.2.2.2.2.2))))),b)
  else
   some ((a.2.1,(a.2.2.1,(a.2.2.2.1,(a.2.2.2.2.1,(a.2.2.2.2.2.1,a.2.2.2.2.2.2))))),a.1)
def zY:Rd (E7×Int×FV×Int) E7:=fun a (b,c,d,e)=>
 (bif (decide (c<e))then in? b.length e else some ()).bind fun _=>
 (bif (decide (c<e))then in? b.length (i64.wrap (e-1))else some ()).bind fun _=>
 (bif (decide (c<e))then d ((b.getD e.toNat ([],[])),(b.getD ((i64.wrap (e-1)).toNat) ([],[])))else some 0).bind fun f=>
 bif ((decide (c<e))&&(decide (f<0)))then
  (in? b.length (i64.wrap (e-1))).bind fun _=>
  let f:=(b.getD ((i64.wrap (e-1)).toNat) ([],[]))
  (in? b.length e).bind fun _=>
  (in? b.length e).bind fun _=>
  (in? (b.set e.toNat f).length (i64.wrap (e-1))).bind fun _=>
  a (((b.set e.toNat f).set ((i64.wrap (e-1)).toNat) (b.getD e.toNat ([],[]))),c,d,(i64.wrap (e-1)))
 else
  some b
def lS:=EL zY fuel
def zZ:Rd (E7×Int×Int×FV×Int) E7:=fun a (b,c,d,e,f)=>
 bif (decide (f<d))then
  (lS (b,c,e,f)).bind fun g=>
  a (g,c,d,e,(i64.wrap (f+1)))
 else
  some b
def lT:=EL zZ fuel
def V2:E7×Int×Int×FV->Option E7:=fun(a,b,c,d)=>
 (lT (a,b,c,d,(i64.wrap (b+1)))).bind fun a=>
 some a
def z_:Rd (E7×Int×Int×Int×Int) E7:=fun a (b,c,d,e,f)=>
 bif (decide (f<e))then
  (in? b.length (i64.wrap (d+f))).bind fun _=>
  let g:=(b.getD ((i64.wrap (d+f)).toNat) ([],[]))
  (in? b.length (i64.wrap (c+f))).bind fun _=>
  (in? b.length (i64.wrap (c+f))).bind fun _=>
  (in? (b.set ((i64.wrap (c+f)).toNat) g).length (i64.wrap (d+f))).bind fun _=>
  a (((b.set ((i64.wrap (c+f)).toNat) g).set ((i64.wrap (d+f)).toNat) (b.getD ((i64.wrap (c+f)).toNat) ([],[]))),c,d,e,(i64.wrap (f+1)))
 else
  some b
def lU:=EL z_ fuel
def R_:E7×Int×Int×Int×FV->Option E7:=fun(a,b,c,d,_)=>
 (lU (a,b,c,d,0)).bind fun a=>
 some a
def A00:Rd (E7×Int×FV×Int×Int) (E7×Int):=fun a (b,c,d,e,f)=>
 bif (!(E6 e f))then
  bif (decide (f<e))then
   (R_ (b,(i64.wrap (c-e)),c,f,d)).bind fun g=>
   a (g,c,d,(i64.wrap (e-f)),f)
  else
   (R_ (b,(i64.wrap (c-e)),(i64.wrap ((i64.wrap (c+f))-e)),e,d)).bind fun g=>
   a (g,c,d,e,(i64.wrap (f-e)))
 else
  some (b,e)
def lV:=EL A00 fuel
def aH:E7×Int×Int×Int×FV->Option E7:=fun(a,b,c,d,e)=>
 (lV (a,c,e,(i64.wrap (c-b)),(i64.wrap (d-c)))).bind fun a=>
 (R_ (a.1,(i64.wrap (c-a.2)),c,a.2,e)).bind fun a=>
 some a
def A01(slf:E7×Int×Int×Int×FV->Option E7)(a:E7×Int×FV×Int×Int->Option (E7×Int)):E7×Int×FV×Int×Int->Option (E7×Int):=fun(b,c,d,e,f)=>
 bif (decide (e<f))then
  (shr? u64 (u64.wrap (i64.wrap (e+f))) 1).bind fun g=>
  (in? b.length (i64.wrap g)).bind fun _=>
  (in? b.length c).bind fun _=>
  (d ((b.getD ((i64.wrap g).toNat) ([],[])),(b.getD c.toNat ([],[])))).bind fun h=>
  bif (decide (h<0))then
   a (b,c,d,(i64.wrap ((i64.wrap g)+1)),f)
  else
   a (b,c,d,e,(i64.wrap g))
 else
  some (b,e)
def lW(slf:E7×Int×Int×Int×FV->Option E7):E7×Int×FV×Int×Int->Option (E7×Int):=EL (A01 slf) fuel
def A02(slf:E7×Int×Int×Int×FV->Option E7)(a:E7×Int×Int->Option E7):E7×Int×Int->Option E7:=fun(b,c,d)=>
 bif (decide (d<(i64.wrap (c-1))))then
  (in? b.length (i64.wrap (d+1))).bind fun _=>
  let e:=(b.getD ((i64.wrap (d+1)).toNat) ([],[]))
  (in? b.length d).bind fun _=>
  (in? b.length d).bind fun _=>
  (in? (b.set d.toNat e).length (i64.wrap (d+1))).bind fun _=>
  a (((b.set d.toNat e).set ((i64.wrap (d+1)).toNat) (b.getD d.toNat ([],[]))),c,(i64.wrap (d+1)))
 else
  some b
def lX(slf:E7×Int×Int×Int×FV->Option E7):E7×Int×Int->Option E7:=EL (A02 slf) fuel
def A03(slf:E7×Int×Int×Int×FV->Option E7)(a:E7×Int×FV×Int×Int->Option (E7×Int)):E7×Int×FV×Int×Int->Option (E7×Int):=fun(b,c,d,e,f)=>
 bif (decide (e<f))then
  (shr? u64 (u64.wrap (i64.wrap (e+f))) 1).bind fun g=>
  (in? b.length c).bind fun _=>
  (in? b.length (i64.wrap g)).bind fun _=>
  (d ((b.getD c.toNat ([],[])),(b.getD ((i64.wrap g).toNat) ([],[])))).bind fun h=>
  bif (!(decide (h<0)))then
   a (b,c,d,(i64.wrap ((i64.wrap g)+1)),f)
  else
   a (b,c,d,e,(i64.wrap g))
 else
  some (b,e)
def lY(slf:E7×Int×Int×Int×FV->Option E7):E7×Int×FV×Int×Int->Option (E7×Int):=EL (A03 slf) fuel
def A04(slf:E7×Int×Int×Int×FV->Option E7)(a:E7×Int×Int->Option E7):E7×Int×Int->Option E7:=fun(b,c,d)=>
 bif (decide (c<d))then
  (in? b.length (i64.wrap (d-1))).bind fun _=>
  let e:=(b.getD ((i64.wrap (d-1)).toNat) ([],[]))
  (in? b.length d).bind fun _=>
  (in? b.length d).bind fun _=>
  (in? (b.set d.toNat e).length (i64.wrap (d-1))).bind fun _=>
  a (((b.set d.toNat e).set ((i64.wrap (d-1)).toNat) (b.getD d.toNat ([],[]))),c,(i64.wrap (d-1)))
 else
  some b
def lZ(slf:E7×Int×Int×Int×FV->Option E7):E7×Int×Int->Option E7:=EL (A04 slf) fuel
def aI(slf:E7×Int×Int×Int×FV->Option E7):Int×Int×Int×Int×Int×Bool->Option (Int×Int):=fun(a,b,c,d,e,f)=>
 bif f then
  some ((i64.wrap (e-c)),d)
 else
  some (a,b)
def A05(slf:E7×Int×Int×Int×FV->Option E7)(a:E7×FV×Int×Int×Int->Option (E7×Int)):E7×FV×Int×Int×Int->Option (E7×Int):=fun(b,c,d,e,f)=>
 bif (decide (d<e))then
  (shr? u64 (u64.wrap (i64.wrap (d+e))) 1).bind fun g=>
  (in? b.length (i64.wrap (f-(i64.wrap g)))).bind fun _=>
  (in? b.length (i64.wrap g)).bind fun _=>
  (c ((b.getD ((i64.wrap (f-(i64.wrap g))).toNat) ([],[])),(b.getD ((i64.wrap g).toNat) ([],[])))).bind fun h=>
  bif (!(decide (h<0)))then
   a (b,c,(i64.wrap ((i64.wrap g)+1)),e,f)
  else
   a (b,c,d,(i64.wrap g),f)
 else
  some (b,d)
def l_(slf:E7×Int×Int×Int×FV->Option E7):E7×FV×Int×Int×Int->Option (E7×Int):=EL (A05 slf) fuel
def aJ(slf:E7×Int×Int×Int×FV->Option E7):E7×Int×FV×Int×Int×Bool->Option E7:=fun(a,b,c,d,e,f)=>
 bif f then
  (aH (a,d,b,e,c)).bind fun b=>
  some b
 else
  some a
def aK(slf:E7×Int×Int×Int×FV->Option E7):E7×Int×FV×Int×Int×Bool->Option E7:=fun(a,b,c,d,e,f)=>
 bif f then
  (slf (a,b,e,d,c)).bind fun b=>
  some b
 else
  some a
def m6(slf:E7×Int×Int×Int×FV->Option E7):E7×Int×Int×Int×FV->Option E7:=fun(a,b,c,d,e)=>
 bif (E6 (i64.wrap (c-b)) 1)then
  ((lW slf) (a,b,e,c,d)).bind fun f=>
  ((lX slf) (f.1,f.2,b)).bind fun f=>
  some f
 else
  bif (E6 (i64.wrap (d-c)) 1)then
   ((lY slf) (a,c,e,b,c)).bind fun f=>
   ((lZ slf) (f.1,f.2,c)).bind fun f=>
   some f
  else
   (shr? u64 (u64.wrap (i64.wrap (b+d))) 1).bind fun f=>
   ((aI slf) (b,c,d,(i64.wrap f),(i64.wrap ((i64.wrap f)+c)),(decide ((i64.wrap f)<c)))).bind fun g=>
   ((l_ slf) (a,e,g.1,g.2,(i64.wrap ((i64.wrap ((i64.wrap f)+c))-1)))).bind fun a=>
   let g:=(i64.wrap ((i64.wrap ((i64.wrap f)+c))-a.2))
   ((aJ slf) (a.1,c,e,a.2,g,((decide (a.2<c))&&(decide (c<g))))).bind fun c=>
   ((aK slf) (c,b,e,(i64.wrap f),a.2,((decide (b<a.2))&&(decide (a.2<(i64.wrap f)))))).bind fun a=>
   bif ((decide ((i64.wrap f)<g))&&(decide (g<d)))then
    (slf (a,(i64.wrap f),g,d,e)).bind fun b=>
    some b
   else
    some a
def KM:Nat->E7×Int×Int×Int×FV->Option E7
 |0=>fun _=>none
 |n+1=>m6 (KM n)
def V3:E7×Int×Int×Int×FV->Option E7:=KM 100
def A06:Rd (E7×Int×FV×Int×Int×Int) (E7×Int):=fun a (b,c,d,e,f,g)=>
 bif (decide (g<=c))then
  (V2 (b,f,g,d)).bind fun h=>
  a (h,c,d,e,g,(i64.wrap (g+e)))
 else
  some (b,f)
def m7:=EL A06 fuel
def A07:Rd (E7×Int×FV×Int×Int×Int) (E7×Int):=fun a (b,c,d,e,f,g)=>
 bif (decide (g<=c))then
  (V3 (b,f,(i64.wrap (f+e)),g,d)).bind fun h=>
  a (h,c,d,e,g,(i64.wrap (g+(i64.wrap (2*e)))))
 else
  some (b,f)
def m8:=EL A07 fuel
def A08:Rd (E7×Int×FV×Int) E7:=fun a (b,c,d,e)=>
 bif (decide (e<c))then
  (m8 (b,c,d,e,0,(i64.wrap (2*e)))).bind fun f=>
  bif (decide ((i64.wrap (f.2+e))<c))then
   (V3 (f.1,f.2,(i64.wrap (f.2+e)),c,d)).bind fun g=>
   a (g,c,d,(i64.wrap (e*2)))
  else
   a (f.1,c,d,(i64.wrap (e*2)))
 else
  some b
def m9:=EL A08 fuel
def aL:E7×Int×FV->Option E7:=fun(a,b,c)=>
 (m7 (a,b,c,20,0,20)).bind fun a=>
 (V2 (a.1,a.2,b,c)).bind fun a=>
 (m9 (a,b,c,20)).bind fun a=>
 some a
def aM:E7×FV->Option E7:=fun(a,b)=>
 (aL (a,(a.length:Int),b)).bind fun a=>
 some a
def S0:E1->Option (Bool):=fun a=>
 some (!(EM a a))
def MK:E1×E1->Option (Int):=fun(a,b)=>
 (S0 a).bind fun c=>
 (S0 b).bind fun d=>
 bif c then
  bif d then
   some 0
  else
   some (-1:Int)
 else
  bif d then
   some 1
  else
   bif (Op.bytesLess a b)then
    some (-1:Int)
   else
    bif (!(Op.bytesLess a b||EM a b))then
     some 1
    else
     some 0
def aN:(E1×E1)×(E1×E1)->Option (Int):=fun(a,b)=>
 (MK (a.1,b.1)).bind fun a=>
 some a
def aO:Unit->Option (List P7):=fun _=>
 some [([100,111,116,116,101,100],(2,(true,(false,1)))),([114,101,118,105,115,101,100],(3,(true,(false,2)))),([115,116,97,103,101,100],(1,(true,(true,3)))),([113,117,97,108,105,102,105,101,100],(3,(false,(false,4)))),([112,108,97,105,110],(2,(false,(false,5))))]
def A09:Rd (E1×(List P7)×Int) IE:=fun a (b,c,d)=>
 bif (decide (d<5))then
  (at? c d).bind fun e=>
  bif (EM e.1 b)then
   some (.inr d)
  else
   a (b,c,(i64.wrap (d+1)))
 else
  some (.inl ())
def mA:=EL A09 fuel
def aP:E1->Option (Int):=fun a=>
 (aO ()).bind fun b=>
 (mA (a,b,0)).bind fun a=>
 match a with
 | .inl _=>
  some (-1:Int)
 | .inr a=>
  some a
def S1:E1->Option (P7×Int):=fun a=>
 (aP a).bind fun a=>
 bif (decide (a<0))then
  some (([],(0,(false,(false,0)))),7)
 else
  (aO ()).bind fun b=>
  (at? b a).bind fun a=>
  some (a,0)
def A0A:Rd ((List E1)×Int×Int) N9:=fun a (b,c,d)=>
 bif (decide (d<c))then
  (at? b d).bind fun e=>
  bif (decide (200<(e.length:Int)))then
   some (.inr true)
  else
   a (b,c,(i64.wrap (d+1)))
 else
  some (.inl ())
def mB:=EL A0A fuel
def A0B:Rd (E7×Int×Int) N9:=fun a (b,c,d)=>
 bif (decide (d<c))then
  (at? b d).bind fun e=>
  bif ((decide (200<(e.1.length:Int)))||(decide (200<(e.2.length:Int))))then
   some (.inr true)
  else
   a (b,c,(i64.wrap (d+1)))
 else
  some (.inl ())
def mC:=EL A0B fuel
def aQ:E1×E1×E1×E1×E7×E1->Option (Bool):=fun a=>
 let b:=[a.2.1,a.2.2.1,a.2.2.2.1,a.2.2.2.2.2]
 (mB (b,(b.length:Int),0)).bind fun b=>
 match b with
 | .inl _=>
  (mC (a.2.2.2.2.1,(a.2.2.2.2.1.length:Int),0)).bind fun b=>
  match b with
  | .inl _=>
   some (decide (10<(a.2.2.2.2.1.length:Int)))
  | .inr a=>
   some a
 | .inr a=>
  some a
def S2:E1->Option (List E1):=fun a=>
 bif (EM a [])then
  some []
 else
  (strings_Split (a,[47])).bind fun a=>
  some a
def A0C:Rd (Bool×(List E1)×Int×Int) N9:=fun a (b,c,d,e)=>
 bif (decide (e<d))then
  (at? c e).bind fun f=>
  bif ((EM f [])||(b&&((EM f [46])||(EM f [46,46]))))then
   some (.inr true)
  else
   a (b,c,d,(i64.wrap (e+1)))
 else
  some (.inl ())
def mD:=EL A0C fuel
def V4:(List E1)×Bool->Option (Bool):=fun(a,b)=>
 (mD (b,a,(a.length:Int),0)).bind fun b=>
 match b with
 | .inl _=>
  some (decide (10<(a.length:Int)))
 | .inr a=>
  some a
def A0D:Rd FA N9:=fun a (b,c,d)=>
 bif (decide (d<c))then
  (at? b d).bind fun e=>
  (V1 ((e.toNat:Int),(E6 d 0))).bind fun e=>
  bif (!e)then
   some (.inr false)
  else
   a (b,c,(i64.wrap (d+1)))
 else
  some (.inl ())
def mE:=EL A0D fuel
def aR:E1->Option (Bool):=fun a=>
 (mE (a,(a.length:Int),0)).bind fun b=>
 match b with
 | .inl _=>
  some (!(EM a []))
 | .inr a=>
  some a
def A0E:Rd (E7×E7×Int×Int) IE:=fun a (b,c,d,e)=>
 bif (decide (e<d))then
  (at? c e).bind fun f=>
  (aR f.1).bind fun g=>
  bif (!g)then
   some (.inr 8)
  else
   bif (EM f.2 [])then
    some (.inr 2)
   else
    (bif (decide (0<e))then at? b (i64.wrap (e-1))else some ([],[])).bind fun g=>
    bif ((decide (0<e))&&(Op.bytesLess f.1 g.1||EM f.1 g.1))then
     some (.inr 10)
    else
     a (b,c,d,(i64.wrap (e+1)))
 else
  some (.inl ())
def mF:=EL A0E fuel
def aS:List (E1×E1)->Option (Int):=fun a=>
 (mF (a,a,(a.length:Int),0)).bind fun a=>
 match a with
 | .inl _=>
  some 0
 | .inr a=>
  some a
def A0F:Rd FA N9:=fun a (b,c,d)=>
 bif (decide (d<c))then
  (at? b d).bind fun e=>
  (bif (!(decide ((e.toNat:Int)<32)))then at? b d else some 0).bind fun f=>
  bif ((decide ((e.toNat:Int)<32))||(E6 (f.toNat:Int) 127))then
   some (.inr true)
  else
   a (b,c,(i64.wrap (d+1)))
 else
  some (.inl ())
def mG:=EL A0F fuel
def V5:E1->Option (Bool):=fun a=>
 (mG (a,(a.length:Int),0)).bind fun a=>
 match a with
 | .inl _=>
  some false
 | .inr a=>
  some a
def A0G:Rd ((List E1)×Int×Int) IE:=fun a (b,c,d)=>
 bif (decide (d<c))then
  (at? b d).bind fun e=>
  (V5 e).bind fun e=>
  bif e then
   some (.inr 8)
  else
   a (b,c,(i64.wrap (d+1)))
 else
  some (.inl ())
def mH:=EL A0G fuel
def A0H:Rd (E7×Int×Int) IE:=fun a (b,c,d)=>
 bif (decide (d<c))then
  (at? b d).bind fun e=>
  (V5 e.2).bind fun e=>
  bif e then
   some (.inr 8)
  else
   a (b,c,(i64.wrap (d+1)))
 else
  some (.inl ())
def mI:=EL A0H fuel
def PB:E1×E1×E1×E1×E7×E1->Option (Int):=fun a=>
 (S1 a.1).bind fun b=>
 bif (!(E6 b.2 0))then
  some b.2
 else
  (aQ a).bind fun c=>
  bif c then
   some 3
  else
   bif (((!(EM a.2.1 []))&&(E6 b.1.2.1 1))||((EM a.2.1 [])&&(E6 b.1.2.1 3)))then
    some 2
   else
    (S2 a.2.1).bind fun b=>
    (V4 (b,false)).bind fun b=>
    bif b then
     some 2
    else
     (bif (!(EM a.2.2.1 []))then strings_IndexByte (a.2.2.1,47)else some 0).bind fun b=>
     bif ((EM a.2.2.1 [])||(decide (0<=b)))then
      some 8
     else
      (aS a.2.2.2.2.1).bind fun b=>
      bif (!(E6 b 0))then
       some b
      else
       (S2 a.2.2.2.2.2).bind fun b=>
       (V4 (b,true)).bind fun b=>
       bif b then
        some 2
       else
        let b:=[a.2.1,a.2.2.1,a.2.2.2.1,a.2.2.2.2.2]
        (mH (b,(b.length:Int),0)).bind fun b=>
        match b with
        | .inl _=>
         (mI (a.2.2.2.2.1,(a.2.2.2.2.1.length:Int),0)).bind fun a=>
         match a with
         | .inl _=>
          some 0
         | .inr a=>
          some a
        | .inr a=>
         some a
def V6:Int->Option (Bool):=fun a=>
 some (((E6 a 45)||(E6 a 95))||(E6 a 46))
def ML:(List Int)×Int->Option (Unit×(List Int)):=fun(a,b)=>
 (ZU a).bind fun a=>
 (app? 24 a [b]).bind fun a=>
 some ((),a)
def A0I:Rd (E1×(List Int)×Int×Int) (List Int):=fun a (b,c,d,e)=>
 bif (decide (e<d))then
  (at? b e).bind fun f=>
  (V6 (f.toNat:Int)).bind fun f=>
  bif (!f)then
   (at? b e).bind fun f=>
   (ML (c,(f.toNat:Int))).bind fun f=>
   a (b,f.2,d,(i64.wrap (e+1)))
  else
   (bif (!(E6 e 0))then at? b (i64.wrap (e-1))else some 0).bind fun f=>
   (bif (!(E6 e 0))then V6 (f.toNat:Int)else some false).bind fun f=>
   bif ((E6 e 0)||(!f))then
    (ML (c,45)).bind fun f=>
    a (b,f.2,d,(i64.wrap (e+1)))
   else
    a (b,c,d,(i64.wrap (e+1)))
 else
  some c
def mJ:=EL A0I fuel
def aT:E1->Option E1:=fun a=>
 (mJ (a,[],(a.length:Int),0)).bind fun a=>
 (N7 a).bind fun a=>
 some a
def aU:H_×Bool->Option H_:=fun(a,b)=>
 bif b then
  (P9 a.2.1).bind fun b=>
  (P9 a.2.2.1).bind fun c=>
  some (a.1,(b,(c,a.2.2.2)))
 else
  some a
def S3:E1×E1×E1×E1×E7×E1->Option H_:=fun a=>
 (S1 a.1).bind fun b=>
 (aU (a,b.1.2.2.1)).bind fun a=>
 bif b.1.2.2.2.1 then
  (aT a.2.2.1).bind fun b=>
  (app? 48 [] a.2.2.2.2.1).bind fun c=>
  some (a.1,(a.2.1,(b,(a.2.2.2.1,(c,a.2.2.2.2.2)))))
 else
  (app? 48 [] a.2.2.2.2.1).bind fun b=>
  some (a.1,(a.2.1,(a.2.2.1,(a.2.2.2.1,(b,a.2.2.2.2.2)))))
def A0J:Rd (H_×HF×Int) (Sum (H_×HF) (H_×Int×Int)):=fun a (b,c,d)=>
 bif (decide (d<(c.2.2.2.2.1.length:Int)))then
  (in? c.2.2.2.2.1.length d).bind fun _=>
  (in? c.2.2.2.2.1.length (i64.wrap (d-1))).bind fun _=>
  bif (EM ((c.2.2.2.2.1.getD d.toNat ([],[])).1) ((c.2.2.2.2.1.getD ((i64.wrap (d-1)).toNat) ([],[])).1))then
   some (.inr (([],([],([],([],([],[]))))),0,5))
  else
   a (b,(c.1,(c.2.1,(c.2.2.1,(c.2.2.2.1,(c.2.2.2.2.1,c.2.2.2.2.2))))),(i64.wrap (d+1)))
 else
  some (.inl (b,(c.1,(c.2.1,(c.2.2.1,(c.2.2.2.1,(c.2.2.2.2.1,c.2.2.2.2.2)))))))
def mK:=EL A0J fuel
def PC:E1->Option (H_×Int×Int):=fun a=>
 bif (decide (3000<(a.length:Int)))then
  some (([],([],([],([],([],[]))))),0,3)
 else
  (aG (a,(0,(-1:Int)))).bind fun a=>
  bif (decide (0<=a.2.2.2))then
   some (([],([],([],([],([],[]))))),a.2.2.2,6)
  else
   (aM (a.1.2.2.2.2.1,(fun x=>(aN x).bind fun r=>some r))).bind fun b=>
   (mK (([],([],([],([],([],[]))))),(a.1.1,(a.1.2.1,(a.1.2.2.1,(a.1.2.2.2.1,(b,a.1.2.2.2.2.2))))),1)).bind fun a=>
   match a with
   | .inl a=>
    (PB (a.2.1,(a.2.2.1,(a.2.2.2.1,(a.2.2.2.2.1,(a.2.2.2.2.2.1,a.2.2.2.2.2.2)))))).bind fun b=>
    bif (!(E6 b 0))then
     some (([],([],([],([],([],[]))))),0,b)
    else
     (S3 (a.2.1,(a.2.2.1,(a.2.2.2.1,(a.2.2.2.2.1,(a.2.2.2.2.2.1,a.2.2.2.2.2.2)))))).bind fun a=>
     some (a,0,0)
   | .inr a=>
    some (a.1,a.2.1,a.2.2)
def OA:(List Int)×E1->Option (Int×Unit×(List Int)):=fun(a,b)=>
 (ZU a).bind fun a=>
 (app? 24 a (GB b)).bind fun a=>
 some ((b.length:Int),(),a)
def A0K:Rd (E1×(List Int)×Int×Int) (List Int):=fun a (b,c,d,e)=>
 bif (decide (e<d))then
  (at? b e).bind fun f=>
  (U_ (f.toNat:Int)).bind fun g=>
  let h:=((decide (48<=(f.toNat:Int)))&&(decide ((f.toNat:Int)<=57)))
  (bif (!(g||h))then strings_IndexByte ([46,45,95,126],(f.toNat:Int))else some 0).bind fun i=>
  bif ((g||h)||(decide (0<=i)))then
   (ML (c,(f.toNat:Int))).bind fun g=>
   a (b,g.2,d,(i64.wrap (e+1)))
  else
   (div? u8 (f.toNat:Int) 16).bind fun g=>
   (div? u8 (f.toNat:Int) 16).bind fun h=>
   (cut? [48,49,50,51,52,53,54,55,56,57,65,66,67,68,69,70] g (u8.wrap (h+1))).bind fun g=>
   (cat? [37] g).bind fun g=>
   (mod? (f.toNat:Int) 16).bind fun h=>
   (mod? (f.toNat:Int) 16).bind fun f=>
   (cut? [48,49,50,51,52,53,54,55,56,57,65,66,67,68,69,70] h (u8.wrap (f+1))).bind fun f=>
   (cat? g f).bind fun f=>
   (OA (c,f)).bind fun f=>
   a (b,f.2.2,d,(i64.wrap (e+1)))
 else
  some c
def mL:=EL A0K fuel
def S4:E1->Option E1:=fun a=>
 (mL (a,[],(a.length:Int),0)).bind fun a=>
 (N7 a).bind fun a=>
 some a
def A0L:Rd ((List E1)×(List E1)×Int×Int) (List E1):=fun a (b,c,d,e)=>
 bif (decide (e<d))then
  (at? c e).bind fun f=>
  (S4 f).bind fun f=>
  (app? 24 b [f]).bind fun f=>
  a (f,c,d,(i64.wrap (e+1)))
 else
  some b
def mM:=EL A0L fuel
def aV:E1->Option E1:=fun a=>
 (S2 a).bind fun a=>
 (mM ([],a,(a.length:Int),0)).bind fun a=>
 (strings_Join (a,[47])).bind fun a=>
 some a
def aW:E1×E1×E1×E1×E7×E1->Option E1:=fun a=>
 (cat? [112,107,103,58] a.1).bind fun b=>
 (cat? b [47]).bind fun b=>
 bif (!(EM a.2.1 []))then
  (aV a.2.1).bind fun c=>
  (cat? c [47]).bind fun c=>
  (cat? b c).bind fun c=>
  (S4 a.2.2.1).bind fun d=>
  (cat? c d).bind fun c=>
  some c
 else
  (S4 a.2.2.1).bind fun a=>
  (cat? b a).bind fun a=>
  some a
def S5:E1×E1×E1×E1×E7×E1->Option (E1×Int):=fun a=>
 (PB a).bind fun b=>
 bif (!(E6 b 0))then
  some ([],b)
 else
  (S3 a).bind fun a=>
  (aW a).bind fun a=>
  some (a,0)
def MM:E1->Option (Int×Bool):=fun a=>
 (PC a).bind fun b=>
 bif (!(E6 b.2.2 0))then
  some (0,false)
 else
  (S5 b.1).bind fun c=>
  bif ((!(E6 c.2 0))||(!(EM c.1 a)))then
   some (0,false)
  else
   (S1 b.1.1).bind fun a=>
   some (a.1.2.2.2.2,(E6 a.2 0))
def A0M:Rd (E1×Int×MI×Int) (Int):=fun a (b,c,d,e)=>
 let f:=(decide ((i64.wrap (c+e))<(b.length:Int)))
 (bif f then at? b (i64.wrap (c+e))else some 0).bind fun g=>
 (bif f then d (g.toNat:Int)else some false).bind fun g=>
 bif (f&&g)then
  a (b,c,d,(i64.wrap (e+1)))
 else
  some e
def mN:=EL A0M fuel
def I4:E1×Int×MI->Option (Int):=fun(a,b,c)=>
 (mN (a,b,c,0)).bind fun a=>
 some a
def H9:Int->Option (Bool):=fun a=>
 some ((decide (48<=a))&&(decide (a<=57)))
def I_:E1->Option (Int×Bool):=fun a=>
 let b:=((EM a [])||(decide (18<(a.length:Int))))
 (bif (!b)then I4 (a,0,(fun x=>(H9 x).bind fun r=>some r))else some 0).bind fun c=>
 bif (b||(!(E6 c (a.length:Int))))then
  some (0,false)
 else
  (ZT a).bind fun a=>
  some (a.1,true)
def PD:E1->Option (Int×Bool):=fun a=>
 (bif (decide (1<(a.length:Int)))then at? a 0 else some 0).bind fun b=>
 bif ((decide (1<(a.length:Int)))&&(E6 (b.toNat:Int) 48))then
  some (0,false)
 else
  (I_ a).bind fun a=>
  some (a.1,a.2)
def NB:Int->Option (Bool):=fun a=>
 some (((decide (65<=a))&&(decide (a<=90)))||((decide (97<=a))&&(decide (a<=122))))
def aX:Int->Option (Bool):=fun a=>
 (H9 a).bind fun b=>
 (bif (!b)then NB a else some false).bind fun c=>
 some ((b||c)||(E6 a 45))
def A0N:Rd ((List E1)×Int×Int) (Sum (Unit) KL):=fun a (b,c,d)=>
 bif (decide (d<c))then
  (at? b d).bind fun e=>
  (bif (!(EM e []))then I4 (e,0,(fun x=>(aX x).bind fun r=>some r))else some 0).bind fun f=>
  bif ((EM e [])||(!(E6 f (e.length:Int))))then
   some (.inr ([],false))
  else
   a (b,c,(i64.wrap (d+1)))
 else
  some (.inl ())
def mO:=EL A0N fuel
def V7:E1->Option KL:=fun a=>
 (strings_Split (a,[46])).bind fun a=>
 (mO (a,(a.length:Int),0)).bind fun b=>
 match b with
 | .inl _=>
  some (a,true)
 | .inr a=>
  some (a.1,a.2)
def A0O:Rd ((List E1)×Int×Int) (Sum (Unit) KL):=fun a (b,c,d)=>
 bif (decide (d<c))then
  (at? b d).bind fun e=>
  (I4 (e,0,(fun x=>(H9 x).bind fun r=>some r))).bind fun f=>
  bif (E6 f (e.length:Int))then
   (PD e).bind fun e=>
   bif (!e.2)then
    some (.inr ([],false))
   else
    a (b,c,(i64.wrap (d+1)))
  else
   a (b,c,(i64.wrap (d+1)))
 else
  some (.inl ())
def mP:=EL A0O fuel
def aY:E1->Option KL:=fun a=>
 (V7 a).bind fun a=>
 (mP (a.1,(a.1.length:Int),0)).bind fun b=>
 match b with
 | .inl _=>
  some (a.1,a.2)
 | .inr a=>
  some (a.1,a.2)
def aZ:E1->Option KL:=fun a=>
 (strings_Cut (a,[43])).bind fun a=>
 (V7 a.2.1).bind fun b=>
 bif (a.2.2&&(!b.2))then
  some ([],false)
 else
  bif (EM a.1 [])then
   some ([],true)
  else
   (at? a.1 0).bind fun b=>
   bif (!(E6 (b.toNat:Int) 45))then
    some ([],false)
   else
    (cut? a.1 1 (a.1.length:Int)).bind fun a=>
    (aY a).bind fun a=>
    some (a.1,a.2)
def a_:E1×Int×Bool->Option (Sum (Int) (H3×Bool)):=fun(a,b,c)=>
 bif c then
  (bif (!(decide ((a.length:Int)<=b)))then at? a b else some 0).bind fun c=>
  bif ((decide ((a.length:Int)<=b))||(!(E6 (c.toNat:Int) 46)))then
   some (.inr ((Sum.inr (Sum.inr (Sum.inr (Sum.inr (Sum.inr ()))))),false))
  else
   some (.inl (i64.wrap (b+1)))
 else
  some (.inl b)
def A0P:Rd (E1×JE×Int×Int) (Sum (JE×Int) (H3×Bool)):=fun a (b,c,d,e)=>
 bif (decide (e<3))then
  (a_ (b,d,(decide (0<e)))).bind fun f=>
  match f with
  | .inl f=>
   (I4 (b,f,(fun x=>(H9 x).bind fun r=>some r))).bind fun g=>
   (cut? b f (i64.wrap (f+g))).bind fun h=>
   (PD h).bind fun h=>
   bif (!h.2)then
    some (.inr ((Sum.inr (Sum.inr (Sum.inr (Sum.inr (Sum.inr ()))))),false))
   else
    (in? 3 e).bind fun _=>
    a (b,((c.1.set e.toNat h.1),c.2),(i64.wrap (f+g)),(i64.wrap (e+1)))
  | .inr a=>
   some (.inr (a.1,a.2))
 else
  some (.inl ((c.1,c.2),d))
def mQ:=EL A0P fuel
def bA:E1->Option (H3×Bool):=fun a=>
 (mQ (a,((List.replicate 3 0),[]),0,0)).bind fun b=>
 match b with
 | .inl b=>
  (cut? a b.2 (a.length:Int)).bind fun a=>
  (aZ a).bind fun a=>
  some ((Sum.inl (b.1.1,a.1)),a.2)
 | .inr a=>
  some (a.1,a.2)
def bB:Int->Option (Bool):=fun a=>
 (H9 a).bind fun b=>
 (bif (!b)then NB a else some false).bind fun c=>
 (bif (!(b||c))then strings_IndexByte ([46,43,126,45],a)else some 0).bind fun a=>
 some ((b||c)||(decide (0<=a)))
def A0Q:Rd (E1×Int) N9:=fun a (b,c)=>
 bif (decide (c<(b.length:Int)))then
  (I4 (b,c,(fun x=>(H9 x).bind fun r=>some r))).bind fun d=>
  bif (decide (18<d))then
   some (.inr false)
  else
   a (b,(i64.wrap (c+(T_ d 1))))
 else
  some (.inl ())
def mR:=EL A0Q fuel
def bC:E1->Option (Bool):=fun a=>
 (mR (a,0)).bind fun a=>
 match a with
 | .inl _=>
  some true
 | .inr a=>
  some a
def bD:E1×IZ×E1×E1×Bool->Option (Sum (E1×IZ) (H3×Bool)):=fun(a,b,c,d,e)=>
 bif e then
  (PD c).bind fun c=>
  bif (!c.2)then
   some (.inr ((Sum.inr (Sum.inr (Sum.inr (Sum.inr (Sum.inr ()))))),false))
  else
   some (.inl (d,(c.1,b.2)))
 else
  some (.inl (a,b))
def bE:E1->Option (H3×Bool):=fun a=>
 (strings_Cut (a,[58])).bind fun b=>
 (bD (a,(0,([],([],false))),b.1,b.2.1,b.2.2)).bind fun a=>
 match a with
 | .inl a=>
  (bif (!(EM a.1 []))then at? a.1 0 else some 0).bind fun b=>
  (bif (!(EM a.1 []))then H9 (b.toNat:Int)else some false).bind fun b=>
  (bif (!((EM a.1 [])||(!b)))then I4 (a.1,0,(fun x=>(bB x).bind fun r=>some r))else some 0).bind fun c=>
  let d:=(((EM a.1 [])||(!b))||(!(E6 c (a.1.length:Int))))
  (bif (!d)then bC a.1 else some false).bind fun b=>
  bif (d||(!b))then
   some ((Sum.inr (Sum.inr (Sum.inr (Sum.inr (Sum.inr ()))))),false)
  else
   (strings_LastIndexByte (a.1,45)).bind fun b=>
   bif (decide (0<=b))then
    (cut? a.1 0 b).bind fun c=>
    (cut? a.1 (i64.wrap (b+1)) (a.1.length:Int)).bind fun b=>
    bif (EM b [])then
     some ((Sum.inr (Sum.inr (Sum.inr (Sum.inr (Sum.inr ()))))),false)
    else
     (strings_IndexByte (c,45)).bind fun d=>
     some ((Sum.inr (Sum.inl (a.2.1,(c,(b,(decide (0<=d))))))),true)
   else
    (strings_IndexByte (a.1,45)).bind fun b=>
    some ((Sum.inr (Sum.inl (a.2.1,(a.1,(a.2.2.2.1,(decide (0<=b))))))),true)
 | .inr a=>
  some (a.1,a.2)
def A0R:Rd (E1×(List Int)) ((List Int)×E1×Bool):=fun a (b,c)=>
 (I4 (b,0,(fun x=>(H9 x).bind fun r=>some r))).bind fun d=>
 (cut? b 0 d).bind fun e=>
 (I_ e).bind fun e=>
 bif (!e.2)then
  some ([],[],false)
 else
  (app? 24 c [e.1]).bind fun c=>
  (cut? b d (b.length:Int)).bind fun b=>
  (bif (!(decide ((b.length:Int)<2)))then at? b 0 else some 0).bind fun d=>
  let e:=((decide ((b.length:Int)<2))||(!(E6 (d.toNat:Int) 46)))
  (bif (!e)then at? b 1 else some 0).bind fun d=>
  (bif (!e)then H9 (d.toNat:Int)else some false).bind fun d=>
  bif (e||(!d))then
   some (c,b,true)
  else
   (cut? b 1 (b.length:Int)).bind fun b=>
   a (b,c)
def mS:=EL A0R fuel
def bG:E1->Option ((List Int)×E1×Bool):=fun a=>
 (mS (a,[])).bind fun a=>
 some (a.1,a.2.1,a.2.2)
def mT:Int->Option (Bool):=fun a=>
 some (((E6 a 46)||(E6 a 45))||(E6 a 95))
def V8:E1×MI->Option (Int):=fun(a,b)=>
 (bif (decide (1<(a.length:Int)))then at? a 0 else some 0).bind fun c=>
 (bif (decide (1<(a.length:Int)))then mT (c.toNat:Int)else some false).bind fun c=>
 (bif ((decide (1<(a.length:Int)))&&c)then at? a 1 else some 0).bind fun d=>
 (bif ((decide (1<(a.length:Int)))&&c)then b (d.toNat:Int)else some false).bind fun b=>
 bif (((decide (1<(a.length:Int)))&&c)&&b)then
  some 1
 else
  some 0
def A0S:Rd (E1×E1×(List E1)×Int×Int) E1:=fun a (b,c,d,e,f)=>
 bif (decide (f<e))then
  (at? d f).bind fun g=>
  (strings_HasPrefix (b,g)).bind fun h=>
  bif h then
   some g
  else
   a (b,c,d,e,(i64.wrap (f+1)))
 else
  some c
def mU:=EL A0S fuel
def bH:E1×Bool->Option (Bool):=fun(a,b)=>
 bif b then
  some b
 else
  some (EM a [97,108,112,104,97])
def bI:E1×Bool->Option (Bool):=fun(a,b)=>
 bif b then
  some b
 else
  some (EM a [98,101,116,97])
def bJ:E1×Bool->Option (Bool):=fun(a,b)=>
 bif b then
  some b
 else
  bif (EM a [114,99])then
   some (EM a [114,99])
  else
   bif (EM a [112,114,101])then
    some (EM a [112,114,101])
   else
    some (EM a [112,114,101,118,105,101,119])
def bK:E1->Option FA:=fun a=>
 let b:=[[112,114,101,118,105,101,119],[97,108,112,104,97],[98,101,116,97],[112,111,115,116],[112,114,101],[114,101,118],[100,101,118],[114,99],[97],[98],[99],[114]]
 (mU (a,[],b,(b.length:Int),0)).bind fun a=>
 bif (EM a [])then
  some ([],0,0)
 else
  (bH (a,(EM a [97]))).bind fun b=>
  bif b then
   some (a,1,1)
  else
   (bI (a,(EM a [98]))).bind fun b=>
   bif b then
    some (a,1,2)
   else
    (bJ (a,(EM a [99]))).bind fun b=>
    bif b then
     some (a,1,3)
    else
     bif (EM a [112,111,115,116])then
      bif (EM a [112,111,115,116])then
       some (a,2,0)
      else
       some (a,3,0)
     else
      bif (EM a [114,101,118])then
       bif (EM a [114,101,118])then
        some (a,2,0)
       else
        some (a,3,0)
      else
       bif (EM a [114])then
        some (a,2,0)
       else
        some (a,3,0)
def bL:E1×Int×Int×Bool->Option (Sum (E1×Int) (E1×Bool)):=fun(a,b,c,d)=>
 bif d then
  (I4 (a,c,(fun x=>(H9 x).bind fun r=>some r))).bind fun d=>
  (cut? a c (i64.wrap (c+d))).bind fun e=>
  (I_ e).bind fun e=>
  bif (!e.2)then
   some (.inr ([],false))
  else
   (cut? a (i64.wrap (c+d)) (a.length:Int)).bind fun c=>
   some (.inl (c,e.1))
 else
  some (.inl (a,b))
def A0T:Rd (F_×E1×Int) (F_×E1×Bool):=fun a (b,c,d)=>
 (V8 (c,(fun x=>(NB x).bind fun r=>some r))).bind fun e=>
 (cut? c e (c.length:Int)).bind fun e=>
 (bK e).bind fun f=>
 bif (EM f.1 [])then
  some (b,c,true)
 else
  bif (decide (f.2.1<=d))then
   some (b,[],false)
  else
   (cut? e (f.1.length:Int) (e.length:Int)).bind fun c=>
   (V8 (c,(fun x=>(H9 x).bind fun r=>some r))).bind fun d=>
   (bif ((!(decide (0<d)))&&(!(EM c [])))then at? c 0 else some 0).bind fun e=>
   (bif ((!(decide (0<d)))&&(!(EM c [])))then H9 (e.toNat:Int)else some false).bind fun e=>
   (bL (c,0,d,((decide (0<d))||((!(EM c []))&&e)))).bind fun c=>
   match c with
   | .inl c=>
    bif (E6 f.2.1 1)then
     a ((b.1,(b.2.1,(f.2.2,(c.2,b.2.2.2.2)))),c.1,f.2.1)
    else
     bif (E6 f.2.1 2)then
      a ((b.1,(b.2.1,(b.2.2.1,(b.2.2.2.1,(c.2,b.2.2.2.2.2))))),c.1,f.2.1)
     else
      bif (E6 f.2.1 3)then
       a ((b.1,(b.2.1,(b.2.2.1,(b.2.2.2.1,(b.2.2.2.2.1,(c.2,b.2.2.2.2.2.2)))))),c.1,f.2.1)
      else
       a (b,c.1,f.2.1)
   | .inr a=>
    some (b,a.1,a.2)
def mV:=EL A0T fuel
def bM:F_×E1->Option (E1×Bool×F_):=fun(a,b)=>
 (mV (a,b,0)).bind fun a=>
 some (a.2.1,a.2.2,a.1)
def mW:Int->Option (Bool):=fun a=>
 some (((E6 a 46)||(E6 a 45))||(E6 a 95))
def bN:Int->Option (Bool):=fun a=>
 (H9 a).bind fun b=>
 (bif (!b)then NB a else some false).bind fun a=>
 some (b||a)
def A0U:Rd (Int×(List E1)×Int×Int) (Sum (Int) KL):=fun a (b,c,d,e)=>
 bif (decide (e<d))then
  (at? c e).bind fun f=>
  (I4 (f,0,(fun x=>(H9 x).bind fun r=>some r))).bind fun g=>
  (I4 (f,0,(fun x=>(bN x).bind fun r=>some r))).bind fun h=>
  bif ((!(E6 h (f.length:Int)))||((E6 g (f.length:Int))&&(decide (18<g))))then
   some (.inr ([],false))
  else
   a ((i64.wrap (b+(f.length:Int))),c,d,(i64.wrap (e+1)))
 else
  some (.inl b)
def mX:=EL A0U fuel
def bO:E1->Option KL:=fun a=>
 (RX (a,(fun x=>(mW x).bind fun r=>some r))).bind fun b=>
 (mX ((b.length:Int),b,(b.length:Int),0)).bind fun c=>
 match c with
 | .inl c=>
  some (b,((decide (0<(b.length:Int)))&&(E6 (i64.wrap (c-1)) (a.length:Int))))
 | .inr a=>
  some (a.1,a.2)
def bP:E1×F_×Int×Bool->Option (Sum (E1×F_) (H3×Bool)):=fun(a,b,c,d)=>
 bif d then
  (cut? a 0 c).bind fun d=>
  (I_ d).bind fun d=>
  bif (!d.2)then
   some (.inr ((Sum.inr (Sum.inr (Sum.inr (Sum.inr (Sum.inr ()))))),false))
  else
   (cut? a (i64.wrap (c+1)) (a.length:Int)).bind fun c=>
   some (.inl (c,(d.1,b.2)))
 else
  some (.inl (a,b))
def bQ:E1->Option (H3×Bool):=fun a=>
 (strings_TrimPrefix (a,[118])).bind fun a=>
 (I4 (a,0,(fun x=>(H9 x).bind fun r=>some r))).bind fun b=>
 (bif (decide (b<(a.length:Int)))then at? a b else some 0).bind fun c=>
 (bP (a,(0,([],(0,(0,((-1:Int),((-1:Int),[])))))),b,((decide (b<(a.length:Int)))&&(E6 (c.toNat:Int) 33)))).bind fun a=>
 match a with
 | .inl a=>
  (bG a.1).bind fun b=>
  bif (!b.2.2)then
   some ((Sum.inr (Sum.inr (Sum.inr (Sum.inr (Sum.inr ()))))),false)
  else
   (bM ((a.2.1,(b.1,a.2.2.2)),b.2.1)).bind fun a=>
   bif (!a.2.1)then
    some ((Sum.inr (Sum.inr (Sum.inr (Sum.inr (Sum.inr ()))))),false)
   else
    (strings_CutPrefix (a.1,[43])).bind fun b=>
    bif b.2 then
     (bO b.1).bind fun b=>
     some ((Sum.inr (Sum.inr (Sum.inl (a.2.2.1,(a.2.2.2.1,(a.2.2.2.2.1,(a.2.2.2.2.2.1,(a.2.2.2.2.2.2.1,(a.2.2.2.2.2.2.2.1,b.1))))))))),b.2)
    else
     some ((Sum.inr (Sum.inr (Sum.inl a.2.2))),(EM a.1 []))
 | .inr a=>
  some (a.1,a.2)
def bR:E1×Bool->Option E1:=fun(a,b)=>
 (UY a).bind fun a=>
 bif ((EM a [97])&&b)then
  some [97,108,112,104,97]
 else
  bif ((EM a [98])&&b)then
   some [98,101,116,97]
  else
   bif ((EM a [109])&&b)then
    some [109,105,108,101,115,116,111,110,101]
   else
    bif (EM a [99,114])then
     some [114,99]
    else
     bif (((EM a [102,105,110,97,108])||(EM a [103,97]))||(EM a [114,101,108,101,97,115,101]))then
      some []
     else
      some a
def PE:Bool×E1×Int->Option (Bool):=fun a=>
 some ((a.1&&(EM a.2.1 []))||((!a.1)&&(E6 a.2.2 0)))
def bT:E1×Int×Bool->Option (Sum (Int) (H3×Bool)):=fun(a,b,c)=>
 bif c then
  let c:=(E6 b (i64.wrap ((a.length:Int)-1)))
  (bif (!((E6 b 0)||c))then at? a (i64.wrap (b+1))else some 0).bind fun d=>
  (bif (!((E6 b 0)||c))then H9 (d.toNat:Int)else some false).bind fun d=>
  (bif ((!((E6 b 0)||c))&&(!d))then at? a (i64.wrap (b+1))else some 0).bind fun a=>
  (bif ((!((E6 b 0)||c))&&(!d))then NB (a.toNat:Int)else some false).bind fun a=>
  bif (((E6 b 0)||c)||((!d)&&(!a)))then
   some (.inr ((Sum.inr (Sum.inr (Sum.inr (Sum.inr (Sum.inr ()))))),false))
  else
   some (.inl (i64.wrap (b+1)))
 else
  some (.inl b)
def A0V:Rd (E1×GZ×Int) (Sum GZ (H3×Bool)):=fun a (b,c,d)=>
 bif (decide (d<(b.length:Int)))then
  (at? b d).bind fun e=>
  (bif (!(E6 (e.toNat:Int) 46))then at? b d else some 0).bind fun f=>
  (bT (b,d,((E6 (e.toNat:Int) 46)||(E6 (f.toNat:Int) 45)))).bind fun d=>
  match d with
  | .inl d=>
   (I4 (b,d,(fun x=>(H9 x).bind fun r=>some r))).bind fun e=>
   bif (decide (0<e))then
    (cut? b d (i64.wrap (d+e))).bind fun f=>
    (I_ f).bind fun f=>
    bif (!f.2)then
     some (.inr ((Sum.inr (Sum.inr (Sum.inr (Sum.inr (Sum.inr ()))))),false))
    else
     (app? 72 c [(false,([],f.1))]).bind fun f=>
     a (b,f,(i64.wrap (d+e)))
   else
    (I4 (b,d,(fun x=>(NB x).bind fun r=>some r))).bind fun e=>
    bif (E6 e 0)then
     some (.inr ((Sum.inr (Sum.inr (Sum.inr (Sum.inr (Sum.inr ()))))),false))
    else
     let f:=(decide ((i64.wrap (d+e))<(b.length:Int)))
     (bif f then at? b (i64.wrap (d+e))else some 0).bind fun g=>
     (bif f then H9 (g.toNat:Int)else some false).bind fun g=>
     (cut? b d (i64.wrap (d+e))).bind fun h=>
     (bR (h,(f&&g))).bind fun f=>
     (app? 72 c [(true,(f,0))]).bind fun f=>
     a (b,f,(i64.wrap (d+e)))
  | .inr a=>
   some (.inr (a.1,a.2))
 else
  some (.inl c)
def mY:=EL A0V fuel
def A0W:Rd GZ GZ:=fun a b=>
 (bif (decide (0<(b.length:Int)))then at? b (i64.wrap ((b.length:Int)-1))else some (false,([],0))).bind fun c=>
 (bif (decide (0<(b.length:Int)))then PE c else some false).bind fun c=>
 bif ((decide (0<(b.length:Int)))&&c)then
  (cut? b 0 (i64.wrap ((b.length:Int)-1))).bind fun c=>
  a c
 else
  some b
def mZ:=EL A0W fuel
def bU:E1->Option (H3×Bool):=fun a=>
 (mY (a,[],0)).bind fun a=>
 match a with
 | .inl a=>
  (mZ a).bind fun a=>
  some ((Sum.inr (Sum.inr (Sum.inr (Sum.inl a)))),true)
 | .inr a=>
  some (a.1,a.2)
def bV:E1->Option (H3×Bool):=fun a=>
 (PD a).bind fun a=>
 some ((Sum.inr (Sum.inr (Sum.inr (Sum.inr (Sum.inl a.1))))),a.2)
def IN:Int×E1->Option (H3×Int):=fun(a,b)=>
 bif ((decide (a<1))||(decide (5<a)))then
  some ((Sum.inr (Sum.inr (Sum.inr (Sum.inr (Sum.inr ()))))),7)
 else
  bif ((EM b [])||(decide (100<(b.length:Int))))then
   some ((Sum.inr (Sum.inr (Sum.inr (Sum.inr (Sum.inr ()))))),3)
  else
   bif (E6 a 1)then
    (bA b).bind fun c=>
    bif (!c.2)then
     some ((Sum.inr (Sum.inr (Sum.inr (Sum.inr (Sum.inr ()))))),6)
    else
     some (c.1,0)
   else
    bif (E6 a 2)then
     (bE b).bind fun c=>
     bif (!c.2)then
      some ((Sum.inr (Sum.inr (Sum.inr (Sum.inr (Sum.inr ()))))),6)
     else
      some (c.1,0)
    else
     bif (E6 a 3)then
      (UY b).bind fun c=>
      (bQ c).bind fun c=>
      bif (!c.2)then
       some ((Sum.inr (Sum.inr (Sum.inr (Sum.inr (Sum.inr ()))))),6)
      else
       some (c.1,0)
     else
      bif (E6 a 4)then
       (bU b).bind fun c=>
       bif (!c.2)then
        some ((Sum.inr (Sum.inr (Sum.inr (Sum.inr (Sum.inr ()))))),6)
       else
        some (c.1,0)
      else
       bif (E6 a 5)then
        (bV b).bind fun a=>
        bif (!a.2)then
         some ((Sum.inr (Sum.inr (Sum.inr (Sum.inr (Sum.inr ()))))),6)
        else
         some (a.1,0)
       else
        bif (!false)then
         some ((Sum.inr (Sum.inr (Sum.inr (Sum.inr (Sum.inr ()))))),6)
        else
         some ((Sum.inr (Sum.inr (Sum.inr (Sum.inr (Sum.inr ()))))),0)
def V9:Int×E1->Option (Int):=fun(a,b)=>
 (IN (a,b)).bind fun a=>
 some a.2
def PF:E1×E1->Option (Int×Int):=fun(a,b)=>
 (MM a).bind fun a=>
 bif (!a.2)then
  some (0,8)
 else
  (V9 (a.1,b)).bind fun b=>
  some (a.1,b)
def A0X:Rd ((List E1)×(List Int)×Int×Int) (List E1):=fun a (b,c,d,e)=>
 bif (decide (e<d))then
  (at? c e).bind fun f=>
  (strconv_Itoa f).bind fun f=>
  (app? 24 b [f]).bind fun f=>
  a (f,c,d,(i64.wrap (e+1)))
 else
  some b
def m_:=EL A0X fuel
def VA:List Int->Option E1:=fun a=>
 (m_ ([],a,(a.length:Int),0)).bind fun a=>
 (strings_Join (a,[46])).bind fun a=>
 some a
def VB:(List Int)×(List E1)->Option E1:=fun a=>
 (cut? a.1 0 (a.1.length:Int)).bind fun b=>
 (VA b).bind fun b=>
 bif (decide (0<(a.2.length:Int)))then
  (strings_Join (a.2,[46])).bind fun a=>
  (cat? [45] a).bind fun a=>
  (cat? b a).bind fun a=>
  some a
 else
  some b
def A0Y:Rd (E1×(List Int)×Int) (List Int):=fun a (b,c,d)=>
 bif (decide (d<(b.length:Int)))then
  (I4 (b,d,(fun x=>(H9 x).bind fun r=>some r))).bind fun e=>
  bif (E6 e 0)then
   (at? b d).bind fun f=>
   (ML (c,(f.toNat:Int))).bind fun f=>
   a (b,f.2,(i64.wrap (d+1)))
  else
   (cut? b d (i64.wrap (d+e))).bind fun f=>
   (I_ f).bind fun f=>
   bif (((!(E6 f.1 0))||(decide ((i64.wrap (d+e))<(b.length:Int))))||(E6 e (b.length:Int)))then
    (strconv_Itoa f.1).bind fun f=>
    (OA (c,f)).bind fun f=>
    a (b,f.2.2,(i64.wrap (d+e)))
   else
    a (b,c,(i64.wrap (d+e)))
 else
  some c
def nA:=EL A0Y fuel
def VC:E1->Option E1:=fun a=>
 (nA (a,[],0)).bind fun a=>
 (N7 a).bind fun a=>
 some a
def VD:Int×E1×E1×Bool->Option E1:=fun a=>
 bif (EM a.2.2.1 [])then
  some [48]
 else
  some a.2.2.1
def bW:Int->Option (Bool):=fun a=>
 (H9 a).bind fun a=>
 some (!a)
def A0Z:Rd (E1×(List Int)×Int×Int) (List Int):=fun a (b,c,d,e)=>
 bif (decide (e<d))then
  (at? b e).bind fun f=>
  bif (E6 (f.toNat:Int) 126)then
   (ML (c,1)).bind fun f=>
   a (b,f.2,d,(i64.wrap (e+1)))
  else
   (at? b e).bind fun f=>
   (NB (f.toNat:Int)).bind fun f=>
   bif f then
    (at? b e).bind fun f=>
    (ML (c,(f.toNat:Int))).bind fun f=>
    a (b,f.2,d,(i64.wrap (e+1)))
   else
    (at? b e).bind fun f=>
    (ML (c,(u8.wrap ((f.toNat:Int)+128)))).bind fun f=>
    a (b,f.2,d,(i64.wrap (e+1)))
 else
  some c
def nB:=EL A0Z fuel
def bX:E1->Option E1:=fun a=>
 (nB (a,[],(a.length:Int),0)).bind fun a=>
 (N7 a).bind fun a=>
 (cat? a [2]).bind fun a=>
 some a
def J0:Int->Option E1:=fun a=>
 (strconv_Itoa a).bind fun a=>
 (strings_Repeat ([48],(i64.wrap (18-(a.length:Int))))).bind fun b=>
 (cat? b a).bind fun a=>
 some a
def A0_:Rd (E1×(List Int)) (List Int):=fun a (b,c)=>
 bif (!(EM b []))then
  (I4 (b,0,(fun x=>(bW x).bind fun r=>some r))).bind fun d=>
  (I4 (b,d,(fun x=>(H9 x).bind fun r=>some r))).bind fun e=>
  (cut? b d (i64.wrap (d+e))).bind fun f=>
  (I_ f).bind fun f=>
  (cut? b 0 d).bind fun g=>
  (bX g).bind fun g=>
  (J0 f.1).bind fun f=>
  (cat? g f).bind fun f=>
  (OA (c,f)).bind fun f=>
  (cut? b (i64.wrap (d+e)) (b.length:Int)).bind fun b=>
  a (b,f.2.2)
 else
  some c
def nC:=EL A0_ fuel
def NC:E1->Option E1:=fun a=>
 (nC (a,[])).bind fun a=>
 (N7 a).bind fun a=>
 (cat? a [2]).bind fun a=>
 some a
def bY:IZ×E1×Bool->Option (IZ×E1):=fun(a,b,c)=>
 bif c then
  (strconv_Itoa a.1).bind fun c=>
  (cat? c [58]).bind fun c=>
  (cat? c b).bind fun c=>
  some (a,c)
 else
  some (a,b)
def VE:Int×E1×E1×Bool->Option E1:=fun a=>
 (VC a.2.1).bind fun b=>
 (bY (a,b,(!(E6 a.1 0)))).bind fun a=>
 (VD a.1).bind fun b=>
 (NC b).bind fun b=>
 (NC [48]).bind fun c=>
 bif (!(EM b c))then
  (cat? a.2 [45]).bind fun b=>
  (VC a.1.2.2.1).bind fun c=>
  (cat? b c).bind fun b=>
  some b
 else
  bif a.1.2.2.2 then
   (cat? a.2 [45,48]).bind fun b=>
   some b
  else
   some a.2
def A0a:Rd (List Int) (List Int):=fun a b=>
 (bif (decide (0<(b.length:Int)))then at? b (i64.wrap ((b.length:Int)-1))else some 0).bind fun c=>
 bif ((decide (0<(b.length:Int)))&&(E6 c 0))then
  (cut? b 0 (i64.wrap ((b.length:Int)-1))).bind fun c=>
  a c
 else
  some b
def nD:=EL A0a fuel
def VF:List Int->Option (List Int):=fun a=>
 (nD a).bind fun a=>
 some a
def bZ:F_×E1×Bool->Option (F_×E1):=fun(a,b,c)=>
 bif c then
  (strconv_Itoa a.1).bind fun c=>
  (cat? c [33]).bind fun c=>
  some (a,c)
 else
  some (a,b)
def b_:E1×(List Int)×Bool->Option E1:=fun(a,b,c)=>
 bif c then
  (VA b).bind fun b=>
  (cat? a b).bind fun b=>
  some b
 else
  (cat? a [48]).bind fun a=>
  some a
def cA:F_×E1×Bool->Option (F_×E1):=fun(a,b,c)=>
 bif c then
  (at? [[],[97],[98],[114,99]] a.2.2.1).bind fun c=>
  (strconv_Itoa a.2.2.2.1).bind fun d=>
  (cat? c d).bind fun c=>
  (cat? b c).bind fun c=>
  some (a,c)
 else
  some (a,b)
def cB:F_×E1×Bool->Option (F_×E1):=fun(a,b,c)=>
 bif c then
  (strconv_Itoa a.2.2.2.2.1).bind fun c=>
  (cat? [46,112,111,115,116] c).bind fun c=>
  (cat? b c).bind fun c=>
  some (a,c)
 else
  some (a,b)
def cC:F_×E1×Bool->Option (F_×E1):=fun(a,b,c)=>
 bif c then
  (strconv_Itoa a.2.2.2.2.2.1).bind fun c=>
  (cat? [46,100,101,118] c).bind fun c=>
  (cat? b c).bind fun c=>
  some (a,c)
 else
  some (a,b)
def cD:E1×Int×Bool->Option E1:=fun(a,b,c)=>
 bif c then
  (strconv_Itoa b).bind fun b=>
  some b
 else
  some a
def A0b:Rd (E1×(List E1)×Int×Int) E1:=fun a (b,c,d,e)=>
 bif (decide (e<d))then
  (at? c e).bind fun f=>
  (I_ f).bind fun g=>
  (cD (f,g.1,g.2)).bind fun f=>
  bif (E6 e 0)then
   (cat? [43] f).bind fun g=>
   (cat? b g).bind fun g=>
   a (g,c,d,(i64.wrap (e+1)))
  else
   (cat? [46] f).bind fun f=>
   (cat? b f).bind fun f=>
   a (f,c,d,(i64.wrap (e+1)))
 else
  some b
def nE:=EL A0b fuel
def VG:Int×(List Int)×Int×Int×Int×Int×(List E1)->Option E1:=fun a=>
 (bZ (a,[],(!(E6 a.1 0)))).bind fun a=>
 (VF a.1.2.1).bind fun b=>
 (b_ (a.2,b,(decide (0<(b.length:Int))))).bind fun b=>
 (cA (a.1,b,(decide (0<a.1.2.2.1)))).bind fun a=>
 (cB (a.1,a.2,(decide (0<=a.1.2.2.2.2.1)))).bind fun a=>
 (cC (a.1,a.2,(decide (0<=a.1.2.2.2.2.2.1)))).bind fun a=>
 (nE (a.2,a.1.2.2.2.2.2.2,(a.1.2.2.2.2.2.2.length:Int),0)).bind fun a=>
 some a
def A0c:Rd ((List E1)×GZ×Int×Int) (List E1):=fun a (b,c,d,e)=>
 bif (decide (e<d))then
  (at? c e).bind fun f=>
  (PE f).bind fun g=>
  bif g then
   (app? 24 b [[48]]).bind fun g=>
   a (g,c,d,(i64.wrap (e+1)))
  else
   bif f.1 then
    (app? 24 b [f.2.1]).bind fun g=>
    a (g,c,d,(i64.wrap (e+1)))
   else
    (strconv_Itoa f.2.2).bind fun f=>
    (app? 24 b [f]).bind fun f=>
    a (f,c,d,(i64.wrap (e+1)))
 else
  some b
def nF:=EL A0c fuel
def VH:List K1->Option E1:=fun a=>
 (nF ([],a,(a.length:Int),0)).bind fun a=>
 bif (E6 (a.length:Int) 0)then
  some [48]
 else
  (strings_Join (a,[45])).bind fun a=>
  some a
def VI:Int->Option E1:=fun a=>
 (strconv_Itoa a).bind fun a=>
 some a
def A0d:Rd ((Int->Option E1)×(List Int)×(List Int)×Int×Int) (List Int):=fun a (b,c,d,e,f)=>
 bif (decide (f<e))then
  (at? d f).bind fun g=>
  (b g).bind fun g=>
  (OA (c,g)).bind fun g=>
  a (b,g.2.2,d,e,(i64.wrap (f+1)))
 else
  some c
def nG:=EL A0d fuel
def VJ:(List Int)×E1×(Int->Option E1)->Option E1:=fun(a,b,c)=>
 (nG (c,[],a,(a.length:Int),0)).bind fun a=>
 (N7 a).bind fun a=>
 (cat? a b).bind fun a=>
 some a
def A0e:Rd ((E1->Option E1)×(List Int)×(List E1)×Int×Int) (List Int):=fun a (b,c,d,e,f)=>
 bif (decide (f<e))then
  (at? d f).bind fun g=>
  (b g).bind fun g=>
  (OA (c,g)).bind fun g=>
  a (b,g.2.2,d,e,(i64.wrap (f+1)))
 else
  some c
def nH:=EL A0e fuel
def VK:(List E1)×E1×(E1->Option E1)->Option E1:=fun(a,b,c)=>
 (nH (c,[],a,(a.length:Int),0)).bind fun a=>
 (N7 a).bind fun a=>
 (cat? a b).bind fun a=>
 some a
def cE:E1->Option E1:=fun a=>
 (I_ a).bind fun b=>
 bif b.2 then
  (J0 b.1).bind fun b=>
  (cat? [48] b).bind fun b=>
  some b
 else
  (cat? [49] a).bind fun a=>
  (cat? a [32]).bind fun a=>
  some a
def LY:(List Int)×(List E1)->Option E1:=fun a=>
 (cut? a.1 0 (a.1.length:Int)).bind fun b=>
 (VJ (b,[],(fun x=>(J0 x).bind fun r=>some r))).bind fun b=>
 bif (E6 (a.2.length:Int) 0)then
  (cat? b [126]).bind fun c=>
  some c
 else
  (cat? b [33]).bind fun b=>
  (VK (a.2,[33],(fun x=>(cE x).bind fun r=>some r))).bind fun a=>
  (cat? b a).bind fun a=>
  some a
def LZ:Int×E1×E1×Bool->Option E1:=fun a=>
 (J0 a.1).bind fun b=>
 (NC a.2.1).bind fun c=>
 (cat? b c).bind fun b=>
 (VD a).bind fun a=>
 (NC a).bind fun a=>
 (cat? b a).bind fun a=>
 some a
def cF:Int->Option E1:=fun a=>
 (J0 a).bind fun a=>
 (cat? [49] a).bind fun a=>
 some a
def cG:Int×(List Int)×Int×Int×Int×Int×(List E1)->Option (Int):=fun a=>
 bif (decide (0<a.2.2.1))then
  some a.2.2.1
 else
  bif ((decide (0<=a.2.2.2.2.2.1))&&(decide (a.2.2.2.2.1<0)))then
   some 0
  else
   some 4
def cH:Int->Option E1:=fun a=>
 bif (decide (a<0))then
  some [48]
 else
  (J0 a).bind fun a=>
  (cat? [49] a).bind fun a=>
  some a
def cI:E1->Option E1:=fun a=>
 (I_ a).bind fun b=>
 bif b.2 then
  (J0 b.1).bind fun b=>
  (cat? [50] b).bind fun b=>
  some b
 else
  (cat? [49] a).bind fun a=>
  (cat? a [32]).bind fun a=>
  some a
def cJ:F_×E1×Bool->Option (F_×E1):=fun(a,b,c)=>
 bif c then
  (J0 a.2.2.2.2.2.1).bind fun c=>
  (cat? [48] c).bind fun c=>
  (cat? b c).bind fun c=>
  some (a,c)
 else
  (cat? b [49]).bind fun b=>
  some (a,b)
def L_:Int×(List Int)×Int×Int×Int×Int×(List E1)->Option E1:=fun a=>
 (J0 a.1).bind fun b=>
 (VF a.2.1).bind fun c=>
 (VJ (c,[48],(fun x=>(cF x).bind fun r=>some r))).bind fun c=>
 (cat? b c).bind fun b=>
 (cG a).bind fun c=>
 (strconv_Itoa c).bind fun c=>
 (J0 a.2.2.2.1).bind fun d=>
 (cat? c d).bind fun c=>
 (cH a.2.2.2.2.1).bind fun d=>
 (cat? c d).bind fun c=>
 (cat? b c).bind fun b=>
 (cJ (a,b,(decide (0<=a.2.2.2.2.2.1)))).bind fun a=>
 bif (E6 (a.1.2.2.2.2.2.2.length:Int) 0)then
  (cat? a.2 [48]).bind fun b=>
  some b
 else
  (cat? a.2 [49]).bind fun b=>
  (VK (a.1.2.2.2.2.2.2,[48],(fun x=>(cI x).bind fun r=>some r))).bind fun a=>
  (cat? b a).bind fun a=>
  some a
def VL:Unit->Option (List E1):=fun _=>
 some [[97,108,112,104,97],[98,101,116,97],[109,105,108,101,115,116,111,110,101],[114,99],[115,110,97,112,115,104,111,116]]
def cK:Rd ((List E1)×E1×Int×Int) IE:=fun a (b,c,d,e)=>
 bif (decide (e<d))then
  (at? b e).bind fun f=>
  bif (EM c f)then
   some (.inr e)
  else
   a (b,c,d,(i64.wrap (e+1)))
 else
  some (.inl ())
def cL:=EL cK fuel
def ND:(List E1)×E1->Option (Int):=fun(a,b)=>
 (cL (a,b,(a.length:Int),0)).bind fun a=>
 match a with
 | .inl _=>
  some (-1:Int)
 | .inr a=>
  some a
def PG:(List E1)×E1->Option (Bool):=fun(a,b)=>
 (ND (a,b)).bind fun a=>
 some (decide (0<=a))
def S6:Bool×E1×Int->Option (Bool):=fun a=>
 (bif a.1 then VL ()else some []).bind fun b=>
 (bif a.1 then PG (b,a.2.1)else some false).bind fun b=>
 some (a.1&&b)
def VM:Bool×E1×Int->Option E1:=fun a=>
 bif (!a.1)then
  (J0 a.2.2).bind fun b=>
  (cat? [56] b).bind fun b=>
  some b
 else
  (S6 a).bind fun b=>
  bif b then
   (VL ()).bind fun b=>
   (ND (b,a.2.1)).bind fun b=>
   (strconv_Itoa b).bind fun b=>
   some b
  else
   bif (EM a.2.1 [115,112])then
    some [54]
   else
    (cat? [55] a.2.1).bind fun a=>
    (cat? a [32]).bind fun a=>
    some a
def A0f:Rd (E1×Int×GZ×Int×Int) E1:=fun a (b,c,d,e,f)=>
 bif (decide (f<e))then
  (at? d f).bind fun g=>
  (PE g).bind fun h=>
  bif h then
   a (b,(i64.wrap (c+1)),d,e,(i64.wrap (f+1)))
  else
   (S6 g).bind fun h=>
   bif h then
    (strconv_Itoa (i64.wrap (100+c))).bind fun h=>
    (cat? [49] h).bind fun h=>
    (VM g).bind fun i=>
    (cat? h i).bind fun h=>
    (cat? b h).bind fun h=>
    a (h,0,d,e,(i64.wrap (f+1)))
   else
    (strconv_Itoa (i64.wrap (900-c))).bind fun c=>
    (cat? [51] c).bind fun c=>
    (VM g).bind fun g=>
    (cat? c g).bind fun c=>
    (cat? b c).bind fun c=>
    a (c,0,d,e,(i64.wrap (f+1)))
 else
  some b
def nI:=EL A0f fuel
def M0:List K1->Option E1:=fun a=>
 (nI ([],0,a,(a.length:Int),0)).bind fun a=>
 (cat? a [50]).bind fun a=>
 some a
def M1:Int->Option E1:=fun a=>
 (J0 a).bind fun a=>
 some a
def NE:Int×GJ->Option (E1×Int):=fun(a,b)=>
 bif (!b.1)then
  bif (b.2.1||(!(EM b.2.2 [])))then
   some ([],2)
  else
   some ([],0)
 else
  (IN (a,b.2.2)).bind fun a=>
  bif (!(E6 a.2 0))then
   some ([],a.2)
  else
   ((fun z=>Sum.casesOn (motive:=fun _=>Option E1) z (fun x=>(VB x).bind fun r=>some r) (fun z=>Sum.casesOn (motive:=fun _=>Option E1) z (fun x=>(VE x).bind fun r=>some r) (fun z=>Sum.casesOn (motive:=fun _=>Option E1) z (fun x=>(VG x).bind fun r=>some r) (fun z=>Sum.casesOn (motive:=fun _=>Option E1) z (fun x=>(VH x).bind fun r=>some r) (fun z=>Sum.casesOn (motive:=fun _=>Option E1) z (fun x=>(VI x).bind fun r=>some r) (fun _=>none)))))) a.1).bind fun c=>
   bif (!(EM c b.2.2))then
    some ([],2)
   else
    ((fun z=>Sum.casesOn (motive:=fun _=>Option E1) z (fun x=>(LY x).bind fun r=>some r) (fun z=>Sum.casesOn (motive:=fun _=>Option E1) z (fun x=>(LZ x).bind fun r=>some r) (fun z=>Sum.casesOn (motive:=fun _=>Option E1) z (fun x=>(L_ x).bind fun r=>some r) (fun z=>Sum.casesOn (motive:=fun _=>Option E1) z (fun x=>(M0 x).bind fun r=>some r) (fun z=>Sum.casesOn (motive:=fun _=>Option E1) z (fun x=>(M1 x).bind fun r=>some r) (fun _=>none)))))) a.1).bind fun a=>
    some (a,0)
def VN:GJ×E1->Option K2:=fun(a,b)=>
 bif (!a.1)then
  some ((-1:Int),([],(false,[])))
 else
  some (0,(b,((!a.2.1),a.2.2)))
def VO:GJ×E1->Option K2:=fun(a,b)=>
 bif (!a.1)then
  some (1,([],(false,[])))
 else
  some (0,(b,(a.2.1,a.2.2)))
def cM:Int->Option (Bool):=fun a=>
 some (!(E6 a a))
def NF:Int×Int->Option (Int):=fun(a,b)=>
 (cM a).bind fun c=>
 (cM b).bind fun d=>
 bif c then
  bif d then
   some 0
  else
   some (-1:Int)
 else
  bif d then
   some 1
  else
   bif (decide (a<b))then
    some (-1:Int)
   else
    bif (decide (b<a))then
     some 1
    else
     some 0
def L7:K2×K2->Option (Int):=fun(a,b)=>
 bif ((!(E6 a.1 b.1))||(!(E6 a.1 0)))then
  (NF (a.1,b.1)).bind fun c=>
  some c
 else
  (MK (a.2.1,b.2.1)).bind fun c=>
  bif ((!(E6 c 0))||(JN a.2.2.1 b.2.2.1))then
   some c
  else
   bif a.2.2.1 then
    some 1
   else
    some (-1:Int)
def cN:(GJ×GJ)×(List FS)->Option (Int):=fun(a,b)=>
 bif (((!a.1.1)||(!a.1.2.1))||(a.2.1&&((!a.2.2.1)||(EM a.2.2.2 [57,57,57,57,57,57,57,57,57,57,57,57,57,57,57,57,57,57]))))then
  some 2
 else
  bif (decide (0<(b.length:Int)))then
   (I_ a.1.2.2).bind fun a=>
   (at? b (i64.wrap ((b.length:Int)-1))).bind fun b=>
   (I_ b.2.2.2.2).bind fun b=>
   bif (decide (a.1<(i64.wrap (b.1+2))))then
    some 10
   else
    some 0
  else
   some 0
def A0g:Rd ((Int×FN)×(List FS)×FN×Int×Int) (Sum (List FS) ((List FS)×Int)):=fun a (b,c,d,e,f)=>
 bif (decide (f<e))then
  (at? d f).bind fun g=>
  (NE (b.1,g.1)).bind fun h=>
  bif (!(E6 h.2 0))then
   some (.inr ([],h.2))
  else
   (NE (b.1,g.2)).bind fun i=>
   bif (!(E6 i.2 0))then
    some (.inr ([],i.2))
   else
    (VN (g.1,h.1)).bind fun h=>
    (VO (g.2,i.1)).bind fun i=>
    (L7 (h,i)).bind fun j=>
    (bif ((!(decide (0<=j)))&&(decide (0<(c.length:Int))))then at? c (i64.wrap ((c.length:Int)-1))else some ((0,([],(false,[]))),(0,([],(false,[]))))).bind fun k=>
    (bif ((!(decide (0<=j)))&&(decide (0<(c.length:Int))))then L7 (h,k.2)else some 0).bind fun k=>
    bif ((decide (0<=j))||((decide (0<(c.length:Int)))&&(decide (k<=0))))then
     some (.inr ([],10))
    else
     bif (E6 b.1 5)then
      (cN (g,c)).bind fun g=>
      bif (!(E6 g 0))then
       some (.inr ([],g))
      else
       (app? 192 c [(h,i)]).bind fun g=>
       a (b,g,d,e,(i64.wrap (f+1)))
     else
      (app? 192 c [(h,i)]).bind fun g=>
      a (b,g,d,e,(i64.wrap (f+1)))
 else
  some (.inl c)
def nJ:=EL A0g fuel
def S7:Int×FN->Option ((List FS)×Int):=fun a=>
 bif ((decide (a.1<1))||(decide (5<a.1)))then
  some ([],7)
 else
  bif (decide (200<(a.2.length:Int)))then
   some ([],3)
  else
   (nJ (a,[],a.2,(a.2.length:Int),0)).bind fun a=>
   match a with
   | .inl a=>
    some (a,0)
   | .inr a=>
    some (a.1,a.2)
def S8:Int×FN->Option (Int):=fun a=>
 (S7 a).bind fun a=>
 some a.2
def nK:Rd (H6×H6×Int×Int) IE:=fun a (b,c,d,e)=>
 bif (decide (e<d))then
  (at? c e).bind fun f=>
  (MM f.1).bind fun g=>
  bif (!g.2)then
   some (.inr 8)
  else
   (S8 f.2.1).bind fun h=>
   bif (!(E6 h 0))then
    some (.inr h)
   else
    bif (!(E6 f.2.1.1 g.1))then
     some (.inr 7)
    else
     bif ((decide (f.2.2<1))||(decide (4<f.2.2)))then
      some (.inr 9)
     else
      (bif (decide (0<e))then at? b (i64.wrap (e-1))else some ([],((0,[]),0))).bind fun g=>
      bif ((decide (0<e))&&(Op.bytesLess f.1 g.1||EM f.1 g.1))then
       some (.inr 10)
      else
       a (b,c,d,(i64.wrap (e+1)))
 else
  some (.inl ())
def A0h:=EL nK fuel
def VP:List P6->Option (Int):=fun a=>
 bif (decide (12<(a.length:Int)))then
  some 3
 else
  (A0h (a,a,(a.length:Int),0)).bind fun a=>
  match a with
  | .inl _=>
   some 0
  | .inr a=>
   some a
def nL:P6×(Option (E1×E1×H6×Bool))->Option (Bool):=fun(a,b)=>
 (b).bind fun b=>
 some (EM a.1 b.1)
def nM:Rd (H6×(P6->Option Bool)×Int×Int) IE:=fun a (b,c,d,e)=>
 bif (decide (e<d))then
  (at? b e).bind fun f=>
  (c f).bind fun f=>
  bif f then
   some (.inr e)
  else
   a (b,c,d,(i64.wrap (e+1)))
 else
  some (.inl ())
def nN:=EL nM fuel
def cO:H6×(P6->Option Bool)->Option (Int):=fun(a,b)=>
 (nN (a,b,(a.length:Int),0)).bind fun a=>
 match a with
 | .inl _=>
  some (-1:Int)
 | .inr a=>
  some a
def cQ:H6×(P6->Option Bool)->Option (Bool):=fun(a,b)=>
 (cO (a,b)).bind fun a=>
 some (decide (0<=a))
def S9:Int×E1×E1->Option (H3×H3×Int):=fun(a,b,c)=>
 (IN (a,b)).bind fun b=>
 bif (!(E6 b.2 0))then
  some ((Sum.inr (Sum.inr (Sum.inr (Sum.inr (Sum.inr ()))))),(Sum.inr (Sum.inr (Sum.inr (Sum.inr (Sum.inr ()))))),b.2)
 else
  (IN (a,c)).bind fun a=>
  some (b.1,a.1,a.2)
def cR:Int×E1×E1->Option (Int×Int):=fun(a,b,c)=>
 (S9 (a,b,c)).bind fun a=>
 bif (!(E6 a.2.2 0))then
  some (0,a.2.2)
 else
  ((fun z=>Sum.casesOn (motive:=fun _=>Option E1) z (fun x=>(LY x).bind fun r=>some r) (fun z=>Sum.casesOn (motive:=fun _=>Option E1) z (fun x=>(LZ x).bind fun r=>some r) (fun z=>Sum.casesOn (motive:=fun _=>Option E1) z (fun x=>(L_ x).bind fun r=>some r) (fun z=>Sum.casesOn (motive:=fun _=>Option E1) z (fun x=>(M0 x).bind fun r=>some r) (fun z=>Sum.casesOn (motive:=fun _=>Option E1) z (fun x=>(M1 x).bind fun r=>some r) (fun _=>none)))))) a.1).bind fun b=>
  ((fun z=>Sum.casesOn (motive:=fun _=>Option E1) z (fun x=>(LY x).bind fun r=>some r) (fun z=>Sum.casesOn (motive:=fun _=>Option E1) z (fun x=>(LZ x).bind fun r=>some r) (fun z=>Sum.casesOn (motive:=fun _=>Option E1) z (fun x=>(L_ x).bind fun r=>some r) (fun z=>Sum.casesOn (motive:=fun _=>Option E1) z (fun x=>(M0 x).bind fun r=>some r) (fun z=>Sum.casesOn (motive:=fun _=>Option E1) z (fun x=>(M1 x).bind fun r=>some r) (fun _=>none)))))) a.2.1).bind fun a=>
  (MK (b,a)).bind fun a=>
  some (a,0)
def cS:(E1×E1×H6×Bool)×JD->Option (Int):=fun(a,b)=>
 (PF (a.1,a.2.1)).bind fun c=>
 bif (!(E6 c.2 0))then
  some c.2
 else
  (VP a.2.2.1).bind fun d=>
  bif (!(E6 d 0))then
   some d
  else
   (cQ (a.2.2.1,(fun x=>(nL (x,(some a))).bind fun r=>some r))).bind fun d=>
   bif d then
    some 2
   else
    bif (E6 (b.length:Int) 0)then
     some 0
    else
     (at? b (i64.wrap ((b.length:Int)-1))).bind fun b=>
     bif (Op.bytesLess a.1 b.1)then
      some 10
     else
      bif (EM a.1 b.1)then
       (cR (c.1,b.2.1,a.2.1)).bind fun a=>
       bif (decide (0<=a.1))then
        some 10
       else
        some 0
      else
       some 0
def nO:Rd (JD×Int×Int×JD×Int×Int) IE:=fun a (b,c,d,e,f,g)=>
 bif (decide (g<f))then
  (at? e g).bind fun h=>
  (cut? b 0 g).bind fun i=>
  (cS (h,i)).bind fun i=>
  bif (!(E6 i 0))then
   some (.inr i)
  else
   (bif (!(E6 g 0))then at? b (i64.wrap (g-1))else some ([],([],([],false)))).bind fun i=>
   bif ((E6 g 0)||(!(EM i.1 h.1)))then
    bif ((decide ((8:Int)<1))||(decide (12<(i64.wrap (c+1)))))then
     some (.inr 3)
    else
     a (b,(i64.wrap (c+1)),1,e,f,(i64.wrap (g+1)))
   else
    bif ((decide (8<(i64.wrap (d+1))))||(decide (12<c)))then
     some (.inr 3)
    else
     a (b,c,(i64.wrap (d+1)),e,f,(i64.wrap (g+1)))
 else
  some (.inl ())
def A0i:=EL nO fuel
def SA:List (E1×E1×H6×Bool)->Option (Int):=fun a=>
 (A0i (a,0,0,a,(a.length:Int),0)).bind fun a=>
 match a with
 | .inl _=>
  some 0
 | .inr a=>
  some a
def nP:Rd (E7×E7×Int×Int) IE:=fun a (b,c,d,e)=>
 bif (decide (e<d))then
  (at? c e).bind fun f=>
  (PF (f.1,f.2)).bind fun g=>
  bif (!(E6 g.2 0))then
   some (.inr g.2)
  else
   (bif (decide (0<e))then at? b (i64.wrap (e-1))else some ([],[])).bind fun g=>
   bif ((decide (0<e))&&(Op.bytesLess f.1 g.1||EM f.1 g.1))then
    some (.inr 10)
   else
    a (b,c,d,(i64.wrap (e+1)))
 else
  some (.inl ())
def A0j:=EL nP fuel
def VQ:List (E1×E1)->Option (Int):=fun a=>
 bif (decide (12<(a.length:Int)))then
  some 3
 else
  (A0j (a,a,(a.length:Int),0)).bind fun a=>
  match a with
  | .inl _=>
   some 0
  | .inr a=>
   some a
def nQ:(E1×E1)×(Option E1)->Option (Bool):=fun(a,b)=>
 (b).bind fun b=>
 some (EM a.1 b)
def nR:Rd (E7×((E1×E1)->Option Bool)×Int×Int) IE:=fun a (b,c,d,e)=>
 bif (decide (e<d))then
  (at? b e).bind fun f=>
  (c f).bind fun f=>
  bif f then
   some (.inr e)
  else
   a (b,c,d,(i64.wrap (e+1)))
 else
  some (.inl ())
def nS:=EL nR fuel
def cT:E7×((E1×E1)->Option Bool)->Option (Int):=fun(a,b)=>
 (nS (a,b,(a.length:Int),0)).bind fun a=>
 match a with
 | .inl _=>
  some (-1:Int)
 | .inr a=>
  some a
def L8:E7×E1->Option (E1×Bool):=fun(a,b)=>
 (cT (a,(fun x=>(nQ (x,(some b))).bind fun r=>some r))).bind fun b=>
 bif (decide (b<0))then
  some ([],false)
 else
  (at? a b).bind fun a=>
  some (a.2,true)
def A0k:Rd FA N9:=fun a (b,c,d)=>
 bif (decide (d<c))then
  (at? b d).bind fun e=>
  bif (!(((((((decide (97<=(e.toNat:Int)))&&(decide ((e.toNat:Int)<=122)))||((decide (65<=(e.toNat:Int)))&&(decide ((e.toNat:Int)<=90))))||((decide (48<=(e.toNat:Int)))&&(decide ((e.toNat:Int)<=57))))||(E6 (e.toNat:Int) 46))||(E6 (e.toNat:Int) 45))||(E6 (e.toNat:Int) 95)))then
   some (.inr false)
  else
   a (b,c,(i64.wrap (d+1)))
 else
  some (.inl ())
def nT:=EL A0k fuel
def SB:E1->Option (Bool):=fun a=>
 (nT (a,(a.length:Int),0)).bind fun b=>
 match b with
 | .inl _=>
  some ((!(EM a []))&&(decide ((a.length:Int)<=60)))
 | .inr a=>
  some a
def A0l:Rd (L4×(List E1)×Int×Int) IE:=fun a (b,c,d,e)=>
 bif (decide (e<d))then
  (at? c e).bind fun f=>
  (SB f).bind fun g=>
  bif (!g)then
   some (.inr 8)
  else
   bif (EM f b.1)then
    some (.inr 5)
   else
    (bif (decide (0<e))then at? b.2.1 (i64.wrap (e-1))else some []).bind fun g=>
    bif ((decide (0<e))&&(Op.bytesLess f g||EM f g))then
     some (.inr 10)
    else
     a (b,c,d,(i64.wrap (e+1)))
 else
  some (.inl ())
def nU:=EL A0l fuel
def cU:E1×(List E1)×E1×Int×Bool×E1×(List GY)->Option (Int):=fun a=>
 bif (decide (20<(a.2.1.length:Int)))then
  some 3
 else
  (nU (a,a.2.1,(a.2.1.length:Int),0)).bind fun a=>
  match a with
  | .inl _=>
   some 0
  | .inr a=>
   some a
def cV:Unit->Option (List (List (Int×Int))):=fun _=>
 let a:=(GU E6 76 22 (GU E6 72 56 []))
 some [(GU E6 80 20 (GU E6 76 55 (GU E6 65 62 (GU E6 78 85 [])))),(GU E6 72 44 (GU E6 76 77 [])),(GU E6 72 27 (GU E6 76 62 (GU E6 78 85 []))),(GU E6 78 0 a),(GU E6 78 0 a),(GU E6 78 0 a)]
def nV:Rd (E1×(List Int)×(List (List (Int×Int)))×Int) (Sum (List Int) (Int×Int)):=fun a (b,c,d,e)=>
 bif (decide (e<6))then
  (at? d e).bind fun f=>
  (at? b e).bind fun g=>
  bif (!(HT E6 (g.toNat:Int) f).isSome)then
   some (.inr (0,7))
  else
   (in? 6 e).bind fun _=>
   a (b,(c.set e.toNat ((HT E6 (g.toNat:Int) f).getD 0)),d,(i64.wrap (e+1)))
 else
  some (.inl c)
def cW:=EL nV fuel
def PH:E1->Option (Int×Int):=fun a=>
 (cV ()).bind fun b=>
 bif (!(E6 (a.length:Int) 6))then
  some (0,2)
 else
  (cW (a,(List.replicate 6 0),b,0)).bind fun a=>
  match a with
  | .inl a=>
   let b:=(i64.wrap ((i64.wrap ((i64.wrap (100-(a.getD 3 0)))*(i64.wrap (100-(a.getD 4 0)))))*(i64.wrap (100-(a.getD 5 0)))))
   bif (E6 (i64.wrap (1000000-b)) 0)then
    some (0,0)
   else
    (div? i64 (i64.wrap ((i64.wrap ((i64.wrap (10*(i64.wrap ((i64.wrap (642*(i64.wrap (1000000-b))))+(i64.wrap ((i64.wrap ((i64.wrap (822*(a.getD 0 0)))*(a.getD 1 0)))*(a.getD 2 0)))))))+100000000))-1)) 100000000).bind fun a=>
    some ((N2 100 a),0)
  | .inr a=>
   some (a.1,a.2)
def cX:E1->Option (Bool):=fun a=>
 (PC a).bind fun b=>
 bif (!(E6 b.2.2 0))then
  some false
 else
  (S5 b.1).bind fun b=>
  some ((E6 b.2 0)&&(EM b.1 a))
def cY:Sum JE (Sum IZ (Sum F_ (Sum GZ (Sum Int Unit))))->Option (E1×Int):=fun a=>
 ((fun z=>Sum.casesOn (motive:=fun _=>Option E1) z (fun x=>(VB x).bind fun r=>some r) (fun z=>Sum.casesOn (motive:=fun _=>Option E1) z (fun x=>(VE x).bind fun r=>some r) (fun z=>Sum.casesOn (motive:=fun _=>Option E1) z (fun x=>(VG x).bind fun r=>some r) (fun z=>Sum.casesOn (motive:=fun _=>Option E1) z (fun x=>(VH x).bind fun r=>some r) (fun z=>Sum.casesOn (motive:=fun _=>Option E1) z (fun x=>(VI x).bind fun r=>some r) (fun _=>none)))))) a).bind fun a=>
 bif (decide (100<(a.length:Int)))then
  some ([],3)
 else
  some (a,0)
def PI:Int×E1->Option (E1×Int):=fun(a,b)=>
 (IN (a,b)).bind fun a=>
 bif (!(E6 a.2 0))then
  some ([],a.2)
 else
  (cY a.1).bind fun a=>
  some (a.1,a.2)
def A0m:Rd (GY×ID×Int×Int) IE:=fun a (b,c,d,e)=>
 bif (decide (e<d))then
  (at? c e).bind fun f=>
  bif ((decide (f.1<1))||(decide (3<f.1)))then
   some (.inr 7)
  else
   bif (EM f.2 [])then
    bif (!(E6 f.1 1))then
     some (.inr 2)
    else
     a (b,c,d,(i64.wrap (e+1)))
   else
    (PI (b.2.1,f.2)).bind fun f=>
    bif (!(E6 f.2 0))then
     some (.inr f.2)
    else
     a (b,c,d,(i64.wrap (e+1)))
 else
  some (.inl ())
def nW:=EL A0m fuel
def cZ:E1×Int×ID×(List E1)×(List E1)->Option (Int):=fun a=>
 bif (decide (100<(a.2.2.1.length:Int)))then
  some 3
 else
  (nW (a,a.2.2.1,(a.2.2.1.length:Int),0)).bind fun a=>
  match a with
  | .inl _=>
   some 0
  | .inr a=>
   some a
def A0n:Rd (E1×Bool×Int×Int) (Bool):=fun a (b,c,d,e)=>
 bif (decide (e<d))then
  (bif (!c)then at? b e else some 0).bind fun f=>
  (bif (!(c||(decide ((f.toNat:Int)<33))))then at? b e else some 0).bind fun g=>
  a (b,((c||(decide ((f.toNat:Int)<33)))||(decide (126<(g.toNat:Int)))),d,(i64.wrap (e+1)))
 else
  some c
def nX:=EL A0n fuel
def A0o:Rd ((List E1)×(List E1)×Int×Int) IE:=fun a (b,c,d,e)=>
 bif (decide (e<d))then
  (at? c e).bind fun f=>
  (nX (f,((EM f [])||(decide (200<(f.length:Int)))),(f.length:Int),0)).bind fun g=>
  bif g then
   some (.inr 8)
  else
   (bif (decide (0<e))then at? b (i64.wrap (e-1))else some []).bind fun g=>
   bif ((decide (0<e))&&(Op.bytesLess f g||EM f g))then
    some (.inr 10)
   else
    a (b,c,d,(i64.wrap (e+1)))
 else
  some (.inl ())
def nY:=EL A0o fuel
def c_:List E1->Option (Int):=fun a=>
 bif (decide (200<(a.length:Int)))then
  some 3
 else
  (nY (a,a,(a.length:Int),0)).bind fun a=>
  match a with
  | .inl _=>
   some 0
  | .inr a=>
   some a
def A0p:Rd (GY×(List E1)×Int×Int) (Sum GY (Int)):=fun a (b,c,d,e)=>
 bif (decide (e<d))then
  (at? c e).bind fun f=>
  (PI (b.2.1,f)).bind fun f=>
  bif (!(E6 f.2 0))then
   some (.inr f.2)
  else
   a (b,c,d,(i64.wrap (e+1)))
 else
  some (.inl b)
def nZ:=EL A0p fuel
def dA:E1×Int×ID×(List E1)×(List E1)->Option (Int):=fun a=>
 (cX a.1).bind fun b=>
 bif (!b)then
  some 8
 else
  bif ((decide (a.2.1<1))||(decide (5<a.2.1)))then
   some 7
  else
   (cZ a).bind fun b=>
   bif (!(E6 b 0))then
    some b
   else
    bif (decide (500<(a.2.2.2.1.length:Int)))then
     some 3
    else
     (nZ (a,a.2.2.2.1,(a.2.2.2.1.length:Int),0)).bind fun a=>
     match a with
     | .inl a=>
      (c_ a.2.2.2.2).bind fun a=>
      some a
     | .inr a=>
      some a
def dB:Unit->Option (List Int):=fun _=>
 some [0,1,0,2]
def SC:Int×E1->Option (E1×Int):=fun(a,b)=>
 (IN (a,b)).bind fun a=>
 bif (!(E6 a.2 0))then
  some ([],a.2)
 else
  ((fun z=>Sum.casesOn (motive:=fun _=>Option E1) z (fun x=>(LY x).bind fun r=>some r) (fun z=>Sum.casesOn (motive:=fun _=>Option E1) z (fun x=>(LZ x).bind fun r=>some r) (fun z=>Sum.casesOn (motive:=fun _=>Option E1) z (fun x=>(L_ x).bind fun r=>some r) (fun z=>Sum.casesOn (motive:=fun _=>Option E1) z (fun x=>(M0 x).bind fun r=>some r) (fun z=>Sum.casesOn (motive:=fun _=>Option E1) z (fun x=>(M1 x).bind fun r=>some r) (fun _=>none)))))) a.1).bind fun a=>
  some (a,0)
def A0q:Rd ((List EB)×Int×FW×Int) (List EB):=fun a (b,c,d,e)=>
 (bif (decide (c<e))then in? b.length e else some ()).bind fun _=>
 (bif (decide (c<e))then in? b.length (i64.wrap (e-1))else some ()).bind fun _=>
 (bif (decide (c<e))then d ((b.getD e.toNat (0,([],([],0)))),(b.getD ((i64.wrap (e-1)).toNat) (0,([],([],0)))))else some 0).bind fun f=>
 bif ((decide (c<e))&&(decide (f<0)))then
  (in? b.length (i64.wrap (e-1))).bind fun _=>
  let f:=(b.getD ((i64.wrap (e-1)).toNat) (0,([],([],0))))
  (in? b.length e).bind fun _=>
  (in? b.length e).bind fun _=>
  (in? (b.set e.toNat f).length (i64.wrap (e-1))).bind fun _=>
  a (((b.set e.toNat f).set ((i64.wrap (e-1)).toNat) (b.getD e.toNat (0,([],([],0))))),c,d,(i64.wrap (e-1)))
 else
  some b
def o0:=EL A0q fuel
def A0r:Rd ((List EB)×Int×Int×FW×Int) (List EB):=fun a (b,c,d,e,f)=>
 bif (decide (f<d))then
  (o0 (b,c,e,f)).bind fun g=>
  a (g,c,d,e,(i64.wrap (f+1)))
 else
  some b
def o4:=EL A0r fuel
def VR:(List EB)×Int×Int×FW->Option (List EB):=fun(a,b,c,d)=>
 (o4 (a,b,c,d,(i64.wrap (b+1)))).bind fun a=>
 some a
def A0s:Rd ((List EB)×Int×Int×Int×Int) (List EB):=fun a (b,c,d,e,f)=>
 bif (decide (f<e))then
  (in? b.length (i64.wrap (d+f))).bind fun _=>
  let g:=(b.getD ((i64.wrap (d+f)).toNat) (0,([],([],0))))
  (in? b.length (i64.wrap (c+f))).bind fun _=>
  (in? b.length (i64.wrap (c+f))).bind fun _=>
  (in? (b.set ((i64.wrap (c+f)).toNat) g).length (i64.wrap (d+f))).bind fun _=>
  a (((b.set ((i64.wrap (c+f)).toNat) g).set ((i64.wrap (d+f)).toNat) (b.getD ((i64.wrap (c+f)).toNat) (0,([],([],0))))),c,d,e,(i64.wrap (f+1)))
 else
  some b
def o5:=EL A0s fuel
def SD:(List EB)×Int×Int×Int×FW->Option (List EB):=fun(a,b,c,d,_)=>
 (o5 (a,b,c,d,0)).bind fun a=>
 some a
def A0t:Rd ((List EB)×Int×FW×Int×Int) L5:=fun a (b,c,d,e,f)=>
 bif (!(E6 e f))then
  bif (decide (f<e))then
   (SD (b,(i64.wrap (c-e)),c,f,d)).bind fun g=>
   a (g,c,d,(i64.wrap (e-f)),f)
  else
   (SD (b,(i64.wrap (c-e)),(i64.wrap ((i64.wrap (c+f))-e)),e,d)).bind fun g=>
   a (g,c,d,e,(i64.wrap (f-e)))
 else
  some (b,e)
def o6:=EL A0t fuel
def dC:(List EB)×Int×Int×Int×FW->Option (List EB):=fun(a,b,c,d,e)=>
 (o6 (a,c,e,(i64.wrap (c-b)),(i64.wrap (d-c)))).bind fun a=>
 (SD (a.1,(i64.wrap (c-a.2)),c,a.2,e)).bind fun a=>
 some a
def A0u(slf:(List EB)×Int×Int×Int×FW->Option (List EB))(a:(List EB)×Int×FW×Int×Int->Option L5):(List EB)×Int×FW×Int×Int->Option L5:=fun(b,c,d,e,f)=>
 bif (decide (e<f))then
  (shr? u64 (u64.wrap (i64.wrap (e+f))) 1).bind fun g=>
  (in? b.length (i64.wrap g)).bind fun _=>
  (in? b.length c).bind fun _=>
  (d ((b.getD ((i64.wrap g).toNat) (0,([],([],0)))),(b.getD c.toNat (0,([],([],0)))))).bind fun h=>
  bif (decide (h<0))then
   a (b,c,d,(i64.wrap ((i64.wrap g)+1)),f)
  else
   a (b,c,d,e,(i64.wrap g))
 else
  some (b,e)
def o7(slf:(List EB)×Int×Int×Int×FW->Option (List EB)):(List EB)×Int×FW×Int×Int->Option L5:=EL (A0u slf) fuel
def A0v(slf:(List EB)×Int×Int×Int×FW->Option (List EB))(a:(List EB)×Int×Int->Option (List EB)):(List EB)×Int×Int->Option (List EB):=fun(b,c,d)=>
 bif (decide (d<(i64.wrap (c-1))))then
  (in? b.length (i64.wrap (d+1))).bind fun _=>
  let e:=(b.getD ((i64.wrap (d+1)).toNat) (0,([],([],0))))
  (in? b.length d).bind fun _=>
  (in? b.length d).bind fun _=>
  (in? (b.set d.toNat e).length (i64.wrap (d+1))).bind fun _=>
  a (((b.set d.toNat e).set ((i64.wrap (d+1)).toNat) (b.getD d.toNat (0,([],([],0))))),c,(i64.wrap (d+1)))
 else
  some b
def o8(slf:(List EB)×Int×Int×Int×FW->Option (List EB)):(List EB)×Int×Int->Option (List EB):=EL (A0v slf) fuel
def A0w(slf:(List EB)×Int×Int×Int×FW->Option (List EB))(a:(List EB)×Int×FW×Int×Int->Option L5):(List EB)×Int×FW×Int×Int->Option L5:=fun(b,c,d,e,f)=>
 bif (decide (e<f))then
  (shr? u64 (u64.wrap (i64.wrap (e+f))) 1).bind fun g=>
  (in? b.length c).bind fun _=>
  (in? b.length (i64.wrap g)).bind fun _=>
  (d ((b.getD c.toNat (0,([],([],0)))),(b.getD ((i64.wrap g).toNat) (0,([],([],0)))))).bind fun h=>
  bif (!(decide (h<0)))then
   a (b,c,d,(i64.wrap ((i64.wrap g)+1)),f)
  else
   a (b,c,d,e,(i64.wrap g))
 else
  some (b,e)
def o9(slf:(List EB)×Int×Int×Int×FW->Option (List EB)):(List EB)×Int×FW×Int×Int->Option L5:=EL (A0w slf) fuel
def A0x(slf:(List EB)×Int×Int×Int×FW->Option (List EB))(a:(List EB)×Int×Int->Option (List EB)):(List EB)×Int×Int->Option (List EB):=fun(b,c,d)=>
 bif (decide (c<d))then
  (in? b.length (i64.wrap (d-1))).bind fun _=>
  let e:=(b.getD ((i64.wrap (d-1)).toNat) (0,([],([],0))))
  (in? b.length d).bind fun _=>
  (in? b.length d).bind fun _=>
  (in? (b.set d.toNat e).length (i64.wrap (d-1))).bind fun _=>
  a (((b.set d.toNat e).set ((i64.wrap (d-1)).toNat) (b.getD d.toNat (0,([],([],0))))),c,(i64.wrap (d-1)))
 else
  some b
def oA(slf:(List EB)×Int×Int×Int×FW->Option (List EB)):(List EB)×Int×Int->Option (List EB):=EL (A0x slf) fuel
def dD(slf:(List EB)×Int×Int×Int×FW->Option (List EB)):Int×Int×Int×Int×Int×Bool->Option (Int×Int):=fun(a,b,c,d,e,f)=>
 bif f then
  some ((i64.wrap (e-c)),d)
 else
  some (a,b)
def A0y(slf:(List EB)×Int×Int×Int×FW->Option (List EB))(a:(List EB)×FW×Int×Int×Int->Option L5):(List EB)×FW×Int×Int×Int->Option L5:=fun(b,c,d,e,f)=>
 bif (decide (d<e))then
  (shr? u64 (u64.wrap (i64.wrap (d+e))) 1).bind fun g=>
  (in? b.length (i64.wrap (f-(i64.wrap g)))).bind fun _=>
  (in? b.length (i64.wrap g)).bind fun _=>
  (c ((b.getD ((i64.wrap (f-(i64.wrap g))).toNat) (0,([],([],0)))),(b.getD ((i64.wrap g).toNat) (0,([],([],0)))))).bind fun h=>
  bif (!(decide (h<0)))then
   a (b,c,(i64.wrap ((i64.wrap g)+1)),e,f)
  else
   a (b,c,d,(i64.wrap g),f)
 else
  some (b,d)
def oB(slf:(List EB)×Int×Int×Int×FW->Option (List EB)):(List EB)×FW×Int×Int×Int->Option L5:=EL (A0y slf) fuel
def dE(slf:(List EB)×Int×Int×Int×FW->Option (List EB)):(List EB)×Int×FW×Int×Int×Bool->Option (List EB):=fun(a,b,c,d,e,f)=>
 bif f then
  (dC (a,d,b,e,c)).bind fun b=>
  some b
 else
  some a
def dF(slf:(List EB)×Int×Int×Int×FW->Option (List EB)):(List EB)×Int×FW×Int×Int×Bool->Option (List EB):=fun(a,b,c,d,e,f)=>
 bif f then
  (slf (a,b,e,d,c)).bind fun b=>
  some b
 else
  some a
def oC(slf:(List EB)×Int×Int×Int×FW->Option (List EB)):(List EB)×Int×Int×Int×FW->Option (List EB):=fun(a,b,c,d,e)=>
 bif (E6 (i64.wrap (c-b)) 1)then
  ((o7 slf) (a,b,e,c,d)).bind fun f=>
  ((o8 slf) (f.1,f.2,b)).bind fun f=>
  some f
 else
  bif (E6 (i64.wrap (d-c)) 1)then
   ((o9 slf) (a,c,e,b,c)).bind fun f=>
   ((oA slf) (f.1,f.2,c)).bind fun f=>
   some f
  else
   (shr? u64 (u64.wrap (i64.wrap (b+d))) 1).bind fun f=>
   ((dD slf) (b,c,d,(i64.wrap f),(i64.wrap ((i64.wrap f)+c)),(decide ((i64.wrap f)<c)))).bind fun g=>
   ((oB slf) (a,e,g.1,g.2,(i64.wrap ((i64.wrap ((i64.wrap f)+c))-1)))).bind fun a=>
   let g:=(i64.wrap ((i64.wrap ((i64.wrap f)+c))-a.2))
   ((dE slf) (a.1,c,e,a.2,g,((decide (a.2<c))&&(decide (c<g))))).bind fun c=>
   ((dF slf) (c,b,e,(i64.wrap f),a.2,((decide (b<a.2))&&(decide (a.2<(i64.wrap f)))))).bind fun a=>
   bif ((decide ((i64.wrap f)<g))&&(decide (g<d)))then
    (slf (a,(i64.wrap f),g,d,e)).bind fun b=>
    some b
   else
    some a
def KN:Nat->(List EB)×Int×Int×Int×FW->Option (List EB)
 |0=>fun _=>none
 |n+1=>oC (KN n)
def VS:(List EB)×Int×Int×Int×FW->Option (List EB):=KN 100
def A0z:Rd ((List EB)×Int×FW×Int×Int×Int) L5:=fun a (b,c,d,e,f,g)=>
 bif (decide (g<=c))then
  (VR (b,f,g,d)).bind fun h=>
  a (h,c,d,e,g,(i64.wrap (g+e)))
 else
  some (b,f)
def oD:=EL A0z fuel
def A10:Rd ((List EB)×Int×FW×Int×Int×Int) L5:=fun a (b,c,d,e,f,g)=>
 bif (decide (g<=c))then
  (VS (b,f,(i64.wrap (f+e)),g,d)).bind fun h=>
  a (h,c,d,e,g,(i64.wrap (g+(i64.wrap (2*e)))))
 else
  some (b,f)
def oE:=EL A10 fuel
def A11:Rd ((List EB)×Int×FW×Int) (List EB):=fun a (b,c,d,e)=>
 bif (decide (e<c))then
  (oE (b,c,d,e,0,(i64.wrap (2*e)))).bind fun f=>
  bif (decide ((i64.wrap (f.2+e))<c))then
   (VS (f.1,f.2,(i64.wrap (f.2+e)),c,d)).bind fun g=>
   a (g,c,d,(i64.wrap (e*2)))
  else
   a (f.1,c,d,(i64.wrap (e*2)))
 else
  some b
def oG:=EL A11 fuel
def dG:(List EB)×Int×FW->Option (List EB):=fun(a,b,c)=>
 (oD (a,b,c,20,0,20)).bind fun a=>
 (VR (a.1,a.2,b,c)).bind fun a=>
 (oG (a,b,c,20)).bind fun a=>
 some a
def dH:(List EB)×FW->Option (List EB):=fun(a,b)=>
 (dG (a,(a.length:Int),b)).bind fun a=>
 some a
def dI:Rd (Int×(List Int)×Int×Int) IE:=fun a (b,c,d,e)=>
 bif (decide (e<d))then
  (at? c e).bind fun f=>
  bif (!(E6 f b))then
   some (.inr f)
  else
   a (b,c,d,(i64.wrap (e+1)))
 else
  some (.inl ())
def dJ:=EL dI fuel
def PJ:List Int->Option (Int):=fun a=>
 (dJ (0,a,(a.length:Int),0)).bind fun a=>
 match a with
 | .inl _=>
  some 0
 | .inr a=>
  some a
def dK:EB×EB->Option (Int):=fun(a,b)=>
 (MK (a.2.1,b.2.1)).bind fun c=>
 (NF (a.1,b.1)).bind fun a=>
 (PJ [c,a]).bind fun a=>
 some a
def A12:Rd (GY×(List EB)×ID×Int×Int) (List EB):=fun a (b,c,d,e,f)=>
 bif (decide (f<e))then
  (at? d f).bind fun g=>
  (dB ()).bind fun h=>
  (at? h g.1).bind fun h=>
  bif (!(EM g.2 []))then
   (SC (b.2.1,g.2)).bind fun i=>
   (PI (b.2.1,g.2)).bind fun j=>
   (app? 96 c [(h,(i.1,(j.1,g.1)))]).bind fun i=>
   a (b,i,d,e,(i64.wrap (f+1)))
  else
   (app? 96 c [(h,([],([],g.1)))]).bind fun g=>
   a (b,g,d,e,(i64.wrap (f+1)))
 else
  some c
def oH:=EL A12 fuel
def dL:E1×Int×ID×(List E1)×(List E1)->Option (List EB):=fun a=>
 (oH (a,[],a.2.2.1,(a.2.2.1.length:Int),0)).bind fun a=>
 (dH (a,(fun x=>(dK x).bind fun r=>some r))).bind fun a=>
 some a
def A13:Rd (FN×Bool×GJ×(List EB)×Int×Int) (FN×Bool×GJ):=fun a (b,c,d,e,f,g)=>
 bif (decide (g<f))then
  (at? e g).bind fun h=>
  bif ((E6 h.2.2.2 1)&&(!c))then
   bif (!(EM h.2.2.1 []))then
    a (b,true,(true,(true,h.2.2.1)),e,f,(i64.wrap (g+1)))
   else
    a (b,true,(false,(false,[])),e,f,(i64.wrap (g+1)))
  else
   bif ((!(E6 h.2.2.2 1))&&c)then
    (app? 144 b [(d,(true,((E6 h.2.2.2 3),h.2.2.1)))]).bind fun h=>
    a (h,false,d,e,f,(i64.wrap (g+1)))
   else
    a (b,c,d,e,f,(i64.wrap (g+1)))
 else
  some (b,c,d)
def oI:=EL A13 fuel
def dM:FN×GJ×Bool->Option FN:=fun(a,b,c)=>
 bif c then
  (app? 144 a [(b,(false,(false,[])))]).bind fun b=>
  some b
 else
  some a
def A14:Rd (GY×FN×(List E1)×Int×Int) FN:=fun a (b,c,d,e,f)=>
 bif (decide (f<e))then
  (at? d f).bind fun g=>
  (PI (b.2.1,g)).bind fun g=>
  (app? 144 c [((true,(true,g.1)),(true,(true,g.1)))]).bind fun g=>
  a (b,g,d,e,(i64.wrap (f+1)))
 else
  some c
def oJ:=EL A14 fuel
def dN:E1×Int×ID×(List E1)×(List E1)->Option FN:=fun a=>
 (dL a).bind fun b=>
 (oI ([],false,(false,(false,[])),b,(b.length:Int),0)).bind fun b=>
 (dM (b.1,b.2.2,b.2.1)).bind fun b=>
 (oJ (a,b,a.2.2.2.1,(a.2.2.2.1.length:Int),0)).bind fun a=>
 some a
def NG:FS×FS->Option (Int):=fun(a,b)=>
 (L7 (a.1,b.1)).bind fun a=>
 some a
def dO:FS×Int×Bool->Option (FS×Int):=fun(a,b,c)=>
 bif c then
  (I_ a.1.2.2.2).bind fun c=>
  bif a.1.2.2.1 then
   some (a,(i64.wrap (c.1+1)))
  else
   some (a,c.1)
 else
  some (a,b)
def dP:K2×K2->Option (Int×Int×Bool):=fun a=>
 (dO (a,0,(E6 a.1.1 0))).bind fun a=>
 bif (E6 a.1.2.1 0)then
  (I_ a.1.2.2.2.2).bind fun b=>
  bif (!a.1.2.2.2.1)then
   some (a.2,(i64.wrap (b.1-1)),(decide (a.2<=(i64.wrap (b.1-1)))))
  else
   some (a.2,b.1,(decide (a.2<=b.1)))
 else
  some (a.2,999999999999999999,(decide (a.2<=999999999999999999)))
def dQ:Int×K2×Bool->Option K2:=fun(a,b,c)=>
 bif c then
  (J0 a).bind fun c=>
  (strconv_Itoa a).bind fun a=>
  some (0,(c,(true,a)))
 else
  some b
def A15:Rd ((List FS)×Int×(List FS)×Int×Int) (List FS):=fun a (b,c,d,e,f)=>
 bif (decide (f<e))then
  (at? d f).bind fun g=>
  (dP g).bind fun g=>
  bif (!g.2.2)then
   a (b,c,d,e,(i64.wrap (f+1)))
  else
   (dQ (g.2.1,(1,([],(false,[]))),(decide (g.2.1<999999999999999999)))).bind fun h=>
   bif ((decide (0<(b.length:Int)))&&(E6 g.1 (i64.wrap (c+1))))then
    (in? b.length (i64.wrap ((b.length:Int)-1))).bind fun _=>
    a ((b.set ((i64.wrap ((b.length:Int)-1)).toNat) ((b.getD ((i64.wrap ((b.length:Int)-1)).toNat) ((0,([],(false,[]))),(0,([],(false,[]))))).1,h)),g.2.1,d,e,(i64.wrap (f+1)))
   else
    (J0 g.1).bind fun c=>
    (strconv_Itoa g.1).bind fun i=>
    (app? 192 b [((0,(c,(false,i))),h)]).bind fun c=>
    a (c,g.2.1,d,e,(i64.wrap (f+1)))
 else
  some b
def oK:=EL A15 fuel
def dR:List FS->Option (List FS):=fun a=>
 (oK ([],(-2:Int),a,(a.length:Int),0)).bind fun a=>
 some a
def dS:(List FS)×Bool->Option (List FS):=fun(a,b)=>
 bif b then
  (dR a).bind fun b=>
  some b
 else
  some a
def dT:FS×(GJ×GJ)×Bool->Option (FS×(GJ×GJ)):=fun(a,b,c)=>
 bif c then
  some (a,((true,((!a.1.2.2.1),a.1.2.2.2)),b.2))
 else
  some (a,b)
def A16:Rd ((Int×FN)×(List FS)×Int×Int) (Int×FN):=fun a (b,c,d,e)=>
 bif (decide (e<d))then
  (at? c e).bind fun f=>
  (dT (f,((false,(false,[])),(false,(false,[]))),(E6 f.1.1 0))).bind fun f=>
  bif (E6 f.1.2.1 0)then
   (app? 144 b.2 [(f.2.1,(true,(f.1.2.2.2.1,f.1.2.2.2.2)))]).bind fun g=>
   a ((b.1,g),c,d,(i64.wrap (e+1)))
  else
   (app? 144 b.2 [f.2]).bind fun f=>
   a ((b.1,f),c,d,(i64.wrap (e+1)))
 else
  some (b.1,b.2)
def oL:=EL A16 fuel
def dU:Int×(List FS)->Option ((Int×FN)×Int):=fun(a,b)=>
 (dS (b,(E6 a 5))).bind fun b=>
 bif (decide (200<(b.length:Int)))then
  some ((0,[]),3)
 else
  (oL ((a,[]),b,(b.length:Int),0)).bind fun a=>
  some ((a.1,a.2),0)
def A17:Rd (Int×(Int×FN)×(List FS)×FN×Int×Int) (Sum ((Int×FN)×(List FS)) ((Int×FN)×Int)):=fun a (b,c,d,e,f,g)=>
 bif (decide (g<f))then
  (at? e g).bind fun h=>
  (NE (b,h.1)).bind fun i=>
  bif (!(E6 i.2 0))then
   some (.inr ((0,[]),i.2))
  else
   (NE (b,h.2)).bind fun j=>
   bif (!(E6 j.2 0))then
    some (.inr ((0,[]),j.2))
   else
    (VN (h.1,i.1)).bind fun i=>
    (VO (h.2,j.1)).bind fun h=>
    (L7 (i,h)).bind fun j=>
    bif (decide (j<0))then
     (app? 192 d [(i,h)]).bind fun h=>
     a (b,c,h,e,f,(i64.wrap (g+1)))
    else
     a (b,c,d,e,f,(i64.wrap (g+1)))
 else
  some (.inl (c,d))
def oM:=EL A17 fuel
def A18:Rd ((List FS)×(List FS)×Int×Int) (List FS):=fun a (b,c,d,e)=>
 bif (decide (e<d))then
  (in? c.length e).bind fun _=>
  let f:=(c.getD e.toNat ((0,([],(false,[]))),(0,([],(false,[])))))
  (bif (!(E6 (b.length:Int) 0))then in? b.length (i64.wrap ((b.length:Int)-1))else some ()).bind fun _=>
  (bif (!(E6 (b.length:Int) 0))then L7 (((b.getD ((i64.wrap ((b.length:Int)-1)).toNat) ((0,([],(false,[]))),(0,([],(false,[]))))).2),f.1)else some 0).bind fun g=>
  bif ((E6 (b.length:Int) 0)||(decide (g<0)))then
   (app? 192 b [f]).bind fun g=>
   a (g,c,d,(i64.wrap (e+1)))
  else
   (in? b.length (i64.wrap ((b.length:Int)-1))).bind fun _=>
   (L7 (((b.getD ((i64.wrap ((b.length:Int)-1)).toNat) ((0,([],(false,[]))),(0,([],(false,[]))))).2),f.2)).bind fun g=>
   bif (decide (g<0))then
    (in? b.length (i64.wrap ((b.length:Int)-1))).bind fun _=>
    a ((b.set ((i64.wrap ((b.length:Int)-1)).toNat) ((b.getD ((i64.wrap ((b.length:Int)-1)).toNat) ((0,([],(false,[]))),(0,([],(false,[]))))).1,f.2)),c,d,(i64.wrap (e+1)))
   else
    a (b,c,d,(i64.wrap (e+1)))
 else
  some b
def oN:=EL A18 fuel
def dV:Int×FN->Option ((Int×FN)×Int):=fun(a,b)=>
 (oM (a,(0,[]),[],b,(b.length:Int),0)).bind fun b=>
 match b with
 | .inl b=>
  (lE (b.2,(fun x=>(NG x).bind fun r=>some r))).bind fun b=>
  (oN ([],b,(b.length:Int),0)).bind fun b=>
  (dU (a,b)).bind fun a=>
  some (a.1,a.2)
 | .inr a=>
  some (a.1,a.2)
def dW:E1×Int×ID×(List E1)×(List E1)->Option ((Int×FN)×Int):=fun a=>
 (dA a).bind fun b=>
 bif (!(E6 b 0))then
  some ((0,[]),b)
 else
  (dN a).bind fun b=>
  (dV (a.2.1,b)).bind fun a=>
  some (a.1,a.2)
def VT:L4×Bool->Option (Sum L4 (JS×Int)):=fun(a,b)=>
 bif b then
  (PH a.2.2.2.2.2.1).bind fun b=>
  bif (!(E6 b.2 0))then
   some (.inr ([],b.2))
  else
   some (.inl a)
 else
  some (.inl a)
def oO:Rd (JS×(List GY)×Int×Int) (Sum JS (JS×Int)):=fun a (b,c,d,e)=>
 bif (decide (e<d))then
  (at? c e).bind fun f=>
  (dW f).bind fun f=>
  bif (!(E6 f.2 0))then
   some (.inr ([],f.2))
  else
   (app? 48 b [f.1]).bind fun f=>
   a (f,c,d,(i64.wrap (e+1)))
 else
  some (.inl b)
def VU:=EL oO fuel
def PK:E1×(List E1)×E1×Int×Bool×E1×(List GY)->Option (JS×Int):=fun a=>
 (SB a.1).bind fun b=>
 bif (!b)then
  some ([],8)
 else
  (cU a).bind fun b=>
  bif (!(E6 b 0))then
   some ([],b)
  else
   (SB a.2.2.1).bind fun b=>
   bif (!b)then
    some ([],8)
   else
    bif ((decide (a.2.2.2.1<0))||(decide (1000000<a.2.2.2.1)))then
     some ([],9)
    else
     (VT (a,(!(EM a.2.2.2.2.2.1 [])))).bind fun a=>
     match a with
     | .inl a=>
      bif (decide (50<(a.2.2.2.2.2.2.length:Int)))then
       some ([],3)
      else
       (VU ([],a.2.2.2.2.2.2,(a.2.2.2.2.2.2.length:Int),0)).bind fun a=>
       match a with
       | .inl a=>
        some (a,0)
       | .inr a=>
        some (a.1,a.2)
     | .inr a=>
      some (a.1,a.2)
def SE:E1×(List E1)×E1×Int×Bool×E1×(List GY)->Option (Int):=fun a=>
 (PK a).bind fun a=>
 some a.2
def A19:Rd (RY×(List L4)×Int×Int) IE:=fun a (b,c,d,e)=>
 bif (decide (e<d))then
  (at? c e).bind fun f=>
  (SE f).bind fun g=>
  bif (!(E6 g 0))then
   some (.inr g)
  else
   (bif (decide (0<e))then at? b.2.1 (i64.wrap (e-1))else some ([],([],([],(0,(false,([],[]))))))).bind fun g=>
   bif ((decide (0<e))&&(Op.bytesLess f.1 g.1||EM f.1 g.1))then
    some (.inr 10)
   else
    (at? b.2.2 e).bind fun f=>
    (bif (!(decide (f<0)))then at? b.2.2 e else some 0).bind fun g=>
    bif ((decide (f<0))||(decide (b.1<g)))then
     some (.inr 9)
    else
     a (b,c,d,(i64.wrap (e+1)))
 else
  some (.inl ())
def oP:=EL A19 fuel
def dX:Int×(List L4)×(List Int)->Option (Int):=fun a=>
 bif ((decide (a.1<0))||(decide (1000000000<a.1)))then
  some 9
 else
  bif (decide (2000<(a.2.1.length:Int)))then
   some 3
  else
   bif (!(E6 (a.2.2.length:Int) (a.2.1.length:Int)))then
    some 2
   else
    (oP (a,a.2.1,(a.2.1.length:Int),0)).bind fun a=>
    match a with
    | .inl _=>
     some 0
    | .inr a=>
     some a
def oQ:Rd (GP×(List E1)×Int×Int) (Sum GP (Int)):=fun a (b,c,d,e)=>
 bif (decide (e<d))then
  (at? c e).bind fun f=>
  (L8 (b.2.2.2.1,f)).bind fun g=>
  bif (!g.2)then
   some (.inr 4)
  else
   (bif (decide (0<e))then at? b.2.2.2.2.1 (i64.wrap (e-1))else some []).bind fun g=>
   bif ((decide (0<e))&&(Op.bytesLess f g||EM f g))then
    some (.inr 10)
   else
    a (b,c,d,(i64.wrap (e+1)))
 else
  some (.inl b)
def oR:=EL oQ fuel
def MN:JD×H6×Int×E7×(List E1)×Bool×RY->Option (Int):=fun a=>
 (SA a.1).bind fun b=>
 bif (!(E6 b 0))then
  some b
 else
  (VP a.2.1).bind fun b=>
  bif (!(E6 b 0))then
   some b
  else
   bif ((decide (a.2.2.1<1))||(decide (4<a.2.2.1)))then
    some 9
   else
    (VQ a.2.2.2.1).bind fun b=>
    bif (!(E6 b 0))then
     some b
    else
     (oR (a,a.2.2.2.2.1,(a.2.2.2.2.1.length:Int),0)).bind fun a=>
     match a with
     | .inl a=>
      (dX a.2.2.2.2.2.2).bind fun a=>
      some a
     | .inr a=>
      some a
def NH:FZ×E1->Option (Int):=fun(a,b)=>
 (a).bind fun a=>
 (ND (a.2.1,b)).bind fun a=>
 some a
def oS:Rd (E1×JD×JD×Int×Int) JD:=fun a (b,c,d,e,f)=>
 bif (decide (f<e))then
  (at? d f).bind fun g=>
  bif (EM g.1 b)then
   (app? 96 c [g]).bind fun g=>
   a (b,g,d,e,(i64.wrap (f+1)))
  else
   a (b,c,d,e,(i64.wrap (f+1)))
 else
  some c
def oT:=EL oS fuel
def dY:JD×E1->Option JD:=fun(a,b)=>
 (oT (b,[],a,(a.length:Int),0)).bind fun a=>
 some a
def A1A:(List Int)×(List E1)->Option (Bool):=fun a=>
 some (decide (0<(a.2.length:Int)))
def oU:Int×E1×E1×Bool->Option (Bool):=fun a=>
 (strings_IndexByte (a.2.1,126)).bind fun b=>
 (bif (!(decide (0<=b)))then strings_IndexByte (a.2.2.1,126)else some 0).bind fun a=>
 some ((decide (0<=b))||(decide (0<=a)))
def A1B:Int×(List Int)×Int×Int×Int×Int×(List E1)->Option (Bool):=fun a=>
 some ((decide (0<a.2.2.1))||(decide (0<=a.2.2.2.2.2.1)))
def oV:Rd (GZ×(K1->Option Bool)×Int×Int) IE:=fun a (b,c,d,e)=>
 bif (decide (e<d))then
  (at? b e).bind fun f=>
  (c f).bind fun f=>
  bif f then
   some (.inr e)
  else
   a (b,c,d,(i64.wrap (e+1)))
 else
  some (.inl ())
def A1C:=EL oV fuel
def dZ:GZ×(K1->Option Bool)->Option (Int):=fun(a,b)=>
 (A1C (a,b,(a.length:Int),0)).bind fun a=>
 match a with
 | .inl _=>
  some (-1:Int)
 | .inr a=>
  some a
def oW:GZ×(K1->Option Bool)->Option (Bool):=fun(a,b)=>
 (dZ (a,b)).bind fun a=>
 some (decide (0<=a))
def oX:Bool×E1×Int->Option (Bool):=fun a=>
 (S6 a).bind fun a=>
 some a
def oY:List K1->Option (Bool):=fun a=>
 (oW (a,(fun x=>(oX x).bind fun r=>some r))).bind fun a=>
 some a
def A1D:Int->Option (Bool):=fun _=>
 some false
def SF:Int×E1->Option (Bool×Int):=fun(a,b)=>
 (IN (a,b)).bind fun a=>
 bif (!(E6 a.2 0))then
  some (false,a.2)
 else
  ((fun z=>Sum.casesOn (motive:=fun _=>Option Bool) z (fun x=>(A1A x).bind fun r=>some r) (fun z=>Sum.casesOn (motive:=fun _=>Option Bool) z (fun x=>(oU x).bind fun r=>some r) (fun z=>Sum.casesOn (motive:=fun _=>Option Bool) z (fun x=>(A1B x).bind fun r=>some r) (fun z=>Sum.casesOn (motive:=fun _=>Option Bool) z (fun x=>(oY x).bind fun r=>some r) (fun z=>Sum.casesOn (motive:=fun _=>Option Bool) z (fun x=>(A1D x).bind fun r=>some r) (fun _=>none)))))) a.1).bind fun a=>
  some (a,0)
def oZ:Rd (E1×GP×E1×Bool×(List E1)×JD×Int×Int) (List E1):=fun a (b,c,d,e,f,g,h,i)=>
 bif (decide (i<h))then
  (at? g i).bind fun j=>
  (MM b).bind fun k=>
  (SF (k.1,j.2.1)).bind fun k=>
  bif ((e&&(EM j.2.1 d))||((!j.2.2.2)&&(c.2.2.2.2.2.1||(!k.1))))then
   (app? 24 f [j.2.1]).bind fun j=>
   a (b,c,d,e,j,g,h,(i64.wrap (i+1)))
  else
   a (b,c,d,e,f,g,h,(i64.wrap (i+1)))
 else
  some f
def o_:=EL oZ fuel
def VV:GP×E1->Option (List E1):=fun(a,b)=>
 (L8 (a.2.2.2.1,b)).bind fun c=>
 (dY (a.1,b)).bind fun d=>
 (o_ (b,a,c.1,c.2,[],d,(d.length:Int),0)).bind fun a=>
 some a
def A1E:Rd ((List E1)×Int×Int) (List E1):=fun a (b,c,d)=>
 bif (decide (c<d))then
  (in? b.length d).bind fun _=>
  (in? b.length c).bind fun _=>
  (in? b.length c).bind fun _=>
  (in? (b.set c.toNat (b.getD d.toNat [])).length d).bind fun _=>
  a (((b.set c.toNat (b.getD d.toNat [])).set d.toNat (b.getD c.toNat [])),(i64.wrap (c+1)),(i64.wrap (d-1)))
 else
  some b
def pA:=EL A1E fuel
def d_:List E1->Option (List E1):=fun a=>
 (pA (a,0,(i64.wrap ((a.length:Int)-1)))).bind fun a=>
 some a
def VW:Int->Option (Int):=fun a=>
 (shl? u16 1 a).bind fun a=>
 some (u16.wrap (a-1))
def pB:Rd (GP×H6×H6×Int×Int) H6:=fun a (b,c,d,e,f)=>
 bif (decide (f<e))then
  (at? d f).bind fun g=>
  bif (decide (g.2.2<=b.2.2.1))then
   (app? 96 c [g]).bind fun g=>
   a (b,g,d,e,(i64.wrap (f+1)))
  else
   a (b,c,d,e,(i64.wrap (f+1)))
 else
  some c
def pC:=EL pB fuel
def PL:GP×H6->Option H6:=fun(a,b)=>
 (pC (a,[],b,(b.length:Int),0)).bind fun a=>
 some a
def pD:Rd (GP×(E1×E1)×JD×Int×Int) (Sum (Unit) H6):=fun a (b,c,d,e,f)=>
 bif (decide (f<e))then
  (at? d f).bind fun g=>
  bif ((EM g.1 c.1)&&(EM g.2.1 c.2))then
   (PL (b,g.2.2.1)).bind fun g=>
   some (.inr g)
  else
   a (b,c,d,e,(i64.wrap (f+1)))
 else
  some (.inl ())
def pE:=EL pD fuel
def SG:GP×(E1×E1)->Option H6:=fun(a,b)=>
 (pE (a,b,a.1,(a.1.length:Int),0)).bind fun a=>
 match a with
 | .inl _=>
  some []
 | .inr a=>
  some a
def e7:FS×(Option K2)->Option (Bool):=fun(a,b)=>
 (b).bind fun c=>
 (L7 (a.1,c)).bind fun c=>
 (bif (decide (c<=0))then b else some (0,([],(false,[])))).bind fun b=>
 (bif (decide (c<=0))then L7 (b,a.2)else some 0).bind fun a=>
 some ((decide (c<=0))&&(decide (a<0)))
def A1F:Rd ((List FS)×(FS->Option Bool)×Int×Int) IE:=fun a (b,c,d,e)=>
 bif (decide (e<d))then
  (at? b e).bind fun f=>
  (c f).bind fun f=>
  bif f then
   some (.inr e)
  else
   a (b,c,d,(i64.wrap (e+1)))
 else
  some (.inl ())
def A1G:=EL A1F fuel
def pF:(List FS)×(FS->Option Bool)->Option (Int):=fun(a,b)=>
 (A1G (a,b,(a.length:Int),0)).bind fun a=>
 match a with
 | .inl _=>
  some (-1:Int)
 | .inr a=>
  some a
def SH:(List FS)×E1->Option (Int):=fun(a,b)=>
 (pF (a,(fun x=>(e7 (x,(some (0,(b,(false,[])))))).bind fun r=>some r))).bind fun a=>
 some a
def PM:(Int×FN)×E1->Option (Bool×Int):=fun(a,b)=>
 (S7 a).bind fun c=>
 bif (!(E6 c.2 0))then
  some (false,c.2)
 else
  (IN (a.1,b)).bind fun a=>
  bif (!(E6 a.2 0))then
   some (false,a.2)
  else
   ((fun z=>Sum.casesOn (motive:=fun _=>Option E1) z (fun x=>(LY x).bind fun r=>some r) (fun z=>Sum.casesOn (motive:=fun _=>Option E1) z (fun x=>(LZ x).bind fun r=>some r) (fun z=>Sum.casesOn (motive:=fun _=>Option E1) z (fun x=>(L_ x).bind fun r=>some r) (fun z=>Sum.casesOn (motive:=fun _=>Option E1) z (fun x=>(M0 x).bind fun r=>some r) (fun z=>Sum.casesOn (motive:=fun _=>Option E1) z (fun x=>(M1 x).bind fun r=>some r) (fun _=>none)))))) a.1).bind fun a=>
   (SH (c.1,a)).bind fun a=>
   some ((decide (0<=a)),0)
def pG:Rd ((Int×FN)×Int×(List E1)×Int×Int) (Int):=fun a (b,c,d,e,f)=>
 bif (decide (f<e))then
  (at? d f).bind fun g=>
  (PM (b,g)).bind fun g=>
  bif g.1 then
   (shl? u16 1 (i64.wrap (f+1))).bind fun g=>
   a (b,(HK u16 c g),d,e,(i64.wrap (f+1)))
  else
   a (b,c,d,e,(i64.wrap (f+1)))
 else
  some c
def A1H:=EL pG fuel
def VX:FZ×Int×(Int×FN)->Option (Int):=fun(a,b,c)=>
 (a).bind fun a=>
 (at? a.2.2.1 b).bind fun a=>
 (A1H (c,0,a,(a.length:Int),0)).bind fun a=>
 some a
def e9:Rd (H4×Int×Int×Int×Int×Int×Int) H4:=fun a (b,c,d,e,f,g,h)=>
 bif (decide (h<g))then
  (L6 (f,h)).bind fun i=>
  bif (!i)then
   (in? b.2.2.2.2.1.length e).bind fun _=>
   (in? (b.2.2.2.2.1.getD e.toNat []).length h).bind fun _=>
   let i:=((b.2.2.2.2.1.getD e.toNat []).getD h.toNat [])
   (in? i.length c).bind fun _=>
   (shl? u16 1 d).bind fun j=>
   (in? i.length c).bind fun _=>
   a ((b.1,(b.2.1,(b.2.2.1,(b.2.2.2.1,((b.2.2.2.2.1.set e.toNat ((b.2.2.2.2.1.getD e.toNat []).set h.toNat (i.set c.toNat (N1 u16 (i.getD c.toNat 0) j)))),(b.2.2.2.2.2.1,b.2.2.2.2.2.2)))))),c,d,e,f,g,(i64.wrap (h+1)))
  else
   a ((b.1,(b.2.1,(b.2.2.1,(b.2.2.2.1,(b.2.2.2.2.1,(b.2.2.2.2.2.1,b.2.2.2.2.2.2)))))),c,d,e,f,g,(i64.wrap (h+1)))
 else
  some (b.1,(b.2.1,(b.2.2.1,(b.2.2.2.1,(b.2.2.2.2.1,(b.2.2.2.2.2.1,b.2.2.2.2.2.2))))))
def pH:=EL e9 fuel
def eA:H4×Int×Int×P6->Option H4:=fun(a,b,c,d)=>
 (NH ((some (a.1,(a.2.1,(a.2.2.1,(a.2.2.2.1,(a.2.2.2.2.1,(a.2.2.2.2.2.1,a.2.2.2.2.2.2))))))),d.1)).bind fun e=>
 bif (decide (e<0))then
  (in? a.2.2.2.2.2.1.length b).bind fun _=>
  (shl? u16 1 c).bind fun f=>
  (in? a.2.2.2.2.2.1.length b).bind fun _=>
  some (a.1,(a.2.1,(a.2.2.1,(a.2.2.2.1,(a.2.2.2.2.1,((a.2.2.2.2.2.1.set b.toNat (N1 u16 (a.2.2.2.2.2.1.getD b.toNat 0) f)),a.2.2.2.2.2.2))))))
 else
  (in? a.2.2.2.1.length b).bind fun _=>
  (in? (a.2.2.2.1.getD b.toNat []).length c).bind fun _=>
  (shl? u16 1 e).bind fun f=>
  (in? (a.2.2.2.1.getD b.toNat []).length c).bind fun _=>
  let g:=((a.2.2.2.1.getD b.toNat []).set c.toNat (HK u16 ((a.2.2.2.1.getD b.toNat []).getD c.toNat 0) f))
  (VX ((some (a.1,(a.2.1,(a.2.2.1,((a.2.2.2.1.set b.toNat g),(a.2.2.2.2.1,(a.2.2.2.2.2.1,a.2.2.2.2.2.2))))))),e,d.2.1)).bind fun d=>
  (in? a.2.2.2.2.1.length b).bind fun _=>
  (in? (a.2.2.2.2.1.getD b.toNat []).length c).bind fun _=>
  let f:=((a.2.2.2.2.1.getD b.toNat []).getD c.toNat [])
  (in? f.length e).bind fun _=>
  (in? f.length e).bind fun _=>
  let h:=((a.2.2.2.2.1.getD b.toNat []).set c.toNat (f.set e.toNat (IH u16 (f.getD e.toNat 0) d)))
  (in? (a.2.2.2.2.1.set b.toNat h).length e).bind fun _=>
  (pH ((a.1,(a.2.1,(a.2.2.1,((a.2.2.2.1.set b.toNat g),((a.2.2.2.2.1.set b.toNat h),(a.2.2.2.2.2.1,a.2.2.2.2.2.2)))))),b,c,e,d,(((a.2.2.2.2.1.set b.toNat h).getD e.toNat []).length:Int),0)).bind fun a=>
  some (a.1,(a.2.1,(a.2.2.1,(a.2.2.2.1,(a.2.2.2.2.1,(a.2.2.2.2.2.1,a.2.2.2.2.2.2))))))
def pI:Rd (H4×Int×Int×Int×Int) H4:=fun a (b,c,d,e,f)=>
 bif (decide (f<e))then
  (in? b.2.2.2.2.1.length c).bind fun _=>
  (in? (b.2.2.2.2.1.getD c.toNat []).length d).bind fun _=>
  let g:=((b.2.2.2.2.1.getD c.toNat []).getD d.toNat [])
  (at? b.2.2.1 f).bind fun h=>
  (VW (i64.wrap ((h.length:Int)+1))).bind fun h=>
  (in? g.length f).bind fun _=>
  a ((b.1,(b.2.1,(b.2.2.1,(b.2.2.2.1,((b.2.2.2.2.1.set c.toNat ((b.2.2.2.2.1.getD c.toNat []).set d.toNat (g.set f.toNat h))),(b.2.2.2.2.2.1,b.2.2.2.2.2.2)))))),c,d,e,(i64.wrap (f+1)))
 else
  some (b.1,(b.2.1,(b.2.2.1,(b.2.2.2.1,(b.2.2.2.2.1,(b.2.2.2.2.2.1,b.2.2.2.2.2.2))))))
def pJ:=EL pI fuel
def pK:Rd (H4×Int×Int×Int×Int) H4:=fun a (b,c,d,e,f)=>
 bif (decide (f<e))then
  (in? b.2.2.2.2.1.length d).bind fun _=>
  (mks? 24 c c 0).bind fun g=>
  (in? (b.2.2.2.2.1.getD d.toNat []).length f).bind fun _=>
  (pJ ((b.1,(b.2.1,(b.2.2.1,(b.2.2.2.1,((b.2.2.2.2.1.set d.toNat ((b.2.2.2.2.1.getD d.toNat []).set f.toNat g)),(b.2.2.2.2.2.1,b.2.2.2.2.2.2)))))),d,f,c,0)).bind fun g=>
  a ((g.1,(g.2.1,(g.2.2.1,(g.2.2.2.1,(g.2.2.2.2.1,(g.2.2.2.2.2.1,g.2.2.2.2.2.2)))))),c,d,e,(i64.wrap (f+1)))
 else
  some (b.1,(b.2.1,(b.2.2.1,(b.2.2.2.1,(b.2.2.2.2.1,(b.2.2.2.2.2.1,b.2.2.2.2.2.2))))))
def pL:=EL pK fuel
def pM:Rd (H4×Int×Int×Int) H4:=fun a (b,c,d,e)=>
 bif (decide (e<d))then
  (at? b.2.2.1 e).bind fun f=>
  (mks? 24 (i64.wrap ((f.length:Int)+1)) (i64.wrap ((f.length:Int)+1)) 0).bind fun g=>
  (app? 24 b.2.2.2.1 [g]).bind fun g=>
  (mks? 24 (i64.wrap ((f.length:Int)+1)) (i64.wrap ((f.length:Int)+1)) []).bind fun h=>
  (app? 24 b.2.2.2.2.1 [h]).bind fun h=>
  (pL ((b.1,(b.2.1,(b.2.2.1,(g,(h,(b.2.2.2.2.2.1,b.2.2.2.2.2.2)))))),c,e,(i64.wrap ((f.length:Int)+1)),0)).bind fun f=>
  a ((f.1,(f.2.1,(f.2.2.1,(f.2.2.2.1,(f.2.2.2.2.1,(f.2.2.2.2.2.1,f.2.2.2.2.2.2)))))),c,d,(i64.wrap (e+1)))
 else
  some (b.1,(b.2.1,(b.2.2.1,(b.2.2.2.1,(b.2.2.2.2.1,(b.2.2.2.2.2.1,b.2.2.2.2.2.2))))))
def pN:=EL pM fuel
def pO:Rd (H4×Int×Int×H6×Int×Int) H4:=fun a (b,c,d,e,f,g)=>
 bif (decide (g<f))then
  (at? e g).bind fun h=>
  (eA ((b.1,(b.2.1,(b.2.2.1,(b.2.2.2.1,(b.2.2.2.2.1,(b.2.2.2.2.2.1,b.2.2.2.2.2.2)))))),c,(i64.wrap (d+1)),h)).bind fun h=>
  a ((h.1,(h.2.1,(h.2.2.1,(h.2.2.2.1,(h.2.2.2.2.1,(h.2.2.2.2.2.1,h.2.2.2.2.2.2)))))),c,d,e,f,(i64.wrap (g+1)))
 else
  some (b.1,(b.2.1,(b.2.2.1,(b.2.2.2.1,(b.2.2.2.2.1,(b.2.2.2.2.2.1,b.2.2.2.2.2.2))))))
def pP:=EL pO fuel
def pQ:Rd (H4×Int×(List E1)×Int×Int) H4:=fun a (b,c,d,e,f)=>
 bif (decide (f<e))then
  (at? d f).bind fun g=>
  (at? b.2.1 c).bind fun h=>
  (SG (b.1,(h,g))).bind fun g=>
  (pP ((b.1,(b.2.1,(b.2.2.1,(b.2.2.2.1,(b.2.2.2.2.1,(b.2.2.2.2.2.1,b.2.2.2.2.2.2)))))),c,f,g,(g.length:Int),0)).bind fun g=>
  a ((g.1,(g.2.1,(g.2.2.1,(g.2.2.2.1,(g.2.2.2.2.1,(g.2.2.2.2.2.1,g.2.2.2.2.2.2)))))),c,d,e,(i64.wrap (f+1)))
 else
  some (b.1,(b.2.1,(b.2.2.1,(b.2.2.2.1,(b.2.2.2.2.1,(b.2.2.2.2.2.1,b.2.2.2.2.2.2))))))
def pR:=EL pQ fuel
def pS:Rd (H4×Int×Int) H4:=fun a (b,c,d)=>
 bif (decide (d<c))then
  (at? b.2.2.1 d).bind fun e=>
  (pR ((b.1,(b.2.1,(b.2.2.1,(b.2.2.2.1,(b.2.2.2.2.1,(b.2.2.2.2.2.1,b.2.2.2.2.2.2)))))),d,e,(e.length:Int),0)).bind fun e=>
  a ((e.1,(e.2.1,(e.2.2.1,(e.2.2.2.1,(e.2.2.2.2.1,(e.2.2.2.2.2.1,e.2.2.2.2.2.2)))))),c,(i64.wrap (d+1)))
 else
  some (b.1,(b.2.1,(b.2.2.1,(b.2.2.2.1,(b.2.2.2.2.1,(b.2.2.2.2.2.1,b.2.2.2.2.2.2))))))
def pT:=EL pS fuel
def eB:GP×((List E1)×((List (List E1))×((List (List Int))×((List (List (List Int)))×((List Int)×Int)))))->Option H4:=fun a=>
 (pN ((a.1,(a.2.1,(a.2.2.1,(a.2.2.2.1,(a.2.2.2.2.1,(a.2.2.2.2.2.1,a.2.2.2.2.2.2)))))),(a.2.1.length:Int),(a.2.1.length:Int),0)).bind fun b=>
 (pT ((b.1,(b.2.1,(b.2.2.1,(b.2.2.2.1,(b.2.2.2.2.1,(b.2.2.2.2.2.1,b.2.2.2.2.2.2)))))),(a.2.1.length:Int),0)).bind fun a=>
 some (a.1,(a.2.1,(a.2.2.1,(a.2.2.2.1,(a.2.2.2.2.1,(a.2.2.2.2.2.1,a.2.2.2.2.2.2))))))
def pU:Rd (H4×H6×Int×Int) (Sum H4 (H4×Bool)):=fun a (b,c,d,e)=>
 bif (decide (e<d))then
  (at? c e).bind fun f=>
  (NH ((some (b.1,(b.2.1,(b.2.2.1,(b.2.2.2.1,(b.2.2.2.2.1,(b.2.2.2.2.2.1,b.2.2.2.2.2.2))))))),f.1)).bind fun g=>
  bif (decide (g<0))then
   some (.inr ((b.1,(b.2.1,(b.2.2.1,(b.2.2.2.1,(b.2.2.2.2.1,(b.2.2.2.2.2.1,b.2.2.2.2.2.2)))))),false))
  else
   (in? b.2.2.2.2.2.1.length g).bind fun _=>
   (VX ((some (b.1,(b.2.1,(b.2.2.1,(b.2.2.2.1,(b.2.2.2.2.1,(b.2.2.2.2.2.1,b.2.2.2.2.2.2))))))),g,f.2.1)).bind fun f=>
   (in? b.2.2.2.2.2.1.length g).bind fun _=>
   (shl? u16 1 g).bind fun h=>
   a ((b.1,(b.2.1,(b.2.2.1,(b.2.2.2.1,(b.2.2.2.2.1,((b.2.2.2.2.2.1.set g.toNat (IH u16 (b.2.2.2.2.2.1.getD g.toNat 0) f)),(HK u16 b.2.2.2.2.2.2 h))))))),c,d,(i64.wrap (e+1)))
 else
  some (.inl (b.1,(b.2.1,(b.2.2.1,(b.2.2.2.1,(b.2.2.2.2.1,(b.2.2.2.2.2.1,b.2.2.2.2.2.2)))))))
def pV:=EL pU fuel
def eC:Int×Int×Bool->Option (Int):=fun(a,b,c)=>
 bif c then
  (shl? u16 1 (i64.wrap (b+1))).bind fun b=>
  some b
 else
  some a
def pW:Rd (H4×(List E1)×Int×Int) (Sum H4 (H4×Bool)):=fun a (b,c,d,e)=>
 bif (decide (e<d))then
  (at? c e).bind fun f=>
  (NH ((some (b.1,(b.2.1,(b.2.2.1,(b.2.2.2.1,(b.2.2.2.2.1,(b.2.2.2.2.2.1,b.2.2.2.2.2.2))))))),f)).bind fun g=>
  bif (decide (g<0))then
   some (.inr ((b.1,(b.2.1,(b.2.2.1,(b.2.2.2.1,(b.2.2.2.2.1,(b.2.2.2.2.2.1,b.2.2.2.2.2.2)))))),false))
  else
   (L8 (b.1.2.2.2.1,f)).bind fun f=>
   (at? b.2.2.1 g).bind fun h=>
   (ND (h,f.1)).bind fun f=>
   (eC (0,f,(decide (0<=f)))).bind fun f=>
   (in? b.2.2.2.2.2.1.length g).bind fun _=>
   (in? b.2.2.2.2.2.1.length g).bind fun _=>
   (shl? u16 1 g).bind fun h=>
   a ((b.1,(b.2.1,(b.2.2.1,(b.2.2.2.1,(b.2.2.2.2.1,((b.2.2.2.2.2.1.set g.toNat (IH u16 (b.2.2.2.2.2.1.getD g.toNat 0) f)),(HK u16 b.2.2.2.2.2.2 h))))))),c,d,(i64.wrap (e+1)))
 else
  some (.inl (b.1,(b.2.1,(b.2.2.1,(b.2.2.2.1,(b.2.2.2.2.1,(b.2.2.2.2.2.1,b.2.2.2.2.2.2)))))))
def pX:=EL pW fuel
def pY:GP×((List E1)×((List (List E1))×((List (List Int))×((List (List (List Int)))×((List Int)×Int)))))->Option (Bool×H4):=fun a=>
 (PL (a.1,a.1.2.1)).bind fun b=>
 (pV ((a.1,(a.2.1,(a.2.2.1,(a.2.2.2.1,(a.2.2.2.2.1,(a.2.2.2.2.2.1,a.2.2.2.2.2.2)))))),b,(b.length:Int),0)).bind fun a=>
 match a with
 | .inl a=>
  (pX ((a.1,(a.2.1,(a.2.2.1,(a.2.2.2.1,(a.2.2.2.2.1,(a.2.2.2.2.2.1,a.2.2.2.2.2.2)))))),a.1.2.2.2.2.1,(a.1.2.2.2.2.1.length:Int),0)).bind fun a=>
  match a with
  | .inl a=>
   some (true,(a.1,(a.2.1,(a.2.2.1,(a.2.2.2.1,(a.2.2.2.2.1,(a.2.2.2.2.2.1,a.2.2.2.2.2.2)))))))
  | .inr a=>
   some (a.2,(a.1.1,(a.1.2.1,(a.1.2.2.1,(a.1.2.2.2.1,(a.1.2.2.2.2.1,(a.1.2.2.2.2.2.1,a.1.2.2.2.2.2.2)))))))
 | .inr a=>
  some (a.2,(a.1.1,(a.1.2.1,(a.1.2.2.1,(a.1.2.2.2.1,(a.1.2.2.2.2.1,(a.1.2.2.2.2.2.1,a.1.2.2.2.2.2.2)))))))
def pZ:Rd (H4×JD×Int×Int) H4:=fun a (b,c,d,e)=>
 bif (decide (e<d))then
  (at? c e).bind fun f=>
  (NH ((some (b.1,(b.2.1,(b.2.2.1,(b.2.2.2.1,(b.2.2.2.2.1,(b.2.2.2.2.2.1,b.2.2.2.2.2.2))))))),f.1)).bind fun g=>
  bif (decide (g<0))then
   (app? 24 b.2.1 [f.1]).bind fun f=>
   a ((b.1,(f,(b.2.2.1,(b.2.2.2.1,(b.2.2.2.2.1,(b.2.2.2.2.2.1,b.2.2.2.2.2.2)))))),c,d,(i64.wrap (e+1)))
  else
   a ((b.1,(b.2.1,(b.2.2.1,(b.2.2.2.1,(b.2.2.2.2.1,(b.2.2.2.2.2.1,b.2.2.2.2.2.2)))))),c,d,(i64.wrap (e+1)))
 else
  some (b.1,(b.2.1,(b.2.2.1,(b.2.2.2.1,(b.2.2.2.2.1,(b.2.2.2.2.2.1,b.2.2.2.2.2.2))))))
def p_:=EL pZ fuel
def qA:Rd (GP×H4×(List E1)×Int×Int) H4:=fun a (b,c,d,e,f)=>
 bif (decide (f<e))then
  (at? d f).bind fun g=>
  (VV (b,g)).bind fun g=>
  (d_ g).bind fun g=>
  (app? 24 c.2.2.1 [g]).bind fun h=>
  (VW (i64.wrap ((g.length:Int)+1))).bind fun g=>
  (app? 24 c.2.2.2.2.2.1 [g]).bind fun g=>
  a (b,(c.1,(c.2.1,(h,(c.2.2.2.1,(c.2.2.2.2.1,(g,c.2.2.2.2.2.2)))))),d,e,(i64.wrap (f+1)))
 else
  some (c.1,(c.2.1,(c.2.2.1,(c.2.2.2.1,(c.2.2.2.2.1,(c.2.2.2.2.2.1,c.2.2.2.2.2.2))))))
def qB:=EL qA fuel
def VY:JD×H6×Int×E7×(List E1)×Bool×RY->Option (FZ×Bool):=fun a=>
 (p_ ((a,([],([],([],([],([],0)))))),a.1,(a.1.length:Int),0)).bind fun b=>
 (qB (a,(b.1,(b.2.1,(b.2.2.1,(b.2.2.2.1,(b.2.2.2.2.1,(b.2.2.2.2.2.1,b.2.2.2.2.2.2)))))),b.2.1,(b.2.1.length:Int),0)).bind fun a=>
 (eB (a.1,(a.2.1,(a.2.2.1,(a.2.2.2.1,(a.2.2.2.2.1,(a.2.2.2.2.2.1,a.2.2.2.2.2.2))))))).bind fun a=>
 (pY (a.1,(a.2.1,(a.2.2.1,(a.2.2.2.1,(a.2.2.2.2.1,(a.2.2.2.2.2.1,a.2.2.2.2.2.2))))))).bind fun a=>
 some ((some (a.2.1,(a.2.2.1,(a.2.2.2.1,(a.2.2.2.2.1,(a.2.2.2.2.2.1,(a.2.2.2.2.2.2.1,a.2.2.2.2.2.2.2))))))),a.1)
def ABg:Unit->Option (List Int):=fun _=>
 some []
def qC:List Int->Option (List Int):=fun a=>
 (app? 24 [] a).bind fun a=>
 some a
def qD:List Int->Option (List Int):=qC
def qE:Rd (FZ×(List Int)×Int×Bool×Int×Int×Int) (Int×Bool):=fun a (b,c,d,e,f,g,h)=>
 bif (decide (h<g))then
  (at? c f).bind fun i=>
  (L6 (i,h)).bind fun i=>
  (bif i then b else some (([],([],(0,([],([],(false,(0,([],[])))))))),([],([],([],([],([],0))))))).bind fun j=>
  (bif i then at? j.2.2.2.1 f else some []).bind fun j=>
  (bif i then at? j h else some 0).bind fun j=>
  bif (i&&(!(E6 (HK u16 d j) d)))then
   (b).bind fun i=>
   (at? i.2.2.2.1 f).bind fun i=>
   (at? i h).bind fun i=>
   a (b,c,(HK u16 d i),true,f,g,(i64.wrap (h+1)))
  else
   a (b,c,d,e,f,g,(i64.wrap (h+1)))
 else
  some (d,e)
def qF:=EL qE fuel
def qG:Rd (FZ×(List Int)×Int×Bool×Int×Int) (Int×Bool):=fun a (b,c,d,e,f,g)=>
 bif (decide (g<f))then
  (L6 (d,g)).bind fun h=>
  bif (!h)then
   a (b,c,d,e,f,(i64.wrap (g+1)))
  else
   (b).bind fun h=>
   (at? h.2.2.2.1 g).bind fun h=>
   (qF (b,c,d,e,g,(h.length:Int),0)).bind fun h=>
   a (b,c,h.1,h.2,f,(i64.wrap (g+1)))
 else
  some (d,e)
def qH:=EL qG fuel
def A1I:Rd (FZ×(List Int)×Int×Bool) (Int):=fun a (b,c,d,e)=>
 bif e then
  (b).bind fun e=>
  (qH (b,c,d,false,(e.2.1.length:Int),0)).bind fun e=>
  a (b,c,e.1,e.2)
 else
  some d
def A1J:=EL A1I fuel
def eD:FZ×(List Int)->Option (Int):=fun(a,b)=>
 (a).bind fun c=>
 (A1J (a,b,c.2.2.2.2.2.2,true)).bind fun a=>
 some a
def qI:Rd (Int×(List Int)×Int×Int) N9:=fun a (b,c,d,e)=>
 bif (decide (e<d))then
  (at? c e).bind fun f=>
  (L6 (f,0)).bind fun f=>
  (bif (!f)then L6 (b,e)else some false).bind fun g=>
  bif ((!f)&&(!g))then
   some (.inr false)
  else
   a (b,c,d,(i64.wrap (e+1)))
 else
  some (.inl ())
def qJ:=EL qI fuel
def SI:FZ×(List Int)->Option (Bool):=fun(a,b)=>
 (eD (a,b)).bind fun a=>
 (qJ (a,b,(b.length:Int),0)).bind fun a=>
 match a with
 | .inl _=>
  some true
 | .inr a=>
  some a
def qK:Rd (FZ×Int×Int×(List Int)×Int×Int) (Sum (List Int) ((List Int)×Bool)):=fun a (b,c,d,e,f,g)=>
 bif (decide (g<f))then
  bif (E6 g c)then
   a (b,c,d,e,f,(i64.wrap (g+1)))
  else
   (in? e.length g).bind fun _=>
   (b).bind fun h=>
   (at? h.2.2.2.2.1 c).bind fun h=>
   (at? h d).bind fun h=>
   (at? h g).bind fun h=>
   (in? e.length g).bind fun _=>
   let i:=(e.set g.toNat (IH u16 (e.getD g.toNat 0) h))
   (in? i.length g).bind fun _=>
   bif (E6 (i.getD g.toNat 0) 0)then
    some (.inr ([],false))
   else
    a (b,c,d,i,f,(i64.wrap (g+1)))
 else
  some (.inl e)
def qL:=EL qK fuel
def SJ:FZ×(List Int)×Int×Int->Option ((List Int)×Bool):=fun(a,b,c,d)=>
 (qD b).bind fun b=>
 (shl? u16 1 d).bind fun e=>
 (in? b.length c).bind fun _=>
 (qL (a,c,d,(b.set c.toNat e),((b.set c.toNat e).length:Int),0)).bind fun b=>
 match b with
 | .inl b=>
  (SI (a,b)).bind fun a=>
  some (b,a)
 | .inr a=>
  some (a.1,a.2)
def qM(slf:Int×(List Int)×Unit×FZ×Unit×Unit×(List E7)×FZ×Int->Option (Bool×(List E7)))(a:Int×(List Int)×FZ×Int×Int×(List E7)×FZ×Int->Option lF):Int×(List Int)×FZ×Int×Int×(List E7)×FZ×Int->Option lF:=fun(b,c,d,e,f,g,h,i)=>
 bif (decide (f<e))then
  (at? c b).bind fun j=>
  (L6 (j,f)).bind fun j=>
  bif (!j)then
   a (b,c,d,e,(i64.wrap (f+1)),g,h,i)
  else
   (SJ (d,c,b,f)).bind fun j=>
   (bif j.2 then slf ((i64.wrap (b+1)),j.1,(),d,(),(),g,h,i)else some (false,[])).bind fun k=>
   bif j.2 then
    bif (j.2&&(!k.1))then
     some (.inr (false,k.2,h,i))
    else
     a (b,c,d,e,(i64.wrap (f+1)),k.2,h,i)
   else
    bif (j.2&&(!k.1))then
     some (.inr (false,g,h,i))
    else
     a (b,c,d,e,(i64.wrap (f+1)),g,h,i)
 else
  some (.inl (g,h,i))
def qN(slf:Int×(List Int)×Unit×FZ×Unit×Unit×(List E7)×FZ×Int->Option (Bool×(List E7))):Int×(List Int)×FZ×Int×Int×(List E7)×FZ×Int->Option lF:=EL (qM slf) fuel
def VZ(slf:Int×(List Int)×Unit×FZ×Unit×Unit×(List E7)×FZ×Int->Option (Bool×(List E7))):Int×(List Int)×Unit×FZ×Unit×Unit×(List E7)×FZ×Int->Option (Bool×(List E7)):=fun(a,b,_,c,_,_,d,e,f)=>
 (ZW b).bind fun g=>
 bif (!g)then
  some (true,d)
 else
  (c).bind fun g=>
  bif (E6 a (g.2.1.length:Int))then
   (lJ (b,d,e,f)).bind fun g=>
   some (g.1,g.2)
  else
   (c).bind fun g=>
   (at? g.2.2.2.1 a).bind fun g=>
   ((qN slf) (a,b,c,(g.length:Int),0,d,e,f)).bind fun a=>
   match a with
   | .inl a=>
    some (true,a.1)
   | .inr a=>
    some (a.1,a.2.1)
def OB:Nat->Int×(List Int)×Unit×FZ×Unit×Unit×(List E7)×FZ×Int->Option (Bool×(List E7))
 |0=>fun _=>none
 |n+1=>VZ (OB n)
def qO:Int×(List Int)×Unit×FZ×Unit×Unit×(List E7)×FZ×Int->Option (Bool×(List E7)):=OB 100
def qP:Rd ((List Int)×Int×Int×Int) IE:=fun a (b,c,d,e)=>
 bif (decide (e<d))then
  (at? b e).bind fun f=>
  bif (E6 c f)then
   some (.inr e)
  else
   a (b,c,d,(i64.wrap (e+1)))
 else
  some (.inl ())
def qQ:=EL qP fuel
def qR:(List Int)×Int->Option (Int):=fun(a,b)=>
 (qQ (a,b,(a.length:Int),0)).bind fun a=>
 match a with
 | .inl _=>
  some (-1:Int)
 | .inr a=>
  some a
def V_:(List Int)×Int->Option (Bool):=fun(a,b)=>
 (qR (a,b)).bind fun a=>
 some (decide (0<=a))
def W0:FZ×Unit×Unit×(List E7)×FZ×Int->Option (List E7):=fun(a,_,_,b,c,d)=>
 (a).bind fun e=>
 (V_ (e.2.2.2.2.2.1,0)).bind fun e=>
 (bif (!e)then a else some (([],([],(0,([],([],(false,(0,([],[])))))))),([],([],([],([],([],0))))))).bind fun f=>
 (bif (!e)then SI (a,f.2.2.2.2.2.1)else some false).bind fun f=>
 bif ((!e)&&f)then
  (a).bind fun e=>
  (qO (0,e.2.2.2.2.2.1,(),a,(),(),b,c,d)).bind fun a=>
  some a.2
 else
  some b
def OC:GP×Int->Option (List E7):=fun(a,b)=>
 (VY a).bind fun a=>
 bif ((!a.2)||(E6 b 0))then
  some []
 else
  (W0 (a.1,(),(),[],a.1,b)).bind fun a=>
  some a
def WA:GP×Int->Option ((List E7)×Int):=fun(a,b)=>
 (MN a).bind fun c=>
 bif (!(E6 c 0))then
  some ([],c)
 else
  bif ((decide (b<0))||(decide (1000<b)))then
   some ([],9)
  else
   (OC (a,b)).bind fun a=>
   some (a,0)
def A1K:JD×H6×Int×E7×(List E1)×Bool×RY->Option (E7×Bool×Int):=fun a=>
 (MN a).bind fun b=>
 bif (!(E6 b 0))then
  some ([],false,b)
 else
  (OC (a,1)).bind fun a=>
  bif (E6 (a.length:Int) 0)then
   some ([],false,0)
  else
   (at? a 0).bind fun a=>
   some (a,true,0)
def WB:Unit->Option (Bool):=fun _=>
 (A1K ([([112,107,103,58,112,108,97,105,110,47,97],([49],([],false))),([112,107,103,58,112,108,97,105,110,47,97],([50],([],false)))],([([112,107,103,58,112,108,97,105,110,47,97],((5,[((true,(true,[48])),(false,(false,[])))]),1))],(1,([],([],(false,(0,([],[]))))))))).bind fun a=>
 let b:=((a.2.1&&(E6 a.2.2 0))&&(E6 (a.1.length:Int) 1))
 (bif b then at? a.1 0 else some ([],[])).bind fun a=>
 some (b&&(EM a.2 [50]))
def WC:GP×E7->Option (Int):=fun(a,b)=>
 (MN a).bind fun a=>
 bif (!(E6 a 0))then
  some a
 else
  (VQ b).bind fun a=>
  some a
def qS:Rd (E7×E1×LX×H6×Int×Int) LX:=fun a (b,c,d,e,f,g)=>
 bif (decide (g<f))then
  (at? e g).bind fun h=>
  (L8 (b,h.1)).bind fun i=>
  (PM (h.2.1,i.1)).bind fun j=>
  bif (!i.2)then
   (app? 72 d [(1,(h.1,c))]).bind fun i=>
   a (b,c,i,e,f,(i64.wrap (g+1)))
  else
   bif (!j.1)then
    (app? 72 d [(2,(h.1,c))]).bind fun h=>
    a (b,c,h,e,f,(i64.wrap (g+1)))
   else
    a (b,c,d,e,f,(i64.wrap (g+1)))
 else
  some d
def A1L:=EL qS fuel
def WD:E7×H6×E1->Option LX:=fun(a,b,c)=>
 (A1L (a,c,[],b,(b.length:Int),0)).bind fun a=>
 some a
def ABh:Unit->Option (List E1):=fun _=>
 some []
def qT:List E1->Option (List E1):=fun a=>
 (app? 24 [] a).bind fun a=>
 some a
def eE:List E1->Option (List E1):=qT
def qU:Rd ((List E1)×H6×Int×Int) (List E1):=fun a (b,c,d,e)=>
 bif (decide (e<d))then
  (at? c e).bind fun f=>
  (app? 24 b [f.1]).bind fun f=>
  a (f,c,d,(i64.wrap (e+1)))
 else
  some b
def qV:=EL qU fuel
def qW:Rd ((List E1)×H6×Int×Int) (List E1):=fun a (b,c,d,e)=>
 bif (decide (e<d))then
  (at? c e).bind fun f=>
  (app? 24 b [f.1]).bind fun f=>
  a (f,c,d,(i64.wrap (e+1)))
 else
  some b
def qX:=EL qW fuel
def A1M:Rd (E7×GP×(List (E1×Bool))×(List E1)) (List (E1×Bool)):=fun a (b,c,d,e)=>
 bif (decide (0<(e.length:Int)))then
  (in? e.length 0).bind fun _=>
  (cut? e 1 (e.length:Int)).bind fun f=>
  (L8 (b,(e.getD 0 []))).bind fun g=>
  bif ((!g.2)||((HT EM (e.getD 0 []) d).getD false))then
   a (b,c,d,f)
  else
   (SG (c,((e.getD 0 []),g.1))).bind fun g=>
   (qX (f,g,(g.length:Int),0)).bind fun f=>
   a (b,c,(GU EM (e.getD 0 []) true d),f)
 else
  some d
def A1N:=EL A1M fuel
def eF:GP×E7->Option (List (E1×Bool)):=fun(a,b)=>
 (eE a.2.2.2.2.1).bind fun c=>
 (PL (a,a.2.1)).bind fun d=>
 (qV (c,d,(d.length:Int),0)).bind fun c=>
 (A1N (b,a,[],c)).bind fun a=>
 some a
def qY:Rd (E7×GP×LX×E7×Int×Int) (GP×LX):=fun a (b,c,d,e,f,g)=>
 bif (decide (g<f))then
  (at? e g).bind fun h=>
  (VV (c,h.1)).bind fun i=>
  (PG (i,h.2)).bind fun i=>
  bif (!i)then
   (app? 72 d [(3,(h.1,[]))]).bind fun i=>
   a (b,c,i,e,f,(i64.wrap (g+1)))
  else
   (SG (c,h)).bind fun i=>
   (WD (b,i,h.1)).bind fun h=>
   (app? 72 d h).bind fun h=>
   a (b,c,h,e,f,(i64.wrap (g+1)))
 else
  some (c,d)
def qZ:=EL qY fuel
def q_:Rd (LX×(List (E1×Bool))×E7×Int×Int) LX:=fun a (b,c,d,e,f)=>
 bif (decide (f<e))then
  (at? d f).bind fun g=>
  bif (!((HT EM g.1 c).getD false))then
   (app? 72 b [(4,(g.1,[]))]).bind fun g=>
   a (g,c,d,e,(i64.wrap (f+1)))
  else
   a (b,c,d,e,(i64.wrap (f+1)))
 else
  some b
def rA:=EL q_ fuel
def rB:Rd (E7×GP×LX×(List E1)×Int×Int) LX:=fun a (b,c,d,e,f,g)=>
 bif (decide (g<f))then
  (at? e g).bind fun h=>
  (L8 (b,h)).bind fun i=>
  (L8 (c.2.2.2.1,h)).bind fun j=>
  bif ((!i.2)||(!(EM i.1 j.1)))then
   (app? 72 d [(5,(h,[]))]).bind fun h=>
   a (b,c,h,e,f,(i64.wrap (g+1)))
  else
   a (b,c,d,e,f,(i64.wrap (g+1)))
 else
  some d
def rC:=EL rB fuel
def eG:GP×E7->Option LX:=fun(a,b)=>
 (PL (a,a.2.1)).bind fun c=>
 (WD (b,c,[])).bind fun c=>
 (qZ (b,a,c,b,(b.length:Int),0)).bind fun a=>
 (eF (a.1,b)).bind fun c=>
 (rA (a.2,c,b,(b.length:Int),0)).bind fun c=>
 (rC (b,a.1,c,a.1.2.2.2.2.1,(a.1.2.2.2.2.1.length:Int),0)).bind fun a=>
 some a
def eH:GP×E7->Option (LX×Int):=fun(a,b)=>
 (WC (a,b)).bind fun c=>
 bif (!(E6 c 0))then
  some ([],c)
 else
  (eG (a,b)).bind fun a=>
  some (a,0)
def rD:E1×E1×E1×E1×E7×E1->Option (H_×Int):=fun a=>
 (PB a).bind fun b=>
 bif (!(E6 b 0))then
  some (([],([],([],([],([],[]))))),b)
 else
  (S3 a).bind fun a=>
  some (a,0)
def eI:H_×E1->Option (H_×Int):=fun(a,b)=>
 (PB a).bind fun c=>
 bif (!(E6 c 0))then
  some (([],([],([],([],([],[]))))),c)
 else
  (rD (a.1,(a.2.1,(a.2.2.1,(b,a.2.2.2.2))))).bind fun a=>
  some (a.1,a.2)
def rE:GY×(Int×FN)×E1×E1->Option (Bool):=fun(a,b,c,d)=>
 (bif (!((!(EM a.1 c))||(EM d [])))then V9 (a.2.1,d)else some 0).bind fun e=>
 bif (((!(EM a.1 c))||(EM d []))||(!(E6 e 0)))then
  some false
 else
  (PM (b,d)).bind fun a=>
  some ((E6 a.2 0)&&a.1)
def A1O:Rd (L4×H_×JS×E1×(List Int)×(List GY)×Int×Int) (List Int):=fun a (b,c,d,e,f,g,h,i)=>
 bif (decide (i<h))then
  (at? g i).bind fun j=>
  (bif (!b.2.2.2.2.1)then at? d i else some (0,[])).bind fun k=>
  (bif (!b.2.2.2.2.1)then rE (j,k,e,c.2.2.2.1)else some false).bind fun j=>
  bif ((!b.2.2.2.2.1)&&j)then
   (app? 24 f [i]).bind fun j=>
   a (b,c,d,e,j,g,h,(i64.wrap (i+1)))
  else
   a (b,c,d,e,f,g,h,(i64.wrap (i+1)))
 else
  some f
def rF:=EL A1O fuel
def eJ:L4×H_->Option ((List Int)×Int):=fun(a,b)=>
 (PK a).bind fun c=>
 bif (!(E6 c.2 0))then
  some ([],c.2)
 else
  (S5 b).bind fun d=>
  bif (!(E6 d.2 0))then
   some ([],d.2)
  else
   (rF (a,b,c.1,d.1,[],a.2.2.2.2.2.2,(a.2.2.2.2.2.2.length:Int),0)).bind fun a=>
   some (a,0)
def A1P:Rd (H_×Int×(List L4)×Int×Int) (Int):=fun a (b,c,d,e,f)=>
 bif (decide (f<e))then
  (at? d f).bind fun g=>
  (eJ (g,b)).bind fun h=>
  bif (E6 (h.1.length:Int) 0)then
   a (b,c,d,e,(i64.wrap (f+1)))
  else
   bif (!(EM g.2.2.2.2.2.1 []))then
    (PH g.2.2.2.2.2.1).bind fun g=>
    a (b,(i64.wrap (c+g.1)),d,e,(i64.wrap (f+1)))
   else
    a (b,(i64.wrap (c+100)),d,e,(i64.wrap (f+1)))
 else
  some c
def rG:=EL A1P fuel
def eK:GP×(E1×E1)->Option (Int):=fun(a,b)=>
 (PC b.1).bind fun c=>
 (eI (c.1,b.2)).bind fun b=>
 bif (!(E6 b.2 0))then
  some 0
 else
  (rG (b.1,0,a.2.2.2.2.2.2.2.1,(a.2.2.2.2.2.2.2.1.length:Int),0)).bind fun a=>
  some a
def SK:Bool×Bool->Option (Int):=fun(a,b)=>
 bif a then
  some 3
 else
  bif b then
   some 2
  else
   some 1
def PO:(List Int)×Int->Option (Int):=fun(a,b)=>
 bif (decide (b<(a.length:Int)))then
  (at? a b).bind fun a=>
  some a
 else
  some 0
def PP:GZ×Int->Option K1:=fun(a,b)=>
 (bif (decide (b<(a.length:Int)))then at? a b else some (false,([],0))).bind fun c=>
 (bif (decide (b<(a.length:Int)))then PE c else some false).bind fun c=>
 bif ((decide (b<(a.length:Int)))&&(!c))then
  (at? a b).bind fun a=>
  some a
 else
  some (false,([],0))
def eL:Int×E1×E1->Option (Int×Int):=fun(a,b,c)=>
 (S9 (a,b,c)).bind fun a=>
 bif (!(E6 a.2.2 0))then
  some (0,a.2.2)
 else
  ((fun z=>Sum.casesOn (motive:=fun _=>Option E1) z (fun x=>(LY x).bind fun r=>some r) (fun z=>Sum.casesOn (motive:=fun _=>Option E1) z (fun x=>(LZ x).bind fun r=>some r) (fun z=>Sum.casesOn (motive:=fun _=>Option E1) z (fun x=>(L_ x).bind fun r=>some r) (fun z=>Sum.casesOn (motive:=fun _=>Option E1) z (fun x=>(M0 x).bind fun r=>some r) (fun z=>Sum.casesOn (motive:=fun _=>Option E1) z (fun x=>(M1 x).bind fun r=>some r) (fun _=>none)))))) a.1).bind fun b=>
  ((fun z=>Sum.casesOn (motive:=fun _=>Option E1) z (fun x=>(LY x).bind fun r=>some r) (fun z=>Sum.casesOn (motive:=fun _=>Option E1) z (fun x=>(LZ x).bind fun r=>some r) (fun z=>Sum.casesOn (motive:=fun _=>Option E1) z (fun x=>(L_ x).bind fun r=>some r) (fun z=>Sum.casesOn (motive:=fun _=>Option E1) z (fun x=>(M0 x).bind fun r=>some r) (fun z=>Sum.casesOn (motive:=fun _=>Option E1) z (fun x=>(M1 x).bind fun r=>some r) (fun _=>none)))))) a.2.1).bind fun c=>
  bif (EM b c)then
   some (0,0)
  else
   bif (Nj0 a.1).isSome then
    (SK ((!(E6 ((((Nj0 a.1).getD ((List.replicate 3 0),[])).1).getD 0 0) ((((Nj0 a.2.1).getD ((List.replicate 3 0),[])).1).getD 0 0))),(!(E6 ((((Nj0 a.1).getD ((List.replicate 3 0),[])).1).getD 1 0) ((((Nj0 a.2.1).getD ((List.replicate 3 0),[])).1).getD 1 0))))).bind fun b=>
    some (b,0)
   else
    bif (Nj1 a.1).isSome then
     (NC ((((Nj1 a.1).getD (0,([],([],false)))).2).1)).bind fun b=>
     (NC ((((Nj1 a.2.1).getD (0,([],([],false)))).2).1)).bind fun c=>
     (SK ((!(E6 (((Nj1 a.1).getD (0,([],([],false)))).1) (((Nj1 a.2.1).getD (0,([],([],false)))).1))),(!(EM b c)))).bind fun b=>
     some (b,0)
    else
     bif (Nj2 a.1).isSome then
      let b:=((Nj2 a.1).getD (0,([],(0,(0,(0,(0,[]))))))).1
      let c:=((Nj2 a.2.1).getD (0,([],(0,(0,(0,(0,[]))))))).1
      (bif (!(!(E6 b c)))then PO (((((Nj2 a.1).getD (0,([],(0,(0,(0,(0,[]))))))).2).1),0)else some 0).bind fun d=>
      (bif (!(!(E6 b c)))then PO (((((Nj2 a.2.1).getD (0,([],(0,(0,(0,(0,[]))))))).2).1),0)else some 0).bind fun e=>
      (PO (((((Nj2 a.1).getD (0,([],(0,(0,(0,(0,[]))))))).2).1),1)).bind fun f=>
      (PO (((((Nj2 a.2.1).getD (0,([],(0,(0,(0,(0,[]))))))).2).1),1)).bind fun g=>
      (SK (((!(E6 b c))||(!(E6 d e))),(!(E6 f g)))).bind fun b=>
      some (b,0)
     else
      bif (Nj3 a.1).isSome then
       (PP (((Nj3 a.1).getD []),0)).bind fun b=>
       (PP (((Nj3 a.2.1).getD []),0)).bind fun c=>
       (PP (((Nj3 a.1).getD []),1)).bind fun d=>
       (PP (((Nj3 a.2.1).getD []),1)).bind fun a=>
       (SK ((!((JN b.1 c.1)&&((EM b.2.1 c.2.1)&&(E6 b.2.2 c.2.2)))),(!((JN d.1 a.1)&&((EM d.2.1 a.2.1)&&(E6 d.2.2 a.2.2)))))).bind fun a=>
       some (a,0)
      else
       some (1,0)
def eM:FP×Bool->Option FP:=fun(a,b)=>
 bif b then
  some (a.1,(1,a.2.2))
 else
  some a
def NI:GP×(E1×E1)->Option FP:=fun(a,b)=>
 (L8 (a.2.2.2.1,b.1)).bind fun c=>
 (eM ((0,(0,0)),(!(EM c.1 b.2)))).bind fun d=>
 bif (EM b.2 [])then
  some d
 else
  (eK (a,b)).bind fun a=>
  bif c.2 then
   (MM b.1).bind fun e=>
   (eL (e.1,c.1,b.2)).bind fun b=>
   some (a,(d.2.1,b.1))
  else
   some (a,d.2)
def rH:Rd (FZ×E1×(List FP)×(List E1)×Int×Int) (List FP):=fun a (b,c,d,e,f,g)=>
 bif (decide (g<f))then
  (at? e g).bind fun h=>
  (b).bind fun i=>
  (NI (i.1,(c,h))).bind fun h=>
  (app? 72 d [h]).bind fun h=>
  a (b,c,h,e,f,(i64.wrap (g+1)))
 else
  some d
def rI:=EL rH fuel
def rJ:Rd (FZ×(List (List FP))×(List E1)×Int×Int) (List (List FP)):=fun a (b,c,d,e,f)=>
 bif (decide (f<e))then
  (at? d f).bind fun g=>
  (b).bind fun h=>
  (NI (h.1,(g,[]))).bind fun h=>
  (b).bind fun i=>
  (at? i.2.2.1 f).bind fun i=>
  (rI (b,g,[h],i,(i.length:Int),0)).bind fun g=>
  (app? 24 c [g]).bind fun g=>
  a (b,g,d,e,(i64.wrap (f+1)))
 else
  some c
def rK:=EL rJ fuel
def WE:Option (GP×(List E1)×(List (List E1))×(List (List Int))×(List (List (List Int)))×(List Int)×Int)->Option (List (List FP)):=fun a=>
 (a).bind fun b=>
 (rK (a,[],b.2.1,(b.2.1.length:Int),0)).bind fun a=>
 some a
def eN:FP×FP->Option FP:=fun(a,b)=>
 some ((N2 a.1 b.1),((N2 a.2.1 b.2.1),(N2 a.2.2 b.2.2)))
def WF:FP×FP->Option FP:=fun(a,b)=>
 some ((i64.wrap (a.1+b.1)),((i64.wrap (a.2.1+b.2.1)),(i64.wrap (a.2.2+b.2.2))))
def rL:Rd (Int×FP×(List FP)×Int×Int) FP:=fun a (b,c,d,e,f)=>
 bif (decide (f<e))then
  (at? d f).bind fun g=>
  (L6 (b,f)).bind fun h=>
  bif h then
   (eN (c,g)).bind fun g=>
   a (b,g,d,e,(i64.wrap (f+1)))
  else
   a (b,c,d,e,(i64.wrap (f+1)))
 else
  some c
def rM:=EL rL fuel
def rN:Rd ((Option (List (List FP)))×FP×(List Int)×Int×Int) FP:=fun a (b,c,d,e,f)=>
 bif (decide (f<e))then
  (at? d f).bind fun g=>
  (b).bind fun h=>
  (at? h f).bind fun h=>
  (P8 g).bind fun i=>
  (at? h i).bind fun h=>
  (b).bind fun i=>
  (at? i f).bind fun i=>
  (rM (g,h,i,(i.length:Int),0)).bind fun g=>
  (WF (c,g)).bind fun g=>
  a (b,g,d,e,(i64.wrap (f+1)))
 else
  some c
def rO:=EL rN fuel
def SL:(List Int)×(Option (List (List FP)))->Option FP:=fun(a,b)=>
 (rO (b,(0,(0,0)),a,(a.length:Int),0)).bind fun a=>
 some a
def eO:FP×FP->Option (Int):=fun(a,b)=>
 (NF (a.1,b.1)).bind fun c=>
 (NF (a.2.1,b.2.1)).bind fun d=>
 (NF (a.2.2,b.2.2)).bind fun a=>
 (PJ [c,d,a]).bind fun a=>
 some a
def eP:(List Int)×I9×IM×FP->Option O9:=fun(a,b,c,d)=>
 (bif (!b.isNone)then c.bind (fun F=>F a)else some (0,(0,0))).bind fun a=>
 (bif (!b.isNone)then eO (a,d)else some 0).bind fun a=>
 some ((b.isNone||(decide (a<0))),b,d)
def rP:(List Int)×IM×I9×FP->Option O9:=fun(a,b,_,_)=>
 (app? 24 [] a).bind fun c=>
 (b.bind (fun F=>F a)).bind fun a=>
 some (true,(some c),a)
def rQ:Rd (GP×FP×E7×Int×Int) (GP×FP):=fun a (b,c,d,e,f)=>
 bif (decide (f<e))then
  (at? d f).bind fun g=>
  (NI (b,g)).bind fun g=>
  (WF (c,g)).bind fun g=>
  a (b,g,d,e,(i64.wrap (f+1)))
 else
  some (b,c)
def rR:=EL rQ fuel
def rS:Rd (E7×FP×E7×Int×Int) FP:=fun a (b,c,d,e,f)=>
 bif (decide (f<e))then
  (at? d f).bind fun g=>
  (L8 (b,g.1)).bind fun g=>
  bif (!g.2)then
   a (b,(c.1,((i64.wrap (c.2.1+1)),c.2.2)),d,e,(i64.wrap (f+1)))
  else
   a (b,c,d,e,(i64.wrap (f+1)))
 else
  some c
def rT:=EL rS fuel
def MO:GP×E7->Option FP:=fun(a,b)=>
 (rR (a,(0,(0,0)),b,(b.length:Int),0)).bind fun a=>
 (rT (b,a.2,a.1.2.2.2.1,(a.1.2.2.2.1.length:Int),0)).bind fun a=>
 some a
def rU(slf:Int×(List Int)×Unit×FZ×Unit×Unit×I9×IM×FP->Option O9)(a:Int×(List Int)×FZ×Int×Int×I9×IM×FP->Option (Sum (I9×IM×FP) (Bool×I9×IM×FP))):Int×(List Int)×FZ×Int×Int×I9×IM×FP->Option (Sum (I9×IM×FP) (Bool×I9×IM×FP)):=fun(b,c,d,e,f,g,h,i)=>
 bif (decide (f<e))then
  (at? c b).bind fun j=>
  (L6 (j,f)).bind fun j=>
  bif (!j)then
   a (b,c,d,e,(i64.wrap (f+1)),g,h,i)
  else
   (SJ (d,c,b,f)).bind fun j=>
   (bif j.2 then slf ((i64.wrap (b+1)),j.1,(),d,(),(),g,h,i)else some (false,(none:Option (List Int)),(0,(0,0)))).bind fun k=>
   bif j.2 then
    bif (j.2&&(!k.1))then
     some (.inr (false,k.2.1,h,k.2.2))
    else
     a (b,c,d,e,(i64.wrap (f+1)),k.2.1,h,k.2.2)
   else
    bif (j.2&&(!k.1))then
     some (.inr (false,g,h,i))
    else
     a (b,c,d,e,(i64.wrap (f+1)),g,h,i)
 else
  some (.inl (g,h,i))
def rV(slf:Int×(List Int)×Unit×FZ×Unit×Unit×I9×IM×FP->Option O9):Int×(List Int)×FZ×Int×Int×I9×IM×FP->Option (Sum (I9×IM×FP) (Bool×I9×IM×FP)):=EL (rU slf) fuel
def WG(slf:Int×(List Int)×Unit×FZ×Unit×Unit×I9×IM×FP->Option O9):Int×(List Int)×Unit×FZ×Unit×Unit×I9×IM×FP->Option O9:=fun(a,b,_,c,_,_,d,e,f)=>
 (eP (b,d,e,f)).bind fun d=>
 bif (!d.1)then
  some (true,d.2.1,d.2.2)
 else
  (c).bind fun f=>
  bif (E6 a (f.2.1.length:Int))then
   (rP (b,e,d.2.1,d.2.2)).bind fun f=>
   some (f.1,f.2.1,f.2.2)
  else
   (c).bind fun f=>
   (at? f.2.2.2.1 a).bind fun f=>
   ((rV slf) (a,b,c,(f.length:Int),0,d.2.1,e,d.2.2)).bind fun a=>
   match a with
   | .inl a=>
    some (true,a.1,a.2.2)
   | .inr a=>
    some (a.1,a.2.1,a.2.2.2)
def OD:Nat->Int×(List Int)×Unit×FZ×Unit×Unit×I9×IM×FP->Option O9
 |0=>fun _=>none
 |n+1=>WG (OD n)
def A1Q:Int×(List Int)×Unit×FZ×Unit×Unit×I9×IM×FP->Option O9:=OD 100
def WH:FZ×Unit×Unit×I9×IM×FP->Option (I9×FP):=fun(a,_,_,b,c,d)=>
 (a).bind fun e=>
 (V_ (e.2.2.2.2.2.1,0)).bind fun e=>
 (bif (!e)then a else some (([],([],(0,([],([],(false,(0,([],[])))))))),([],([],([],([],([],0))))))).bind fun f=>
 (bif (!e)then SI (a,f.2.2.2.2.2.1)else some false).bind fun f=>
 bif ((!e)&&f)then
  (a).bind fun e=>
  (A1Q (0,e.2.2.2.2.2.1,(),a,(),(),b,c,d)).bind fun a=>
  some (a.2.1,a.2.2)
 else
  some (b,d)
def PQ:JD×H6×Int×E7×(List E1)×Bool×RY->Option (E7×FP×Bool×Int):=fun a=>
 (MN a).bind fun b=>
 bif (!(E6 b 0))then
  some ([],(0,(0,0)),false,b)
 else
  (VY a).bind fun b=>
  bif (!b.2)then
   some ([],(0,(0,0)),false,0)
  else
   (WE b.1).bind fun c=>
   (WH (b.1,(),(),(none:Option (List Int)),(some (fun x=>(SL (x,(some c))).bind fun r=>some r)),(0,(0,0)))).bind fun c=>
   bif c.1.isNone then
    some ([],(0,(0,0)),false,0)
   else
    (RZ (b.1,(c.1.getD []))).bind fun b=>
    (MO (a,b)).bind fun a=>
    some (b,a,true,0)
def WI:GP×E7->Option (FP×Int):=fun(a,b)=>
 (WC (a,b)).bind fun c=>
 bif (!(E6 c 0))then
  some ((0,(0,0)),c)
 else
  (MO (a,b)).bind fun a=>
  some (a,0)
def eQ:FP×FP->Option (Bool):=fun(a,b)=>
 bif (!(E6 a.1 b.1))then
  some (decide (a.1<b.1))
 else
  bif (!(E6 a.2.1 b.2.1))then
   some (decide (a.2.1<b.2.1))
  else
   some (decide (a.2.2<b.2.2))
def rW:Rd (GP×FP×(List E7)×Int×Int) N9:=fun a (b,c,d,e,f)=>
 bif (decide (f<e))then
  (at? d f).bind fun g=>
  (WI (b,g)).bind fun g=>
  (eQ (g.1,c)).bind fun g=>
  bif g then
   some (.inr false)
  else
   a (b,c,d,e,(i64.wrap (f+1)))
 else
  some (.inl ())
def eR:=EL rW fuel
def eS:GP×Int->Option (Bool):=fun(a,b)=>
 (PQ a).bind fun c=>
 (WA (a,b)).bind fun b=>
 bif ((!(E6 c.2.2.2 0))||(!(E6 b.2 0)))then
  (WB ()).bind fun d=>
  some d
 else
  bif (!c.2.2.1)then
   (bif (E6 (b.1.length:Int) 0)then WB ()else some false).bind fun d=>
   some ((E6 (b.1.length:Int) 0)&&d)
  else
   (eH (a,c.1)).bind fun d=>
   (WI (a,c.1)).bind fun e=>
   bif ((((!(E6 d.2 0))||(!(E6 e.2 0)))||(decide (0<(d.1.length:Int))))||(!((E6 c.2.1.1 e.1.1)&&((E6 c.2.1.2.1 e.1.2.1)&&(E6 c.2.1.2.2 e.1.2.2)))))then
    some false
   else
    (eR (a,c.2.1,b.1,(b.1.length:Int),0)).bind fun a=>
    match a with
    | .inl _=>
     (WB ()).bind fun a=>
     some a
    | .inr a=>
     some a
end
end Go.Ev.Pv
