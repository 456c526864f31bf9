/-
  The program's functions as plain Lean functions (printed by a program of the author's from the translation).
-/
import Derived.Test.YtlljgbmoloklgaaGreatDoorE4
import Derived.Lib.AtoiAll
import Derived.Lib.ItoaNum
import Derived.Lib.Strings
import Derived.Lib.Join
import Derived.Lib.Split
import Derived.Lib.Repeat
import Derived.Lib.FieldsP
import Derived.Lib.MapU
import Derived.Lib.LastIndexByte
import Derived.Lib.Bytealg
import Derived.Lib.IndexMore
import Derived.Lib.CountLaws
import Derived.Lib.BitFns
import Derived.Sort.Defs
set_option linter.unusedVariables false
set_option linter.unusedSimpArgs false
set_option linter.unusedSectionVars false
set_option maxRecDepth 100000
open Go.IntKind hiding min max bits signed
namespace Go.Ev.Pv
def fuel:Nat:=18446744073709551616
end Go.Ev.Pv
namespace Go.Ev.Pv
def str? (s:DZ):Option DZ:=bif decide (s.length<=281474976710656)then some s else none
theorem str?_some{s r:DZ}(h:str? s=some r):r=s/\s.length<=281474976710656:=by
 unfold str? at h;cases hd:decide (s.length<=281474976710656)with
 |false=>rw[hd]at h;cases h
 |true=>rw[hd]at h;cases h;exact⟨rfl,A8 hd⟩
def HQ{α:Type}(c:Prop) [Decidable c](x:Option α):Option α:=bif decide c then x else none
theorem LW{α:Type}{c:Prop}{_:Decidable c}{x:Option α}{r:α}(h:HQ c x=some r):c/\x=some r:=by
 unfold HQ at h;cases hd:decide c with
 |false=>rw[hd]at h;cases h
 |true=>rw[hd]at h;exact⟨A8 hd,h⟩
def KP:Nat->Nat->DZ
 |0,_=>[]
 |k+1,u=>if u<10 then [UInt8.ofNat (48+u)]else KP k (u / 10)++[UInt8.ofNat (48+u % 10)]
theorem vX:∀(k u:Nat),u<10 ^ k->1<=k->KP k u=Lib.decDigits u:=by
 intro k;induction k with
 |zero=>intro u _ h;omega
 |succ k ih=>
  intro u hu _;rw[Lib.decDigits];simp only[KP];by_cases h:u<10
  ·rw[if_pos h,dif_pos h]
  ·rw[if_neg h,dif_neg h]
   have hk:1<=k:=by
    rcases k with _|k
    ·simp at hu;omega
    ·omega
   rw[ih (u / 10) (by rw[Nat.pow_succ]at hu;omega) hk]
def NL(n:Int):DZ:=if n<0 then 45::KP 20 n.natAbs else KP 20 n.toNat
theorem A9S{n:Int}(h0:-9223372036854775808<=n)(h1:n<=9223372036854775807):NL n=Lib.itoa n:=by
 unfold NL Lib.itoa;rw[vX 20 n.natAbs (by omega) (by decide),vX 20 n.toNat (by omega) (by decide)]
theorem vY:∀(k u:Nat),(KP k u).length<=k:=by
 intro k;induction k with
 |zero=>intro u;exact AJ _
 |succ k ih=>
  intro u;simp only[KP];split
  ·simp
  ·have:=ih (u / 10);simp only[A7,AE,AL];omega
theorem vZ(n:Int):(NL n).length<=21:=by
 unfold NL;split
 ·have:=vY 20 n.natAbs;simp only[AE];omega
 ·have:=vY 20 n.toNat;omega
def strings_Join:(List (List UInt8))×(List UInt8)->Option (List UInt8):=fun x=>HQ (x.1.length<=140737488355328/\(Lib.join x.1 x.2).length<=140737488355328) (some (Lib.join x.1 x.2))
def TQ:List UInt8->Option (List UInt8):=fun s=>HQ (s.length<35184372088832) (str? (Lib.toLowerD s))
def strconv_Itoa:Int->Option (List UInt8):=fun n=>some (NL n)
def strings_IndexByte:(List UInt8)×Int->Option (Int):=fun x=>HQ (x.1.length<4611686018427387904) (some (Lib.indexByte x.1 x.2.toNat.toUInt8))
def strings_LastIndexByte:(List UInt8)×Int->Option (Int):=fun x=>HQ (x.1.length<4611686018427387904) (some (Lib.lastIndexByte ⟨x.1.toArray⟩ x.2))
def strings_Cut:(List UInt8)×(List UInt8)->Option ((List UInt8)×(List UInt8)×Bool):=fun x=>HQ (x.1.length<4294967281) (some (Lib.cut x.1 x.2))
def strings_Repeat:(List UInt8)×Int->Option (List UInt8):=fun x=>HQ (0<=x.2/\x.1.length*x.2.toNat<=140737488355328) (some (Lib.repeatL x.1 x.2.toNat))
def strings_Split:(List UInt8)×(List UInt8)->Option (List (List UInt8)):=fun x=>
 HQ (x.1.length<4294967281/\1<=x.2.length) (some ((Lib.splitB ⟨x.2.toArray⟩ 0 (Lib.countB ⟨x.1.toArray⟩ ⟨x.2.toArray⟩) ⟨x.1.toArray⟩).map fun b=>b.data.toList))
def XX:List UInt8->Option (Int×Unit):=fun s=>HQ (s.length<=281474976710656) (match Lib.atoiAll s with
 | .ok v=>some (v,())
 | .range=>some (Lib.atoiSat s,())
 |_=>some (0,()))
noncomputable def QP:(List UInt8)×(Int->Option Bool)->Option (List (List UInt8)):=fun x=>
 @HQ _ (x.1.length<=4294967296/\(∀r:Nat,r<=1114111->∃b,x.2 (r:Int)=some b)/\(Lib.goFieldsP (fun r=>(x.2 (r:Int)).getD false) ⟨x.1.toArray⟩).length<=281474976710656) (Classical.propDecidable _) (some ((Lib.goFieldsP (fun r=>(x.2 (r:Int)).getD false) ⟨x.1.toArray⟩).map fun b=>b.data.toList))
def strings_HasPrefix:(List UInt8)×(List UInt8)->Option (Bool):=fun x=>some (Lib.hasPrefix x.1 x.2)
def strings_TrimPrefix:(List UInt8)×(List UInt8)->Option (List UInt8):=fun x=>some (Lib.trimPrefix x.1 x.2)
def strings_CutPrefix:(List UInt8)×(List UInt8)->Option ((List UInt8)×Bool):=fun x=>some (Lib.trimPrefix x.1 x.2,Lib.hasPrefix x.1 x.2)
def XY:List Int->Option (List Int):=fun xs=>some xs
def MI:List Int->Option (List UInt8):=fun xs=>some (HA xs)
section
variable{T:Type}
def MJ(xs:List T)(F:T×T->Option Int)(i j:Fin xs.length):Int:=(F (xs.get i,xs.get j)).getD 0
def IB(xs:List T)(F:T×T->Option Int)(i j:Fin xs.length):Bool:=decide (MJ xs F i j<0)
def TR(xs:List T)(F:T×T->Option Int):Prop:=
 (∀i j:Fin xs.length,(F (xs.get i,xs.get j)).isSome=true)/\(∀i:Fin xs.length,IB xs F i i=false)/\
 (∀i j k:Fin xs.length,IB xs F i j=true->IB xs F j k=true->IB xs F i k=true)/\(∀i j k:Fin xs.length,IB xs F i j=false->IB xs F j k=false->IB xs F i k=false)
instance{xs:List T}{F:T×T->Option Int}:Decidable (TR xs F):=by unfold TR;infer_instance
def XZ{α:Type} [Inhabited α](lt:α->α->Bool):Nat->Nat->Array α->Array α
 |0,_,d=>d
 |n+1,i,d=>XZ lt n (i+1) (Sort.insInner lt 0 i d)
theorem A9T{α:Type} [Inhabited α](lt:α->α->Bool):∀(n i:Nat) (d:Array α),Sort.insOuter lt 0 (i+n) i d=XZ lt n i d:=by
 intro n;induction n with
 |zero=>intro i d;rw[Sort.insOuter,if_neg (by omega)];rfl
 |succ n ih=>intro i d;rw[Sort.insOuter,if_pos (by omega),show i+(n+1)=(i+1)+n by omega,ih];rfl
def J9(xs:List T)(F:T×T->Option Int)(h:0<xs.length):Array (Fin xs.length):=
 haveI:Inhabited (Fin xs.length):=⟨⟨0,h⟩⟩
 if xs.length<=12 then XZ (IB xs F) (xs.length-1) 1 (Array.ofFn id)else Sort.pdq (IB xs F) (Array.ofFn id) 0 xs.length (Lib.bitLen xs.length) true true
theorem A9U{α:Type} [Inhabited α](lt:α->α->Bool)(d:Array α)(n lim:Nat)(h:0<n)(h12:n<=12):Sort.pdq lt d 0 n lim true true=XZ lt (n-1) 1 d:=by
 rw[Sort.pdq,if_pos (by omega),Sort.insertionSort];have:=A9T lt (n-1) 1 d;rw[show 1+(n-1)=n by omega]at this;exact this
theorem v_(xs:List T)(F:T×T->Option Int)(h:0<xs.length):
 J9 xs F h= @Sort.pdq _ ⟨⟨0,h⟩⟩ (IB xs F) (Array.ofFn id) 0 xs.length (Lib.bitLen xs.length) true true:=by
 unfold J9;split
 ·rename_i h12;exact(@A9U _ ⟨⟨0,h⟩⟩ (IB xs F) (Array.ofFn id) xs.length _ h h12).symm
 ·rfl
def OJ(xs:List T)(F:T×T->Option Int):Option (List T):=
 if h:0<xs.length then HQ (TR xs F) (some ((J9 xs F h).toList.map xs.get))else some []
end
def iK:(List ((Int×(List UInt8)×Bool×(List UInt8))×(Int×(List UInt8)×Bool×(List UInt8))))×((((Int×(List UInt8)×Bool×(List UInt8))×(Int×(List UInt8)×Bool×(List UInt8)))×((Int×(List UInt8)×Bool×(List UInt8))×(Int×(List UInt8)×Bool×(List UInt8))))->Option Int)->Option (List ((Int×(List UInt8)×Bool×(List UInt8))×(Int×(List UInt8)×Bool×(List UInt8)))):=fun v=>OJ v.1 v.2
end Go.Ev.Pv
namespace Go.Ev.Pv
end Go.Ev.Pv
namespace Go.Ev.Pv
noncomputable section
abbrev GC:=(Bool×Bool×DZ)
abbrev FI:=(List (GC×GC))
abbrev OK:=(DZ×(Int×FI)×Int)
abbrev H2:=(List OK)
abbrev JA:=(List (DZ×DZ×H2×Bool))
abbrev E3:=(List (DZ×DZ))
abbrev H_:=(List (Int×DZ))
abbrev GU:=(DZ×Int×H_×(List DZ)×(List DZ))
abbrev K6:=(DZ×(List DZ)×DZ×Int×Bool×DZ×(List GU))
abbrev H3:=(JA×H2×Int×E3×(List DZ)×Bool×(Int×(List K6)×(List Int)))
abbrev E8:=(Int×DZ×DZ×Int)
abbrev LE:=((List Int)×(List DZ))
abbrev KQ:=(Int×DZ×DZ×Bool)
abbrev G6:=(Int×(List Int)×Int×Int×Int×Int×(List DZ))
abbrev GA:=(Bool×DZ×Int)
abbrev GV:=(Sum LE (Sum KQ (Sum G6 (Sum (List GA) (Sum Int Unit)))))
abbrev GD:=(Option (H3×(List DZ)×(List (List DZ))×(List (List Int))×(List (List (List Int)))×(List Int)×Int))
abbrev GW:=(H3×((List DZ)×((List (List DZ))×((List (List Int))×((List (List (List Int)))×((List Int)×Int))))))
abbrev JJ:=(Int×DZ×Bool×DZ)
abbrev FJ:=(JJ×JJ)
abbrev FM:=(((DZ×DZ)×(DZ×DZ))->Option Int)
abbrev F4:=(DZ×Int×Int)
abbrev FN:=((E8×E8)->Option Int)
abbrev GY:=((DZ×DZ)×(DZ×DZ)->Option Int)
abbrev H6:=(DZ×(DZ×(DZ×(DZ×(E3×DZ)))))
abbrev GZ:=(E8×E8->Option Int)
abbrev IZ:=(DZ×DZ×DZ×DZ×E3×DZ)
abbrev HV:=(Sum (Unit) (Int))
abbrev LF:=(List (Int×DZ×DZ))
abbrev JK:=(List (Int×FI))
abbrev OL:=(DZ×Int×Bool×Bool×Int)
abbrev K7:=((List DZ)×Bool)
abbrev KR:=((List E8)×Int)
abbrev LX:=(Int->Option Bool)
abbrev iL:=(Sum ((List E3)×GD×Int) (Bool×(List E3)×GD×Int))
abbrev MK:=(Sum (Unit) (Bool))
abbrev Rd(A B:Type):=(A->Option B)->A->Option B
def X_:List Int->Option (Bool):=fun t0=>
 some true
def LY:Int×Int->Option (Bool):=fun(s_0,i_1)=>
 (shr? u16 s_0 i_1).bind fun n1=>
 some (E4 (I7 u16 n1 1) 1)
def w4:Rd (Int×Int) HV:=fun next (l_0,t4)=>
 bif (decide (t4<16))then
  (LY (l_0,t4)).bind fun r1=>
  bif r1 then
   some (.inr t4)
  else
   next (l_0,(i64.wrap (t4+1)))
 else
  some (.inl ())
def iM:=EI w4 fuel
def Y0:Int->Option (Int):=fun l_0=>
 (iM (l_0,0)).bind fun r2=>
 match r2 with
 | .inl y3=>
  some 0
 | .inr y3'=>
  some y3'
def iN:Rd (GD×E3×(List Int)×Int×Int) E3:=fun next (s_0,out_5,t9,t10,t11)=>
 bif (decide (t11<t10))then
  (at? t9 t11).bind fun y1=>
  (Y0 y1).bind fun r2=>
  bif (decide (0<r2))then
   (s_0).bind fun p3=>
   (at? p3.2.1 t11).bind fun y4=>
   (s_0).bind fun p5=>
   (at? p5.2.2.1 t11).bind fun y6=>
   (at? y6 (i64.wrap (r2-1))).bind fun y7=>
   (app? 48 out_5 [(y4,y7)]).bind fun l8=>
   next (s_0,l8,t9,t10,(i64.wrap (t11+1)))
  else
   next (s_0,out_5,t9,t10,(i64.wrap (t11+1)))
 else
  some out_5
def iO:=EI iN fuel
def Y1:GD×(List Int)->Option E3:=fun(s_0,left_1)=>
 (iO (s_0,[],left_1,(left_1.length:Int),0)).bind fun r9=>
 some r9
def iP:(List Int)×(List E3)×GD×Int->Option (Bool×(List E3)):=fun(left_0,t1,t2,t3)=>
 (Y1 (t2,left_0)).bind fun r1=>
 (app? 24 t1 [r1]).bind fun l2=>
 some ((decide ((l2.length:Int)<t3)),l2)
def w5:Rd ((List Int)×Int×Int) (List Int):=fun next (b_3,t9,t10)=>
 bif (decide (t10<t9))then
  (in? b_3.length t10).bind fun _=>
  bif ((decide (65<=(b_3.getD t10.toNat 0)))&&(decide ((b_3.getD t10.toNat 0)<=90)))then
   (in? b_3.length t10).bind fun _=>
   next ((b_3.set t10.toNat (u8.wrap ((u8.wrap ((b_3.getD t10.toNat 0)+97))-65))),t9,(i64.wrap (t10+1)))
  else
   next (b_3,t9,(i64.wrap (t10+1)))
 else
  some b_3
def iQ:=EI w5 fuel
def OM:DZ->Option DZ:=fun s_0=>
 (iQ ((FX s_0),((FX s_0).length:Int),0)).bind fun r3=>
 (cat? [] (HA r3)).bind fun s4=>
 some s4
def ML:F4×Int->Option F4:=fun(r_0,at_1)=>
 bif (decide (r_0.2.2<0))then
  some (r_0.1,(r_0.2.1,at_1))
 else
  some r_0
def LZ:Option F4->Option (Int):=fun r_0=>
 (r_0).bind fun p1=>
 (r_0).bind fun p2=>
 bif (decide (p1.2.1<(p2.1.length:Int)))then
  (r_0).bind fun p3=>
  (r_0).bind fun p4=>
  (at? p3.1 p4.2.1).bind fun b5=>
  some (b5.toNat:Int)
 else
  some 0
def TT:Int->Option (Bool):=fun c_0=>
 some (((decide (97<=c_0))&&(decide (c_0<=122)))||((decide (65<=c_0))&&(decide (c_0<=90))))
def w6:Rd (F4×Int) (Sum F4 (F4×DZ)):=fun next (r_0,t7)=>
 bif (decide (t7<4))then
  (bif (!(decide ((r_0.1.length:Int)<=t7)))then cut? r_0.1 t7 (i64.wrap (t7+1))else some []).bind fun s1=>
  (bif (!(decide ((r_0.1.length:Int)<=t7)))then OM s1 else some []).bind fun r2=>
  (bif (!(decide ((r_0.1.length:Int)<=t7)))then cut? [112,107,103,58] t7 (i64.wrap (t7+1))else some []).bind fun s3=>
  bif ((decide ((r_0.1.length:Int)<=t7))||(!(EN r2 s3)))then
   (ML (r_0,t7)).bind fun r4=>
   some (.inr (r4,[]))
  else
   next (r_0,(i64.wrap (t7+1)))
 else
  some (.inl r_0)
def iR:=EI w6 fuel
def w7:Rd F4 F4:=fun next r_0=>
 (bif (decide (r_0.2.1<(r_0.1.length:Int)))then at? r_0.1 r_0.2.1 else some 0).bind fun b8=>
 (bif (decide (r_0.2.1<(r_0.1.length:Int)))then TT (b8.toNat:Int)else some false).bind fun r9=>
 bif ((decide (r_0.2.1<(r_0.1.length:Int)))&&r9)then
  next (r_0.1,((i64.wrap (r_0.2.1+1)),r_0.2.2))
 else
  some r_0
def iS:=EI w7 fuel
def Y2:F4×Bool->Option F4:=fun(r_0,t45)=>
 bif t45 then
  some (r_0.1,((i64.wrap (r_0.2.1+1)),r_0.2.2))
 else
  (iS r_0).bind fun r10=>
  some r10
def Y3:F4×Bool->Option (DZ×F4):=fun(r_0,star_1)=>
 (iR (r_0,0)).bind fun r5=>
 match r5 with
 | .inl y6=>
  (bif star_1 then LZ (some (y6.1,(4,y6.2.2)))else some 0).bind fun r7=>
  (Y2 ((y6.1,(4,y6.2.2)),(star_1&&(E4 r7 42)))).bind fun r11=>
  (cut? r11.1 4 r11.2.1).bind fun s12=>
  (bif (!(EN s12 []))then LZ (some r11)else some 0).bind fun r13=>
  bif ((EN s12 [])||(!(E4 r13 47)))then
   (ML (r11,r11.2.1)).bind fun r14=>
   some ([],r14)
  else
   (OM s12).bind fun r15=>
   some (r15,(r11.1,((i64.wrap (r11.2.1+1)),r11.2.2)))
 | .inr y6'=>
  some (y6'.2,y6'.1)
def Y4:Int->Option (Int):=fun c_0=>
 bif ((decide (48<=c_0))&&(decide (c_0<=57)))then
  some (i64.wrap (u8.wrap (c_0-48)))
 else
  bif ((decide (97<=c_0))&&(decide (c_0<=102)))then
   some (i64.wrap ((i64.wrap (u8.wrap (c_0-97)))+10))
  else
   bif ((decide (65<=c_0))&&(decide (c_0<=70)))then
    some (i64.wrap ((i64.wrap (u8.wrap (c_0-65)))+10))
   else
    some (-1:Int)
def Y5:F4×Int×Int×Bool->Option (F4×Int):=fun(r_0,i_6,d_7,t63)=>
 bif t63 then
  (at? r_0.1 (i64.wrap (r_0.2.1+i_6))).bind fun b5=>
  (Y4 (b5.toNat:Int)).bind fun r6=>
  some (r_0,r6)
 else
  some (r_0,d_7)
def w8:Rd (F4×Int×Int) (Sum (F4×Int) (F4×Int×Bool)):=fun next (r_0,n_5,i_6)=>
 bif (decide (i_6<=2))then
  (Y5 (r_0,i_6,(-1:Int),(decide ((i64.wrap (r_0.2.1+i_6))<(r_0.1.length:Int))))).bind fun r7=>
  bif (decide (r7.2<0))then
   (ML (r7.1,(i64.wrap (r7.1.2.1+i_6)))).bind fun r8=>
   some (.inr (r8,0,false))
  else
   next (r7.1,(i64.wrap ((i64.wrap (16*n_5))+r7.2)),(i64.wrap (i_6+1)))
 else
  some (.inl (r_0,n_5))
def iT:=EI w8 fuel
def Y6:DZ×Int×Int->Option (Int×Bool×F4):=fun r_0=>
 bif (decide ((r_0.1.length:Int)<=r_0.2.1))then
  some (0,false,r_0)
 else
  (at? r_0.1 r_0.2.1).bind fun b1=>
  bif (!(E4 (b1.toNat:Int) 37))then
   let v2:=((decide ((b1.toNat:Int)<33))||(decide (126<(b1.toNat:Int))))
   (bif (!v2)then strings_IndexByte ([47,64,63,35,38,61],(b1.toNat:Int))else some 0).bind fun r3=>
   bif (v2||(decide (0<=r3)))then
    some (0,false,r_0)
   else
    some ((b1.toNat:Int),true,(r_0.1,((i64.wrap (r_0.2.1+1)),r_0.2.2)))
  else
   (iT (r_0,0,1)).bind fun r10=>
   match r10 with
   | .inl y11=>
    some ((u8.wrap y11.2),true,(y11.1.1,((i64.wrap (y11.1.2.1+3)),y11.1.2.2)))
   | .inr y11'=>
    some (y11'.2.1,y11'.2.2,y11'.1)
def w9:Rd (F4×(List Int)) (F4×(List Int)):=fun next (r_0,b_3)=>
 bif (decide (r_0.2.2<0))then
  (Y6 r_0).bind fun r1=>
  bif (!r1.2.1)then
   some (r1.2.2,b_3)
  else
   (app? 24 b_3 [r1.1]).bind fun l2=>
   next (r1.2.2,l2)
 else
  some (r_0,b_3)
def iU:=EI w9 fuel
def ON:DZ×Int×Int->Option (DZ×F4):=fun r_0=>
 (iU (r_0,[])).bind fun r3=>
 bif (E4 (r3.2.length:Int) 0)then
  (ML (r3.1,r3.1.2.1)).bind fun r4=>
  (cat? [] (HA r3.2)).bind fun s5=>
  some (s5,r4)
 else
  (cat? [] (HA r3.2)).bind fun s6=>
  some (s6,r3.1)
def wA:Rd (F4×(List DZ)) (F4×(List DZ)):=fun next (r_0,l_3)=>
 (bif (decide (r_0.2.2<0))then LZ (some r_0)else some 0).bind fun r2=>
 bif ((decide (r_0.2.2<0))&&(E4 r2 47))then
  (ON (r_0.1,((i64.wrap (r_0.2.1+1)),r_0.2.2))).bind fun r3=>
  (app? 24 l_3 [r3.1]).bind fun l4=>
  next (r3.2,l4)
 else
  some (r_0,l_3)
def iV:=EI wA fuel
def TU:DZ×Int×Int->Option ((List DZ)×F4):=fun r_0=>
 (ON r_0).bind fun r1=>
 (iV (r1.2,[r1.1])).bind fun r5=>
 some (r5.2,r5.1)
def TV:Int×Bool->Option (Bool):=fun(c_0,first_1)=>
 bif ((decide (97<=c_0))&&(decide (c_0<=122)))then
  some true
 else
  some ((!first_1)&&(((((decide (48<=c_0))&&(decide (c_0<=57)))||(E4 c_0 46))||(E4 c_0 45))||(E4 c_0 95)))
def wB:Rd (F4×Int) F4:=fun next (r_0,from_3)=>
 (bif (decide (r_0.2.1<(r_0.1.length:Int)))then at? r_0.1 r_0.2.1 else some 0).bind fun b1=>
 (bif (decide (r_0.2.1<(r_0.1.length:Int)))then TV ((b1.toNat:Int),(E4 r_0.2.1 from_3))else some false).bind fun r2=>
 bif ((decide (r_0.2.1<(r_0.1.length:Int)))&&r2)then
  next ((r_0.1,((i64.wrap (r_0.2.1+1)),r_0.2.2)),from_3)
 else
  some r_0
def iW:=EI wB fuel
def Y7:DZ×Int×Int->Option ((DZ×DZ)×F4):=fun r_0=>
 (iW (r_0,r_0.2.1)).bind fun r3=>
 (cut? r3.1 r_0.2.1 r3.2.1).bind fun s4=>
 (bif (!(EN s4 []))then LZ (some r3)else some 0).bind fun r5=>
 bif ((EN s4 [])||(!(E4 r5 61)))then
  (ML (r3,r3.2.1)).bind fun r6=>
  some (([],[]),r6)
 else
  (ON (r3.1,((i64.wrap (r3.2.1+1)),r3.2.2))).bind fun r7=>
  some ((s4,r7.1),r7.2)
def Y8:F4×H6×Bool->Option (F4×H6):=fun(r_0,p_3,t40)=>
 bif t40 then
  (ON (r_0.1,((i64.wrap (r_0.2.1+1)),r_0.2.2))).bind fun r7=>
  some (r7.2,(p_3.1,(p_3.2.1,(p_3.2.2.1,(r7.1,(p_3.2.2.2.2.1,p_3.2.2.2.2.2))))))
 else
  some (r_0,(p_3.1,(p_3.2.1,(p_3.2.2.1,(p_3.2.2.2.1,(p_3.2.2.2.2.1,p_3.2.2.2.2.2))))))
def wC:Rd (F4×H6×Int) (F4×H6):=fun next (r_0,p_3,sign_5)=>
 let v9:=((decide (r_0.2.2<0))&&(decide (r_0.2.1<(r_0.1.length:Int))))
 (bif v9 then LZ (some r_0)else some 0).bind fun r10=>
 bif (v9&&(E4 r10 sign_5))then
  (Y7 (r_0.1,((i64.wrap (r_0.2.1+1)),r_0.2.2))).bind fun r11=>
  (app? 48 p_3.2.2.2.2.1 [r11.1]).bind fun l12=>
  next (r11.2,(p_3.1,(p_3.2.1,(p_3.2.2.1,(p_3.2.2.2.1,(l12,p_3.2.2.2.2.2))))),38)
 else
  some (r_0,(p_3.1,(p_3.2.1,(p_3.2.2.1,(p_3.2.2.2.1,(p_3.2.2.2.2.1,p_3.2.2.2.2.2))))))
def iX:=EI wC fuel
def Y9:F4×H6×Bool->Option (F4×H6):=fun(r_0,p_3,t97)=>
 bif t97 then
  (TU (r_0.1,((i64.wrap (r_0.2.1+1)),r_0.2.2))).bind fun r15=>
  (strings_Join (r15.1,[47])).bind fun r16=>
  some (r15.2,(p_3.1,(p_3.2.1,(p_3.2.2.1,(p_3.2.2.2.1,(p_3.2.2.2.2.1,r16))))))
 else
  some (r_0,(p_3.1,(p_3.2.1,(p_3.2.2.1,(p_3.2.2.2.1,(p_3.2.2.2.2.1,p_3.2.2.2.2.2))))))
def YA:DZ×Int×Int->Option (H6×F4):=fun r_0=>
 (Y3 (r_0,false)).bind fun r1=>
 bif (decide (0<=r1.2.2.2))then
  some ((r1.1,([],([],([],([],[]))))),r1.2)
 else
  (TU r1.2).bind fun r2=>
  (cut? r2.1 0 (i64.wrap ((r2.1.length:Int)-1))).bind fun s3=>
  (strings_Join (s3,[47])).bind fun r4=>
  (at? r2.1 (i64.wrap ((r2.1.length:Int)-1))).bind fun y5=>
  (bif (decide (r2.2.2.2<0))then LZ (some r2.2)else some 0).bind fun r6=>
  (Y8 (r2.2,(r1.1,(r4,(y5,([],([],[]))))),((decide (r2.2.2.2<0))&&(E4 r6 64)))).bind fun r8=>
  (iX (r8.1,(r8.2.1,(r8.2.2.1,(r8.2.2.2.1,(r8.2.2.2.2.1,(r8.2.2.2.2.2.1,r8.2.2.2.2.2.2))))),63)).bind fun r13=>
  (bif (decide (r13.1.2.2<0))then LZ (some r13.1)else some 0).bind fun r14=>
  (Y9 (r13.1,(r13.2.1,(r13.2.2.1,(r13.2.2.2.1,(r13.2.2.2.2.1,(r13.2.2.2.2.2.1,r13.2.2.2.2.2.2))))),((decide (r13.1.2.2<0))&&(E4 r14 35)))).bind fun r17=>
  bif ((decide (r17.1.2.2<0))&&(decide (r17.1.2.1<(r17.1.1.length:Int))))then
   (ML (r17.1,r17.1.2.1)).bind fun r19=>
   some ((r17.2.1,(r17.2.2.1,(r17.2.2.2.1,(r17.2.2.2.2.1,(r17.2.2.2.2.2.1,r17.2.2.2.2.2.2))))),r19)
  else
   some ((r17.2.1,(r17.2.2.1,(r17.2.2.2.1,(r17.2.2.2.2.1,(r17.2.2.2.2.2.1,r17.2.2.2.2.2.2))))),r17.1)
def wD:Rd (E3×Int×FM×Int) E3:=fun next (data_0,a_1,cmp_3,j_9)=>
 (bif (decide (a_1<j_9))then in? data_0.length j_9 else some ()).bind fun _=>
 (bif (decide (a_1<j_9))then in? data_0.length (i64.wrap (j_9-1))else some ()).bind fun _=>
 (bif (decide (a_1<j_9))then cmp_3 ((data_0.getD j_9.toNat ([],[])),(data_0.getD ((i64.wrap (j_9-1)).toNat) ([],[])))else some 0).bind fun r3=>
 bif ((decide (a_1<j_9))&&(decide (r3<0)))then
  (in? data_0.length (i64.wrap (j_9-1))).bind fun _=>
  let v4:=(data_0.getD ((i64.wrap (j_9-1)).toNat) ([],[]))
  (in? data_0.length j_9).bind fun _=>
  (in? data_0.length j_9).bind fun _=>
  (in? (data_0.set j_9.toNat v4).length (i64.wrap (j_9-1))).bind fun _=>
  next (((data_0.set j_9.toNat v4).set ((i64.wrap (j_9-1)).toNat) (data_0.getD j_9.toNat ([],[]))),a_1,cmp_3,(i64.wrap (j_9-1)))
 else
  some data_0
def iY:=EI wD fuel
def wE:Rd (E3×Int×Int×FM×Int) E3:=fun next (data_0,a_1,b_2,cmp_3,i_8)=>
 bif (decide (i_8<b_2))then
  (iY (data_0,a_1,cmp_3,i_8)).bind fun r7=>
  next (r7,a_1,b_2,cmp_3,(i64.wrap (i_8+1)))
 else
  some data_0
def iZ:=EI wE fuel
def TW:E3×Int×Int×FM->Option E3:=fun(data_0,a_1,b_2,cmp_3)=>
 (iZ (data_0,a_1,b_2,cmp_3,(i64.wrap (a_1+1)))).bind fun r8=>
 some r8
def wF:Rd (E3×Int×Int×Int×Int) E3:=fun next (data_0,a_1,b_2,n_3,i_10)=>
 bif (decide (i_10<n_3))then
  (in? data_0.length (i64.wrap (b_2+i_10))).bind fun _=>
  let v1:=(data_0.getD ((i64.wrap (b_2+i_10)).toNat) ([],[]))
  (in? data_0.length (i64.wrap (a_1+i_10))).bind fun _=>
  (in? data_0.length (i64.wrap (a_1+i_10))).bind fun _=>
  (in? (data_0.set ((i64.wrap (a_1+i_10)).toNat) v1).length (i64.wrap (b_2+i_10))).bind fun _=>
  next (((data_0.set ((i64.wrap (a_1+i_10)).toNat) v1).set ((i64.wrap (b_2+i_10)).toNat) (data_0.getD ((i64.wrap (a_1+i_10)).toNat) ([],[]))),a_1,b_2,n_3,(i64.wrap (i_10+1)))
 else
  some data_0
def i_:=EI wF fuel
def QQ:E3×Int×Int×Int×FM->Option E3:=fun(data_0,a_1,b_2,n_3,cmp_4)=>
 (i_ (data_0,a_1,b_2,n_3,0)).bind fun r4=>
 some r4
def wG:Rd (E3×Int×FM×Int×Int) (E3×Int):=fun next (data_0,m_2,cmp_4,i_10,j_11)=>
 bif (!(E4 i_10 j_11))then
  bif (decide (j_11<i_10))then
   (QQ (data_0,(i64.wrap (m_2-i_10)),m_2,j_11,cmp_4)).bind fun r1=>
   next (r1,m_2,cmp_4,(i64.wrap (i_10-j_11)),j_11)
  else
   (QQ (data_0,(i64.wrap (m_2-i_10)),(i64.wrap ((i64.wrap (m_2+j_11))-i_10)),i_10,cmp_4)).bind fun r2=>
   next (r2,m_2,cmp_4,i_10,(i64.wrap (j_11-i_10)))
 else
  some (data_0,i_10)
def j0:=EI wG fuel
def YB:E3×Int×Int×Int×FM->Option E3:=fun(data_0,a_1,m_2,b_3,cmp_4)=>
 (j0 (data_0,m_2,cmp_4,(i64.wrap (m_2-a_1)),(i64.wrap (b_3-m_2)))).bind fun r3=>
 (QQ (r3.1,(i64.wrap (m_2-r3.2)),m_2,r3.2,cmp_4)).bind fun r4=>
 some r4
def wH(slf:E3×Int×Int×Int×FM->Option E3)(next:E3×Int×FM×Int×Int->Option (E3×Int)):E3×Int×FM×Int×Int->Option (E3×Int):=fun(data_0,a_1,cmp_4,i_10,j_11)=>
 bif (decide (i_10<j_11))then
  (shr? u64 (u64.wrap (i64.wrap (i_10+j_11))) 1).bind fun n1=>
  (in? data_0.length (i64.wrap n1)).bind fun _=>
  (in? data_0.length a_1).bind fun _=>
  (cmp_4 ((data_0.getD ((i64.wrap n1).toNat) ([],[])),(data_0.getD a_1.toNat ([],[])))).bind fun r4=>
  bif (decide (r4<0))then
   next (data_0,a_1,cmp_4,(i64.wrap ((i64.wrap n1)+1)),j_11)
  else
   next (data_0,a_1,cmp_4,i_10,(i64.wrap n1))
 else
  some (data_0,i_10)
def j5(slf:E3×Int×Int×Int×FM->Option E3):E3×Int×FM×Int×Int->Option (E3×Int):=EI (wH slf) fuel
def wI(slf:E3×Int×Int×Int×FM->Option E3)(next:E3×Int×Int->Option E3):E3×Int×Int->Option E3:=fun(data_0,i_10,k_13)=>
 bif (decide (k_13<(i64.wrap (i_10-1))))then
  (in? data_0.length (i64.wrap (k_13+1))).bind fun _=>
  let v6:=(data_0.getD ((i64.wrap (k_13+1)).toNat) ([],[]))
  (in? data_0.length k_13).bind fun _=>
  (in? data_0.length k_13).bind fun _=>
  (in? (data_0.set k_13.toNat v6).length (i64.wrap (k_13+1))).bind fun _=>
  next (((data_0.set k_13.toNat v6).set ((i64.wrap (k_13+1)).toNat) (data_0.getD k_13.toNat ([],[]))),i_10,(i64.wrap (k_13+1)))
 else
  some data_0
def j6(slf:E3×Int×Int×Int×FM->Option E3):E3×Int×Int->Option E3:=EI (wI slf) fuel
def wJ(slf:E3×Int×Int×Int×FM->Option E3)(next:E3×Int×FM×Int×Int->Option (E3×Int)):E3×Int×FM×Int×Int->Option (E3×Int):=fun(data_0,m_2,cmp_4,i_14,j_15)=>
 bif (decide (i_14<j_15))then
  (shr? u64 (u64.wrap (i64.wrap (i_14+j_15))) 1).bind fun n10=>
  (in? data_0.length m_2).bind fun _=>
  (in? data_0.length (i64.wrap n10)).bind fun _=>
  (cmp_4 ((data_0.getD m_2.toNat ([],[])),(data_0.getD ((i64.wrap n10).toNat) ([],[])))).bind fun r13=>
  bif (!(decide (r13<0)))then
   next (data_0,m_2,cmp_4,(i64.wrap ((i64.wrap n10)+1)),j_15)
  else
   next (data_0,m_2,cmp_4,i_14,(i64.wrap n10))
 else
  some (data_0,i_14)
def j7(slf:E3×Int×Int×Int×FM->Option E3):E3×Int×FM×Int×Int->Option (E3×Int):=EI (wJ slf) fuel
def wK(slf:E3×Int×Int×Int×FM->Option E3)(next:E3×Int×Int->Option E3):E3×Int×Int->Option E3:=fun(data_0,i_14,k_17)=>
 bif (decide (i_14<k_17))then
  (in? data_0.length (i64.wrap (k_17-1))).bind fun _=>
  let v15:=(data_0.getD ((i64.wrap (k_17-1)).toNat) ([],[]))
  (in? data_0.length k_17).bind fun _=>
  (in? data_0.length k_17).bind fun _=>
  (in? (data_0.set k_17.toNat v15).length (i64.wrap (k_17-1))).bind fun _=>
  next (((data_0.set k_17.toNat v15).set ((i64.wrap (k_17-1)).toNat) (data_0.getD k_17.toNat ([],[]))),i_14,(i64.wrap (k_17-1)))
 else
  some data_0
def j8(slf:E3×Int×Int×Int×FM->Option E3):E3×Int×Int->Option E3:=EI (wK slf) fuel
def YC(slf:E3×Int×Int×Int×FM->Option E3):Int×Int×Int×Int×Int×Bool->Option (Int×Int):=fun(a_1,m_2,b_3,mid_18,n_19,t140)=>
 bif t140 then
  some ((i64.wrap (n_19-b_3)),mid_18)
 else
  some (a_1,m_2)
def wL(slf:E3×Int×Int×Int×FM->Option E3)(next:E3×FM×Int×Int×Int->Option (E3×Int)):E3×FM×Int×Int×Int->Option (E3×Int):=fun(data_0,cmp_4,start_20,r_21,p_22)=>
 bif (decide (start_20<r_21))then
  (shr? u64 (u64.wrap (i64.wrap (start_20+r_21))) 1).bind fun n22=>
  (in? data_0.length (i64.wrap (p_22-(i64.wrap n22)))).bind fun _=>
  (in? data_0.length (i64.wrap n22)).bind fun _=>
  (cmp_4 ((data_0.getD ((i64.wrap (p_22-(i64.wrap n22))).toNat) ([],[])),(data_0.getD ((i64.wrap n22).toNat) ([],[])))).bind fun r25=>
  bif (!(decide (r25<0)))then
   next (data_0,cmp_4,(i64.wrap ((i64.wrap n22)+1)),r_21,p_22)
  else
   next (data_0,cmp_4,start_20,(i64.wrap n22),p_22)
 else
  some (data_0,start_20)
def j9(slf:E3×Int×Int×Int×FM->Option E3):E3×FM×Int×Int×Int->Option (E3×Int):=EI (wL slf) fuel
def YD(slf:E3×Int×Int×Int×FM->Option E3):E3×Int×FM×Int×Int×Bool->Option E3:=fun(data_0,m_2,cmp_4,start_20,end_24,t185)=>
 bif t185 then
  (YB (data_0,start_20,m_2,end_24,cmp_4)).bind fun r28=>
  some r28
 else
  some data_0
def YE(slf:E3×Int×Int×Int×FM->Option E3):E3×Int×FM×Int×Int×Bool->Option E3:=fun(data_0,a_1,cmp_4,mid_18,start_20,t199)=>
 bif t199 then
  (slf (data_0,a_1,start_20,mid_18,cmp_4)).bind fun r31=>
  some r31
 else
  some data_0
def jA(slf:E3×Int×Int×Int×FM->Option E3):E3×Int×Int×Int×FM->Option E3:=fun(data_0,a_1,m_2,b_3,cmp_4)=>
 bif (E4 (i64.wrap (m_2-a_1)) 1)then
  ((j5 slf) (data_0,a_1,cmp_4,m_2,b_3)).bind fun r5=>
  ((j6 slf) (r5.1,r5.2,a_1)).bind fun r9=>
  some r9
 else
  bif (E4 (i64.wrap (b_3-m_2)) 1)then
   ((j7 slf) (data_0,m_2,cmp_4,a_1,m_2)).bind fun r14=>
   ((j8 slf) (r14.1,r14.2,m_2)).bind fun r18=>
   some r18
  else
   (shr? u64 (u64.wrap (i64.wrap (a_1+b_3))) 1).bind fun n19=>
   ((YC slf) (a_1,m_2,b_3,(i64.wrap n19),(i64.wrap ((i64.wrap n19)+m_2)),(decide ((i64.wrap n19)<m_2)))).bind fun r20=>
   ((j9 slf) (data_0,cmp_4,r20.1,r20.2,(i64.wrap ((i64.wrap ((i64.wrap n19)+m_2))-1)))).bind fun r26=>
   let v27:=(i64.wrap ((i64.wrap ((i64.wrap n19)+m_2))-r26.2))
   ((YD slf) (r26.1,m_2,cmp_4,r26.2,v27,((decide (r26.2<m_2))&&(decide (m_2<v27))))).bind fun r29=>
   ((YE slf) (r29,a_1,cmp_4,(i64.wrap n19),r26.2,((decide (a_1<r26.2))&&(decide (r26.2<(i64.wrap n19)))))).bind fun r32=>
   bif ((decide ((i64.wrap n19)<v27))&&(decide (v27<b_3)))then
    (slf (r32,(i64.wrap n19),v27,b_3,cmp_4)).bind fun r34=>
    some r34
   else
    some r32
def K8:Nat->E3×Int×Int×Int×FM->Option E3
 |0=>fun _=>none
 |n+1=>jA (K8 n)
def TX:E3×Int×Int×Int×FM->Option E3:=K8 100
def wM:Rd (E3×Int×FM×Int×Int×Int) (E3×Int):=fun next (data_0,n_1,cmp_2,blockSize_6,a_7,b_8)=>
 bif (decide (b_8<=n_1))then
  (TW (data_0,a_7,b_8,cmp_2)).bind fun r1=>
  next (r1,n_1,cmp_2,blockSize_6,b_8,(i64.wrap (b_8+blockSize_6)))
 else
  some (data_0,a_7)
def jB:=EI wM fuel
def wO:Rd (E3×Int×FM×Int×Int×Int) (E3×Int):=fun next (data_0,n_1,cmp_2,blockSize_6,a_7,b_8)=>
 bif (decide (b_8<=n_1))then
  (TX (data_0,a_7,(i64.wrap (a_7+blockSize_6)),b_8,cmp_2)).bind fun r4=>
  next (r4,n_1,cmp_2,blockSize_6,b_8,(i64.wrap (b_8+(i64.wrap (2*blockSize_6)))))
 else
  some (data_0,a_7)
def jC:=EI wO fuel
def wP:Rd (E3×Int×FM×Int) E3:=fun next (data_0,n_1,cmp_2,blockSize_6)=>
 bif (decide (blockSize_6<n_1))then
  (jC (data_0,n_1,cmp_2,blockSize_6,0,(i64.wrap (2*blockSize_6)))).bind fun r6=>
  bif (decide ((i64.wrap (r6.2+blockSize_6))<n_1))then
   (TX (r6.1,r6.2,(i64.wrap (r6.2+blockSize_6)),n_1,cmp_2)).bind fun r7=>
   next (r7,n_1,cmp_2,(i64.wrap (blockSize_6*2)))
  else
   next (r6.1,n_1,cmp_2,(i64.wrap (blockSize_6*2)))
 else
  some data_0
def jD:=EI wP fuel
def YF:E3×Int×FM->Option E3:=fun(data_0,n_1,cmp_2)=>
 (jB (data_0,n_1,cmp_2,20,0,20)).bind fun r2=>
 (TW (r2.1,r2.2,n_1,cmp_2)).bind fun r3=>
 (jD (r3,n_1,cmp_2,20)).bind fun r8=>
 some r8
def YG:E3×FM->Option E3:=fun(x_0,cmp_1)=>
 (YF (x_0,(x_0.length:Int),cmp_1)).bind fun r1=>
 some r1
def QR:DZ->Option (Bool):=fun x_0=>
 some (!(EN x_0 x_0))
def L_:DZ×DZ->Option (Int):=fun(x_0,y_1)=>
 (QR x_0).bind fun r1=>
 (QR y_1).bind fun r2=>
 bif r1 then
  bif r2 then
   some 0
  else
   some (-1:Int)
 else
  bif r2 then
   some 1
  else
   bif (Op.bytesLess x_0 y_1)then
    some (-1:Int)
   else
    bif (!(Op.bytesLess x_0 y_1||EN x_0 y_1))then
     some 1
    else
     some 0
def YH:(DZ×DZ)×(DZ×DZ)->Option (Int):=fun(a_0,b_1)=>
 (L_ (a_0.1,b_1.1)).bind fun r1=>
 some r1
def YI:Unit->Option (List OL):=fun _=>
 some [([100,111,116,116,101,100],(2,(true,(false,1)))),([114,101,118,105,115,101,100],(3,(true,(false,2)))),([115,116,97,103,101,100],(1,(true,(true,3)))),([113,117,97,108,105,102,105,101,100],(3,(false,(false,4)))),([112,108,97,105,110],(2,(false,(false,5))))]
def wQ:Rd (DZ×(List OL)×Int) HV:=fun next (kind_0,t5,t6)=>
 bif (decide (t6<5))then
  (at? t5 t6).bind fun y2=>
  bif (EN y2.1 kind_0)then
   some (.inr t6)
  else
   next (kind_0,t5,(i64.wrap (t6+1)))
 else
  some (.inl ())
def jE:=EI wQ fuel
def YJ:DZ->Option (Int):=fun kind_0=>
 (YI ()).bind fun r1=>
 (jE (kind_0,r1,0)).bind fun r3=>
 match r3 with
 | .inl y4=>
  some (-1:Int)
 | .inr y4'=>
  some y4'
def QS:DZ->Option (OL×Int):=fun kind_0=>
 (YJ kind_0).bind fun r1=>
 bif (decide (r1<0))then
  some (([],(0,(false,(false,0)))),7)
 else
  (YI ()).bind fun r3=>
  (at? r3 r1).bind fun y4=>
  some (y4,0)
def wR:Rd ((List DZ)×Int×Int) MK:=fun next (t15,t16,t17)=>
 bif (decide (t17<t16))then
  (at? t15 t17).bind fun y2=>
  bif (decide (200<(y2.length:Int)))then
   some (.inr true)
  else
   next (t15,t16,(i64.wrap (t17+1)))
 else
  some (.inl ())
def jF:=EI wR fuel
def wS:Rd (E3×Int×Int) MK:=fun next (t26,t27,t28)=>
 bif (decide (t28<t27))then
  (at? t26 t28).bind fun y5=>
  bif ((decide (200<(y5.1.length:Int)))||(decide (200<(y5.2.length:Int))))then
   some (.inr true)
  else
   next (t26,t27,(i64.wrap (t28+1)))
 else
  some (.inl ())
def jG:=EI wS fuel
def YK:DZ×DZ×DZ×DZ×E3×DZ->Option (Bool):=fun p_0=>
 let v1:=[p_0.2.1,p_0.2.2.1,p_0.2.2.2.1,p_0.2.2.2.2.2]
 (jF (v1,(v1.length:Int),0)).bind fun r3=>
 match r3 with
 | .inl y4=>
  (jG (p_0.2.2.2.2.1,(p_0.2.2.2.2.1.length:Int),0)).bind fun r7=>
  match r7 with
  | .inl y8=>
   some (decide (10<(p_0.2.2.2.2.1.length:Int)))
  | .inr y8'=>
   some y8'
 | .inr y4'=>
  some y4'
def QT:DZ->Option (List DZ):=fun s_0=>
 bif (EN s_0 [])then
  some []
 else
  (strings_Split (s_0,[47])).bind fun r1=>
  some r1
def wT:Rd (Bool×(List DZ)×Int×Int) MK:=fun next (dots_1,t7,t8,t9)=>
 bif (decide (t9<t8))then
  (at? t7 t9).bind fun y1=>
  bif ((EN y1 [])||(dots_1&&((EN y1 [46])||(EN y1 [46,46]))))then
   some (.inr true)
  else
   next (dots_1,t7,t8,(i64.wrap (t9+1)))
 else
  some (.inl ())
def jH:=EI wT fuel
def TY:(List DZ)×Bool->Option (Bool):=fun(l_0,dots_1)=>
 (jH (dots_1,l_0,(l_0.length:Int),0)).bind fun r3=>
 match r3 with
 | .inl y4=>
  some (decide (10<(l_0.length:Int)))
 | .inr y4'=>
  some y4'
def wU:Rd F4 MK:=fun next (s_0,t5,t6)=>
 bif (decide (t6<t5))then
  (at? s_0 t6).bind fun b1=>
  (TV ((b1.toNat:Int),(E4 t6 0))).bind fun r2=>
  bif (!r2)then
   some (.inr false)
  else
   next (s_0,t5,(i64.wrap (t6+1)))
 else
  some (.inl ())
def jI:=EI wU fuel
def YL:DZ->Option (Bool):=fun s_0=>
 (jI (s_0,(s_0.length:Int),0)).bind fun r3=>
 match r3 with
 | .inl y4=>
  some (!(EN s_0 []))
 | .inr y4'=>
  some y4'
def wV:Rd (E3×E3×Int×Int) HV:=fun next (l_0,t5,t6,t7)=>
 bif (decide (t7<t6))then
  (at? t5 t7).bind fun y1=>
  (YL y1.1).bind fun r2=>
  bif (!r2)then
   some (.inr 8)
  else
   bif (EN y1.2 [])then
    some (.inr 2)
   else
    (bif (decide (0<t7))then at? l_0 (i64.wrap (t7-1))else some ([],[])).bind fun y3=>
    bif ((decide (0<t7))&&(Op.bytesLess y1.1 y3.1||EN y1.1 y3.1))then
     some (.inr 10)
    else
     next (l_0,t5,t6,(i64.wrap (t7+1)))
 else
  some (.inl ())
def jJ:=EI wV fuel
def YM:List (DZ×DZ)->Option (Int):=fun l_0=>
 (jJ (l_0,l_0,(l_0.length:Int),0)).bind fun r5=>
 match r5 with
 | .inl y6=>
  some 0
 | .inr y6'=>
  some y6'
def wW:Rd F4 MK:=fun next (s_0,t5,t6)=>
 bif (decide (t6<t5))then
  (at? s_0 t6).bind fun b1=>
  (bif (!(decide ((b1.toNat:Int)<32)))then at? s_0 t6 else some 0).bind fun b2=>
  bif ((decide ((b1.toNat:Int)<32))||(E4 (b2.toNat:Int) 127))then
   some (.inr true)
  else
   next (s_0,t5,(i64.wrap (t6+1)))
 else
  some (.inl ())
def jK:=EI wW fuel
def TZ:DZ->Option (Bool):=fun s_0=>
 (jK (s_0,(s_0.length:Int),0)).bind fun r4=>
 match r4 with
 | .inl y5=>
  some false
 | .inr y5'=>
  some y5'
def wX:Rd ((List DZ)×Int×Int) HV:=fun next (t75,t76,t77)=>
 bif (decide (t77<t76))then
  (at? t75 t77).bind fun y13=>
  (TZ y13).bind fun r14=>
  bif r14 then
   some (.inr 8)
  else
   next (t75,t76,(i64.wrap (t77+1)))
 else
  some (.inl ())
def jL:=EI wX fuel
def wY:Rd (E3×Int×Int) HV:=fun next (t85,t86,t87)=>
 bif (decide (t87<t86))then
  (at? t85 t87).bind fun y17=>
  (TZ y17.2).bind fun r18=>
  bif r18 then
   some (.inr 8)
  else
   next (t85,t86,(i64.wrap (t87+1)))
 else
  some (.inl ())
def jM:=EI wY fuel
def T_:DZ×DZ×DZ×DZ×E3×DZ->Option (Int):=fun p_0=>
 (QS p_0.1).bind fun r1=>
 bif (!(E4 r1.2 0))then
  some r1.2
 else
  (YK p_0).bind fun r2=>
  bif r2 then
   some 3
  else
   bif (((!(EN p_0.2.1 []))&&(E4 r1.1.2.1 1))||((EN p_0.2.1 [])&&(E4 r1.1.2.1 3)))then
    some 2
   else
    (QT p_0.2.1).bind fun r5=>
    (TY (r5,false)).bind fun r6=>
    bif r6 then
     some 2
    else
     (bif (!(EN p_0.2.2.1 []))then strings_IndexByte (p_0.2.2.1,47)else some 0).bind fun r7=>
     bif ((EN p_0.2.2.1 [])||(decide (0<=r7)))then
      some 8
     else
      (YM p_0.2.2.2.2.1).bind fun r9=>
      bif (!(E4 r9 0))then
       some r9
      else
       (QT p_0.2.2.2.2.2).bind fun r10=>
       (TY (r10,true)).bind fun r11=>
       bif r11 then
        some 2
       else
        let v12:=[p_0.2.1,p_0.2.2.1,p_0.2.2.2.1,p_0.2.2.2.2.2]
        (jL (v12,(v12.length:Int),0)).bind fun r15=>
        match r15 with
        | .inl y16=>
         (jM (p_0.2.2.2.2.1,(p_0.2.2.2.2.1.length:Int),0)).bind fun r19=>
         match r19 with
         | .inl y20=>
          some 0
         | .inr y20'=>
          some y20'
        | .inr y16'=>
         some y16'
def U0:Int->Option (Bool):=fun c_0=>
 some (((E4 c_0 45)||(E4 c_0 95))||(E4 c_0 46))
def M0:(List Int)×Int->Option (Unit×(List Int)):=fun(b_0,c_1)=>
 (XY b_0).bind fun r1=>
 (app? 24 r1 [c_1]).bind fun l2=>
 some ((),l2)
def wZ:Rd (DZ×(List Int)×Int×Int) (List Int):=fun next (s_0,b_3,t6,t7)=>
 bif (decide (t7<t6))then
  (at? s_0 t7).bind fun b1=>
  (U0 (b1.toNat:Int)).bind fun r2=>
  bif (!r2)then
   (at? s_0 t7).bind fun b3=>
   (M0 (b_3,(b3.toNat:Int))).bind fun r4=>
   next (s_0,r4.2,t6,(i64.wrap (t7+1)))
  else
   (bif (!(E4 t7 0))then at? s_0 (i64.wrap (t7-1))else some 0).bind fun b5=>
   (bif (!(E4 t7 0))then U0 (b5.toNat:Int)else some false).bind fun r6=>
   bif ((E4 t7 0)||(!r6))then
    (M0 (b_3,45)).bind fun r7=>
    next (s_0,r7.2,t6,(i64.wrap (t7+1)))
   else
    next (s_0,b_3,t6,(i64.wrap (t7+1)))
 else
  some b_3
def jN:=EI wZ fuel
def YN:DZ->Option DZ:=fun s_0=>
 (jN (s_0,[],(s_0.length:Int),0)).bind fun r8=>
 (MI r8).bind fun r9=>
 some r9
def YO:IZ×Bool->Option IZ:=fun(p_1,t12)=>
 bif t12 then
  (OM p_1.2.1).bind fun r2=>
  (OM p_1.2.2.1).bind fun r3=>
  some (p_1.1,(r2,(r3,p_1.2.2.2)))
 else
  some p_1
def U1:DZ×DZ×DZ×DZ×E3×DZ->Option IZ:=fun p_0=>
 (QS p_0.1).bind fun r1=>
 (YO (p_0,r1.1.2.2.1)).bind fun r4=>
 bif r1.1.2.2.2.1 then
  (YN r4.2.2.1).bind fun r5=>
  (app? 48 [] r4.2.2.2.2.1).bind fun l6=>
  some (r4.1,(r4.2.1,(r5,(r4.2.2.2.1,(l6,r4.2.2.2.2.2)))))
 else
  (app? 48 [] r4.2.2.2.2.1).bind fun l7=>
  some (r4.1,(r4.2.1,(r4.2.2.1,(r4.2.2.2.1,(l7,r4.2.2.2.2.2)))))
def w_:Rd (IZ×H6×Int) (Sum (IZ×H6) (IZ×Int×Int)):=fun next (t2,p_6,i_7)=>
 bif (decide (i_7<(p_6.2.2.2.2.1.length:Int)))then
  (in? p_6.2.2.2.2.1.length i_7).bind fun _=>
  (in? p_6.2.2.2.2.1.length (i64.wrap (i_7-1))).bind fun _=>
  bif (EN ((p_6.2.2.2.2.1.getD i_7.toNat ([],[])).1) ((p_6.2.2.2.2.1.getD ((i64.wrap (i_7-1)).toNat) ([],[])).1))then
   some (.inr (([],([],([],([],([],[]))))),0,5))
  else
   next (t2,(p_6.1,(p_6.2.1,(p_6.2.2.1,(p_6.2.2.2.1,(p_6.2.2.2.2.1,p_6.2.2.2.2.2))))),(i64.wrap (i_7+1)))
 else
  some (.inl (t2,(p_6.1,(p_6.2.1,(p_6.2.2.1,(p_6.2.2.2.1,(p_6.2.2.2.2.1,p_6.2.2.2.2.2)))))))
def jO:=EI w_ fuel
def U2:DZ->Option (IZ×Int×Int):=fun s_0=>
 bif (decide (3000<(s_0.length:Int)))then
  some (([],([],([],([],([],[]))))),0,3)
 else
  (YA (s_0,(0,(-1:Int)))).bind fun r2=>
  bif (decide (0<=r2.2.2.2))then
   some (([],([],([],([],([],[]))))),r2.2.2.2,6)
  else
   (YG (r2.1.2.2.2.2.1,(fun x=>(YH x).bind fun r=>some r))).bind fun r4=>
   (jO (([],([],([],([],([],[]))))),(r2.1.1,(r2.1.2.1,(r2.1.2.2.1,(r2.1.2.2.2.1,(r4,r2.1.2.2.2.2.2))))),1)).bind fun r8=>
   match r8 with
   | .inl y9=>
    (T_ (y9.2.1,(y9.2.2.1,(y9.2.2.2.1,(y9.2.2.2.2.1,(y9.2.2.2.2.2.1,y9.2.2.2.2.2.2)))))).bind fun r11=>
    bif (!(E4 r11 0))then
     some (([],([],([],([],([],[]))))),0,r11)
    else
     (U1 (y9.2.1,(y9.2.2.1,(y9.2.2.2.1,(y9.2.2.2.2.1,(y9.2.2.2.2.2.1,y9.2.2.2.2.2.2)))))).bind fun r14=>
     some (r14,0,0)
   | .inr y9'=>
    some (y9'.1,y9'.2.1,y9'.2.2)
def NM:(List Int)×DZ->Option (Int×Unit×(List Int)):=fun(b_0,s_1)=>
 (XY b_0).bind fun r1=>
 (app? 24 r1 (FX s_1)).bind fun l2=>
 some ((s_1.length:Int),(),l2)
def x3:Rd (DZ×(List Int)×Int×Int) (List Int):=fun next (s_0,b_3,t7,t8)=>
 bif (decide (t8<t7))then
  (at? s_0 t8).bind fun b1=>
  (TT (b1.toNat:Int)).bind fun r2=>
  let v3:=((decide (48<=(b1.toNat:Int)))&&(decide ((b1.toNat:Int)<=57)))
  (bif (!(r2||v3))then strings_IndexByte ([46,45,95,126],(b1.toNat:Int))else some 0).bind fun r4=>
  bif ((r2||v3)||(decide (0<=r4)))then
   (M0 (b_3,(b1.toNat:Int))).bind fun r5=>
   next (s_0,r5.2,t7,(i64.wrap (t8+1)))
  else
   (div? u8 (b1.toNat:Int) 16).bind fun q6=>
   (div? u8 (b1.toNat:Int) 16).bind fun q7=>
   (cut? [48,49,50,51,52,53,54,55,56,57,65,66,67,68,69,70] q6 (u8.wrap (q7+1))).bind fun s8=>
   (cat? [37] s8).bind fun s9=>
   (mod? (b1.toNat:Int) 16).bind fun q10=>
   (mod? (b1.toNat:Int) 16).bind fun q11=>
   (cut? [48,49,50,51,52,53,54,55,56,57,65,66,67,68,69,70] q10 (u8.wrap (q11+1))).bind fun s12=>
   (cat? s9 s12).bind fun s13=>
   (NM (b_3,s13)).bind fun r14=>
   next (s_0,r14.2.2,t7,(i64.wrap (t8+1)))
 else
  some b_3
def jP:=EI x3 fuel
def QU:DZ->Option DZ:=fun s_0=>
 (jP (s_0,[],(s_0.length:Int),0)).bind fun r15=>
 (MI r15).bind fun r16=>
 some r16
def x4:Rd ((List DZ)×(List DZ)×Int×Int) (List DZ):=fun next (l_3,t7,t8,t9)=>
 bif (decide (t9<t8))then
  (at? t7 t9).bind fun y2=>
  (QU y2).bind fun r3=>
  (app? 24 l_3 [r3]).bind fun l4=>
  next (l4,t7,t8,(i64.wrap (t9+1)))
 else
  some l_3
def jQ:=EI x4 fuel
def YP:DZ->Option DZ:=fun s_0=>
 (QT s_0).bind fun r1=>
 (jQ ([],r1,(r1.length:Int),0)).bind fun r5=>
 (strings_Join (r5,[47])).bind fun r6=>
 some r6
def YQ:DZ×DZ×DZ×DZ×E3×DZ->Option DZ:=fun p_0=>
 (cat? [112,107,103,58] p_0.1).bind fun s1=>
 (cat? s1 [47]).bind fun s2=>
 bif (!(EN p_0.2.1 []))then
  (YP p_0.2.1).bind fun r3=>
  (cat? r3 [47]).bind fun s4=>
  (cat? s2 s4).bind fun s5=>
  (QU p_0.2.2.1).bind fun r6=>
  (cat? s5 r6).bind fun s7=>
  some s7
 else
  (QU p_0.2.2.1).bind fun r8=>
  (cat? s2 r8).bind fun s9=>
  some s9
def U3:DZ×DZ×DZ×DZ×E3×DZ->Option (DZ×Int):=fun p_0=>
 (T_ p_0).bind fun r1=>
 bif (!(E4 r1 0))then
  some ([],r1)
 else
  (U1 p_0).bind fun r2=>
  (YQ r2).bind fun r3=>
  some (r3,0)
def NN:DZ->Option (Int×Bool):=fun name_0=>
 (U2 name_0).bind fun r1=>
 bif (!(E4 r1.2.2 0))then
  some (0,false)
 else
  (U3 r1.1).bind fun r2=>
  bif ((!(E4 r2.2 0))||(!(EN r2.1 name_0)))then
   some (0,false)
  else
   (QS r1.1.1).bind fun r3=>
   some (r3.1.2.2.2.2,(E4 r3.2 0))
def x5:Rd (DZ×Int×LX×Int) (Int):=fun next (s_0,at_1,is_2,n_7)=>
 let v1:=(decide ((i64.wrap (at_1+n_7))<(s_0.length:Int)))
 (bif v1 then at? s_0 (i64.wrap (at_1+n_7))else some 0).bind fun b2=>
 (bif v1 then is_2 (b2.toNat:Int)else some false).bind fun r3=>
 bif (v1&&r3)then
  next (s_0,at_1,is_2,(i64.wrap (n_7+1)))
 else
  some n_7
def jR:=EI x5 fuel
def HR:DZ×Int×LX->Option (Int):=fun(s_0,at_1,is_2)=>
 (jR (s_0,at_1,is_2,0)).bind fun r4=>
 some r4
def G_:Int->Option (Bool):=fun c_0=>
 some ((decide (48<=c_0))&&(decide (c_0<=57)))
def IK:DZ->Option (Int×Bool):=fun s_0=>
 let v1:=((EN s_0 [])||(decide (18<(s_0.length:Int))))
 (bif (!v1)then HR (s_0,0,(fun x=>(G_ x).bind fun r=>some r))else some 0).bind fun r2=>
 bif (v1||(!(E4 r2 (s_0.length:Int))))then
  some (0,false)
 else
  (XX s_0).bind fun r3=>
  some (r3.1,true)
def OO:DZ->Option (Int×Bool):=fun s_0=>
 (bif (decide (1<(s_0.length:Int)))then at? s_0 0 else some 0).bind fun b1=>
 bif ((decide (1<(s_0.length:Int)))&&(E4 (b1.toNat:Int) 48))then
  some (0,false)
 else
  (IK s_0).bind fun r3=>
  some (r3.1,r3.2)
def MM:Int->Option (Bool):=fun c_0=>
 some (((decide (65<=c_0))&&(decide (c_0<=90)))||((decide (97<=c_0))&&(decide (c_0<=122))))
def YR:Int->Option (Bool):=fun c_0=>
 (G_ c_0).bind fun r1=>
 (bif (!r1)then MM c_0 else some false).bind fun r2=>
 some ((r1||r2)||(E4 c_0 45))
def x6:Rd ((List DZ)×Int×Int) (Sum (Unit) K7):=fun next (t9,t10,t11)=>
 bif (decide (t11<t10))then
  (at? t9 t11).bind fun y2=>
  (bif (!(EN y2 []))then HR (y2,0,(fun x=>(YR x).bind fun r=>some r))else some 0).bind fun r3=>
  bif ((EN y2 [])||(!(E4 r3 (y2.length:Int))))then
   some (.inr ([],false))
  else
   next (t9,t10,(i64.wrap (t11+1)))
 else
  some (.inl ())
def jS:=EI x6 fuel
def U4:DZ->Option K7:=fun s_0=>
 (strings_Split (s_0,[46])).bind fun r1=>
 (jS (r1,(r1.length:Int),0)).bind fun r5=>
 match r5 with
 | .inl y6=>
  some (r1,true)
 | .inr y6'=>
  some (y6'.1,y6'.2)
def x7:Rd ((List DZ)×Int×Int) (Sum (Unit) K7):=fun next (t15,t16,t17)=>
 bif (decide (t17<t16))then
  (at? t15 t17).bind fun y2=>
  (HR (y2,0,(fun x=>(G_ x).bind fun r=>some r))).bind fun r3=>
  bif (E4 r3 (y2.length:Int))then
   (OO y2).bind fun r4=>
   bif (!r4.2)then
    some (.inr ([],false))
   else
    next (t15,t16,(i64.wrap (t17+1)))
  else
   next (t15,t16,(i64.wrap (t17+1)))
 else
  some (.inl ())
def jT:=EI x7 fuel
def YS:DZ->Option K7:=fun s_0=>
 (U4 s_0).bind fun r1=>
 (jT (r1.1,(r1.1.length:Int),0)).bind fun r5=>
 match r5 with
 | .inl y6=>
  some (r1.1,r1.2)
 | .inr y6'=>
  some (y6'.1,y6'.2)
def YT:DZ->Option K7:=fun s_0=>
 (strings_Cut (s_0,[43])).bind fun r1=>
 (U4 r1.2.1).bind fun r2=>
 bif (r1.2.2&&(!r2.2))then
  some ([],false)
 else
  bif (EN r1.1 [])then
   some ([],true)
  else
   (at? r1.1 0).bind fun b3=>
   bif (!(E4 (b3.toNat:Int) 45))then
    some ([],false)
   else
    (cut? r1.1 1 (r1.1.length:Int)).bind fun s4=>
    (YS s4).bind fun r5=>
    some (r5.1,r5.2)
def YU:DZ×Int×Bool->Option (Sum (Int) (GV×Bool)):=fun(s_0,at_5,t16)=>
 bif t16 then
  (bif (!(decide ((s_0.length:Int)<=at_5)))then at? s_0 at_5 else some 0).bind fun b1=>
  bif ((decide ((s_0.length:Int)<=at_5))||(!(E4 (b1.toNat:Int) 46)))then
   some (.inr ((Sum.inr (Sum.inr (Sum.inr (Sum.inr (Sum.inr ()))))),false))
  else
   some (.inl (i64.wrap (at_5+1)))
 else
  some (.inl at_5)
def x8:Rd (DZ×LE×Int×Int) (Sum (LE×Int) (GV×Bool)):=fun next (s_0,v_4,at_5,t12)=>
 bif (decide (t12<3))then
  (YU (s_0,at_5,(decide (0<t12)))).bind fun r3=>
  match r3 with
  | .inl y4=>
   (HR (s_0,y4,(fun x=>(G_ x).bind fun r=>some r))).bind fun r5=>
   (cut? s_0 y4 (i64.wrap (y4+r5))).bind fun s6=>
   (OO s6).bind fun r7=>
   bif (!r7.2)then
    some (.inr ((Sum.inr (Sum.inr (Sum.inr (Sum.inr (Sum.inr ()))))),false))
   else
    (in? 3 t12).bind fun _=>
    next (s_0,((v_4.1.set t12.toNat r7.1),v_4.2),(i64.wrap (y4+r5)),(i64.wrap (t12+1)))
  | .inr y4'=>
   some (.inr (y4'.1,y4'.2))
 else
  some (.inl ((v_4.1,v_4.2),at_5))
def jU:=EI x8 fuel
def YV:DZ->Option (GV×Bool):=fun s_0=>
 (jU (s_0,((List.replicate 3 0),[]),0,0)).bind fun r8=>
 match r8 with
 | .inl y9=>
  (cut? s_0 y9.2 (s_0.length:Int)).bind fun s10=>
  (YT s10).bind fun r11=>
  some ((Sum.inl (y9.1.1,r11.1)),r11.2)
 | .inr y9'=>
  some (y9'.1,y9'.2)
def YW:Int->Option (Bool):=fun c_0=>
 (G_ c_0).bind fun r1=>
 (bif (!r1)then MM c_0 else some false).bind fun r2=>
 (bif (!(r1||r2))then strings_IndexByte ([46,43,126,45],c_0)else some 0).bind fun r3=>
 some ((r1||r2)||(decide (0<=r3)))
def x9:Rd (DZ×Int) MK:=fun next (s_0,at_3)=>
 bif (decide (at_3<(s_0.length:Int)))then
  (HR (s_0,at_3,(fun x=>(G_ x).bind fun r=>some r))).bind fun r1=>
  bif (decide (18<r1))then
   some (.inr false)
  else
   next (s_0,(i64.wrap (at_3+(ST r1 1))))
 else
  some (.inl ())
def jV:=EI x9 fuel
def YX:DZ->Option (Bool):=fun s_0=>
 (jV (s_0,0)).bind fun r2=>
 match r2 with
 | .inl y3=>
  some true
 | .inr y3'=>
  some y3'
def YY:DZ×KQ×DZ×DZ×Bool->Option (Sum (DZ×KQ) (GV×Bool)):=fun(s_0,v_4,epoch_5,rest_6,t18)=>
 bif t18 then
  (OO epoch_5).bind fun r2=>
  bif (!r2.2)then
   some (.inr ((Sum.inr (Sum.inr (Sum.inr (Sum.inr (Sum.inr ()))))),false))
  else
   some (.inl (rest_6,(r2.1,v_4.2)))
 else
  some (.inl (s_0,v_4))
def YZ:DZ->Option (GV×Bool):=fun s_0=>
 (strings_Cut (s_0,[58])).bind fun r1=>
 (YY (s_0,(0,([],([],false))),r1.1,r1.2.1,r1.2.2)).bind fun r3=>
 match r3 with
 | .inl y4=>
  (bif (!(EN y4.1 []))then at? y4.1 0 else some 0).bind fun b5=>
  (bif (!(EN y4.1 []))then G_ (b5.toNat:Int)else some false).bind fun r6=>
  (bif (!((EN y4.1 [])||(!r6)))then HR (y4.1,0,(fun x=>(YW x).bind fun r=>some r))else some 0).bind fun r7=>
  let v8:=(((EN y4.1 [])||(!r6))||(!(E4 r7 (y4.1.length:Int))))
  (bif (!v8)then YX y4.1 else some false).bind fun r9=>
  bif (v8||(!r9))then
   some ((Sum.inr (Sum.inr (Sum.inr (Sum.inr (Sum.inr ()))))),false)
  else
   (strings_LastIndexByte (y4.1,45)).bind fun r10=>
   bif (decide (0<=r10))then
    (cut? y4.1 0 r10).bind fun s11=>
    (cut? y4.1 (i64.wrap (r10+1)) (y4.1.length:Int)).bind fun s12=>
    bif (EN s12 [])then
     some ((Sum.inr (Sum.inr (Sum.inr (Sum.inr (Sum.inr ()))))),false)
    else
     (strings_IndexByte (s11,45)).bind fun r13=>
     some ((Sum.inr (Sum.inl (y4.2.1,(s11,(s12,(decide (0<=r13))))))),true)
   else
    (strings_IndexByte (y4.1,45)).bind fun r15=>
    some ((Sum.inr (Sum.inl (y4.2.1,(y4.1,(y4.2.2.2.1,(decide (0<=r15))))))),true)
 | .inr y4'=>
  some (y4'.1,y4'.2)
def xA:Rd (DZ×(List Int)) ((List Int)×DZ×Bool):=fun next (s_0,out_5)=>
 (HR (s_0,0,(fun x=>(G_ x).bind fun r=>some r))).bind fun r1=>
 (cut? s_0 0 r1).bind fun s2=>
 (IK s2).bind fun r3=>
 bif (!r3.2)then
  some ([],[],false)
 else
  (app? 24 out_5 [r3.1]).bind fun l4=>
  (cut? s_0 r1 (s_0.length:Int)).bind fun s5=>
  (bif (!(decide ((s5.length:Int)<2)))then at? s5 0 else some 0).bind fun b6=>
  let v7:=((decide ((s5.length:Int)<2))||(!(E4 (b6.toNat:Int) 46)))
  (bif (!v7)then at? s5 1 else some 0).bind fun b8=>
  (bif (!v7)then G_ (b8.toNat:Int)else some false).bind fun r9=>
  bif (v7||(!r9))then
   some (l4,s5,true)
  else
   (cut? s5 1 (s5.length:Int)).bind fun s10=>
   next (s10,l4)
def jW:=EI xA fuel
def Y_:DZ->Option ((List Int)×DZ×Bool):=fun s_0=>
 (jW (s_0,[])).bind fun r11=>
 some (r11.1,r11.2.1,r11.2.2)
def jX:Int->Option (Bool):=fun c_0=>
 some (((E4 c_0 46)||(E4 c_0 45))||(E4 c_0 95))
def U5:DZ×LX->Option (Int):=fun(s_0,is_1)=>
 (bif (decide (1<(s_0.length:Int)))then at? s_0 0 else some 0).bind fun b1=>
 (bif (decide (1<(s_0.length:Int)))then jX (b1.toNat:Int)else some false).bind fun r2=>
 (bif ((decide (1<(s_0.length:Int)))&&r2)then at? s_0 1 else some 0).bind fun b3=>
 (bif ((decide (1<(s_0.length:Int)))&&r2)then is_1 (b3.toNat:Int)else some false).bind fun r4=>
 bif (((decide (1<(s_0.length:Int)))&&r2)&&r4)then
  some 1
 else
  some 0
def xB:Rd (DZ×DZ×(List DZ)×Int×Int) DZ:=fun next (s_0,word_2,t7,t8,t9)=>
 bif (decide (t9<t8))then
  (at? t7 t9).bind fun y2=>
  (strings_HasPrefix (s_0,y2)).bind fun r3=>
  bif r3 then
   some y2
  else
   next (s_0,word_2,t7,t8,(i64.wrap (t9+1)))
 else
  some word_2
def jY:=EI xB fuel
def Z0:DZ×Bool->Option (Bool):=fun(t18,t21)=>
 bif t21 then
  some t21
 else
  some (EN t18 [97,108,112,104,97])
def Z1:DZ×Bool->Option (Bool):=fun(t18,t25)=>
 bif t25 then
  some t25
 else
  some (EN t18 [98,101,116,97])
def Z2:DZ×Bool->Option (Bool):=fun(t18,t29)=>
 bif t29 then
  some t29
 else
  bif (EN t18 [114,99])then
   some (EN t18 [114,99])
  else
   bif (EN t18 [112,114,101])then
    some (EN t18 [112,114,101])
   else
    some (EN t18 [112,114,101,118,105,101,119])
def Z3:DZ->Option F4:=fun s_0=>
 let v1:=[[112,114,101,118,105,101,119],[97,108,112,104,97],[98,101,116,97],[112,111,115,116],[112,114,101],[114,101,118],[100,101,118],[114,99],[97],[98],[99],[114]]
 (jY (s_0,[],v1,(v1.length:Int),0)).bind fun r4=>
 bif (EN r4 [])then
  some ([],0,0)
 else
  (Z0 (r4,(EN r4 [97]))).bind fun r5=>
  bif r5 then
   some (r4,1,1)
  else
   (Z1 (r4,(EN r4 [98]))).bind fun r6=>
   bif r6 then
    some (r4,1,2)
   else
    (Z2 (r4,(EN r4 [99]))).bind fun r7=>
    bif r7 then
     some (r4,1,3)
    else
     bif (EN r4 [112,111,115,116])then
      bif (EN r4 [112,111,115,116])then
       some (r4,2,0)
      else
       some (r4,3,0)
     else
      bif (EN r4 [114,101,118])then
       bif (EN r4 [114,101,118])then
        some (r4,2,0)
       else
        some (r4,3,0)
      else
       bif (EN r4 [114])then
        some (r4,2,0)
       else
        some (r4,3,0)
def Z4:DZ×Int×Int×Bool->Option (Sum (DZ×Int) (DZ×Bool)):=fun(rest_7,n_11,k_12,t49)=>
 bif t49 then
  (HR (rest_7,k_12,(fun x=>(G_ x).bind fun r=>some r))).bind fun r9=>
  (cut? rest_7 k_12 (i64.wrap (k_12+r9))).bind fun s10=>
  (IK s10).bind fun r11=>
  bif (!r11.2)then
   some (.inr ([],false))
  else
   (cut? rest_7 (i64.wrap (k_12+r9)) (rest_7.length:Int)).bind fun s12=>
   some (.inl (s12,r11.1))
 else
  some (.inl (rest_7,n_11))
def xC:Rd (G6×DZ×Int) (G6×DZ×Bool):=fun next (v_0,s_1,last_6)=>
 (U5 (s_1,(fun x=>(MM x).bind fun r=>some r))).bind fun r1=>
 (cut? s_1 r1 (s_1.length:Int)).bind fun s2=>
 (Z3 s2).bind fun r3=>
 bif (EN r3.1 [])then
  some (v_0,s_1,true)
 else
  bif (decide (r3.2.1<=last_6))then
   some (v_0,[],false)
  else
   (cut? s2 (r3.1.length:Int) (s2.length:Int)).bind fun s4=>
   (U5 (s4,(fun x=>(G_ x).bind fun r=>some r))).bind fun r5=>
   (bif ((!(decide (0<r5)))&&(!(EN s4 [])))then at? s4 0 else some 0).bind fun b6=>
   (bif ((!(decide (0<r5)))&&(!(EN s4 [])))then G_ (b6.toNat:Int)else some false).bind fun r7=>
   (Z4 (s4,0,r5,((decide (0<r5))||((!(EN s4 []))&&r7)))).bind fun r13=>
   match r13 with
   | .inl y14=>
    bif (E4 r3.2.1 1)then
     next ((v_0.1,(v_0.2.1,(r3.2.2,(y14.2,v_0.2.2.2.2)))),y14.1,r3.2.1)
    else
     bif (E4 r3.2.1 2)then
      next ((v_0.1,(v_0.2.1,(v_0.2.2.1,(v_0.2.2.2.1,(y14.2,v_0.2.2.2.2.2))))),y14.1,r3.2.1)
     else
      bif (E4 r3.2.1 3)then
       next ((v_0.1,(v_0.2.1,(v_0.2.2.1,(v_0.2.2.2.1,(v_0.2.2.2.2.1,(y14.2,v_0.2.2.2.2.2.2)))))),y14.1,r3.2.1)
      else
       next (v_0,y14.1,r3.2.1)
   | .inr y14'=>
    some (v_0,y14'.1,y14'.2)
def jZ:=EI xC fuel
def Z5:G6×DZ->Option (DZ×Bool×G6):=fun(v_0,s_1)=>
 (jZ (v_0,s_1,0)).bind fun r15=>
 some (r15.2.1,r15.2.2,r15.1)
def j_:Int->Option (Bool):=fun c_0=>
 some (((E4 c_0 46)||(E4 c_0 45))||(E4 c_0 95))
def Z6:Int->Option (Bool):=fun c_0=>
 (G_ c_0).bind fun r1=>
 (bif (!r1)then MM c_0 else some false).bind fun r2=>
 some (r1||r2)
def xD:Rd (Int×(List DZ)×Int×Int) (Sum (Int) K7):=fun next (n_5,t13,t14,t15)=>
 bif (decide (t15<t14))then
  (at? t13 t15).bind fun y2=>
  (HR (y2,0,(fun x=>(G_ x).bind fun r=>some r))).bind fun r3=>
  (HR (y2,0,(fun x=>(Z6 x).bind fun r=>some r))).bind fun r4=>
  bif ((!(E4 r4 (y2.length:Int)))||((E4 r3 (y2.length:Int))&&(decide (18<r3))))then
   some (.inr ([],false))
  else
   next ((i64.wrap (n_5+(y2.length:Int))),t13,t14,(i64.wrap (t15+1)))
 else
  some (.inl n_5)
def k9:=EI xD fuel
def Z7:DZ->Option K7:=fun s_0=>
 (QP (s_0,(fun x=>(j_ x).bind fun r=>some r))).bind fun r1=>
 (k9 ((r1.length:Int),r1,(r1.length:Int),0)).bind fun r6=>
 match r6 with
 | .inl y7=>
  some (r1,((decide (0<(r1.length:Int)))&&(E4 (i64.wrap (y7-1)) (s_0.length:Int))))
 | .inr y7'=>
  some (y7'.1,y7'.2)
def Z8:DZ×G6×Int×Bool->Option (Sum (DZ×G6) (GV×Bool)):=fun(s_0,v_4,n_5,t29)=>
 bif t29 then
  (cut? s_0 0 n_5).bind fun s6=>
  (IK s6).bind fun r7=>
  bif (!r7.2)then
   some (.inr ((Sum.inr (Sum.inr (Sum.inr (Sum.inr (Sum.inr ()))))),false))
  else
   (cut? s_0 (i64.wrap (n_5+1)) (s_0.length:Int)).bind fun s8=>
   some (.inl (s8,(r7.1,v_4.2)))
 else
  some (.inl (s_0,v_4))
def Z9:DZ->Option (GV×Bool):=fun s_0=>
 (strings_TrimPrefix (s_0,[118])).bind fun r2=>
 (HR (r2,0,(fun x=>(G_ x).bind fun r=>some r))).bind fun r3=>
 (bif (decide (r3<(r2.length:Int)))then at? r2 r3 else some 0).bind fun b4=>
 (Z8 (r2,(0,([],(0,(0,((-1:Int),((-1:Int),[])))))),r3,((decide (r3<(r2.length:Int)))&&(E4 (b4.toNat:Int) 33)))).bind fun r9=>
 match r9 with
 | .inl y10=>
  (Y_ y10.1).bind fun r11=>
  bif (!r11.2.2)then
   some ((Sum.inr (Sum.inr (Sum.inr (Sum.inr (Sum.inr ()))))),false)
  else
   (Z5 ((y10.2.1,(r11.1,y10.2.2.2)),r11.2.1)).bind fun r12=>
   bif (!r12.2.1)then
    some ((Sum.inr (Sum.inr (Sum.inr (Sum.inr (Sum.inr ()))))),false)
   else
    (strings_CutPrefix (r12.1,[43])).bind fun r13=>
    bif r13.2 then
     (Z7 r13.1).bind fun r14=>
     some ((Sum.inr (Sum.inr (Sum.inl (r12.2.2.1,(r12.2.2.2.1,(r12.2.2.2.2.1,(r12.2.2.2.2.2.1,(r12.2.2.2.2.2.2.1,(r12.2.2.2.2.2.2.2.1,r14.1))))))))),r14.2)
    else
     some ((Sum.inr (Sum.inr (Sum.inl r12.2.2))),(EN r12.1 []))
 | .inr y10'=>
  some (y10'.1,y10'.2)
def ZA:DZ×Bool->Option DZ:=fun(w_0,followed_1)=>
 (TQ w_0).bind fun r1=>
 bif ((EN r1 [97])&&followed_1)then
  some [97,108,112,104,97]
 else
  bif ((EN r1 [98])&&followed_1)then
   some [98,101,116,97]
  else
   bif ((EN r1 [109])&&followed_1)then
    some [109,105,108,101,115,116,111,110,101]
   else
    bif (EN r1 [99,114])then
     some [114,99]
    else
     bif (((EN r1 [102,105,110,97,108])||(EN r1 [103,97]))||(EN r1 [114,101,108,101,97,115,101]))then
      some []
     else
      some r1
def QV:Bool×DZ×Int->Option (Bool):=fun t_0=>
 some ((t_0.1&&(EN t_0.2.1 []))||((!t_0.1)&&(E4 t_0.2.2 0)))
def ZB:DZ×Int×Bool->Option (Sum (Int) (GV×Bool)):=fun(s_0,at_5,t24)=>
 bif t24 then
  let v4:=(E4 at_5 (i64.wrap ((s_0.length:Int)-1)))
  (bif (!((E4 at_5 0)||v4))then at? s_0 (i64.wrap (at_5+1))else some 0).bind fun b5=>
  (bif (!((E4 at_5 0)||v4))then G_ (b5.toNat:Int)else some false).bind fun r6=>
  (bif ((!((E4 at_5 0)||v4))&&(!r6))then at? s_0 (i64.wrap (at_5+1))else some 0).bind fun b7=>
  (bif ((!((E4 at_5 0)||v4))&&(!r6))then MM (b7.toNat:Int)else some false).bind fun r8=>
  bif (((E4 at_5 0)||v4)||((!r6)&&(!r8)))then
   some (.inr ((Sum.inr (Sum.inr (Sum.inr (Sum.inr (Sum.inr ()))))),false))
  else
   some (.inl (i64.wrap (at_5+1)))
 else
  some (.inl at_5)
def xE:Rd (DZ×(List GA)×Int) (Sum (List GA) (GV×Bool)):=fun next (s_0,v_4,at_5)=>
 bif (decide (at_5<(s_0.length:Int)))then
  (at? s_0 at_5).bind fun b1=>
  (bif (!(E4 (b1.toNat:Int) 46))then at? s_0 at_5 else some 0).bind fun b2=>
  (ZB (s_0,at_5,((E4 (b1.toNat:Int) 46)||(E4 (b2.toNat:Int) 45)))).bind fun r9=>
  match r9 with
  | .inl y10=>
   (HR (s_0,y10,(fun x=>(G_ x).bind fun r=>some r))).bind fun r11=>
   bif (decide (0<r11))then
    (cut? s_0 y10 (i64.wrap (y10+r11))).bind fun s12=>
    (IK s12).bind fun r13=>
    bif (!r13.2)then
     some (.inr ((Sum.inr (Sum.inr (Sum.inr (Sum.inr (Sum.inr ()))))),false))
    else
     (app? 72 v_4 [(false,([],r13.1))]).bind fun l15=>
     next (s_0,l15,(i64.wrap (y10+r11)))
   else
    (HR (s_0,y10,(fun x=>(MM x).bind fun r=>some r))).bind fun r16=>
    bif (E4 r16 0)then
     some (.inr ((Sum.inr (Sum.inr (Sum.inr (Sum.inr (Sum.inr ()))))),false))
    else
     let v17:=(decide ((i64.wrap (y10+r16))<(s_0.length:Int)))
     (bif v17 then at? s_0 (i64.wrap (y10+r16))else some 0).bind fun b18=>
     (bif v17 then G_ (b18.toNat:Int)else some false).bind fun r19=>
     (cut? s_0 y10 (i64.wrap (y10+r16))).bind fun s20=>
     (ZA (s20,(v17&&r19))).bind fun r21=>
     (app? 72 v_4 [(true,(r21,0))]).bind fun l23=>
     next (s_0,l23,(i64.wrap (y10+r16)))
  | .inr y10'=>
   some (.inr (y10'.1,y10'.2))
 else
  some (.inl v_4)
def kA:=EI xE fuel
def xF:Rd (List GA) (List GA):=fun next v_4=>
 (bif (decide (0<(v_4.length:Int)))then at? v_4 (i64.wrap ((v_4.length:Int)-1))else some (false,([],0))).bind fun y29=>
 (bif (decide (0<(v_4.length:Int)))then QV y29 else some false).bind fun r30=>
 bif ((decide (0<(v_4.length:Int)))&&r30)then
  (cut? v_4 0 (i64.wrap ((v_4.length:Int)-1))).bind fun s31=>
  next s31
 else
  some v_4
def kB:=EI xF fuel
def ZC:DZ->Option (GV×Bool):=fun s_0=>
 (kA (s_0,[],0)).bind fun r24=>
 match r24 with
 | .inl y25=>
  (kB y25).bind fun r32=>
  some ((Sum.inr (Sum.inr (Sum.inr (Sum.inl r32)))),true)
 | .inr y25'=>
  some (y25'.1,y25'.2)
def ZD:DZ->Option (GV×Bool):=fun s_0=>
 (OO s_0).bind fun r1=>
 some ((Sum.inr (Sum.inr (Sum.inr (Sum.inr (Sum.inl r1.1))))),r1.2)
def IL:Int×DZ->Option (GV×Int):=fun(kind_0,s_1)=>
 bif ((decide (kind_0<1))||(decide (5<kind_0)))then
  some ((Sum.inr (Sum.inr (Sum.inr (Sum.inr (Sum.inr ()))))),7)
 else
  bif ((EN s_1 [])||(decide (100<(s_1.length:Int))))then
   some ((Sum.inr (Sum.inr (Sum.inr (Sum.inr (Sum.inr ()))))),3)
  else
   bif (E4 kind_0 1)then
    (YV s_1).bind fun r3=>
    bif (!r3.2)then
     some ((Sum.inr (Sum.inr (Sum.inr (Sum.inr (Sum.inr ()))))),6)
    else
     some (r3.1,0)
   else
    bif (E4 kind_0 2)then
     (YZ s_1).bind fun r4=>
     bif (!r4.2)then
      some ((Sum.inr (Sum.inr (Sum.inr (Sum.inr (Sum.inr ()))))),6)
     else
      some (r4.1,0)
    else
     bif (E4 kind_0 3)then
      (TQ s_1).bind fun r5=>
      (Z9 r5).bind fun r6=>
      bif (!r6.2)then
       some ((Sum.inr (Sum.inr (Sum.inr (Sum.inr (Sum.inr ()))))),6)
      else
       some (r6.1,0)
     else
      bif (E4 kind_0 4)then
       (ZC s_1).bind fun r7=>
       bif (!r7.2)then
        some ((Sum.inr (Sum.inr (Sum.inr (Sum.inr (Sum.inr ()))))),6)
       else
        some (r7.1,0)
      else
       bif (E4 kind_0 5)then
        (ZD s_1).bind fun r8=>
        bif (!r8.2)then
         some ((Sum.inr (Sum.inr (Sum.inr (Sum.inr (Sum.inr ()))))),6)
        else
         some (r8.1,0)
       else
        bif (!false)then
         some ((Sum.inr (Sum.inr (Sum.inr (Sum.inr (Sum.inr ()))))),6)
        else
         some ((Sum.inr (Sum.inr (Sum.inr (Sum.inr (Sum.inr ()))))),0)
def ZE:Int×DZ->Option (Int):=fun(kind_0,s_1)=>
 (IL (kind_0,s_1)).bind fun r1=>
 some r1.2
def OP:DZ×DZ->Option (Int×Int):=fun(name_0,v_1)=>
 (NN name_0).bind fun r1=>
 bif (!r1.2)then
  some (0,8)
 else
  (ZE (r1.1,v_1)).bind fun r2=>
  some (r1.1,r2)
def xG:Rd ((List DZ)×(List Int)×Int×Int) (List DZ):=fun next (parts_3,t6,t7,t8)=>
 bif (decide (t8<t7))then
  (at? t6 t8).bind fun y1=>
  (strconv_Itoa y1).bind fun r2=>
  (app? 24 parts_3 [r2]).bind fun l3=>
  next (l3,t6,t7,(i64.wrap (t8+1)))
 else
  some parts_3
def kC:=EI xG fuel
def U6:List Int->Option DZ:=fun l_0=>
 (kC ([],l_0,(l_0.length:Int),0)).bind fun r4=>
 (strings_Join (r4,[46])).bind fun r5=>
 some r5
def U7:(List Int)×(List DZ)->Option DZ:=fun v_0=>
 (cut? v_0.1 0 (v_0.1.length:Int)).bind fun s1=>
 (U6 s1).bind fun r2=>
 bif (decide (0<(v_0.2.length:Int)))then
  (strings_Join (v_0.2,[46])).bind fun r3=>
  (cat? [45] r3).bind fun s4=>
  (cat? r2 s4).bind fun s5=>
  some s5
 else
  some r2
def xH:Rd (DZ×(List Int)×Int) (List Int):=fun next (s_0,b_3,at_4)=>
 bif (decide (at_4<(s_0.length:Int)))then
  (HR (s_0,at_4,(fun x=>(G_ x).bind fun r=>some r))).bind fun r1=>
  bif (E4 r1 0)then
   (at? s_0 at_4).bind fun b2=>
   (M0 (b_3,(b2.toNat:Int))).bind fun r3=>
   next (s_0,r3.2,(i64.wrap (at_4+1)))
  else
   (cut? s_0 at_4 (i64.wrap (at_4+r1))).bind fun s4=>
   (IK s4).bind fun r5=>
   bif (((!(E4 r5.1 0))||(decide ((i64.wrap (at_4+r1))<(s_0.length:Int))))||(E4 r1 (s_0.length:Int)))then
    (strconv_Itoa r5.1).bind fun r8=>
    (NM (b_3,r8)).bind fun r9=>
    next (s_0,r9.2.2,(i64.wrap (at_4+r1)))
   else
    next (s_0,b_3,(i64.wrap (at_4+r1)))
 else
  some b_3
def kD:=EI xH fuel
def U8:DZ->Option DZ:=fun s_0=>
 (kD (s_0,[],0)).bind fun r10=>
 (MI r10).bind fun r11=>
 some r11
def U9:Int×DZ×DZ×Bool->Option DZ:=fun v_0=>
 bif (EN v_0.2.2.1 [])then
  some [48]
 else
  some v_0.2.2.1
def ZF:Int->Option (Bool):=fun c_0=>
 (G_ c_0).bind fun r1=>
 some (!r1)
def xI:Rd (DZ×(List Int)×Int×Int) (List Int):=fun next (s_0,b_3,t6,t7)=>
 bif (decide (t7<t6))then
  (at? s_0 t7).bind fun b1=>
  bif (E4 (b1.toNat:Int) 126)then
   (M0 (b_3,1)).bind fun r2=>
   next (s_0,r2.2,t6,(i64.wrap (t7+1)))
  else
   (at? s_0 t7).bind fun b3=>
   (MM (b3.toNat:Int)).bind fun r4=>
   bif r4 then
    (at? s_0 t7).bind fun b5=>
    (M0 (b_3,(b5.toNat:Int))).bind fun r6=>
    next (s_0,r6.2,t6,(i64.wrap (t7+1)))
   else
    (at? s_0 t7).bind fun b7=>
    (M0 (b_3,(u8.wrap ((b7.toNat:Int)+128)))).bind fun r8=>
    next (s_0,r8.2,t6,(i64.wrap (t7+1)))
 else
  some b_3
def kE:=EI xI fuel
def ZG:DZ->Option DZ:=fun s_0=>
 (kE (s_0,[],(s_0.length:Int),0)).bind fun r9=>
 (MI r9).bind fun r10=>
 (cat? r10 [2]).bind fun s11=>
 some s11
def IM:Int->Option DZ:=fun n_0=>
 (strconv_Itoa n_0).bind fun r1=>
 (strings_Repeat ([48],(i64.wrap (18-(r1.length:Int))))).bind fun r2=>
 (cat? r2 r1).bind fun s3=>
 some s3
def xJ:Rd (DZ×(List Int)) (List Int):=fun next (s_0,b_3)=>
 bif (!(EN s_0 []))then
  (HR (s_0,0,(fun x=>(ZF x).bind fun r=>some r))).bind fun r1=>
  (HR (s_0,r1,(fun x=>(G_ x).bind fun r=>some r))).bind fun r2=>
  (cut? s_0 r1 (i64.wrap (r1+r2))).bind fun s3=>
  (IK s3).bind fun r4=>
  (cut? s_0 0 r1).bind fun s5=>
  (ZG s5).bind fun r6=>
  (IM r4.1).bind fun r7=>
  (cat? r6 r7).bind fun s8=>
  (NM (b_3,s8)).bind fun r9=>
  (cut? s_0 (i64.wrap (r1+r2)) (s_0.length:Int)).bind fun s10=>
  next (s10,r9.2.2)
 else
  some b_3
def kF:=EI xJ fuel
def OQ:DZ->Option DZ:=fun s_0=>
 (kF (s_0,[])).bind fun r11=>
 (MI r11).bind fun r12=>
 (cat? r12 [2]).bind fun s13=>
 some s13
def ZH:KQ×DZ×Bool->Option (KQ×DZ):=fun(v_1,s_3,t9)=>
 bif t9 then
  (strconv_Itoa v_1.1).bind fun r2=>
  (cat? r2 [58]).bind fun s3=>
  (cat? s3 s_3).bind fun s4=>
  some (v_1,s4)
 else
  some (v_1,s_3)
def UA:Int×DZ×DZ×Bool->Option DZ:=fun v_0=>
 (U8 v_0.2.1).bind fun r1=>
 (ZH (v_0,r1,(!(E4 v_0.1 0)))).bind fun r5=>
 (U9 r5.1).bind fun r6=>
 (OQ r6).bind fun r7=>
 (OQ [48]).bind fun r8=>
 bif (!(EN r7 r8))then
  (cat? r5.2 [45]).bind fun s9=>
  (U8 r5.1.2.2.1).bind fun r10=>
  (cat? s9 r10).bind fun s11=>
  some s11
 else
  bif r5.1.2.2.2 then
   (cat? r5.2 [45,48]).bind fun s12=>
   some s12
  else
   some r5.2
def xK:Rd (List Int) (List Int):=fun next l_0=>
 (bif (decide (0<(l_0.length:Int)))then at? l_0 (i64.wrap ((l_0.length:Int)-1))else some 0).bind fun y1=>
 bif ((decide (0<(l_0.length:Int)))&&(E4 y1 0))then
  (cut? l_0 0 (i64.wrap ((l_0.length:Int)-1))).bind fun s3=>
  next s3
 else
  some l_0
def kG:=EI xK fuel
def UB:List Int->Option (List Int):=fun l_0=>
 (kG l_0).bind fun r4=>
 some r4
def ZI:G6×DZ×Bool->Option (G6×DZ):=fun(v_1,s_3,t11)=>
 bif t11 then
  (strconv_Itoa v_1.1).bind fun r1=>
  (cat? r1 [33]).bind fun s2=>
  some (v_1,s2)
 else
  some (v_1,s_3)
def ZJ:DZ×(List Int)×Bool->Option DZ:=fun(s_3,l_4,t21)=>
 bif t21 then
  (U6 l_4).bind fun r5=>
  (cat? s_3 r5).bind fun s6=>
  some s6
 else
  (cat? s_3 [48]).bind fun s7=>
  some s7
def ZK:G6×DZ×Bool->Option (G6×DZ):=fun(v_1,s_3,t30)=>
 bif t30 then
  (at? [[],[97],[98],[114,99]] v_1.2.2.1).bind fun y10=>
  (strconv_Itoa v_1.2.2.2.1).bind fun r11=>
  (cat? y10 r11).bind fun s12=>
  (cat? s_3 s12).bind fun s13=>
  some (v_1,s13)
 else
  some (v_1,s_3)
def ZL:G6×DZ×Bool->Option (G6×DZ):=fun(v_1,s_3,t44)=>
 bif t44 then
  (strconv_Itoa v_1.2.2.2.2.1).bind fun r15=>
  (cat? [46,112,111,115,116] r15).bind fun s16=>
  (cat? s_3 s16).bind fun s17=>
  some (v_1,s17)
 else
  some (v_1,s_3)
def ZM:G6×DZ×Bool->Option (G6×DZ):=fun(v_1,s_3,t53)=>
 bif t53 then
  (strconv_Itoa v_1.2.2.2.2.2.1).bind fun r19=>
  (cat? [46,100,101,118] r19).bind fun s20=>
  (cat? s_3 s20).bind fun s21=>
  some (v_1,s21)
 else
  some (v_1,s_3)
def ZN:DZ×Int×Bool->Option DZ:=fun(p_6,n_7,t73)=>
 bif t73 then
  (strconv_Itoa n_7).bind fun r25=>
  some r25
 else
  some p_6
def xL:Rd (DZ×(List DZ)×Int×Int) DZ:=fun next (s_3,t61,t62,t63)=>
 bif (decide (t63<t62))then
  (at? t61 t63).bind fun y23=>
  (IK y23).bind fun r24=>
  (ZN (y23,r24.1,r24.2)).bind fun r26=>
  bif (E4 t63 0)then
   (cat? [43] r26).bind fun s27=>
   (cat? s_3 s27).bind fun s28=>
   next (s28,t61,t62,(i64.wrap (t63+1)))
  else
   (cat? [46] r26).bind fun s29=>
   (cat? s_3 s29).bind fun s30=>
   next (s30,t61,t62,(i64.wrap (t63+1)))
 else
  some s_3
def kH:=EI xL fuel
def UC:Int×(List Int)×Int×Int×Int×Int×(List DZ)->Option DZ:=fun v_0=>
 (ZI (v_0,[],(!(E4 v_0.1 0)))).bind fun r3=>
 (UB r3.1.2.1).bind fun r4=>
 (ZJ (r3.2,r4,(decide (0<(r4.length:Int))))).bind fun r8=>
 (ZK (r3.1,r8,(decide (0<r3.1.2.2.1)))).bind fun r14=>
 (ZL (r14.1,r14.2,(decide (0<=r14.1.2.2.2.2.1)))).bind fun r18=>
 (ZM (r18.1,r18.2,(decide (0<=r18.1.2.2.2.2.2.1)))).bind fun r22=>
 (kH (r22.2,r22.1.2.2.2.2.2.2,(r22.1.2.2.2.2.2.2.length:Int),0)).bind fun r31=>
 some r31
def xM:Rd ((List DZ)×(List GA)×Int×Int) (List DZ):=fun next (l_3,t7,t8,t9)=>
 bif (decide (t9<t8))then
  (at? t7 t9).bind fun y1=>
  (QV y1).bind fun r2=>
  bif r2 then
   (app? 24 l_3 [[48]]).bind fun l3=>
   next (l3,t7,t8,(i64.wrap (t9+1)))
  else
   bif y1.1 then
    (app? 24 l_3 [y1.2.1]).bind fun l4=>
    next (l4,t7,t8,(i64.wrap (t9+1)))
   else
    (strconv_Itoa y1.2.2).bind fun r5=>
    (app? 24 l_3 [r5]).bind fun l6=>
    next (l6,t7,t8,(i64.wrap (t9+1)))
 else
  some l_3
def kI:=EI xM fuel
def UD:List GA->Option DZ:=fun v_0=>
 (kI ([],v_0,(v_0.length:Int),0)).bind fun r7=>
 bif (E4 (r7.length:Int) 0)then
  some [48]
 else
  (strings_Join (r7,[45])).bind fun r8=>
  some r8
def UE:Int->Option DZ:=fun v_0=>
 (strconv_Itoa v_0).bind fun r1=>
 some r1
def xN:Rd ((Int->Option DZ)×(List Int)×(List Int)×Int×Int) (List Int):=fun next (one_2,b_7,t10,t11,t12)=>
 bif (decide (t12<t11))then
  (at? t10 t12).bind fun y1=>
  (one_2 y1).bind fun r2=>
  (NM (b_7,r2)).bind fun r3=>
  next (one_2,r3.2.2,t10,t11,(i64.wrap (t12+1)))
 else
  some b_7
def kJ:=EI xN fuel
def UF:(List Int)×DZ×(Int->Option DZ)->Option DZ:=fun(l_0,end_1,one_2)=>
 (kJ (one_2,[],l_0,(l_0.length:Int),0)).bind fun r4=>
 (MI r4).bind fun r5=>
 (cat? r5 end_1).bind fun s6=>
 some s6
def xO:Rd ((DZ->Option DZ)×(List Int)×(List DZ)×Int×Int) (List Int):=fun next (one_2,b_7,t10,t11,t12)=>
 bif (decide (t12<t11))then
  (at? t10 t12).bind fun y1=>
  (one_2 y1).bind fun r2=>
  (NM (b_7,r2)).bind fun r3=>
  next (one_2,r3.2.2,t10,t11,(i64.wrap (t12+1)))
 else
  some b_7
def kK:=EI xO fuel
def UG:(List DZ)×DZ×(DZ->Option DZ)->Option DZ:=fun(l_0,end_1,one_2)=>
 (kK (one_2,[],l_0,(l_0.length:Int),0)).bind fun r4=>
 (MI r4).bind fun r5=>
 (cat? r5 end_1).bind fun s6=>
 some s6
def ZO:DZ->Option DZ:=fun p_0=>
 (IK p_0).bind fun r1=>
 bif r1.2 then
  (IM r1.1).bind fun r2=>
  (cat? [48] r2).bind fun s3=>
  some s3
 else
  (cat? [49] p_0).bind fun s4=>
  (cat? s4 [32]).bind fun s5=>
  some s5
def MN:(List Int)×(List DZ)->Option DZ:=fun v_0=>
 (cut? v_0.1 0 (v_0.1.length:Int)).bind fun s1=>
 (UF (s1,[],(fun x=>(IM x).bind fun r=>some r))).bind fun r2=>
 bif (E4 (v_0.2.length:Int) 0)then
  (cat? r2 [126]).bind fun s3=>
  some s3
 else
  (cat? r2 [33]).bind fun s4=>
  (UG (v_0.2,[33],(fun x=>(ZO x).bind fun r=>some r))).bind fun r5=>
  (cat? s4 r5).bind fun s6=>
  some s6
def MO:Int×DZ×DZ×Bool->Option DZ:=fun v_0=>
 (IM v_0.1).bind fun r1=>
 (OQ v_0.2.1).bind fun r2=>
 (cat? r1 r2).bind fun s3=>
 (U9 v_0).bind fun r4=>
 (OQ r4).bind fun r5=>
 (cat? s3 r5).bind fun s6=>
 some s6
def ZP:Int->Option DZ:=fun n_0=>
 (IM n_0).bind fun r1=>
 (cat? [49] r1).bind fun s2=>
 some s2
def ZQ:Int×(List Int)×Int×Int×Int×Int×(List DZ)->Option (Int):=fun v_0=>
 bif (decide (0<v_0.2.2.1))then
  some v_0.2.2.1
 else
  bif ((decide (0<=v_0.2.2.2.2.2.1))&&(decide (v_0.2.2.2.2.1<0)))then
   some 0
  else
   some 4
def ZR:Int->Option DZ:=fun n_0=>
 bif (decide (n_0<0))then
  some [48]
 else
  (IM n_0).bind fun r1=>
  (cat? [49] r1).bind fun s2=>
  some s2
def ZS:DZ->Option DZ:=fun p_0=>
 (IK p_0).bind fun r1=>
 bif r1.2 then
  (IM r1.1).bind fun r2=>
  (cat? [50] r2).bind fun s3=>
  some s3
 else
  (cat? [49] p_0).bind fun s4=>
  (cat? s4 [32]).bind fun s5=>
  some s5
def ZT:G6×DZ×Bool->Option (G6×DZ):=fun(v_1,s_3,t27)=>
 bif t27 then
  (IM v_1.2.2.2.2.2.1).bind fun r12=>
  (cat? [48] r12).bind fun s13=>
  (cat? s_3 s13).bind fun s14=>
  some (v_1,s14)
 else
  (cat? s_3 [49]).bind fun s15=>
  some (v_1,s15)
def MP:Int×(List Int)×Int×Int×Int×Int×(List DZ)->Option DZ:=fun v_0=>
 (IM v_0.1).bind fun r1=>
 (UB v_0.2.1).bind fun r2=>
 (UF (r2,[48],(fun x=>(ZP x).bind fun r=>some r))).bind fun r3=>
 (cat? r1 r3).bind fun s4=>
 (ZQ v_0).bind fun r5=>
 (strconv_Itoa r5).bind fun r6=>
 (IM v_0.2.2.2.1).bind fun r7=>
 (cat? r6 r7).bind fun s8=>
 (ZR v_0.2.2.2.2.1).bind fun r9=>
 (cat? s8 r9).bind fun s10=>
 (cat? s4 s10).bind fun s11=>
 (ZT (v_0,s11,(decide (0<=v_0.2.2.2.2.2.1)))).bind fun r16=>
 bif (E4 (r16.1.2.2.2.2.2.2.length:Int) 0)then
  (cat? r16.2 [48]).bind fun s17=>
  some s17
 else
  (cat? r16.2 [49]).bind fun s18=>
  (UG (r16.1.2.2.2.2.2.2,[48],(fun x=>(ZS x).bind fun r=>some r))).bind fun r19=>
  (cat? s18 r19).bind fun s20=>
  some s20
def UH:Unit->Option (List DZ):=fun _=>
 some [[97,108,112,104,97],[98,101,116,97],[109,105,108,101,115,116,111,110,101],[114,99],[115,110,97,112,115,104,111,116]]
def ZU:Rd ((List DZ)×DZ×Int×Int) HV:=fun next (s_0,v_1,t7,t8)=>
 bif (decide (t8<t7))then
  (at? s_0 t8).bind fun y1=>
  bif (EN v_1 y1)then
   some (.inr t8)
  else
   next (s_0,v_1,t7,(i64.wrap (t8+1)))
 else
  some (.inl ())
def ZV:=EI ZU fuel
def MQ:(List DZ)×DZ->Option (Int):=fun(s_0,v_1)=>
 (ZV (s_0,v_1,(s_0.length:Int),0)).bind fun r2=>
 match r2 with
 | .inl y3=>
  some (-1:Int)
 | .inr y3'=>
  some y3'
def OR:(List DZ)×DZ->Option (Bool):=fun(s_0,v_1)=>
 (MQ (s_0,v_1)).bind fun r1=>
 some (decide (0<=r1))
def QW:Bool×DZ×Int->Option (Bool):=fun t_0=>
 (bif t_0.1 then UH ()else some []).bind fun r1=>
 (bif t_0.1 then OR (r1,t_0.2.1)else some false).bind fun r2=>
 some (t_0.1&&r2)
def UI:Bool×DZ×Int->Option DZ:=fun t_0=>
 bif (!t_0.1)then
  (IM t_0.2.2).bind fun r1=>
  (cat? [56] r1).bind fun s2=>
  some s2
 else
  (QW t_0).bind fun r3=>
  bif r3 then
   (UH ()).bind fun r4=>
   (MQ (r4,t_0.2.1)).bind fun r5=>
   (strconv_Itoa r5).bind fun r6=>
   some r6
  else
   bif (EN t_0.2.1 [115,112])then
    some [54]
   else
    (cat? [55] t_0.2.1).bind fun s7=>
    (cat? s7 [32]).bind fun s8=>
    some s8
def xP:Rd (DZ×Int×(List GA)×Int×Int) DZ:=fun next (s_3,blanks_4,t8,t9,t10)=>
 bif (decide (t10<t9))then
  (at? t8 t10).bind fun y1=>
  (QV y1).bind fun r2=>
  bif r2 then
   next (s_3,(i64.wrap (blanks_4+1)),t8,t9,(i64.wrap (t10+1)))
  else
   (QW y1).bind fun r3=>
   bif r3 then
    (strconv_Itoa (i64.wrap (100+blanks_4))).bind fun r4=>
    (cat? [49] r4).bind fun s5=>
    (UI y1).bind fun r6=>
    (cat? s5 r6).bind fun s7=>
    (cat? s_3 s7).bind fun s8=>
    next (s8,0,t8,t9,(i64.wrap (t10+1)))
   else
    (strconv_Itoa (i64.wrap (900-blanks_4))).bind fun r9=>
    (cat? [51] r9).bind fun s10=>
    (UI y1).bind fun r11=>
    (cat? s10 r11).bind fun s12=>
    (cat? s_3 s12).bind fun s13=>
    next (s13,0,t8,t9,(i64.wrap (t10+1)))
 else
  some s_3
def kL:=EI xP fuel
def MR:List GA->Option DZ:=fun v_0=>
 (kL ([],0,v_0,(v_0.length:Int),0)).bind fun r14=>
 (cat? r14 [50]).bind fun s15=>
 some s15
def MS:Int->Option DZ:=fun v_0=>
 (IM v_0).bind fun r1=>
 some r1
def MT:Int×GC->Option (DZ×Int):=fun(kind_0,b_1)=>
 bif (!b_1.1)then
  bif (b_1.2.1||(!(EN b_1.2.2 [])))then
   some ([],2)
  else
   some ([],0)
 else
  (IL (kind_0,b_1.2.2)).bind fun r1=>
  bif (!(E4 r1.2 0))then
   some ([],r1.2)
  else
   ((fun z=>Sum.casesOn (motive:=fun _=>Option DZ) z (fun x=>(U7 x).bind fun r=>some r) (fun z=>Sum.casesOn (motive:=fun _=>Option DZ) z (fun x=>(UA x).bind fun r=>some r) (fun z=>Sum.casesOn (motive:=fun _=>Option DZ) z (fun x=>(UC x).bind fun r=>some r) (fun z=>Sum.casesOn (motive:=fun _=>Option DZ) z (fun x=>(UD x).bind fun r=>some r) (fun z=>Sum.casesOn (motive:=fun _=>Option DZ) z (fun x=>(UE x).bind fun r=>some r) (fun _=>none)))))) r1.1).bind fun r2=>
   bif (!(EN r2 b_1.2.2))then
    some ([],2)
   else
    ((fun z=>Sum.casesOn (motive:=fun _=>Option DZ) z (fun x=>(MN x).bind fun r=>some r) (fun z=>Sum.casesOn (motive:=fun _=>Option DZ) z (fun x=>(MO x).bind fun r=>some r) (fun z=>Sum.casesOn (motive:=fun _=>Option DZ) z (fun x=>(MP x).bind fun r=>some r) (fun z=>Sum.casesOn (motive:=fun _=>Option DZ) z (fun x=>(MR x).bind fun r=>some r) (fun z=>Sum.casesOn (motive:=fun _=>Option DZ) z (fun x=>(MS x).bind fun r=>some r) (fun _=>none)))))) r1.1).bind fun r3=>
    some (r3,0)
def UJ:GC×DZ->Option JJ:=fun(b_0,key_1)=>
 bif (!b_0.1)then
  some ((-1:Int),([],(false,[])))
 else
  some (0,(key_1,((!b_0.2.1),b_0.2.2)))
def UK:GC×DZ->Option JJ:=fun(b_0,key_1)=>
 bif (!b_0.1)then
  some (1,([],(false,[])))
 else
  some (0,(key_1,(b_0.2.1,b_0.2.2)))
def ZW:Int->Option (Bool):=fun x_0=>
 some (!(E4 x_0 x_0))
def QX:Int×Int->Option (Int):=fun(x_0,y_1)=>
 (ZW x_0).bind fun r1=>
 (ZW y_1).bind fun r2=>
 bif r1 then
  bif r2 then
   some 0
  else
   some (-1:Int)
 else
  bif r2 then
   some 1
  else
   bif (decide (x_0<y_1))then
    some (-1:Int)
   else
    bif (decide (y_1<x_0))then
     some 1
    else
     some 0
def KS:JJ×JJ->Option (Int):=fun(a_0,b_1)=>
 bif ((!(E4 a_0.1 b_1.1))||(!(E4 a_0.1 0)))then
  (QX (a_0.1,b_1.1)).bind fun r1=>
  some r1
 else
  (L_ (a_0.2.1,b_1.2.1)).bind fun r2=>
  bif ((!(E4 r2 0))||(HU a_0.2.2.1 b_1.2.2.1))then
   some r2
  else
   bif a_0.2.2.1 then
    some 1
   else
    some (-1:Int)
def ZX:(GC×GC)×(List FJ)->Option (Int):=fun(s_0,before_1)=>
 bif (((!s_0.1.1)||(!s_0.1.2.1))||(s_0.2.1&&((!s_0.2.2.1)||(EN s_0.2.2.2 [57,57,57,57,57,57,57,57,57,57,57,57,57,57,57,57,57,57]))))then
  some 2
 else
  bif (decide (0<(before_1.length:Int)))then
   (IK s_0.1.2.2).bind fun r3=>
   (at? before_1 (i64.wrap ((before_1.length:Int)-1))).bind fun y4=>
   (IK y4.2.2.2.2).bind fun r5=>
   bif (decide (r3.1<(i64.wrap (r5.1+2))))then
    some 10
   else
    some 0
  else
   some 0
def xQ:Rd ((Int×FI)×(List FJ)×FI×Int×Int) (Sum (List FJ) ((List FJ)×Int)):=fun next (r_1,out_4,t25,t26,t27)=>
 bif (decide (t27<t26))then
  (at? t25 t27).bind fun y2=>
  (MT (r_1.1,y2.1)).bind fun r3=>
  bif (!(E4 r3.2 0))then
   some (.inr ([],r3.2))
  else
   (MT (r_1.1,y2.2)).bind fun r4=>
   bif (!(E4 r4.2 0))then
    some (.inr ([],r4.2))
   else
    (UJ (y2.1,r3.1)).bind fun r5=>
    (UK (y2.2,r4.1)).bind fun r6=>
    (KS (r5,r6)).bind fun r7=>
    (bif ((!(decide (0<=r7)))&&(decide (0<(out_4.length:Int))))then at? out_4 (i64.wrap ((out_4.length:Int)-1))else some ((0,([],(false,[]))),(0,([],(false,[]))))).bind fun y8=>
    (bif ((!(decide (0<=r7)))&&(decide (0<(out_4.length:Int))))then KS (r5,y8.2)else some 0).bind fun r9=>
    bif ((decide (0<=r7))||((decide (0<(out_4.length:Int)))&&(decide (r9<=0))))then
     some (.inr ([],10))
    else
     bif (E4 r_1.1 5)then
      (ZX (y2,out_4)).bind fun r11=>
      bif (!(E4 r11 0))then
       some (.inr ([],r11))
      else
       (app? 192 out_4 [(r5,r6)]).bind fun l13=>
       next (r_1,l13,t25,t26,(i64.wrap (t27+1)))
     else
      (app? 192 out_4 [(r5,r6)]).bind fun l15=>
      next (r_1,l15,t25,t26,(i64.wrap (t27+1)))
 else
  some (.inl out_4)
def kM:=EI xQ fuel
def QY:Int×FI->Option ((List FJ)×Int):=fun r_0=>
 bif ((decide (r_0.1<1))||(decide (5<r_0.1)))then
  some ([],7)
 else
  bif (decide (200<(r_0.2.length:Int)))then
   some ([],3)
  else
   (kM (r_0,[],r_0.2,(r_0.2.length:Int),0)).bind fun r16=>
   match r16 with
   | .inl y17=>
    some (y17,0)
   | .inr y17'=>
    some (y17'.1,y17'.2)
def QZ:Int×FI->Option (Int):=fun r_0=>
 (QY r_0).bind fun r1=>
 some r1.2
def kN:Rd (H2×H2×Int×Int) HV:=fun next (l_0,t11,t12,t13)=>
 bif (decide (t13<t12))then
  (at? t11 t13).bind fun y1=>
  (NN y1.1).bind fun r2=>
  bif (!r2.2)then
   some (.inr 8)
  else
   (QZ y1.2.1).bind fun r3=>
   bif (!(E4 r3 0))then
    some (.inr r3)
   else
    bif (!(E4 y1.2.1.1 r2.1))then
     some (.inr 7)
    else
     bif ((decide (y1.2.2<1))||(decide (4<y1.2.2)))then
      some (.inr 9)
     else
      (bif (decide (0<t13))then at? l_0 (i64.wrap (t13-1))else some ([],((0,[]),0))).bind fun y5=>
      bif ((decide (0<t13))&&(Op.bytesLess y1.1 y5.1||EN y1.1 y5.1))then
       some (.inr 10)
      else
       next (l_0,t11,t12,(i64.wrap (t13+1)))
 else
  some (.inl ())
def xR:=EI kN fuel
def UL:List OK->Option (Int):=fun l_0=>
 bif (decide (12<(l_0.length:Int)))then
  some 3
 else
  (xR (l_0,l_0,(l_0.length:Int),0)).bind fun r7=>
  match r7 with
  | .inl y8=>
   some 0
  | .inr y8'=>
   some y8'
def kO:OK×(Option (DZ×DZ×H2×Bool))->Option (Bool):=fun(n_0,t1)=>
 (t1).bind fun p1=>
 some (EN n_0.1 p1.1)
def kP:Rd (H2×(OK->Option Bool)×Int×Int) HV:=fun next (s_0,f_1,t7,t8)=>
 bif (decide (t8<t7))then
  (at? s_0 t8).bind fun y1=>
  (f_1 y1).bind fun r2=>
  bif r2 then
   some (.inr t8)
  else
   next (s_0,f_1,t7,(i64.wrap (t8+1)))
 else
  some (.inl ())
def kQ:=EI kP fuel
def ZY:H2×(OK->Option Bool)->Option (Int):=fun(s_0,f_1)=>
 (kQ (s_0,f_1,(s_0.length:Int),0)).bind fun r3=>
 match r3 with
 | .inl y4=>
  some (-1:Int)
 | .inr y4'=>
  some y4'
def ZZ:H2×(OK->Option Bool)->Option (Bool):=fun(s_0,f_1)=>
 (ZY (s_0,f_1)).bind fun r1=>
 some (decide (0<=r1))
def Z_:Int×DZ×DZ->Option (GV×GV×Int):=fun(kind_0,a_1,b_2)=>
 (IL (kind_0,a_1)).bind fun r1=>
 bif (!(E4 r1.2 0))then
  some ((Sum.inr (Sum.inr (Sum.inr (Sum.inr (Sum.inr ()))))),(Sum.inr (Sum.inr (Sum.inr (Sum.inr (Sum.inr ()))))),r1.2)
 else
  (IL (kind_0,b_2)).bind fun r2=>
  some (r1.1,r2.1,r2.2)
def aA:Int×DZ×DZ->Option (Int×Int):=fun(kind_0,a_1,b_2)=>
 (Z_ (kind_0,a_1,b_2)).bind fun r1=>
 bif (!(E4 r1.2.2 0))then
  some (0,r1.2.2)
 else
  ((fun z=>Sum.casesOn (motive:=fun _=>Option DZ) z (fun x=>(MN x).bind fun r=>some r) (fun z=>Sum.casesOn (motive:=fun _=>Option DZ) z (fun x=>(MO x).bind fun r=>some r) (fun z=>Sum.casesOn (motive:=fun _=>Option DZ) z (fun x=>(MP x).bind fun r=>some r) (fun z=>Sum.casesOn (motive:=fun _=>Option DZ) z (fun x=>(MR x).bind fun r=>some r) (fun z=>Sum.casesOn (motive:=fun _=>Option DZ) z (fun x=>(MS x).bind fun r=>some r) (fun _=>none)))))) r1.1).bind fun r2=>
  ((fun z=>Sum.casesOn (motive:=fun _=>Option DZ) z (fun x=>(MN x).bind fun r=>some r) (fun z=>Sum.casesOn (motive:=fun _=>Option DZ) z (fun x=>(MO x).bind fun r=>some r) (fun z=>Sum.casesOn (motive:=fun _=>Option DZ) z (fun x=>(MP x).bind fun r=>some r) (fun z=>Sum.casesOn (motive:=fun _=>Option DZ) z (fun x=>(MR x).bind fun r=>some r) (fun z=>Sum.casesOn (motive:=fun _=>Option DZ) z (fun x=>(MS x).bind fun r=>some r) (fun _=>none)))))) r1.2.1).bind fun r3=>
  (L_ (r2,r3)).bind fun r4=>
  some (r4,0)
def aB:(DZ×DZ×H2×Bool)×JA->Option (Int):=fun(o_0,before_1)=>
 (OP (o_0.1,o_0.2.1)).bind fun r1=>
 bif (!(E4 r1.2 0))then
  some r1.2
 else
  (UL o_0.2.2.1).bind fun r2=>
  bif (!(E4 r2 0))then
   some r2
  else
   (ZZ (o_0.2.2.1,(fun x=>(kO (x,(some o_0))).bind fun r=>some r))).bind fun r3=>
   bif r3 then
    some 2
   else
    bif (E4 (before_1.length:Int) 0)then
     some 0
    else
     (at? before_1 (i64.wrap ((before_1.length:Int)-1))).bind fun y4=>
     bif (Op.bytesLess o_0.1 y4.1)then
      some 10
     else
      bif (EN o_0.1 y4.1)then
       (aA (r1.1,y4.2.1,o_0.2.1)).bind fun r5=>
       bif (decide (0<=r5.1))then
        some 10
       else
        some 0
      else
       some 0
def kR:Rd (JA×Int×Int×JA×Int×Int) HV:=fun next (r_1,packages_3,offers_4,t9,t10,t11)=>
 bif (decide (t11<t10))then
  (at? t9 t11).bind fun y1=>
  (cut? r_1 0 t11).bind fun s2=>
  (aB (y1,s2)).bind fun r3=>
  bif (!(E4 r3 0))then
   some (.inr r3)
  else
   (bif (!(E4 t11 0))then at? r_1 (i64.wrap (t11-1))else some ([],([],([],false)))).bind fun y4=>
   bif ((E4 t11 0)||(!(EN y4.1 y1.1)))then
    bif ((decide ((8:Int)<1))||(decide (12<(i64.wrap (packages_3+1)))))then
     some (.inr 3)
    else
     next (r_1,(i64.wrap (packages_3+1)),1,t9,t10,(i64.wrap (t11+1)))
   else
    bif ((decide (8<(i64.wrap (offers_4+1))))||(decide (12<packages_3)))then
     some (.inr 3)
    else
     next (r_1,packages_3,(i64.wrap (offers_4+1)),t9,t10,(i64.wrap (t11+1)))
 else
  some (.inl ())
def xS:=EI kR fuel
def Q_:List (DZ×DZ×H2×Bool)->Option (Int):=fun r_0=>
 (xS (r_0,0,0,r_0,(r_0.length:Int),0)).bind fun r7=>
 match r7 with
 | .inl y8=>
  some 0
 | .inr y8'=>
  some y8'
def kS:Rd (E3×E3×Int×Int) HV:=fun next (l_0,t10,t11,t12)=>
 bif (decide (t12<t11))then
  (at? t10 t12).bind fun y1=>
  (OP (y1.1,y1.2)).bind fun r2=>
  bif (!(E4 r2.2 0))then
   some (.inr r2.2)
  else
   (bif (decide (0<t12))then at? l_0 (i64.wrap (t12-1))else some ([],[])).bind fun y3=>
   bif ((decide (0<t12))&&(Op.bytesLess y1.1 y3.1||EN y1.1 y3.1))then
    some (.inr 10)
   else
    next (l_0,t10,t11,(i64.wrap (t12+1)))
 else
  some (.inl ())
def xT:=EI kS fuel
def UM:List (DZ×DZ)->Option (Int):=fun l_0=>
 bif (decide (12<(l_0.length:Int)))then
  some 3
 else
  (xT (l_0,l_0,(l_0.length:Int),0)).bind fun r5=>
  match r5 with
  | .inl y6=>
   some 0
  | .inr y6'=>
   some y6'
def kT:(DZ×DZ)×(Option DZ)->Option (Bool):=fun(p_0,t1)=>
 (t1).bind fun p1=>
 some (EN p_0.1 p1)
def kU:Rd (E3×((DZ×DZ)->Option Bool)×Int×Int) HV:=fun next (s_0,f_1,t7,t8)=>
 bif (decide (t8<t7))then
  (at? s_0 t8).bind fun y1=>
  (f_1 y1).bind fun r2=>
  bif r2 then
   some (.inr t8)
  else
   next (s_0,f_1,t7,(i64.wrap (t8+1)))
 else
  some (.inl ())
def kV:=EI kU fuel
def aC:E3×((DZ×DZ)->Option Bool)->Option (Int):=fun(s_0,f_1)=>
 (kV (s_0,f_1,(s_0.length:Int),0)).bind fun r3=>
 match r3 with
 | .inl y4=>
  some (-1:Int)
 | .inr y4'=>
  some y4'
def M1:E3×DZ->Option (DZ×Bool):=fun(l_0,name_1)=>
 (aC (l_0,(fun x=>(kT (x,(some name_1))).bind fun r=>some r))).bind fun r1=>
 bif (decide (r1<0))then
  some ([],false)
 else
  (at? l_0 r1).bind fun y2=>
  some (y2.2,true)
def xU:Rd F4 MK:=fun next (s_0,t6,t7)=>
 bif (decide (t7<t6))then
  (at? s_0 t7).bind fun b1=>
  bif (!(((((((decide (97<=(b1.toNat:Int)))&&(decide ((b1.toNat:Int)<=122)))||((decide (65<=(b1.toNat:Int)))&&(decide ((b1.toNat:Int)<=90))))||((decide (48<=(b1.toNat:Int)))&&(decide ((b1.toNat:Int)<=57))))||(E4 (b1.toNat:Int) 46))||(E4 (b1.toNat:Int) 45))||(E4 (b1.toNat:Int) 95)))then
   some (.inr false)
  else
   next (s_0,t6,(i64.wrap (t7+1)))
 else
  some (.inl ())
def kW:=EI xU fuel
def R0:DZ->Option (Bool):=fun s_0=>
 (kW (s_0,(s_0.length:Int),0)).bind fun r6=>
 match r6 with
 | .inl y7=>
  some ((!(EN s_0 []))&&(decide ((s_0.length:Int)<=60)))
 | .inr y7'=>
  some y7'
def xV:Rd (K6×(List DZ)×Int×Int) HV:=fun next (a_1,t10,t11,t12)=>
 bif (decide (t12<t11))then
  (at? t10 t12).bind fun y1=>
  (R0 y1).bind fun r2=>
  bif (!r2)then
   some (.inr 8)
  else
   bif (EN y1 a_1.1)then
    some (.inr 5)
   else
    (bif (decide (0<t12))then at? a_1.2.1 (i64.wrap (t12-1))else some []).bind fun y3=>
    bif ((decide (0<t12))&&(Op.bytesLess y1 y3||EN y1 y3))then
     some (.inr 10)
    else
     next (a_1,t10,t11,(i64.wrap (t12+1)))
 else
  some (.inl ())
def kX:=EI xV fuel
def aD:DZ×(List DZ)×DZ×Int×Bool×DZ×(List GU)->Option (Int):=fun a_0=>
 bif (decide (20<(a_0.2.1.length:Int)))then
  some 3
 else
  (kX (a_0,a_0.2.1,(a_0.2.1.length:Int),0)).bind fun r5=>
  match r5 with
  | .inl y6=>
   some 0
  | .inr y6'=>
   some y6'
def aF:Unit->Option (List (List (Int×Int))):=fun _=>
 let v1:=(GM E4 76 22 (GM E4 72 56 []))
 some [(GM E4 80 20 (GM E4 76 55 (GM E4 65 62 (GM E4 78 85 [])))),(GM E4 72 44 (GM E4 76 77 [])),(GM E4 72 27 (GM E4 76 62 (GM E4 78 85 []))),(GM E4 78 0 v1),(GM E4 78 0 v1),(GM E4 78 0 v1)]
def xW:Rd (DZ×(List Int)×(List (List (Int×Int)))×Int) (Sum (List Int) (Int×Int)):=fun next (vector_0,w_5,t16,t17)=>
 bif (decide (t17<6))then
  (at? t16 t17).bind fun y2=>
  (at? vector_0 t17).bind fun b3=>
  bif (!(HL E4 (b3.toNat:Int) y2).isSome)then
   some (.inr (0,7))
  else
   (in? 6 t17).bind fun _=>
   next (vector_0,(w_5.set t17.toNat ((HL E4 (b3.toNat:Int) y2).getD 0)),t16,(i64.wrap (t17+1)))
 else
  some (.inl w_5)
def kY:=EI xW fuel
def aG:DZ->Option (Int×Int):=fun vector_0=>
 (aF ()).bind fun r1=>
 bif (!(E4 (vector_0.length:Int) 6))then
  some (0,2)
 else
  (kY (vector_0,(List.replicate 6 0),r1,0)).bind fun r4=>
  match r4 with
  | .inl y5=>
   let v7:=(i64.wrap ((i64.wrap ((i64.wrap (100-(y5.getD 3 0)))*(i64.wrap (100-(y5.getD 4 0)))))*(i64.wrap (100-(y5.getD 5 0)))))
   bif (E4 (i64.wrap (1000000-v7)) 0)then
    some (0,0)
   else
    (div? i64 (i64.wrap ((i64.wrap ((i64.wrap (10*(i64.wrap ((i64.wrap (642*(i64.wrap (1000000-v7))))+(i64.wrap ((i64.wrap ((i64.wrap (822*(y5.getD 0 0)))*(y5.getD 1 0)))*(y5.getD 2 0)))))))+100000000))-1)) 100000000).bind fun q12=>
    some ((WN 100 q12),0)
  | .inr y5'=>
   some (y5'.1,y5'.2)
def aH:DZ->Option (Bool):=fun s_0=>
 (U2 s_0).bind fun r1=>
 bif (!(E4 r1.2.2 0))then
  some false
 else
  (U3 r1.1).bind fun r2=>
  some ((E4 r2.2 0)&&(EN r2.1 s_0))
def aI:Sum LE (Sum KQ (Sum G6 (Sum (List GA) (Sum Int Unit))))->Option (DZ×Int):=fun v_0=>
 ((fun z=>Sum.casesOn (motive:=fun _=>Option DZ) z (fun x=>(U7 x).bind fun r=>some r) (fun z=>Sum.casesOn (motive:=fun _=>Option DZ) z (fun x=>(UA x).bind fun r=>some r) (fun z=>Sum.casesOn (motive:=fun _=>Option DZ) z (fun x=>(UC x).bind fun r=>some r) (fun z=>Sum.casesOn (motive:=fun _=>Option DZ) z (fun x=>(UD x).bind fun r=>some r) (fun z=>Sum.casesOn (motive:=fun _=>Option DZ) z (fun x=>(UE x).bind fun r=>some r) (fun _=>none)))))) v_0).bind fun r1=>
 bif (decide (100<(r1.length:Int)))then
  some ([],3)
 else
  some (r1,0)
def OS:Int×DZ->Option (DZ×Int):=fun(kind_0,s_1)=>
 (IL (kind_0,s_1)).bind fun r1=>
 bif (!(E4 r1.2 0))then
  some ([],r1.2)
 else
  (aI r1.1).bind fun r2=>
  some (r2.1,r2.2)
def xX:Rd (GU×H_×Int×Int) HV:=fun next (a_1,t12,t13,t14)=>
 bif (decide (t14<t13))then
  (at? t12 t14).bind fun y1=>
  bif ((decide (y1.1<1))||(decide (3<y1.1)))then
   some (.inr 7)
  else
   bif (EN y1.2 [])then
    bif (!(E4 y1.1 1))then
     some (.inr 2)
    else
     next (a_1,t12,t13,(i64.wrap (t14+1)))
   else
    (OS (a_1.2.1,y1.2)).bind fun r2=>
    bif (!(E4 r2.2 0))then
     some (.inr r2.2)
    else
     next (a_1,t12,t13,(i64.wrap (t14+1)))
 else
  some (.inl ())
def kZ:=EI xX fuel
def aJ:DZ×Int×H_×(List DZ)×(List DZ)->Option (Int):=fun a_0=>
 bif (decide (100<(a_0.2.2.1.length:Int)))then
  some 3
 else
  (kZ (a_0,a_0.2.2.1,(a_0.2.2.1.length:Int),0)).bind fun r3=>
  match r3 with
  | .inl y4=>
   some 0
  | .inr y4'=>
   some y4'
def xY:Rd (DZ×Bool×Int×Int) (Bool):=fun next (s_4,bad_5,t25,t26)=>
 bif (decide (t26<t25))then
  (bif (!bad_5)then at? s_4 t26 else some 0).bind fun b3=>
  (bif (!(bad_5||(decide ((b3.toNat:Int)<33))))then at? s_4 t26 else some 0).bind fun b4=>
  next (s_4,((bad_5||(decide ((b3.toNat:Int)<33)))||(decide (126<(b4.toNat:Int)))),t25,(i64.wrap (t26+1)))
 else
  some bad_5
def k_:=EI xY fuel
def xZ:Rd ((List DZ)×(List DZ)×Int×Int) HV:=fun next (l_0,t10,t11,t12)=>
 bif (decide (t12<t11))then
  (at? t10 t12).bind fun y1=>
  (k_ (y1,((EN y1 [])||(decide (200<(y1.length:Int)))),(y1.length:Int),0)).bind fun r6=>
  bif r6 then
   some (.inr 8)
  else
   (bif (decide (0<t12))then at? l_0 (i64.wrap (t12-1))else some []).bind fun y7=>
   bif ((decide (0<t12))&&(Op.bytesLess y1 y7||EN y1 y7))then
    some (.inr 10)
   else
    next (l_0,t10,t11,(i64.wrap (t12+1)))
 else
  some (.inl ())
def lA:=EI xZ fuel
def aK:List DZ->Option (Int):=fun l_0=>
 bif (decide (200<(l_0.length:Int)))then
  some 3
 else
  (lA (l_0,l_0,(l_0.length:Int),0)).bind fun r9=>
  match r9 with
  | .inl y10=>
   some 0
  | .inr y10'=>
   some y10'
def x_:Rd (GU×(List DZ)×Int×Int) (Sum GU (Int)):=fun next (a_1,t32,t33,t34)=>
 bif (decide (t34<t33))then
  (at? t32 t34).bind fun y4=>
  (OS (a_1.2.1,y4)).bind fun r5=>
  bif (!(E4 r5.2 0))then
   some (.inr r5.2)
  else
   next (a_1,t32,t33,(i64.wrap (t34+1)))
 else
  some (.inl a_1)
def lB:=EI x_ fuel
def aL:DZ×Int×H_×(List DZ)×(List DZ)->Option (Int):=fun a_0=>
 (aH a_0.1).bind fun r1=>
 bif (!r1)then
  some 8
 else
  bif ((decide (a_0.2.1<1))||(decide (5<a_0.2.1)))then
   some 7
  else
   (aJ a_0).bind fun r3=>
   bif (!(E4 r3 0))then
    some r3
   else
    bif (decide (500<(a_0.2.2.2.1.length:Int)))then
     some 3
    else
     (lB (a_0,a_0.2.2.2.1,(a_0.2.2.2.1.length:Int),0)).bind fun r6=>
     match r6 with
     | .inl y7=>
      (aK y7.2.2.2.2).bind fun r8=>
      some r8
     | .inr y7'=>
      some y7'
def aM:Unit->Option (List Int):=fun _=>
 some [0,1,0,2]
def RA:Int×DZ->Option (DZ×Int):=fun(kind_0,s_1)=>
 (IL (kind_0,s_1)).bind fun r1=>
 bif (!(E4 r1.2 0))then
  some ([],r1.2)
 else
  ((fun z=>Sum.casesOn (motive:=fun _=>Option DZ) z (fun x=>(MN x).bind fun r=>some r) (fun z=>Sum.casesOn (motive:=fun _=>Option DZ) z (fun x=>(MO x).bind fun r=>some r) (fun z=>Sum.casesOn (motive:=fun _=>Option DZ) z (fun x=>(MP x).bind fun r=>some r) (fun z=>Sum.casesOn (motive:=fun _=>Option DZ) z (fun x=>(MR x).bind fun r=>some r) (fun z=>Sum.casesOn (motive:=fun _=>Option DZ) z (fun x=>(MS x).bind fun r=>some r) (fun _=>none)))))) r1.1).bind fun r2=>
  some (r2,0)
def yA:Rd ((List E8)×Int×FN×Int) (List E8):=fun next (data_0,a_1,cmp_3,j_9)=>
 (bif (decide (a_1<j_9))then in? data_0.length j_9 else some ()).bind fun _=>
 (bif (decide (a_1<j_9))then in? data_0.length (i64.wrap (j_9-1))else some ()).bind fun _=>
 (bif (decide (a_1<j_9))then cmp_3 ((data_0.getD j_9.toNat (0,([],([],0)))),(data_0.getD ((i64.wrap (j_9-1)).toNat) (0,([],([],0)))))else some 0).bind fun r3=>
 bif ((decide (a_1<j_9))&&(decide (r3<0)))then
  (in? data_0.length (i64.wrap (j_9-1))).bind fun _=>
  let v4:=(data_0.getD ((i64.wrap (j_9-1)).toNat) (0,([],([],0))))
  (in? data_0.length j_9).bind fun _=>
  (in? data_0.length j_9).bind fun _=>
  (in? (data_0.set j_9.toNat v4).length (i64.wrap (j_9-1))).bind fun _=>
  next (((data_0.set j_9.toNat v4).set ((i64.wrap (j_9-1)).toNat) (data_0.getD j_9.toNat (0,([],([],0))))),a_1,cmp_3,(i64.wrap (j_9-1)))
 else
  some data_0
def lC:=EI yA fuel
def yB:Rd ((List E8)×Int×Int×FN×Int) (List E8):=fun next (data_0,a_1,b_2,cmp_3,i_8)=>
 bif (decide (i_8<b_2))then
  (lC (data_0,a_1,cmp_3,i_8)).bind fun r7=>
  next (r7,a_1,b_2,cmp_3,(i64.wrap (i_8+1)))
 else
  some data_0
def lD:=EI yB fuel
def UN:(List E8)×Int×Int×FN->Option (List E8):=fun(data_0,a_1,b_2,cmp_3)=>
 (lD (data_0,a_1,b_2,cmp_3,(i64.wrap (a_1+1)))).bind fun r8=>
 some r8
def yC:Rd ((List E8)×Int×Int×Int×Int) (List E8):=fun next (data_0,a_1,b_2,n_3,i_10)=>
 bif (decide (i_10<n_3))then
  (in? data_0.length (i64.wrap (b_2+i_10))).bind fun _=>
  let v1:=(data_0.getD ((i64.wrap (b_2+i_10)).toNat) (0,([],([],0))))
  (in? data_0.length (i64.wrap (a_1+i_10))).bind fun _=>
  (in? data_0.length (i64.wrap (a_1+i_10))).bind fun _=>
  (in? (data_0.set ((i64.wrap (a_1+i_10)).toNat) v1).length (i64.wrap (b_2+i_10))).bind fun _=>
  next (((data_0.set ((i64.wrap (a_1+i_10)).toNat) v1).set ((i64.wrap (b_2+i_10)).toNat) (data_0.getD ((i64.wrap (a_1+i_10)).toNat) (0,([],([],0))))),a_1,b_2,n_3,(i64.wrap (i_10+1)))
 else
  some data_0
def lE:=EI yC fuel
def RB:(List E8)×Int×Int×Int×FN->Option (List E8):=fun(data_0,a_1,b_2,n_3,cmp_4)=>
 (lE (data_0,a_1,b_2,n_3,0)).bind fun r4=>
 some r4
def yD:Rd ((List E8)×Int×FN×Int×Int) KR:=fun next (data_0,m_2,cmp_4,i_10,j_11)=>
 bif (!(E4 i_10 j_11))then
  bif (decide (j_11<i_10))then
   (RB (data_0,(i64.wrap (m_2-i_10)),m_2,j_11,cmp_4)).bind fun r1=>
   next (r1,m_2,cmp_4,(i64.wrap (i_10-j_11)),j_11)
  else
   (RB (data_0,(i64.wrap (m_2-i_10)),(i64.wrap ((i64.wrap (m_2+j_11))-i_10)),i_10,cmp_4)).bind fun r2=>
   next (r2,m_2,cmp_4,i_10,(i64.wrap (j_11-i_10)))
 else
  some (data_0,i_10)
def lF:=EI yD fuel
def aN:(List E8)×Int×Int×Int×FN->Option (List E8):=fun(data_0,a_1,m_2,b_3,cmp_4)=>
 (lF (data_0,m_2,cmp_4,(i64.wrap (m_2-a_1)),(i64.wrap (b_3-m_2)))).bind fun r3=>
 (RB (r3.1,(i64.wrap (m_2-r3.2)),m_2,r3.2,cmp_4)).bind fun r4=>
 some r4
def yE(slf:(List E8)×Int×Int×Int×FN->Option (List E8))(next:(List E8)×Int×FN×Int×Int->Option KR):(List E8)×Int×FN×Int×Int->Option KR:=fun(data_0,a_1,cmp_4,i_10,j_11)=>
 bif (decide (i_10<j_11))then
  (shr? u64 (u64.wrap (i64.wrap (i_10+j_11))) 1).bind fun n1=>
  (in? data_0.length (i64.wrap n1)).bind fun _=>
  (in? data_0.length a_1).bind fun _=>
  (cmp_4 ((data_0.getD ((i64.wrap n1).toNat) (0,([],([],0)))),(data_0.getD a_1.toNat (0,([],([],0)))))).bind fun r4=>
  bif (decide (r4<0))then
   next (data_0,a_1,cmp_4,(i64.wrap ((i64.wrap n1)+1)),j_11)
  else
   next (data_0,a_1,cmp_4,i_10,(i64.wrap n1))
 else
  some (data_0,i_10)
def lG(slf:(List E8)×Int×Int×Int×FN->Option (List E8)):(List E8)×Int×FN×Int×Int->Option KR:=EI (yE slf) fuel
def yF(slf:(List E8)×Int×Int×Int×FN->Option (List E8))(next:(List E8)×Int×Int->Option (List E8)):(List E8)×Int×Int->Option (List E8):=fun(data_0,i_10,k_13)=>
 bif (decide (k_13<(i64.wrap (i_10-1))))then
  (in? data_0.length (i64.wrap (k_13+1))).bind fun _=>
  let v6:=(data_0.getD ((i64.wrap (k_13+1)).toNat) (0,([],([],0))))
  (in? data_0.length k_13).bind fun _=>
  (in? data_0.length k_13).bind fun _=>
  (in? (data_0.set k_13.toNat v6).length (i64.wrap (k_13+1))).bind fun _=>
  next (((data_0.set k_13.toNat v6).set ((i64.wrap (k_13+1)).toNat) (data_0.getD k_13.toNat (0,([],([],0))))),i_10,(i64.wrap (k_13+1)))
 else
  some data_0
def lH(slf:(List E8)×Int×Int×Int×FN->Option (List E8)):(List E8)×Int×Int->Option (List E8):=EI (yF slf) fuel
def yG(slf:(List E8)×Int×Int×Int×FN->Option (List E8))(next:(List E8)×Int×FN×Int×Int->Option KR):(List E8)×Int×FN×Int×Int->Option KR:=fun(data_0,m_2,cmp_4,i_14,j_15)=>
 bif (decide (i_14<j_15))then
  (shr? u64 (u64.wrap (i64.wrap (i_14+j_15))) 1).bind fun n10=>
  (in? data_0.length m_2).bind fun _=>
  (in? data_0.length (i64.wrap n10)).bind fun _=>
  (cmp_4 ((data_0.getD m_2.toNat (0,([],([],0)))),(data_0.getD ((i64.wrap n10).toNat) (0,([],([],0)))))).bind fun r13=>
  bif (!(decide (r13<0)))then
   next (data_0,m_2,cmp_4,(i64.wrap ((i64.wrap n10)+1)),j_15)
  else
   next (data_0,m_2,cmp_4,i_14,(i64.wrap n10))
 else
  some (data_0,i_14)
def lI(slf:(List E8)×Int×Int×Int×FN->Option (List E8)):(List E8)×Int×FN×Int×Int->Option KR:=EI (yG slf) fuel
def yH(slf:(List E8)×Int×Int×Int×FN->Option (List E8))(next:(List E8)×Int×Int->Option (List E8)):(List E8)×Int×Int->Option (List E8):=fun(data_0,i_14,k_17)=>
 bif (decide (i_14<k_17))then
  (in? data_0.length (i64.wrap (k_17-1))).bind fun _=>
  let v15:=(data_0.getD ((i64.wrap (k_17-1)).toNat) (0,([],([],0))))
  (in? data_0.length k_17).bind fun _=>
  (in? data_0.length k_17).bind fun _=>
  (in? (data_0.set k_17.toNat v15).length (i64.wrap (k_17-1))).bind fun _=>
  next (((data_0.set k_17.toNat v15).set ((i64.wrap (k_17-1)).toNat) (data_0.getD k_17.toNat (0,([],([],0))))),i_14,(i64.wrap (k_17-1)))
 else
  some data_0
def lJ(slf:(List E8)×Int×Int×Int×FN->Option (List E8)):(List E8)×Int×Int->Option (List E8):=EI (yH slf) fuel
def aO(slf:(List E8)×Int×Int×Int×FN->Option (List E8)):Int×Int×Int×Int×Int×Bool->Option (Int×Int):=fun(a_1,m_2,b_3,mid_18,n_19,t140)=>
 bif t140 then
  some ((i64.wrap (n_19-b_3)),mid_18)
 else
  some (a_1,m_2)
def yI(slf:(List E8)×Int×Int×Int×FN->Option (List E8))(next:(List E8)×FN×Int×Int×Int->Option KR):(List E8)×FN×Int×Int×Int->Option KR:=fun(data_0,cmp_4,start_20,r_21,p_22)=>
 bif (decide (start_20<r_21))then
  (shr? u64 (u64.wrap (i64.wrap (start_20+r_21))) 1).bind fun n22=>
  (in? data_0.length (i64.wrap (p_22-(i64.wrap n22)))).bind fun _=>
  (in? data_0.length (i64.wrap n22)).bind fun _=>
  (cmp_4 ((data_0.getD ((i64.wrap (p_22-(i64.wrap n22))).toNat) (0,([],([],0)))),(data_0.getD ((i64.wrap n22).toNat) (0,([],([],0)))))).bind fun r25=>
  bif (!(decide (r25<0)))then
   next (data_0,cmp_4,(i64.wrap ((i64.wrap n22)+1)),r_21,p_22)
  else
   next (data_0,cmp_4,start_20,(i64.wrap n22),p_22)
 else
  some (data_0,start_20)
def lK(slf:(List E8)×Int×Int×Int×FN->Option (List E8)):(List E8)×FN×Int×Int×Int->Option KR:=EI (yI slf) fuel
def aP(slf:(List E8)×Int×Int×Int×FN->Option (List E8)):(List E8)×Int×FN×Int×Int×Bool->Option (List E8):=fun(data_0,m_2,cmp_4,start_20,end_24,t185)=>
 bif t185 then
  (aN (data_0,start_20,m_2,end_24,cmp_4)).bind fun r28=>
  some r28
 else
  some data_0
def aQ(slf:(List E8)×Int×Int×Int×FN->Option (List E8)):(List E8)×Int×FN×Int×Int×Bool->Option (List E8):=fun(data_0,a_1,cmp_4,mid_18,start_20,t199)=>
 bif t199 then
  (slf (data_0,a_1,start_20,mid_18,cmp_4)).bind fun r31=>
  some r31
 else
  some data_0
def lL(slf:(List E8)×Int×Int×Int×FN->Option (List E8)):(List E8)×Int×Int×Int×FN->Option (List E8):=fun(data_0,a_1,m_2,b_3,cmp_4)=>
 bif (E4 (i64.wrap (m_2-a_1)) 1)then
  ((lG slf) (data_0,a_1,cmp_4,m_2,b_3)).bind fun r5=>
  ((lH slf) (r5.1,r5.2,a_1)).bind fun r9=>
  some r9
 else
  bif (E4 (i64.wrap (b_3-m_2)) 1)then
   ((lI slf) (data_0,m_2,cmp_4,a_1,m_2)).bind fun r14=>
   ((lJ slf) (r14.1,r14.2,m_2)).bind fun r18=>
   some r18
  else
   (shr? u64 (u64.wrap (i64.wrap (a_1+b_3))) 1).bind fun n19=>
   ((aO slf) (a_1,m_2,b_3,(i64.wrap n19),(i64.wrap ((i64.wrap n19)+m_2)),(decide ((i64.wrap n19)<m_2)))).bind fun r20=>
   ((lK slf) (data_0,cmp_4,r20.1,r20.2,(i64.wrap ((i64.wrap ((i64.wrap n19)+m_2))-1)))).bind fun r26=>
   let v27:=(i64.wrap ((i64.wrap ((i64.wrap n19)+m_2))-r26.2))
   ((aP slf) (r26.1,m_2,cmp_4,r26.2,v27,((decide (r26.2<m_2))&&(decide (m_2<v27))))).bind fun r29=>
   ((aQ slf) (r29,a_1,cmp_4,(i64.wrap n19),r26.2,((decide (a_1<r26.2))&&(decide (r26.2<(i64.wrap n19)))))).bind fun r32=>
   bif ((decide ((i64.wrap n19)<v27))&&(decide (v27<b_3)))then
    (slf (r32,(i64.wrap n19),v27,b_3,cmp_4)).bind fun r34=>
    some r34
   else
    some r32
def K9:Nat->(List E8)×Int×Int×Int×FN->Option (List E8)
 |0=>fun _=>none
 |n+1=>lL (K9 n)
def UO:(List E8)×Int×Int×Int×FN->Option (List E8):=K9 100
def yJ:Rd ((List E8)×Int×FN×Int×Int×Int) KR:=fun next (data_0,n_1,cmp_2,blockSize_6,a_7,b_8)=>
 bif (decide (b_8<=n_1))then
  (UN (data_0,a_7,b_8,cmp_2)).bind fun r1=>
  next (r1,n_1,cmp_2,blockSize_6,b_8,(i64.wrap (b_8+blockSize_6)))
 else
  some (data_0,a_7)
def lM:=EI yJ fuel
def yK:Rd ((List E8)×Int×FN×Int×Int×Int) KR:=fun next (data_0,n_1,cmp_2,blockSize_6,a_7,b_8)=>
 bif (decide (b_8<=n_1))then
  (UO (data_0,a_7,(i64.wrap (a_7+blockSize_6)),b_8,cmp_2)).bind fun r4=>
  next (r4,n_1,cmp_2,blockSize_6,b_8,(i64.wrap (b_8+(i64.wrap (2*blockSize_6)))))
 else
  some (data_0,a_7)
def lN:=EI yK fuel
def yL:Rd ((List E8)×Int×FN×Int) (List E8):=fun next (data_0,n_1,cmp_2,blockSize_6)=>
 bif (decide (blockSize_6<n_1))then
  (lN (data_0,n_1,cmp_2,blockSize_6,0,(i64.wrap (2*blockSize_6)))).bind fun r6=>
  bif (decide ((i64.wrap (r6.2+blockSize_6))<n_1))then
   (UO (r6.1,r6.2,(i64.wrap (r6.2+blockSize_6)),n_1,cmp_2)).bind fun r7=>
   next (r7,n_1,cmp_2,(i64.wrap (blockSize_6*2)))
  else
   next (r6.1,n_1,cmp_2,(i64.wrap (blockSize_6*2)))
 else
  some data_0
def lO:=EI yL fuel
def aR:(List E8)×Int×FN->Option (List E8):=fun(data_0,n_1,cmp_2)=>
 (lM (data_0,n_1,cmp_2,20,0,20)).bind fun r2=>
 (UN (r2.1,r2.2,n_1,cmp_2)).bind fun r3=>
 (lO (r3,n_1,cmp_2,20)).bind fun r8=>
 some r8
def aS:(List E8)×FN->Option (List E8):=fun(x_0,cmp_1)=>
 (aR (x_0,(x_0.length:Int),cmp_1)).bind fun r1=>
 some r1
def yM:Rd (Int×(List Int)×Int×Int) HV:=fun next (zero_3,t6,t7,t8)=>
 bif (decide (t8<t7))then
  (at? t6 t8).bind fun y1=>
  bif (!(E4 y1 zero_3))then
   some (.inr y1)
  else
   next (zero_3,t6,t7,(i64.wrap (t8+1)))
 else
  some (.inl ())
def lP:=EI yM fuel
def aT:List Int->Option (Int):=fun vals_0=>
 (lP (0,vals_0,(vals_0.length:Int),0)).bind fun r2=>
 match r2 with
 | .inl y3=>
  some 0
 | .inr y3'=>
  some y3'
def aU:E8×E8->Option (Int):=fun(x_0,y_1)=>
 (L_ (x_0.2.1,y_1.2.1)).bind fun r1=>
 (QX (x_0.1,y_1.1)).bind fun r2=>
 (aT [r1,r2]).bind fun r3=>
 some r3
def yN:Rd (GU×(List E8)×H_×Int×Int) (List E8):=fun next (a_1,out_3,t8,t9,t10)=>
 bif (decide (t10<t9))then
  (at? t8 t10).bind fun y1=>
  (aM ()).bind fun r2=>
  (at? r2 y1.1).bind fun y3=>
  bif (!(EN y1.2 []))then
   (RA (a_1.2.1,y1.2)).bind fun r4=>
   (OS (a_1.2.1,y1.2)).bind fun r5=>
   (app? 96 out_3 [(y3,(r4.1,(r5.1,y1.1)))]).bind fun l7=>
   next (a_1,l7,t8,t9,(i64.wrap (t10+1)))
  else
   (app? 96 out_3 [(y3,([],([],y1.1)))]).bind fun l9=>
   next (a_1,l9,t8,t9,(i64.wrap (t10+1)))
 else
  some out_3
def lQ:=EI yN fuel
def aV:DZ×Int×H_×(List DZ)×(List DZ)->Option (List E8):=fun a_0=>
 (lQ (a_0,[],a_0.2.2.1,(a_0.2.2.1.length:Int),0)).bind fun r10=>
 (aS (r10,(fun x=>(aU x).bind fun r=>some r))).bind fun r11=>
 some r11
def yO:Rd (FI×Bool×GC×(List E8)×Int×Int) (FI×Bool×GC):=fun next (out_3,on_4,low_5,t15,t16,t17)=>
 bif (decide (t17<t16))then
  (at? t15 t17).bind fun y2=>
  bif ((E4 y2.2.2.2 1)&&(!on_4))then
   bif (!(EN y2.2.2.1 []))then
    next (out_3,true,(true,(true,y2.2.2.1)),t15,t16,(i64.wrap (t17+1)))
   else
    next (out_3,true,(false,(false,[])),t15,t16,(i64.wrap (t17+1)))
  else
   bif ((!(E4 y2.2.2.2 1))&&on_4)then
    (app? 144 out_3 [(low_5,(true,((E4 y2.2.2.2 3),y2.2.2.1)))]).bind fun l4=>
    next (l4,false,low_5,t15,t16,(i64.wrap (t17+1)))
   else
    next (out_3,on_4,low_5,t15,t16,(i64.wrap (t17+1)))
 else
  some (out_3,on_4,low_5)
def lR:=EI yO fuel
def aW:FI×GC×Bool->Option FI:=fun(out_3,low_5,t56)=>
 bif t56 then
  (app? 144 out_3 [(low_5,(false,(false,[])))]).bind fun l7=>
  some l7
 else
  some out_3
def yP:Rd (GU×FI×(List DZ)×Int×Int) FI:=fun next (a_1,out_3,t63,t64,t65)=>
 bif (decide (t65<t64))then
  (at? t63 t65).bind fun y9=>
  (OS (a_1.2.1,y9)).bind fun r10=>
  (app? 144 out_3 [((true,(true,r10.1)),(true,(true,r10.1)))]).bind fun l12=>
  next (a_1,l12,t63,t64,(i64.wrap (t65+1)))
 else
  some out_3
def lS:=EI yP fuel
def aX:DZ×Int×H_×(List DZ)×(List DZ)->Option FI:=fun a_0=>
 (aV a_0).bind fun r1=>
 (lR ([],false,(false,(false,[])),r1,(r1.length:Int),0)).bind fun r5=>
 (aW (r5.1,r5.2.2,r5.2.1)).bind fun r8=>
 (lS (a_0,r8,a_0.2.2.2.1,(a_0.2.2.2.1.length:Int),0)).bind fun r13=>
 some r13
def MU:FJ×FJ->Option (Int):=fun(a_0,b_1)=>
 (KS (a_0.1,b_1.1)).bind fun r1=>
 some r1
def aY:FJ×Int×Bool->Option (FJ×Int):=fun(s_1,first_5,t10)=>
 bif t10 then
  (IK s_1.1.2.2.2).bind fun r1=>
  bif s_1.1.2.2.1 then
   some (s_1,(i64.wrap (r1.1+1)))
  else
   some (s_1,r1.1)
 else
  some (s_1,first_5)
def aZ:JJ×JJ->Option (Int×Int×Bool):=fun s_0=>
 (aY (s_0,0,(E4 s_0.1.1 0))).bind fun r2=>
 bif (E4 r2.1.2.1 0)then
  (IK r2.1.2.2.2.2).bind fun r3=>
  bif (!r2.1.2.2.2.1)then
   some (r2.2,(i64.wrap (r3.1-1)),(decide (r2.2<=(i64.wrap (r3.1-1)))))
  else
   some (r2.2,r3.1,(decide (r2.2<=r3.1)))
 else
  some (r2.2,999999999999999999,(decide (r2.2<=999999999999999999)))
def a_:Int×JJ×Bool->Option JJ:=fun(last_8,high_10,t27)=>
 bif t27 then
  (IM last_8).bind fun r3=>
  (strconv_Itoa last_8).bind fun r4=>
  some (0,(r3,(true,r4)))
 else
  some high_10
def yQ:Rd ((List FJ)×Int×(List FJ)×Int×Int) (List FJ):=fun next (out_3,end_4,t11,t12,t13)=>
 bif (decide (t13<t12))then
  (at? t11 t13).bind fun y1=>
  (aZ y1).bind fun r2=>
  bif (!r2.2.2)then
   next (out_3,end_4,t11,t12,(i64.wrap (t13+1)))
  else
   (a_ (r2.2.1,(1,([],(false,[]))),(decide (r2.2.1<999999999999999999)))).bind fun r5=>
   bif ((decide (0<(out_3.length:Int)))&&(E4 r2.1 (i64.wrap (end_4+1))))then
    (in? out_3.length (i64.wrap ((out_3.length:Int)-1))).bind fun _=>
    next ((out_3.set ((i64.wrap ((out_3.length:Int)-1)).toNat) ((out_3.getD ((i64.wrap ((out_3.length:Int)-1)).toNat) ((0,([],(false,[]))),(0,([],(false,[]))))).1,r5)),r2.2.1,t11,t12,(i64.wrap (t13+1)))
   else
    (IM r2.1).bind fun r8=>
    (strconv_Itoa r2.1).bind fun r9=>
    (app? 192 out_3 [((0,(r8,(false,r9))),r5)]).bind fun l11=>
    next (l11,r2.2.1,t11,t12,(i64.wrap (t13+1)))
 else
  some out_3
def lT:=EI yQ fuel
def b9:List FJ->Option (List FJ):=fun l_0=>
 (lT ([],(-2:Int),l_0,(l_0.length:Int),0)).bind fun r12=>
 some r12
def bA:(List FJ)×Bool->Option (List FJ):=fun(l_1,t11)=>
 bif t11 then
  (b9 l_1).bind fun r1=>
  some r1
 else
  some l_1
def bB:FJ×(GC×GC)×Bool->Option (FJ×(GC×GC)):=fun(s_8,x_9,t29)=>
 bif t29 then
  some (s_8,((true,((!s_8.1.2.2.1),s_8.1.2.2.2)),x_9.2))
 else
  some (s_8,x_9)
def yR:Rd ((Int×FI)×(List FJ)×Int×Int) (Int×FI):=fun next (r_6,t20,t21,t22)=>
 bif (decide (t22<t21))then
  (at? t20 t22).bind fun y4=>
  (bB (y4,((false,(false,[])),(false,(false,[]))),(E4 y4.1.1 0))).bind fun r5=>
  bif (E4 r5.1.2.1 0)then
   (app? 144 r_6.2 [(r5.2.1,(true,(r5.1.2.2.2.1,r5.1.2.2.2.2)))]).bind fun l7=>
   next ((r_6.1,l7),t20,t21,(i64.wrap (t22+1)))
  else
   (app? 144 r_6.2 [r5.2]).bind fun l9=>
   next ((r_6.1,l9),t20,t21,(i64.wrap (t22+1)))
 else
  some (r_6.1,r_6.2)
def lU:=EI yR fuel
def bC:Int×(List FJ)->Option ((Int×FI)×Int):=fun(kind_0,l_1)=>
 (bA (l_1,(E4 kind_0 5))).bind fun r2=>
 bif (decide (200<(r2.length:Int)))then
  some ((0,[]),3)
 else
  (lU ((kind_0,[]),r2,(r2.length:Int),0)).bind fun r10=>
  some ((r10.1,r10.2),0)
def yS:Rd (Int×(Int×FI)×(List FJ)×FI×Int×Int) (Sum ((Int×FI)×(List FJ)) ((Int×FI)×Int)):=fun next (kind_0,t4,all_6,t17,t18,t19)=>
 bif (decide (t19<t18))then
  (at? t17 t19).bind fun y1=>
  (MT (kind_0,y1.1)).bind fun r2=>
  bif (!(E4 r2.2 0))then
   some (.inr ((0,[]),r2.2))
  else
   (MT (kind_0,y1.2)).bind fun r4=>
   bif (!(E4 r4.2 0))then
    some (.inr ((0,[]),r4.2))
   else
    (UJ (y1.1,r2.1)).bind fun r6=>
    (UK (y1.2,r4.1)).bind fun r7=>
    (KS (r6,r7)).bind fun r8=>
    bif (decide (r8<0))then
     (app? 192 all_6 [(r6,r7)]).bind fun l10=>
     next (kind_0,t4,l10,t17,t18,(i64.wrap (t19+1)))
    else
     next (kind_0,t4,all_6,t17,t18,(i64.wrap (t19+1)))
 else
  some (.inl (t4,all_6))
def lV:=EI yS fuel
def yT:Rd ((List FJ)×(List FJ)×Int×Int) (List FJ):=fun next (out_13,t67,t68,t69)=>
 bif (decide (t69<t68))then
  (in? t67.length t69).bind fun _=>
  let v14:=(t67.getD t69.toNat ((0,([],(false,[]))),(0,([],(false,[])))))
  (bif (!(E4 (out_13.length:Int) 0))then in? out_13.length (i64.wrap ((out_13.length:Int)-1))else some ()).bind fun _=>
  (bif (!(E4 (out_13.length:Int) 0))then KS (((out_13.getD ((i64.wrap ((out_13.length:Int)-1)).toNat) ((0,([],(false,[]))),(0,([],(false,[]))))).2),v14.1)else some 0).bind fun r16=>
  bif ((E4 (out_13.length:Int) 0)||(decide (r16<0)))then
   (app? 192 out_13 [v14]).bind fun l19=>
   next (l19,t67,t68,(i64.wrap (t69+1)))
  else
   (in? out_13.length (i64.wrap ((out_13.length:Int)-1))).bind fun _=>
   (KS (((out_13.getD ((i64.wrap ((out_13.length:Int)-1)).toNat) ((0,([],(false,[]))),(0,([],(false,[]))))).2),v14.2)).bind fun r21=>
   bif (decide (r21<0))then
    (in? out_13.length (i64.wrap ((out_13.length:Int)-1))).bind fun _=>
    next ((out_13.set ((i64.wrap ((out_13.length:Int)-1)).toNat) ((out_13.getD ((i64.wrap ((out_13.length:Int)-1)).toNat) ((0,([],(false,[]))),(0,([],(false,[]))))).1,v14.2)),t67,t68,(i64.wrap (t69+1)))
   else
    next (out_13,t67,t68,(i64.wrap (t69+1)))
 else
  some out_13
def lW:=EI yT fuel
def bD:Int×FI->Option ((Int×FI)×Int):=fun(kind_0,l_1)=>
 (lV (kind_0,(0,[]),[],l_1,(l_1.length:Int),0)).bind fun r11=>
 match r11 with
 | .inl y12=>
  (iK (y12.2,(fun x=>(MU x).bind fun r=>some r))).bind fun r13=>
  (lW ([],r13,(r13.length:Int),0)).bind fun r23=>
  (bC (kind_0,r23)).bind fun r24=>
  some (r24.1,r24.2)
 | .inr y12'=>
  some (y12'.1,y12'.2)
def bE:DZ×Int×H_×(List DZ)×(List DZ)->Option ((Int×FI)×Int):=fun a_0=>
 (aL a_0).bind fun r1=>
 bif (!(E4 r1 0))then
  some ((0,[]),r1)
 else
  (aX a_0).bind fun r3=>
  (bD (a_0.2.1,r3)).bind fun r4=>
  some (r4.1,r4.2)
def bF:K6×Bool->Option (Sum K6 (JK×Int)):=fun(a_1,t37)=>
 bif t37 then
  (aG a_1.2.2.2.2.2.1).bind fun r5=>
  bif (!(E4 r5.2 0))then
   some (.inr ([],r5.2))
  else
   some (.inl a_1)
 else
  some (.inl a_1)
def yU:Rd (JK×(List GU)×Int×Int) (Sum JK (JK×Int)):=fun next (out_7,t52,t53,t54)=>
 bif (decide (t54<t53))then
  (at? t52 t54).bind fun y8=>
  (bE y8).bind fun r9=>
  bif (!(E4 r9.2 0))then
   some (.inr ([],r9.2))
  else
   (app? 48 out_7 [r9.1]).bind fun l11=>
   next (l11,t52,t53,(i64.wrap (t54+1)))
 else
  some (.inl out_7)
def lX:=EI yU fuel
def bG:DZ×(List DZ)×DZ×Int×Bool×DZ×(List GU)->Option (JK×Int):=fun a_0=>
 (R0 a_0.1).bind fun r1=>
 bif (!r1)then
  some ([],8)
 else
  (aD a_0).bind fun r2=>
  bif (!(E4 r2 0))then
   some ([],r2)
  else
   (R0 a_0.2.2.1).bind fun r3=>
   bif (!r3)then
    some ([],8)
   else
    bif ((decide (a_0.2.2.2.1<0))||(decide (1000000<a_0.2.2.2.1)))then
     some ([],9)
    else
     (bF (a_0,(!(EN a_0.2.2.2.2.2.1 [])))).bind fun r6=>
     match r6 with
     | .inl y7=>
      bif (decide (50<(y7.2.2.2.2.2.2.length:Int)))then
       some ([],3)
      else
       (lX ([],y7.2.2.2.2.2.2,(y7.2.2.2.2.2.2.length:Int),0)).bind fun r12=>
       match r12 with
       | .inl y13=>
        some (y13,0)
       | .inr y13'=>
        some (y13'.1,y13'.2)
     | .inr y7'=>
      some (y7'.1,y7'.2)
def RC:DZ×(List DZ)×DZ×Int×Bool×DZ×(List GU)->Option (Int):=fun a_0=>
 (bG a_0).bind fun r1=>
 some r1.2
def yV:Rd ((Int×(List K6)×(List Int))×(List K6)×Int×Int) HV:=fun next (b_1,t29,t30,t31)=>
 bif (decide (t31<t30))then
  (at? t29 t31).bind fun y2=>
  (RC y2).bind fun r3=>
  bif (!(E4 r3 0))then
   some (.inr r3)
  else
   (bif (decide (0<t31))then at? b_1.2.1 (i64.wrap (t31-1))else some ([],([],([],(0,(false,([],[]))))))).bind fun y4=>
   bif ((decide (0<t31))&&(Op.bytesLess y2.1 y4.1||EN y2.1 y4.1))then
    some (.inr 10)
   else
    (at? b_1.2.2 t31).bind fun y6=>
    (bif (!(decide (y6<0)))then at? b_1.2.2 t31 else some 0).bind fun y7=>
    bif ((decide (y6<0))||(decide (b_1.1<y7)))then
     some (.inr 9)
    else
     next (b_1,t29,t30,(i64.wrap (t31+1)))
 else
  some (.inl ())
def lY:=EI yV fuel
def bH:Int×(List K6)×(List Int)->Option (Int):=fun b_0=>
 bif ((decide (b_0.1<0))||(decide (1000000000<b_0.1)))then
  some 9
 else
  bif (decide (2000<(b_0.2.1.length:Int)))then
   some 3
  else
   bif (!(E4 (b_0.2.2.length:Int) (b_0.2.1.length:Int)))then
    some 2
   else
    (lY (b_0,b_0.2.1,(b_0.2.1.length:Int),0)).bind fun r8=>
    match r8 with
    | .inl y9=>
     some 0
    | .inr y9'=>
     some y9'
def lZ:Rd (H3×(List DZ)×Int×Int) (Sum H3 (Int)):=fun next (t_1,t37,t38,t39)=>
 bif (decide (t39<t38))then
  (at? t37 t39).bind fun y5=>
  (M1 (t_1.2.2.2.1,y5)).bind fun r6=>
  bif (!r6.2)then
   some (.inr 4)
  else
   (bif (decide (0<t39))then at? t_1.2.2.2.2.1 (i64.wrap (t39-1))else some []).bind fun y7=>
   bif ((decide (0<t39))&&(Op.bytesLess y5 y7||EN y5 y7))then
    some (.inr 10)
   else
    next (t_1,t37,t38,(i64.wrap (t39+1)))
 else
  some (.inl t_1)
def l_:=EI lZ fuel
def MV:JA×H2×Int×E3×(List DZ)×Bool×(Int×(List K6)×(List Int))->Option (Int):=fun t_0=>
 (Q_ t_0.1).bind fun r1=>
 bif (!(E4 r1 0))then
  some r1
 else
  (UL t_0.2.1).bind fun r2=>
  bif (!(E4 r2 0))then
   some r2
  else
   bif ((decide (t_0.2.2.1<1))||(decide (4<t_0.2.2.1)))then
    some 9
   else
    (UM t_0.2.2.2.1).bind fun r4=>
    bif (!(E4 r4 0))then
     some r4
    else
     (l_ (t_0,t_0.2.2.2.2.1,(t_0.2.2.2.2.1.length:Int),0)).bind fun r9=>
     match r9 with
     | .inl y10=>
      (bH y10.2.2.2.2.2.2).bind fun r11=>
      some r11
     | .inr y10'=>
      some y10'
def MW:GD×DZ->Option (Int):=fun(s_0,name_1)=>
 (s_0).bind fun p1=>
 (MQ (p1.2.1,name_1)).bind fun r2=>
 some r2
def m6:Rd (DZ×JA×JA×Int×Int) JA:=fun next (name_1,out_5,t9,t10,t11)=>
 bif (decide (t11<t10))then
  (at? t9 t11).bind fun y1=>
  bif (EN y1.1 name_1)then
   (app? 96 out_5 [y1]).bind fun l3=>
   next (name_1,l3,t9,t10,(i64.wrap (t11+1)))
  else
   next (name_1,out_5,t9,t10,(i64.wrap (t11+1)))
 else
  some out_5
def m7:=EI m6 fuel
def bI:JA×DZ->Option JA:=fun(r_0,name_1)=>
 (m7 (name_1,[],r_0,(r_0.length:Int),0)).bind fun r4=>
 some r4
def yW:(List Int)×(List DZ)->Option (Bool):=fun v_0=>
 some (decide (0<(v_0.2.length:Int)))
def m8:Int×DZ×DZ×Bool->Option (Bool):=fun v_0=>
 (strings_IndexByte (v_0.2.1,126)).bind fun r1=>
 (bif (!(decide (0<=r1)))then strings_IndexByte (v_0.2.2.1,126)else some 0).bind fun r2=>
 some ((decide (0<=r1))||(decide (0<=r2)))
def yX:Int×(List Int)×Int×Int×Int×Int×(List DZ)->Option (Bool):=fun v_0=>
 some ((decide (0<v_0.2.2.1))||(decide (0<=v_0.2.2.2.2.2.1)))
def m9:Rd ((List GA)×(GA->Option Bool)×Int×Int) HV:=fun next (s_0,f_1,t7,t8)=>
 bif (decide (t8<t7))then
  (at? s_0 t8).bind fun y1=>
  (f_1 y1).bind fun r2=>
  bif r2 then
   some (.inr t8)
  else
   next (s_0,f_1,t7,(i64.wrap (t8+1)))
 else
  some (.inl ())
def yY:=EI m9 fuel
def bJ:(List GA)×(GA->Option Bool)->Option (Int):=fun(s_0,f_1)=>
 (yY (s_0,f_1,(s_0.length:Int),0)).bind fun r3=>
 match r3 with
 | .inl y4=>
  some (-1:Int)
 | .inr y4'=>
  some y4'
def mA:(List GA)×(GA->Option Bool)->Option (Bool):=fun(s_0,f_1)=>
 (bJ (s_0,f_1)).bind fun r1=>
 some (decide (0<=r1))
def mB:Bool×DZ×Int->Option (Bool):=fun t_0=>
 (QW t_0).bind fun r1=>
 some r1
def mC:List GA->Option (Bool):=fun v_0=>
 (mA (v_0,(fun x=>(mB x).bind fun r=>some r))).bind fun r1=>
 some r1
def yZ:Int->Option (Bool):=fun v_0=>
 some false
def RD:Int×DZ->Option (Bool×Int):=fun(kind_0,s_1)=>
 (IL (kind_0,s_1)).bind fun r1=>
 bif (!(E4 r1.2 0))then
  some (false,r1.2)
 else
  ((fun z=>Sum.casesOn (motive:=fun _=>Option Bool) z (fun x=>(yW x).bind fun r=>some r) (fun z=>Sum.casesOn (motive:=fun _=>Option Bool) z (fun x=>(m8 x).bind fun r=>some r) (fun z=>Sum.casesOn (motive:=fun _=>Option Bool) z (fun x=>(yX x).bind fun r=>some r) (fun z=>Sum.casesOn (motive:=fun _=>Option Bool) z (fun x=>(mC x).bind fun r=>some r) (fun z=>Sum.casesOn (motive:=fun _=>Option Bool) z (fun x=>(yZ x).bind fun r=>some r) (fun _=>none)))))) r1.1).bind fun r2=>
  some (r2,0)
def mD:Rd (DZ×H3×DZ×Bool×(List DZ)×JA×Int×Int) (List DZ):=fun next (name_1,t_2,old_5,has_6,out_7,t24,t25,t26)=>
 bif (decide (t26<t25))then
  (at? t24 t26).bind fun y3=>
  (NN name_1).bind fun r4=>
  (RD (r4.1,y3.2.1)).bind fun r5=>
  bif ((has_6&&(EN y3.2.1 old_5))||((!y3.2.2.2)&&(t_2.2.2.2.2.2.1||(!r5.1))))then
   (app? 24 out_7 [y3.2.1]).bind fun l7=>
   next (name_1,t_2,old_5,has_6,l7,t24,t25,(i64.wrap (t26+1)))
  else
   next (name_1,t_2,old_5,has_6,out_7,t24,t25,(i64.wrap (t26+1)))
 else
  some out_7
def mE:=EI mD fuel
def UP:H3×DZ->Option (List DZ):=fun(t_0,name_1)=>
 (M1 (t_0.2.2.2.1,name_1)).bind fun r1=>
 (bI (t_0.1,name_1)).bind fun r2=>
 (mE (name_1,t_0,r1.1,r1.2,[],r2,(r2.length:Int),0)).bind fun r8=>
 some r8
def y_:Rd ((List DZ)×Int×Int) (List DZ):=fun next (s_0,i_2,j_3)=>
 bif (decide (i_2<j_3))then
  (in? s_0.length j_3).bind fun _=>
  (in? s_0.length i_2).bind fun _=>
  (in? s_0.length i_2).bind fun _=>
  (in? (s_0.set i_2.toNat (s_0.getD j_3.toNat [])).length j_3).bind fun _=>
  next (((s_0.set i_2.toNat (s_0.getD j_3.toNat [])).set j_3.toNat (s_0.getD i_2.toNat [])),(i64.wrap (i_2+1)),(i64.wrap (j_3-1)))
 else
  some s_0
def mF:=EI y_ fuel
def bK:List DZ->Option (List DZ):=fun s_0=>
 (mF (s_0,0,(i64.wrap ((s_0.length:Int)-1)))).bind fun r2=>
 some r2
def UQ:Int->Option (Int):=fun n_0=>
 (shl? u16 1 n_0).bind fun n1=>
 some (u16.wrap (n1-1))
def mG:Rd (H3×H2×H2×Int×Int) H2:=fun next (t_2,out_5,t8,t9,t10)=>
 bif (decide (t10<t9))then
  (at? t8 t10).bind fun y1=>
  bif (decide (y1.2.2<=t_2.2.2.1))then
   (app? 96 out_5 [y1]).bind fun l3=>
   next (t_2,l3,t8,t9,(i64.wrap (t10+1)))
  else
   next (t_2,out_5,t8,t9,(i64.wrap (t10+1)))
 else
  some out_5
def mH:=EI mG fuel
def OT:H3×H2->Option H2:=fun(t_0,l_1)=>
 (mH (t_0,[],l_1,(l_1.length:Int),0)).bind fun r4=>
 some r4
def mI:Rd (H3×(DZ×DZ)×JA×Int×Int) (Sum (Unit) H2):=fun next (t_2,p_3,t9,t10,t11)=>
 bif (decide (t11<t10))then
  (at? t9 t11).bind fun y1=>
  bif ((EN y1.1 p_3.1)&&(EN y1.2.1 p_3.2))then
   (OT (t_2,y1.2.2.1)).bind fun r2=>
   some (.inr r2)
  else
   next (t_2,p_3,t9,t10,(i64.wrap (t11+1)))
 else
  some (.inl ())
def mJ:=EI mI fuel
def RE:H3×(DZ×DZ)->Option H2:=fun(t_0,p_1)=>
 (mJ (t_0,p_1,t_0.1,(t_0.1.length:Int),0)).bind fun r3=>
 match r3 with
 | .inl y4=>
  some []
 | .inr y4'=>
  some y4'
def bL:FJ×(Option JJ)->Option (Bool):=fun(s_0,t1)=>
 (t1).bind fun p1=>
 (KS (s_0.1,p1)).bind fun r2=>
 (bif (decide (r2<=0))then t1 else some (0,([],(false,[])))).bind fun p3=>
 (bif (decide (r2<=0))then KS (p3,s_0.2)else some 0).bind fun r4=>
 some ((decide (r2<=0))&&(decide (r4<0)))
def z7:Rd ((List FJ)×(FJ->Option Bool)×Int×Int) HV:=fun next (s_0,f_1,t7,t8)=>
 bif (decide (t8<t7))then
  (at? s_0 t8).bind fun y1=>
  (f_1 y1).bind fun r2=>
  bif r2 then
   some (.inr t8)
  else
   next (s_0,f_1,t7,(i64.wrap (t8+1)))
 else
  some (.inl ())
def z8:=EI z7 fuel
def mK:(List FJ)×(FJ->Option Bool)->Option (Int):=fun(s_0,f_1)=>
 (z8 (s_0,f_1,(s_0.length:Int),0)).bind fun r3=>
 match r3 with
 | .inl y4=>
  some (-1:Int)
 | .inr y4'=>
  some y4'
def RF:(List FJ)×DZ->Option (Int):=fun(l_0,key_1)=>
 (mK (l_0,(fun x=>(bL (x,(some (0,(key_1,(false,[])))))).bind fun r=>some r))).bind fun r1=>
 some r1
def RG:(Int×FI)×DZ->Option (Bool×Int):=fun(r_0,s_1)=>
 (QY r_0).bind fun r1=>
 bif (!(E4 r1.2 0))then
  some (false,r1.2)
 else
  (IL (r_0.1,s_1)).bind fun r2=>
  bif (!(E4 r2.2 0))then
   some (false,r2.2)
  else
   ((fun z=>Sum.casesOn (motive:=fun _=>Option DZ) z (fun x=>(MN x).bind fun r=>some r) (fun z=>Sum.casesOn (motive:=fun _=>Option DZ) z (fun x=>(MO x).bind fun r=>some r) (fun z=>Sum.casesOn (motive:=fun _=>Option DZ) z (fun x=>(MP x).bind fun r=>some r) (fun z=>Sum.casesOn (motive:=fun _=>Option DZ) z (fun x=>(MR x).bind fun r=>some r) (fun z=>Sum.casesOn (motive:=fun _=>Option DZ) z (fun x=>(MS x).bind fun r=>some r) (fun _=>none)))))) r2.1).bind fun r3=>
   (RF (r1.1,r3)).bind fun r4=>
   some ((decide (0<=r4)),0)
def mL:Rd ((Int×FI)×Int×(List DZ)×Int×Int) (Int):=fun next (r_5,out_7,t18,t19,t20)=>
 bif (decide (t20<t19))then
  (at? t18 t20).bind fun y3=>
  (RG (r_5,y3)).bind fun r4=>
  bif r4.1 then
   (shl? u16 1 (i64.wrap (t20+1))).bind fun n5=>
   next (r_5,(HB u16 out_7 n5),t18,t19,(i64.wrap (t20+1)))
  else
   next (r_5,out_7,t18,t19,(i64.wrap (t20+1)))
 else
  some out_7
def zA:=EI mL fuel
def UR:GD×Int×(Int×FI)->Option (Int):=fun(s_0,i_1,r_2)=>
 (s_0).bind fun p1=>
 (at? p1.2.2.1 i_1).bind fun y2=>
 (zA (r_2,0,y2,(y2.length:Int),0)).bind fun r6=>
 some r6
def bM:Rd (GW×Int×Int×Int×Int×Int×Int) GW:=fun next (s_0,i_1,a_2,j_8,in_9,t70,t71)=>
 bif (decide (t71<t70))then
  (LY (in_9,t71)).bind fun r12=>
  bif (!r12)then
   (in? s_0.2.2.2.2.1.length j_8).bind fun _=>
   (in? (s_0.2.2.2.2.1.getD j_8.toNat []).length t71).bind fun _=>
   let v13:=((s_0.2.2.2.2.1.getD j_8.toNat []).getD t71.toNat [])
   (in? v13.length i_1).bind fun _=>
   (shl? u16 1 a_2).bind fun n14=>
   (in? v13.length i_1).bind fun _=>
   next ((s_0.1,(s_0.2.1,(s_0.2.2.1,(s_0.2.2.2.1,((s_0.2.2.2.2.1.set j_8.toNat ((s_0.2.2.2.2.1.getD j_8.toNat []).set t71.toNat (v13.set i_1.toNat (MC u16 (v13.getD i_1.toNat 0) n14)))),(s_0.2.2.2.2.2.1,s_0.2.2.2.2.2.2)))))),i_1,a_2,j_8,in_9,t70,(i64.wrap (t71+1)))
  else
   next ((s_0.1,(s_0.2.1,(s_0.2.2.1,(s_0.2.2.2.1,(s_0.2.2.2.2.1,(s_0.2.2.2.2.2.1,s_0.2.2.2.2.2.2)))))),i_1,a_2,j_8,in_9,t70,(i64.wrap (t71+1)))
 else
  some (s_0.1,(s_0.2.1,(s_0.2.2.1,(s_0.2.2.2.1,(s_0.2.2.2.2.1,(s_0.2.2.2.2.2.1,s_0.2.2.2.2.2.2))))))
def mM:=EI bM fuel
def bN:GW×Int×Int×OK->Option GW:=fun(s_0,i_1,a_2,need_3)=>
 (MW ((some (s_0.1,(s_0.2.1,(s_0.2.2.1,(s_0.2.2.2.1,(s_0.2.2.2.2.1,(s_0.2.2.2.2.2.1,s_0.2.2.2.2.2.2))))))),need_3.1)).bind fun r1=>
 bif (decide (r1<0))then
  (in? s_0.2.2.2.2.2.1.length i_1).bind fun _=>
  (shl? u16 1 a_2).bind fun n2=>
  (in? s_0.2.2.2.2.2.1.length i_1).bind fun _=>
  some (s_0.1,(s_0.2.1,(s_0.2.2.1,(s_0.2.2.2.1,(s_0.2.2.2.2.1,((s_0.2.2.2.2.2.1.set i_1.toNat (MC u16 (s_0.2.2.2.2.2.1.getD i_1.toNat 0) n2)),s_0.2.2.2.2.2.2))))))
 else
  (in? s_0.2.2.2.1.length i_1).bind fun _=>
  (in? (s_0.2.2.2.1.getD i_1.toNat []).length a_2).bind fun _=>
  (shl? u16 1 r1).bind fun n5=>
  (in? (s_0.2.2.2.1.getD i_1.toNat []).length a_2).bind fun _=>
  let v6:=((s_0.2.2.2.1.getD i_1.toNat []).set a_2.toNat (HB u16 ((s_0.2.2.2.1.getD i_1.toNat []).getD a_2.toNat 0) n5))
  (UR ((some (s_0.1,(s_0.2.1,(s_0.2.2.1,((s_0.2.2.2.1.set i_1.toNat v6),(s_0.2.2.2.2.1,(s_0.2.2.2.2.2.1,s_0.2.2.2.2.2.2))))))),r1,need_3.2.1)).bind fun r7=>
  (in? s_0.2.2.2.2.1.length i_1).bind fun _=>
  (in? (s_0.2.2.2.2.1.getD i_1.toNat []).length a_2).bind fun _=>
  let v8:=((s_0.2.2.2.2.1.getD i_1.toNat []).getD a_2.toNat [])
  (in? v8.length r1).bind fun _=>
  (in? v8.length r1).bind fun _=>
  let v10:=((s_0.2.2.2.2.1.getD i_1.toNat []).set a_2.toNat (v8.set r1.toNat (I7 u16 (v8.getD r1.toNat 0) r7)))
  (in? (s_0.2.2.2.2.1.set i_1.toNat v10).length r1).bind fun _=>
  (mM ((s_0.1,(s_0.2.1,(s_0.2.2.1,((s_0.2.2.2.1.set i_1.toNat v6),((s_0.2.2.2.2.1.set i_1.toNat v10),(s_0.2.2.2.2.2.1,s_0.2.2.2.2.2.2)))))),i_1,a_2,r1,r7,(((s_0.2.2.2.2.1.set i_1.toNat v10).getD r1.toNat []).length:Int),0)).bind fun r17=>
  some (r17.1,(r17.2.1,(r17.2.2.1,(r17.2.2.2.1,(r17.2.2.2.2.1,(r17.2.2.2.2.2.1,r17.2.2.2.2.2.2))))))
def mN:Rd (GW×Int×Int×Int×Int) GW:=fun next (s_0,i_3,a_5,t67,t68)=>
 bif (decide (t68<t67))then
  (in? s_0.2.2.2.2.1.length i_3).bind fun _=>
  (in? (s_0.2.2.2.2.1.getD i_3.toNat []).length a_5).bind fun _=>
  let v8:=((s_0.2.2.2.2.1.getD i_3.toNat []).getD a_5.toNat [])
  (at? s_0.2.2.1 t68).bind fun y9=>
  (UQ (i64.wrap ((y9.length:Int)+1))).bind fun r10=>
  (in? v8.length t68).bind fun _=>
  next ((s_0.1,(s_0.2.1,(s_0.2.2.1,(s_0.2.2.2.1,((s_0.2.2.2.2.1.set i_3.toNat ((s_0.2.2.2.2.1.getD i_3.toNat []).set a_5.toNat (v8.set t68.toNat r10))),(s_0.2.2.2.2.2.1,s_0.2.2.2.2.2.2)))))),i_3,a_5,t67,(i64.wrap (t68+1)))
 else
  some (s_0.1,(s_0.2.1,(s_0.2.2.1,(s_0.2.2.2.1,(s_0.2.2.2.2.1,(s_0.2.2.2.2.2.1,s_0.2.2.2.2.2.2))))))
def mO:=EI mN fuel
def mP:Rd (GW×Int×Int×Int×Int) GW:=fun next (s_0,n_2,i_3,t52,t53)=>
 bif (decide (t53<t52))then
  (in? s_0.2.2.2.2.1.length i_3).bind fun _=>
  (mks? 24 n_2 n_2 0).bind fun z6=>
  (in? (s_0.2.2.2.2.1.getD i_3.toNat []).length t53).bind fun _=>
  (mO ((s_0.1,(s_0.2.1,(s_0.2.2.1,(s_0.2.2.2.1,((s_0.2.2.2.2.1.set i_3.toNat ((s_0.2.2.2.2.1.getD i_3.toNat []).set t53.toNat z6)),(s_0.2.2.2.2.2.1,s_0.2.2.2.2.2.2)))))),i_3,t53,n_2,0)).bind fun r12=>
  next ((r12.1,(r12.2.1,(r12.2.2.1,(r12.2.2.2.1,(r12.2.2.2.2.1,(r12.2.2.2.2.2.1,r12.2.2.2.2.2.2)))))),n_2,i_3,t52,(i64.wrap (t53+1)))
 else
  some (s_0.1,(s_0.2.1,(s_0.2.2.1,(s_0.2.2.2.1,(s_0.2.2.2.2.1,(s_0.2.2.2.2.2.1,s_0.2.2.2.2.2.2))))))
def mQ:=EI mP fuel
def mR:Rd (GW×Int×Int×Int) GW:=fun next (s_0,n_2,t17,t18)=>
 bif (decide (t18<t17))then
  (at? s_0.2.2.1 t18).bind fun y1=>
  (mks? 24 (i64.wrap ((y1.length:Int)+1)) (i64.wrap ((y1.length:Int)+1)) 0).bind fun z2=>
  (app? 24 s_0.2.2.2.1 [z2]).bind fun l3=>
  (mks? 24 (i64.wrap ((y1.length:Int)+1)) (i64.wrap ((y1.length:Int)+1)) []).bind fun z4=>
  (app? 24 s_0.2.2.2.2.1 [z4]).bind fun l5=>
  (mQ ((s_0.1,(s_0.2.1,(s_0.2.2.1,(l3,(l5,(s_0.2.2.2.2.2.1,s_0.2.2.2.2.2.2)))))),n_2,t18,(i64.wrap ((y1.length:Int)+1)),0)).bind fun r13=>
  next ((r13.1,(r13.2.1,(r13.2.2.1,(r13.2.2.2.1,(r13.2.2.2.2.1,(r13.2.2.2.2.2.1,r13.2.2.2.2.2.2)))))),n_2,t17,(i64.wrap (t18+1)))
 else
  some (s_0.1,(s_0.2.1,(s_0.2.2.1,(s_0.2.2.2.1,(s_0.2.2.2.2.1,(s_0.2.2.2.2.2.1,s_0.2.2.2.2.2.2))))))
def mS:=EI mR fuel
def mT:Rd (GW×Int×Int×H2×Int×Int) GW:=fun next (s_0,i_7,k_8,t126,t127,t128)=>
 bif (decide (t128<t127))then
  (at? t126 t128).bind fun y19=>
  (bN ((s_0.1,(s_0.2.1,(s_0.2.2.1,(s_0.2.2.2.1,(s_0.2.2.2.2.1,(s_0.2.2.2.2.2.1,s_0.2.2.2.2.2.2)))))),i_7,(i64.wrap (k_8+1)),y19)).bind fun r20=>
  next ((r20.1,(r20.2.1,(r20.2.2.1,(r20.2.2.2.1,(r20.2.2.2.2.1,(r20.2.2.2.2.2.1,r20.2.2.2.2.2.2)))))),i_7,k_8,t126,t127,(i64.wrap (t128+1)))
 else
  some (s_0.1,(s_0.2.1,(s_0.2.2.1,(s_0.2.2.2.1,(s_0.2.2.2.2.1,(s_0.2.2.2.2.2.1,s_0.2.2.2.2.2.2))))))
def mU:=EI mT fuel
def mV:Rd (GW×Int×(List DZ)×Int×Int) GW:=fun next (s_0,i_7,t106,t107,t108)=>
 bif (decide (t108<t107))then
  (at? t106 t108).bind fun y16=>
  (at? s_0.2.1 i_7).bind fun y17=>
  (RE (s_0.1,(y17,y16))).bind fun r18=>
  (mU ((s_0.1,(s_0.2.1,(s_0.2.2.1,(s_0.2.2.2.1,(s_0.2.2.2.2.1,(s_0.2.2.2.2.2.1,s_0.2.2.2.2.2.2)))))),i_7,t108,r18,(r18.length:Int),0)).bind fun r21=>
  next ((r21.1,(r21.2.1,(r21.2.2.1,(r21.2.2.2.1,(r21.2.2.2.2.1,(r21.2.2.2.2.2.1,r21.2.2.2.2.2.2)))))),i_7,t106,t107,(i64.wrap (t108+1)))
 else
  some (s_0.1,(s_0.2.1,(s_0.2.2.1,(s_0.2.2.2.1,(s_0.2.2.2.2.1,(s_0.2.2.2.2.2.1,s_0.2.2.2.2.2.2))))))
def mW:=EI mV fuel
def mX:Rd (GW×Int×Int) GW:=fun next (s_0,t96,t97)=>
 bif (decide (t97<t96))then
  (at? s_0.2.2.1 t97).bind fun y15=>
  (mW ((s_0.1,(s_0.2.1,(s_0.2.2.1,(s_0.2.2.2.1,(s_0.2.2.2.2.1,(s_0.2.2.2.2.2.1,s_0.2.2.2.2.2.2)))))),t97,y15,(y15.length:Int),0)).bind fun r22=>
  next ((r22.1,(r22.2.1,(r22.2.2.1,(r22.2.2.2.1,(r22.2.2.2.2.1,(r22.2.2.2.2.2.1,r22.2.2.2.2.2.2)))))),t96,(i64.wrap (t97+1)))
 else
  some (s_0.1,(s_0.2.1,(s_0.2.2.1,(s_0.2.2.2.1,(s_0.2.2.2.2.1,(s_0.2.2.2.2.2.1,s_0.2.2.2.2.2.2))))))
def mY:=EI mX fuel
def bO:H3×((List DZ)×((List (List DZ))×((List (List Int))×((List (List (List Int)))×((List Int)×Int)))))->Option GW:=fun s_0=>
 (mS ((s_0.1,(s_0.2.1,(s_0.2.2.1,(s_0.2.2.2.1,(s_0.2.2.2.2.1,(s_0.2.2.2.2.2.1,s_0.2.2.2.2.2.2)))))),(s_0.2.1.length:Int),(s_0.2.1.length:Int),0)).bind fun r14=>
 (mY ((r14.1,(r14.2.1,(r14.2.2.1,(r14.2.2.2.1,(r14.2.2.2.2.1,(r14.2.2.2.2.2.1,r14.2.2.2.2.2.2)))))),(s_0.2.1.length:Int),0)).bind fun r23=>
 some (r23.1,(r23.2.1,(r23.2.2.1,(r23.2.2.2.1,(r23.2.2.2.2.1,(r23.2.2.2.2.2.1,r23.2.2.2.2.2.2))))))
def mZ:Rd (GW×H2×Int×Int) (Sum GW (GW×Bool)):=fun next (s_0,t22,t23,t24)=>
 bif (decide (t24<t23))then
  (at? t22 t24).bind fun y2=>
  (MW ((some (s_0.1,(s_0.2.1,(s_0.2.2.1,(s_0.2.2.2.1,(s_0.2.2.2.2.1,(s_0.2.2.2.2.2.1,s_0.2.2.2.2.2.2))))))),y2.1)).bind fun r3=>
  bif (decide (r3<0))then
   some (.inr ((s_0.1,(s_0.2.1,(s_0.2.2.1,(s_0.2.2.2.1,(s_0.2.2.2.2.1,(s_0.2.2.2.2.2.1,s_0.2.2.2.2.2.2)))))),false))
  else
   (in? s_0.2.2.2.2.2.1.length r3).bind fun _=>
   (UR ((some (s_0.1,(s_0.2.1,(s_0.2.2.1,(s_0.2.2.2.1,(s_0.2.2.2.2.1,(s_0.2.2.2.2.2.1,s_0.2.2.2.2.2.2))))))),r3,y2.2.1)).bind fun r4=>
   (in? s_0.2.2.2.2.2.1.length r3).bind fun _=>
   (shl? u16 1 r3).bind fun n6=>
   next ((s_0.1,(s_0.2.1,(s_0.2.2.1,(s_0.2.2.2.1,(s_0.2.2.2.2.1,((s_0.2.2.2.2.2.1.set r3.toNat (I7 u16 (s_0.2.2.2.2.2.1.getD r3.toNat 0) r4)),(HB u16 s_0.2.2.2.2.2.2 n6))))))),t22,t23,(i64.wrap (t24+1)))
 else
  some (.inl (s_0.1,(s_0.2.1,(s_0.2.2.1,(s_0.2.2.2.1,(s_0.2.2.2.2.1,(s_0.2.2.2.2.2.1,s_0.2.2.2.2.2.2)))))))
def m_:=EI mZ fuel
def bP:Int×Int×Bool->Option (Int):=fun(only_11,k_12,t93)=>
 bif t93 then
  (shl? u16 1 (i64.wrap (k_12+1))).bind fun n14=>
  some n14
 else
  some only_11
def nA:Rd (GW×(List DZ)×Int×Int) (Sum GW (GW×Bool)):=fun next (s_0,t62,t63,t64)=>
 bif (decide (t64<t63))then
  (at? t62 t64).bind fun y9=>
  (MW ((some (s_0.1,(s_0.2.1,(s_0.2.2.1,(s_0.2.2.2.1,(s_0.2.2.2.2.1,(s_0.2.2.2.2.2.1,s_0.2.2.2.2.2.2))))))),y9)).bind fun r10=>
  bif (decide (r10<0))then
   some (.inr ((s_0.1,(s_0.2.1,(s_0.2.2.1,(s_0.2.2.2.1,(s_0.2.2.2.2.1,(s_0.2.2.2.2.2.1,s_0.2.2.2.2.2.2)))))),false))
  else
   (M1 (s_0.1.2.2.2.1,y9)).bind fun r11=>
   (at? s_0.2.2.1 r10).bind fun y12=>
   (MQ (y12,r11.1)).bind fun r13=>
   (bP (0,r13,(decide (0<=r13)))).bind fun r15=>
   (in? s_0.2.2.2.2.2.1.length r10).bind fun _=>
   (in? s_0.2.2.2.2.2.1.length r10).bind fun _=>
   (shl? u16 1 r10).bind fun n17=>
   next ((s_0.1,(s_0.2.1,(s_0.2.2.1,(s_0.2.2.2.1,(s_0.2.2.2.2.1,((s_0.2.2.2.2.2.1.set r10.toNat (I7 u16 (s_0.2.2.2.2.2.1.getD r10.toNat 0) r15)),(HB u16 s_0.2.2.2.2.2.2 n17))))))),t62,t63,(i64.wrap (t64+1)))
 else
  some (.inl (s_0.1,(s_0.2.1,(s_0.2.2.1,(s_0.2.2.2.1,(s_0.2.2.2.2.1,(s_0.2.2.2.2.2.1,s_0.2.2.2.2.2.2)))))))
def nB:=EI nA fuel
def nC:H3×((List DZ)×((List (List DZ))×((List (List Int))×((List (List (List Int)))×((List Int)×Int)))))->Option (Bool×GW):=fun s_0=>
 (OT (s_0.1,s_0.1.2.1)).bind fun r1=>
 (m_ ((s_0.1,(s_0.2.1,(s_0.2.2.1,(s_0.2.2.2.1,(s_0.2.2.2.2.1,(s_0.2.2.2.2.2.1,s_0.2.2.2.2.2.2)))))),r1,(r1.length:Int),0)).bind fun r7=>
 match r7 with
 | .inl y8=>
  (nB ((y8.1,(y8.2.1,(y8.2.2.1,(y8.2.2.2.1,(y8.2.2.2.2.1,(y8.2.2.2.2.2.1,y8.2.2.2.2.2.2)))))),y8.1.2.2.2.2.1,(y8.1.2.2.2.2.1.length:Int),0)).bind fun r18=>
  match r18 with
  | .inl y19=>
   some (true,(y19.1,(y19.2.1,(y19.2.2.1,(y19.2.2.2.1,(y19.2.2.2.2.1,(y19.2.2.2.2.2.1,y19.2.2.2.2.2.2)))))))
  | .inr y19'=>
   some (y19'.2,(y19'.1.1,(y19'.1.2.1,(y19'.1.2.2.1,(y19'.1.2.2.2.1,(y19'.1.2.2.2.2.1,(y19'.1.2.2.2.2.2.1,y19'.1.2.2.2.2.2.2)))))))
 | .inr y8'=>
  some (y8'.2,(y8'.1.1,(y8'.1.2.1,(y8'.1.2.2.1,(y8'.1.2.2.2.1,(y8'.1.2.2.2.2.1,(y8'.1.2.2.2.2.2.1,y8'.1.2.2.2.2.2.2)))))))
def nD:Rd (GW×JA×Int×Int) GW:=fun next (s_4,t15,t16,t17)=>
 bif (decide (t17<t16))then
  (at? t15 t17).bind fun y1=>
  (MW ((some (s_4.1,(s_4.2.1,(s_4.2.2.1,(s_4.2.2.2.1,(s_4.2.2.2.2.1,(s_4.2.2.2.2.2.1,s_4.2.2.2.2.2.2))))))),y1.1)).bind fun r2=>
  bif (decide (r2<0))then
   (app? 24 s_4.2.1 [y1.1]).bind fun l3=>
   next ((s_4.1,(l3,(s_4.2.2.1,(s_4.2.2.2.1,(s_4.2.2.2.2.1,(s_4.2.2.2.2.2.1,s_4.2.2.2.2.2.2)))))),t15,t16,(i64.wrap (t17+1)))
  else
   next ((s_4.1,(s_4.2.1,(s_4.2.2.1,(s_4.2.2.2.1,(s_4.2.2.2.2.1,(s_4.2.2.2.2.2.1,s_4.2.2.2.2.2.2)))))),t15,t16,(i64.wrap (t17+1)))
 else
  some (s_4.1,(s_4.2.1,(s_4.2.2.1,(s_4.2.2.2.1,(s_4.2.2.2.2.1,(s_4.2.2.2.2.2.1,s_4.2.2.2.2.2.2))))))
def nE:=EI nD fuel
def nF:Rd (H3×GW×(List DZ)×Int×Int) GW:=fun next (t_1,s_4,t41,t42,t43)=>
 bif (decide (t43<t42))then
  (at? t41 t43).bind fun y5=>
  (UP (t_1,y5)).bind fun r6=>
  (bK r6).bind fun r7=>
  (app? 24 s_4.2.2.1 [r7]).bind fun l8=>
  (UQ (i64.wrap ((r7.length:Int)+1))).bind fun r9=>
  (app? 24 s_4.2.2.2.2.2.1 [r9]).bind fun l10=>
  next (t_1,(s_4.1,(s_4.2.1,(l8,(s_4.2.2.2.1,(s_4.2.2.2.2.1,(l10,s_4.2.2.2.2.2.2)))))),t41,t42,(i64.wrap (t43+1)))
 else
  some (s_4.1,(s_4.2.1,(s_4.2.2.1,(s_4.2.2.2.1,(s_4.2.2.2.2.1,(s_4.2.2.2.2.2.1,s_4.2.2.2.2.2.2))))))
def nG:=EI nF fuel
def bQ:JA×H2×Int×E3×(List DZ)×Bool×(Int×(List K6)×(List Int))->Option (GD×Bool):=fun t_0=>
 (nE ((t_0,([],([],([],([],([],0)))))),t_0.1,(t_0.1.length:Int),0)).bind fun r4=>
 (nG (t_0,(r4.1,(r4.2.1,(r4.2.2.1,(r4.2.2.2.1,(r4.2.2.2.2.1,(r4.2.2.2.2.2.1,r4.2.2.2.2.2.2)))))),r4.2.1,(r4.2.1.length:Int),0)).bind fun r11=>
 (bO (r11.1,(r11.2.1,(r11.2.2.1,(r11.2.2.2.1,(r11.2.2.2.2.1,(r11.2.2.2.2.2.1,r11.2.2.2.2.2.2))))))).bind fun r12=>
 (nC (r12.1,(r12.2.1,(r12.2.2.1,(r12.2.2.2.1,(r12.2.2.2.2.1,(r12.2.2.2.2.2.1,r12.2.2.2.2.2.2))))))).bind fun r13=>
 some ((some (r13.2.1,(r13.2.2.1,(r13.2.2.2.1,(r13.2.2.2.2.1,(r13.2.2.2.2.2.1,(r13.2.2.2.2.2.2.1,r13.2.2.2.2.2.2.2))))))),r13.1)
def A9V:Unit->Option (List Int):=fun s_0=>
 some []
def nH:List Int->Option (List Int):=fun s_0=>
 (app? 24 [] s_0).bind fun l1=>
 some l1
def nI:List Int->Option (List Int):=nH
def nJ:Rd (GD×(List Int)×Int×Bool×Int×Int×Int) (Int×Bool):=fun next (s_0,left_1,out_5,again_6,i_7,t33,t34)=>
 bif (decide (t34<t33))then
  (at? left_1 i_7).bind fun y6=>
  (LY (y6,t34)).bind fun r7=>
  (bif r7 then s_0 else some (([],([],(0,([],([],(false,(0,([],[])))))))),([],([],([],([],([],0))))))).bind fun p8=>
  (bif r7 then at? p8.2.2.2.1 i_7 else some []).bind fun y9=>
  (bif r7 then at? y9 t34 else some 0).bind fun y10=>
  bif (r7&&(!(E4 (HB u16 out_5 y10) out_5)))then
   (s_0).bind fun p11=>
   (at? p11.2.2.2.1 i_7).bind fun y12=>
   (at? y12 t34).bind fun y13=>
   next (s_0,left_1,(HB u16 out_5 y13),true,i_7,t33,(i64.wrap (t34+1)))
  else
   next (s_0,left_1,out_5,again_6,i_7,t33,(i64.wrap (t34+1)))
 else
  some (out_5,again_6)
def nK:=EI nJ fuel
def nL:Rd (GD×(List Int)×Int×Bool×Int×Int) (Int×Bool):=fun next (s_0,left_1,out_5,again_6,t18,t19)=>
 bif (decide (t19<t18))then
  (LY (out_5,t19)).bind fun r3=>
  bif (!r3)then
   next (s_0,left_1,out_5,again_6,t18,(i64.wrap (t19+1)))
  else
   (s_0).bind fun p4=>
   (at? p4.2.2.2.1 t19).bind fun y5=>
   (nK (s_0,left_1,out_5,again_6,t19,(y5.length:Int),0)).bind fun r14=>
   next (s_0,left_1,r14.1,r14.2,t18,(i64.wrap (t19+1)))
 else
  some (out_5,again_6)
def nM:=EI nL fuel
def zB:Rd (GD×(List Int)×Int×Bool) (Int):=fun next (s_0,left_1,out_5,again_6)=>
 bif again_6 then
  (s_0).bind fun p2=>
  (nM (s_0,left_1,out_5,false,(p2.2.1.length:Int),0)).bind fun r15=>
  next (s_0,left_1,r15.1,r15.2)
 else
  some out_5
def zC:=EI zB fuel
def bR:GD×(List Int)->Option (Int):=fun(s_0,left_1)=>
 (s_0).bind fun p1=>
 (zC (s_0,left_1,p1.2.2.2.2.2.2,true)).bind fun r16=>
 some r16
def nN:Rd (Int×(List Int)×Int×Int) MK:=fun next (in_5,t11,t12,t13)=>
 bif (decide (t13<t12))then
  (at? t11 t13).bind fun y2=>
  (LY (y2,0)).bind fun r3=>
  (bif (!r3)then LY (in_5,t13)else some false).bind fun r4=>
  bif ((!r3)&&(!r4))then
   some (.inr false)
  else
   next (in_5,t11,t12,(i64.wrap (t13+1)))
 else
  some (.inl ())
def nO:=EI nN fuel
def US:GD×(List Int)->Option (Bool):=fun(s_0,left_1)=>
 (bR (s_0,left_1)).bind fun r1=>
 (nO (r1,left_1,(left_1.length:Int),0)).bind fun r5=>
 match r5 with
 | .inl y6=>
  some true
 | .inr y6'=>
  some y6'
def nP:Rd (GD×Int×Int×(List Int)×Int×Int) (Sum (List Int) ((List Int)×Bool)):=fun next (s_0,i_2,a_3,out_10,t20,t21)=>
 bif (decide (t21<t20))then
  bif (E4 t21 i_2)then
   next (s_0,i_2,a_3,out_10,t20,(i64.wrap (t21+1)))
  else
   (in? out_10.length t21).bind fun _=>
   (s_0).bind fun p3=>
   (at? p3.2.2.2.2.1 i_2).bind fun y4=>
   (at? y4 a_3).bind fun y5=>
   (at? y5 t21).bind fun y6=>
   (in? out_10.length t21).bind fun _=>
   let v7:=(out_10.set t21.toNat (I7 u16 (out_10.getD t21.toNat 0) y6))
   (in? v7.length t21).bind fun _=>
   bif (E4 (v7.getD t21.toNat 0) 0)then
    some (.inr ([],false))
   else
    next (s_0,i_2,a_3,v7,t20,(i64.wrap (t21+1)))
 else
  some (.inl out_10)
def nQ:=EI nP fuel
def bT:GD×(List Int)×Int×Int->Option ((List Int)×Bool):=fun(s_0,left_1,i_2,a_3)=>
 (nI left_1).bind fun r1=>
 (shl? u16 1 a_3).bind fun n2=>
 (in? r1.length i_2).bind fun _=>
 (nQ (s_0,i_2,a_3,(r1.set i_2.toNat n2),((r1.set i_2.toNat n2).length:Int),0)).bind fun r8=>
 match r8 with
 | .inl y9=>
  (US (s_0,y9)).bind fun r10=>
  some (y9,r10)
 | .inr y9'=>
  some (y9'.1,y9'.2)
def nR(slf:Int×(List Int)×Unit×GD×Unit×Unit×(List E3)×GD×Int->Option (Bool×(List E3)))(next:Int×(List Int)×GD×Int×Int×(List E3)×GD×Int->Option iL):Int×(List Int)×GD×Int×Int×(List E3)×GD×Int->Option iL:=fun(i_0,left_1,t3,t33,t34,q0,q1,q2)=>
 bif (decide (t34<t33))then
  (at? left_1 i_0).bind fun y6=>
  (LY (y6,t34)).bind fun r7=>
  bif (!r7)then
   next (i_0,left_1,t3,t33,(i64.wrap (t34+1)),q0,q1,q2)
  else
   (bT (t3,left_1,i_0,t34)).bind fun r8=>
   (bif r8.2 then slf ((i64.wrap (i_0+1)),r8.1,(),t3,(),(),q0,q1,q2)else some (false,[])).bind fun r9=>
   bif r8.2 then
    bif (r8.2&&(!r9.1))then
     some (.inr (false,r9.2,q1,q2))
    else
     next (i_0,left_1,t3,t33,(i64.wrap (t34+1)),r9.2,q1,q2)
   else
    bif (r8.2&&(!r9.1))then
     some (.inr (false,q0,q1,q2))
    else
     next (i_0,left_1,t3,t33,(i64.wrap (t34+1)),q0,q1,q2)
 else
  some (.inl (q0,q1,q2))
def nS(slf:Int×(List Int)×Unit×GD×Unit×Unit×(List E3)×GD×Int->Option (Bool×(List E3))):Int×(List Int)×GD×Int×Int×(List E3)×GD×Int->Option iL:=EI (nR slf) fuel
def UT(slf:Int×(List Int)×Unit×GD×Unit×Unit×(List E3)×GD×Int->Option (Bool×(List E3))):Int×(List Int)×Unit×GD×Unit×Unit×(List E3)×GD×Int->Option (Bool×(List E3)):=fun(i_0,left_1,t2,t3,t4,t5,q0,q1,q2)=>
 (X_ left_1).bind fun r1=>
 bif (!r1)then
  some (true,q0)
 else
  (t3).bind fun p2=>
  bif (E4 i_0 (p2.2.1.length:Int))then
   (iP (left_1,q0,q1,q2)).bind fun r3=>
   some (r3.1,r3.2)
  else
   (t3).bind fun p4=>
   (at? p4.2.2.2.1 i_0).bind fun y5=>
   ((nS slf) (i_0,left_1,t3,(y5.length:Int),0,q0,q1,q2)).bind fun r10=>
   match r10 with
   | .inl y11=>
    some (true,y11.1)
   | .inr y11'=>
    some (y11'.1,y11'.2.1)
def NO:Nat->Int×(List Int)×Unit×GD×Unit×Unit×(List E3)×GD×Int->Option (Bool×(List E3))
 |0=>fun _=>none
 |n+1=>UT (NO n)
def nT:Int×(List Int)×Unit×GD×Unit×Unit×(List E3)×GD×Int->Option (Bool×(List E3)):=NO 100
def nU:Rd ((List Int)×Int×Int×Int) HV:=fun next (s_0,v_1,t7,t8)=>
 bif (decide (t8<t7))then
  (at? s_0 t8).bind fun y1=>
  bif (E4 v_1 y1)then
   some (.inr t8)
  else
   next (s_0,v_1,t7,(i64.wrap (t8+1)))
 else
  some (.inl ())
def nV:=EI nU fuel
def nW:(List Int)×Int->Option (Int):=fun(s_0,v_1)=>
 (nV (s_0,v_1,(s_0.length:Int),0)).bind fun r2=>
 match r2 with
 | .inl y3=>
  some (-1:Int)
 | .inr y3'=>
  some y3'
def bU:(List Int)×Int->Option (Bool):=fun(s_0,v_1)=>
 (nW (s_0,v_1)).bind fun r1=>
 some (decide (0<=r1))
def UU:GD×Unit×Unit×(List E3)×GD×Int->Option (List E3):=fun(s_0,keep_1,found_2,q0,q1,q2)=>
 (s_0).bind fun p1=>
 (bU (p1.2.2.2.2.2.1,0)).bind fun r2=>
 (bif (!r2)then s_0 else some (([],([],(0,([],([],(false,(0,([],[])))))))),([],([],([],([],([],0))))))).bind fun p3=>
 (bif (!r2)then US (s_0,p3.2.2.2.2.2.1)else some false).bind fun r4=>
 bif ((!r2)&&r4)then
  (s_0).bind fun p5=>
  (nT (0,p5.2.2.2.2.2.1,(),s_0,(),(),q0,q1,q2)).bind fun r6=>
  some r6.2
 else
  some q0
def M2:H3×Int->Option (List E3):=fun(t_0,most_1)=>
 (bQ t_0).bind fun r1=>
 bif ((!r1.2)||(E4 most_1 0))then
  some []
 else
  (UU (r1.1,(),(),[],r1.1,most_1)).bind fun r2=>
  some r2
def nX:H3×Int->Option ((List E3)×Int):=fun(t_0,most_1)=>
 (MV t_0).bind fun r1=>
 bif (!(E4 r1 0))then
  some ([],r1)
 else
  bif ((decide (most_1<0))||(decide (1000<most_1)))then
   some ([],9)
  else
   (M2 (t_0,most_1)).bind fun r3=>
   some (r3,0)
def bV:JA×H2×Int×E3×(List DZ)×Bool×(Int×(List K6)×(List Int))->Option (E3×Bool×Int):=fun t_0=>
 (MV t_0).bind fun r1=>
 bif (!(E4 r1 0))then
  some ([],false,r1)
 else
  (M2 (t_0,1)).bind fun r2=>
  bif (E4 (r2.length:Int) 0)then
   some ([],false,0)
  else
   (at? r2 0).bind fun y3=>
   some (y3,true,0)
def bW:Unit->Option (Bool):=fun _=>
 (bV ([([112,107,103,58,112,108,97,105,110,47,97],([49],([],false))),([112,107,103,58,112,108,97,105,110,47,97],([50],([],false)))],([([112,107,103,58,112,108,97,105,110,47,97],((5,[((true,(true,[48])),(false,(false,[])))]),1))],(1,([],([],(false,(0,([],[]))))))))).bind fun r9=>
 let v10:=((r9.2.1&&(E4 r9.2.2 0))&&(E4 (r9.1.length:Int) 1))
 (bif v10 then at? r9.1 0 else some ([],[])).bind fun y11=>
 some (v10&&(EN y11.2 [50]))
def nY:H3×E3->Option (Int):=fun(t_0,l_1)=>
 (MV t_0).bind fun r1=>
 bif (!(E4 r1 0))then
  some r1
 else
  (UM l_1).bind fun r2=>
  some r2
def nZ:Rd (E3×DZ×LF×H2×Int×Int) LF:=fun next (l_0,by_2,out_7,t14,t15,t16)=>
 bif (decide (t16<t15))then
  (at? t14 t16).bind fun y1=>
  (M1 (l_0,y1.1)).bind fun r2=>
  (RG (y1.2.1,r2.1)).bind fun r3=>
  bif (!r2.2)then
   (app? 72 out_7 [(1,(y1.1,by_2))]).bind fun l5=>
   next (l_0,by_2,l5,t14,t15,(i64.wrap (t16+1)))
  else
   bif (!r3.1)then
    (app? 72 out_7 [(2,(y1.1,by_2))]).bind fun l7=>
    next (l_0,by_2,l7,t14,t15,(i64.wrap (t16+1)))
   else
    next (l_0,by_2,out_7,t14,t15,(i64.wrap (t16+1)))
 else
  some out_7
def zD:=EI nZ fuel
def UV:E3×H2×DZ->Option LF:=fun(l_0,needs_1,by_2)=>
 (zD (l_0,by_2,[],needs_1,(needs_1.length:Int),0)).bind fun r8=>
 some r8
def A9W:Unit->Option (List DZ):=fun s_0=>
 some []
def o0:List DZ->Option (List DZ):=fun s_0=>
 (app? 24 [] s_0).bind fun l1=>
 some l1
def bX:List DZ->Option (List DZ):=o0
def o4:Rd ((List DZ)×H2×Int×Int) (List DZ):=fun next (todo_6,t21,t22,t23)=>
 bif (decide (t23<t22))then
  (at? t21 t23).bind fun y3=>
  (app? 24 todo_6 [y3.1]).bind fun l4=>
  next (l4,t21,t22,(i64.wrap (t23+1)))
 else
  some todo_6
def o5:=EI o4 fuel
def o6:Rd ((List DZ)×H2×Int×Int) (List DZ):=fun next (todo_6,t60,t61,t62)=>
 bif (decide (t62<t61))then
  (at? t60 t62).bind fun y13=>
  (app? 24 todo_6 [y13.1]).bind fun l14=>
  next (l14,t60,t61,(i64.wrap (t62+1)))
 else
  some todo_6
def o7:=EI o6 fuel
def zF:Rd (E3×H3×(List (DZ×Bool))×(List DZ)) (List (DZ×Bool)):=fun next (l_1,t_2,out_5,todo_6)=>
 bif (decide (0<(todo_6.length:Int)))then
  (in? todo_6.length 0).bind fun _=>
  (cut? todo_6 1 (todo_6.length:Int)).bind fun s9=>
  (M1 (l_1,(todo_6.getD 0 []))).bind fun r10=>
  bif ((!r10.2)||((HL EN (todo_6.getD 0 []) out_5).getD false))then
   next (l_1,t_2,out_5,s9)
  else
   (RE (t_2,((todo_6.getD 0 []),r10.1))).bind fun r12=>
   (o7 (s9,r12,(r12.length:Int),0)).bind fun r15=>
   next (l_1,t_2,(GM EN (todo_6.getD 0 []) true out_5),r15)
 else
  some out_5
def zG:=EI zF fuel
def bY:H3×E3->Option (List (DZ×Bool)):=fun(t_0,l_1)=>
 (bX t_0.2.2.2.2.1).bind fun r1=>
 (OT (t_0,t_0.2.1)).bind fun r2=>
 (o5 (r1,r2,(r2.length:Int),0)).bind fun r5=>
 (zG (l_1,t_0,[],r5)).bind fun r16=>
 some r16
def o8:Rd (E3×H3×LF×E3×Int×Int) (H3×LF):=fun next (l_1,t_2,out_5,t23,t24,t25)=>
 bif (decide (t25<t24))then
  (at? t23 t25).bind fun y3=>
  (UP (t_2,y3.1)).bind fun r4=>
  (OR (r4,y3.2)).bind fun r5=>
  bif (!r5)then
   (app? 72 out_5 [(3,(y3.1,[]))]).bind fun l7=>
   next (l_1,t_2,l7,t23,t24,(i64.wrap (t25+1)))
  else
   (RE (t_2,y3)).bind fun r8=>
   (UV (l_1,r8,y3.1)).bind fun r9=>
   (app? 72 out_5 r9).bind fun l10=>
   next (l_1,t_2,l10,t23,t24,(i64.wrap (t25+1)))
 else
  some (t_2,out_5)
def o9:=EI o8 fuel
def oA:Rd (LF×(List (DZ×Bool))×E3×Int×Int) LF:=fun next (out_5,in_8,t56,t57,t58)=>
 bif (decide (t58<t57))then
  (at? t56 t58).bind fun y13=>
  bif (!((HL EN y13.1 in_8).getD false))then
   (app? 72 out_5 [(4,(y13.1,[]))]).bind fun l15=>
   next (l15,in_8,t56,t57,(i64.wrap (t58+1)))
  else
   next (out_5,in_8,t56,t57,(i64.wrap (t58+1)))
 else
  some out_5
def oB:=EI oA fuel
def oC:Rd (E3×H3×LF×(List DZ)×Int×Int) LF:=fun next (l_1,t_2,out_5,t75,t76,t77)=>
 bif (decide (t77<t76))then
  (at? t75 t77).bind fun y17=>
  (M1 (l_1,y17)).bind fun r18=>
  (M1 (t_2.2.2.2.1,y17)).bind fun r19=>
  bif ((!r18.2)||(!(EN r18.1 r19.1)))then
   (app? 72 out_5 [(5,(y17,[]))]).bind fun l21=>
   next (l_1,t_2,l21,t75,t76,(i64.wrap (t77+1)))
  else
   next (l_1,t_2,out_5,t75,t76,(i64.wrap (t77+1)))
 else
  some out_5
def oD:=EI oC fuel
def bZ:H3×E3->Option LF:=fun(t_0,l_1)=>
 (OT (t_0,t_0.2.1)).bind fun r1=>
 (UV (l_1,r1,[])).bind fun r2=>
 (o9 (l_1,t_0,r2,l_1,(l_1.length:Int),0)).bind fun r11=>
 (bY (r11.1,l_1)).bind fun r12=>
 (oB (r11.2,r12,l_1,(l_1.length:Int),0)).bind fun r16=>
 (oD (l_1,r11.1,r16,r11.1.2.2.2.2.1,(r11.1.2.2.2.2.1.length:Int),0)).bind fun r22=>
 some r22
def UW:H3×E3->Option (LF×Int):=fun(t_0,l_1)=>
 (nY (t_0,l_1)).bind fun r1=>
 bif (!(E4 r1 0))then
  some ([],r1)
 else
  (bZ (t_0,l_1)).bind fun r2=>
  some (r2,0)
def oE:Rd (E3×E3×Int×Int) MK:=fun next (s1_0,s2_1,t12,t13)=>
 bif (decide (t13<t12))then
  (at? s1_0 t13).bind fun y1=>
  (at? s2_1 t13).bind fun y2=>
  bif (!((EN y1.1 y2.1)&&(EN y1.2 y2.2)))then
   some (.inr false)
  else
   next (s1_0,s2_1,t12,(i64.wrap (t13+1)))
 else
  some (.inl ())
def oG:=EI oE fuel
def MX:E3×E3->Option (Bool):=fun(s1_0,s2_1)=>
 bif (!(E4 (s1_0.length:Int) (s2_1.length:Int)))then
  some false
 else
  (oG (s1_0,s2_1,(s1_0.length:Int),0)).bind fun r3=>
  match r3 with
  | .inl y4=>
   some true
  | .inr y4'=>
   some y4'
def UX:E3×(Option E3)->Option (Bool):=fun(o_0,t1)=>
 (t1).bind fun p1=>
 (MX (o_0,p1)).bind fun r2=>
 some r2
def oH:Rd ((List E3)×(E3->Option Bool)×Int×Int) HV:=fun next (s_0,f_1,t7,t8)=>
 bif (decide (t8<t7))then
  (at? s_0 t8).bind fun y1=>
  (f_1 y1).bind fun r2=>
  bif r2 then
   some (.inr t8)
  else
   next (s_0,f_1,t7,(i64.wrap (t8+1)))
 else
  some (.inl ())
def oI:=EI oH fuel
def oJ:(List E3)×(E3->Option Bool)->Option (Int):=fun(s_0,f_1)=>
 (oI (s_0,f_1,(s_0.length:Int),0)).bind fun r3=>
 match r3 with
 | .inl y4=>
  some (-1:Int)
 | .inr y4'=>
  some y4'
def UY:(List E3)×(E3->Option Bool)->Option (Bool):=fun(s_0,f_1)=>
 (oJ (s_0,f_1)).bind fun r1=>
 some (decide (0<=r1))
def UZ:E3×(Option E3)->Option (Bool):=fun(o_0,t1)=>
 (t1).bind fun p1=>
 (MX (o_0,p1)).bind fun r2=>
 some r2
def oK:Rd (H3×(List E3)×(List E3)×Int×Int) (Sum H3 (Bool)):=fun next (t_3,x_7,t38,t39,t40)=>
 bif (decide (t40<t39))then
  (at? t38 t40).bind fun y4=>
  (UW (t_3,y4)).bind fun r5=>
  let v6:=((!(E4 r5.2 0))||(decide (0<(r5.1.length:Int))))
  (bif (!v6)then cut? x_7 0 t40 else some []).bind fun s7=>
  (bif (!v6)then UY (s7,(fun x=>(UX (x,(some y4))).bind fun r=>some r))else some false).bind fun r8=>
  bif (!v6)then
   bif (v6||r8)then
    some (.inr false)
   else
    next (t_3,x_7,t38,t39,(i64.wrap (t40+1)))
  else
   bif (v6||r8)then
    some (.inr false)
   else
    next (t_3,x_7,t38,t39,(i64.wrap (t40+1)))
 else
  some (.inl t_3)
def oL:=EI oK fuel
def b_:H3×E3×Int->Option (Bool):=fun(t_0,l_1,most_2)=>
 (nX (t_0,most_2)).bind fun r1=>
 (bV t_0).bind fun r2=>
 bif ((!(E4 r1.2 0))||(!(E4 r2.2.2 0)))then
  (bW ()).bind fun r3=>
  some r3
 else
  (oL (t_0,r1.1,r1.1,(r1.1.length:Int),0)).bind fun r9=>
  match r9 with
  | .inl y10=>
   (bif (((decide (0<most_2))&&(!(!(HU r2.2.1 (decide (0<(r1.1.length:Int)))))))&&r2.2.1)then at? r1.1 0 else some []).bind fun y11=>
   (bif (((decide (0<most_2))&&(!(!(HU r2.2.1 (decide (0<(r1.1.length:Int)))))))&&r2.2.1)then MX (r2.1,y11)else some false).bind fun r12=>
   bif (((decide (0<most_2))&&((!(HU r2.2.1 (decide (0<(r1.1.length:Int)))))||(r2.2.1&&(!r12))))||(decide (most_2<(r1.1.length:Int))))then
    some false
   else
    (UW (y10,l_1)).bind fun r15=>
    (UY (r1.1,(fun x=>(UZ (x,(some l_1))).bind fun r=>some r))).bind fun r16=>
    let v17:=((!(E4 r15.2 0))||(decide (0<(r15.1.length:Int))))
    (bif ((v17||r16)||(E4 (r1.1.length:Int) most_2))then bW ()else some false).bind fun r18=>
    some (((v17||r16)||(E4 (r1.1.length:Int) most_2))&&r18)
  | .inr y10'=>
   some y10'
end
end Go.Ev.Pv
