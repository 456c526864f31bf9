/-
  The program's functions as plain Lean functions (printed by a program of the author's from the translation).
-/
import Derived.Test.YtlljgbmoloklgaaGreatDoorLE4
import Derived.Lib.AtoiAll
import Derived.Lib.ItoaNum
import Derived.Lib.Strings
import Derived.Lib.Join
import Derived.Lib.Split
import Derived.Lib.Repeat
import Derived.Lib.FieldsP
import Derived.Lib.MapU
import Derived.Lib.LastIndexByte
import Derived.Lib.Bytealg
import Derived.Lib.IndexMore
import Derived.Lib.CountLaws
import Derived.Lib.BitFns
import Derived.Sort.Defs
set_option linter.unusedVariables false
set_option linter.unusedSimpArgs false
set_option linter.unusedSectionVars false
set_option maxRecDepth 100000
open Go.IntKind hiding min max bits signed
namespace Go.Ev.Pv
def fuel:Nat:=18446744073709551616
end Go.Ev.Pv
namespace Go.Ev.Pv
def str? (s:E0):Option E0:=bif decide (s.length<=281474976710656)then some s else none
theorem str?_some{s r:E0}(h:str? s=some r):r=s/\s.length<=281474976710656:=by
 unfold str? at h;cases hd:decide (s.length<=281474976710656)with
 |false=>rw[hd]at h;cases h
 |true=>rw[hd]at h;cases h;exact⟨rfl,A6 hd⟩
def HQ{α:Type}(c:Prop) [Decidable c](x:Option α):Option α:=bif decide c then x else none
theorem LU{α:Type}{c:Prop}{_:Decidable c}{x:Option α}{r:α}(h:HQ c x=some r):c/\x=some r:=by
 unfold HQ at h;cases hd:decide c with
 |false=>rw[hd]at h;cases h
 |true=>rw[hd]at h;exact⟨A6 hd,h⟩
def KO:Nat->Nat->E0
 |0,_=>[]
 |k+1,u=>if u<10 then [UInt8.ofNat (48+u)]else KO k (u / 10)++[UInt8.ofNat (48+u % 10)]
theorem uY:∀(k u:Nat),u<10 ^ k->1<=k->KO k u=Lib.decDigits u:=by
 intro k;induction k with
 |zero=>intro u _ h;omega
 |succ k ih=>
  intro u hu _;rw[Lib.decDigits];simp only[KO];by_cases h:u<10
  ·rw[if_pos h,dif_pos h]
  ·rw[if_neg h,dif_neg h]
   have hk:1<=k:=by
    rcases k with _|k
    ·simp at hu;omega
    ·omega
   rw[ih (u / 10) (by rw[Nat.pow_succ]at hu;omega) hk]
def NJ(n:Int):E0:=if n<0 then 45::KO 20 n.natAbs else KO 20 n.toNat
theorem A8m{n:Int}(h0:-9223372036854775808<=n)(h1:n<=9223372036854775807):NJ n=Lib.itoa n:=by
 unfold NJ Lib.itoa;rw[uY 20 n.natAbs (by omega) (by decide),uY 20 n.toNat (by omega) (by decide)]
theorem uZ:∀(k u:Nat),(KO k u).length<=k:=by
 intro k;induction k with
 |zero=>intro u;exact AI _
 |succ k ih=>
  intro u;simp only[KO];split
  ·simp
  ·have:=ih (u / 10);simp only[A9,AG,AV];omega
theorem u_(n:Int):(NJ n).length<=21:=by
 unfold NJ;split
 ·have:=uZ 20 n.natAbs;simp only[AG];omega
 ·have:=uZ 20 n.toNat;omega
def strings_Join:(List (List UInt8))×(List UInt8)->Option (List UInt8):=fun x=>HQ (x.1.length<=140737488355328/\(Lib.join x.1 x.2).length<=140737488355328) (some (Lib.join x.1 x.2))
def TH:List UInt8->Option (List UInt8):=fun s=>HQ (s.length<35184372088832) (str? (Lib.toLowerD s))
def strconv_Itoa:Int->Option (List UInt8):=fun n=>some (NJ n)
def strings_IndexByte:(List UInt8)×Int->Option (Int):=fun x=>HQ (x.1.length<4611686018427387904) (some (Lib.indexByte x.1 x.2.toNat.toUInt8))
def strings_LastIndexByte:(List UInt8)×Int->Option (Int):=fun x=>HQ (x.1.length<4611686018427387904) (some (Lib.lastIndexByte ⟨x.1.toArray⟩ x.2))
def strings_Cut:(List UInt8)×(List UInt8)->Option ((List UInt8)×(List UInt8)×Bool):=fun x=>HQ (x.1.length<4294967281) (some (Lib.cut x.1 x.2))
def strings_Repeat:(List UInt8)×Int->Option (List UInt8):=fun x=>HQ (0<=x.2/\x.1.length*x.2.toNat<=140737488355328) (some (Lib.repeatL x.1 x.2.toNat))
def strings_Split:(List UInt8)×(List UInt8)->Option (List (List UInt8)):=fun x=>
 HQ (x.1.length<4294967281/\1<=x.2.length) (some ((Lib.splitB ⟨x.2.toArray⟩ 0 (Lib.countB ⟨x.1.toArray⟩ ⟨x.2.toArray⟩) ⟨x.1.toArray⟩).map fun b=>b.data.toList))
def XL:List UInt8->Option (Int×Unit):=fun s=>HQ (s.length<=281474976710656) (match Lib.atoiAll s with
 | .ok v=>some (v,())
 | .range=>some (Lib.atoiSat s,())
 |_=>some (0,()))
noncomputable def QI:(List UInt8)×(Int->Option Bool)->Option (List (List UInt8)):=fun x=>
 @HQ _ (x.1.length<=4294967296/\(∀r:Nat,r<=1114111->∃b,x.2 (r:Int)=some b)/\(Lib.goFieldsP (fun r=>(x.2 (r:Int)).getD false) ⟨x.1.toArray⟩).length<=281474976710656) (Classical.propDecidable _) (some ((Lib.goFieldsP (fun r=>(x.2 (r:Int)).getD false) ⟨x.1.toArray⟩).map fun b=>b.data.toList))
def strings_HasPrefix:(List UInt8)×(List UInt8)->Option (Bool):=fun x=>some (Lib.hasPrefix x.1 x.2)
def strings_TrimPrefix:(List UInt8)×(List UInt8)->Option (List UInt8):=fun x=>some (Lib.trimPrefix x.1 x.2)
def strings_CutPrefix:(List UInt8)×(List UInt8)->Option ((List UInt8)×Bool):=fun x=>some (Lib.trimPrefix x.1 x.2,Lib.hasPrefix x.1 x.2)
def XM:List Int->Option (List Int):=fun xs=>some xs
def ME:List Int->Option (List UInt8):=fun xs=>some (HA xs)
section
variable{T:Type}
def MF(xs:List T)(F:T×T->Option Int)(i j:Fin xs.length):Int:=(F (xs.get i,xs.get j)).getD 0
def IA(xs:List T)(F:T×T->Option Int)(i j:Fin xs.length):Bool:=decide (MF xs F i j<0)
def TI(xs:List T)(F:T×T->Option Int):Prop:=
 (∀i j:Fin xs.length,(F (xs.get i,xs.get j)).isSome=true)/\(∀i:Fin xs.length,IA xs F i i=false)/\
 (∀i j k:Fin xs.length,IA xs F i j=true->IA xs F j k=true->IA xs F i k=true)/\(∀i j k:Fin xs.length,IA xs F i j=false->IA xs F j k=false->IA xs F i k=false)
instance{xs:List T}{F:T×T->Option Int}:Decidable (TI xs F):=by unfold TI;infer_instance
def XN{α:Type} [Inhabited α](lt:α->α->Bool):Nat->Nat->Array α->Array α
 |0,_,d=>d
 |n+1,i,d=>XN lt n (i+1) (Sort.insInner lt 0 i d)
theorem A8n{α:Type} [Inhabited α](lt:α->α->Bool):∀(n i:Nat) (d:Array α),Sort.insOuter lt 0 (i+n) i d=XN lt n i d:=by
 intro n;induction n with
 |zero=>intro i d;rw[Sort.insOuter,if_neg (by omega)];rfl
 |succ n ih=>intro i d;rw[Sort.insOuter,if_pos (by omega),show i+(n+1)=(i+1)+n by omega,ih];rfl
def J8(xs:List T)(F:T×T->Option Int)(h:0<xs.length):Array (Fin xs.length):=
 haveI:Inhabited (Fin xs.length):=⟨⟨0,h⟩⟩
 if xs.length<=12 then XN (IA xs F) (xs.length-1) 1 (Array.ofFn id)else Sort.pdq (IA xs F) (Array.ofFn id) 0 xs.length (Lib.bitLen xs.length) true true
theorem A8o{α:Type} [Inhabited α](lt:α->α->Bool)(d:Array α)(n lim:Nat)(h:0<n)(h12:n<=12):Sort.pdq lt d 0 n lim true true=XN lt (n-1) 1 d:=by
 rw[Sort.pdq,if_pos (by omega),Sort.insertionSort];have:=A8n lt (n-1) 1 d;rw[show 1+(n-1)=n by omega]at this;exact this
theorem vA(xs:List T)(F:T×T->Option Int)(h:0<xs.length):
 J8 xs F h= @Sort.pdq _ ⟨⟨0,h⟩⟩ (IA xs F) (Array.ofFn id) 0 xs.length (Lib.bitLen xs.length) true true:=by
 unfold J8;split
 ·rename_i h12;exact(@A8o _ ⟨⟨0,h⟩⟩ (IA xs F) (Array.ofFn id) xs.length _ h h12).symm
 ·rfl
def OF(xs:List T)(F:T×T->Option Int):Option (List T):=
 if h:0<xs.length then HQ (TI xs F) (some ((J8 xs F h).toList.map xs.get))else some []
end
def hP:(List ((Int×(List UInt8)×Bool×(List UInt8))×(Int×(List UInt8)×Bool×(List UInt8))))×((((Int×(List UInt8)×Bool×(List UInt8))×(Int×(List UInt8)×Bool×(List UInt8)))×((Int×(List UInt8)×Bool×(List UInt8))×(Int×(List UInt8)×Bool×(List UInt8))))->Option Int)->Option (List ((Int×(List UInt8)×Bool×(List UInt8))×(Int×(List UInt8)×Bool×(List UInt8)))):=fun v=>OF v.1 v.2
end Go.Ev.Pv
namespace Go.Ev.Pv
def XO{α:Type}(l:List α)(i j:Int):Option (List α):=
 if 0<=i/\i<j/\j<=l.length then some (l.take i.toNat++l.drop j.toNat)else none
def TJ:List ((List UInt8)×(Int×(List ((Bool×Bool×(List UInt8))×(Bool×Bool×(List UInt8)))))×Int)×Int×Int->Option (List ((List UInt8)×(Int×(List ((Bool×Bool×(List UInt8))×(Bool×Bool×(List UInt8)))))×Int)):=fun x=>XO x.1 x.2.1 x.2.2
end Go.Ev.Pv
namespace Go.Ev.Pv
noncomputable section
abbrev G6:=(Bool×Bool×E0)
abbrev FG:=(List (G6×G6))
abbrev MG:=(E0×(Int×FG)×Int)
abbrev GF:=(List MG)
abbrev IH:=(List (E0×E0×GF×Bool))
abbrev E5:=(List (E0×E0))
abbrev HZ:=(List (Int×E0))
abbrev GX:=(E0×Int×HZ×(List E0)×(List E0))
abbrev MH:=(E0×(List E0)×E0×Int×Bool×E0×(List GX))
abbrev OG:=(Int×(List MH)×(List Int))
abbrev I_:=(IH×GF×Int×E5×(List E0)×Bool×OG)
abbrev E9:=(Int×E0×E0×Int)
abbrev LE:=((List Int)×(List E0))
abbrev KP:=(Int×E0×E0×Bool)
abbrev G7:=(Int×(List Int)×Int×Int×Int×Int×(List E0))
abbrev GB:=(Bool×E0×Int)
abbrev GY:=(Sum LE (Sum KP (Sum G7 (Sum (List GB) (Sum Int Unit)))))
abbrev GE:=(Option (I_×(List E0)×(List (List E0))×(List (List Int))×(List (List (List Int)))×(List Int)×Int))
abbrev GZ:=(I_×((List E0)×((List (List E0))×((List (List Int))×((List (List (List Int)))×((List Int)×Int))))))
abbrev JI:=(Int×E0×Bool×E0)
abbrev FJ:=(JI×JI)
abbrev FM:=(((E0×E0)×(E0×E0))->Option Int)
abbrev F5:=(E0×Int×Int)
abbrev FN:=((E9×E9)->Option Int)
abbrev G_:=((E0×E0)×(E0×E0)->Option Int)
abbrev H7:=(E0×(E0×(E0×(E0×(E5×E0)))))
abbrev H0:=(E9×E9->Option Int)
abbrev J0:=(E0×E0×E0×E0×E5×E0)
abbrev H_:=(Sum (Unit) (Int))
abbrev JJ:=(List (Int×FG))
abbrev OH:=(E0×Int×Bool×Bool×Int)
abbrev K6:=((List E0)×Bool)
abbrev KQ:=((List E9)×Int)
abbrev LV:=(Int->Option Bool)
abbrev hU:=(Sum ((List E5)×GE×Int) (Bool×(List E5)×GE×Int))
abbrev MI:=(Sum (Unit) (Bool))
abbrev Rd(A B:Type):=(A->Option B)->A->Option B
def XP:List Int->Option (Bool):=fun t0=>
 some true
def LW:Int×Int->Option (Bool):=fun(s_0,i_1)=>
 (shr? u16 s_0 i_1).bind fun n1=>
 some (E6 (I6 u16 n1 1) 1)
def vB:Rd (Int×Int) H_:=fun next (l_0,t4)=>
 bif (decide (t4<16))then
  (LW (l_0,t4)).bind fun r1=>
  bif r1 then
   some (.inr t4)
  else
   next (l_0,(i64.wrap (t4+1)))
 else
  some (.inl ())
def hY:=EK vB fuel
def XQ:Int->Option (Int):=fun l_0=>
 (hY (l_0,0)).bind fun r2=>
 match r2 with
 | .inl y3=>
  some 0
 | .inr y3'=>
  some y3'
def hZ:Rd (GE×E5×(List Int)×Int×Int) E5:=fun next (s_0,out_5,t9,t10,t11)=>
 bif (decide (t11<t10))then
  (at? t9 t11).bind fun y1=>
  (XQ y1).bind fun r2=>
  bif (decide (0<r2))then
   (s_0).bind fun p3=>
   (at? p3.2.1 t11).bind fun y4=>
   (s_0).bind fun p5=>
   (at? p5.2.2.1 t11).bind fun y6=>
   (at? y6 (i64.wrap (r2-1))).bind fun y7=>
   (app? 48 out_5 [(y4,y7)]).bind fun l8=>
   next (s_0,l8,t9,t10,(i64.wrap (t11+1)))
  else
   next (s_0,out_5,t9,t10,(i64.wrap (t11+1)))
 else
  some out_5
def iA:=EK hZ fuel
def XR:GE×(List Int)->Option E5:=fun(s_0,left_1)=>
 (iA (s_0,[],left_1,(left_1.length:Int),0)).bind fun r9=>
 some r9
def iB:(List Int)×(List E5)×GE×Int->Option (Bool×(List E5)):=fun(left_0,t1,t2,t3)=>
 (XR (t2,left_0)).bind fun r1=>
 (app? 24 t1 [r1]).bind fun l2=>
 some ((decide ((l2.length:Int)<t3)),l2)
def vC:Rd ((List Int)×Int×Int) (List Int):=fun next (b_3,t9,t10)=>
 bif (decide (t10<t9))then
  (in? b_3.length t10).bind fun _=>
  bif ((decide (65<=(b_3.getD t10.toNat 0)))&&(decide ((b_3.getD t10.toNat 0)<=90)))then
   (in? b_3.length t10).bind fun _=>
   next ((b_3.set t10.toNat (u8.wrap ((u8.wrap ((b_3.getD t10.toNat 0)+97))-65))),t9,(i64.wrap (t10+1)))
  else
   next (b_3,t9,(i64.wrap (t10+1)))
 else
  some b_3
def iC:=EK vC fuel
def OI:E0->Option E0:=fun s_0=>
 (iC ((FY s_0),((FY s_0).length:Int),0)).bind fun r3=>
 (cat? [] (HA r3)).bind fun s4=>
 some s4
def MJ:F5×Int->Option F5:=fun(r_0,at_1)=>
 bif (decide (r_0.2.2<0))then
  some (r_0.1,(r_0.2.1,at_1))
 else
  some r_0
def LX:Option F5->Option (Int):=fun r_0=>
 (r_0).bind fun p1=>
 (r_0).bind fun p2=>
 bif (decide (p1.2.1<(p2.1.length:Int)))then
  (r_0).bind fun p3=>
  (r_0).bind fun p4=>
  (at? p3.1 p4.2.1).bind fun b5=>
  some (b5.toNat:Int)
 else
  some 0
def TK:Int->Option (Bool):=fun c_0=>
 some (((decide (97<=c_0))&&(decide (c_0<=122)))||((decide (65<=c_0))&&(decide (c_0<=90))))
def vD:Rd (F5×Int) (Sum F5 (F5×E0)):=fun next (r_0,t7)=>
 bif (decide (t7<4))then
  (bif (!(decide ((r_0.1.length:Int)<=t7)))then cut? r_0.1 t7 (i64.wrap (t7+1))else some []).bind fun s1=>
  (bif (!(decide ((r_0.1.length:Int)<=t7)))then OI s1 else some []).bind fun r2=>
  (bif (!(decide ((r_0.1.length:Int)<=t7)))then cut? [112,107,103,58] t7 (i64.wrap (t7+1))else some []).bind fun s3=>
  bif ((decide ((r_0.1.length:Int)<=t7))||(!(EW r2 s3)))then
   (MJ (r_0,t7)).bind fun r4=>
   some (.inr (r4,[]))
  else
   next (r_0,(i64.wrap (t7+1)))
 else
  some (.inl r_0)
def iD:=EK vD fuel
def vE:Rd F5 F5:=fun next r_0=>
 (bif (decide (r_0.2.1<(r_0.1.length:Int)))then at? r_0.1 r_0.2.1 else some 0).bind fun b8=>
 (bif (decide (r_0.2.1<(r_0.1.length:Int)))then TK (b8.toNat:Int)else some false).bind fun r9=>
 bif ((decide (r_0.2.1<(r_0.1.length:Int)))&&r9)then
  next (r_0.1,((i64.wrap (r_0.2.1+1)),r_0.2.2))
 else
  some r_0
def iE:=EK vE fuel
def XS:F5×Bool->Option F5:=fun(r_0,t45)=>
 bif t45 then
  some (r_0.1,((i64.wrap (r_0.2.1+1)),r_0.2.2))
 else
  (iE r_0).bind fun r10=>
  some r10
def XT:F5×Bool->Option (E0×F5):=fun(r_0,star_1)=>
 (iD (r_0,0)).bind fun r5=>
 match r5 with
 | .inl y6=>
  (bif star_1 then LX (some (y6.1,(4,y6.2.2)))else some 0).bind fun r7=>
  (XS ((y6.1,(4,y6.2.2)),(star_1&&(E6 r7 42)))).bind fun r11=>
  (cut? r11.1 4 r11.2.1).bind fun s12=>
  (bif (!(EW s12 []))then LX (some r11)else some 0).bind fun r13=>
  bif ((EW s12 [])||(!(E6 r13 47)))then
   (MJ (r11,r11.2.1)).bind fun r14=>
   some ([],r14)
  else
   (OI s12).bind fun r15=>
   some (r15,(r11.1,((i64.wrap (r11.2.1+1)),r11.2.2)))
 | .inr y6'=>
  some (y6'.2,y6'.1)
def XU:Int->Option (Int):=fun c_0=>
 bif ((decide (48<=c_0))&&(decide (c_0<=57)))then
  some (i64.wrap (u8.wrap (c_0-48)))
 else
  bif ((decide (97<=c_0))&&(decide (c_0<=102)))then
   some (i64.wrap ((i64.wrap (u8.wrap (c_0-97)))+10))
  else
   bif ((decide (65<=c_0))&&(decide (c_0<=70)))then
    some (i64.wrap ((i64.wrap (u8.wrap (c_0-65)))+10))
   else
    some (-1:Int)
def XV:F5×Int×Int×Bool->Option (F5×Int):=fun(r_0,i_6,d_7,t63)=>
 bif t63 then
  (at? r_0.1 (i64.wrap (r_0.2.1+i_6))).bind fun b5=>
  (XU (b5.toNat:Int)).bind fun r6=>
  some (r_0,r6)
 else
  some (r_0,d_7)
def vF:Rd (F5×Int×Int) (Sum (F5×Int) (F5×Int×Bool)):=fun next (r_0,n_5,i_6)=>
 bif (decide (i_6<=2))then
  (XV (r_0,i_6,(-1:Int),(decide ((i64.wrap (r_0.2.1+i_6))<(r_0.1.length:Int))))).bind fun r7=>
  bif (decide (r7.2<0))then
   (MJ (r7.1,(i64.wrap (r7.1.2.1+i_6)))).bind fun r8=>
   some (.inr (r8,0,false))
  else
   next (r7.1,(i64.wrap ((i64.wrap (16*n_5))+r7.2)),(i64.wrap (i_6+1)))
 else
  some (.inl (r_0,n_5))
def iF:=EK vF fuel
def XW:E0×Int×Int->Option (Int×Bool×F5):=fun r_0=>
 bif (decide ((r_0.1.length:Int)<=r_0.2.1))then
  some (0,false,r_0)
 else
  (at? r_0.1 r_0.2.1).bind fun b1=>
  bif (!(E6 (b1.toNat:Int) 37))then
   let v2:=((decide ((b1.toNat:Int)<33))||(decide (126<(b1.toNat:Int))))
   (bif (!v2)then strings_IndexByte ([47,64,63,35,38,61],(b1.toNat:Int))else some 0).bind fun r3=>
   bif (v2||(decide (0<=r3)))then
    some (0,false,r_0)
   else
    some ((b1.toNat:Int),true,(r_0.1,((i64.wrap (r_0.2.1+1)),r_0.2.2)))
  else
   (iF (r_0,0,1)).bind fun r10=>
   match r10 with
   | .inl y11=>
    some ((u8.wrap y11.2),true,(y11.1.1,((i64.wrap (y11.1.2.1+3)),y11.1.2.2)))
   | .inr y11'=>
    some (y11'.2.1,y11'.2.2,y11'.1)
def vG:Rd (F5×(List Int)) (F5×(List Int)):=fun next (r_0,b_3)=>
 bif (decide (r_0.2.2<0))then
  (XW r_0).bind fun r1=>
  bif (!r1.2.1)then
   some (r1.2.2,b_3)
  else
   (app? 24 b_3 [r1.1]).bind fun l2=>
   next (r1.2.2,l2)
 else
  some (r_0,b_3)
def iG:=EK vG fuel
def OJ:E0×Int×Int->Option (E0×F5):=fun r_0=>
 (iG (r_0,[])).bind fun r3=>
 bif (E6 (r3.2.length:Int) 0)then
  (MJ (r3.1,r3.1.2.1)).bind fun r4=>
  (cat? [] (HA r3.2)).bind fun s5=>
  some (s5,r4)
 else
  (cat? [] (HA r3.2)).bind fun s6=>
  some (s6,r3.1)
def vH:Rd (F5×(List E0)) (F5×(List E0)):=fun next (r_0,l_3)=>
 (bif (decide (r_0.2.2<0))then LX (some r_0)else some 0).bind fun r2=>
 bif ((decide (r_0.2.2<0))&&(E6 r2 47))then
  (OJ (r_0.1,((i64.wrap (r_0.2.1+1)),r_0.2.2))).bind fun r3=>
  (app? 24 l_3 [r3.1]).bind fun l4=>
  next (r3.2,l4)
 else
  some (r_0,l_3)
def iH:=EK vH fuel
def TL:E0×Int×Int->Option ((List E0)×F5):=fun r_0=>
 (OJ r_0).bind fun r1=>
 (iH (r1.2,[r1.1])).bind fun r5=>
 some (r5.2,r5.1)
def TM:Int×Bool->Option (Bool):=fun(c_0,first_1)=>
 bif ((decide (97<=c_0))&&(decide (c_0<=122)))then
  some true
 else
  some ((!first_1)&&(((((decide (48<=c_0))&&(decide (c_0<=57)))||(E6 c_0 46))||(E6 c_0 45))||(E6 c_0 95)))
def vI:Rd (F5×Int) F5:=fun next (r_0,from_3)=>
 (bif (decide (r_0.2.1<(r_0.1.length:Int)))then at? r_0.1 r_0.2.1 else some 0).bind fun b1=>
 (bif (decide (r_0.2.1<(r_0.1.length:Int)))then TM ((b1.toNat:Int),(E6 r_0.2.1 from_3))else some false).bind fun r2=>
 bif ((decide (r_0.2.1<(r_0.1.length:Int)))&&r2)then
  next ((r_0.1,((i64.wrap (r_0.2.1+1)),r_0.2.2)),from_3)
 else
  some r_0
def iI:=EK vI fuel
def XX:E0×Int×Int->Option ((E0×E0)×F5):=fun r_0=>
 (iI (r_0,r_0.2.1)).bind fun r3=>
 (cut? r3.1 r_0.2.1 r3.2.1).bind fun s4=>
 (bif (!(EW s4 []))then LX (some r3)else some 0).bind fun r5=>
 bif ((EW s4 [])||(!(E6 r5 61)))then
  (MJ (r3,r3.2.1)).bind fun r6=>
  some (([],[]),r6)
 else
  (OJ (r3.1,((i64.wrap (r3.2.1+1)),r3.2.2))).bind fun r7=>
  some ((s4,r7.1),r7.2)
def XY:F5×H7×Bool->Option (F5×H7):=fun(r_0,p_3,t40)=>
 bif t40 then
  (OJ (r_0.1,((i64.wrap (r_0.2.1+1)),r_0.2.2))).bind fun r7=>
  some (r7.2,(p_3.1,(p_3.2.1,(p_3.2.2.1,(r7.1,(p_3.2.2.2.2.1,p_3.2.2.2.2.2))))))
 else
  some (r_0,(p_3.1,(p_3.2.1,(p_3.2.2.1,(p_3.2.2.2.1,(p_3.2.2.2.2.1,p_3.2.2.2.2.2))))))
def vJ:Rd (F5×H7×Int) (F5×H7):=fun next (r_0,p_3,sign_5)=>
 let v9:=((decide (r_0.2.2<0))&&(decide (r_0.2.1<(r_0.1.length:Int))))
 (bif v9 then LX (some r_0)else some 0).bind fun r10=>
 bif (v9&&(E6 r10 sign_5))then
  (XX (r_0.1,((i64.wrap (r_0.2.1+1)),r_0.2.2))).bind fun r11=>
  (app? 48 p_3.2.2.2.2.1 [r11.1]).bind fun l12=>
  next (r11.2,(p_3.1,(p_3.2.1,(p_3.2.2.1,(p_3.2.2.2.1,(l12,p_3.2.2.2.2.2))))),38)
 else
  some (r_0,(p_3.1,(p_3.2.1,(p_3.2.2.1,(p_3.2.2.2.1,(p_3.2.2.2.2.1,p_3.2.2.2.2.2))))))
def iJ:=EK vJ fuel
def XZ:F5×H7×Bool->Option (F5×H7):=fun(r_0,p_3,t97)=>
 bif t97 then
  (TL (r_0.1,((i64.wrap (r_0.2.1+1)),r_0.2.2))).bind fun r15=>
  (strings_Join (r15.1,[47])).bind fun r16=>
  some (r15.2,(p_3.1,(p_3.2.1,(p_3.2.2.1,(p_3.2.2.2.1,(p_3.2.2.2.2.1,r16))))))
 else
  some (r_0,(p_3.1,(p_3.2.1,(p_3.2.2.1,(p_3.2.2.2.1,(p_3.2.2.2.2.1,p_3.2.2.2.2.2))))))
def X_:E0×Int×Int->Option (H7×F5):=fun r_0=>
 (XT (r_0,false)).bind fun r1=>
 bif (decide (0<=r1.2.2.2))then
  some ((r1.1,([],([],([],([],[]))))),r1.2)
 else
  (TL r1.2).bind fun r2=>
  (cut? r2.1 0 (i64.wrap ((r2.1.length:Int)-1))).bind fun s3=>
  (strings_Join (s3,[47])).bind fun r4=>
  (at? r2.1 (i64.wrap ((r2.1.length:Int)-1))).bind fun y5=>
  (bif (decide (r2.2.2.2<0))then LX (some r2.2)else some 0).bind fun r6=>
  (XY (r2.2,(r1.1,(r4,(y5,([],([],[]))))),((decide (r2.2.2.2<0))&&(E6 r6 64)))).bind fun r8=>
  (iJ (r8.1,(r8.2.1,(r8.2.2.1,(r8.2.2.2.1,(r8.2.2.2.2.1,(r8.2.2.2.2.2.1,r8.2.2.2.2.2.2))))),63)).bind fun r13=>
  (bif (decide (r13.1.2.2<0))then LX (some r13.1)else some 0).bind fun r14=>
  (XZ (r13.1,(r13.2.1,(r13.2.2.1,(r13.2.2.2.1,(r13.2.2.2.2.1,(r13.2.2.2.2.2.1,r13.2.2.2.2.2.2))))),((decide (r13.1.2.2<0))&&(E6 r14 35)))).bind fun r17=>
  bif ((decide (r17.1.2.2<0))&&(decide (r17.1.2.1<(r17.1.1.length:Int))))then
   (MJ (r17.1,r17.1.2.1)).bind fun r19=>
   some ((r17.2.1,(r17.2.2.1,(r17.2.2.2.1,(r17.2.2.2.2.1,(r17.2.2.2.2.2.1,r17.2.2.2.2.2.2))))),r19)
  else
   some ((r17.2.1,(r17.2.2.1,(r17.2.2.2.1,(r17.2.2.2.2.1,(r17.2.2.2.2.2.1,r17.2.2.2.2.2.2))))),r17.1)
def vK:Rd (E5×Int×FM×Int) E5:=fun next (data_0,a_1,cmp_3,j_9)=>
 (bif (decide (a_1<j_9))then in? data_0.length j_9 else some ()).bind fun _=>
 (bif (decide (a_1<j_9))then in? data_0.length (i64.wrap (j_9-1))else some ()).bind fun _=>
 (bif (decide (a_1<j_9))then cmp_3 ((data_0.getD j_9.toNat ([],[])),(data_0.getD ((i64.wrap (j_9-1)).toNat) ([],[])))else some 0).bind fun r3=>
 bif ((decide (a_1<j_9))&&(decide (r3<0)))then
  (in? data_0.length (i64.wrap (j_9-1))).bind fun _=>
  let v4:=(data_0.getD ((i64.wrap (j_9-1)).toNat) ([],[]))
  (in? data_0.length j_9).bind fun _=>
  (in? data_0.length j_9).bind fun _=>
  (in? (data_0.set j_9.toNat v4).length (i64.wrap (j_9-1))).bind fun _=>
  next (((data_0.set j_9.toNat v4).set ((i64.wrap (j_9-1)).toNat) (data_0.getD j_9.toNat ([],[]))),a_1,cmp_3,(i64.wrap (j_9-1)))
 else
  some data_0
def iK:=EK vK fuel
def vL:Rd (E5×Int×Int×FM×Int) E5:=fun next (data_0,a_1,b_2,cmp_3,i_8)=>
 bif (decide (i_8<b_2))then
  (iK (data_0,a_1,cmp_3,i_8)).bind fun r7=>
  next (r7,a_1,b_2,cmp_3,(i64.wrap (i_8+1)))
 else
  some data_0
def iL:=EK vL fuel
def TN:E5×Int×Int×FM->Option E5:=fun(data_0,a_1,b_2,cmp_3)=>
 (iL (data_0,a_1,b_2,cmp_3,(i64.wrap (a_1+1)))).bind fun r8=>
 some r8
def vM:Rd (E5×Int×Int×Int×Int) E5:=fun next (data_0,a_1,b_2,n_3,i_10)=>
 bif (decide (i_10<n_3))then
  (in? data_0.length (i64.wrap (b_2+i_10))).bind fun _=>
  let v1:=(data_0.getD ((i64.wrap (b_2+i_10)).toNat) ([],[]))
  (in? data_0.length (i64.wrap (a_1+i_10))).bind fun _=>
  (in? data_0.length (i64.wrap (a_1+i_10))).bind fun _=>
  (in? (data_0.set ((i64.wrap (a_1+i_10)).toNat) v1).length (i64.wrap (b_2+i_10))).bind fun _=>
  next (((data_0.set ((i64.wrap (a_1+i_10)).toNat) v1).set ((i64.wrap (b_2+i_10)).toNat) (data_0.getD ((i64.wrap (a_1+i_10)).toNat) ([],[]))),a_1,b_2,n_3,(i64.wrap (i_10+1)))
 else
  some data_0
def iM:=EK vM fuel
def QJ:E5×Int×Int×Int×FM->Option E5:=fun(data_0,a_1,b_2,n_3,cmp_4)=>
 (iM (data_0,a_1,b_2,n_3,0)).bind fun r4=>
 some r4
def vN:Rd (E5×Int×FM×Int×Int) (E5×Int):=fun next (data_0,m_2,cmp_4,i_10,j_11)=>
 bif (!(E6 i_10 j_11))then
  bif (decide (j_11<i_10))then
   (QJ (data_0,(i64.wrap (m_2-i_10)),m_2,j_11,cmp_4)).bind fun r1=>
   next (r1,m_2,cmp_4,(i64.wrap (i_10-j_11)),j_11)
  else
   (QJ (data_0,(i64.wrap (m_2-i_10)),(i64.wrap ((i64.wrap (m_2+j_11))-i_10)),i_10,cmp_4)).bind fun r2=>
   next (r2,m_2,cmp_4,i_10,(i64.wrap (j_11-i_10)))
 else
  some (data_0,i_10)
def iN:=EK vN fuel
def Y0:E5×Int×Int×Int×FM->Option E5:=fun(data_0,a_1,m_2,b_3,cmp_4)=>
 (iN (data_0,m_2,cmp_4,(i64.wrap (m_2-a_1)),(i64.wrap (b_3-m_2)))).bind fun r3=>
 (QJ (r3.1,(i64.wrap (m_2-r3.2)),m_2,r3.2,cmp_4)).bind fun r4=>
 some r4
def vO(slf:E5×Int×Int×Int×FM->Option E5)(next:E5×Int×FM×Int×Int->Option (E5×Int)):E5×Int×FM×Int×Int->Option (E5×Int):=fun(data_0,a_1,cmp_4,i_10,j_11)=>
 bif (decide (i_10<j_11))then
  (shr? u64 (u64.wrap (i64.wrap (i_10+j_11))) 1).bind fun n1=>
  (in? data_0.length (i64.wrap n1)).bind fun _=>
  (in? data_0.length a_1).bind fun _=>
  (cmp_4 ((data_0.getD ((i64.wrap n1).toNat) ([],[])),(data_0.getD a_1.toNat ([],[])))).bind fun r4=>
  bif (decide (r4<0))then
   next (data_0,a_1,cmp_4,(i64.wrap ((i64.wrap n1)+1)),j_11)
  else
   next (data_0,a_1,cmp_4,i_10,(i64.wrap n1))
 else
  some (data_0,i_10)
def iO(slf:E5×Int×Int×Int×FM->Option E5):E5×Int×FM×Int×Int->Option (E5×Int):=EK (vO slf) fuel
def vP(slf:E5×Int×Int×Int×FM->Option E5)(next:E5×Int×Int->Option E5):E5×Int×Int->Option E5:=fun(data_0,i_10,k_13)=>
 bif (decide (k_13<(i64.wrap (i_10-1))))then
  (in? data_0.length (i64.wrap (k_13+1))).bind fun _=>
  let v6:=(data_0.getD ((i64.wrap (k_13+1)).toNat) ([],[]))
  (in? data_0.length k_13).bind fun _=>
  (in? data_0.length k_13).bind fun _=>
  (in? (data_0.set k_13.toNat v6).length (i64.wrap (k_13+1))).bind fun _=>
  next (((data_0.set k_13.toNat v6).set ((i64.wrap (k_13+1)).toNat) (data_0.getD k_13.toNat ([],[]))),i_10,(i64.wrap (k_13+1)))
 else
  some data_0
def iP(slf:E5×Int×Int×Int×FM->Option E5):E5×Int×Int->Option E5:=EK (vP slf) fuel
def vQ(slf:E5×Int×Int×Int×FM->Option E5)(next:E5×Int×FM×Int×Int->Option (E5×Int)):E5×Int×FM×Int×Int->Option (E5×Int):=fun(data_0,m_2,cmp_4,i_14,j_15)=>
 bif (decide (i_14<j_15))then
  (shr? u64 (u64.wrap (i64.wrap (i_14+j_15))) 1).bind fun n10=>
  (in? data_0.length m_2).bind fun _=>
  (in? data_0.length (i64.wrap n10)).bind fun _=>
  (cmp_4 ((data_0.getD m_2.toNat ([],[])),(data_0.getD ((i64.wrap n10).toNat) ([],[])))).bind fun r13=>
  bif (!(decide (r13<0)))then
   next (data_0,m_2,cmp_4,(i64.wrap ((i64.wrap n10)+1)),j_15)
  else
   next (data_0,m_2,cmp_4,i_14,(i64.wrap n10))
 else
  some (data_0,i_14)
def iQ(slf:E5×Int×Int×Int×FM->Option E5):E5×Int×FM×Int×Int->Option (E5×Int):=EK (vQ slf) fuel
def vR(slf:E5×Int×Int×Int×FM->Option E5)(next:E5×Int×Int->Option E5):E5×Int×Int->Option E5:=fun(data_0,i_14,k_17)=>
 bif (decide (i_14<k_17))then
  (in? data_0.length (i64.wrap (k_17-1))).bind fun _=>
  let v15:=(data_0.getD ((i64.wrap (k_17-1)).toNat) ([],[]))
  (in? data_0.length k_17).bind fun _=>
  (in? data_0.length k_17).bind fun _=>
  (in? (data_0.set k_17.toNat v15).length (i64.wrap (k_17-1))).bind fun _=>
  next (((data_0.set k_17.toNat v15).set ((i64.wrap (k_17-1)).toNat) (data_0.getD k_17.toNat ([],[]))),i_14,(i64.wrap (k_17-1)))
 else
  some data_0
def iR(slf:E5×Int×Int×Int×FM->Option E5):E5×Int×Int->Option E5:=EK (vR slf) fuel
def Y1(slf:E5×Int×Int×Int×FM->Option E5):Int×Int×Int×Int×Int×Bool->Option (Int×Int):=fun(a_1,m_2,b_3,mid_18,n_19,t140)=>
 bif t140 then
  some ((i64.wrap (n_19-b_3)),mid_18)
 else
  some (a_1,m_2)
def vS(slf:E5×Int×Int×Int×FM->Option E5)(next:E5×FM×Int×Int×Int->Option (E5×Int)):E5×FM×Int×Int×Int->Option (E5×Int):=fun(data_0,cmp_4,start_20,r_21,p_22)=>
 bif (decide (start_20<r_21))then
  (shr? u64 (u64.wrap (i64.wrap (start_20+r_21))) 1).bind fun n22=>
  (in? data_0.length (i64.wrap (p_22-(i64.wrap n22)))).bind fun _=>
  (in? data_0.length (i64.wrap n22)).bind fun _=>
  (cmp_4 ((data_0.getD ((i64.wrap (p_22-(i64.wrap n22))).toNat) ([],[])),(data_0.getD ((i64.wrap n22).toNat) ([],[])))).bind fun r25=>
  bif (!(decide (r25<0)))then
   next (data_0,cmp_4,(i64.wrap ((i64.wrap n22)+1)),r_21,p_22)
  else
   next (data_0,cmp_4,start_20,(i64.wrap n22),p_22)
 else
  some (data_0,start_20)
def iS(slf:E5×Int×Int×Int×FM->Option E5):E5×FM×Int×Int×Int->Option (E5×Int):=EK (vS slf) fuel
def Y2(slf:E5×Int×Int×Int×FM->Option E5):E5×Int×FM×Int×Int×Bool->Option E5:=fun(data_0,m_2,cmp_4,start_20,end_24,t185)=>
 bif t185 then
  (Y0 (data_0,start_20,m_2,end_24,cmp_4)).bind fun r28=>
  some r28
 else
  some data_0
def Y3(slf:E5×Int×Int×Int×FM->Option E5):E5×Int×FM×Int×Int×Bool->Option E5:=fun(data_0,a_1,cmp_4,mid_18,start_20,t199)=>
 bif t199 then
  (slf (data_0,a_1,start_20,mid_18,cmp_4)).bind fun r31=>
  some r31
 else
  some data_0
def iT(slf:E5×Int×Int×Int×FM->Option E5):E5×Int×Int×Int×FM->Option E5:=fun(data_0,a_1,m_2,b_3,cmp_4)=>
 bif (E6 (i64.wrap (m_2-a_1)) 1)then
  ((iO slf) (data_0,a_1,cmp_4,m_2,b_3)).bind fun r5=>
  ((iP slf) (r5.1,r5.2,a_1)).bind fun r9=>
  some r9
 else
  bif (E6 (i64.wrap (b_3-m_2)) 1)then
   ((iQ slf) (data_0,m_2,cmp_4,a_1,m_2)).bind fun r14=>
   ((iR slf) (r14.1,r14.2,m_2)).bind fun r18=>
   some r18
  else
   (shr? u64 (u64.wrap (i64.wrap (a_1+b_3))) 1).bind fun n19=>
   ((Y1 slf) (a_1,m_2,b_3,(i64.wrap n19),(i64.wrap ((i64.wrap n19)+m_2)),(decide ((i64.wrap n19)<m_2)))).bind fun r20=>
   ((iS slf) (data_0,cmp_4,r20.1,r20.2,(i64.wrap ((i64.wrap ((i64.wrap n19)+m_2))-1)))).bind fun r26=>
   let v27:=(i64.wrap ((i64.wrap ((i64.wrap n19)+m_2))-r26.2))
   ((Y2 slf) (r26.1,m_2,cmp_4,r26.2,v27,((decide (r26.2<m_2))&&(decide (m_2<v27))))).bind fun r29=>
   ((Y3 slf) (r29,a_1,cmp_4,(i64.wrap n19),r26.2,((decide (a_1<r26.2))&&(decide (r26.2<(i64.wrap n19)))))).bind fun r32=>
   bif ((decide ((i64.wrap n19)<v27))&&(decide (v27<b_3)))then
    (slf (r32,(i64.wrap n19),v27,b_3,cmp_4)).bind fun r34=>
    some r34
   else
    some r32
def K7:Nat->E5×Int×Int×Int×FM->Option E5
 |0=>fun _=>none
 |n+1=>iT (K7 n)
def TO:E5×Int×Int×Int×FM->Option E5:=K7 100
def vT:Rd (E5×Int×FM×Int×Int×Int) (E5×Int):=fun next (data_0,n_1,cmp_2,blockSize_6,a_7,b_8)=>
 bif (decide (b_8<=n_1))then
  (TN (data_0,a_7,b_8,cmp_2)).bind fun r1=>
  next (r1,n_1,cmp_2,blockSize_6,b_8,(i64.wrap (b_8+blockSize_6)))
 else
  some (data_0,a_7)
def iU:=EK vT fuel
def vU:Rd (E5×Int×FM×Int×Int×Int) (E5×Int):=fun next (data_0,n_1,cmp_2,blockSize_6,a_7,b_8)=>
 bif (decide (b_8<=n_1))then
  (TO (data_0,a_7,(i64.wrap (a_7+blockSize_6)),b_8,cmp_2)).bind fun r4=>
  next (r4,n_1,cmp_2,blockSize_6,b_8,(i64.wrap (b_8+(i64.wrap (2*blockSize_6)))))
 else
  some (data_0,a_7)
def iV:=EK vU fuel
def vV:Rd (E5×Int×FM×Int) E5:=fun next (data_0,n_1,cmp_2,blockSize_6)=>
 bif (decide (blockSize_6<n_1))then
  (iV (data_0,n_1,cmp_2,blockSize_6,0,(i64.wrap (2*blockSize_6)))).bind fun r6=>
  bif (decide ((i64.wrap (r6.2+blockSize_6))<n_1))then
   (TO (r6.1,r6.2,(i64.wrap (r6.2+blockSize_6)),n_1,cmp_2)).bind fun r7=>
   next (r7,n_1,cmp_2,(i64.wrap (blockSize_6*2)))
  else
   next (r6.1,n_1,cmp_2,(i64.wrap (blockSize_6*2)))
 else
  some data_0
def iW:=EK vV fuel
def Y4:E5×Int×FM->Option E5:=fun(data_0,n_1,cmp_2)=>
 (iU (data_0,n_1,cmp_2,20,0,20)).bind fun r2=>
 (TN (r2.1,r2.2,n_1,cmp_2)).bind fun r3=>
 (iW (r3,n_1,cmp_2,20)).bind fun r8=>
 some r8
def Y5:E5×FM->Option E5:=fun(x_0,cmp_1)=>
 (Y4 (x_0,(x_0.length:Int),cmp_1)).bind fun r1=>
 some r1
def QK:E0->Option (Bool):=fun x_0=>
 some (!(EW x_0 x_0))
def LY:E0×E0->Option (Int):=fun(x_0,y_1)=>
 (QK x_0).bind fun r1=>
 (QK y_1).bind fun r2=>
 bif r1 then
  bif r2 then
   some 0
  else
   some (-1:Int)
 else
  bif r2 then
   some 1
  else
   bif (Op.bytesLess x_0 y_1)then
    some (-1:Int)
   else
    bif (!(Op.bytesLess x_0 y_1||EW x_0 y_1))then
     some 1
    else
     some 0
def Y6:(E0×E0)×(E0×E0)->Option (Int):=fun(a_0,b_1)=>
 (LY (a_0.1,b_1.1)).bind fun r1=>
 some r1
def Y7:Unit->Option (List OH):=fun _=>
 some [([100,111,116,116,101,100],(2,(true,(false,1)))),([114,101,118,105,115,101,100],(3,(true,(false,2)))),([115,116,97,103,101,100],(1,(true,(true,3)))),([113,117,97,108,105,102,105,101,100],(3,(false,(false,4)))),([112,108,97,105,110],(2,(false,(false,5))))]
def vW:Rd (E0×(List OH)×Int) H_:=fun next (kind_0,t5,t6)=>
 bif (decide (t6<5))then
  (at? t5 t6).bind fun y2=>
  bif (EW y2.1 kind_0)then
   some (.inr t6)
  else
   next (kind_0,t5,(i64.wrap (t6+1)))
 else
  some (.inl ())
def iX:=EK vW fuel
def Y8:E0->Option (Int):=fun kind_0=>
 (Y7 ()).bind fun r1=>
 (iX (kind_0,r1,0)).bind fun r3=>
 match r3 with
 | .inl y4=>
  some (-1:Int)
 | .inr y4'=>
  some y4'
def QL:E0->Option (OH×Int):=fun kind_0=>
 (Y8 kind_0).bind fun r1=>
 bif (decide (r1<0))then
  some (([],(0,(false,(false,0)))),7)
 else
  (Y7 ()).bind fun r3=>
  (at? r3 r1).bind fun y4=>
  some (y4,0)
def vX:Rd ((List E0)×Int×Int) MI:=fun next (t15,t16,t17)=>
 bif (decide (t17<t16))then
  (at? t15 t17).bind fun y2=>
  bif (decide (200<(y2.length:Int)))then
   some (.inr true)
  else
   next (t15,t16,(i64.wrap (t17+1)))
 else
  some (.inl ())
def iY:=EK vX fuel
def vY:Rd (E5×Int×Int) MI:=fun next (t26,t27,t28)=>
 bif (decide (t28<t27))then
  (at? t26 t28).bind fun y5=>
  bif ((decide (200<(y5.1.length:Int)))||(decide (200<(y5.2.length:Int))))then
   some (.inr true)
  else
   next (t26,t27,(i64.wrap (t28+1)))
 else
  some (.inl ())
def iZ:=EK vY fuel
def Y9:E0×E0×E0×E0×E5×E0->Option (Bool):=fun p_0=>
 let v1:=[p_0.2.1,p_0.2.2.1,p_0.2.2.2.1,p_0.2.2.2.2.2]
 (iY (v1,(v1.length:Int),0)).bind fun r3=>
 match r3 with
 | .inl y4=>
  (iZ (p_0.2.2.2.2.1,(p_0.2.2.2.2.1.length:Int),0)).bind fun r7=>
  match r7 with
  | .inl y8=>
   some (decide (10<(p_0.2.2.2.2.1.length:Int)))
  | .inr y8'=>
   some y8'
 | .inr y4'=>
  some y4'
def QN:E0->Option (List E0):=fun s_0=>
 bif (EW s_0 [])then
  some []
 else
  (strings_Split (s_0,[47])).bind fun r1=>
  some r1
def vZ:Rd (Bool×(List E0)×Int×Int) MI:=fun next (dots_1,t7,t8,t9)=>
 bif (decide (t9<t8))then
  (at? t7 t9).bind fun y1=>
  bif ((EW y1 [])||(dots_1&&((EW y1 [46])||(EW y1 [46,46]))))then
   some (.inr true)
  else
   next (dots_1,t7,t8,(i64.wrap (t9+1)))
 else
  some (.inl ())
def i_:=EK vZ fuel
def TP:(List E0)×Bool->Option (Bool):=fun(l_0,dots_1)=>
 (i_ (dots_1,l_0,(l_0.length:Int),0)).bind fun r3=>
 match r3 with
 | .inl y4=>
  some (decide (10<(l_0.length:Int)))
 | .inr y4'=>
  some y4'
def v_:Rd F5 MI:=fun next (s_0,t5,t6)=>
 bif (decide (t6<t5))then
  (at? s_0 t6).bind fun b1=>
  (TM ((b1.toNat:Int),(E6 t6 0))).bind fun r2=>
  bif (!r2)then
   some (.inr false)
  else
   next (s_0,t5,(i64.wrap (t6+1)))
 else
  some (.inl ())
def j0:=EK v_ fuel
def YA:E0->Option (Bool):=fun s_0=>
 (j0 (s_0,(s_0.length:Int),0)).bind fun r3=>
 match r3 with
 | .inl y4=>
  some (!(EW s_0 []))
 | .inr y4'=>
  some y4'
def w4:Rd (E5×E5×Int×Int) H_:=fun next (l_0,t5,t6,t7)=>
 bif (decide (t7<t6))then
  (at? t5 t7).bind fun y1=>
  (YA y1.1).bind fun r2=>
  bif (!r2)then
   some (.inr 8)
  else
   bif (EW y1.2 [])then
    some (.inr 2)
   else
    (bif (decide (0<t7))then at? l_0 (i64.wrap (t7-1))else some ([],[])).bind fun y3=>
    bif ((decide (0<t7))&&(Op.bytesLess y1.1 y3.1||EW y1.1 y3.1))then
     some (.inr 10)
    else
     next (l_0,t5,t6,(i64.wrap (t7+1)))
 else
  some (.inl ())
def j5:=EK w4 fuel
def YB:List (E0×E0)->Option (Int):=fun l_0=>
 (j5 (l_0,l_0,(l_0.length:Int),0)).bind fun r5=>
 match r5 with
 | .inl y6=>
  some 0
 | .inr y6'=>
  some y6'
def w5:Rd F5 MI:=fun next (s_0,t5,t6)=>
 bif (decide (t6<t5))then
  (at? s_0 t6).bind fun b1=>
  (bif (!(decide ((b1.toNat:Int)<32)))then at? s_0 t6 else some 0).bind fun b2=>
  bif ((decide ((b1.toNat:Int)<32))||(E6 (b2.toNat:Int) 127))then
   some (.inr true)
  else
   next (s_0,t5,(i64.wrap (t6+1)))
 else
  some (.inl ())
def j6:=EK w5 fuel
def TQ:E0->Option (Bool):=fun s_0=>
 (j6 (s_0,(s_0.length:Int),0)).bind fun r4=>
 match r4 with
 | .inl y5=>
  some false
 | .inr y5'=>
  some y5'
def w6:Rd ((List E0)×Int×Int) H_:=fun next (t75,t76,t77)=>
 bif (decide (t77<t76))then
  (at? t75 t77).bind fun y13=>
  (TQ y13).bind fun r14=>
  bif r14 then
   some (.inr 8)
  else
   next (t75,t76,(i64.wrap (t77+1)))
 else
  some (.inl ())
def j7:=EK w6 fuel
def w7:Rd (E5×Int×Int) H_:=fun next (t85,t86,t87)=>
 bif (decide (t87<t86))then
  (at? t85 t87).bind fun y17=>
  (TQ y17.2).bind fun r18=>
  bif r18 then
   some (.inr 8)
  else
   next (t85,t86,(i64.wrap (t87+1)))
 else
  some (.inl ())
def j8:=EK w7 fuel
def TR:E0×E0×E0×E0×E5×E0->Option (Int):=fun p_0=>
 (QL p_0.1).bind fun r1=>
 bif (!(E6 r1.2 0))then
  some r1.2
 else
  (Y9 p_0).bind fun r2=>
  bif r2 then
   some 3
  else
   bif (((!(EW p_0.2.1 []))&&(E6 r1.1.2.1 1))||((EW p_0.2.1 [])&&(E6 r1.1.2.1 3)))then
    some 2
   else
    (QN p_0.2.1).bind fun r5=>
    (TP (r5,false)).bind fun r6=>
    bif r6 then
     some 2
    else
     (bif (!(EW p_0.2.2.1 []))then strings_IndexByte (p_0.2.2.1,47)else some 0).bind fun r7=>
     bif ((EW p_0.2.2.1 [])||(decide (0<=r7)))then
      some 8
     else
      (YB p_0.2.2.2.2.1).bind fun r9=>
      bif (!(E6 r9 0))then
       some r9
      else
       (QN p_0.2.2.2.2.2).bind fun r10=>
       (TP (r10,true)).bind fun r11=>
       bif r11 then
        some 2
       else
        let v12:=[p_0.2.1,p_0.2.2.1,p_0.2.2.2.1,p_0.2.2.2.2.2]
        (j7 (v12,(v12.length:Int),0)).bind fun r15=>
        match r15 with
        | .inl y16=>
         (j8 (p_0.2.2.2.2.1,(p_0.2.2.2.2.1.length:Int),0)).bind fun r19=>
         match r19 with
         | .inl y20=>
          some 0
         | .inr y20'=>
          some y20'
        | .inr y16'=>
         some y16'
def TT:Int->Option (Bool):=fun c_0=>
 some (((E6 c_0 45)||(E6 c_0 95))||(E6 c_0 46))
def LZ:(List Int)×Int->Option (Unit×(List Int)):=fun(b_0,c_1)=>
 (XM b_0).bind fun r1=>
 (app? 24 r1 [c_1]).bind fun l2=>
 some ((),l2)
def w8:Rd (E0×(List Int)×Int×Int) (List Int):=fun next (s_0,b_3,t6,t7)=>
 bif (decide (t7<t6))then
  (at? s_0 t7).bind fun b1=>
  (TT (b1.toNat:Int)).bind fun r2=>
  bif (!r2)then
   (at? s_0 t7).bind fun b3=>
   (LZ (b_3,(b3.toNat:Int))).bind fun r4=>
   next (s_0,r4.2,t6,(i64.wrap (t7+1)))
  else
   (bif (!(E6 t7 0))then at? s_0 (i64.wrap (t7-1))else some 0).bind fun b5=>
   (bif (!(E6 t7 0))then TT (b5.toNat:Int)else some false).bind fun r6=>
   bif ((E6 t7 0)||(!r6))then
    (LZ (b_3,45)).bind fun r7=>
    next (s_0,r7.2,t6,(i64.wrap (t7+1)))
   else
    next (s_0,b_3,t6,(i64.wrap (t7+1)))
 else
  some b_3
def j9:=EK w8 fuel
def YC:E0->Option E0:=fun s_0=>
 (j9 (s_0,[],(s_0.length:Int),0)).bind fun r8=>
 (ME r8).bind fun r9=>
 some r9
def YD:J0×Bool->Option J0:=fun(p_1,t12)=>
 bif t12 then
  (OI p_1.2.1).bind fun r2=>
  (OI p_1.2.2.1).bind fun r3=>
  some (p_1.1,(r2,(r3,p_1.2.2.2)))
 else
  some p_1
def TU:E0×E0×E0×E0×E5×E0->Option J0:=fun p_0=>
 (QL p_0.1).bind fun r1=>
 (YD (p_0,r1.1.2.2.1)).bind fun r4=>
 bif r1.1.2.2.2.1 then
  (YC r4.2.2.1).bind fun r5=>
  (app? 48 [] r4.2.2.2.2.1).bind fun l6=>
  some (r4.1,(r4.2.1,(r5,(r4.2.2.2.1,(l6,r4.2.2.2.2.2)))))
 else
  (app? 48 [] r4.2.2.2.2.1).bind fun l7=>
  some (r4.1,(r4.2.1,(r4.2.2.1,(r4.2.2.2.1,(l7,r4.2.2.2.2.2)))))
def w9:Rd (J0×H7×Int) (Sum (J0×H7) (J0×Int×Int)):=fun next (t2,p_6,i_7)=>
 bif (decide (i_7<(p_6.2.2.2.2.1.length:Int)))then
  (in? p_6.2.2.2.2.1.length i_7).bind fun _=>
  (in? p_6.2.2.2.2.1.length (i64.wrap (i_7-1))).bind fun _=>
  bif (EW ((p_6.2.2.2.2.1.getD i_7.toNat ([],[])).1) ((p_6.2.2.2.2.1.getD ((i64.wrap (i_7-1)).toNat) ([],[])).1))then
   some (.inr (([],([],([],([],([],[]))))),0,5))
  else
   next (t2,(p_6.1,(p_6.2.1,(p_6.2.2.1,(p_6.2.2.2.1,(p_6.2.2.2.2.1,p_6.2.2.2.2.2))))),(i64.wrap (i_7+1)))
 else
  some (.inl (t2,(p_6.1,(p_6.2.1,(p_6.2.2.1,(p_6.2.2.2.1,(p_6.2.2.2.2.1,p_6.2.2.2.2.2)))))))
def jA:=EK w9 fuel
def TV:E0->Option (J0×Int×Int):=fun s_0=>
 bif (decide (3000<(s_0.length:Int)))then
  some (([],([],([],([],([],[]))))),0,3)
 else
  (X_ (s_0,(0,(-1:Int)))).bind fun r2=>
  bif (decide (0<=r2.2.2.2))then
   some (([],([],([],([],([],[]))))),r2.2.2.2,6)
  else
   (Y5 (r2.1.2.2.2.2.1,(fun x=>(Y6 x).bind fun r=>some r))).bind fun r4=>
   (jA (([],([],([],([],([],[]))))),(r2.1.1,(r2.1.2.1,(r2.1.2.2.1,(r2.1.2.2.2.1,(r4,r2.1.2.2.2.2.2))))),1)).bind fun r8=>
   match r8 with
   | .inl y9=>
    (TR (y9.2.1,(y9.2.2.1,(y9.2.2.2.1,(y9.2.2.2.2.1,(y9.2.2.2.2.2.1,y9.2.2.2.2.2.2)))))).bind fun r11=>
    bif (!(E6 r11 0))then
     some (([],([],([],([],([],[]))))),0,r11)
    else
     (TU (y9.2.1,(y9.2.2.1,(y9.2.2.2.1,(y9.2.2.2.2.1,(y9.2.2.2.2.2.1,y9.2.2.2.2.2.2)))))).bind fun r14=>
     some (r14,0,0)
   | .inr y9'=>
    some (y9'.1,y9'.2.1,y9'.2.2)
def NK:(List Int)×E0->Option (Int×Unit×(List Int)):=fun(b_0,s_1)=>
 (XM b_0).bind fun r1=>
 (app? 24 r1 (FY s_1)).bind fun l2=>
 some ((s_1.length:Int),(),l2)
def wA:Rd (E0×(List Int)×Int×Int) (List Int):=fun next (s_0,b_3,t7,t8)=>
 bif (decide (t8<t7))then
  (at? s_0 t8).bind fun b1=>
  (TK (b1.toNat:Int)).bind fun r2=>
  let v3:=((decide (48<=(b1.toNat:Int)))&&(decide ((b1.toNat:Int)<=57)))
  (bif (!(r2||v3))then strings_IndexByte ([46,45,95,126],(b1.toNat:Int))else some 0).bind fun r4=>
  bif ((r2||v3)||(decide (0<=r4)))then
   (LZ (b_3,(b1.toNat:Int))).bind fun r5=>
   next (s_0,r5.2,t7,(i64.wrap (t8+1)))
  else
   (div? u8 (b1.toNat:Int) 16).bind fun q6=>
   (div? u8 (b1.toNat:Int) 16).bind fun q7=>
   (cut? [48,49,50,51,52,53,54,55,56,57,65,66,67,68,69,70] q6 (u8.wrap (q7+1))).bind fun s8=>
   (cat? [37] s8).bind fun s9=>
   (mod? (b1.toNat:Int) 16).bind fun q10=>
   (mod? (b1.toNat:Int) 16).bind fun q11=>
   (cut? [48,49,50,51,52,53,54,55,56,57,65,66,67,68,69,70] q10 (u8.wrap (q11+1))).bind fun s12=>
   (cat? s9 s12).bind fun s13=>
   (NK (b_3,s13)).bind fun r14=>
   next (s_0,r14.2.2,t7,(i64.wrap (t8+1)))
 else
  some b_3
def jB:=EK wA fuel
def QO:E0->Option E0:=fun s_0=>
 (jB (s_0,[],(s_0.length:Int),0)).bind fun r15=>
 (ME r15).bind fun r16=>
 some r16
def wB:Rd ((List E0)×(List E0)×Int×Int) (List E0):=fun next (l_3,t7,t8,t9)=>
 bif (decide (t9<t8))then
  (at? t7 t9).bind fun y2=>
  (QO y2).bind fun r3=>
  (app? 24 l_3 [r3]).bind fun l4=>
  next (l4,t7,t8,(i64.wrap (t9+1)))
 else
  some l_3
def jC:=EK wB fuel
def YE:E0->Option E0:=fun s_0=>
 (QN s_0).bind fun r1=>
 (jC ([],r1,(r1.length:Int),0)).bind fun r5=>
 (strings_Join (r5,[47])).bind fun r6=>
 some r6
def YF:E0×E0×E0×E0×E5×E0->Option E0:=fun p_0=>
 (cat? [112,107,103,58] p_0.1).bind fun s1=>
 (cat? s1 [47]).bind fun s2=>
 bif (!(EW p_0.2.1 []))then
  (YE p_0.2.1).bind fun r3=>
  (cat? r3 [47]).bind fun s4=>
  (cat? s2 s4).bind fun s5=>
  (QO p_0.2.2.1).bind fun r6=>
  (cat? s5 r6).bind fun s7=>
  some s7
 else
  (QO p_0.2.2.1).bind fun r8=>
  (cat? s2 r8).bind fun s9=>
  some s9
def TW:E0×E0×E0×E0×E5×E0->Option (E0×Int):=fun p_0=>
 (TR p_0).bind fun r1=>
 bif (!(E6 r1 0))then
  some ([],r1)
 else
  (TU p_0).bind fun r2=>
  (YF r2).bind fun r3=>
  some (r3,0)
def NL:E0->Option (Int×Bool):=fun name_0=>
 (TV name_0).bind fun r1=>
 bif (!(E6 r1.2.2 0))then
  some (0,false)
 else
  (TW r1.1).bind fun r2=>
  bif ((!(E6 r2.2 0))||(!(EW r2.1 name_0)))then
   some (0,false)
  else
   (QL r1.1.1).bind fun r3=>
   some (r3.1.2.2.2.2,(E6 r3.2 0))
def wC:Rd (E0×Int×LV×Int) (Int):=fun next (s_0,at_1,is_2,n_7)=>
 let v1:=(decide ((i64.wrap (at_1+n_7))<(s_0.length:Int)))
 (bif v1 then at? s_0 (i64.wrap (at_1+n_7))else some 0).bind fun b2=>
 (bif v1 then is_2 (b2.toNat:Int)else some false).bind fun r3=>
 bif (v1&&r3)then
  next (s_0,at_1,is_2,(i64.wrap (n_7+1)))
 else
  some n_7
def jD:=EK wC fuel
def HR:E0×Int×LV->Option (Int):=fun(s_0,at_1,is_2)=>
 (jD (s_0,at_1,is_2,0)).bind fun r4=>
 some r4
def H1:Int->Option (Bool):=fun c_0=>
 some ((decide (48<=c_0))&&(decide (c_0<=57)))
def II:E0->Option (Int×Bool):=fun s_0=>
 let v1:=((EW s_0 [])||(decide (18<(s_0.length:Int))))
 (bif (!v1)then HR (s_0,0,(fun x=>(H1 x).bind fun r=>some r))else some 0).bind fun r2=>
 bif (v1||(!(E6 r2 (s_0.length:Int))))then
  some (0,false)
 else
  (XL s_0).bind fun r3=>
  some (r3.1,true)
def OK:E0->Option (Int×Bool):=fun s_0=>
 (bif (decide (1<(s_0.length:Int)))then at? s_0 0 else some 0).bind fun b1=>
 bif ((decide (1<(s_0.length:Int)))&&(E6 (b1.toNat:Int) 48))then
  some (0,false)
 else
  (II s_0).bind fun r3=>
  some (r3.1,r3.2)
def MK:Int->Option (Bool):=fun c_0=>
 some (((decide (65<=c_0))&&(decide (c_0<=90)))||((decide (97<=c_0))&&(decide (c_0<=122))))
def YG:Int->Option (Bool):=fun c_0=>
 (H1 c_0).bind fun r1=>
 (bif (!r1)then MK c_0 else some false).bind fun r2=>
 some ((r1||r2)||(E6 c_0 45))
def wD:Rd ((List E0)×Int×Int) (Sum (Unit) K6):=fun next (t9,t10,t11)=>
 bif (decide (t11<t10))then
  (at? t9 t11).bind fun y2=>
  (bif (!(EW y2 []))then HR (y2,0,(fun x=>(YG x).bind fun r=>some r))else some 0).bind fun r3=>
  bif ((EW y2 [])||(!(E6 r3 (y2.length:Int))))then
   some (.inr ([],false))
  else
   next (t9,t10,(i64.wrap (t11+1)))
 else
  some (.inl ())
def jE:=EK wD fuel
def TX:E0->Option K6:=fun s_0=>
 (strings_Split (s_0,[46])).bind fun r1=>
 (jE (r1,(r1.length:Int),0)).bind fun r5=>
 match r5 with
 | .inl y6=>
  some (r1,true)
 | .inr y6'=>
  some (y6'.1,y6'.2)
def wE:Rd ((List E0)×Int×Int) (Sum (Unit) K6):=fun next (t15,t16,t17)=>
 bif (decide (t17<t16))then
  (at? t15 t17).bind fun y2=>
  (HR (y2,0,(fun x=>(H1 x).bind fun r=>some r))).bind fun r3=>
  bif (E6 r3 (y2.length:Int))then
   (OK y2).bind fun r4=>
   bif (!r4.2)then
    some (.inr ([],false))
   else
    next (t15,t16,(i64.wrap (t17+1)))
  else
   next (t15,t16,(i64.wrap (t17+1)))
 else
  some (.inl ())
def jF:=EK wE fuel
def YH:E0->Option K6:=fun s_0=>
 (TX s_0).bind fun r1=>
 (jF (r1.1,(r1.1.length:Int),0)).bind fun r5=>
 match r5 with
 | .inl y6=>
  some (r1.1,r1.2)
 | .inr y6'=>
  some (y6'.1,y6'.2)
def YI:E0->Option K6:=fun s_0=>
 (strings_Cut (s_0,[43])).bind fun r1=>
 (TX r1.2.1).bind fun r2=>
 bif (r1.2.2&&(!r2.2))then
  some ([],false)
 else
  bif (EW r1.1 [])then
   some ([],true)
  else
   (at? r1.1 0).bind fun b3=>
   bif (!(E6 (b3.toNat:Int) 45))then
    some ([],false)
   else
    (cut? r1.1 1 (r1.1.length:Int)).bind fun s4=>
    (YH s4).bind fun r5=>
    some (r5.1,r5.2)
def YJ:E0×Int×Bool->Option (Sum (Int) (GY×Bool)):=fun(s_0,at_5,t16)=>
 bif t16 then
  (bif (!(decide ((s_0.length:Int)<=at_5)))then at? s_0 at_5 else some 0).bind fun b1=>
  bif ((decide ((s_0.length:Int)<=at_5))||(!(E6 (b1.toNat:Int) 46)))then
   some (.inr ((Sum.inr (Sum.inr (Sum.inr (Sum.inr (Sum.inr ()))))),false))
  else
   some (.inl (i64.wrap (at_5+1)))
 else
  some (.inl at_5)
def wF:Rd (E0×LE×Int×Int) (Sum (LE×Int) (GY×Bool)):=fun next (s_0,v_4,at_5,t12)=>
 bif (decide (t12<3))then
  (YJ (s_0,at_5,(decide (0<t12)))).bind fun r3=>
  match r3 with
  | .inl y4=>
   (HR (s_0,y4,(fun x=>(H1 x).bind fun r=>some r))).bind fun r5=>
   (cut? s_0 y4 (i64.wrap (y4+r5))).bind fun s6=>
   (OK s6).bind fun r7=>
   bif (!r7.2)then
    some (.inr ((Sum.inr (Sum.inr (Sum.inr (Sum.inr (Sum.inr ()))))),false))
   else
    (in? 3 t12).bind fun _=>
    next (s_0,((v_4.1.set t12.toNat r7.1),v_4.2),(i64.wrap (y4+r5)),(i64.wrap (t12+1)))
  | .inr y4'=>
   some (.inr (y4'.1,y4'.2))
 else
  some (.inl ((v_4.1,v_4.2),at_5))
def jG:=EK wF fuel
def YK:E0->Option (GY×Bool):=fun s_0=>
 (jG (s_0,((List.replicate 3 0),[]),0,0)).bind fun r8=>
 match r8 with
 | .inl y9=>
  (cut? s_0 y9.2 (s_0.length:Int)).bind fun s10=>
  (YI s10).bind fun r11=>
  some ((Sum.inl (y9.1.1,r11.1)),r11.2)
 | .inr y9'=>
  some (y9'.1,y9'.2)
def YL:Int->Option (Bool):=fun c_0=>
 (H1 c_0).bind fun r1=>
 (bif (!r1)then MK c_0 else some false).bind fun r2=>
 (bif (!(r1||r2))then strings_IndexByte ([46,43,126,45],c_0)else some 0).bind fun r3=>
 some ((r1||r2)||(decide (0<=r3)))
def wG:Rd (E0×Int) MI:=fun next (s_0,at_3)=>
 bif (decide (at_3<(s_0.length:Int)))then
  (HR (s_0,at_3,(fun x=>(H1 x).bind fun r=>some r))).bind fun r1=>
  bif (decide (18<r1))then
   some (.inr false)
  else
   next (s_0,(i64.wrap (at_3+(SJ r1 1))))
 else
  some (.inl ())
def jH:=EK wG fuel
def YM:E0->Option (Bool):=fun s_0=>
 (jH (s_0,0)).bind fun r2=>
 match r2 with
 | .inl y3=>
  some true
 | .inr y3'=>
  some y3'
def YN:E0×KP×E0×E0×Bool->Option (Sum (E0×KP) (GY×Bool)):=fun(s_0,v_4,epoch_5,rest_6,t18)=>
 bif t18 then
  (OK epoch_5).bind fun r2=>
  bif (!r2.2)then
   some (.inr ((Sum.inr (Sum.inr (Sum.inr (Sum.inr (Sum.inr ()))))),false))
  else
   some (.inl (rest_6,(r2.1,v_4.2)))
 else
  some (.inl (s_0,v_4))
def YO:E0->Option (GY×Bool):=fun s_0=>
 (strings_Cut (s_0,[58])).bind fun r1=>
 (YN (s_0,(0,([],([],false))),r1.1,r1.2.1,r1.2.2)).bind fun r3=>
 match r3 with
 | .inl y4=>
  (bif (!(EW y4.1 []))then at? y4.1 0 else some 0).bind fun b5=>
  (bif (!(EW y4.1 []))then H1 (b5.toNat:Int)else some false).bind fun r6=>
  (bif (!((EW y4.1 [])||(!r6)))then HR (y4.1,0,(fun x=>(YL x).bind fun r=>some r))else some 0).bind fun r7=>
  let v8:=(((EW y4.1 [])||(!r6))||(!(E6 r7 (y4.1.length:Int))))
  (bif (!v8)then YM y4.1 else some false).bind fun r9=>
  bif (v8||(!r9))then
   some ((Sum.inr (Sum.inr (Sum.inr (Sum.inr (Sum.inr ()))))),false)
  else
   (strings_LastIndexByte (y4.1,45)).bind fun r10=>
   bif (decide (0<=r10))then
    (cut? y4.1 0 r10).bind fun s11=>
    (cut? y4.1 (i64.wrap (r10+1)) (y4.1.length:Int)).bind fun s12=>
    bif (EW s12 [])then
     some ((Sum.inr (Sum.inr (Sum.inr (Sum.inr (Sum.inr ()))))),false)
    else
     (strings_IndexByte (s11,45)).bind fun r13=>
     some ((Sum.inr (Sum.inl (y4.2.1,(s11,(s12,(decide (0<=r13))))))),true)
   else
    (strings_IndexByte (y4.1,45)).bind fun r15=>
    some ((Sum.inr (Sum.inl (y4.2.1,(y4.1,(y4.2.2.2.1,(decide (0<=r15))))))),true)
 | .inr y4'=>
  some (y4'.1,y4'.2)
def wH:Rd (E0×(List Int)) ((List Int)×E0×Bool):=fun next (s_0,out_5)=>
 (HR (s_0,0,(fun x=>(H1 x).bind fun r=>some r))).bind fun r1=>
 (cut? s_0 0 r1).bind fun s2=>
 (II s2).bind fun r3=>
 bif (!r3.2)then
  some ([],[],false)
 else
  (app? 24 out_5 [r3.1]).bind fun l4=>
  (cut? s_0 r1 (s_0.length:Int)).bind fun s5=>
  (bif (!(decide ((s5.length:Int)<2)))then at? s5 0 else some 0).bind fun b6=>
  let v7:=((decide ((s5.length:Int)<2))||(!(E6 (b6.toNat:Int) 46)))
  (bif (!v7)then at? s5 1 else some 0).bind fun b8=>
  (bif (!v7)then H1 (b8.toNat:Int)else some false).bind fun r9=>
  bif (v7||(!r9))then
   some (l4,s5,true)
  else
   (cut? s5 1 (s5.length:Int)).bind fun s10=>
   next (s10,l4)
def jI:=EK wH fuel
def YP:E0->Option ((List Int)×E0×Bool):=fun s_0=>
 (jI (s_0,[])).bind fun r11=>
 some (r11.1,r11.2.1,r11.2.2)
def jJ:Int->Option (Bool):=fun c_0=>
 some (((E6 c_0 46)||(E6 c_0 45))||(E6 c_0 95))
def TY:E0×LV->Option (Int):=fun(s_0,is_1)=>
 (bif (decide (1<(s_0.length:Int)))then at? s_0 0 else some 0).bind fun b1=>
 (bif (decide (1<(s_0.length:Int)))then jJ (b1.toNat:Int)else some false).bind fun r2=>
 (bif ((decide (1<(s_0.length:Int)))&&r2)then at? s_0 1 else some 0).bind fun b3=>
 (bif ((decide (1<(s_0.length:Int)))&&r2)then is_1 (b3.toNat:Int)else some false).bind fun r4=>
 bif (((decide (1<(s_0.length:Int)))&&r2)&&r4)then
  some 1
 else
  some 0
def wI:Rd (E0×E0×(List E0)×Int×Int) E0:=fun next (s_0,word_2,t7,t8,t9)=>
 bif (decide (t9<t8))then
  (at? t7 t9).bind fun y2=>
  (strings_HasPrefix (s_0,y2)).bind fun r3=>
  bif r3 then
   some y2
  else
   next (s_0,word_2,t7,t8,(i64.wrap (t9+1)))
 else
  some word_2
def jK:=EK wI fuel
def YQ:E0×Bool->Option (Bool):=fun(t18,t21)=>
 bif t21 then
  some t21
 else
  some (EW t18 [97,108,112,104,97])
def YR:E0×Bool->Option (Bool):=fun(t18,t25)=>
 bif t25 then
  some t25
 else
  some (EW t18 [98,101,116,97])
def YS:E0×Bool->Option (Bool):=fun(t18,t29)=>
 bif t29 then
  some t29
 else
  bif (EW t18 [114,99])then
   some (EW t18 [114,99])
  else
   bif (EW t18 [112,114,101])then
    some (EW t18 [112,114,101])
   else
    some (EW t18 [112,114,101,118,105,101,119])
def YT:E0->Option F5:=fun s_0=>
 let v1:=[[112,114,101,118,105,101,119],[97,108,112,104,97],[98,101,116,97],[112,111,115,116],[112,114,101],[114,101,118],[100,101,118],[114,99],[97],[98],[99],[114]]
 (jK (s_0,[],v1,(v1.length:Int),0)).bind fun r4=>
 bif (EW r4 [])then
  some ([],0,0)
 else
  (YQ (r4,(EW r4 [97]))).bind fun r5=>
  bif r5 then
   some (r4,1,1)
  else
   (YR (r4,(EW r4 [98]))).bind fun r6=>
   bif r6 then
    some (r4,1,2)
   else
    (YS (r4,(EW r4 [99]))).bind fun r7=>
    bif r7 then
     some (r4,1,3)
    else
     bif (EW r4 [112,111,115,116])then
      bif (EW r4 [112,111,115,116])then
       some (r4,2,0)
      else
       some (r4,3,0)
     else
      bif (EW r4 [114,101,118])then
       bif (EW r4 [114,101,118])then
        some (r4,2,0)
       else
        some (r4,3,0)
      else
       bif (EW r4 [114])then
        some (r4,2,0)
       else
        some (r4,3,0)
def YU:E0×Int×Int×Bool->Option (Sum (E0×Int) (E0×Bool)):=fun(rest_7,n_11,k_12,t49)=>
 bif t49 then
  (HR (rest_7,k_12,(fun x=>(H1 x).bind fun r=>some r))).bind fun r9=>
  (cut? rest_7 k_12 (i64.wrap (k_12+r9))).bind fun s10=>
  (II s10).bind fun r11=>
  bif (!r11.2)then
   some (.inr ([],false))
  else
   (cut? rest_7 (i64.wrap (k_12+r9)) (rest_7.length:Int)).bind fun s12=>
   some (.inl (s12,r11.1))
 else
  some (.inl (rest_7,n_11))
def wJ:Rd (G7×E0×Int) (G7×E0×Bool):=fun next (v_0,s_1,last_6)=>
 (TY (s_1,(fun x=>(MK x).bind fun r=>some r))).bind fun r1=>
 (cut? s_1 r1 (s_1.length:Int)).bind fun s2=>
 (YT s2).bind fun r3=>
 bif (EW r3.1 [])then
  some (v_0,s_1,true)
 else
  bif (decide (r3.2.1<=last_6))then
   some (v_0,[],false)
  else
   (cut? s2 (r3.1.length:Int) (s2.length:Int)).bind fun s4=>
   (TY (s4,(fun x=>(H1 x).bind fun r=>some r))).bind fun r5=>
   (bif ((!(decide (0<r5)))&&(!(EW s4 [])))then at? s4 0 else some 0).bind fun b6=>
   (bif ((!(decide (0<r5)))&&(!(EW s4 [])))then H1 (b6.toNat:Int)else some false).bind fun r7=>
   (YU (s4,0,r5,((decide (0<r5))||((!(EW s4 []))&&r7)))).bind fun r13=>
   match r13 with
   | .inl y14=>
    bif (E6 r3.2.1 1)then
     next ((v_0.1,(v_0.2.1,(r3.2.2,(y14.2,v_0.2.2.2.2)))),y14.1,r3.2.1)
    else
     bif (E6 r3.2.1 2)then
      next ((v_0.1,(v_0.2.1,(v_0.2.2.1,(v_0.2.2.2.1,(y14.2,v_0.2.2.2.2.2))))),y14.1,r3.2.1)
     else
      bif (E6 r3.2.1 3)then
       next ((v_0.1,(v_0.2.1,(v_0.2.2.1,(v_0.2.2.2.1,(v_0.2.2.2.2.1,(y14.2,v_0.2.2.2.2.2.2)))))),y14.1,r3.2.1)
      else
       next (v_0,y14.1,r3.2.1)
   | .inr y14'=>
    some (v_0,y14'.1,y14'.2)
def jL:=EK wJ fuel
def YV:G7×E0->Option (E0×Bool×G7):=fun(v_0,s_1)=>
 (jL (v_0,s_1,0)).bind fun r15=>
 some (r15.2.1,r15.2.2,r15.1)
def jM:Int->Option (Bool):=fun c_0=>
 some (((E6 c_0 46)||(E6 c_0 45))||(E6 c_0 95))
def YW:Int->Option (Bool):=fun c_0=>
 (H1 c_0).bind fun r1=>
 (bif (!r1)then MK c_0 else some false).bind fun r2=>
 some (r1||r2)
def wK:Rd (Int×(List E0)×Int×Int) (Sum (Int) K6):=fun next (n_5,t13,t14,t15)=>
 bif (decide (t15<t14))then
  (at? t13 t15).bind fun y2=>
  (HR (y2,0,(fun x=>(H1 x).bind fun r=>some r))).bind fun r3=>
  (HR (y2,0,(fun x=>(YW x).bind fun r=>some r))).bind fun r4=>
  bif ((!(E6 r4 (y2.length:Int)))||((E6 r3 (y2.length:Int))&&(decide (18<r3))))then
   some (.inr ([],false))
  else
   next ((i64.wrap (n_5+(y2.length:Int))),t13,t14,(i64.wrap (t15+1)))
 else
  some (.inl n_5)
def jN:=EK wK fuel
def YX:E0->Option K6:=fun s_0=>
 (QI (s_0,(fun x=>(jM x).bind fun r=>some r))).bind fun r1=>
 (jN ((r1.length:Int),r1,(r1.length:Int),0)).bind fun r6=>
 match r6 with
 | .inl y7=>
  some (r1,((decide (0<(r1.length:Int)))&&(E6 (i64.wrap (y7-1)) (s_0.length:Int))))
 | .inr y7'=>
  some (y7'.1,y7'.2)
def YY:E0×G7×Int×Bool->Option (Sum (E0×G7) (GY×Bool)):=fun(s_0,v_4,n_5,t29)=>
 bif t29 then
  (cut? s_0 0 n_5).bind fun s6=>
  (II s6).bind fun r7=>
  bif (!r7.2)then
   some (.inr ((Sum.inr (Sum.inr (Sum.inr (Sum.inr (Sum.inr ()))))),false))
  else
   (cut? s_0 (i64.wrap (n_5+1)) (s_0.length:Int)).bind fun s8=>
   some (.inl (s8,(r7.1,v_4.2)))
 else
  some (.inl (s_0,v_4))
def YZ:E0->Option (GY×Bool):=fun s_0=>
 (strings_TrimPrefix (s_0,[118])).bind fun r2=>
 (HR (r2,0,(fun x=>(H1 x).bind fun r=>some r))).bind fun r3=>
 (bif (decide (r3<(r2.length:Int)))then at? r2 r3 else some 0).bind fun b4=>
 (YY (r2,(0,([],(0,(0,((-1:Int),((-1:Int),[])))))),r3,((decide (r3<(r2.length:Int)))&&(E6 (b4.toNat:Int) 33)))).bind fun r9=>
 match r9 with
 | .inl y10=>
  (YP y10.1).bind fun r11=>
  bif (!r11.2.2)then
   some ((Sum.inr (Sum.inr (Sum.inr (Sum.inr (Sum.inr ()))))),false)
  else
   (YV ((y10.2.1,(r11.1,y10.2.2.2)),r11.2.1)).bind fun r12=>
   bif (!r12.2.1)then
    some ((Sum.inr (Sum.inr (Sum.inr (Sum.inr (Sum.inr ()))))),false)
   else
    (strings_CutPrefix (r12.1,[43])).bind fun r13=>
    bif r13.2 then
     (YX r13.1).bind fun r14=>
     some ((Sum.inr (Sum.inr (Sum.inl (r12.2.2.1,(r12.2.2.2.1,(r12.2.2.2.2.1,(r12.2.2.2.2.2.1,(r12.2.2.2.2.2.2.1,(r12.2.2.2.2.2.2.2.1,r14.1))))))))),r14.2)
    else
     some ((Sum.inr (Sum.inr (Sum.inl r12.2.2))),(EW r12.1 []))
 | .inr y10'=>
  some (y10'.1,y10'.2)
def Y_:E0×Bool->Option E0:=fun(w_0,followed_1)=>
 (TH w_0).bind fun r1=>
 bif ((EW r1 [97])&&followed_1)then
  some [97,108,112,104,97]
 else
  bif ((EW r1 [98])&&followed_1)then
   some [98,101,116,97]
  else
   bif ((EW r1 [109])&&followed_1)then
    some [109,105,108,101,115,116,111,110,101]
   else
    bif (EW r1 [99,114])then
     some [114,99]
    else
     bif (((EW r1 [102,105,110,97,108])||(EW r1 [103,97]))||(EW r1 [114,101,108,101,97,115,101]))then
      some []
     else
      some r1
def QP:Bool×E0×Int->Option (Bool):=fun t_0=>
 some ((t_0.1&&(EW t_0.2.1 []))||((!t_0.1)&&(E6 t_0.2.2 0)))
def Z0:E0×Int×Bool->Option (Sum (Int) (GY×Bool)):=fun(s_0,at_5,t24)=>
 bif t24 then
  let v4:=(E6 at_5 (i64.wrap ((s_0.length:Int)-1)))
  (bif (!((E6 at_5 0)||v4))then at? s_0 (i64.wrap (at_5+1))else some 0).bind fun b5=>
  (bif (!((E6 at_5 0)||v4))then H1 (b5.toNat:Int)else some false).bind fun r6=>
  (bif ((!((E6 at_5 0)||v4))&&(!r6))then at? s_0 (i64.wrap (at_5+1))else some 0).bind fun b7=>
  (bif ((!((E6 at_5 0)||v4))&&(!r6))then MK (b7.toNat:Int)else some false).bind fun r8=>
  bif (((E6 at_5 0)||v4)||((!r6)&&(!r8)))then
   some (.inr ((Sum.inr (Sum.inr (Sum.inr (Sum.inr (Sum.inr ()))))),false))
  else
   some (.inl (i64.wrap (at_5+1)))
 else
  some (.inl at_5)
def wL:Rd (E0×(List GB)×Int) (Sum (List GB) (GY×Bool)):=fun next (s_0,v_4,at_5)=>
 bif (decide (at_5<(s_0.length:Int)))then
  (at? s_0 at_5).bind fun b1=>
  (bif (!(E6 (b1.toNat:Int) 46))then at? s_0 at_5 else some 0).bind fun b2=>
  (Z0 (s_0,at_5,((E6 (b1.toNat:Int) 46)||(E6 (b2.toNat:Int) 45)))).bind fun r9=>
  match r9 with
  | .inl y10=>
   (HR (s_0,y10,(fun x=>(H1 x).bind fun r=>some r))).bind fun r11=>
   bif (decide (0<r11))then
    (cut? s_0 y10 (i64.wrap (y10+r11))).bind fun s12=>
    (II s12).bind fun r13=>
    bif (!r13.2)then
     some (.inr ((Sum.inr (Sum.inr (Sum.inr (Sum.inr (Sum.inr ()))))),false))
    else
     (app? 72 v_4 [(false,([],r13.1))]).bind fun l15=>
     next (s_0,l15,(i64.wrap (y10+r11)))
   else
    (HR (s_0,y10,(fun x=>(MK x).bind fun r=>some r))).bind fun r16=>
    bif (E6 r16 0)then
     some (.inr ((Sum.inr (Sum.inr (Sum.inr (Sum.inr (Sum.inr ()))))),false))
    else
     let v17:=(decide ((i64.wrap (y10+r16))<(s_0.length:Int)))
     (bif v17 then at? s_0 (i64.wrap (y10+r16))else some 0).bind fun b18=>
     (bif v17 then H1 (b18.toNat:Int)else some false).bind fun r19=>
     (cut? s_0 y10 (i64.wrap (y10+r16))).bind fun s20=>
     (Y_ (s20,(v17&&r19))).bind fun r21=>
     (app? 72 v_4 [(true,(r21,0))]).bind fun l23=>
     next (s_0,l23,(i64.wrap (y10+r16)))
  | .inr y10'=>
   some (.inr (y10'.1,y10'.2))
 else
  some (.inl v_4)
def jO:=EK wL fuel
def wM:Rd (List GB) (List GB):=fun next v_4=>
 (bif (decide (0<(v_4.length:Int)))then at? v_4 (i64.wrap ((v_4.length:Int)-1))else some (false,([],0))).bind fun y29=>
 (bif (decide (0<(v_4.length:Int)))then QP y29 else some false).bind fun r30=>
 bif ((decide (0<(v_4.length:Int)))&&r30)then
  (cut? v_4 0 (i64.wrap ((v_4.length:Int)-1))).bind fun s31=>
  next s31
 else
  some v_4
def jP:=EK wM fuel
def Z1:E0->Option (GY×Bool):=fun s_0=>
 (jO (s_0,[],0)).bind fun r24=>
 match r24 with
 | .inl y25=>
  (jP y25).bind fun r32=>
  some ((Sum.inr (Sum.inr (Sum.inr (Sum.inl r32)))),true)
 | .inr y25'=>
  some (y25'.1,y25'.2)
def Z2:E0->Option (GY×Bool):=fun s_0=>
 (OK s_0).bind fun r1=>
 some ((Sum.inr (Sum.inr (Sum.inr (Sum.inr (Sum.inl r1.1))))),r1.2)
def IJ:Int×E0->Option (GY×Int):=fun(kind_0,s_1)=>
 bif ((decide (kind_0<1))||(decide (5<kind_0)))then
  some ((Sum.inr (Sum.inr (Sum.inr (Sum.inr (Sum.inr ()))))),7)
 else
  bif ((EW s_1 [])||(decide (100<(s_1.length:Int))))then
   some ((Sum.inr (Sum.inr (Sum.inr (Sum.inr (Sum.inr ()))))),3)
  else
   bif (E6 kind_0 1)then
    (YK s_1).bind fun r3=>
    bif (!r3.2)then
     some ((Sum.inr (Sum.inr (Sum.inr (Sum.inr (Sum.inr ()))))),6)
    else
     some (r3.1,0)
   else
    bif (E6 kind_0 2)then
     (YO s_1).bind fun r4=>
     bif (!r4.2)then
      some ((Sum.inr (Sum.inr (Sum.inr (Sum.inr (Sum.inr ()))))),6)
     else
      some (r4.1,0)
    else
     bif (E6 kind_0 3)then
      (TH s_1).bind fun r5=>
      (YZ r5).bind fun r6=>
      bif (!r6.2)then
       some ((Sum.inr (Sum.inr (Sum.inr (Sum.inr (Sum.inr ()))))),6)
      else
       some (r6.1,0)
     else
      bif (E6 kind_0 4)then
       (Z1 s_1).bind fun r7=>
       bif (!r7.2)then
        some ((Sum.inr (Sum.inr (Sum.inr (Sum.inr (Sum.inr ()))))),6)
       else
        some (r7.1,0)
      else
       bif (E6 kind_0 5)then
        (Z2 s_1).bind fun r8=>
        bif (!r8.2)then
         some ((Sum.inr (Sum.inr (Sum.inr (Sum.inr (Sum.inr ()))))),6)
        else
         some (r8.1,0)
       else
        bif (!false)then
         some ((Sum.inr (Sum.inr (Sum.inr (Sum.inr (Sum.inr ()))))),6)
        else
         some ((Sum.inr (Sum.inr (Sum.inr (Sum.inr (Sum.inr ()))))),0)
def Z3:Int×E0->Option (Int):=fun(kind_0,s_1)=>
 (IJ (kind_0,s_1)).bind fun r1=>
 some r1.2
def OL:E0×E0->Option (Int×Int):=fun(name_0,v_1)=>
 (NL name_0).bind fun r1=>
 bif (!r1.2)then
  some (0,8)
 else
  (Z3 (r1.1,v_1)).bind fun r2=>
  some (r1.1,r2)
def wO:Rd ((List E0)×(List Int)×Int×Int) (List E0):=fun next (parts_3,t6,t7,t8)=>
 bif (decide (t8<t7))then
  (at? t6 t8).bind fun y1=>
  (strconv_Itoa y1).bind fun r2=>
  (app? 24 parts_3 [r2]).bind fun l3=>
  next (l3,t6,t7,(i64.wrap (t8+1)))
 else
  some parts_3
def jQ:=EK wO fuel
def TZ:List Int->Option E0:=fun l_0=>
 (jQ ([],l_0,(l_0.length:Int),0)).bind fun r4=>
 (strings_Join (r4,[46])).bind fun r5=>
 some r5
def T_:(List Int)×(List E0)->Option E0:=fun v_0=>
 (cut? v_0.1 0 (v_0.1.length:Int)).bind fun s1=>
 (TZ s1).bind fun r2=>
 bif (decide (0<(v_0.2.length:Int)))then
  (strings_Join (v_0.2,[46])).bind fun r3=>
  (cat? [45] r3).bind fun s4=>
  (cat? r2 s4).bind fun s5=>
  some s5
 else
  some r2
def wP:Rd (E0×(List Int)×Int) (List Int):=fun next (s_0,b_3,at_4)=>
 bif (decide (at_4<(s_0.length:Int)))then
  (HR (s_0,at_4,(fun x=>(H1 x).bind fun r=>some r))).bind fun r1=>
  bif (E6 r1 0)then
   (at? s_0 at_4).bind fun b2=>
   (LZ (b_3,(b2.toNat:Int))).bind fun r3=>
   next (s_0,r3.2,(i64.wrap (at_4+1)))
  else
   (cut? s_0 at_4 (i64.wrap (at_4+r1))).bind fun s4=>
   (II s4).bind fun r5=>
   bif (((!(E6 r5.1 0))||(decide ((i64.wrap (at_4+r1))<(s_0.length:Int))))||(E6 r1 (s_0.length:Int)))then
    (strconv_Itoa r5.1).bind fun r8=>
    (NK (b_3,r8)).bind fun r9=>
    next (s_0,r9.2.2,(i64.wrap (at_4+r1)))
   else
    next (s_0,b_3,(i64.wrap (at_4+r1)))
 else
  some b_3
def jR:=EK wP fuel
def U0:E0->Option E0:=fun s_0=>
 (jR (s_0,[],0)).bind fun r10=>
 (ME r10).bind fun r11=>
 some r11
def U1:Int×E0×E0×Bool->Option E0:=fun v_0=>
 bif (EW v_0.2.2.1 [])then
  some [48]
 else
  some v_0.2.2.1
def Z4:Int->Option (Bool):=fun c_0=>
 (H1 c_0).bind fun r1=>
 some (!r1)
def wQ:Rd (E0×(List Int)×Int×Int) (List Int):=fun next (s_0,b_3,t6,t7)=>
 bif (decide (t7<t6))then
  (at? s_0 t7).bind fun b1=>
  bif (E6 (b1.toNat:Int) 126)then
   (LZ (b_3,1)).bind fun r2=>
   next (s_0,r2.2,t6,(i64.wrap (t7+1)))
  else
   (at? s_0 t7).bind fun b3=>
   (MK (b3.toNat:Int)).bind fun r4=>
   bif r4 then
    (at? s_0 t7).bind fun b5=>
    (LZ (b_3,(b5.toNat:Int))).bind fun r6=>
    next (s_0,r6.2,t6,(i64.wrap (t7+1)))
   else
    (at? s_0 t7).bind fun b7=>
    (LZ (b_3,(u8.wrap ((b7.toNat:Int)+128)))).bind fun r8=>
    next (s_0,r8.2,t6,(i64.wrap (t7+1)))
 else
  some b_3
def jS:=EK wQ fuel
def Z5:E0->Option E0:=fun s_0=>
 (jS (s_0,[],(s_0.length:Int),0)).bind fun r9=>
 (ME r9).bind fun r10=>
 (cat? r10 [2]).bind fun s11=>
 some s11
def IK:Int->Option E0:=fun n_0=>
 (strconv_Itoa n_0).bind fun r1=>
 (strings_Repeat ([48],(i64.wrap (18-(r1.length:Int))))).bind fun r2=>
 (cat? r2 r1).bind fun s3=>
 some s3
def wR:Rd (E0×(List Int)) (List Int):=fun next (s_0,b_3)=>
 bif (!(EW s_0 []))then
  (HR (s_0,0,(fun x=>(Z4 x).bind fun r=>some r))).bind fun r1=>
  (HR (s_0,r1,(fun x=>(H1 x).bind fun r=>some r))).bind fun r2=>
  (cut? s_0 r1 (i64.wrap (r1+r2))).bind fun s3=>
  (II s3).bind fun r4=>
  (cut? s_0 0 r1).bind fun s5=>
  (Z5 s5).bind fun r6=>
  (IK r4.1).bind fun r7=>
  (cat? r6 r7).bind fun s8=>
  (NK (b_3,s8)).bind fun r9=>
  (cut? s_0 (i64.wrap (r1+r2)) (s_0.length:Int)).bind fun s10=>
  next (s10,r9.2.2)
 else
  some b_3
def jT:=EK wR fuel
def OM:E0->Option E0:=fun s_0=>
 (jT (s_0,[])).bind fun r11=>
 (ME r11).bind fun r12=>
 (cat? r12 [2]).bind fun s13=>
 some s13
def Z6:KP×E0×Bool->Option (KP×E0):=fun(v_1,s_3,t9)=>
 bif t9 then
  (strconv_Itoa v_1.1).bind fun r2=>
  (cat? r2 [58]).bind fun s3=>
  (cat? s3 s_3).bind fun s4=>
  some (v_1,s4)
 else
  some (v_1,s_3)
def U2:Int×E0×E0×Bool->Option E0:=fun v_0=>
 (U0 v_0.2.1).bind fun r1=>
 (Z6 (v_0,r1,(!(E6 v_0.1 0)))).bind fun r5=>
 (U1 r5.1).bind fun r6=>
 (OM r6).bind fun r7=>
 (OM [48]).bind fun r8=>
 bif (!(EW r7 r8))then
  (cat? r5.2 [45]).bind fun s9=>
  (U0 r5.1.2.2.1).bind fun r10=>
  (cat? s9 r10).bind fun s11=>
  some s11
 else
  bif r5.1.2.2.2 then
   (cat? r5.2 [45,48]).bind fun s12=>
   some s12
  else
   some r5.2
def wS:Rd (List Int) (List Int):=fun next l_0=>
 (bif (decide (0<(l_0.length:Int)))then at? l_0 (i64.wrap ((l_0.length:Int)-1))else some 0).bind fun y1=>
 bif ((decide (0<(l_0.length:Int)))&&(E6 y1 0))then
  (cut? l_0 0 (i64.wrap ((l_0.length:Int)-1))).bind fun s3=>
  next s3
 else
  some l_0
def jU:=EK wS fuel
def U3:List Int->Option (List Int):=fun l_0=>
 (jU l_0).bind fun r4=>
 some r4
def Z7:G7×E0×Bool->Option (G7×E0):=fun(v_1,s_3,t11)=>
 bif t11 then
  (strconv_Itoa v_1.1).bind fun r1=>
  (cat? r1 [33]).bind fun s2=>
  some (v_1,s2)
 else
  some (v_1,s_3)
def Z8:E0×(List Int)×Bool->Option E0:=fun(s_3,l_4,t21)=>
 bif t21 then
  (TZ l_4).bind fun r5=>
  (cat? s_3 r5).bind fun s6=>
  some s6
 else
  (cat? s_3 [48]).bind fun s7=>
  some s7
def Z9:G7×E0×Bool->Option (G7×E0):=fun(v_1,s_3,t30)=>
 bif t30 then
  (at? [[],[97],[98],[114,99]] v_1.2.2.1).bind fun y10=>
  (strconv_Itoa v_1.2.2.2.1).bind fun r11=>
  (cat? y10 r11).bind fun s12=>
  (cat? s_3 s12).bind fun s13=>
  some (v_1,s13)
 else
  some (v_1,s_3)
def ZA:G7×E0×Bool->Option (G7×E0):=fun(v_1,s_3,t44)=>
 bif t44 then
  (strconv_Itoa v_1.2.2.2.2.1).bind fun r15=>
  (cat? [46,112,111,115,116] r15).bind fun s16=>
  (cat? s_3 s16).bind fun s17=>
  some (v_1,s17)
 else
  some (v_1,s_3)
def ZB:G7×E0×Bool->Option (G7×E0):=fun(v_1,s_3,t53)=>
 bif t53 then
  (strconv_Itoa v_1.2.2.2.2.2.1).bind fun r19=>
  (cat? [46,100,101,118] r19).bind fun s20=>
  (cat? s_3 s20).bind fun s21=>
  some (v_1,s21)
 else
  some (v_1,s_3)
def ZC:E0×Int×Bool->Option E0:=fun(p_6,n_7,t73)=>
 bif t73 then
  (strconv_Itoa n_7).bind fun r25=>
  some r25
 else
  some p_6
def wT:Rd (E0×(List E0)×Int×Int) E0:=fun next (s_3,t61,t62,t63)=>
 bif (decide (t63<t62))then
  (at? t61 t63).bind fun y23=>
  (II y23).bind fun r24=>
  (ZC (y23,r24.1,r24.2)).bind fun r26=>
  bif (E6 t63 0)then
   (cat? [43] r26).bind fun s27=>
   (cat? s_3 s27).bind fun s28=>
   next (s28,t61,t62,(i64.wrap (t63+1)))
  else
   (cat? [46] r26).bind fun s29=>
   (cat? s_3 s29).bind fun s30=>
   next (s30,t61,t62,(i64.wrap (t63+1)))
 else
  some s_3
def jV:=EK wT fuel
def U4:Int×(List Int)×Int×Int×Int×Int×(List E0)->Option E0:=fun v_0=>
 (Z7 (v_0,[],(!(E6 v_0.1 0)))).bind fun r3=>
 (U3 r3.1.2.1).bind fun r4=>
 (Z8 (r3.2,r4,(decide (0<(r4.length:Int))))).bind fun r8=>
 (Z9 (r3.1,r8,(decide (0<r3.1.2.2.1)))).bind fun r14=>
 (ZA (r14.1,r14.2,(decide (0<=r14.1.2.2.2.2.1)))).bind fun r18=>
 (ZB (r18.1,r18.2,(decide (0<=r18.1.2.2.2.2.2.1)))).bind fun r22=>
 (jV (r22.2,r22.1.2.2.2.2.2.2,(r22.1.2.2.2.2.2.2.length:Int),0)).bind fun r31=>
 some r31
def wU:Rd ((List E0)×(List GB)×Int×Int) (List E0):=fun next (l_3,t7,t8,t9)=>
 bif (decide (t9<t8))then
  (at? t7 t9).bind fun y1=>
  (QP y1).bind fun r2=>
  bif r2 then
   (app? 24 l_3 [[48]]).bind fun l3=>
   next (l3,t7,t8,(i64.wrap (t9+1)))
  else
   bif y1.1 then
    (app? 24 l_3 [y1.2.1]).bind fun l4=>
    next (l4,t7,t8,(i64.wrap (t9+1)))
   else
    (strconv_Itoa y1.2.2).bind fun r5=>
    (app? 24 l_3 [r5]).bind fun l6=>
    next (l6,t7,t8,(i64.wrap (t9+1)))
 else
  some l_3
def jW:=EK wU fuel
def U5:List GB->Option E0:=fun v_0=>
 (jW ([],v_0,(v_0.length:Int),0)).bind fun r7=>
 bif (E6 (r7.length:Int) 0)then
  some [48]
 else
  (strings_Join (r7,[45])).bind fun r8=>
  some r8
def U6:Int->Option E0:=fun v_0=>
 (strconv_Itoa v_0).bind fun r1=>
 some r1
def wV:Rd ((Int->Option E0)×(List Int)×(List Int)×Int×Int) (List Int):=fun next (one_2,b_7,t10,t11,t12)=>
 bif (decide (t12<t11))then
  (at? t10 t12).bind fun y1=>
  (one_2 y1).bind fun r2=>
  (NK (b_7,r2)).bind fun r3=>
  next (one_2,r3.2.2,t10,t11,(i64.wrap (t12+1)))
 else
  some b_7
def jX:=EK wV fuel
def U7:(List Int)×E0×(Int->Option E0)->Option E0:=fun(l_0,end_1,one_2)=>
 (jX (one_2,[],l_0,(l_0.length:Int),0)).bind fun r4=>
 (ME r4).bind fun r5=>
 (cat? r5 end_1).bind fun s6=>
 some s6
def wW:Rd ((E0->Option E0)×(List Int)×(List E0)×Int×Int) (List Int):=fun next (one_2,b_7,t10,t11,t12)=>
 bif (decide (t12<t11))then
  (at? t10 t12).bind fun y1=>
  (one_2 y1).bind fun r2=>
  (NK (b_7,r2)).bind fun r3=>
  next (one_2,r3.2.2,t10,t11,(i64.wrap (t12+1)))
 else
  some b_7
def jY:=EK wW fuel
def U8:(List E0)×E0×(E0->Option E0)->Option E0:=fun(l_0,end_1,one_2)=>
 (jY (one_2,[],l_0,(l_0.length:Int),0)).bind fun r4=>
 (ME r4).bind fun r5=>
 (cat? r5 end_1).bind fun s6=>
 some s6
def ZD:E0->Option E0:=fun p_0=>
 (II p_0).bind fun r1=>
 bif r1.2 then
  (IK r1.1).bind fun r2=>
  (cat? [48] r2).bind fun s3=>
  some s3
 else
  (cat? [49] p_0).bind fun s4=>
  (cat? s4 [32]).bind fun s5=>
  some s5
def ML:(List Int)×(List E0)->Option E0:=fun v_0=>
 (cut? v_0.1 0 (v_0.1.length:Int)).bind fun s1=>
 (U7 (s1,[],(fun x=>(IK x).bind fun r=>some r))).bind fun r2=>
 bif (E6 (v_0.2.length:Int) 0)then
  (cat? r2 [126]).bind fun s3=>
  some s3
 else
  (cat? r2 [33]).bind fun s4=>
  (U8 (v_0.2,[33],(fun x=>(ZD x).bind fun r=>some r))).bind fun r5=>
  (cat? s4 r5).bind fun s6=>
  some s6
def MM:Int×E0×E0×Bool->Option E0:=fun v_0=>
 (IK v_0.1).bind fun r1=>
 (OM v_0.2.1).bind fun r2=>
 (cat? r1 r2).bind fun s3=>
 (U1 v_0).bind fun r4=>
 (OM r4).bind fun r5=>
 (cat? s3 r5).bind fun s6=>
 some s6
def ZE:Int->Option E0:=fun n_0=>
 (IK n_0).bind fun r1=>
 (cat? [49] r1).bind fun s2=>
 some s2
def ZF:Int×(List Int)×Int×Int×Int×Int×(List E0)->Option (Int):=fun v_0=>
 bif (decide (0<v_0.2.2.1))then
  some v_0.2.2.1
 else
  bif ((decide (0<=v_0.2.2.2.2.2.1))&&(decide (v_0.2.2.2.2.1<0)))then
   some 0
  else
   some 4
def ZG:Int->Option E0:=fun n_0=>
 bif (decide (n_0<0))then
  some [48]
 else
  (IK n_0).bind fun r1=>
  (cat? [49] r1).bind fun s2=>
  some s2
def ZH:E0->Option E0:=fun p_0=>
 (II p_0).bind fun r1=>
 bif r1.2 then
  (IK r1.1).bind fun r2=>
  (cat? [50] r2).bind fun s3=>
  some s3
 else
  (cat? [49] p_0).bind fun s4=>
  (cat? s4 [32]).bind fun s5=>
  some s5
def ZI:G7×E0×Bool->Option (G7×E0):=fun(v_1,s_3,t27)=>
 bif t27 then
  (IK v_1.2.2.2.2.2.1).bind fun r12=>
  (cat? [48] r12).bind fun s13=>
  (cat? s_3 s13).bind fun s14=>
  some (v_1,s14)
 else
  (cat? s_3 [49]).bind fun s15=>
  some (v_1,s15)
def MN:Int×(List Int)×Int×Int×Int×Int×(List E0)->Option E0:=fun v_0=>
 (IK v_0.1).bind fun r1=>
 (U3 v_0.2.1).bind fun r2=>
 (U7 (r2,[48],(fun x=>(ZE x).bind fun r=>some r))).bind fun r3=>
 (cat? r1 r3).bind fun s4=>
 (ZF v_0).bind fun r5=>
 (strconv_Itoa r5).bind fun r6=>
 (IK v_0.2.2.2.1).bind fun r7=>
 (cat? r6 r7).bind fun s8=>
 (ZG v_0.2.2.2.2.1).bind fun r9=>
 (cat? s8 r9).bind fun s10=>
 (cat? s4 s10).bind fun s11=>
 (ZI (v_0,s11,(decide (0<=v_0.2.2.2.2.2.1)))).bind fun r16=>
 bif (E6 (r16.1.2.2.2.2.2.2.length:Int) 0)then
  (cat? r16.2 [48]).bind fun s17=>
  some s17
 else
  (cat? r16.2 [49]).bind fun s18=>
  (U8 (r16.1.2.2.2.2.2.2,[48],(fun x=>(ZH x).bind fun r=>some r))).bind fun r19=>
  (cat? s18 r19).bind fun s20=>
  some s20
def U9:Unit->Option (List E0):=fun _=>
 some [[97,108,112,104,97],[98,101,116,97],[109,105,108,101,115,116,111,110,101],[114,99],[115,110,97,112,115,104,111,116]]
def ZJ:Rd ((List E0)×E0×Int×Int) H_:=fun next (s_0,v_1,t7,t8)=>
 bif (decide (t8<t7))then
  (at? s_0 t8).bind fun y1=>
  bif (EW v_1 y1)then
   some (.inr t8)
  else
   next (s_0,v_1,t7,(i64.wrap (t8+1)))
 else
  some (.inl ())
def ZK:=EK ZJ fuel
def MO:(List E0)×E0->Option (Int):=fun(s_0,v_1)=>
 (ZK (s_0,v_1,(s_0.length:Int),0)).bind fun r2=>
 match r2 with
 | .inl y3=>
  some (-1:Int)
 | .inr y3'=>
  some y3'
def ZL:(List E0)×E0->Option (Bool):=fun(s_0,v_1)=>
 (MO (s_0,v_1)).bind fun r1=>
 some (decide (0<=r1))
def QQ:Bool×E0×Int->Option (Bool):=fun t_0=>
 (bif t_0.1 then U9 ()else some []).bind fun r1=>
 (bif t_0.1 then ZL (r1,t_0.2.1)else some false).bind fun r2=>
 some (t_0.1&&r2)
def UA:Bool×E0×Int->Option E0:=fun t_0=>
 bif (!t_0.1)then
  (IK t_0.2.2).bind fun r1=>
  (cat? [56] r1).bind fun s2=>
  some s2
 else
  (QQ t_0).bind fun r3=>
  bif r3 then
   (U9 ()).bind fun r4=>
   (MO (r4,t_0.2.1)).bind fun r5=>
   (strconv_Itoa r5).bind fun r6=>
   some r6
  else
   bif (EW t_0.2.1 [115,112])then
    some [54]
   else
    (cat? [55] t_0.2.1).bind fun s7=>
    (cat? s7 [32]).bind fun s8=>
    some s8
def wX:Rd (E0×Int×(List GB)×Int×Int) E0:=fun next (s_3,blanks_4,t8,t9,t10)=>
 bif (decide (t10<t9))then
  (at? t8 t10).bind fun y1=>
  (QP y1).bind fun r2=>
  bif r2 then
   next (s_3,(i64.wrap (blanks_4+1)),t8,t9,(i64.wrap (t10+1)))
  else
   (QQ y1).bind fun r3=>
   bif r3 then
    (strconv_Itoa (i64.wrap (100+blanks_4))).bind fun r4=>
    (cat? [49] r4).bind fun s5=>
    (UA y1).bind fun r6=>
    (cat? s5 r6).bind fun s7=>
    (cat? s_3 s7).bind fun s8=>
    next (s8,0,t8,t9,(i64.wrap (t10+1)))
   else
    (strconv_Itoa (i64.wrap (900-blanks_4))).bind fun r9=>
    (cat? [51] r9).bind fun s10=>
    (UA y1).bind fun r11=>
    (cat? s10 r11).bind fun s12=>
    (cat? s_3 s12).bind fun s13=>
    next (s13,0,t8,t9,(i64.wrap (t10+1)))
 else
  some s_3
def jZ:=EK wX fuel
def MP:List GB->Option E0:=fun v_0=>
 (jZ ([],0,v_0,(v_0.length:Int),0)).bind fun r14=>
 (cat? r14 [50]).bind fun s15=>
 some s15
def MQ:Int->Option E0:=fun v_0=>
 (IK v_0).bind fun r1=>
 some r1
def MR:Int×G6->Option (E0×Int):=fun(kind_0,b_1)=>
 bif (!b_1.1)then
  bif (b_1.2.1||(!(EW b_1.2.2 [])))then
   some ([],2)
  else
   some ([],0)
 else
  (IJ (kind_0,b_1.2.2)).bind fun r1=>
  bif (!(E6 r1.2 0))then
   some ([],r1.2)
  else
   ((fun z=>Sum.casesOn (motive:=fun _=>Option E0) z (fun x=>(T_ x).bind fun r=>some r) (fun z=>Sum.casesOn (motive:=fun _=>Option E0) z (fun x=>(U2 x).bind fun r=>some r) (fun z=>Sum.casesOn (motive:=fun _=>Option E0) z (fun x=>(U4 x).bind fun r=>some r) (fun z=>Sum.casesOn (motive:=fun _=>Option E0) z (fun x=>(U5 x).bind fun r=>some r) (fun z=>Sum.casesOn (motive:=fun _=>Option E0) z (fun x=>(U6 x).bind fun r=>some r) (fun _=>none)))))) r1.1).bind fun r2=>
   bif (!(EW r2 b_1.2.2))then
    some ([],2)
   else
    ((fun z=>Sum.casesOn (motive:=fun _=>Option E0) z (fun x=>(ML x).bind fun r=>some r) (fun z=>Sum.casesOn (motive:=fun _=>Option E0) z (fun x=>(MM x).bind fun r=>some r) (fun z=>Sum.casesOn (motive:=fun _=>Option E0) z (fun x=>(MN x).bind fun r=>some r) (fun z=>Sum.casesOn (motive:=fun _=>Option E0) z (fun x=>(MP x).bind fun r=>some r) (fun z=>Sum.casesOn (motive:=fun _=>Option E0) z (fun x=>(MQ x).bind fun r=>some r) (fun _=>none)))))) r1.1).bind fun r3=>
    some (r3,0)
def UB:G6×E0->Option JI:=fun(b_0,key_1)=>
 bif (!b_0.1)then
  some ((-1:Int),([],(false,[])))
 else
  some (0,(key_1,((!b_0.2.1),b_0.2.2)))
def UC:G6×E0->Option JI:=fun(b_0,key_1)=>
 bif (!b_0.1)then
  some (1,([],(false,[])))
 else
  some (0,(key_1,(b_0.2.1,b_0.2.2)))
def ZM:Int->Option (Bool):=fun x_0=>
 some (!(E6 x_0 x_0))
def QR:Int×Int->Option (Int):=fun(x_0,y_1)=>
 (ZM x_0).bind fun r1=>
 (ZM y_1).bind fun r2=>
 bif r1 then
  bif r2 then
   some 0
  else
   some (-1:Int)
 else
  bif r2 then
   some 1
  else
   bif (decide (x_0<y_1))then
    some (-1:Int)
   else
    bif (decide (y_1<x_0))then
     some 1
    else
     some 0
def KR:JI×JI->Option (Int):=fun(a_0,b_1)=>
 bif ((!(E6 a_0.1 b_1.1))||(!(E6 a_0.1 0)))then
  (QR (a_0.1,b_1.1)).bind fun r1=>
  some r1
 else
  (LY (a_0.2.1,b_1.2.1)).bind fun r2=>
  bif ((!(E6 r2 0))||(IV a_0.2.2.1 b_1.2.2.1))then
   some r2
  else
   bif a_0.2.2.1 then
    some 1
   else
    some (-1:Int)
def ZN:(G6×G6)×(List FJ)->Option (Int):=fun(s_0,before_1)=>
 bif (((!s_0.1.1)||(!s_0.1.2.1))||(s_0.2.1&&((!s_0.2.2.1)||(EW s_0.2.2.2 [57,57,57,57,57,57,57,57,57,57,57,57,57,57,57,57,57,57]))))then
  some 2
 else
  bif (decide (0<(before_1.length:Int)))then
   (II s_0.1.2.2).bind fun r3=>
   (at? before_1 (i64.wrap ((before_1.length:Int)-1))).bind fun y4=>
   (II y4.2.2.2.2).bind fun r5=>
   bif (decide (r3.1<(i64.wrap (r5.1+2))))then
    some 10
   else
    some 0
  else
   some 0
def wY:Rd ((Int×FG)×(List FJ)×FG×Int×Int) (Sum (List FJ) ((List FJ)×Int)):=fun next (r_1,out_4,t25,t26,t27)=>
 bif (decide (t27<t26))then
  (at? t25 t27).bind fun y2=>
  (MR (r_1.1,y2.1)).bind fun r3=>
  bif (!(E6 r3.2 0))then
   some (.inr ([],r3.2))
  else
   (MR (r_1.1,y2.2)).bind fun r4=>
   bif (!(E6 r4.2 0))then
    some (.inr ([],r4.2))
   else
    (UB (y2.1,r3.1)).bind fun r5=>
    (UC (y2.2,r4.1)).bind fun r6=>
    (KR (r5,r6)).bind fun r7=>
    (bif ((!(decide (0<=r7)))&&(decide (0<(out_4.length:Int))))then at? out_4 (i64.wrap ((out_4.length:Int)-1))else some ((0,([],(false,[]))),(0,([],(false,[]))))).bind fun y8=>
    (bif ((!(decide (0<=r7)))&&(decide (0<(out_4.length:Int))))then KR (r5,y8.2)else some 0).bind fun r9=>
    bif ((decide (0<=r7))||((decide (0<(out_4.length:Int)))&&(decide (r9<=0))))then
     some (.inr ([],10))
    else
     bif (E6 r_1.1 5)then
      (ZN (y2,out_4)).bind fun r11=>
      bif (!(E6 r11 0))then
       some (.inr ([],r11))
      else
       (app? 192 out_4 [(r5,r6)]).bind fun l13=>
       next (r_1,l13,t25,t26,(i64.wrap (t27+1)))
     else
      (app? 192 out_4 [(r5,r6)]).bind fun l15=>
      next (r_1,l15,t25,t26,(i64.wrap (t27+1)))
 else
  some (.inl out_4)
def j_:=EK wY fuel
def QS:Int×FG->Option ((List FJ)×Int):=fun r_0=>
 bif ((decide (r_0.1<1))||(decide (5<r_0.1)))then
  some ([],7)
 else
  bif (decide (200<(r_0.2.length:Int)))then
   some ([],3)
  else
   (j_ (r_0,[],r_0.2,(r_0.2.length:Int),0)).bind fun r16=>
   match r16 with
   | .inl y17=>
    some (y17,0)
   | .inr y17'=>
    some (y17'.1,y17'.2)
def QT:Int×FG->Option (Int):=fun r_0=>
 (QS r_0).bind fun r1=>
 some r1.2
def k9:Rd (GF×GF×Int×Int) H_:=fun next (l_0,t11,t12,t13)=>
 bif (decide (t13<t12))then
  (at? t11 t13).bind fun y1=>
  (NL y1.1).bind fun r2=>
  bif (!r2.2)then
   some (.inr 8)
  else
   (QT y1.2.1).bind fun r3=>
   bif (!(E6 r3 0))then
    some (.inr r3)
   else
    bif (!(E6 y1.2.1.1 r2.1))then
     some (.inr 7)
    else
     bif ((decide (y1.2.2<1))||(decide (4<y1.2.2)))then
      some (.inr 9)
     else
      (bif (decide (0<t13))then at? l_0 (i64.wrap (t13-1))else some ([],((0,[]),0))).bind fun y5=>
      bif ((decide (0<t13))&&(Op.bytesLess y1.1 y5.1||EW y1.1 y5.1))then
       some (.inr 10)
      else
       next (l_0,t11,t12,(i64.wrap (t13+1)))
 else
  some (.inl ())
def wZ:=EK k9 fuel
def UD:List MG->Option (Int):=fun l_0=>
 bif (decide (12<(l_0.length:Int)))then
  some 3
 else
  (wZ (l_0,l_0,(l_0.length:Int),0)).bind fun r7=>
  match r7 with
  | .inl y8=>
   some 0
  | .inr y8'=>
   some y8'
def kA:MG×(Option (E0×E0×GF×Bool))->Option (Bool):=fun(n_0,t1)=>
 (t1).bind fun p1=>
 some (EW n_0.1 p1.1)
def kB:Rd (GF×(MG->Option Bool)×Int×Int) H_:=fun next (s_0,f_1,t7,t8)=>
 bif (decide (t8<t7))then
  (at? s_0 t8).bind fun y1=>
  (f_1 y1).bind fun r2=>
  bif r2 then
   some (.inr t8)
  else
   next (s_0,f_1,t7,(i64.wrap (t8+1)))
 else
  some (.inl ())
def kC:=EK kB fuel
def ZO:GF×(MG->Option Bool)->Option (Int):=fun(s_0,f_1)=>
 (kC (s_0,f_1,(s_0.length:Int),0)).bind fun r3=>
 match r3 with
 | .inl y4=>
  some (-1:Int)
 | .inr y4'=>
  some y4'
def ZP:GF×(MG->Option Bool)->Option (Bool):=fun(s_0,f_1)=>
 (ZO (s_0,f_1)).bind fun r1=>
 some (decide (0<=r1))
def ZQ:Int×E0×E0->Option (GY×GY×Int):=fun(kind_0,a_1,b_2)=>
 (IJ (kind_0,a_1)).bind fun r1=>
 bif (!(E6 r1.2 0))then
  some ((Sum.inr (Sum.inr (Sum.inr (Sum.inr (Sum.inr ()))))),(Sum.inr (Sum.inr (Sum.inr (Sum.inr (Sum.inr ()))))),r1.2)
 else
  (IJ (kind_0,b_2)).bind fun r2=>
  some (r1.1,r2.1,r2.2)
def ZR:Int×E0×E0->Option (Int×Int):=fun(kind_0,a_1,b_2)=>
 (ZQ (kind_0,a_1,b_2)).bind fun r1=>
 bif (!(E6 r1.2.2 0))then
  some (0,r1.2.2)
 else
  ((fun z=>Sum.casesOn (motive:=fun _=>Option E0) z (fun x=>(ML x).bind fun r=>some r) (fun z=>Sum.casesOn (motive:=fun _=>Option E0) z (fun x=>(MM x).bind fun r=>some r) (fun z=>Sum.casesOn (motive:=fun _=>Option E0) z (fun x=>(MN x).bind fun r=>some r) (fun z=>Sum.casesOn (motive:=fun _=>Option E0) z (fun x=>(MP x).bind fun r=>some r) (fun z=>Sum.casesOn (motive:=fun _=>Option E0) z (fun x=>(MQ x).bind fun r=>some r) (fun _=>none)))))) r1.1).bind fun r2=>
  ((fun z=>Sum.casesOn (motive:=fun _=>Option E0) z (fun x=>(ML x).bind fun r=>some r) (fun z=>Sum.casesOn (motive:=fun _=>Option E0) z (fun x=>(MM x).bind fun r=>some r) (fun z=>Sum.casesOn (motive:=fun _=>Option E0) z (fun x=>(MN x).bind fun r=>some r) (fun z=>Sum.casesOn (motive:=fun _=>Option E0) z (fun x=>(MP x).bind fun r=>some r) (fun z=>Sum.casesOn (motive:=fun _=>Option E0) z (fun x=>(MQ x).bind fun r=>some r) (fun _=>none)))))) r1.2.1).bind fun r3=>
  (LY (r2,r3)).bind fun r4=>
  some (r4,0)
def ZS:(E0×E0×GF×Bool)×IH->Option (Int):=fun(o_0,before_1)=>
 (OL (o_0.1,o_0.2.1)).bind fun r1=>
 bif (!(E6 r1.2 0))then
  some r1.2
 else
  (UD o_0.2.2.1).bind fun r2=>
  bif (!(E6 r2 0))then
   some r2
  else
   (ZP (o_0.2.2.1,(fun x=>(kA (x,(some o_0))).bind fun r=>some r))).bind fun r3=>
   bif r3 then
    some 2
   else
    bif (E6 (before_1.length:Int) 0)then
     some 0
    else
     (at? before_1 (i64.wrap ((before_1.length:Int)-1))).bind fun y4=>
     bif (Op.bytesLess o_0.1 y4.1)then
      some 10
     else
      bif (EW o_0.1 y4.1)then
       (ZR (r1.1,y4.2.1,o_0.2.1)).bind fun r5=>
       bif (decide (0<=r5.1))then
        some 10
       else
        some 0
      else
       some 0
def kD:Rd (IH×Int×Int×IH×Int×Int) H_:=fun next (r_1,packages_3,offers_4,t9,t10,t11)=>
 bif (decide (t11<t10))then
  (at? t9 t11).bind fun y1=>
  (cut? r_1 0 t11).bind fun s2=>
  (ZS (y1,s2)).bind fun r3=>
  bif (!(E6 r3 0))then
   some (.inr r3)
  else
   (bif (!(E6 t11 0))then at? r_1 (i64.wrap (t11-1))else some ([],([],([],false)))).bind fun y4=>
   bif ((E6 t11 0)||(!(EW y4.1 y1.1)))then
    bif ((decide ((8:Int)<1))||(decide (12<(i64.wrap (packages_3+1)))))then
     some (.inr 3)
    else
     next (r_1,(i64.wrap (packages_3+1)),1,t9,t10,(i64.wrap (t11+1)))
   else
    bif ((decide (8<(i64.wrap (offers_4+1))))||(decide (12<packages_3)))then
     some (.inr 3)
    else
     next (r_1,packages_3,(i64.wrap (offers_4+1)),t9,t10,(i64.wrap (t11+1)))
 else
  some (.inl ())
def w_:=EK kD fuel
def QU:List (E0×E0×GF×Bool)->Option (Int):=fun r_0=>
 (w_ (r_0,0,0,r_0,(r_0.length:Int),0)).bind fun r7=>
 match r7 with
 | .inl y8=>
  some 0
 | .inr y8'=>
  some y8'
def kE:Rd (E5×E5×Int×Int) H_:=fun next (l_0,t10,t11,t12)=>
 bif (decide (t12<t11))then
  (at? t10 t12).bind fun y1=>
  (OL (y1.1,y1.2)).bind fun r2=>
  bif (!(E6 r2.2 0))then
   some (.inr r2.2)
  else
   (bif (decide (0<t12))then at? l_0 (i64.wrap (t12-1))else some ([],[])).bind fun y3=>
   bif ((decide (0<t12))&&(Op.bytesLess y1.1 y3.1||EW y1.1 y3.1))then
    some (.inr 10)
   else
    next (l_0,t10,t11,(i64.wrap (t12+1)))
 else
  some (.inl ())
def x3:=EK kE fuel
def ZT:List (E0×E0)->Option (Int):=fun l_0=>
 bif (decide (12<(l_0.length:Int)))then
  some 3
 else
  (x3 (l_0,l_0,(l_0.length:Int),0)).bind fun r5=>
  match r5 with
  | .inl y6=>
   some 0
  | .inr y6'=>
   some y6'
def kF:(E0×E0)×(Option E0)->Option (Bool):=fun(p_0,t1)=>
 (t1).bind fun p1=>
 some (EW p_0.1 p1)
def kG:Rd (E5×((E0×E0)->Option Bool)×Int×Int) H_:=fun next (s_0,f_1,t7,t8)=>
 bif (decide (t8<t7))then
  (at? s_0 t8).bind fun y1=>
  (f_1 y1).bind fun r2=>
  bif r2 then
   some (.inr t8)
  else
   next (s_0,f_1,t7,(i64.wrap (t8+1)))
 else
  some (.inl ())
def kH:=EK kG fuel
def ZU:E5×((E0×E0)->Option Bool)->Option (Int):=fun(s_0,f_1)=>
 (kH (s_0,f_1,(s_0.length:Int),0)).bind fun r3=>
 match r3 with
 | .inl y4=>
  some (-1:Int)
 | .inr y4'=>
  some y4'
def QV:E5×E0->Option (E0×Bool):=fun(l_0,name_1)=>
 (ZU (l_0,(fun x=>(kF (x,(some name_1))).bind fun r=>some r))).bind fun r1=>
 bif (decide (r1<0))then
  some ([],false)
 else
  (at? l_0 r1).bind fun y2=>
  some (y2.2,true)
def x4:Rd F5 MI:=fun next (s_0,t6,t7)=>
 bif (decide (t7<t6))then
  (at? s_0 t7).bind fun b1=>
  bif (!(((((((decide (97<=(b1.toNat:Int)))&&(decide ((b1.toNat:Int)<=122)))||((decide (65<=(b1.toNat:Int)))&&(decide ((b1.toNat:Int)<=90))))||((decide (48<=(b1.toNat:Int)))&&(decide ((b1.toNat:Int)<=57))))||(E6 (b1.toNat:Int) 46))||(E6 (b1.toNat:Int) 45))||(E6 (b1.toNat:Int) 95)))then
   some (.inr false)
  else
   next (s_0,t6,(i64.wrap (t7+1)))
 else
  some (.inl ())
def kI:=EK x4 fuel
def QW:E0->Option (Bool):=fun s_0=>
 (kI (s_0,(s_0.length:Int),0)).bind fun r6=>
 match r6 with
 | .inl y7=>
  some ((!(EW s_0 []))&&(decide ((s_0.length:Int)<=60)))
 | .inr y7'=>
  some y7'
def x5:Rd (MH×(List E0)×Int×Int) H_:=fun next (a_1,t10,t11,t12)=>
 bif (decide (t12<t11))then
  (at? t10 t12).bind fun y1=>
  (QW y1).bind fun r2=>
  bif (!r2)then
   some (.inr 8)
  else
   bif (EW y1 a_1.1)then
    some (.inr 5)
   else
    (bif (decide (0<t12))then at? a_1.2.1 (i64.wrap (t12-1))else some []).bind fun y3=>
    bif ((decide (0<t12))&&(Op.bytesLess y1 y3||EW y1 y3))then
     some (.inr 10)
    else
     next (a_1,t10,t11,(i64.wrap (t12+1)))
 else
  some (.inl ())
def kJ:=EK x5 fuel
def ZV:E0×(List E0)×E0×Int×Bool×E0×(List GX)->Option (Int):=fun a_0=>
 bif (decide (20<(a_0.2.1.length:Int)))then
  some 3
 else
  (kJ (a_0,a_0.2.1,(a_0.2.1.length:Int),0)).bind fun r5=>
  match r5 with
  | .inl y6=>
   some 0
  | .inr y6'=>
   some y6'
def ZW:Unit->Option (List (List (Int×Int))):=fun _=>
 let v1:=(H5 E6 76 22 (H5 E6 72 56 []))
 some [(H5 E6 80 20 (H5 E6 76 55 (H5 E6 65 62 (H5 E6 78 85 [])))),(H5 E6 72 44 (H5 E6 76 77 [])),(H5 E6 72 27 (H5 E6 76 62 (H5 E6 78 85 []))),(H5 E6 78 0 v1),(H5 E6 78 0 v1),(H5 E6 78 0 v1)]
def x6:Rd (E0×(List Int)×(List (List (Int×Int)))×Int) (Sum (List Int) (Int×Int)):=fun next (vector_0,w_5,t16,t17)=>
 bif (decide (t17<6))then
  (at? t16 t17).bind fun y2=>
  (at? vector_0 t17).bind fun b3=>
  bif (!(JX E6 (b3.toNat:Int) y2).isSome)then
   some (.inr (0,7))
  else
   (in? 6 t17).bind fun _=>
   next (vector_0,(w_5.set t17.toNat ((JX E6 (b3.toNat:Int) y2).getD 0)),t16,(i64.wrap (t17+1)))
 else
  some (.inl w_5)
def kK:=EK x6 fuel
def ZX:E0->Option (Int×Int):=fun vector_0=>
 (ZW ()).bind fun r1=>
 bif (!(E6 (vector_0.length:Int) 6))then
  some (0,2)
 else
  (kK (vector_0,(List.replicate 6 0),r1,0)).bind fun r4=>
  match r4 with
  | .inl y5=>
   let v7:=(i64.wrap ((i64.wrap ((i64.wrap (100-(y5.getD 3 0)))*(i64.wrap (100-(y5.getD 4 0)))))*(i64.wrap (100-(y5.getD 5 0)))))
   bif (E6 (i64.wrap (1000000-v7)) 0)then
    some (0,0)
   else
    (div? i64 (i64.wrap ((i64.wrap ((i64.wrap (10*(i64.wrap ((i64.wrap (642*(i64.wrap (1000000-v7))))+(i64.wrap ((i64.wrap ((i64.wrap (822*(y5.getD 0 0)))*(y5.getD 1 0)))*(y5.getD 2 0)))))))+100000000))-1)) 100000000).bind fun q12=>
    some ((WB 100 q12),0)
  | .inr y5'=>
   some (y5'.1,y5'.2)
def ZY:E0->Option (Bool):=fun s_0=>
 (TV s_0).bind fun r1=>
 bif (!(E6 r1.2.2 0))then
  some false
 else
  (TW r1.1).bind fun r2=>
  some ((E6 r2.2 0)&&(EW r2.1 s_0))
def ZZ:Sum LE (Sum KP (Sum G7 (Sum (List GB) (Sum Int Unit))))->Option (E0×Int):=fun v_0=>
 ((fun z=>Sum.casesOn (motive:=fun _=>Option E0) z (fun x=>(T_ x).bind fun r=>some r) (fun z=>Sum.casesOn (motive:=fun _=>Option E0) z (fun x=>(U2 x).bind fun r=>some r) (fun z=>Sum.casesOn (motive:=fun _=>Option E0) z (fun x=>(U4 x).bind fun r=>some r) (fun z=>Sum.casesOn (motive:=fun _=>Option E0) z (fun x=>(U5 x).bind fun r=>some r) (fun z=>Sum.casesOn (motive:=fun _=>Option E0) z (fun x=>(U6 x).bind fun r=>some r) (fun _=>none)))))) v_0).bind fun r1=>
 bif (decide (100<(r1.length:Int)))then
  some ([],3)
 else
  some (r1,0)
def ON:Int×E0->Option (E0×Int):=fun(kind_0,s_1)=>
 (IJ (kind_0,s_1)).bind fun r1=>
 bif (!(E6 r1.2 0))then
  some ([],r1.2)
 else
  (ZZ r1.1).bind fun r2=>
  some (r2.1,r2.2)
def x7:Rd (GX×HZ×Int×Int) H_:=fun next (a_1,t12,t13,t14)=>
 bif (decide (t14<t13))then
  (at? t12 t14).bind fun y1=>
  bif ((decide (y1.1<1))||(decide (3<y1.1)))then
   some (.inr 7)
  else
   bif (EW y1.2 [])then
    bif (!(E6 y1.1 1))then
     some (.inr 2)
    else
     next (a_1,t12,t13,(i64.wrap (t14+1)))
   else
    (ON (a_1.2.1,y1.2)).bind fun r2=>
    bif (!(E6 r2.2 0))then
     some (.inr r2.2)
    else
     next (a_1,t12,t13,(i64.wrap (t14+1)))
 else
  some (.inl ())
def kL:=EK x7 fuel
def Z_:E0×Int×HZ×(List E0)×(List E0)->Option (Int):=fun a_0=>
 bif (decide (100<(a_0.2.2.1.length:Int)))then
  some 3
 else
  (kL (a_0,a_0.2.2.1,(a_0.2.2.1.length:Int),0)).bind fun r3=>
  match r3 with
  | .inl y4=>
   some 0
  | .inr y4'=>
   some y4'
def x8:Rd (E0×Bool×Int×Int) (Bool):=fun next (s_4,bad_5,t25,t26)=>
 bif (decide (t26<t25))then
  (bif (!bad_5)then at? s_4 t26 else some 0).bind fun b3=>
  (bif (!(bad_5||(decide ((b3.toNat:Int)<33))))then at? s_4 t26 else some 0).bind fun b4=>
  next (s_4,((bad_5||(decide ((b3.toNat:Int)<33)))||(decide (126<(b4.toNat:Int)))),t25,(i64.wrap (t26+1)))
 else
  some bad_5
def kM:=EK x8 fuel
def x9:Rd ((List E0)×(List E0)×Int×Int) H_:=fun next (l_0,t10,t11,t12)=>
 bif (decide (t12<t11))then
  (at? t10 t12).bind fun y1=>
  (kM (y1,((EW y1 [])||(decide (200<(y1.length:Int)))),(y1.length:Int),0)).bind fun r6=>
  bif r6 then
   some (.inr 8)
  else
   (bif (decide (0<t12))then at? l_0 (i64.wrap (t12-1))else some []).bind fun y7=>
   bif ((decide (0<t12))&&(Op.bytesLess y1 y7||EW y1 y7))then
    some (.inr 10)
   else
    next (l_0,t10,t11,(i64.wrap (t12+1)))
 else
  some (.inl ())
def kN:=EK x9 fuel
def aA:List E0->Option (Int):=fun l_0=>
 bif (decide (200<(l_0.length:Int)))then
  some 3
 else
  (kN (l_0,l_0,(l_0.length:Int),0)).bind fun r9=>
  match r9 with
  | .inl y10=>
   some 0
  | .inr y10'=>
   some y10'
def xA:Rd (GX×(List E0)×Int×Int) (Sum GX (Int)):=fun next (a_1,t32,t33,t34)=>
 bif (decide (t34<t33))then
  (at? t32 t34).bind fun y4=>
  (ON (a_1.2.1,y4)).bind fun r5=>
  bif (!(E6 r5.2 0))then
   some (.inr r5.2)
  else
   next (a_1,t32,t33,(i64.wrap (t34+1)))
 else
  some (.inl a_1)
def kO:=EK xA fuel
def aB:E0×Int×HZ×(List E0)×(List E0)->Option (Int):=fun a_0=>
 (ZY a_0.1).bind fun r1=>
 bif (!r1)then
  some 8
 else
  bif ((decide (a_0.2.1<1))||(decide (5<a_0.2.1)))then
   some 7
  else
   (Z_ a_0).bind fun r3=>
   bif (!(E6 r3 0))then
    some r3
   else
    bif (decide (500<(a_0.2.2.2.1.length:Int)))then
     some 3
    else
     (kO (a_0,a_0.2.2.2.1,(a_0.2.2.2.1.length:Int),0)).bind fun r6=>
     match r6 with
     | .inl y7=>
      (aA y7.2.2.2.2).bind fun r8=>
      some r8
     | .inr y7'=>
      some y7'
def aC:Unit->Option (List Int):=fun _=>
 some [0,1,0,2]
def QX:Int×E0->Option (E0×Int):=fun(kind_0,s_1)=>
 (IJ (kind_0,s_1)).bind fun r1=>
 bif (!(E6 r1.2 0))then
  some ([],r1.2)
 else
  ((fun z=>Sum.casesOn (motive:=fun _=>Option E0) z (fun x=>(ML x).bind fun r=>some r) (fun z=>Sum.casesOn (motive:=fun _=>Option E0) z (fun x=>(MM x).bind fun r=>some r) (fun z=>Sum.casesOn (motive:=fun _=>Option E0) z (fun x=>(MN x).bind fun r=>some r) (fun z=>Sum.casesOn (motive:=fun _=>Option E0) z (fun x=>(MP x).bind fun r=>some r) (fun z=>Sum.casesOn (motive:=fun _=>Option E0) z (fun x=>(MQ x).bind fun r=>some r) (fun _=>none)))))) r1.1).bind fun r2=>
  some (r2,0)
def xB:Rd ((List E9)×Int×FN×Int) (List E9):=fun next (data_0,a_1,cmp_3,j_9)=>
 (bif (decide (a_1<j_9))then in? data_0.length j_9 else some ()).bind fun _=>
 (bif (decide (a_1<j_9))then in? data_0.length (i64.wrap (j_9-1))else some ()).bind fun _=>
 (bif (decide (a_1<j_9))then cmp_3 ((data_0.getD j_9.toNat (0,([],([],0)))),(data_0.getD ((i64.wrap (j_9-1)).toNat) (0,([],([],0)))))else some 0).bind fun r3=>
 bif ((decide (a_1<j_9))&&(decide (r3<0)))then
  (in? data_0.length (i64.wrap (j_9-1))).bind fun _=>
  let v4:=(data_0.getD ((i64.wrap (j_9-1)).toNat) (0,([],([],0))))
  (in? data_0.length j_9).bind fun _=>
  (in? data_0.length j_9).bind fun _=>
  (in? (data_0.set j_9.toNat v4).length (i64.wrap (j_9-1))).bind fun _=>
  next (((data_0.set j_9.toNat v4).set ((i64.wrap (j_9-1)).toNat) (data_0.getD j_9.toNat (0,([],([],0))))),a_1,cmp_3,(i64.wrap (j_9-1)))
 else
  some data_0
def kP:=EK xB fuel
def xC:Rd ((List E9)×Int×Int×FN×Int) (List E9):=fun next (data_0,a_1,b_2,cmp_3,i_8)=>
 bif (decide (i_8<b_2))then
  (kP (data_0,a_1,cmp_3,i_8)).bind fun r7=>
  next (r7,a_1,b_2,cmp_3,(i64.wrap (i_8+1)))
 else
  some data_0
def kQ:=EK xC fuel
def UE:(List E9)×Int×Int×FN->Option (List E9):=fun(data_0,a_1,b_2,cmp_3)=>
 (kQ (data_0,a_1,b_2,cmp_3,(i64.wrap (a_1+1)))).bind fun r8=>
 some r8
def xD:Rd ((List E9)×Int×Int×Int×Int) (List E9):=fun next (data_0,a_1,b_2,n_3,i_10)=>
 bif (decide (i_10<n_3))then
  (in? data_0.length (i64.wrap (b_2+i_10))).bind fun _=>
  let v1:=(data_0.getD ((i64.wrap (b_2+i_10)).toNat) (0,([],([],0))))
  (in? data_0.length (i64.wrap (a_1+i_10))).bind fun _=>
  (in? data_0.length (i64.wrap (a_1+i_10))).bind fun _=>
  (in? (data_0.set ((i64.wrap (a_1+i_10)).toNat) v1).length (i64.wrap (b_2+i_10))).bind fun _=>
  next (((data_0.set ((i64.wrap (a_1+i_10)).toNat) v1).set ((i64.wrap (b_2+i_10)).toNat) (data_0.getD ((i64.wrap (a_1+i_10)).toNat) (0,([],([],0))))),a_1,b_2,n_3,(i64.wrap (i_10+1)))
 else
  some data_0
def kR:=EK xD fuel
def QY:(List E9)×Int×Int×Int×FN->Option (List E9):=fun(data_0,a_1,b_2,n_3,cmp_4)=>
 (kR (data_0,a_1,b_2,n_3,0)).bind fun r4=>
 some r4
def xE:Rd ((List E9)×Int×FN×Int×Int) KQ:=fun next (data_0,m_2,cmp_4,i_10,j_11)=>
 bif (!(E6 i_10 j_11))then
  bif (decide (j_11<i_10))then
   (QY (data_0,(i64.wrap (m_2-i_10)),m_2,j_11,cmp_4)).bind fun r1=>
   next (r1,m_2,cmp_4,(i64.wrap (i_10-j_11)),j_11)
  else
   (QY (data_0,(i64.wrap (m_2-i_10)),(i64.wrap ((i64.wrap (m_2+j_11))-i_10)),i_10,cmp_4)).bind fun r2=>
   next (r2,m_2,cmp_4,i_10,(i64.wrap (j_11-i_10)))
 else
  some (data_0,i_10)
def kS:=EK xE fuel
def aD:(List E9)×Int×Int×Int×FN->Option (List E9):=fun(data_0,a_1,m_2,b_3,cmp_4)=>
 (kS (data_0,m_2,cmp_4,(i64.wrap (m_2-a_1)),(i64.wrap (b_3-m_2)))).bind fun r3=>
 (QY (r3.1,(i64.wrap (m_2-r3.2)),m_2,r3.2,cmp_4)).bind fun r4=>
 some r4
def xF(slf:(List E9)×Int×Int×Int×FN->Option (List E9))(next:(List E9)×Int×FN×Int×Int->Option KQ):(List E9)×Int×FN×Int×Int->Option KQ:=fun(data_0,a_1,cmp_4,i_10,j_11)=>
 bif (decide (i_10<j_11))then
  (shr? u64 (u64.wrap (i64.wrap (i_10+j_11))) 1).bind fun n1=>
  (in? data_0.length (i64.wrap n1)).bind fun _=>
  (in? data_0.length a_1).bind fun _=>
  (cmp_4 ((data_0.getD ((i64.wrap n1).toNat) (0,([],([],0)))),(data_0.getD a_1.toNat (0,([],([],0)))))).bind fun r4=>
  bif (decide (r4<0))then
   next (data_0,a_1,cmp_4,(i64.wrap ((i64.wrap n1)+1)),j_11)
  else
   next (data_0,a_1,cmp_4,i_10,(i64.wrap n1))
 else
  some (data_0,i_10)
def kT(slf:(List E9)×Int×Int×Int×FN->Option (List E9)):(List E9)×Int×FN×Int×Int->Option KQ:=EK (xF slf) fuel
def xG(slf:(List E9)×Int×Int×Int×FN->Option (List E9))(next:(List E9)×Int×Int->Option (List E9)):(List E9)×Int×Int->Option (List E9):=fun(data_0,i_10,k_13)=>
 bif (decide (k_13<(i64.wrap (i_10-1))))then
  (in? data_0.length (i64.wrap (k_13+1))).bind fun _=>
  let v6:=(data_0.getD ((i64.wrap (k_13+1)).toNat) (0,([],([],0))))
  (in? data_0.length k_13).bind fun _=>
  (in? data_0.length k_13).bind fun _=>
  (in? (data_0.set k_13.toNat v6).length (i64.wrap (k_13+1))).bind fun _=>
  next (((data_0.set k_13.toNat v6).set ((i64.wrap (k_13+1)).toNat) (data_0.getD k_13.toNat (0,([],([],0))))),i_10,(i64.wrap (k_13+1)))
 else
  some data_0
def kU(slf:(List E9)×Int×Int×Int×FN->Option (List E9)):(List E9)×Int×Int->Option (List E9):=EK (xG slf) fuel
def xH(slf:(List E9)×Int×Int×Int×FN->Option (List E9))(next:(List E9)×Int×FN×Int×Int->Option KQ):(List E9)×Int×FN×Int×Int->Option KQ:=fun(data_0,m_2,cmp_4,i_14,j_15)=>
 bif (decide (i_14<j_15))then
  (shr? u64 (u64.wrap (i64.wrap (i_14+j_15))) 1).bind fun n10=>
  (in? data_0.length m_2).bind fun _=>
  (in? data_0.length (i64.wrap n10)).bind fun _=>
  (cmp_4 ((data_0.getD m_2.toNat (0,([],([],0)))),(data_0.getD ((i64.wrap n10).toNat) (0,([],([],0)))))).bind fun r13=>
  bif (!(decide (r13<0)))then
   next (data_0,m_2,cmp_4,(i64.wrap ((i64.wrap n10)+1)),j_15)
  else
   next (data_0,m_2,cmp_4,i_14,(i64.wrap n10))
 else
  some (data_0,i_14)
def kV(slf:(List E9)×Int×Int×Int×FN->Option (List E9)):(List E9)×Int×FN×Int×Int->Option KQ:=EK (xH slf) fuel
def xI(slf:(List E9)×Int×Int×Int×FN->Option (List E9))(next:(List E9)×Int×Int->Option (List E9)):(List E9)×Int×Int->Option (List E9):=fun(data_0,i_14,k_17)=>
 bif (decide (i_14<k_17))then
  (in? data_0.length (i64.wrap (k_17-1))).bind fun _=>
  let v15:=(data_0.getD ((i64.wrap (k_17-1)).toNat) (0,([],([],0))))
  (in? data_0.length k_17).bind fun _=>
  (in? data_0.length k_17).bind fun _=>
  (in? (data_0.set k_17.toNat v15).length (i64.wrap (k_17-1))).bind fun _=>
  next (((data_0.set k_17.toNat v15).set ((i64.wrap (k_17-1)).toNat) (data_0.getD k_17.toNat (0,([],([],0))))),i_14,(i64.wrap (k_17-1)))
 else
  some data_0
def kW(slf:(List E9)×Int×Int×Int×FN->Option (List E9)):(List E9)×Int×Int->Option (List E9):=EK (xI slf) fuel
def aF(slf:(List E9)×Int×Int×Int×FN->Option (List E9)):Int×Int×Int×Int×Int×Bool->Option (Int×Int):=fun(a_1,m_2,b_3,mid_18,n_19,t140)=>
 bif t140 then
  some ((i64.wrap (n_19-b_3)),mid_18)
 else
  some (a_1,m_2)
def xJ(slf:(List E9)×Int×Int×Int×FN->Option (List E9))(next:(List E9)×FN×Int×Int×Int->Option KQ):(List E9)×FN×Int×Int×Int->Option KQ:=fun(data_0,cmp_4,start_20,r_21,p_22)=>
 bif (decide (start_20<r_21))then
  (shr? u64 (u64.wrap (i64.wrap (start_20+r_21))) 1).bind fun n22=>
  (in? data_0.length (i64.wrap (p_22-(i64.wrap n22)))).bind fun _=>
  (in? data_0.length (i64.wrap n22)).bind fun _=>
  (cmp_4 ((data_0.getD ((i64.wrap (p_22-(i64.wrap n22))).toNat) (0,([],([],0)))),(data_0.getD ((i64.wrap n22).toNat) (0,([],([],0)))))).bind fun r25=>
  bif (!(decide (r25<0)))then
   next (data_0,cmp_4,(i64.wrap ((i64.wrap n22)+1)),r_21,p_22)
  else
   next (data_0,cmp_4,start_20,(i64.wrap n22),p_22)
 else
  some (data_0,start_20)
def kX(slf:(List E9)×Int×Int×Int×FN->Option (List E9)):(List E9)×FN×Int×Int×Int->Option KQ:=EK (xJ slf) fuel
def aG(slf:(List E9)×Int×Int×Int×FN->Option (List E9)):(List E9)×Int×FN×Int×Int×Bool->Option (List E9):=fun(data_0,m_2,cmp_4,start_20,end_24,t185)=>
 bif t185 then
  (aD (data_0,start_20,m_2,end_24,cmp_4)).bind fun r28=>
  some r28
 else
  some data_0
def aH(slf:(List E9)×Int×Int×Int×FN->Option (List E9)):(List E9)×Int×FN×Int×Int×Bool->Option (List E9):=fun(data_0,a_1,cmp_4,mid_18,start_20,t199)=>
 bif t199 then
  (slf (data_0,a_1,start_20,mid_18,cmp_4)).bind fun r31=>
  some r31
 else
  some data_0
def kY(slf:(List E9)×Int×Int×Int×FN->Option (List E9)):(List E9)×Int×Int×Int×FN->Option (List E9):=fun(data_0,a_1,m_2,b_3,cmp_4)=>
 bif (E6 (i64.wrap (m_2-a_1)) 1)then
  ((kT slf) (data_0,a_1,cmp_4,m_2,b_3)).bind fun r5=>
  ((kU slf) (r5.1,r5.2,a_1)).bind fun r9=>
  some r9
 else
  bif (E6 (i64.wrap (b_3-m_2)) 1)then
   ((kV slf) (data_0,m_2,cmp_4,a_1,m_2)).bind fun r14=>
   ((kW slf) (r14.1,r14.2,m_2)).bind fun r18=>
   some r18
  else
   (shr? u64 (u64.wrap (i64.wrap (a_1+b_3))) 1).bind fun n19=>
   ((aF slf) (a_1,m_2,b_3,(i64.wrap n19),(i64.wrap ((i64.wrap n19)+m_2)),(decide ((i64.wrap n19)<m_2)))).bind fun r20=>
   ((kX slf) (data_0,cmp_4,r20.1,r20.2,(i64.wrap ((i64.wrap ((i64.wrap n19)+m_2))-1)))).bind fun r26=>
   let v27:=(i64.wrap ((i64.wrap ((i64.wrap n19)+m_2))-r26.2))
   ((aG slf) (r26.1,m_2,cmp_4,r26.2,v27,((decide (r26.2<m_2))&&(decide (m_2<v27))))).bind fun r29=>
   ((aH slf) (r29,a_1,cmp_4,(i64.wrap n19),r26.2,((decide (a_1<r26.2))&&(decide (r26.2<(i64.wrap n19)))))).bind fun r32=>
   bif ((decide ((i64.wrap n19)<v27))&&(decide (v27<b_3)))then
    (slf (r32,(i64.wrap n19),v27,b_3,cmp_4)).bind fun r34=>
    some r34
   else
    some r32
def K8:Nat->(List E9)×Int×Int×Int×FN->Option (List E9)
 |0=>fun _=>none
 |n+1=>kY (K8 n)
def UF:(List E9)×Int×Int×Int×FN->Option (List E9):=K8 100
def xK:Rd ((List E9)×Int×FN×Int×Int×Int) KQ:=fun next (data_0,n_1,cmp_2,blockSize_6,a_7,b_8)=>
 bif (decide (b_8<=n_1))then
  (UE (data_0,a_7,b_8,cmp_2)).bind fun r1=>
  next (r1,n_1,cmp_2,blockSize_6,b_8,(i64.wrap (b_8+blockSize_6)))
 else
  some (data_0,a_7)
def kZ:=EK xK fuel
def xL:Rd ((List E9)×Int×FN×Int×Int×Int) KQ:=fun next (data_0,n_1,cmp_2,blockSize_6,a_7,b_8)=>
 bif (decide (b_8<=n_1))then
  (UF (data_0,a_7,(i64.wrap (a_7+blockSize_6)),b_8,cmp_2)).bind fun r4=>
  next (r4,n_1,cmp_2,blockSize_6,b_8,(i64.wrap (b_8+(i64.wrap (2*blockSize_6)))))
 else
  some (data_0,a_7)
def k_:=EK xL fuel
def xM:Rd ((List E9)×Int×FN×Int) (List E9):=fun next (data_0,n_1,cmp_2,blockSize_6)=>
 bif (decide (blockSize_6<n_1))then
  (k_ (data_0,n_1,cmp_2,blockSize_6,0,(i64.wrap (2*blockSize_6)))).bind fun r6=>
  bif (decide ((i64.wrap (r6.2+blockSize_6))<n_1))then
   (UF (r6.1,r6.2,(i64.wrap (r6.2+blockSize_6)),n_1,cmp_2)).bind fun r7=>
   next (r7,n_1,cmp_2,(i64.wrap (blockSize_6*2)))
  else
   next (r6.1,n_1,cmp_2,(i64.wrap (blockSize_6*2)))
 else
  some data_0
def lA:=EK xM fuel
def aI:(List E9)×Int×FN->Option (List E9):=fun(data_0,n_1,cmp_2)=>
 (kZ (data_0,n_1,cmp_2,20,0,20)).bind fun r2=>
 (UE (r2.1,r2.2,n_1,cmp_2)).bind fun r3=>
 (lA (r3,n_1,cmp_2,20)).bind fun r8=>
 some r8
def aJ:(List E9)×FN->Option (List E9):=fun(x_0,cmp_1)=>
 (aI (x_0,(x_0.length:Int),cmp_1)).bind fun r1=>
 some r1
def xN:Rd (Int×(List Int)×Int×Int) H_:=fun next (zero_3,t6,t7,t8)=>
 bif (decide (t8<t7))then
  (at? t6 t8).bind fun y1=>
  bif (!(E6 y1 zero_3))then
   some (.inr y1)
  else
   next (zero_3,t6,t7,(i64.wrap (t8+1)))
 else
  some (.inl ())
def lB:=EK xN fuel
def aK:List Int->Option (Int):=fun vals_0=>
 (lB (0,vals_0,(vals_0.length:Int),0)).bind fun r2=>
 match r2 with
 | .inl y3=>
  some 0
 | .inr y3'=>
  some y3'
def aL:E9×E9->Option (Int):=fun(x_0,y_1)=>
 (LY (x_0.2.1,y_1.2.1)).bind fun r1=>
 (QR (x_0.1,y_1.1)).bind fun r2=>
 (aK [r1,r2]).bind fun r3=>
 some r3
def xO:Rd (GX×(List E9)×HZ×Int×Int) (List E9):=fun next (a_1,out_3,t8,t9,t10)=>
 bif (decide (t10<t9))then
  (at? t8 t10).bind fun y1=>
  (aC ()).bind fun r2=>
  (at? r2 y1.1).bind fun y3=>
  bif (!(EW y1.2 []))then
   (QX (a_1.2.1,y1.2)).bind fun r4=>
   (ON (a_1.2.1,y1.2)).bind fun r5=>
   (app? 96 out_3 [(y3,(r4.1,(r5.1,y1.1)))]).bind fun l7=>
   next (a_1,l7,t8,t9,(i64.wrap (t10+1)))
  else
   (app? 96 out_3 [(y3,([],([],y1.1)))]).bind fun l9=>
   next (a_1,l9,t8,t9,(i64.wrap (t10+1)))
 else
  some out_3
def lC:=EK xO fuel
def aM:E0×Int×HZ×(List E0)×(List E0)->Option (List E9):=fun a_0=>
 (lC (a_0,[],a_0.2.2.1,(a_0.2.2.1.length:Int),0)).bind fun r10=>
 (aJ (r10,(fun x=>(aL x).bind fun r=>some r))).bind fun r11=>
 some r11
def xP:Rd (FG×Bool×G6×(List E9)×Int×Int) (FG×Bool×G6):=fun next (out_3,on_4,low_5,t15,t16,t17)=>
 bif (decide (t17<t16))then
  (at? t15 t17).bind fun y2=>
  bif ((E6 y2.2.2.2 1)&&(!on_4))then
   bif (!(EW y2.2.2.1 []))then
    next (out_3,true,(true,(true,y2.2.2.1)),t15,t16,(i64.wrap (t17+1)))
   else
    next (out_3,true,(false,(false,[])),t15,t16,(i64.wrap (t17+1)))
  else
   bif ((!(E6 y2.2.2.2 1))&&on_4)then
    (app? 144 out_3 [(low_5,(true,((E6 y2.2.2.2 3),y2.2.2.1)))]).bind fun l4=>
    next (l4,false,low_5,t15,t16,(i64.wrap (t17+1)))
   else
    next (out_3,on_4,low_5,t15,t16,(i64.wrap (t17+1)))
 else
  some (out_3,on_4,low_5)
def lD:=EK xP fuel
def aN:FG×G6×Bool->Option FG:=fun(out_3,low_5,t56)=>
 bif t56 then
  (app? 144 out_3 [(low_5,(false,(false,[])))]).bind fun l7=>
  some l7
 else
  some out_3
def xQ:Rd (GX×FG×(List E0)×Int×Int) FG:=fun next (a_1,out_3,t63,t64,t65)=>
 bif (decide (t65<t64))then
  (at? t63 t65).bind fun y9=>
  (ON (a_1.2.1,y9)).bind fun r10=>
  (app? 144 out_3 [((true,(true,r10.1)),(true,(true,r10.1)))]).bind fun l12=>
  next (a_1,l12,t63,t64,(i64.wrap (t65+1)))
 else
  some out_3
def lE:=EK xQ fuel
def aO:E0×Int×HZ×(List E0)×(List E0)->Option FG:=fun a_0=>
 (aM a_0).bind fun r1=>
 (lD ([],false,(false,(false,[])),r1,(r1.length:Int),0)).bind fun r5=>
 (aN (r5.1,r5.2.2,r5.2.1)).bind fun r8=>
 (lE (a_0,r8,a_0.2.2.2.1,(a_0.2.2.2.1.length:Int),0)).bind fun r13=>
 some r13
def MS:FJ×FJ->Option (Int):=fun(a_0,b_1)=>
 (KR (a_0.1,b_1.1)).bind fun r1=>
 some r1
def aP:FJ×Int×Bool->Option (FJ×Int):=fun(s_1,first_5,t10)=>
 bif t10 then
  (II s_1.1.2.2.2).bind fun r1=>
  bif s_1.1.2.2.1 then
   some (s_1,(i64.wrap (r1.1+1)))
  else
   some (s_1,r1.1)
 else
  some (s_1,first_5)
def aQ:JI×JI->Option (Int×Int×Bool):=fun s_0=>
 (aP (s_0,0,(E6 s_0.1.1 0))).bind fun r2=>
 bif (E6 r2.1.2.1 0)then
  (II r2.1.2.2.2.2).bind fun r3=>
  bif (!r2.1.2.2.2.1)then
   some (r2.2,(i64.wrap (r3.1-1)),(decide (r2.2<=(i64.wrap (r3.1-1)))))
  else
   some (r2.2,r3.1,(decide (r2.2<=r3.1)))
 else
  some (r2.2,999999999999999999,(decide (r2.2<=999999999999999999)))
def aR:Int×JI×Bool->Option JI:=fun(last_8,high_10,t27)=>
 bif t27 then
  (IK last_8).bind fun r3=>
  (strconv_Itoa last_8).bind fun r4=>
  some (0,(r3,(true,r4)))
 else
  some high_10
def xR:Rd ((List FJ)×Int×(List FJ)×Int×Int) (List FJ):=fun next (out_3,end_4,t11,t12,t13)=>
 bif (decide (t13<t12))then
  (at? t11 t13).bind fun y1=>
  (aQ y1).bind fun r2=>
  bif (!r2.2.2)then
   next (out_3,end_4,t11,t12,(i64.wrap (t13+1)))
  else
   (aR (r2.2.1,(1,([],(false,[]))),(decide (r2.2.1<999999999999999999)))).bind fun r5=>
   bif ((decide (0<(out_3.length:Int)))&&(E6 r2.1 (i64.wrap (end_4+1))))then
    (in? out_3.length (i64.wrap ((out_3.length:Int)-1))).bind fun _=>
    next ((out_3.set ((i64.wrap ((out_3.length:Int)-1)).toNat) ((out_3.getD ((i64.wrap ((out_3.length:Int)-1)).toNat) ((0,([],(false,[]))),(0,([],(false,[]))))).1,r5)),r2.2.1,t11,t12,(i64.wrap (t13+1)))
   else
    (IK r2.1).bind fun r8=>
    (strconv_Itoa r2.1).bind fun r9=>
    (app? 192 out_3 [((0,(r8,(false,r9))),r5)]).bind fun l11=>
    next (l11,r2.2.1,t11,t12,(i64.wrap (t13+1)))
 else
  some out_3
def lF:=EK xR fuel
def aS:List FJ->Option (List FJ):=fun l_0=>
 (lF ([],(-2:Int),l_0,(l_0.length:Int),0)).bind fun r12=>
 some r12
def aT:(List FJ)×Bool->Option (List FJ):=fun(l_1,t11)=>
 bif t11 then
  (aS l_1).bind fun r1=>
  some r1
 else
  some l_1
def aU:FJ×(G6×G6)×Bool->Option (FJ×(G6×G6)):=fun(s_8,x_9,t29)=>
 bif t29 then
  some (s_8,((true,((!s_8.1.2.2.1),s_8.1.2.2.2)),x_9.2))
 else
  some (s_8,x_9)
def xS:Rd ((Int×FG)×(List FJ)×Int×Int) (Int×FG):=fun next (r_6,t20,t21,t22)=>
 bif (decide (t22<t21))then
  (at? t20 t22).bind fun y4=>
  (aU (y4,((false,(false,[])),(false,(false,[]))),(E6 y4.1.1 0))).bind fun r5=>
  bif (E6 r5.1.2.1 0)then
   (app? 144 r_6.2 [(r5.2.1,(true,(r5.1.2.2.2.1,r5.1.2.2.2.2)))]).bind fun l7=>
   next ((r_6.1,l7),t20,t21,(i64.wrap (t22+1)))
  else
   (app? 144 r_6.2 [r5.2]).bind fun l9=>
   next ((r_6.1,l9),t20,t21,(i64.wrap (t22+1)))
 else
  some (r_6.1,r_6.2)
def lG:=EK xS fuel
def aV:Int×(List FJ)->Option ((Int×FG)×Int):=fun(kind_0,l_1)=>
 (aT (l_1,(E6 kind_0 5))).bind fun r2=>
 bif (decide (200<(r2.length:Int)))then
  some ((0,[]),3)
 else
  (lG ((kind_0,[]),r2,(r2.length:Int),0)).bind fun r10=>
  some ((r10.1,r10.2),0)
def xT:Rd (Int×(Int×FG)×(List FJ)×FG×Int×Int) (Sum ((Int×FG)×(List FJ)) ((Int×FG)×Int)):=fun next (kind_0,t4,all_6,t17,t18,t19)=>
 bif (decide (t19<t18))then
  (at? t17 t19).bind fun y1=>
  (MR (kind_0,y1.1)).bind fun r2=>
  bif (!(E6 r2.2 0))then
   some (.inr ((0,[]),r2.2))
  else
   (MR (kind_0,y1.2)).bind fun r4=>
   bif (!(E6 r4.2 0))then
    some (.inr ((0,[]),r4.2))
   else
    (UB (y1.1,r2.1)).bind fun r6=>
    (UC (y1.2,r4.1)).bind fun r7=>
    (KR (r6,r7)).bind fun r8=>
    bif (decide (r8<0))then
     (app? 192 all_6 [(r6,r7)]).bind fun l10=>
     next (kind_0,t4,l10,t17,t18,(i64.wrap (t19+1)))
    else
     next (kind_0,t4,all_6,t17,t18,(i64.wrap (t19+1)))
 else
  some (.inl (t4,all_6))
def lH:=EK xT fuel
def xU:Rd ((List FJ)×(List FJ)×Int×Int) (List FJ):=fun next (out_13,t67,t68,t69)=>
 bif (decide (t69<t68))then
  (in? t67.length t69).bind fun _=>
  let v14:=(t67.getD t69.toNat ((0,([],(false,[]))),(0,([],(false,[])))))
  (bif (!(E6 (out_13.length:Int) 0))then in? out_13.length (i64.wrap ((out_13.length:Int)-1))else some ()).bind fun _=>
  (bif (!(E6 (out_13.length:Int) 0))then KR (((out_13.getD ((i64.wrap ((out_13.length:Int)-1)).toNat) ((0,([],(false,[]))),(0,([],(false,[]))))).2),v14.1)else some 0).bind fun r16=>
  bif ((E6 (out_13.length:Int) 0)||(decide (r16<0)))then
   (app? 192 out_13 [v14]).bind fun l19=>
   next (l19,t67,t68,(i64.wrap (t69+1)))
  else
   (in? out_13.length (i64.wrap ((out_13.length:Int)-1))).bind fun _=>
   (KR (((out_13.getD ((i64.wrap ((out_13.length:Int)-1)).toNat) ((0,([],(false,[]))),(0,([],(false,[]))))).2),v14.2)).bind fun r21=>
   bif (decide (r21<0))then
    (in? out_13.length (i64.wrap ((out_13.length:Int)-1))).bind fun _=>
    next ((out_13.set ((i64.wrap ((out_13.length:Int)-1)).toNat) ((out_13.getD ((i64.wrap ((out_13.length:Int)-1)).toNat) ((0,([],(false,[]))),(0,([],(false,[]))))).1,v14.2)),t67,t68,(i64.wrap (t69+1)))
   else
    next (out_13,t67,t68,(i64.wrap (t69+1)))
 else
  some out_13
def lI:=EK xU fuel
def aW:Int×FG->Option ((Int×FG)×Int):=fun(kind_0,l_1)=>
 (lH (kind_0,(0,[]),[],l_1,(l_1.length:Int),0)).bind fun r11=>
 match r11 with
 | .inl y12=>
  (hP (y12.2,(fun x=>(MS x).bind fun r=>some r))).bind fun r13=>
  (lI ([],r13,(r13.length:Int),0)).bind fun r23=>
  (aV (kind_0,r23)).bind fun r24=>
  some (r24.1,r24.2)
 | .inr y12'=>
  some (y12'.1,y12'.2)
def aX:E0×Int×HZ×(List E0)×(List E0)->Option ((Int×FG)×Int):=fun a_0=>
 (aB a_0).bind fun r1=>
 bif (!(E6 r1 0))then
  some ((0,[]),r1)
 else
  (aO a_0).bind fun r3=>
  (aW (a_0.2.1,r3)).bind fun r4=>
  some (r4.1,r4.2)
def aY:MH×Bool->Option (Sum MH (JJ×Int)):=fun(a_1,t37)=>
 bif t37 then
  (ZX a_1.2.2.2.2.2.1).bind fun r5=>
  bif (!(E6 r5.2 0))then
   some (.inr ([],r5.2))
  else
   some (.inl a_1)
 else
  some (.inl a_1)
def xV:Rd (JJ×(List GX)×Int×Int) (Sum JJ (JJ×Int)):=fun next (out_7,t52,t53,t54)=>
 bif (decide (t54<t53))then
  (at? t52 t54).bind fun y8=>
  (aX y8).bind fun r9=>
  bif (!(E6 r9.2 0))then
   some (.inr ([],r9.2))
  else
   (app? 48 out_7 [r9.1]).bind fun l11=>
   next (l11,t52,t53,(i64.wrap (t54+1)))
 else
  some (.inl out_7)
def lJ:=EK xV fuel
def aZ:E0×(List E0)×E0×Int×Bool×E0×(List GX)->Option (JJ×Int):=fun a_0=>
 (QW a_0.1).bind fun r1=>
 bif (!r1)then
  some ([],8)
 else
  (ZV a_0).bind fun r2=>
  bif (!(E6 r2 0))then
   some ([],r2)
  else
   (QW a_0.2.2.1).bind fun r3=>
   bif (!r3)then
    some ([],8)
   else
    bif ((decide (a_0.2.2.2.1<0))||(decide (1000000<a_0.2.2.2.1)))then
     some ([],9)
    else
     (aY (a_0,(!(EW a_0.2.2.2.2.2.1 [])))).bind fun r6=>
     match r6 with
     | .inl y7=>
      bif (decide (50<(y7.2.2.2.2.2.2.length:Int)))then
       some ([],3)
      else
       (lJ ([],y7.2.2.2.2.2.2,(y7.2.2.2.2.2.2.length:Int),0)).bind fun r12=>
       match r12 with
       | .inl y13=>
        some (y13,0)
       | .inr y13'=>
        some (y13'.1,y13'.2)
     | .inr y7'=>
      some (y7'.1,y7'.2)
def QZ:E0×(List E0)×E0×Int×Bool×E0×(List GX)->Option (Int):=fun a_0=>
 (aZ a_0).bind fun r1=>
 some r1.2
def xW:Rd (OG×(List MH)×Int×Int) H_:=fun next (b_1,t29,t30,t31)=>
 bif (decide (t31<t30))then
  (at? t29 t31).bind fun y2=>
  (QZ y2).bind fun r3=>
  bif (!(E6 r3 0))then
   some (.inr r3)
  else
   (bif (decide (0<t31))then at? b_1.2.1 (i64.wrap (t31-1))else some ([],([],([],(0,(false,([],[]))))))).bind fun y4=>
   bif ((decide (0<t31))&&(Op.bytesLess y2.1 y4.1||EW y2.1 y4.1))then
    some (.inr 10)
   else
    (at? b_1.2.2 t31).bind fun y6=>
    (bif (!(decide (y6<0)))then at? b_1.2.2 t31 else some 0).bind fun y7=>
    bif ((decide (y6<0))||(decide (b_1.1<y7)))then
     some (.inr 9)
    else
     next (b_1,t29,t30,(i64.wrap (t31+1)))
 else
  some (.inl ())
def lK:=EK xW fuel
def a_:Int×(List MH)×(List Int)->Option (Int):=fun b_0=>
 bif ((decide (b_0.1<0))||(decide (1000000000<b_0.1)))then
  some 9
 else
  bif (decide (2000<(b_0.2.1.length:Int)))then
   some 3
  else
   bif (!(E6 (b_0.2.2.length:Int) (b_0.2.1.length:Int)))then
    some 2
   else
    (lK (b_0,b_0.2.1,(b_0.2.1.length:Int),0)).bind fun r8=>
    match r8 with
    | .inl y9=>
     some 0
    | .inr y9'=>
     some y9'
def lL:Rd (I_×(List E0)×Int×Int) (Sum I_ (Int)):=fun next (t_1,t37,t38,t39)=>
 bif (decide (t39<t38))then
  (at? t37 t39).bind fun y5=>
  (QV (t_1.2.2.2.1,y5)).bind fun r6=>
  bif (!r6.2)then
   some (.inr 4)
  else
   (bif (decide (0<t39))then at? t_1.2.2.2.2.1 (i64.wrap (t39-1))else some []).bind fun y7=>
   bif ((decide (0<t39))&&(Op.bytesLess y5 y7||EW y5 y7))then
    some (.inr 10)
   else
    next (t_1,t37,t38,(i64.wrap (t39+1)))
 else
  some (.inl t_1)
def lM:=EK lL fuel
def OO:IH×GF×Int×E5×(List E0)×Bool×OG->Option (Int):=fun t_0=>
 (QU t_0.1).bind fun r1=>
 bif (!(E6 r1 0))then
  some r1
 else
  (UD t_0.2.1).bind fun r2=>
  bif (!(E6 r2 0))then
   some r2
  else
   bif ((decide (t_0.2.2.1<1))||(decide (4<t_0.2.2.1)))then
    some 9
   else
    (ZT t_0.2.2.2.1).bind fun r4=>
    bif (!(E6 r4 0))then
     some r4
    else
     (lM (t_0,t_0.2.2.2.2.1,(t_0.2.2.2.2.1.length:Int),0)).bind fun r9=>
     match r9 with
     | .inl y10=>
      (a_ y10.2.2.2.2.2.2).bind fun r11=>
      some r11
     | .inr y10'=>
      some y10'
def MT:GE×E0->Option (Int):=fun(s_0,name_1)=>
 (s_0).bind fun p1=>
 (MO (p1.2.1,name_1)).bind fun r2=>
 some r2
def lN:Rd (E0×IH×IH×Int×Int) IH:=fun next (name_1,out_5,t9,t10,t11)=>
 bif (decide (t11<t10))then
  (at? t9 t11).bind fun y1=>
  bif (EW y1.1 name_1)then
   (app? 96 out_5 [y1]).bind fun l3=>
   next (name_1,l3,t9,t10,(i64.wrap (t11+1)))
  else
   next (name_1,out_5,t9,t10,(i64.wrap (t11+1)))
 else
  some out_5
def lO:=EK lN fuel
def b9:IH×E0->Option IH:=fun(r_0,name_1)=>
 (lO (name_1,[],r_0,(r_0.length:Int),0)).bind fun r4=>
 some r4
def xX:(List Int)×(List E0)->Option (Bool):=fun v_0=>
 some (decide (0<(v_0.2.length:Int)))
def lP:Int×E0×E0×Bool->Option (Bool):=fun v_0=>
 (strings_IndexByte (v_0.2.1,126)).bind fun r1=>
 (bif (!(decide (0<=r1)))then strings_IndexByte (v_0.2.2.1,126)else some 0).bind fun r2=>
 some ((decide (0<=r1))||(decide (0<=r2)))
def xY:Int×(List Int)×Int×Int×Int×Int×(List E0)->Option (Bool):=fun v_0=>
 some ((decide (0<v_0.2.2.1))||(decide (0<=v_0.2.2.2.2.2.1)))
def lQ:Rd ((List GB)×(GB->Option Bool)×Int×Int) H_:=fun next (s_0,f_1,t7,t8)=>
 bif (decide (t8<t7))then
  (at? s_0 t8).bind fun y1=>
  (f_1 y1).bind fun r2=>
  bif r2 then
   some (.inr t8)
  else
   next (s_0,f_1,t7,(i64.wrap (t8+1)))
 else
  some (.inl ())
def xZ:=EK lQ fuel
def bA:(List GB)×(GB->Option Bool)->Option (Int):=fun(s_0,f_1)=>
 (xZ (s_0,f_1,(s_0.length:Int),0)).bind fun r3=>
 match r3 with
 | .inl y4=>
  some (-1:Int)
 | .inr y4'=>
  some y4'
def lR:(List GB)×(GB->Option Bool)->Option (Bool):=fun(s_0,f_1)=>
 (bA (s_0,f_1)).bind fun r1=>
 some (decide (0<=r1))
def lS:Bool×E0×Int->Option (Bool):=fun t_0=>
 (QQ t_0).bind fun r1=>
 some r1
def lT:List GB->Option (Bool):=fun v_0=>
 (lR (v_0,(fun x=>(lS x).bind fun r=>some r))).bind fun r1=>
 some r1
def x_:Int->Option (Bool):=fun v_0=>
 some false
def Q_:Int×E0->Option (Bool×Int):=fun(kind_0,s_1)=>
 (IJ (kind_0,s_1)).bind fun r1=>
 bif (!(E6 r1.2 0))then
  some (false,r1.2)
 else
  ((fun z=>Sum.casesOn (motive:=fun _=>Option Bool) z (fun x=>(xX x).bind fun r=>some r) (fun z=>Sum.casesOn (motive:=fun _=>Option Bool) z (fun x=>(lP x).bind fun r=>some r) (fun z=>Sum.casesOn (motive:=fun _=>Option Bool) z (fun x=>(xY x).bind fun r=>some r) (fun z=>Sum.casesOn (motive:=fun _=>Option Bool) z (fun x=>(lT x).bind fun r=>some r) (fun z=>Sum.casesOn (motive:=fun _=>Option Bool) z (fun x=>(x_ x).bind fun r=>some r) (fun _=>none)))))) r1.1).bind fun r2=>
  some (r2,0)
def lU:Rd (E0×I_×E0×Bool×(List E0)×IH×Int×Int) (List E0):=fun next (name_1,t_2,old_5,has_6,out_7,t24,t25,t26)=>
 bif (decide (t26<t25))then
  (at? t24 t26).bind fun y3=>
  (NL name_1).bind fun r4=>
  (Q_ (r4.1,y3.2.1)).bind fun r5=>
  bif ((has_6&&(EW y3.2.1 old_5))||((!y3.2.2.2)&&(t_2.2.2.2.2.2.1||(!r5.1))))then
   (app? 24 out_7 [y3.2.1]).bind fun l7=>
   next (name_1,t_2,old_5,has_6,l7,t24,t25,(i64.wrap (t26+1)))
  else
   next (name_1,t_2,old_5,has_6,out_7,t24,t25,(i64.wrap (t26+1)))
 else
  some out_7
def lV:=EK lU fuel
def bB:I_×E0->Option (List E0):=fun(t_0,name_1)=>
 (QV (t_0.2.2.2.1,name_1)).bind fun r1=>
 (b9 (t_0.1,name_1)).bind fun r2=>
 (lV (name_1,t_0,r1.1,r1.2,[],r2,(r2.length:Int),0)).bind fun r8=>
 some r8
def yA:Rd ((List E0)×Int×Int) (List E0):=fun next (s_0,i_2,j_3)=>
 bif (decide (i_2<j_3))then
  (in? s_0.length j_3).bind fun _=>
  (in? s_0.length i_2).bind fun _=>
  (in? s_0.length i_2).bind fun _=>
  (in? (s_0.set i_2.toNat (s_0.getD j_3.toNat [])).length j_3).bind fun _=>
  next (((s_0.set i_2.toNat (s_0.getD j_3.toNat [])).set j_3.toNat (s_0.getD i_2.toNat [])),(i64.wrap (i_2+1)),(i64.wrap (j_3-1)))
 else
  some s_0
def lW:=EK yA fuel
def bC:List E0->Option (List E0):=fun s_0=>
 (lW (s_0,0,(i64.wrap ((s_0.length:Int)-1)))).bind fun r2=>
 some r2
def UG:Int->Option (Int):=fun n_0=>
 (shl? u16 1 n_0).bind fun n1=>
 some (u16.wrap (n1-1))
def lX:Rd (I_×GF×GF×Int×Int) GF:=fun next (t_2,out_5,t8,t9,t10)=>
 bif (decide (t10<t9))then
  (at? t8 t10).bind fun y1=>
  bif (decide (y1.2.2<=t_2.2.2.1))then
   (app? 96 out_5 [y1]).bind fun l3=>
   next (t_2,l3,t8,t9,(i64.wrap (t10+1)))
  else
   next (t_2,out_5,t8,t9,(i64.wrap (t10+1)))
 else
  some out_5
def lY:=EK lX fuel
def R0:I_×GF->Option GF:=fun(t_0,l_1)=>
 (lY (t_0,[],l_1,(l_1.length:Int),0)).bind fun r4=>
 some r4
def lZ:Rd (I_×(E0×E0)×IH×Int×Int) (Sum (Unit) GF):=fun next (t_2,p_3,t9,t10,t11)=>
 bif (decide (t11<t10))then
  (at? t9 t11).bind fun y1=>
  bif ((EW y1.1 p_3.1)&&(EW y1.2.1 p_3.2))then
   (R0 (t_2,y1.2.2.1)).bind fun r2=>
   some (.inr r2)
  else
   next (t_2,p_3,t9,t10,(i64.wrap (t11+1)))
 else
  some (.inl ())
def l_:=EK lZ fuel
def bD:I_×(E0×E0)->Option GF:=fun(t_0,p_1)=>
 (l_ (t_0,p_1,t_0.1,(t_0.1.length:Int),0)).bind fun r3=>
 match r3 with
 | .inl y4=>
  some []
 | .inr y4'=>
  some y4'
def bE:FJ×(Option JI)->Option (Bool):=fun(s_0,t1)=>
 (t1).bind fun p1=>
 (KR (s_0.1,p1)).bind fun r2=>
 (bif (decide (r2<=0))then t1 else some (0,([],(false,[])))).bind fun p3=>
 (bif (decide (r2<=0))then KR (p3,s_0.2)else some 0).bind fun r4=>
 some ((decide (r2<=0))&&(decide (r4<0)))
def yB:Rd ((List FJ)×(FJ->Option Bool)×Int×Int) H_:=fun next (s_0,f_1,t7,t8)=>
 bif (decide (t8<t7))then
  (at? s_0 t8).bind fun y1=>
  (f_1 y1).bind fun r2=>
  bif r2 then
   some (.inr t8)
  else
   next (s_0,f_1,t7,(i64.wrap (t8+1)))
 else
  some (.inl ())
def yC:=EK yB fuel
def m6:(List FJ)×(FJ->Option Bool)->Option (Int):=fun(s_0,f_1)=>
 (yC (s_0,f_1,(s_0.length:Int),0)).bind fun r3=>
 match r3 with
 | .inl y4=>
  some (-1:Int)
 | .inr y4'=>
  some y4'
def RA:(List FJ)×E0->Option (Int):=fun(l_0,key_1)=>
 (m6 (l_0,(fun x=>(bE (x,(some (0,(key_1,(false,[])))))).bind fun r=>some r))).bind fun r1=>
 some r1
def UH:(Int×FG)×E0->Option (Bool×Int):=fun(r_0,s_1)=>
 (QS r_0).bind fun r1=>
 bif (!(E6 r1.2 0))then
  some (false,r1.2)
 else
  (IJ (r_0.1,s_1)).bind fun r2=>
  bif (!(E6 r2.2 0))then
   some (false,r2.2)
  else
   ((fun z=>Sum.casesOn (motive:=fun _=>Option E0) z (fun x=>(ML x).bind fun r=>some r) (fun z=>Sum.casesOn (motive:=fun _=>Option E0) z (fun x=>(MM x).bind fun r=>some r) (fun z=>Sum.casesOn (motive:=fun _=>Option E0) z (fun x=>(MN x).bind fun r=>some r) (fun z=>Sum.casesOn (motive:=fun _=>Option E0) z (fun x=>(MP x).bind fun r=>some r) (fun z=>Sum.casesOn (motive:=fun _=>Option E0) z (fun x=>(MQ x).bind fun r=>some r) (fun _=>none)))))) r2.1).bind fun r3=>
   (RA (r1.1,r3)).bind fun r4=>
   some ((decide (0<=r4)),0)
def m7:Rd ((Int×FG)×Int×(List E0)×Int×Int) (Int):=fun next (r_5,out_7,t18,t19,t20)=>
 bif (decide (t20<t19))then
  (at? t18 t20).bind fun y3=>
  (UH (r_5,y3)).bind fun r4=>
  bif r4.1 then
   (shl? u16 1 (i64.wrap (t20+1))).bind fun n5=>
   next (r_5,(HB u16 out_7 n5),t18,t19,(i64.wrap (t20+1)))
  else
   next (r_5,out_7,t18,t19,(i64.wrap (t20+1)))
 else
  some out_7
def yD:=EK m7 fuel
def UI:GE×Int×(Int×FG)->Option (Int):=fun(s_0,i_1,r_2)=>
 (s_0).bind fun p1=>
 (at? p1.2.2.1 i_1).bind fun y2=>
 (yD (r_2,0,y2,(y2.length:Int),0)).bind fun r6=>
 some r6
def bF:Rd (GZ×Int×Int×Int×Int×Int×Int) GZ:=fun next (s_0,i_1,a_2,j_8,in_9,t70,t71)=>
 bif (decide (t71<t70))then
  (LW (in_9,t71)).bind fun r12=>
  bif (!r12)then
   (in? s_0.2.2.2.2.1.length j_8).bind fun _=>
   (in? (s_0.2.2.2.2.1.getD j_8.toNat []).length t71).bind fun _=>
   let v13:=((s_0.2.2.2.2.1.getD j_8.toNat []).getD t71.toNat [])
   (in? v13.length i_1).bind fun _=>
   (shl? u16 1 a_2).bind fun n14=>
   (in? v13.length i_1).bind fun _=>
   next ((s_0.1,(s_0.2.1,(s_0.2.2.1,(s_0.2.2.2.1,((s_0.2.2.2.2.1.set j_8.toNat ((s_0.2.2.2.2.1.getD j_8.toNat []).set t71.toNat (v13.set i_1.toNat (M8 u16 (v13.getD i_1.toNat 0) n14)))),(s_0.2.2.2.2.2.1,s_0.2.2.2.2.2.2)))))),i_1,a_2,j_8,in_9,t70,(i64.wrap (t71+1)))
  else
   next ((s_0.1,(s_0.2.1,(s_0.2.2.1,(s_0.2.2.2.1,(s_0.2.2.2.2.1,(s_0.2.2.2.2.2.1,s_0.2.2.2.2.2.2)))))),i_1,a_2,j_8,in_9,t70,(i64.wrap (t71+1)))
 else
  some (s_0.1,(s_0.2.1,(s_0.2.2.1,(s_0.2.2.2.1,(s_0.2.2.2.2.1,(s_0.2.2.2.2.2.1,s_0.2.2.2.2.2.2))))))
def m8:=EK bF fuel
def bG:GZ×Int×Int×MG->Option GZ:=fun(s_0,i_1,a_2,need_3)=>
 (MT ((some (s_0.1,(s_0.2.1,(s_0.2.2.1,(s_0.2.2.2.1,(s_0.2.2.2.2.1,(s_0.2.2.2.2.2.1,s_0.2.2.2.2.2.2))))))),need_3.1)).bind fun r1=>
 bif (decide (r1<0))then
  (in? s_0.2.2.2.2.2.1.length i_1).bind fun _=>
  (shl? u16 1 a_2).bind fun n2=>
  (in? s_0.2.2.2.2.2.1.length i_1).bind fun _=>
  some (s_0.1,(s_0.2.1,(s_0.2.2.1,(s_0.2.2.2.1,(s_0.2.2.2.2.1,((s_0.2.2.2.2.2.1.set i_1.toNat (M8 u16 (s_0.2.2.2.2.2.1.getD i_1.toNat 0) n2)),s_0.2.2.2.2.2.2))))))
 else
  (in? s_0.2.2.2.1.length i_1).bind fun _=>
  (in? (s_0.2.2.2.1.getD i_1.toNat []).length a_2).bind fun _=>
  (shl? u16 1 r1).bind fun n5=>
  (in? (s_0.2.2.2.1.getD i_1.toNat []).length a_2).bind fun _=>
  let v6:=((s_0.2.2.2.1.getD i_1.toNat []).set a_2.toNat (HB u16 ((s_0.2.2.2.1.getD i_1.toNat []).getD a_2.toNat 0) n5))
  (UI ((some (s_0.1,(s_0.2.1,(s_0.2.2.1,((s_0.2.2.2.1.set i_1.toNat v6),(s_0.2.2.2.2.1,(s_0.2.2.2.2.2.1,s_0.2.2.2.2.2.2))))))),r1,need_3.2.1)).bind fun r7=>
  (in? s_0.2.2.2.2.1.length i_1).bind fun _=>
  (in? (s_0.2.2.2.2.1.getD i_1.toNat []).length a_2).bind fun _=>
  let v8:=((s_0.2.2.2.2.1.getD i_1.toNat []).getD a_2.toNat [])
  (in? v8.length r1).bind fun _=>
  (in? v8.length r1).bind fun _=>
  let v10:=((s_0.2.2.2.2.1.getD i_1.toNat []).set a_2.toNat (v8.set r1.toNat (I6 u16 (v8.getD r1.toNat 0) r7)))
  (in? (s_0.2.2.2.2.1.set i_1.toNat v10).length r1).bind fun _=>
  (m8 ((s_0.1,(s_0.2.1,(s_0.2.2.1,((s_0.2.2.2.1.set i_1.toNat v6),((s_0.2.2.2.2.1.set i_1.toNat v10),(s_0.2.2.2.2.2.1,s_0.2.2.2.2.2.2)))))),i_1,a_2,r1,r7,(((s_0.2.2.2.2.1.set i_1.toNat v10).getD r1.toNat []).length:Int),0)).bind fun r17=>
  some (r17.1,(r17.2.1,(r17.2.2.1,(r17.2.2.2.1,(r17.2.2.2.2.1,(r17.2.2.2.2.2.1,r17.2.2.2.2.2.2))))))
def m9:Rd (GZ×Int×Int×Int×Int) GZ:=fun next (s_0,i_3,a_5,t67,t68)=>
 bif (decide (t68<t67))then
  (in? s_0.2.2.2.2.1.length i_3).bind fun _=>
  (in? (s_0.2.2.2.2.1.getD i_3.toNat []).length a_5).bind fun _=>
  let v8:=((s_0.2.2.2.2.1.getD i_3.toNat []).getD a_5.toNat [])
  (at? s_0.2.2.1 t68).bind fun y9=>
  (UG (i64.wrap ((y9.length:Int)+1))).bind fun r10=>
  (in? v8.length t68).bind fun _=>
  next ((s_0.1,(s_0.2.1,(s_0.2.2.1,(s_0.2.2.2.1,((s_0.2.2.2.2.1.set i_3.toNat ((s_0.2.2.2.2.1.getD i_3.toNat []).set a_5.toNat (v8.set t68.toNat r10))),(s_0.2.2.2.2.2.1,s_0.2.2.2.2.2.2)))))),i_3,a_5,t67,(i64.wrap (t68+1)))
 else
  some (s_0.1,(s_0.2.1,(s_0.2.2.1,(s_0.2.2.2.1,(s_0.2.2.2.2.1,(s_0.2.2.2.2.2.1,s_0.2.2.2.2.2.2))))))
def mA:=EK m9 fuel
def mB:Rd (GZ×Int×Int×Int×Int) GZ:=fun next (s_0,n_2,i_3,t52,t53)=>
 bif (decide (t53<t52))then
  (in? s_0.2.2.2.2.1.length i_3).bind fun _=>
  (mks? 24 n_2 n_2 0).bind fun z6=>
  (in? (s_0.2.2.2.2.1.getD i_3.toNat []).length t53).bind fun _=>
  (mA ((s_0.1,(s_0.2.1,(s_0.2.2.1,(s_0.2.2.2.1,((s_0.2.2.2.2.1.set i_3.toNat ((s_0.2.2.2.2.1.getD i_3.toNat []).set t53.toNat z6)),(s_0.2.2.2.2.2.1,s_0.2.2.2.2.2.2)))))),i_3,t53,n_2,0)).bind fun r12=>
  next ((r12.1,(r12.2.1,(r12.2.2.1,(r12.2.2.2.1,(r12.2.2.2.2.1,(r12.2.2.2.2.2.1,r12.2.2.2.2.2.2)))))),n_2,i_3,t52,(i64.wrap (t53+1)))
 else
  some (s_0.1,(s_0.2.1,(s_0.2.2.1,(s_0.2.2.2.1,(s_0.2.2.2.2.1,(s_0.2.2.2.2.2.1,s_0.2.2.2.2.2.2))))))
def mC:=EK mB fuel
def mD:Rd (GZ×Int×Int×Int) GZ:=fun next (s_0,n_2,t17,t18)=>
 bif (decide (t18<t17))then
  (at? s_0.2.2.1 t18).bind fun y1=>
  (mks? 24 (i64.wrap ((y1.length:Int)+1)) (i64.wrap ((y1.length:Int)+1)) 0).bind fun z2=>
  (app? 24 s_0.2.2.2.1 [z2]).bind fun l3=>
  (mks? 24 (i64.wrap ((y1.length:Int)+1)) (i64.wrap ((y1.length:Int)+1)) []).bind fun z4=>
  (app? 24 s_0.2.2.2.2.1 [z4]).bind fun l5=>
  (mC ((s_0.1,(s_0.2.1,(s_0.2.2.1,(l3,(l5,(s_0.2.2.2.2.2.1,s_0.2.2.2.2.2.2)))))),n_2,t18,(i64.wrap ((y1.length:Int)+1)),0)).bind fun r13=>
  next ((r13.1,(r13.2.1,(r13.2.2.1,(r13.2.2.2.1,(r13.2.2.2.2.1,(r13.2.2.2.2.2.1,r13.2.2.2.2.2.2)))))),n_2,t17,(i64.wrap (t18+1)))
 else
  some (s_0.1,(s_0.2.1,(s_0.2.2.1,(s_0.2.2.2.1,(s_0.2.2.2.2.1,(s_0.2.2.2.2.2.1,s_0.2.2.2.2.2.2))))))
def mE:=EK mD fuel
def mF:Rd (GZ×Int×Int×GF×Int×Int) GZ:=fun next (s_0,i_7,k_8,t126,t127,t128)=>
 bif (decide (t128<t127))then
  (at? t126 t128).bind fun y19=>
  (bG ((s_0.1,(s_0.2.1,(s_0.2.2.1,(s_0.2.2.2.1,(s_0.2.2.2.2.1,(s_0.2.2.2.2.2.1,s_0.2.2.2.2.2.2)))))),i_7,(i64.wrap (k_8+1)),y19)).bind fun r20=>
  next ((r20.1,(r20.2.1,(r20.2.2.1,(r20.2.2.2.1,(r20.2.2.2.2.1,(r20.2.2.2.2.2.1,r20.2.2.2.2.2.2)))))),i_7,k_8,t126,t127,(i64.wrap (t128+1)))
 else
  some (s_0.1,(s_0.2.1,(s_0.2.2.1,(s_0.2.2.2.1,(s_0.2.2.2.2.1,(s_0.2.2.2.2.2.1,s_0.2.2.2.2.2.2))))))
def mG:=EK mF fuel
def mH:Rd (GZ×Int×(List E0)×Int×Int) GZ:=fun next (s_0,i_7,t106,t107,t108)=>
 bif (decide (t108<t107))then
  (at? t106 t108).bind fun y16=>
  (at? s_0.2.1 i_7).bind fun y17=>
  (bD (s_0.1,(y17,y16))).bind fun r18=>
  (mG ((s_0.1,(s_0.2.1,(s_0.2.2.1,(s_0.2.2.2.1,(s_0.2.2.2.2.1,(s_0.2.2.2.2.2.1,s_0.2.2.2.2.2.2)))))),i_7,t108,r18,(r18.length:Int),0)).bind fun r21=>
  next ((r21.1,(r21.2.1,(r21.2.2.1,(r21.2.2.2.1,(r21.2.2.2.2.1,(r21.2.2.2.2.2.1,r21.2.2.2.2.2.2)))))),i_7,t106,t107,(i64.wrap (t108+1)))
 else
  some (s_0.1,(s_0.2.1,(s_0.2.2.1,(s_0.2.2.2.1,(s_0.2.2.2.2.1,(s_0.2.2.2.2.2.1,s_0.2.2.2.2.2.2))))))
def mI:=EK mH fuel
def mJ:Rd (GZ×Int×Int) GZ:=fun next (s_0,t96,t97)=>
 bif (decide (t97<t96))then
  (at? s_0.2.2.1 t97).bind fun y15=>
  (mI ((s_0.1,(s_0.2.1,(s_0.2.2.1,(s_0.2.2.2.1,(s_0.2.2.2.2.1,(s_0.2.2.2.2.2.1,s_0.2.2.2.2.2.2)))))),t97,y15,(y15.length:Int),0)).bind fun r22=>
  next ((r22.1,(r22.2.1,(r22.2.2.1,(r22.2.2.2.1,(r22.2.2.2.2.1,(r22.2.2.2.2.2.1,r22.2.2.2.2.2.2)))))),t96,(i64.wrap (t97+1)))
 else
  some (s_0.1,(s_0.2.1,(s_0.2.2.1,(s_0.2.2.2.1,(s_0.2.2.2.2.1,(s_0.2.2.2.2.2.1,s_0.2.2.2.2.2.2))))))
def mK:=EK mJ fuel
def bH:I_×((List E0)×((List (List E0))×((List (List Int))×((List (List (List Int)))×((List Int)×Int)))))->Option GZ:=fun s_0=>
 (mE ((s_0.1,(s_0.2.1,(s_0.2.2.1,(s_0.2.2.2.1,(s_0.2.2.2.2.1,(s_0.2.2.2.2.2.1,s_0.2.2.2.2.2.2)))))),(s_0.2.1.length:Int),(s_0.2.1.length:Int),0)).bind fun r14=>
 (mK ((r14.1,(r14.2.1,(r14.2.2.1,(r14.2.2.2.1,(r14.2.2.2.2.1,(r14.2.2.2.2.2.1,r14.2.2.2.2.2.2)))))),(s_0.2.1.length:Int),0)).bind fun r23=>
 some (r23.1,(r23.2.1,(r23.2.2.1,(r23.2.2.2.1,(r23.2.2.2.2.1,(r23.2.2.2.2.2.1,r23.2.2.2.2.2.2))))))
def mL:Rd (GZ×GF×Int×Int) (Sum GZ (GZ×Bool)):=fun next (s_0,t22,t23,t24)=>
 bif (decide (t24<t23))then
  (at? t22 t24).bind fun y2=>
  (MT ((some (s_0.1,(s_0.2.1,(s_0.2.2.1,(s_0.2.2.2.1,(s_0.2.2.2.2.1,(s_0.2.2.2.2.2.1,s_0.2.2.2.2.2.2))))))),y2.1)).bind fun r3=>
  bif (decide (r3<0))then
   some (.inr ((s_0.1,(s_0.2.1,(s_0.2.2.1,(s_0.2.2.2.1,(s_0.2.2.2.2.1,(s_0.2.2.2.2.2.1,s_0.2.2.2.2.2.2)))))),false))
  else
   (in? s_0.2.2.2.2.2.1.length r3).bind fun _=>
   (UI ((some (s_0.1,(s_0.2.1,(s_0.2.2.1,(s_0.2.2.2.1,(s_0.2.2.2.2.1,(s_0.2.2.2.2.2.1,s_0.2.2.2.2.2.2))))))),r3,y2.2.1)).bind fun r4=>
   (in? s_0.2.2.2.2.2.1.length r3).bind fun _=>
   (shl? u16 1 r3).bind fun n6=>
   next ((s_0.1,(s_0.2.1,(s_0.2.2.1,(s_0.2.2.2.1,(s_0.2.2.2.2.1,((s_0.2.2.2.2.2.1.set r3.toNat (I6 u16 (s_0.2.2.2.2.2.1.getD r3.toNat 0) r4)),(HB u16 s_0.2.2.2.2.2.2 n6))))))),t22,t23,(i64.wrap (t24+1)))
 else
  some (.inl (s_0.1,(s_0.2.1,(s_0.2.2.1,(s_0.2.2.2.1,(s_0.2.2.2.2.1,(s_0.2.2.2.2.2.1,s_0.2.2.2.2.2.2)))))))
def mM:=EK mL fuel
def bI:Int×Int×Bool->Option (Int):=fun(only_11,k_12,t93)=>
 bif t93 then
  (shl? u16 1 (i64.wrap (k_12+1))).bind fun n14=>
  some n14
 else
  some only_11
def mN:Rd (GZ×(List E0)×Int×Int) (Sum GZ (GZ×Bool)):=fun next (s_0,t62,t63,t64)=>
 bif (decide (t64<t63))then
  (at? t62 t64).bind fun y9=>
  (MT ((some (s_0.1,(s_0.2.1,(s_0.2.2.1,(s_0.2.2.2.1,(s_0.2.2.2.2.1,(s_0.2.2.2.2.2.1,s_0.2.2.2.2.2.2))))))),y9)).bind fun r10=>
  bif (decide (r10<0))then
   some (.inr ((s_0.1,(s_0.2.1,(s_0.2.2.1,(s_0.2.2.2.1,(s_0.2.2.2.2.1,(s_0.2.2.2.2.2.1,s_0.2.2.2.2.2.2)))))),false))
  else
   (QV (s_0.1.2.2.2.1,y9)).bind fun r11=>
   (at? s_0.2.2.1 r10).bind fun y12=>
   (MO (y12,r11.1)).bind fun r13=>
   (bI (0,r13,(decide (0<=r13)))).bind fun r15=>
   (in? s_0.2.2.2.2.2.1.length r10).bind fun _=>
   (in? s_0.2.2.2.2.2.1.length r10).bind fun _=>
   (shl? u16 1 r10).bind fun n17=>
   next ((s_0.1,(s_0.2.1,(s_0.2.2.1,(s_0.2.2.2.1,(s_0.2.2.2.2.1,((s_0.2.2.2.2.2.1.set r10.toNat (I6 u16 (s_0.2.2.2.2.2.1.getD r10.toNat 0) r15)),(HB u16 s_0.2.2.2.2.2.2 n17))))))),t62,t63,(i64.wrap (t64+1)))
 else
  some (.inl (s_0.1,(s_0.2.1,(s_0.2.2.1,(s_0.2.2.2.1,(s_0.2.2.2.2.1,(s_0.2.2.2.2.2.1,s_0.2.2.2.2.2.2)))))))
def mO:=EK mN fuel
def mP:I_×((List E0)×((List (List E0))×((List (List Int))×((List (List (List Int)))×((List Int)×Int)))))->Option (Bool×GZ):=fun s_0=>
 (R0 (s_0.1,s_0.1.2.1)).bind fun r1=>
 (mM ((s_0.1,(s_0.2.1,(s_0.2.2.1,(s_0.2.2.2.1,(s_0.2.2.2.2.1,(s_0.2.2.2.2.2.1,s_0.2.2.2.2.2.2)))))),r1,(r1.length:Int),0)).bind fun r7=>
 match r7 with
 | .inl y8=>
  (mO ((y8.1,(y8.2.1,(y8.2.2.1,(y8.2.2.2.1,(y8.2.2.2.2.1,(y8.2.2.2.2.2.1,y8.2.2.2.2.2.2)))))),y8.1.2.2.2.2.1,(y8.1.2.2.2.2.1.length:Int),0)).bind fun r18=>
  match r18 with
  | .inl y19=>
   some (true,(y19.1,(y19.2.1,(y19.2.2.1,(y19.2.2.2.1,(y19.2.2.2.2.1,(y19.2.2.2.2.2.1,y19.2.2.2.2.2.2)))))))
  | .inr y19'=>
   some (y19'.2,(y19'.1.1,(y19'.1.2.1,(y19'.1.2.2.1,(y19'.1.2.2.2.1,(y19'.1.2.2.2.2.1,(y19'.1.2.2.2.2.2.1,y19'.1.2.2.2.2.2.2)))))))
 | .inr y8'=>
  some (y8'.2,(y8'.1.1,(y8'.1.2.1,(y8'.1.2.2.1,(y8'.1.2.2.2.1,(y8'.1.2.2.2.2.1,(y8'.1.2.2.2.2.2.1,y8'.1.2.2.2.2.2.2)))))))
def mQ:Rd (GZ×IH×Int×Int) GZ:=fun next (s_4,t15,t16,t17)=>
 bif (decide (t17<t16))then
  (at? t15 t17).bind fun y1=>
  (MT ((some (s_4.1,(s_4.2.1,(s_4.2.2.1,(s_4.2.2.2.1,(s_4.2.2.2.2.1,(s_4.2.2.2.2.2.1,s_4.2.2.2.2.2.2))))))),y1.1)).bind fun r2=>
  bif (decide (r2<0))then
   (app? 24 s_4.2.1 [y1.1]).bind fun l3=>
   next ((s_4.1,(l3,(s_4.2.2.1,(s_4.2.2.2.1,(s_4.2.2.2.2.1,(s_4.2.2.2.2.2.1,s_4.2.2.2.2.2.2)))))),t15,t16,(i64.wrap (t17+1)))
  else
   next ((s_4.1,(s_4.2.1,(s_4.2.2.1,(s_4.2.2.2.1,(s_4.2.2.2.2.1,(s_4.2.2.2.2.2.1,s_4.2.2.2.2.2.2)))))),t15,t16,(i64.wrap (t17+1)))
 else
  some (s_4.1,(s_4.2.1,(s_4.2.2.1,(s_4.2.2.2.1,(s_4.2.2.2.2.1,(s_4.2.2.2.2.2.1,s_4.2.2.2.2.2.2))))))
def mR:=EK mQ fuel
def mS:Rd (I_×GZ×(List E0)×Int×Int) GZ:=fun next (t_1,s_4,t41,t42,t43)=>
 bif (decide (t43<t42))then
  (at? t41 t43).bind fun y5=>
  (bB (t_1,y5)).bind fun r6=>
  (bC r6).bind fun r7=>
  (app? 24 s_4.2.2.1 [r7]).bind fun l8=>
  (UG (i64.wrap ((r7.length:Int)+1))).bind fun r9=>
  (app? 24 s_4.2.2.2.2.2.1 [r9]).bind fun l10=>
  next (t_1,(s_4.1,(s_4.2.1,(l8,(s_4.2.2.2.1,(s_4.2.2.2.2.1,(l10,s_4.2.2.2.2.2.2)))))),t41,t42,(i64.wrap (t43+1)))
 else
  some (s_4.1,(s_4.2.1,(s_4.2.2.1,(s_4.2.2.2.1,(s_4.2.2.2.2.1,(s_4.2.2.2.2.2.1,s_4.2.2.2.2.2.2))))))
def mT:=EK mS fuel
def bJ:IH×GF×Int×E5×(List E0)×Bool×OG->Option (GE×Bool):=fun t_0=>
 (mR ((t_0,([],([],([],([],([],0)))))),t_0.1,(t_0.1.length:Int),0)).bind fun r4=>
 (mT (t_0,(r4.1,(r4.2.1,(r4.2.2.1,(r4.2.2.2.1,(r4.2.2.2.2.1,(r4.2.2.2.2.2.1,r4.2.2.2.2.2.2)))))),r4.2.1,(r4.2.1.length:Int),0)).bind fun r11=>
 (bH (r11.1,(r11.2.1,(r11.2.2.1,(r11.2.2.2.1,(r11.2.2.2.2.1,(r11.2.2.2.2.2.1,r11.2.2.2.2.2.2))))))).bind fun r12=>
 (mP (r12.1,(r12.2.1,(r12.2.2.1,(r12.2.2.2.1,(r12.2.2.2.2.1,(r12.2.2.2.2.2.1,r12.2.2.2.2.2.2))))))).bind fun r13=>
 some ((some (r13.2.1,(r13.2.2.1,(r13.2.2.2.1,(r13.2.2.2.2.1,(r13.2.2.2.2.2.1,(r13.2.2.2.2.2.2.1,r13.2.2.2.2.2.2.2))))))),r13.1)
def A8p:Unit->Option (List Int):=fun s_0=>
 some []
def mU:List Int->Option (List Int):=fun s_0=>
 (app? 24 [] s_0).bind fun l1=>
 some l1
def mV:List Int->Option (List Int):=mU
def mW:Rd (GE×(List Int)×Int×Bool×Int×Int×Int) (Int×Bool):=fun next (s_0,left_1,out_5,again_6,i_7,t33,t34)=>
 bif (decide (t34<t33))then
  (at? left_1 i_7).bind fun y6=>
  (LW (y6,t34)).bind fun r7=>
  (bif r7 then s_0 else some (([],([],(0,([],([],(false,(0,([],[])))))))),([],([],([],([],([],0))))))).bind fun p8=>
  (bif r7 then at? p8.2.2.2.1 i_7 else some []).bind fun y9=>
  (bif r7 then at? y9 t34 else some 0).bind fun y10=>
  bif (r7&&(!(E6 (HB u16 out_5 y10) out_5)))then
   (s_0).bind fun p11=>
   (at? p11.2.2.2.1 i_7).bind fun y12=>
   (at? y12 t34).bind fun y13=>
   next (s_0,left_1,(HB u16 out_5 y13),true,i_7,t33,(i64.wrap (t34+1)))
  else
   next (s_0,left_1,out_5,again_6,i_7,t33,(i64.wrap (t34+1)))
 else
  some (out_5,again_6)
def mX:=EK mW fuel
def mY:Rd (GE×(List Int)×Int×Bool×Int×Int) (Int×Bool):=fun next (s_0,left_1,out_5,again_6,t18,t19)=>
 bif (decide (t19<t18))then
  (LW (out_5,t19)).bind fun r3=>
  bif (!r3)then
   next (s_0,left_1,out_5,again_6,t18,(i64.wrap (t19+1)))
  else
   (s_0).bind fun p4=>
   (at? p4.2.2.2.1 t19).bind fun y5=>
   (mX (s_0,left_1,out_5,again_6,t19,(y5.length:Int),0)).bind fun r14=>
   next (s_0,left_1,r14.1,r14.2,t18,(i64.wrap (t19+1)))
 else
  some (out_5,again_6)
def mZ:=EK mY fuel
def yE:Rd (GE×(List Int)×Int×Bool) (Int):=fun next (s_0,left_1,out_5,again_6)=>
 bif again_6 then
  (s_0).bind fun p2=>
  (mZ (s_0,left_1,out_5,false,(p2.2.1.length:Int),0)).bind fun r15=>
  next (s_0,left_1,r15.1,r15.2)
 else
  some out_5
def yF:=EK yE fuel
def bK:GE×(List Int)->Option (Int):=fun(s_0,left_1)=>
 (s_0).bind fun p1=>
 (yF (s_0,left_1,p1.2.2.2.2.2.2,true)).bind fun r16=>
 some r16
def m_:Rd (Int×(List Int)×Int×Int) MI:=fun next (in_5,t11,t12,t13)=>
 bif (decide (t13<t12))then
  (at? t11 t13).bind fun y2=>
  (LW (y2,0)).bind fun r3=>
  (bif (!r3)then LW (in_5,t13)else some false).bind fun r4=>
  bif ((!r3)&&(!r4))then
   some (.inr false)
  else
   next (in_5,t11,t12,(i64.wrap (t13+1)))
 else
  some (.inl ())
def nA:=EK m_ fuel
def UJ:GE×(List Int)->Option (Bool):=fun(s_0,left_1)=>
 (bK (s_0,left_1)).bind fun r1=>
 (nA (r1,left_1,(left_1.length:Int),0)).bind fun r5=>
 match r5 with
 | .inl y6=>
  some true
 | .inr y6'=>
  some y6'
def nB:Rd (GE×Int×Int×(List Int)×Int×Int) (Sum (List Int) ((List Int)×Bool)):=fun next (s_0,i_2,a_3,out_10,t20,t21)=>
 bif (decide (t21<t20))then
  bif (E6 t21 i_2)then
   next (s_0,i_2,a_3,out_10,t20,(i64.wrap (t21+1)))
  else
   (in? out_10.length t21).bind fun _=>
   (s_0).bind fun p3=>
   (at? p3.2.2.2.2.1 i_2).bind fun y4=>
   (at? y4 a_3).bind fun y5=>
   (at? y5 t21).bind fun y6=>
   (in? out_10.length t21).bind fun _=>
   let v7:=(out_10.set t21.toNat (I6 u16 (out_10.getD t21.toNat 0) y6))
   (in? v7.length t21).bind fun _=>
   bif (E6 (v7.getD t21.toNat 0) 0)then
    some (.inr ([],false))
   else
    next (s_0,i_2,a_3,v7,t20,(i64.wrap (t21+1)))
 else
  some (.inl out_10)
def nC:=EK nB fuel
def bL:GE×(List Int)×Int×Int->Option ((List Int)×Bool):=fun(s_0,left_1,i_2,a_3)=>
 (mV left_1).bind fun r1=>
 (shl? u16 1 a_3).bind fun n2=>
 (in? r1.length i_2).bind fun _=>
 (nC (s_0,i_2,a_3,(r1.set i_2.toNat n2),((r1.set i_2.toNat n2).length:Int),0)).bind fun r8=>
 match r8 with
 | .inl y9=>
  (UJ (s_0,y9)).bind fun r10=>
  some (y9,r10)
 | .inr y9'=>
  some (y9'.1,y9'.2)
def nD(slf:Int×(List Int)×Unit×GE×Unit×Unit×(List E5)×GE×Int->Option (Bool×(List E5)))(next:Int×(List Int)×GE×Int×Int×(List E5)×GE×Int->Option hU):Int×(List Int)×GE×Int×Int×(List E5)×GE×Int->Option hU:=fun(i_0,left_1,t3,t33,t34,q0,q1,q2)=>
 bif (decide (t34<t33))then
  (at? left_1 i_0).bind fun y6=>
  (LW (y6,t34)).bind fun r7=>
  bif (!r7)then
   next (i_0,left_1,t3,t33,(i64.wrap (t34+1)),q0,q1,q2)
  else
   (bL (t3,left_1,i_0,t34)).bind fun r8=>
   (bif r8.2 then slf ((i64.wrap (i_0+1)),r8.1,(),t3,(),(),q0,q1,q2)else some (false,[])).bind fun r9=>
   bif r8.2 then
    bif (r8.2&&(!r9.1))then
     some (.inr (false,r9.2,q1,q2))
    else
     next (i_0,left_1,t3,t33,(i64.wrap (t34+1)),r9.2,q1,q2)
   else
    bif (r8.2&&(!r9.1))then
     some (.inr (false,q0,q1,q2))
    else
     next (i_0,left_1,t3,t33,(i64.wrap (t34+1)),q0,q1,q2)
 else
  some (.inl (q0,q1,q2))
def nE(slf:Int×(List Int)×Unit×GE×Unit×Unit×(List E5)×GE×Int->Option (Bool×(List E5))):Int×(List Int)×GE×Int×Int×(List E5)×GE×Int->Option hU:=EK (nD slf) fuel
def UK(slf:Int×(List Int)×Unit×GE×Unit×Unit×(List E5)×GE×Int->Option (Bool×(List E5))):Int×(List Int)×Unit×GE×Unit×Unit×(List E5)×GE×Int->Option (Bool×(List E5)):=fun(i_0,left_1,t2,t3,t4,t5,q0,q1,q2)=>
 (XP left_1).bind fun r1=>
 bif (!r1)then
  some (true,q0)
 else
  (t3).bind fun p2=>
  bif (E6 i_0 (p2.2.1.length:Int))then
   (iB (left_1,q0,q1,q2)).bind fun r3=>
   some (r3.1,r3.2)
  else
   (t3).bind fun p4=>
   (at? p4.2.2.2.1 i_0).bind fun y5=>
   ((nE slf) (i_0,left_1,t3,(y5.length:Int),0,q0,q1,q2)).bind fun r10=>
   match r10 with
   | .inl y11=>
    some (true,y11.1)
   | .inr y11'=>
    some (y11'.1,y11'.2.1)
def NM:Nat->Int×(List Int)×Unit×GE×Unit×Unit×(List E5)×GE×Int->Option (Bool×(List E5))
 |0=>fun _=>none
 |n+1=>UK (NM n)
def nF:Int×(List Int)×Unit×GE×Unit×Unit×(List E5)×GE×Int->Option (Bool×(List E5)):=NM 100
def nG:Rd ((List Int)×Int×Int×Int) H_:=fun next (s_0,v_1,t7,t8)=>
 bif (decide (t8<t7))then
  (at? s_0 t8).bind fun y1=>
  bif (E6 v_1 y1)then
   some (.inr t8)
  else
   next (s_0,v_1,t7,(i64.wrap (t8+1)))
 else
  some (.inl ())
def nH:=EK nG fuel
def nI:(List Int)×Int->Option (Int):=fun(s_0,v_1)=>
 (nH (s_0,v_1,(s_0.length:Int),0)).bind fun r2=>
 match r2 with
 | .inl y3=>
  some (-1:Int)
 | .inr y3'=>
  some y3'
def bM:(List Int)×Int->Option (Bool):=fun(s_0,v_1)=>
 (nI (s_0,v_1)).bind fun r1=>
 some (decide (0<=r1))
def UL:GE×Unit×Unit×(List E5)×GE×Int->Option (List E5):=fun(s_0,keep_1,found_2,q0,q1,q2)=>
 (s_0).bind fun p1=>
 (bM (p1.2.2.2.2.2.1,0)).bind fun r2=>
 (bif (!r2)then s_0 else some (([],([],(0,([],([],(false,(0,([],[])))))))),([],([],([],([],([],0))))))).bind fun p3=>
 (bif (!r2)then UJ (s_0,p3.2.2.2.2.2.1)else some false).bind fun r4=>
 bif ((!r2)&&r4)then
  (s_0).bind fun p5=>
  (nF (0,p5.2.2.2.2.2.1,(),s_0,(),(),q0,q1,q2)).bind fun r6=>
  some r6.2
 else
  some q0
def L_:I_×Int->Option (List E5):=fun(t_0,most_1)=>
 (bJ t_0).bind fun r1=>
 bif ((!r1.2)||(E6 most_1 0))then
  some []
 else
  (UL (r1.1,(),(),[],r1.1,most_1)).bind fun r2=>
  some r2
def A8q:Unit->Option GF:=fun s_0=>
 some []
def yG:List MG->Option GF:=fun s_0=>
 (app? 96 [] s_0).bind fun l2=>
 some l2
def bN:List MG->Option GF:=yG
def A8r:Unit->Option FG:=fun s_0=>
 some []
def yH:List (G6×G6)->Option FG:=fun s_0=>
 (app? 144 [] s_0).bind fun l2=>
 some l2
def nJ:List (G6×G6)->Option FG:=yH
def yI:Rd (I_×GF×Int) GF:=fun next (t_1,left_6,i_7)=>
 bif (decide (i_7<(left_6.length:Int)))then
  (bN left_6).bind fun r4=>
  (TJ (r4,i_7,(i64.wrap (i_7+1)))).bind fun r5=>
  (L_ ((t_1.1,(r5,t_1.2.2)),1)).bind fun r6=>
  bif (decide (0<(r6.length:Int)))then
   next ((t_1.1,(r5,t_1.2.2)),left_6,(i64.wrap (i_7+1)))
  else
   next ((t_1.1,(r5,t_1.2.2)),r5,i_7)
 else
  some left_6
def nK:=EK yI fuel
def nL:Rd (GF×GF×Int×Int) GF:=fun next (out_8,t43,t44,t45)=>
 bif (decide (t45<t44))then
  (at? t43 t45).bind fun y8=>
  (nJ y8.2.1.2).bind fun r9=>
  (app? 96 out_8 [(y8.1,((y8.2.1.1,r9),y8.2.2))]).bind fun l11=>
  next (l11,t43,t44,(i64.wrap (t45+1)))
 else
  some out_8
def nM:=EK nL fuel
def nN:IH×GF×Int×E5×(List E0)×Bool×OG->Option (GF×Bool×Int):=fun t_0=>
 (OO t_0).bind fun r1=>
 bif (!(E6 r1 0))then
  some ([],false,r1)
 else
  (L_ (t_0,1)).bind fun r2=>
  bif (decide (0<(r2.length:Int)))then
   some ([],false,0)
  else
   (R0 (t_0,t_0.2.1)).bind fun r3=>
   (nK (t_0,r3,0)).bind fun r7=>
   (nM ([],r7,(r7.length:Int),0)).bind fun r12=>
   some (r12,true,0)
def OP:IH×GF×Int×E5×(List E0)×Bool×OG->Option (E5×Bool×Int):=fun t_0=>
 (OO t_0).bind fun r1=>
 bif (!(E6 r1 0))then
  some ([],false,r1)
 else
  (L_ (t_0,1)).bind fun r2=>
  bif (E6 (r2.length:Int) 0)then
   some ([],false,0)
  else
   (at? r2 0).bind fun y3=>
   some (y3,true,0)
def UM:Unit->Option (Bool):=fun _=>
 (OP ([([112,107,103,58,112,108,97,105,110,47,97],([49],([],false))),([112,107,103,58,112,108,97,105,110,47,97],([50],([],false)))],([([112,107,103,58,112,108,97,105,110,47,97],((5,[((true,(true,[48])),(false,(false,[])))]),1))],(1,([],([],(false,(0,([],[]))))))))).bind fun r9=>
 let v10:=((r9.2.1&&(E6 r9.2.2 0))&&(E6 (r9.1.length:Int) 1))
 (bif v10 then at? r9.1 0 else some ([],[])).bind fun y11=>
 some (v10&&(EW y11.2 [50]))
def nO:Rd (I_×GF×Int×Int) MI:=fun next (t_1,l_3,t54,t55)=>
 bif (decide (t55<t54))then
  (bN l_3).bind fun r6=>
  (TJ (r6,t55,(i64.wrap (t55+1)))).bind fun r7=>
  (OP (t_1.1,(r7,t_1.2.2))).bind fun r8=>
  bif ((!r8.2.1)||(!(E6 r8.2.2 0)))then
   some (.inr false)
  else
   next ((t_1.1,(r7,t_1.2.2)),l_3,t54,(i64.wrap (t55+1)))
 else
  some (.inl ())
def nP:=EK nO fuel
def bO:IH×GF×Int×E5×(List E0)×Bool×OG->Option (Bool):=fun t_0=>
 (nN t_0).bind fun r1=>
 bif (!(E6 r1.2.2 0))then
  (UM ()).bind fun r2=>
  some r2
 else
  (OP t_0).bind fun r3=>
  bif ((!(E6 r3.2.2 0))||(IV r3.2.1 r1.2.1))then
   some false
  else
   bif (!r1.2.1)then
    (bif (E6 (r1.1.length:Int) 0)then UM ()else some false).bind fun r4=>
    some ((E6 (r1.1.length:Int) 0)&&r4)
   else
    (OP (t_0.1,(r1.1,t_0.2.2))).bind fun r5=>
    bif (r5.2.1||(!(E6 r5.2.2 0)))then
     some false
    else
     (nP ((t_0.1,(r1.1,t_0.2.2)),r1.1,(r1.1.length:Int),0)).bind fun r9=>
     match r9 with
     | .inl y10=>
      (UM ()).bind fun r11=>
      some r11
     | .inr y10'=>
      some y10'
end
end Go.Ev.Pv
