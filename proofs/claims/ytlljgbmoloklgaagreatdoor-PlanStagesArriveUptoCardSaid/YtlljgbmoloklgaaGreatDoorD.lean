/-
  The program's functions as plain Lean functions (printed by a program of the author's from the translation).
-/
import Derived.Test.YtlljgbmoloklgaaGreatDoorE4
import Derived.Lib.AtoiAll
import Derived.Lib.ItoaNum
import Derived.Lib.Strings
import Derived.Lib.Join
import Derived.Lib.Split
import Derived.Lib.Repeat
import Derived.Lib.FieldsP
import Derived.Lib.MapU
import Derived.Lib.LastIndexByte
import Derived.Lib.Bytealg
import Derived.Lib.IndexMore
import Derived.Lib.CountLaws
import Derived.Lib.BitFns
import Derived.Sort.Defs
import Derived.Lib.SlicesCompact
set_option linter.unusedVariables false
set_option linter.unusedSimpArgs false
set_option linter.unusedSectionVars false
set_option maxRecDepth 100000
open Go.IntKind hiding min max bits signed
namespace Go.Ev.Pv
def fuel:Nat:=18446744073709551616
def str? (s:DW):Option DW:=bif decide (s.length<=281474976710656)then some s else none
theorem str?_some{s r:DW}(h:str? s=some r):r=s/\s.length<=281474976710656:=by
 unfold str? at h;cases hd:decide (s.length<=281474976710656)with
 |false=>rw[hd]at h;cases h
 |true=>rw[hd]at h;cases h;exact⟨rfl,A9 hd⟩
def HQ{α:Type}(c:Prop) [Decidable c](x:Option α):Option α:=bif decide c then x else none
theorem LM{α:Type}{c:Prop}{_:Decidable c}{x:Option α}{r:α}(h:HQ c x=some r):c/\x=some r:=by
 unfold HQ at h;cases hd:decide c with
 |false=>rw[hd]at h;cases h
 |true=>rw[hd]at h;exact⟨A9 hd,h⟩
def KY:Nat->Nat->DW
 |0,_=>[]
 |k+1,u=>if u<10 then [UInt8.ofNat (48+u)]else KY k (u / 10)++[UInt8.ofNat (48+u % 10)]
theorem xD:∀(k u:Nat),u<10 ^ k->1<=k->KY k u=Lib.decDigits u:=by
 intro k;induction k with
 |zero=>intro u _ h;omega
 |succ k ih=>
  intro u hu _;rw[Lib.decDigits];simp only[KY];by_cases h:u<10
  .rw[if_pos h,dif_pos h]
  .rw[if_neg h,dif_neg h]
   have hk:1<=k:=by
    rcases k with _|k
    .simp at hu;omega
    .omega
   rw[ih (u / 10) (by rw[Nat.pow_succ]at hu;omega) hk]
def NP(n:Int):DW:=if n<0 then 45::KY 20 n.natAbs else KY 20 n.toNat
theorem ABR{n:Int}(h0:-9223372036854775808<=n)(h1:n<=9223372036854775807):NP n=Lib.itoa n:=by
 unfold NP Lib.itoa;rw[xD 20 n.natAbs o5 od,xD 20 n.toNat o5 od]
theorem xE:∀(k u:Nat),(KY k u).length<=k:=by
 intro k;induction k with
 |zero=>intro u;exact AB _
 |succ k ih=>
  intro u;simp only[KY];split
  .simp
  .have:=ih (u / 10);simp only[A6,AF,AW];omega
theorem xF(n:Int):(NP n).length<=21:=by
 unfold NP;split
 .have:=xE 20 n.natAbs;simp only[AF];omega
 .have:=xE 20 n.toNat;omega
def strings_Join:(List (List UInt8))×(List UInt8)->Option (List UInt8):=λx=>HQ (x.1.length<=140737488355328/\(Lib.join x.1 x.2).length<=140737488355328) (some (Lib.join x.1 x.2))
def U5:List UInt8->Option (List UInt8):=λs=>HQ (s.length<35184372088832) (str? (Lib.toLowerD s))
def strconv_Itoa:Int->Option (List UInt8):=λn=>some (NP n)
def strings_IndexByte:(List UInt8)×Int->Option (Int):=λx=>HQ (x.1.length<4611686018427387904) (some (Lib.indexByte x.1 x.2.toNat.toUInt8))
def strings_LastIndexByte:(List UInt8)×Int->Option (Int):=λx=>HQ (x.1.length<4611686018427387904) (some (Lib.lastIndexByte ⟨x.1.toArray⟩ x.2))
def strings_Cut:(List UInt8)×(List UInt8)->Option ((List UInt8)×(List UInt8)×Bool):=λx=>HQ (x.1.length<4294967281) (some (Lib.cut x.1 x.2))
def strings_Repeat:(List UInt8)×Int->Option (List UInt8):=λx=>HQ (0<=x.2/\x.1.length*x.2.toNat<=140737488355328) (some (Lib.repeatL x.1 x.2.toNat))
def strings_Split:(List UInt8)×(List UInt8)->Option (List (List UInt8)):=λx=>
 HQ (x.1.length<4294967281/\1<=x.2.length) (some ((Lib.splitB ⟨x.2.toArray⟩ 0 (Lib.countB ⟨x.1.toArray⟩ ⟨x.2.toArray⟩) ⟨x.1.toArray⟩).map λb=>b.data.toList))
def YT:List UInt8->Option (Int×Unit):=λs=>HQ (s.length<=281474976710656) (match Lib.atoiAll s with
 | .ok v=>some (v,())
 | .range=>some (Lib.atoiSat s,())
 |_=>some (0,()))
noncomputable def QZ:(List UInt8)×(Int->Option Bool)->Option (List (List UInt8)):=λx=>
 @HQ _ (x.1.length<=4294967296/\(∀r:Nat,r<=1114111->∃b,x.2 (r:Int)=some b)/\(Lib.goFieldsP (λr=>(x.2 (r:Int)).getD false) ⟨x.1.toArray⟩).length<=281474976710656) (Classical.propDecidable _) (some ((Lib.goFieldsP (λr=>(x.2 (r:Int)).getD false) ⟨x.1.toArray⟩).map λb=>b.data.toList))
def strings_HasPrefix:(List UInt8)×(List UInt8)->Option (Bool):=λx=>some (Lib.hasPrefix x.1 x.2)
def strings_TrimPrefix:(List UInt8)×(List UInt8)->Option (List UInt8):=λx=>some (Lib.trimPrefix x.1 x.2)
def strings_CutPrefix:(List UInt8)×(List UInt8)->Option ((List UInt8)×Bool):=λx=>some (Lib.trimPrefix x.1 x.2,Lib.hasPrefix x.1 x.2)
def YU:List Int->Option (List Int):=λxs=>some xs
def MO:List Int->Option (List UInt8):=λxs=>some (HH xs)
section
variable{T:Type}
def IY(xs:List T)(F:T×T->Option Int)(i j:Fin xs.length):Int:=(F (xs.get i,xs.get j)).getD 0
def HZ(xs:List T)(F:T×T->Option Int)(i j:Fin xs.length):Bool:=decide (IY xs F i j<0)
def Q_(xs:List T)(F:T×T->Option Int):Prop:=
 (∀i j:Fin xs.length,(F (xs.get i,xs.get j)).isSome=true)/\(∀i:Fin xs.length,HZ xs F i i=false)/\
 (∀i j k:Fin xs.length,HZ xs F i j=true->HZ xs F j k=true->HZ xs F i k=true)/\(∀i j k:Fin xs.length,HZ xs F i j=false->HZ xs F j k=false->HZ xs F i k=false)
instance{xs:List T}{F:T×T->Option Int}:Decidable (Q_ xs F):=by unfold Q_;infer_instance
def YV{α:Type} [Inhabited α](lt:α->α->Bool):Nat->Nat->Array α->Array α
 |0,_,d=>d
 |n+1,i,d=>YV lt n (i+1) (Sort.insInner lt 0 i d)
theorem ABS{α:Type} [Inhabited α](lt:α->α->Bool):∀(n i:Nat) (d:Array α),Sort.insOuter lt 0 (i+n) i d=YV lt n i d:=by
 intro n;induction n with
 |zero=>intro i d;rw[Sort.insOuter,if_neg o5];rfl
 |succ n ih=>intro i d;rw[Sort.insOuter,if_pos o5,show i+(n+1)=(i+1)+n by omega,ih];rfl
def H6(xs:List T)(F:T×T->Option Int)(h:0<xs.length):Array (Fin xs.length):=
 haveI:Inhabited (Fin xs.length):=⟨⟨0,h⟩⟩
 if xs.length<=12 then YV (HZ xs F) (xs.length-1) 1 (Array.ofFn id)else Sort.pdq (HZ xs F) (Array.ofFn id) 0 xs.length (Lib.bitLen xs.length) true true
theorem ABT{α:Type} [Inhabited α](lt:α->α->Bool)(d:Array α)(n lim:Nat)(h:0<n)(h12:n<=12):Sort.pdq lt d 0 n lim true true=YV lt (n-1) 1 d:=by
 rw[Sort.pdq,if_pos o5,Sort.insertionSort];have:=ABS lt (n-1) 1 d;rw[show 1+(n-1)=n by omega]at this;exact this
theorem jP(xs:List T)(F:T×T->Option Int)(h:0<xs.length):
 H6 xs F h= @Sort.pdq _ ⟨⟨0,h⟩⟩ (HZ xs F) (Array.ofFn id) 0 xs.length (Lib.bitLen xs.length) true true:=by
 unfold H6;split
 .rename_i h12;exact(@ABT _ ⟨⟨0,h⟩⟩ (HZ xs F) (Array.ofFn id) xs.length _ h h12).symm
 .rfl
def KA(xs:List T)(F:T×T->Option Int):Option (List T):=
 if h:0<xs.length then HQ (Q_ xs F) (some ((H6 xs F h).toList.map xs.get))else some []
end
def jQ:(List ((Int×(List UInt8)×Bool×(List UInt8))×(Int×(List UInt8)×Bool×(List UInt8))))×((((Int×(List UInt8)×Bool×(List UInt8))×(Int×(List UInt8)×Bool×(List UInt8)))×((Int×(List UInt8)×Bool×(List UInt8))×(Int×(List UInt8)×Bool×(List UInt8))))->Option Int)->Option (List ((Int×(List UInt8)×Bool×(List UInt8))×(Int×(List UInt8)×Bool×(List UInt8)))):=λv=>KA v.1 v.2
end Go.Ev.Pv
namespace Go.Ev.Pv
def slices_Sort_string(xs:List (List UInt8)):Option (List (List UInt8)):=some (xs.mergeSort λx y=>decide (x<=y))
def slices_Compact_string(xs:List (List UInt8)):Option (List (List UInt8)):=some (Lib.compact xs)
def YW{α:Type}(l:List α)(i:Int)(v:List α):Option (List α):=
 if 0<=i/\i<=l.length/\v.length=1/\l.length<=1048576 then some (l.take i.toNat++v++l.drop i.toNat)else none
def R0:List ((List UInt8)×(List UInt8))×Int×List ((List UInt8)×(List UInt8))->Option (List ((List UInt8)×(List UInt8))):=λx=>YW x.1 x.2.1 x.2.2
def YX:Unit×Int->Option (List ((List UInt8)×(List UInt8))):=λx=>if 0<=x.2/\x.2<=4194304 then some []else none
def xG:(List ((List UInt8)×(List UInt8)))×((((List UInt8)×(List UInt8))×((List UInt8)×(List UInt8)))->Option Int)->Option (List ((List UInt8)×(List UInt8))):=λx=>KA x.1 x.2
noncomputable section
abbrev G9:=(Bool×Bool×DW)
abbrev FE:=(List (G9×G9))
abbrev ON:=(DW×(Int×FE)×Int)
abbrev H7:=(List ON)
abbrev JD:=(List (DW×DW×H7×Bool))
abbrev D_:=(List (DW×DW))
abbrev I5:=(List (Int×DW))
abbrev GX:=(DW×Int×I5×(List DW)×(List DW))
abbrev KB:=(DW×(List DW)×DW×Int×Bool×DW×(List GX))
abbrev F_:=(JD×H7×Int×D_×(List DW)×Bool×(Int×(List KB)×(List Int)))
abbrev E5:=(Int×DW×DW×Int)
abbrev LN:=((List Int)×(List DW))
abbrev KZ:=(Int×DW×DW×Bool)
abbrev FY:=(Int×(List Int)×Int×Int×Int×Int×(List DW))
abbrev G7:=(Bool×DW×Int)
abbrev GY:=(Sum LN (Sum KZ (Sum FY (Sum (List G7) (Sum Int Unit)))))
abbrev GA:=(Option (F_×(List DW)×(List (List DW))×(List (List Int))×(List (List (List Int)))×(List Int)×Int))
abbrev GZ:=(F_×((List DW)×((List (List DW))×((List (List Int))×((List (List (List Int)))×((List Int)×Int))))))
abbrev JO:=(Int×DW×Bool×DW)
abbrev FF:=(JO×JO)
abbrev FI:=(((DW×DW)×(DW×DW))->Option Int)
abbrev F0:=(DW×Int×Int)
abbrev FJ:=((E5×E5)->Option Int)
abbrev H1:=((DW×DW)×(DW×DW)->Option Int)
abbrev JP:=(DW×DW×DW)
abbrev FN:=(List JP)
abbrev HF:=(DW×(DW×(DW×(DW×(D_×DW)))))
abbrev GQ:=(Int×DW×DW)
abbrev H2:=(E5×E5->Option Int)
abbrev IZ:=(DW×DW×DW×DW×D_×DW)
abbrev IJ:=(List (GQ×Bool))
abbrev IK:=(List (Int×Bool))
abbrev HR:=(Sum (Unit) (Int))
abbrev JQ:=(List (Int×FE))
abbrev OO:=(DW×Int×Bool×Bool×Int)
abbrev KC:=((List DW)×Bool)
abbrev K_:=((List E5)×Int)
abbrev M5:=(Int->Option Bool)
abbrev jR:=(Sum (FN×IK×F_×IJ) (FN×IK×Bool×F_×IJ))
abbrev M6:=(Sum (Unit) (Bool))
abbrev jS:=(Sum ((List D_)×GA×Int) (Bool×(List D_)×GA×Int))
abbrev Rd(A B:Type):=(A->Option B)->A->Option B
def xH:Rd ((List Int)×Int×Int) (List Int):=λa (b,c,d)=>
 bif (decide (d<c))then
  (in? b.length d).bind λ_=>
  bif ((decide (65<=(b.getD d.toNat 0)))&&(decide ((b.getD d.toNat 0)<=90)))then
   (in? b.length d).bind λ_=>
   a ((b.set d.toNat (u8.wrap ((u8.wrap ((b.getD d.toNat 0)+97))-65))),c,(i64.wrap (d+1)))
  else
   a (b,c,(i64.wrap (d+1)))
 else
  some b
def jT:=EE xH fuel
def OP:DW->Option DW:=λa=>
 (jT ((FV a),((FV a).length:Int),0)).bind λa=>
 (cat? [] (HH a)).bind λa=>
 some a
def MP:F0×Int->Option F0:=λ(a,b)=>
 bif (decide (a.2.2<0))then
  some (a.1,(a.2.1,b))
 else
  some a
def M7:Option F0->Option (Int):=λa=>
 (a).bind λb=>
 (a).bind λc=>
 bif (decide (b.2.1<(c.1.length:Int)))then
  (a).bind λb=>
  (a).bind λa=>
  (at? b.1 a.2.1).bind λa=>
  some (a.toNat:Int)
 else
  some 0
def U6:Int->Option (Bool):=λa=>
 some (((decide (97<=a))&&(decide (a<=122)))||((decide (65<=a))&&(decide (a<=90))))
def xI:Rd (F0×Int) (Sum F0 (F0×DW)):=λa (b,c)=>
 bif (decide (c<4))then
  (bif (!(decide ((b.1.length:Int)<=c)))then cut? b.1 c (i64.wrap (c+1))else some []).bind λd=>
  (bif (!(decide ((b.1.length:Int)<=c)))then OP d else some []).bind λd=>
  (bif (!(decide ((b.1.length:Int)<=c)))then cut? [112,107,103,58] c (i64.wrap (c+1))else some []).bind λe=>
  bif ((decide ((b.1.length:Int)<=c))||(!(EG d e)))then
   (MP (b,c)).bind λd=>
   some (.inr (d,[]))
  else
   a (b,(i64.wrap (c+1)))
 else
  some (.inl b)
def jU:=EE xI fuel
def xJ:Rd F0 F0:=λa b=>
 (bif (decide (b.2.1<(b.1.length:Int)))then at? b.1 b.2.1 else some 0).bind λc=>
 (bif (decide (b.2.1<(b.1.length:Int)))then U6 (c.toNat:Int)else some false).bind λc=>
 bif ((decide (b.2.1<(b.1.length:Int)))&&c)then
  a (b.1,((i64.wrap (b.2.1+1)),b.2.2))
 else
  some b
def jV:=EE xJ fuel
def YY:F0×Bool->Option F0:=λ(a,b)=>
 bif b then
  some (a.1,((i64.wrap (a.2.1+1)),a.2.2))
 else
  (jV a).bind λa=>
  some a
def YZ:F0×Bool->Option (DW×F0):=λ(a,b)=>
 (jU (a,0)).bind λa=>
 match a with
 | .inl a=>
  (bif b then M7 (some (a.1,(4,a.2.2)))else some 0).bind λc=>
  (YY ((a.1,(4,a.2.2)),(b&&(E1 c 42)))).bind λa=>
  (cut? a.1 4 a.2.1).bind λb=>
  (bif (!(EG b []))then M7 (some a)else some 0).bind λc=>
  bif ((EG b [])||(!(E1 c 47)))then
   (MP (a,a.2.1)).bind λc=>
   some ([],c)
  else
   (OP b).bind λb=>
   some (b,(a.1,((i64.wrap (a.2.1+1)),a.2.2)))
 | .inr a=>
  some (a.2,a.1)
def Y_:Int->Option (Int):=λa=>
 bif ((decide (48<=a))&&(decide (a<=57)))then
  some (i64.wrap (u8.wrap (a-48)))
 else
  bif ((decide (97<=a))&&(decide (a<=102)))then
   some (i64.wrap ((i64.wrap (u8.wrap (a-97)))+10))
  else
   bif ((decide (65<=a))&&(decide (a<=70)))then
    some (i64.wrap ((i64.wrap (u8.wrap (a-65)))+10))
   else
    some (-1:Int)
def Z0:F0×Int×Int×Bool->Option (F0×Int):=λ(a,b,c,d)=>
 bif d then
  (at? a.1 (i64.wrap (a.2.1+b))).bind λb=>
  (Y_ (b.toNat:Int)).bind λb=>
  some (a,b)
 else
  some (a,c)
def xK:Rd (F0×Int×Int) (Sum (F0×Int) (F0×Int×Bool)):=λa (b,c,d)=>
 bif (decide (d<=2))then
  (Z0 (b,d,(-1:Int),(decide ((i64.wrap (b.2.1+d))<(b.1.length:Int))))).bind λe=>
  bif (decide (e.2<0))then
   (MP (e.1,(i64.wrap (e.1.2.1+d)))).bind λf=>
   some (.inr (f,0,false))
  else
   a (e.1,(i64.wrap ((i64.wrap (16*c))+e.2)),(i64.wrap (d+1)))
 else
  some (.inl (b,c))
def jW:=EE xK fuel
def Z1:DW×Int×Int->Option (Int×Bool×F0):=λa=>
 bif (decide ((a.1.length:Int)<=a.2.1))then
  some (0,false,a)
 else
  (at? a.1 a.2.1).bind λb=>
  bif (!(E1 (b.toNat:Int) 37))then
   let c:=((decide ((b.toNat:Int)<33))||(decide (126<(b.toNat:Int))))
   (bif (!c)then strings_IndexByte ([47,64,63,35,38,61],(b.toNat:Int))else some 0).bind λd=>
   bif (c||(decide (0<=d)))then
    some (0,false,a)
   else
    some ((b.toNat:Int),true,(a.1,((i64.wrap (a.2.1+1)),a.2.2)))
  else
   (jW (a,0,1)).bind λa=>
   match a with
   | .inl a=>
    some ((u8.wrap a.2),true,(a.1.1,((i64.wrap (a.1.2.1+3)),a.1.2.2)))
   | .inr a=>
    some (a.2.1,a.2.2,a.1)
def xL:Rd (F0×(List Int)) (F0×(List Int)):=λa (b,c)=>
 bif (decide (b.2.2<0))then
  (Z1 b).bind λd=>
  bif (!d.2.1)then
   some (d.2.2,c)
  else
   (app? 24 c [d.1]).bind λe=>
   a (d.2.2,e)
 else
  some (b,c)
def jX:=EE xL fuel
def OQ:DW×Int×Int->Option (DW×F0):=λa=>
 (jX (a,[])).bind λa=>
 bif (E1 (a.2.length:Int) 0)then
  (MP (a.1,a.1.2.1)).bind λb=>
  (cat? [] (HH a.2)).bind λc=>
  some (c,b)
 else
  (cat? [] (HH a.2)).bind λb=>
  some (b,a.1)
def xM:Rd (F0×(List DW)) (F0×(List DW)):=λa (b,c)=>
 (bif (decide (b.2.2<0))then M7 (some b)else some 0).bind λd=>
 bif ((decide (b.2.2<0))&&(E1 d 47))then
  (OQ (b.1,((i64.wrap (b.2.1+1)),b.2.2))).bind λd=>
  (app? 24 c [d.1]).bind λe=>
  a (d.2,e)
 else
  some (b,c)
def jY:=EE xM fuel
def U7:DW×Int×Int->Option ((List DW)×F0):=λa=>
 (OQ a).bind λa=>
 (jY (a.2,[a.1])).bind λa=>
 some (a.2,a.1)
def U8:Int×Bool->Option (Bool):=λ(a,b)=>
 bif ((decide (97<=a))&&(decide (a<=122)))then
  some true
 else
  some ((!b)&&(((((decide (48<=a))&&(decide (a<=57)))||(E1 a 46))||(E1 a 45))||(E1 a 95)))
def xN:Rd (F0×Int) F0:=λa (b,c)=>
 (bif (decide (b.2.1<(b.1.length:Int)))then at? b.1 b.2.1 else some 0).bind λd=>
 (bif (decide (b.2.1<(b.1.length:Int)))then U8 ((d.toNat:Int),(E1 b.2.1 c))else some false).bind λd=>
 bif ((decide (b.2.1<(b.1.length:Int)))&&d)then
  a ((b.1,((i64.wrap (b.2.1+1)),b.2.2)),c)
 else
  some b
def jZ:=EE xN fuel
def Z2:DW×Int×Int->Option ((DW×DW)×F0):=λa=>
 (jZ (a,a.2.1)).bind λb=>
 (cut? b.1 a.2.1 b.2.1).bind λa=>
 (bif (!(EG a []))then M7 (some b)else some 0).bind λc=>
 bif ((EG a [])||(!(E1 c 61)))then
  (MP (b,b.2.1)).bind λc=>
  some (([],[]),c)
 else
  (OQ (b.1,((i64.wrap (b.2.1+1)),b.2.2))).bind λb=>
  some ((a,b.1),b.2)
def Z3:F0×HF×Bool->Option (F0×HF):=λ(a,b,c)=>
 bif c then
  (OQ (a.1,((i64.wrap (a.2.1+1)),a.2.2))).bind λc=>
  some (c.2,(b.1,(b.2.1,(b.2.2.1,(c.1,(b.2.2.2.2.1,b.2.2.2.2.2))))))
 else
  some (a,(b.1,(b.2.1,(b.2.2.1,(b.2.2.2.1,(b.2.2.2.2.1,b.2.2.2.2.2))))))
def xO:Rd (F0×HF×Int) (F0×HF):=λa (b,c,d)=>
 let e:=((decide (b.2.2<0))&&(decide (b.2.1<(b.1.length:Int))))
 (bif e then M7 (some b)else some 0).bind λf=>
 bif (e&&(E1 f d))then
  (Z2 (b.1,((i64.wrap (b.2.1+1)),b.2.2))).bind λd=>
  (app? 48 c.2.2.2.2.1 [d.1]).bind λe=>
  a (d.2,(c.1,(c.2.1,(c.2.2.1,(c.2.2.2.1,(e,c.2.2.2.2.2))))),38)
 else
  some (b,(c.1,(c.2.1,(c.2.2.1,(c.2.2.2.1,(c.2.2.2.2.1,c.2.2.2.2.2))))))
def j_:=EE xO fuel
def Z4:F0×HF×Bool->Option (F0×HF):=λ(a,b,c)=>
 bif c then
  (U7 (a.1,((i64.wrap (a.2.1+1)),a.2.2))).bind λc=>
  (strings_Join (c.1,[47])).bind λd=>
  some (c.2,(b.1,(b.2.1,(b.2.2.1,(b.2.2.2.1,(b.2.2.2.2.1,d))))))
 else
  some (a,(b.1,(b.2.1,(b.2.2.1,(b.2.2.2.1,(b.2.2.2.2.1,b.2.2.2.2.2))))))
def Z5:DW×Int×Int->Option (HF×F0):=λa=>
 (YZ (a,false)).bind λa=>
 bif (decide (0<=a.2.2.2))then
  some ((a.1,([],([],([],([],[]))))),a.2)
 else
  (U7 a.2).bind λb=>
  (cut? b.1 0 (i64.wrap ((b.1.length:Int)-1))).bind λc=>
  (strings_Join (c,[47])).bind λc=>
  (at? b.1 (i64.wrap ((b.1.length:Int)-1))).bind λd=>
  (bif (decide (b.2.2.2<0))then M7 (some b.2)else some 0).bind λe=>
  (Z3 (b.2,(a.1,(c,(d,([],([],[]))))),((decide (b.2.2.2<0))&&(E1 e 64)))).bind λa=>
  (j_ (a.1,(a.2.1,(a.2.2.1,(a.2.2.2.1,(a.2.2.2.2.1,(a.2.2.2.2.2.1,a.2.2.2.2.2.2))))),63)).bind λa=>
  (bif (decide (a.1.2.2<0))then M7 (some a.1)else some 0).bind λb=>
  (Z4 (a.1,(a.2.1,(a.2.2.1,(a.2.2.2.1,(a.2.2.2.2.1,(a.2.2.2.2.2.1,a.2.2.2.2.2.2))))),((decide (a.1.2.2<0))&&(E1 b 35)))).bind λa=>
  bif ((decide (a.1.2.2<0))&&(decide (a.1.2.1<(a.1.1.length:Int))))then
   (MP (a.1,a.1.2.1)).bind λb=>
   some ((a.2.1,(a.2.2.1,(a.2.2.2.1,(a.2.2.2.2.1,(a.2.2.2.2.2.1,a.2.2.2.2.2.2))))),b)
  else
   some ((a.2.1,(a.2.2.1,(a.2.2.2.1,(a.2.2.2.2.1,(a.2.2.2.2.2.1,a.2.2.2.2.2.2))))),a.1)
def xP:Rd (D_×Int×FI×Int) D_:=λa (b,c,d,e)=>
 (bif (decide (c<e))then in? b.length e else some ()).bind λ_=>
 (bif (decide (c<e))then in? b.length (i64.wrap (e-1))else some ()).bind λ_=>
 (bif (decide (c<e))then d ((b.getD e.toNat ([],[])),(b.getD ((i64.wrap (e-1)).toNat) ([],[])))else some 0).bind λf=>
 bif ((decide (c<e))&&(decide (f<0)))then
  (in? b.length (i64.wrap (e-1))).bind λ_=>
  let f:=(b.getD ((i64.wrap (e-1)).toNat) ([],[]))
  (in? b.length e).bind λ_=>
  (in? b.length e).bind λ_=>
  (in? (b.set e.toNat f).length (i64.wrap (e-1))).bind λ_=>
  a (((b.set e.toNat f).set ((i64.wrap (e-1)).toNat) (b.getD e.toNat ([],[]))),c,d,(i64.wrap (e-1)))
 else
  some b
def k9:=EE xP fuel
def xQ:Rd (D_×Int×Int×FI×Int) D_:=λa (b,c,d,e,f)=>
 bif (decide (f<d))then
  (k9 (b,c,e,f)).bind λg=>
  a (g,c,d,e,(i64.wrap (f+1)))
 else
  some b
def kC:=EE xQ fuel
def U9:D_×Int×Int×FI->Option D_:=λ(a,b,c,d)=>
 (kC (a,b,c,d,(i64.wrap (b+1)))).bind λa=>
 some a
def xR:Rd (D_×Int×Int×Int×Int) D_:=λa (b,c,d,e,f)=>
 bif (decide (f<e))then
  (in? b.length (i64.wrap (d+f))).bind λ_=>
  let g:=(b.getD ((i64.wrap (d+f)).toNat) ([],[]))
  (in? b.length (i64.wrap (c+f))).bind λ_=>
  (in? b.length (i64.wrap (c+f))).bind λ_=>
  (in? (b.set ((i64.wrap (c+f)).toNat) g).length (i64.wrap (d+f))).bind λ_=>
  a (((b.set ((i64.wrap (c+f)).toNat) g).set ((i64.wrap (d+f)).toNat) (b.getD ((i64.wrap (c+f)).toNat) ([],[]))),c,d,e,(i64.wrap (f+1)))
 else
  some b
def kD:=EE xR fuel
def RA:D_×Int×Int×Int×FI->Option D_:=λ(a,b,c,d,_)=>
 (kD (a,b,c,d,0)).bind λa=>
 some a
def xS:Rd (D_×Int×FI×Int×Int) (D_×Int):=λa (b,c,d,e,f)=>
 bif (!(E1 e f))then
  bif (decide (f<e))then
   (RA (b,(i64.wrap (c-e)),c,f,d)).bind λg=>
   a (g,c,d,(i64.wrap (e-f)),f)
  else
   (RA (b,(i64.wrap (c-e)),(i64.wrap ((i64.wrap (c+f))-e)),e,d)).bind λg=>
   a (g,c,d,e,(i64.wrap (f-e)))
 else
  some (b,e)
def kE:=EE xS fuel
def Z6:D_×Int×Int×Int×FI->Option D_:=λ(a,b,c,d,e)=>
 (kE (a,c,e,(i64.wrap (c-b)),(i64.wrap (d-c)))).bind λa=>
 (RA (a.1,(i64.wrap (c-a.2)),c,a.2,e)).bind λa=>
 some a
def xT(slf:D_×Int×Int×Int×FI->Option D_)(a:D_×Int×FI×Int×Int->Option (D_×Int)):D_×Int×FI×Int×Int->Option (D_×Int):=λ(b,c,d,e,f)=>
 bif (decide (e<f))then
  (shr? u64 (u64.wrap (i64.wrap (e+f))) 1).bind λg=>
  (in? b.length (i64.wrap g)).bind λ_=>
  (in? b.length c).bind λ_=>
  (d ((b.getD ((i64.wrap g).toNat) ([],[])),(b.getD c.toNat ([],[])))).bind λh=>
  bif (decide (h<0))then
   a (b,c,d,(i64.wrap ((i64.wrap g)+1)),f)
  else
   a (b,c,d,e,(i64.wrap g))
 else
  some (b,e)
def kF(slf:D_×Int×Int×Int×FI->Option D_):D_×Int×FI×Int×Int->Option (D_×Int):=EE (xT slf) fuel
def xU(slf:D_×Int×Int×Int×FI->Option D_)(a:D_×Int×Int->Option D_):D_×Int×Int->Option D_:=λ(b,c,d)=>
 bif (decide (d<(i64.wrap (c-1))))then
  (in? b.length (i64.wrap (d+1))).bind λ_=>
  let e:=(b.getD ((i64.wrap (d+1)).toNat) ([],[]))
  (in? b.length d).bind λ_=>
  (in? b.length d).bind λ_=>
  (in? (b.set d.toNat e).length (i64.wrap (d+1))).bind λ_=>
  a (((b.set d.toNat e).set ((i64.wrap (d+1)).toNat) (b.getD d.toNat ([],[]))),c,(i64.wrap (d+1)))
 else
  some b
def kG(slf:D_×Int×Int×Int×FI->Option D_):D_×Int×Int->Option D_:=EE (xU slf) fuel
def xV(slf:D_×Int×Int×Int×FI->Option D_)(a:D_×Int×FI×Int×Int->Option (D_×Int)):D_×Int×FI×Int×Int->Option (D_×Int):=λ(b,c,d,e,f)=>
 bif (decide (e<f))then
  (shr? u64 (u64.wrap (i64.wrap (e+f))) 1).bind λg=>
  (in? b.length c).bind λ_=>
  (in? b.length (i64.wrap g)).bind λ_=>
  (d ((b.getD c.toNat ([],[])),(b.getD ((i64.wrap g).toNat) ([],[])))).bind λh=>
  bif (!(decide (h<0)))then
   a (b,c,d,(i64.wrap ((i64.wrap g)+1)),f)
  else
   a (b,c,d,e,(i64.wrap g))
 else
  some (b,e)
def kH(slf:D_×Int×Int×Int×FI->Option D_):D_×Int×FI×Int×Int->Option (D_×Int):=EE (xV slf) fuel
def xW(slf:D_×Int×Int×Int×FI->Option D_)(a:D_×Int×Int->Option D_):D_×Int×Int->Option D_:=λ(b,c,d)=>
 bif (decide (c<d))then
  (in? b.length (i64.wrap (d-1))).bind λ_=>
  let e:=(b.getD ((i64.wrap (d-1)).toNat) ([],[]))
  (in? b.length d).bind λ_=>
  (in? b.length d).bind λ_=>
  (in? (b.set d.toNat e).length (i64.wrap (d-1))).bind λ_=>
  a (((b.set d.toNat e).set ((i64.wrap (d-1)).toNat) (b.getD d.toNat ([],[]))),c,(i64.wrap (d-1)))
 else
  some b
def kI(slf:D_×Int×Int×Int×FI->Option D_):D_×Int×Int->Option D_:=EE (xW slf) fuel
def Z7(slf:D_×Int×Int×Int×FI->Option D_):Int×Int×Int×Int×Int×Bool->Option (Int×Int):=λ(a,b,c,d,e,f)=>
 bif f then
  some ((i64.wrap (e-c)),d)
 else
  some (a,b)
def xX(slf:D_×Int×Int×Int×FI->Option D_)(a:D_×FI×Int×Int×Int->Option (D_×Int)):D_×FI×Int×Int×Int->Option (D_×Int):=λ(b,c,d,e,f)=>
 bif (decide (d<e))then
  (shr? u64 (u64.wrap (i64.wrap (d+e))) 1).bind λg=>
  (in? b.length (i64.wrap (f-(i64.wrap g)))).bind λ_=>
  (in? b.length (i64.wrap g)).bind λ_=>
  (c ((b.getD ((i64.wrap (f-(i64.wrap g))).toNat) ([],[])),(b.getD ((i64.wrap g).toNat) ([],[])))).bind λh=>
  bif (!(decide (h<0)))then
   a (b,c,(i64.wrap ((i64.wrap g)+1)),e,f)
  else
   a (b,c,d,(i64.wrap g),f)
 else
  some (b,d)
def kJ(slf:D_×Int×Int×Int×FI->Option D_):D_×FI×Int×Int×Int->Option (D_×Int):=EE (xX slf) fuel
def Z8(slf:D_×Int×Int×Int×FI->Option D_):D_×Int×FI×Int×Int×Bool->Option D_:=λ(a,b,c,d,e,f)=>
 bif f then
  (Z6 (a,d,b,e,c)).bind λb=>
  some b
 else
  some a
def Z9(slf:D_×Int×Int×Int×FI->Option D_):D_×Int×FI×Int×Int×Bool->Option D_:=λ(a,b,c,d,e,f)=>
 bif f then
  (slf (a,b,e,d,c)).bind λb=>
  some b
 else
  some a
def kK(slf:D_×Int×Int×Int×FI->Option D_):D_×Int×Int×Int×FI->Option D_:=λ(a,b,c,d,e)=>
 bif (E1 (i64.wrap (c-b)) 1)then
  ((kF slf) (a,b,e,c,d)).bind λf=>
  ((kG slf) (f.1,f.2,b)).bind λf=>
  some f
 else
  bif (E1 (i64.wrap (d-c)) 1)then
   ((kH slf) (a,c,e,b,c)).bind λf=>
   ((kI slf) (f.1,f.2,c)).bind λf=>
   some f
  else
   (shr? u64 (u64.wrap (i64.wrap (b+d))) 1).bind λf=>
   ((Z7 slf) (b,c,d,(i64.wrap f),(i64.wrap ((i64.wrap f)+c)),(decide ((i64.wrap f)<c)))).bind λg=>
   ((kJ slf) (a,e,g.1,g.2,(i64.wrap ((i64.wrap ((i64.wrap f)+c))-1)))).bind λa=>
   let g:=(i64.wrap ((i64.wrap ((i64.wrap f)+c))-a.2))
   ((Z8 slf) (a.1,c,e,a.2,g,((decide (a.2<c))&&(decide (c<g))))).bind λc=>
   ((Z9 slf) (c,b,e,(i64.wrap f),a.2,((decide (b<a.2))&&(decide (a.2<(i64.wrap f)))))).bind λa=>
   bif ((decide ((i64.wrap f)<g))&&(decide (g<d)))then
    (slf (a,(i64.wrap f),g,d,e)).bind λb=>
    some b
   else
    some a
def KD:Nat->D_×Int×Int×Int×FI->Option D_
 |0=>λ_=>none
 |n+1=>kK (KD n)
def UA:D_×Int×Int×Int×FI->Option D_:=KD 100
def xY:Rd (D_×Int×FI×Int×Int×Int) (D_×Int):=λa (b,c,d,e,f,g)=>
 bif (decide (g<=c))then
  (U9 (b,f,g,d)).bind λh=>
  a (h,c,d,e,g,(i64.wrap (g+e)))
 else
  some (b,f)
def kL:=EE xY fuel
def xZ:Rd (D_×Int×FI×Int×Int×Int) (D_×Int):=λa (b,c,d,e,f,g)=>
 bif (decide (g<=c))then
  (UA (b,f,(i64.wrap (f+e)),g,d)).bind λh=>
  a (h,c,d,e,g,(i64.wrap (g+(i64.wrap (2*e)))))
 else
  some (b,f)
def kM:=EE xZ fuel
def x_:Rd (D_×Int×FI×Int) D_:=λa (b,c,d,e)=>
 bif (decide (e<c))then
  (kM (b,c,d,e,0,(i64.wrap (2*e)))).bind λf=>
  bif (decide ((i64.wrap (f.2+e))<c))then
   (UA (f.1,f.2,(i64.wrap (f.2+e)),c,d)).bind λg=>
   a (g,c,d,(i64.wrap (e*2)))
  else
   a (f.1,c,d,(i64.wrap (e*2)))
 else
  some b
def kN:=EE x_ fuel
def ZA:D_×Int×FI->Option D_:=λ(a,b,c)=>
 (kL (a,b,c,20,0,20)).bind λa=>
 (U9 (a.1,a.2,b,c)).bind λa=>
 (kN (a,b,c,20)).bind λa=>
 some a
def ZB:D_×FI->Option D_:=λ(a,b)=>
 (ZA (a,(a.length:Int),b)).bind λa=>
 some a
def RB:DW->Option (Bool):=λa=>
 some (!(EG a a))
def LO:DW×DW->Option (Int):=λ(a,b)=>
 (RB a).bind λc=>
 (RB b).bind λd=>
 bif c then
  bif d then
   some 0
  else
   some (-1:Int)
 else
  bif d then
   some 1
  else
   bif (Op.bytesLess a b)then
    some (-1:Int)
   else
    bif (!(Op.bytesLess a b||EG a b))then
     some 1
    else
     some 0
def ZC:(DW×DW)×(DW×DW)->Option (Int):=λ(a,b)=>
 (LO (a.1,b.1)).bind λa=>
 some a
def ZD:Unit->Option (List OO):=λ_=>
 some [([100,111,116,116,101,100],(2,(true,(false,1)))),([114,101,118,105,115,101,100],(3,(true,(false,2)))),([115,116,97,103,101,100],(1,(true,(true,3)))),([113,117,97,108,105,102,105,101,100],(3,(false,(false,4)))),([112,108,97,105,110],(2,(false,(false,5))))]
def yA:Rd (DW×(List OO)×Int) HR:=λa (b,c,d)=>
 bif (decide (d<5))then
  (at? c d).bind λe=>
  bif (EG e.1 b)then
   some (.inr d)
  else
   a (b,c,(i64.wrap (d+1)))
 else
  some (.inl ())
def kO:=EE yA fuel
def ZE:DW->Option (Int):=λa=>
 (ZD ()).bind λb=>
 (kO (a,b,0)).bind λa=>
 match a with
 | .inl _=>
  some (-1:Int)
 | .inr a=>
  some a
def RC:DW->Option (OO×Int):=λa=>
 (ZE a).bind λa=>
 bif (decide (a<0))then
  some (([],(0,(false,(false,0)))),7)
 else
  (ZD ()).bind λb=>
  (at? b a).bind λa=>
  some (a,0)
def yB:Rd ((List DW)×Int×Int) M6:=λa (b,c,d)=>
 bif (decide (d<c))then
  (at? b d).bind λe=>
  bif (decide (200<(e.length:Int)))then
   some (.inr true)
  else
   a (b,c,(i64.wrap (d+1)))
 else
  some (.inl ())
def kP:=EE yB fuel
def yC:Rd (D_×Int×Int) M6:=λa (b,c,d)=>
 bif (decide (d<c))then
  (at? b d).bind λe=>
  bif ((decide (200<(e.1.length:Int)))||(decide (200<(e.2.length:Int))))then
   some (.inr true)
  else
   a (b,c,(i64.wrap (d+1)))
 else
  some (.inl ())
def kQ:=EE yC fuel
def ZF:DW×DW×DW×DW×D_×DW->Option (Bool):=λa=>
 let b:=[a.2.1,a.2.2.1,a.2.2.2.1,a.2.2.2.2.2]
 (kP (b,(b.length:Int),0)).bind λb=>
 match b with
 | .inl _=>
  (kQ (a.2.2.2.2.1,(a.2.2.2.2.1.length:Int),0)).bind λb=>
  match b with
  | .inl _=>
   some (decide (10<(a.2.2.2.2.1.length:Int)))
  | .inr a=>
   some a
 | .inr a=>
  some a
def RD:DW->Option (List DW):=λa=>
 bif (EG a [])then
  some []
 else
  (strings_Split (a,[47])).bind λa=>
  some a
def yD:Rd (Bool×(List DW)×Int×Int) M6:=λa (b,c,d,e)=>
 bif (decide (e<d))then
  (at? c e).bind λf=>
  bif ((EG f [])||(b&&((EG f [46])||(EG f [46,46]))))then
   some (.inr true)
  else
   a (b,c,d,(i64.wrap (e+1)))
 else
  some (.inl ())
def kR:=EE yD fuel
def UB:(List DW)×Bool->Option (Bool):=λ(a,b)=>
 (kR (b,a,(a.length:Int),0)).bind λb=>
 match b with
 | .inl _=>
  some (decide (10<(a.length:Int)))
 | .inr a=>
  some a
def yE:Rd F0 M6:=λa (b,c,d)=>
 bif (decide (d<c))then
  (at? b d).bind λe=>
  (U8 ((e.toNat:Int),(E1 d 0))).bind λe=>
  bif (!e)then
   some (.inr false)
  else
   a (b,c,(i64.wrap (d+1)))
 else
  some (.inl ())
def kS:=EE yE fuel
def ZG:DW->Option (Bool):=λa=>
 (kS (a,(a.length:Int),0)).bind λb=>
 match b with
 | .inl _=>
  some (!(EG a []))
 | .inr a=>
  some a
def yF:Rd (D_×D_×Int×Int) HR:=λa (b,c,d,e)=>
 bif (decide (e<d))then
  (at? c e).bind λf=>
  (ZG f.1).bind λg=>
  bif (!g)then
   some (.inr 8)
  else
   bif (EG f.2 [])then
    some (.inr 2)
   else
    (bif (decide (0<e))then at? b (i64.wrap (e-1))else some ([],[])).bind λg=>
    bif ((decide (0<e))&&(Op.bytesLess f.1 g.1||EG f.1 g.1))then
     some (.inr 10)
    else
     a (b,c,d,(i64.wrap (e+1)))
 else
  some (.inl ())
def kT:=EE yF fuel
def ZH:List (DW×DW)->Option (Int):=λa=>
 (kT (a,a,(a.length:Int),0)).bind λa=>
 match a with
 | .inl _=>
  some 0
 | .inr a=>
  some a
def yG:Rd F0 M6:=λa (b,c,d)=>
 bif (decide (d<c))then
  (at? b d).bind λe=>
  (bif (!(decide ((e.toNat:Int)<32)))then at? b d else some 0).bind λf=>
  bif ((decide ((e.toNat:Int)<32))||(E1 (f.toNat:Int) 127))then
   some (.inr true)
  else
   a (b,c,(i64.wrap (d+1)))
 else
  some (.inl ())
def kU:=EE yG fuel
def UC:DW->Option (Bool):=λa=>
 (kU (a,(a.length:Int),0)).bind λa=>
 match a with
 | .inl _=>
  some false
 | .inr a=>
  some a
def yH:Rd ((List DW)×Int×Int) HR:=λa (b,c,d)=>
 bif (decide (d<c))then
  (at? b d).bind λe=>
  (UC e).bind λe=>
  bif e then
   some (.inr 8)
  else
   a (b,c,(i64.wrap (d+1)))
 else
  some (.inl ())
def kV:=EE yH fuel
def yI:Rd (D_×Int×Int) HR:=λa (b,c,d)=>
 bif (decide (d<c))then
  (at? b d).bind λe=>
  (UC e.2).bind λe=>
  bif e then
   some (.inr 8)
  else
   a (b,c,(i64.wrap (d+1)))
 else
  some (.inl ())
def kW:=EE yI fuel
def UD:DW×DW×DW×DW×D_×DW->Option (Int):=λa=>
 (RC a.1).bind λb=>
 bif (!(E1 b.2 0))then
  some b.2
 else
  (ZF a).bind λc=>
  bif c then
   some 3
  else
   bif (((!(EG a.2.1 []))&&(E1 b.1.2.1 1))||((EG a.2.1 [])&&(E1 b.1.2.1 3)))then
    some 2
   else
    (RD a.2.1).bind λb=>
    (UB (b,false)).bind λb=>
    bif b then
     some 2
    else
     (bif (!(EG a.2.2.1 []))then strings_IndexByte (a.2.2.1,47)else some 0).bind λb=>
     bif ((EG a.2.2.1 [])||(decide (0<=b)))then
      some 8
     else
      (ZH a.2.2.2.2.1).bind λb=>
      bif (!(E1 b 0))then
       some b
      else
       (RD a.2.2.2.2.2).bind λb=>
       (UB (b,true)).bind λb=>
       bif b then
        some 2
       else
        let b:=[a.2.1,a.2.2.1,a.2.2.2.1,a.2.2.2.2.2]
        (kV (b,(b.length:Int),0)).bind λb=>
        match b with
        | .inl _=>
         (kW (a.2.2.2.2.1,(a.2.2.2.2.1.length:Int),0)).bind λa=>
         match a with
         | .inl _=>
          some 0
         | .inr a=>
          some a
        | .inr a=>
         some a
def UE:Int->Option (Bool):=λa=>
 some (((E1 a 45)||(E1 a 95))||(E1 a 46))
def M8:(List Int)×Int->Option (Unit×(List Int)):=λ(a,b)=>
 (YU a).bind λa=>
 (app? 24 a [b]).bind λa=>
 some ((),a)
def yJ:Rd (DW×(List Int)×Int×Int) (List Int):=λa (b,c,d,e)=>
 bif (decide (e<d))then
  (at? b e).bind λf=>
  (UE (f.toNat:Int)).bind λf=>
  bif (!f)then
   (at? b e).bind λf=>
   (M8 (c,(f.toNat:Int))).bind λf=>
   a (b,f.2,d,(i64.wrap (e+1)))
  else
   (bif (!(E1 e 0))then at? b (i64.wrap (e-1))else some 0).bind λf=>
   (bif (!(E1 e 0))then UE (f.toNat:Int)else some false).bind λf=>
   bif ((E1 e 0)||(!f))then
    (M8 (c,45)).bind λf=>
    a (b,f.2,d,(i64.wrap (e+1)))
   else
    a (b,c,d,(i64.wrap (e+1)))
 else
  some c
def kX:=EE yJ fuel
def ZI:DW->Option DW:=λa=>
 (kX (a,[],(a.length:Int),0)).bind λa=>
 (MO a).bind λa=>
 some a
def ZJ:IZ×Bool->Option IZ:=λ(a,b)=>
 bif b then
  (OP a.2.1).bind λb=>
  (OP a.2.2.1).bind λc=>
  some (a.1,(b,(c,a.2.2.2)))
 else
  some a
def UF:DW×DW×DW×DW×D_×DW->Option IZ:=λa=>
 (RC a.1).bind λb=>
 (ZJ (a,b.1.2.2.1)).bind λa=>
 bif b.1.2.2.2.1 then
  (ZI a.2.2.1).bind λb=>
  (app? 48 [] a.2.2.2.2.1).bind λc=>
  some (a.1,(a.2.1,(b,(a.2.2.2.1,(c,a.2.2.2.2.2)))))
 else
  (app? 48 [] a.2.2.2.2.1).bind λb=>
  some (a.1,(a.2.1,(a.2.2.1,(a.2.2.2.1,(b,a.2.2.2.2.2)))))
def yK:Rd (IZ×HF×Int) (Sum (IZ×HF) (IZ×Int×Int)):=λa (b,c,d)=>
 bif (decide (d<(c.2.2.2.2.1.length:Int)))then
  (in? c.2.2.2.2.1.length d).bind λ_=>
  (in? c.2.2.2.2.1.length (i64.wrap (d-1))).bind λ_=>
  bif (EG ((c.2.2.2.2.1.getD d.toNat ([],[])).1) ((c.2.2.2.2.1.getD ((i64.wrap (d-1)).toNat) ([],[])).1))then
   some (.inr (([],([],([],([],([],[]))))),0,5))
  else
   a (b,(c.1,(c.2.1,(c.2.2.1,(c.2.2.2.1,(c.2.2.2.2.1,c.2.2.2.2.2))))),(i64.wrap (d+1)))
 else
  some (.inl (b,(c.1,(c.2.1,(c.2.2.1,(c.2.2.2.1,(c.2.2.2.2.1,c.2.2.2.2.2)))))))
def kY:=EE yK fuel
def UG:DW->Option (IZ×Int×Int):=λa=>
 bif (decide (3000<(a.length:Int)))then
  some (([],([],([],([],([],[]))))),0,3)
 else
  (Z5 (a,(0,(-1:Int)))).bind λa=>
  bif (decide (0<=a.2.2.2))then
   some (([],([],([],([],([],[]))))),a.2.2.2,6)
  else
   (ZB (a.1.2.2.2.2.1,(λx=>(ZC x).bind λr=>some r))).bind λb=>
   (kY (([],([],([],([],([],[]))))),(a.1.1,(a.1.2.1,(a.1.2.2.1,(a.1.2.2.2.1,(b,a.1.2.2.2.2.2))))),1)).bind λa=>
   match a with
   | .inl a=>
    (UD (a.2.1,(a.2.2.1,(a.2.2.2.1,(a.2.2.2.2.1,(a.2.2.2.2.2.1,a.2.2.2.2.2.2)))))).bind λb=>
    bif (!(E1 b 0))then
     some (([],([],([],([],([],[]))))),0,b)
    else
     (UF (a.2.1,(a.2.2.1,(a.2.2.2.1,(a.2.2.2.2.1,(a.2.2.2.2.2.1,a.2.2.2.2.2.2)))))).bind λa=>
     some (a,0,0)
   | .inr a=>
    some (a.1,a.2.1,a.2.2)
def NQ:(List Int)×DW->Option (Int×Unit×(List Int)):=λ(a,b)=>
 (YU a).bind λa=>
 (app? 24 a (FV b)).bind λa=>
 some ((b.length:Int),(),a)
def yL:Rd (DW×(List Int)×Int×Int) (List Int):=λa (b,c,d,e)=>
 bif (decide (e<d))then
  (at? b e).bind λf=>
  (U6 (f.toNat:Int)).bind λg=>
  let h:=((decide (48<=(f.toNat:Int)))&&(decide ((f.toNat:Int)<=57)))
  (bif (!(g||h))then strings_IndexByte ([46,45,95,126],(f.toNat:Int))else some 0).bind λi=>
  bif ((g||h)||(decide (0<=i)))then
   (M8 (c,(f.toNat:Int))).bind λg=>
   a (b,g.2,d,(i64.wrap (e+1)))
  else
   (div? u8 (f.toNat:Int) 16).bind λg=>
   (div? u8 (f.toNat:Int) 16).bind λh=>
   (cut? [48,49,50,51,52,53,54,55,56,57,65,66,67,68,69,70] g (u8.wrap (h+1))).bind λg=>
   (cat? [37] g).bind λg=>
   (mod? (f.toNat:Int) 16).bind λh=>
   (mod? (f.toNat:Int) 16).bind λf=>
   (cut? [48,49,50,51,52,53,54,55,56,57,65,66,67,68,69,70] h (u8.wrap (f+1))).bind λf=>
   (cat? g f).bind λf=>
   (NQ (c,f)).bind λf=>
   a (b,f.2.2,d,(i64.wrap (e+1)))
 else
  some c
def kZ:=EE yL fuel
def RE:DW->Option DW:=λa=>
 (kZ (a,[],(a.length:Int),0)).bind λa=>
 (MO a).bind λa=>
 some a
def yM:Rd ((List DW)×(List DW)×Int×Int) (List DW):=λa (b,c,d,e)=>
 bif (decide (e<d))then
  (at? c e).bind λf=>
  (RE f).bind λf=>
  (app? 24 b [f]).bind λf=>
  a (f,c,d,(i64.wrap (e+1)))
 else
  some b
def k_:=EE yM fuel
def ZK:DW->Option DW:=λa=>
 (RD a).bind λa=>
 (k_ ([],a,(a.length:Int),0)).bind λa=>
 (strings_Join (a,[47])).bind λa=>
 some a
def ZL:DW×DW×DW×DW×D_×DW->Option DW:=λa=>
 (cat? [112,107,103,58] a.1).bind λb=>
 (cat? b [47]).bind λb=>
 bif (!(EG a.2.1 []))then
  (ZK a.2.1).bind λc=>
  (cat? c [47]).bind λc=>
  (cat? b c).bind λc=>
  (RE a.2.2.1).bind λd=>
  (cat? c d).bind λc=>
  some c
 else
  (RE a.2.2.1).bind λa=>
  (cat? b a).bind λa=>
  some a
def UH:DW×DW×DW×DW×D_×DW->Option (DW×Int):=λa=>
 (UD a).bind λb=>
 bif (!(E1 b 0))then
  some ([],b)
 else
  (UF a).bind λa=>
  (ZL a).bind λa=>
  some (a,0)
def NR:DW->Option (Int×Bool):=λa=>
 (UG a).bind λb=>
 bif (!(E1 b.2.2 0))then
  some (0,false)
 else
  (UH b.1).bind λc=>
  bif ((!(E1 c.2 0))||(!(EG c.1 a)))then
   some (0,false)
  else
   (RC b.1.1).bind λa=>
   some (a.1.2.2.2.2,(E1 a.2 0))
def yN:Rd (DW×Int×M5×Int) (Int):=λa (b,c,d,e)=>
 let f:=(decide ((i64.wrap (c+e))<(b.length:Int)))
 (bif f then at? b (i64.wrap (c+e))else some 0).bind λg=>
 (bif f then d (g.toNat:Int)else some false).bind λg=>
 bif (f&&g)then
  a (b,c,d,(i64.wrap (e+1)))
 else
  some e
def lA:=EE yN fuel
def HU:DW×Int×M5->Option (Int):=λ(a,b,c)=>
 (lA (a,b,c,0)).bind λa=>
 some a
def H3:Int->Option (Bool):=λa=>
 some ((decide (48<=a))&&(decide (a<=57)))
def IL:DW->Option (Int×Bool):=λa=>
 let b:=((EG a [])||(decide (18<(a.length:Int))))
 (bif (!b)then HU (a,0,(λx=>(H3 x).bind λr=>some r))else some 0).bind λc=>
 bif (b||(!(E1 c (a.length:Int))))then
  some (0,false)
 else
  (YT a).bind λa=>
  some (a.1,true)
def OR:DW->Option (Int×Bool):=λa=>
 (bif (decide (1<(a.length:Int)))then at? a 0 else some 0).bind λb=>
 bif ((decide (1<(a.length:Int)))&&(E1 (b.toNat:Int) 48))then
  some (0,false)
 else
  (IL a).bind λa=>
  some (a.1,a.2)
def MQ:Int->Option (Bool):=λa=>
 some (((decide (65<=a))&&(decide (a<=90)))||((decide (97<=a))&&(decide (a<=122))))
def ZM:Int->Option (Bool):=λa=>
 (H3 a).bind λb=>
 (bif (!b)then MQ a else some false).bind λc=>
 some ((b||c)||(E1 a 45))
def yO:Rd ((List DW)×Int×Int) (Sum (Unit) KC):=λa (b,c,d)=>
 bif (decide (d<c))then
  (at? b d).bind λe=>
  (bif (!(EG e []))then HU (e,0,(λx=>(ZM x).bind λr=>some r))else some 0).bind λf=>
  bif ((EG e [])||(!(E1 f (e.length:Int))))then
   some (.inr ([],false))
  else
   a (b,c,(i64.wrap (d+1)))
 else
  some (.inl ())
def lB:=EE yO fuel
def UI:DW->Option KC:=λa=>
 (strings_Split (a,[46])).bind λa=>
 (lB (a,(a.length:Int),0)).bind λb=>
 match b with
 | .inl _=>
  some (a,true)
 | .inr a=>
  some (a.1,a.2)
def yP:Rd ((List DW)×Int×Int) (Sum (Unit) KC):=λa (b,c,d)=>
 bif (decide (d<c))then
  (at? b d).bind λe=>
  (HU (e,0,(λx=>(H3 x).bind λr=>some r))).bind λf=>
  bif (E1 f (e.length:Int))then
   (OR e).bind λe=>
   bif (!e.2)then
    some (.inr ([],false))
   else
    a (b,c,(i64.wrap (d+1)))
  else
   a (b,c,(i64.wrap (d+1)))
 else
  some (.inl ())
def lC:=EE yP fuel
def ZN:DW->Option KC:=λa=>
 (UI a).bind λa=>
 (lC (a.1,(a.1.length:Int),0)).bind λb=>
 match b with
 | .inl _=>
  some (a.1,a.2)
 | .inr a=>
  some (a.1,a.2)
def ZO:DW->Option KC:=λa=>
 (strings_Cut (a,[43])).bind λa=>
 (UI a.2.1).bind λb=>
 bif (a.2.2&&(!b.2))then
  some ([],false)
 else
  bif (EG a.1 [])then
   some ([],true)
  else
   (at? a.1 0).bind λb=>
   bif (!(E1 (b.toNat:Int) 45))then
    some ([],false)
   else
    (cut? a.1 1 (a.1.length:Int)).bind λa=>
    (ZN a).bind λa=>
    some (a.1,a.2)
def ZP:DW×Int×Bool->Option (Sum (Int) (GY×Bool)):=λ(a,b,c)=>
 bif c then
  (bif (!(decide ((a.length:Int)<=b)))then at? a b else some 0).bind λc=>
  bif ((decide ((a.length:Int)<=b))||(!(E1 (c.toNat:Int) 46)))then
   some (.inr ((Sum.inr (Sum.inr (Sum.inr (Sum.inr (Sum.inr ()))))),false))
  else
   some (.inl (i64.wrap (b+1)))
 else
  some (.inl b)
def yQ:Rd (DW×LN×Int×Int) (Sum (LN×Int) (GY×Bool)):=λa (b,c,d,e)=>
 bif (decide (e<3))then
  (ZP (b,d,(decide (0<e)))).bind λf=>
  match f with
  | .inl f=>
   (HU (b,f,(λx=>(H3 x).bind λr=>some r))).bind λg=>
   (cut? b f (i64.wrap (f+g))).bind λh=>
   (OR h).bind λh=>
   bif (!h.2)then
    some (.inr ((Sum.inr (Sum.inr (Sum.inr (Sum.inr (Sum.inr ()))))),false))
   else
    (in? 3 e).bind λ_=>
    a (b,((c.1.set e.toNat h.1),c.2),(i64.wrap (f+g)),(i64.wrap (e+1)))
  | .inr a=>
   some (.inr (a.1,a.2))
 else
  some (.inl ((c.1,c.2),d))
def lD:=EE yQ fuel
def ZQ:DW->Option (GY×Bool):=λa=>
 (lD (a,((List.replicate 3 0),[]),0,0)).bind λb=>
 match b with
 | .inl b=>
  (cut? a b.2 (a.length:Int)).bind λa=>
  (ZO a).bind λa=>
  some ((Sum.inl (b.1.1,a.1)),a.2)
 | .inr a=>
  some (a.1,a.2)
def ZR:Int->Option (Bool):=λa=>
 (H3 a).bind λb=>
 (bif (!b)then MQ a else some false).bind λc=>
 (bif (!(b||c))then strings_IndexByte ([46,43,126,45],a)else some 0).bind λa=>
 some ((b||c)||(decide (0<=a)))
def yR:Rd (DW×Int) M6:=λa (b,c)=>
 bif (decide (c<(b.length:Int)))then
  (HU (b,c,(λx=>(H3 x).bind λr=>some r))).bind λd=>
  bif (decide (18<d))then
   some (.inr false)
  else
   a (b,(i64.wrap (c+(T5 d 1))))
 else
  some (.inl ())
def lE:=EE yR fuel
def ZS:DW->Option (Bool):=λa=>
 (lE (a,0)).bind λa=>
 match a with
 | .inl _=>
  some true
 | .inr a=>
  some a
def ZT:DW×KZ×DW×DW×Bool->Option (Sum (DW×KZ) (GY×Bool)):=λ(a,b,c,d,e)=>
 bif e then
  (OR c).bind λc=>
  bif (!c.2)then
   some (.inr ((Sum.inr (Sum.inr (Sum.inr (Sum.inr (Sum.inr ()))))),false))
  else
   some (.inl (d,(c.1,b.2)))
 else
  some (.inl (a,b))
def ZU:DW->Option (GY×Bool):=λa=>
 (strings_Cut (a,[58])).bind λb=>
 (ZT (a,(0,([],([],false))),b.1,b.2.1,b.2.2)).bind λa=>
 match a with
 | .inl a=>
  (bif (!(EG a.1 []))then at? a.1 0 else some 0).bind λb=>
  (bif (!(EG a.1 []))then H3 (b.toNat:Int)else some false).bind λb=>
  (bif (!((EG a.1 [])||(!b)))then HU (a.1,0,(λx=>(ZR x).bind λr=>some r))else some 0).bind λc=>
  let d:=(((EG a.1 [])||(!b))||(!(E1 c (a.1.length:Int))))
  (bif (!d)then ZS a.1 else some false).bind λb=>
  bif (d||(!b))then
   some ((Sum.inr (Sum.inr (Sum.inr (Sum.inr (Sum.inr ()))))),false)
  else
   (strings_LastIndexByte (a.1,45)).bind λb=>
   bif (decide (0<=b))then
    (cut? a.1 0 b).bind λc=>
    (cut? a.1 (i64.wrap (b+1)) (a.1.length:Int)).bind λb=>
    bif (EG b [])then
     some ((Sum.inr (Sum.inr (Sum.inr (Sum.inr (Sum.inr ()))))),false)
    else
     (strings_IndexByte (c,45)).bind λd=>
     some ((Sum.inr (Sum.inl (a.2.1,(c,(b,(decide (0<=d))))))),true)
   else
    (strings_IndexByte (a.1,45)).bind λb=>
    some ((Sum.inr (Sum.inl (a.2.1,(a.1,(a.2.2.2.1,(decide (0<=b))))))),true)
 | .inr a=>
  some (a.1,a.2)
def yS:Rd (DW×(List Int)) ((List Int)×DW×Bool):=λa (b,c)=>
 (HU (b,0,(λx=>(H3 x).bind λr=>some r))).bind λd=>
 (cut? b 0 d).bind λe=>
 (IL e).bind λe=>
 bif (!e.2)then
  some ([],[],false)
 else
  (app? 24 c [e.1]).bind λc=>
  (cut? b d (b.length:Int)).bind λb=>
  (bif (!(decide ((b.length:Int)<2)))then at? b 0 else some 0).bind λd=>
  let e:=((decide ((b.length:Int)<2))||(!(E1 (d.toNat:Int) 46)))
  (bif (!e)then at? b 1 else some 0).bind λd=>
  (bif (!e)then H3 (d.toNat:Int)else some false).bind λd=>
  bif (e||(!d))then
   some (c,b,true)
  else
   (cut? b 1 (b.length:Int)).bind λb=>
   a (b,c)
def lF:=EE yS fuel
def ZV:DW->Option ((List Int)×DW×Bool):=λa=>
 (lF (a,[])).bind λa=>
 some (a.1,a.2.1,a.2.2)
def lG:Int->Option (Bool):=λa=>
 some (((E1 a 46)||(E1 a 45))||(E1 a 95))
def UJ:DW×M5->Option (Int):=λ(a,b)=>
 (bif (decide (1<(a.length:Int)))then at? a 0 else some 0).bind λc=>
 (bif (decide (1<(a.length:Int)))then lG (c.toNat:Int)else some false).bind λc=>
 (bif ((decide (1<(a.length:Int)))&&c)then at? a 1 else some 0).bind λd=>
 (bif ((decide (1<(a.length:Int)))&&c)then b (d.toNat:Int)else some false).bind λb=>
 bif (((decide (1<(a.length:Int)))&&c)&&b)then
  some 1
 else
  some 0
def yT:Rd (DW×DW×(List DW)×Int×Int) DW:=λa (b,c,d,e,f)=>
 bif (decide (f<e))then
  (at? d f).bind λg=>
  (strings_HasPrefix (b,g)).bind λh=>
  bif h then
   some g
  else
   a (b,c,d,e,(i64.wrap (f+1)))
 else
  some c
def lH:=EE yT fuel
def ZW:DW×Bool->Option (Bool):=λ(a,b)=>
 bif b then
  some b
 else
  some (EG a [97,108,112,104,97])
def ZX:DW×Bool->Option (Bool):=λ(a,b)=>
 bif b then
  some b
 else
  some (EG a [98,101,116,97])
def ZY:DW×Bool->Option (Bool):=λ(a,b)=>
 bif b then
  some b
 else
  bif (EG a [114,99])then
   some (EG a [114,99])
  else
   bif (EG a [112,114,101])then
    some (EG a [112,114,101])
   else
    some (EG a [112,114,101,118,105,101,119])
def ZZ:DW->Option F0:=λa=>
 let b:=[[112,114,101,118,105,101,119],[97,108,112,104,97],[98,101,116,97],[112,111,115,116],[112,114,101],[114,101,118],[100,101,118],[114,99],[97],[98],[99],[114]]
 (lH (a,[],b,(b.length:Int),0)).bind λa=>
 bif (EG a [])then
  some ([],0,0)
 else
  (ZW (a,(EG a [97]))).bind λb=>
  bif b then
   some (a,1,1)
  else
   (ZX (a,(EG a [98]))).bind λb=>
   bif b then
    some (a,1,2)
   else
    (ZY (a,(EG a [99]))).bind λb=>
    bif b then
     some (a,1,3)
    else
     bif (EG a [112,111,115,116])then
      bif (EG a [112,111,115,116])then
       some (a,2,0)
      else
       some (a,3,0)
     else
      bif (EG a [114,101,118])then
       bif (EG a [114,101,118])then
        some (a,2,0)
       else
        some (a,3,0)
      else
       bif (EG a [114])then
        some (a,2,0)
       else
        some (a,3,0)
def Z_:DW×Int×Int×Bool->Option (Sum (DW×Int) (DW×Bool)):=λ(a,b,c,d)=>
 bif d then
  (HU (a,c,(λx=>(H3 x).bind λr=>some r))).bind λd=>
  (cut? a c (i64.wrap (c+d))).bind λe=>
  (IL e).bind λe=>
  bif (!e.2)then
   some (.inr ([],false))
  else
   (cut? a (i64.wrap (c+d)) (a.length:Int)).bind λc=>
   some (.inl (c,e.1))
 else
  some (.inl (a,b))
def yU:Rd (FY×DW×Int) (FY×DW×Bool):=λa (b,c,d)=>
 (UJ (c,(λx=>(MQ x).bind λr=>some r))).bind λe=>
 (cut? c e (c.length:Int)).bind λe=>
 (ZZ e).bind λf=>
 bif (EG f.1 [])then
  some (b,c,true)
 else
  bif (decide (f.2.1<=d))then
   some (b,[],false)
  else
   (cut? e (f.1.length:Int) (e.length:Int)).bind λc=>
   (UJ (c,(λx=>(H3 x).bind λr=>some r))).bind λd=>
   (bif ((!(decide (0<d)))&&(!(EG c [])))then at? c 0 else some 0).bind λe=>
   (bif ((!(decide (0<d)))&&(!(EG c [])))then H3 (e.toNat:Int)else some false).bind λe=>
   (Z_ (c,0,d,((decide (0<d))||((!(EG c []))&&e)))).bind λc=>
   match c with
   | .inl c=>
    bif (E1 f.2.1 1)then
     a ((b.1,(b.2.1,(f.2.2,(c.2,b.2.2.2.2)))),c.1,f.2.1)
    else
     bif (E1 f.2.1 2)then
      a ((b.1,(b.2.1,(b.2.2.1,(b.2.2.2.1,(c.2,b.2.2.2.2.2))))),c.1,f.2.1)
     else
      bif (E1 f.2.1 3)then
       a ((b.1,(b.2.1,(b.2.2.1,(b.2.2.2.1,(b.2.2.2.2.1,(c.2,b.2.2.2.2.2.2)))))),c.1,f.2.1)
      else
       a (b,c.1,f.2.1)
   | .inr a=>
    some (b,a.1,a.2)
def lI:=EE yU fuel
def aA:FY×DW->Option (DW×Bool×FY):=λ(a,b)=>
 (lI (a,b,0)).bind λa=>
 some (a.2.1,a.2.2,a.1)
def lJ:Int->Option (Bool):=λa=>
 some (((E1 a 46)||(E1 a 45))||(E1 a 95))
def aB:Int->Option (Bool):=λa=>
 (H3 a).bind λb=>
 (bif (!b)then MQ a else some false).bind λa=>
 some (b||a)
def yV:Rd (Int×(List DW)×Int×Int) (Sum (Int) KC):=λa (b,c,d,e)=>
 bif (decide (e<d))then
  (at? c e).bind λf=>
  (HU (f,0,(λx=>(H3 x).bind λr=>some r))).bind λg=>
  (HU (f,0,(λx=>(aB x).bind λr=>some r))).bind λh=>
  bif ((!(E1 h (f.length:Int)))||((E1 g (f.length:Int))&&(decide (18<g))))then
   some (.inr ([],false))
  else
   a ((i64.wrap (b+(f.length:Int))),c,d,(i64.wrap (e+1)))
 else
  some (.inl b)
def lK:=EE yV fuel
def aC:DW->Option KC:=λa=>
 (QZ (a,(λx=>(lJ x).bind λr=>some r))).bind λb=>
 (lK ((b.length:Int),b,(b.length:Int),0)).bind λc=>
 match c with
 | .inl c=>
  some (b,((decide (0<(b.length:Int)))&&(E1 (i64.wrap (c-1)) (a.length:Int))))
 | .inr a=>
  some (a.1,a.2)
def aD:DW×FY×Int×Bool->Option (Sum (DW×FY) (GY×Bool)):=λ(a,b,c,d)=>
 bif d then
  (cut? a 0 c).bind λd=>
  (IL d).bind λd=>
  bif (!d.2)then
   some (.inr ((Sum.inr (Sum.inr (Sum.inr (Sum.inr (Sum.inr ()))))),false))
  else
   (cut? a (i64.wrap (c+1)) (a.length:Int)).bind λc=>
   some (.inl (c,(d.1,b.2)))
 else
  some (.inl (a,b))
def aF:DW->Option (GY×Bool):=λa=>
 (strings_TrimPrefix (a,[118])).bind λa=>
 (HU (a,0,(λx=>(H3 x).bind λr=>some r))).bind λb=>
 (bif (decide (b<(a.length:Int)))then at? a b else some 0).bind λc=>
 (aD (a,(0,([],(0,(0,((-1:Int),((-1:Int),[])))))),b,((decide (b<(a.length:Int)))&&(E1 (c.toNat:Int) 33)))).bind λa=>
 match a with
 | .inl a=>
  (ZV a.1).bind λb=>
  bif (!b.2.2)then
   some ((Sum.inr (Sum.inr (Sum.inr (Sum.inr (Sum.inr ()))))),false)
  else
   (aA ((a.2.1,(b.1,a.2.2.2)),b.2.1)).bind λa=>
   bif (!a.2.1)then
    some ((Sum.inr (Sum.inr (Sum.inr (Sum.inr (Sum.inr ()))))),false)
   else
    (strings_CutPrefix (a.1,[43])).bind λb=>
    bif b.2 then
     (aC b.1).bind λb=>
     some ((Sum.inr (Sum.inr (Sum.inl (a.2.2.1,(a.2.2.2.1,(a.2.2.2.2.1,(a.2.2.2.2.2.1,(a.2.2.2.2.2.2.1,(a.2.2.2.2.2.2.2.1,b.1))))))))),b.2)
    else
     some ((Sum.inr (Sum.inr (Sum.inl a.2.2))),(EG a.1 []))
 | .inr a=>
  some (a.1,a.2)
def aG:DW×Bool->Option DW:=λ(a,b)=>
 (U5 a).bind λa=>
 bif ((EG a [97])&&b)then
  some [97,108,112,104,97]
 else
  bif ((EG a [98])&&b)then
   some [98,101,116,97]
  else
   bif ((EG a [109])&&b)then
    some [109,105,108,101,115,116,111,110,101]
   else
    bif (EG a [99,114])then
     some [114,99]
    else
     bif (((EG a [102,105,110,97,108])||(EG a [103,97]))||(EG a [114,101,108,101,97,115,101]))then
      some []
     else
      some a
def RF:Bool×DW×Int->Option (Bool):=λa=>
 some ((a.1&&(EG a.2.1 []))||((!a.1)&&(E1 a.2.2 0)))
def aH:DW×Int×Bool->Option (Sum (Int) (GY×Bool)):=λ(a,b,c)=>
 bif c then
  let c:=(E1 b (i64.wrap ((a.length:Int)-1)))
  (bif (!((E1 b 0)||c))then at? a (i64.wrap (b+1))else some 0).bind λd=>
  (bif (!((E1 b 0)||c))then H3 (d.toNat:Int)else some false).bind λd=>
  (bif ((!((E1 b 0)||c))&&(!d))then at? a (i64.wrap (b+1))else some 0).bind λa=>
  (bif ((!((E1 b 0)||c))&&(!d))then MQ (a.toNat:Int)else some false).bind λa=>
  bif (((E1 b 0)||c)||((!d)&&(!a)))then
   some (.inr ((Sum.inr (Sum.inr (Sum.inr (Sum.inr (Sum.inr ()))))),false))
  else
   some (.inl (i64.wrap (b+1)))
 else
  some (.inl b)
def yW:Rd (DW×(List G7)×Int) (Sum (List G7) (GY×Bool)):=λa (b,c,d)=>
 bif (decide (d<(b.length:Int)))then
  (at? b d).bind λe=>
  (bif (!(E1 (e.toNat:Int) 46))then at? b d else some 0).bind λf=>
  (aH (b,d,((E1 (e.toNat:Int) 46)||(E1 (f.toNat:Int) 45)))).bind λd=>
  match d with
  | .inl d=>
   (HU (b,d,(λx=>(H3 x).bind λr=>some r))).bind λe=>
   bif (decide (0<e))then
    (cut? b d (i64.wrap (d+e))).bind λf=>
    (IL f).bind λf=>
    bif (!f.2)then
     some (.inr ((Sum.inr (Sum.inr (Sum.inr (Sum.inr (Sum.inr ()))))),false))
    else
     (app? 72 c [(false,([],f.1))]).bind λf=>
     a (b,f,(i64.wrap (d+e)))
   else
    (HU (b,d,(λx=>(MQ x).bind λr=>some r))).bind λe=>
    bif (E1 e 0)then
     some (.inr ((Sum.inr (Sum.inr (Sum.inr (Sum.inr (Sum.inr ()))))),false))
    else
     let f:=(decide ((i64.wrap (d+e))<(b.length:Int)))
     (bif f then at? b (i64.wrap (d+e))else some 0).bind λg=>
     (bif f then H3 (g.toNat:Int)else some false).bind λg=>
     (cut? b d (i64.wrap (d+e))).bind λh=>
     (aG (h,(f&&g))).bind λf=>
     (app? 72 c [(true,(f,0))]).bind λf=>
     a (b,f,(i64.wrap (d+e)))
  | .inr a=>
   some (.inr (a.1,a.2))
 else
  some (.inl c)
def lL:=EE yW fuel
def yX:Rd (List G7) (List G7):=λa b=>
 (bif (decide (0<(b.length:Int)))then at? b (i64.wrap ((b.length:Int)-1))else some (false,([],0))).bind λc=>
 (bif (decide (0<(b.length:Int)))then RF c else some false).bind λc=>
 bif ((decide (0<(b.length:Int)))&&c)then
  (cut? b 0 (i64.wrap ((b.length:Int)-1))).bind λc=>
  a c
 else
  some b
def lM:=EE yX fuel
def aI:DW->Option (GY×Bool):=λa=>
 (lL (a,[],0)).bind λa=>
 match a with
 | .inl a=>
  (lM a).bind λa=>
  some ((Sum.inr (Sum.inr (Sum.inr (Sum.inl a)))),true)
 | .inr a=>
  some (a.1,a.2)
def aJ:DW->Option (GY×Bool):=λa=>
 (OR a).bind λa=>
 some ((Sum.inr (Sum.inr (Sum.inr (Sum.inr (Sum.inl a.1))))),a.2)
def IC:Int×DW->Option (GY×Int):=λ(a,b)=>
 bif ((decide (a<1))||(decide (5<a)))then
  some ((Sum.inr (Sum.inr (Sum.inr (Sum.inr (Sum.inr ()))))),7)
 else
  bif ((EG b [])||(decide (100<(b.length:Int))))then
   some ((Sum.inr (Sum.inr (Sum.inr (Sum.inr (Sum.inr ()))))),3)
  else
   bif (E1 a 1)then
    (ZQ b).bind λc=>
    bif (!c.2)then
     some ((Sum.inr (Sum.inr (Sum.inr (Sum.inr (Sum.inr ()))))),6)
    else
     some (c.1,0)
   else
    bif (E1 a 2)then
     (ZU b).bind λc=>
     bif (!c.2)then
      some ((Sum.inr (Sum.inr (Sum.inr (Sum.inr (Sum.inr ()))))),6)
     else
      some (c.1,0)
    else
     bif (E1 a 3)then
      (U5 b).bind λc=>
      (aF c).bind λc=>
      bif (!c.2)then
       some ((Sum.inr (Sum.inr (Sum.inr (Sum.inr (Sum.inr ()))))),6)
      else
       some (c.1,0)
     else
      bif (E1 a 4)then
       (aI b).bind λc=>
       bif (!c.2)then
        some ((Sum.inr (Sum.inr (Sum.inr (Sum.inr (Sum.inr ()))))),6)
       else
        some (c.1,0)
      else
       bif (E1 a 5)then
        (aJ b).bind λa=>
        bif (!a.2)then
         some ((Sum.inr (Sum.inr (Sum.inr (Sum.inr (Sum.inr ()))))),6)
        else
         some (a.1,0)
       else
        bif (!false)then
         some ((Sum.inr (Sum.inr (Sum.inr (Sum.inr (Sum.inr ()))))),6)
        else
         some ((Sum.inr (Sum.inr (Sum.inr (Sum.inr (Sum.inr ()))))),0)
def aK:Int×DW->Option (Int):=λ(a,b)=>
 (IC (a,b)).bind λa=>
 some a.2
def OS:DW×DW->Option (Int×Int):=λ(a,b)=>
 (NR a).bind λa=>
 bif (!a.2)then
  some (0,8)
 else
  (aK (a.1,b)).bind λb=>
  some (a.1,b)
def yY:Rd ((List DW)×(List Int)×Int×Int) (List DW):=λa (b,c,d,e)=>
 bif (decide (e<d))then
  (at? c e).bind λf=>
  (strconv_Itoa f).bind λf=>
  (app? 24 b [f]).bind λf=>
  a (f,c,d,(i64.wrap (e+1)))
 else
  some b
def lN:=EE yY fuel
def UK:List Int->Option DW:=λa=>
 (lN ([],a,(a.length:Int),0)).bind λa=>
 (strings_Join (a,[46])).bind λa=>
 some a
def UL:(List Int)×(List DW)->Option DW:=λa=>
 (cut? a.1 0 (a.1.length:Int)).bind λb=>
 (UK b).bind λb=>
 bif (decide (0<(a.2.length:Int)))then
  (strings_Join (a.2,[46])).bind λa=>
  (cat? [45] a).bind λa=>
  (cat? b a).bind λa=>
  some a
 else
  some b
def yZ:Rd (DW×(List Int)×Int) (List Int):=λa (b,c,d)=>
 bif (decide (d<(b.length:Int)))then
  (HU (b,d,(λx=>(H3 x).bind λr=>some r))).bind λe=>
  bif (E1 e 0)then
   (at? b d).bind λf=>
   (M8 (c,(f.toNat:Int))).bind λf=>
   a (b,f.2,(i64.wrap (d+1)))
  else
   (cut? b d (i64.wrap (d+e))).bind λf=>
   (IL f).bind λf=>
   bif (((!(E1 f.1 0))||(decide ((i64.wrap (d+e))<(b.length:Int))))||(E1 e (b.length:Int)))then
    (strconv_Itoa f.1).bind λf=>
    (NQ (c,f)).bind λf=>
    a (b,f.2.2,(i64.wrap (d+e)))
   else
    a (b,c,(i64.wrap (d+e)))
 else
  some c
def lO:=EE yZ fuel
def UM:DW->Option DW:=λa=>
 (lO (a,[],0)).bind λa=>
 (MO a).bind λa=>
 some a
def UN:Int×DW×DW×Bool->Option DW:=λa=>
 bif (EG a.2.2.1 [])then
  some [48]
 else
  some a.2.2.1
def aL:Int->Option (Bool):=λa=>
 (H3 a).bind λa=>
 some (!a)
def y_:Rd (DW×(List Int)×Int×Int) (List Int):=λa (b,c,d,e)=>
 bif (decide (e<d))then
  (at? b e).bind λf=>
  bif (E1 (f.toNat:Int) 126)then
   (M8 (c,1)).bind λf=>
   a (b,f.2,d,(i64.wrap (e+1)))
  else
   (at? b e).bind λf=>
   (MQ (f.toNat:Int)).bind λf=>
   bif f then
    (at? b e).bind λf=>
    (M8 (c,(f.toNat:Int))).bind λf=>
    a (b,f.2,d,(i64.wrap (e+1)))
   else
    (at? b e).bind λf=>
    (M8 (c,(u8.wrap ((f.toNat:Int)+128)))).bind λf=>
    a (b,f.2,d,(i64.wrap (e+1)))
 else
  some c
def lP:=EE y_ fuel
def aM:DW->Option DW:=λa=>
 (lP (a,[],(a.length:Int),0)).bind λa=>
 (MO a).bind λa=>
 (cat? a [2]).bind λa=>
 some a
def IM:Int->Option DW:=λa=>
 (strconv_Itoa a).bind λa=>
 (strings_Repeat ([48],(i64.wrap (18-(a.length:Int))))).bind λb=>
 (cat? b a).bind λa=>
 some a
def z7:Rd (DW×(List Int)) (List Int):=λa (b,c)=>
 bif (!(EG b []))then
  (HU (b,0,(λx=>(aL x).bind λr=>some r))).bind λd=>
  (HU (b,d,(λx=>(H3 x).bind λr=>some r))).bind λe=>
  (cut? b d (i64.wrap (d+e))).bind λf=>
  (IL f).bind λf=>
  (cut? b 0 d).bind λg=>
  (aM g).bind λg=>
  (IM f.1).bind λf=>
  (cat? g f).bind λf=>
  (NQ (c,f)).bind λf=>
  (cut? b (i64.wrap (d+e)) (b.length:Int)).bind λb=>
  a (b,f.2.2)
 else
  some c
def lQ:=EE z7 fuel
def OT:DW->Option DW:=λa=>
 (lQ (a,[])).bind λa=>
 (MO a).bind λa=>
 (cat? a [2]).bind λa=>
 some a
def aN:KZ×DW×Bool->Option (KZ×DW):=λ(a,b,c)=>
 bif c then
  (strconv_Itoa a.1).bind λc=>
  (cat? c [58]).bind λc=>
  (cat? c b).bind λc=>
  some (a,c)
 else
  some (a,b)
def UO:Int×DW×DW×Bool->Option DW:=λa=>
 (UM a.2.1).bind λb=>
 (aN (a,b,(!(E1 a.1 0)))).bind λa=>
 (UN a.1).bind λb=>
 (OT b).bind λb=>
 (OT [48]).bind λc=>
 bif (!(EG b c))then
  (cat? a.2 [45]).bind λb=>
  (UM a.1.2.2.1).bind λc=>
  (cat? b c).bind λb=>
  some b
 else
  bif a.1.2.2.2 then
   (cat? a.2 [45,48]).bind λb=>
   some b
  else
   some a.2
def z8:Rd (List Int) (List Int):=λa b=>
 (bif (decide (0<(b.length:Int)))then at? b (i64.wrap ((b.length:Int)-1))else some 0).bind λc=>
 bif ((decide (0<(b.length:Int)))&&(E1 c 0))then
  (cut? b 0 (i64.wrap ((b.length:Int)-1))).bind λc=>
  a c
 else
  some b
def lR:=EE z8 fuel
def UP:List Int->Option (List Int):=λa=>
 (lR a).bind λa=>
 some a
def aO:FY×DW×Bool->Option (FY×DW):=λ(a,b,c)=>
 bif c then
  (strconv_Itoa a.1).bind λc=>
  (cat? c [33]).bind λc=>
  some (a,c)
 else
  some (a,b)
def aP:DW×(List Int)×Bool->Option DW:=λ(a,b,c)=>
 bif c then
  (UK b).bind λb=>
  (cat? a b).bind λb=>
  some b
 else
  (cat? a [48]).bind λa=>
  some a
def aQ:FY×DW×Bool->Option (FY×DW):=λ(a,b,c)=>
 bif c then
  (at? [[],[97],[98],[114,99]] a.2.2.1).bind λc=>
  (strconv_Itoa a.2.2.2.1).bind λd=>
  (cat? c d).bind λc=>
  (cat? b c).bind λc=>
  some (a,c)
 else
  some (a,b)
def aR:FY×DW×Bool->Option (FY×DW):=λ(a,b,c)=>
 bif c then
  (strconv_Itoa a.2.2.2.2.1).bind λc=>
  (cat? [46,112,111,115,116] c).bind λc=>
  (cat? b c).bind λc=>
  some (a,c)
 else
  some (a,b)
def aS:FY×DW×Bool->Option (FY×DW):=λ(a,b,c)=>
 bif c then
  (strconv_Itoa a.2.2.2.2.2.1).bind λc=>
  (cat? [46,100,101,118] c).bind λc=>
  (cat? b c).bind λc=>
  some (a,c)
 else
  some (a,b)
def aT:DW×Int×Bool->Option DW:=λ(a,b,c)=>
 bif c then
  (strconv_Itoa b).bind λb=>
  some b
 else
  some a
def zA:Rd (DW×(List DW)×Int×Int) DW:=λa (b,c,d,e)=>
 bif (decide (e<d))then
  (at? c e).bind λf=>
  (IL f).bind λg=>
  (aT (f,g.1,g.2)).bind λf=>
  bif (E1 e 0)then
   (cat? [43] f).bind λg=>
   (cat? b g).bind λg=>
   a (g,c,d,(i64.wrap (e+1)))
  else
   (cat? [46] f).bind λf=>
   (cat? b f).bind λf=>
   a (f,c,d,(i64.wrap (e+1)))
 else
  some b
def lS:=EE zA fuel
def UQ:Int×(List Int)×Int×Int×Int×Int×(List DW)->Option DW:=λa=>
 (aO (a,[],(!(E1 a.1 0)))).bind λa=>
 (UP a.1.2.1).bind λb=>
 (aP (a.2,b,(decide (0<(b.length:Int))))).bind λb=>
 (aQ (a.1,b,(decide (0<a.1.2.2.1)))).bind λa=>
 (aR (a.1,a.2,(decide (0<=a.1.2.2.2.2.1)))).bind λa=>
 (aS (a.1,a.2,(decide (0<=a.1.2.2.2.2.2.1)))).bind λa=>
 (lS (a.2,a.1.2.2.2.2.2.2,(a.1.2.2.2.2.2.2.length:Int),0)).bind λa=>
 some a
def zB:Rd ((List DW)×(List G7)×Int×Int) (List DW):=λa (b,c,d,e)=>
 bif (decide (e<d))then
  (at? c e).bind λf=>
  (RF f).bind λg=>
  bif g then
   (app? 24 b [[48]]).bind λg=>
   a (g,c,d,(i64.wrap (e+1)))
  else
   bif f.1 then
    (app? 24 b [f.2.1]).bind λg=>
    a (g,c,d,(i64.wrap (e+1)))
   else
    (strconv_Itoa f.2.2).bind λf=>
    (app? 24 b [f]).bind λf=>
    a (f,c,d,(i64.wrap (e+1)))
 else
  some b
def lT:=EE zB fuel
def UR:List G7->Option DW:=λa=>
 (lT ([],a,(a.length:Int),0)).bind λa=>
 bif (E1 (a.length:Int) 0)then
  some [48]
 else
  (strings_Join (a,[45])).bind λa=>
  some a
def US:Int->Option DW:=λa=>
 (strconv_Itoa a).bind λa=>
 some a
def zC:Rd ((Int->Option DW)×(List Int)×(List Int)×Int×Int) (List Int):=λa (b,c,d,e,f)=>
 bif (decide (f<e))then
  (at? d f).bind λg=>
  (b g).bind λg=>
  (NQ (c,g)).bind λg=>
  a (b,g.2.2,d,e,(i64.wrap (f+1)))
 else
  some c
def lU:=EE zC fuel
def UT:(List Int)×DW×(Int->Option DW)->Option DW:=λ(a,b,c)=>
 (lU (c,[],a,(a.length:Int),0)).bind λa=>
 (MO a).bind λa=>
 (cat? a b).bind λa=>
 some a
def zD:Rd ((DW->Option DW)×(List Int)×(List DW)×Int×Int) (List Int):=λa (b,c,d,e,f)=>
 bif (decide (f<e))then
  (at? d f).bind λg=>
  (b g).bind λg=>
  (NQ (c,g)).bind λg=>
  a (b,g.2.2,d,e,(i64.wrap (f+1)))
 else
  some c
def lV:=EE zD fuel
def UU:(List DW)×DW×(DW->Option DW)->Option DW:=λ(a,b,c)=>
 (lV (c,[],a,(a.length:Int),0)).bind λa=>
 (MO a).bind λa=>
 (cat? a b).bind λa=>
 some a
def aU:DW->Option DW:=λa=>
 (IL a).bind λb=>
 bif b.2 then
  (IM b.1).bind λb=>
  (cat? [48] b).bind λb=>
  some b
 else
  (cat? [49] a).bind λa=>
  (cat? a [32]).bind λa=>
  some a
def MR:(List Int)×(List DW)->Option DW:=λa=>
 (cut? a.1 0 (a.1.length:Int)).bind λb=>
 (UT (b,[],(λx=>(IM x).bind λr=>some r))).bind λb=>
 bif (E1 (a.2.length:Int) 0)then
  (cat? b [126]).bind λc=>
  some c
 else
  (cat? b [33]).bind λb=>
  (UU (a.2,[33],(λx=>(aU x).bind λr=>some r))).bind λa=>
  (cat? b a).bind λa=>
  some a
def MS:Int×DW×DW×Bool->Option DW:=λa=>
 (IM a.1).bind λb=>
 (OT a.2.1).bind λc=>
 (cat? b c).bind λb=>
 (UN a).bind λa=>
 (OT a).bind λa=>
 (cat? b a).bind λa=>
 some a
def aV:Int->Option DW:=λa=>
 (IM a).bind λa=>
 (cat? [49] a).bind λa=>
 some a
def aW:Int×(List Int)×Int×Int×Int×Int×(List DW)->Option (Int):=λa=>
 bif (decide (0<a.2.2.1))then
  some a.2.2.1
 else
  bif ((decide (0<=a.2.2.2.2.2.1))&&(decide (a.2.2.2.2.1<0)))then
   some 0
  else
   some 4
def aX:Int->Option DW:=λa=>
 bif (decide (a<0))then
  some [48]
 else
  (IM a).bind λa=>
  (cat? [49] a).bind λa=>
  some a
def aY:DW->Option DW:=λa=>
 (IL a).bind λb=>
 bif b.2 then
  (IM b.1).bind λb=>
  (cat? [50] b).bind λb=>
  some b
 else
  (cat? [49] a).bind λa=>
  (cat? a [32]).bind λa=>
  some a
def aZ:FY×DW×Bool->Option (FY×DW):=λ(a,b,c)=>
 bif c then
  (IM a.2.2.2.2.2.1).bind λc=>
  (cat? [48] c).bind λc=>
  (cat? b c).bind λc=>
  some (a,c)
 else
  (cat? b [49]).bind λb=>
  some (a,b)
def MT:Int×(List Int)×Int×Int×Int×Int×(List DW)->Option DW:=λa=>
 (IM a.1).bind λb=>
 (UP a.2.1).bind λc=>
 (UT (c,[48],(λx=>(aV x).bind λr=>some r))).bind λc=>
 (cat? b c).bind λb=>
 (aW a).bind λc=>
 (strconv_Itoa c).bind λc=>
 (IM a.2.2.2.1).bind λd=>
 (cat? c d).bind λc=>
 (aX a.2.2.2.2.1).bind λd=>
 (cat? c d).bind λc=>
 (cat? b c).bind λb=>
 (aZ (a,b,(decide (0<=a.2.2.2.2.2.1)))).bind λa=>
 bif (E1 (a.1.2.2.2.2.2.2.length:Int) 0)then
  (cat? a.2 [48]).bind λb=>
  some b
 else
  (cat? a.2 [49]).bind λb=>
  (UU (a.1.2.2.2.2.2.2,[48],(λx=>(aY x).bind λr=>some r))).bind λa=>
  (cat? b a).bind λa=>
  some a
def UV:Unit->Option (List DW):=λ_=>
 some [[97,108,112,104,97],[98,101,116,97],[109,105,108,101,115,116,111,110,101],[114,99],[115,110,97,112,115,104,111,116]]
def a_:Rd ((List DW)×DW×Int×Int) HR:=λa (b,c,d,e)=>
 bif (decide (e<d))then
  (at? b e).bind λf=>
  bif (EG c f)then
   some (.inr e)
  else
   a (b,c,d,(i64.wrap (e+1)))
 else
  some (.inl ())
def b9:=EE a_ fuel
def MU:(List DW)×DW->Option (Int):=λ(a,b)=>
 (b9 (a,b,(a.length:Int),0)).bind λa=>
 match a with
 | .inl _=>
  some (-1:Int)
 | .inr a=>
  some a
def OU:(List DW)×DW->Option (Bool):=λ(a,b)=>
 (MU (a,b)).bind λa=>
 some (decide (0<=a))
def RG:Bool×DW×Int->Option (Bool):=λa=>
 (bif a.1 then UV ()else some []).bind λb=>
 (bif a.1 then OU (b,a.2.1)else some false).bind λb=>
 some (a.1&&b)
def UW:Bool×DW×Int->Option DW:=λa=>
 bif (!a.1)then
  (IM a.2.2).bind λb=>
  (cat? [56] b).bind λb=>
  some b
 else
  (RG a).bind λb=>
  bif b then
   (UV ()).bind λb=>
   (MU (b,a.2.1)).bind λb=>
   (strconv_Itoa b).bind λb=>
   some b
  else
   bif (EG a.2.1 [115,112])then
    some [54]
   else
    (cat? [55] a.2.1).bind λa=>
    (cat? a [32]).bind λa=>
    some a
def zF:Rd (DW×Int×(List G7)×Int×Int) DW:=λa (b,c,d,e,f)=>
 bif (decide (f<e))then
  (at? d f).bind λg=>
  (RF g).bind λh=>
  bif h then
   a (b,(i64.wrap (c+1)),d,e,(i64.wrap (f+1)))
  else
   (RG g).bind λh=>
   bif h then
    (strconv_Itoa (i64.wrap (100+c))).bind λh=>
    (cat? [49] h).bind λh=>
    (UW g).bind λi=>
    (cat? h i).bind λh=>
    (cat? b h).bind λh=>
    a (h,0,d,e,(i64.wrap (f+1)))
   else
    (strconv_Itoa (i64.wrap (900-c))).bind λc=>
    (cat? [51] c).bind λc=>
    (UW g).bind λg=>
    (cat? c g).bind λc=>
    (cat? b c).bind λc=>
    a (c,0,d,e,(i64.wrap (f+1)))
 else
  some b
def lW:=EE zF fuel
def MV:List G7->Option DW:=λa=>
 (lW ([],0,a,(a.length:Int),0)).bind λa=>
 (cat? a [50]).bind λa=>
 some a
def MW:Int->Option DW:=λa=>
 (IM a).bind λa=>
 some a
def MX:Int×G9->Option (DW×Int):=λ(a,b)=>
 bif (!b.1)then
  bif (b.2.1||(!(EG b.2.2 [])))then
   some ([],2)
  else
   some ([],0)
 else
  (IC (a,b.2.2)).bind λa=>
  bif (!(E1 a.2 0))then
   some ([],a.2)
  else
   ((λz=>Sum.casesOn (motive:=λ_=>Option DW) z (λx=>(UL x).bind λr=>some r) (λz=>Sum.casesOn (motive:=λ_=>Option DW) z (λx=>(UO x).bind λr=>some r) (λz=>Sum.casesOn (motive:=λ_=>Option DW) z (λx=>(UQ x).bind λr=>some r) (λz=>Sum.casesOn (motive:=λ_=>Option DW) z (λx=>(UR x).bind λr=>some r) (λz=>Sum.casesOn (motive:=λ_=>Option DW) z (λx=>(US x).bind λr=>some r) (λ_=>none)))))) a.1).bind λc=>
   bif (!(EG c b.2.2))then
    some ([],2)
   else
    ((λz=>Sum.casesOn (motive:=λ_=>Option DW) z (λx=>(MR x).bind λr=>some r) (λz=>Sum.casesOn (motive:=λ_=>Option DW) z (λx=>(MS x).bind λr=>some r) (λz=>Sum.casesOn (motive:=λ_=>Option DW) z (λx=>(MT x).bind λr=>some r) (λz=>Sum.casesOn (motive:=λ_=>Option DW) z (λx=>(MV x).bind λr=>some r) (λz=>Sum.casesOn (motive:=λ_=>Option DW) z (λx=>(MW x).bind λr=>some r) (λ_=>none)))))) a.1).bind λa=>
    some (a,0)
def UX:G9×DW->Option JO:=λ(a,b)=>
 bif (!a.1)then
  some ((-1:Int),([],(false,[])))
 else
  some (0,(b,((!a.2.1),a.2.2)))
def UY:G9×DW->Option JO:=λ(a,b)=>
 bif (!a.1)then
  some (1,([],(false,[])))
 else
  some (0,(b,(a.2.1,a.2.2)))
def bA:Int->Option (Bool):=λa=>
 some (!(E1 a a))
def RH:Int×Int->Option (Int):=λ(a,b)=>
 (bA a).bind λc=>
 (bA b).bind λd=>
 bif c then
  bif d then
   some 0
  else
   some (-1:Int)
 else
  bif d then
   some 1
  else
   bif (decide (a<b))then
    some (-1:Int)
   else
    bif (decide (b<a))then
     some 1
    else
     some 0
def L0:JO×JO->Option (Int):=λ(a,b)=>
 bif ((!(E1 a.1 b.1))||(!(E1 a.1 0)))then
  (RH (a.1,b.1)).bind λc=>
  some c
 else
  (LO (a.2.1,b.2.1)).bind λc=>
  bif ((!(E1 c 0))||(J7 a.2.2.1 b.2.2.1))then
   some c
  else
   bif a.2.2.1 then
    some 1
   else
    some (-1:Int)
def bB:(G9×G9)×(List FF)->Option (Int):=λ(a,b)=>
 bif (((!a.1.1)||(!a.1.2.1))||(a.2.1&&((!a.2.2.1)||(EG a.2.2.2 [57,57,57,57,57,57,57,57,57,57,57,57,57,57,57,57,57,57]))))then
  some 2
 else
  bif (decide (0<(b.length:Int)))then
   (IL a.1.2.2).bind λa=>
   (at? b (i64.wrap ((b.length:Int)-1))).bind λb=>
   (IL b.2.2.2.2).bind λb=>
   bif (decide (a.1<(i64.wrap (b.1+2))))then
    some 10
   else
    some 0
  else
   some 0
def zG:Rd ((Int×FE)×(List FF)×FE×Int×Int) (Sum (List FF) ((List FF)×Int)):=λa (b,c,d,e,f)=>
 bif (decide (f<e))then
  (at? d f).bind λg=>
  (MX (b.1,g.1)).bind λh=>
  bif (!(E1 h.2 0))then
   some (.inr ([],h.2))
  else
   (MX (b.1,g.2)).bind λi=>
   bif (!(E1 i.2 0))then
    some (.inr ([],i.2))
   else
    (UX (g.1,h.1)).bind λh=>
    (UY (g.2,i.1)).bind λi=>
    (L0 (h,i)).bind λj=>
    (bif ((!(decide (0<=j)))&&(decide (0<(c.length:Int))))then at? c (i64.wrap ((c.length:Int)-1))else some ((0,([],(false,[]))),(0,([],(false,[]))))).bind λk=>
    (bif ((!(decide (0<=j)))&&(decide (0<(c.length:Int))))then L0 (h,k.2)else some 0).bind λk=>
    bif ((decide (0<=j))||((decide (0<(c.length:Int)))&&(decide (k<=0))))then
     some (.inr ([],10))
    else
     bif (E1 b.1 5)then
      (bB (g,c)).bind λg=>
      bif (!(E1 g 0))then
       some (.inr ([],g))
      else
       (app? 192 c [(h,i)]).bind λg=>
       a (b,g,d,e,(i64.wrap (f+1)))
     else
      (app? 192 c [(h,i)]).bind λg=>
      a (b,g,d,e,(i64.wrap (f+1)))
 else
  some (.inl c)
def lX:=EE zG fuel
def RI:Int×FE->Option ((List FF)×Int):=λa=>
 bif ((decide (a.1<1))||(decide (5<a.1)))then
  some ([],7)
 else
  bif (decide (200<(a.2.length:Int)))then
   some ([],3)
  else
   (lX (a,[],a.2,(a.2.length:Int),0)).bind λa=>
   match a with
   | .inl a=>
    some (a,0)
   | .inr a=>
    some (a.1,a.2)
def RJ:Int×FE->Option (Int):=λa=>
 (RI a).bind λa=>
 some a.2
def lY:Rd (H7×H7×Int×Int) HR:=λa (b,c,d,e)=>
 bif (decide (e<d))then
  (at? c e).bind λf=>
  (NR f.1).bind λg=>
  bif (!g.2)then
   some (.inr 8)
  else
   (RJ f.2.1).bind λh=>
   bif (!(E1 h 0))then
    some (.inr h)
   else
    bif (!(E1 f.2.1.1 g.1))then
     some (.inr 7)
    else
     bif ((decide (f.2.2<1))||(decide (4<f.2.2)))then
      some (.inr 9)
     else
      (bif (decide (0<e))then at? b (i64.wrap (e-1))else some ([],((0,[]),0))).bind λg=>
      bif ((decide (0<e))&&(Op.bytesLess f.1 g.1||EG f.1 g.1))then
       some (.inr 10)
      else
       a (b,c,d,(i64.wrap (e+1)))
 else
  some (.inl ())
def zH:=EE lY fuel
def UZ:List ON->Option (Int):=λa=>
 bif (decide (12<(a.length:Int)))then
  some 3
 else
  (zH (a,a,(a.length:Int),0)).bind λa=>
  match a with
  | .inl _=>
   some 0
  | .inr a=>
   some a
def lZ:ON×(Option (DW×DW×H7×Bool))->Option (Bool):=λ(a,b)=>
 (b).bind λb=>
 some (EG a.1 b.1)
def l_:Rd (H7×(ON->Option Bool)×Int×Int) HR:=λa (b,c,d,e)=>
 bif (decide (e<d))then
  (at? b e).bind λf=>
  (c f).bind λf=>
  bif f then
   some (.inr e)
  else
   a (b,c,d,(i64.wrap (e+1)))
 else
  some (.inl ())
def m6:=EE l_ fuel
def bC:H7×(ON->Option Bool)->Option (Int):=λ(a,b)=>
 (m6 (a,b,(a.length:Int),0)).bind λa=>
 match a with
 | .inl _=>
  some (-1:Int)
 | .inr a=>
  some a
def bD:H7×(ON->Option Bool)->Option (Bool):=λ(a,b)=>
 (bC (a,b)).bind λa=>
 some (decide (0<=a))
def bE:Int×DW×DW->Option (GY×GY×Int):=λ(a,b,c)=>
 (IC (a,b)).bind λb=>
 bif (!(E1 b.2 0))then
  some ((Sum.inr (Sum.inr (Sum.inr (Sum.inr (Sum.inr ()))))),(Sum.inr (Sum.inr (Sum.inr (Sum.inr (Sum.inr ()))))),b.2)
 else
  (IC (a,c)).bind λa=>
  some (b.1,a.1,a.2)
def bF:Int×DW×DW->Option (Int×Int):=λ(a,b,c)=>
 (bE (a,b,c)).bind λa=>
 bif (!(E1 a.2.2 0))then
  some (0,a.2.2)
 else
  ((λz=>Sum.casesOn (motive:=λ_=>Option DW) z (λx=>(MR x).bind λr=>some r) (λz=>Sum.casesOn (motive:=λ_=>Option DW) z (λx=>(MS x).bind λr=>some r) (λz=>Sum.casesOn (motive:=λ_=>Option DW) z (λx=>(MT x).bind λr=>some r) (λz=>Sum.casesOn (motive:=λ_=>Option DW) z (λx=>(MV x).bind λr=>some r) (λz=>Sum.casesOn (motive:=λ_=>Option DW) z (λx=>(MW x).bind λr=>some r) (λ_=>none)))))) a.1).bind λb=>
  ((λz=>Sum.casesOn (motive:=λ_=>Option DW) z (λx=>(MR x).bind λr=>some r) (λz=>Sum.casesOn (motive:=λ_=>Option DW) z (λx=>(MS x).bind λr=>some r) (λz=>Sum.casesOn (motive:=λ_=>Option DW) z (λx=>(MT x).bind λr=>some r) (λz=>Sum.casesOn (motive:=λ_=>Option DW) z (λx=>(MV x).bind λr=>some r) (λz=>Sum.casesOn (motive:=λ_=>Option DW) z (λx=>(MW x).bind λr=>some r) (λ_=>none)))))) a.2.1).bind λa=>
  (LO (b,a)).bind λa=>
  some (a,0)
def bG:(DW×DW×H7×Bool)×JD->Option (Int):=λ(a,b)=>
 (OS (a.1,a.2.1)).bind λc=>
 bif (!(E1 c.2 0))then
  some c.2
 else
  (UZ a.2.2.1).bind λd=>
  bif (!(E1 d 0))then
   some d
  else
   (bD (a.2.2.1,(λx=>(lZ (x,(some a))).bind λr=>some r))).bind λd=>
   bif d then
    some 2
   else
    bif (E1 (b.length:Int) 0)then
     some 0
    else
     (at? b (i64.wrap ((b.length:Int)-1))).bind λb=>
     bif (Op.bytesLess a.1 b.1)then
      some 10
     else
      bif (EG a.1 b.1)then
       (bF (c.1,b.2.1,a.2.1)).bind λa=>
       bif (decide (0<=a.1))then
        some 10
       else
        some 0
      else
       some 0
def m7:Rd (JD×Int×Int×JD×Int×Int) HR:=λa (b,c,d,e,f,g)=>
 bif (decide (g<f))then
  (at? e g).bind λh=>
  (cut? b 0 g).bind λi=>
  (bG (h,i)).bind λi=>
  bif (!(E1 i 0))then
   some (.inr i)
  else
   (bif (!(E1 g 0))then at? b (i64.wrap (g-1))else some ([],([],([],false)))).bind λi=>
   bif ((E1 g 0)||(!(EG i.1 h.1)))then
    bif ((decide ((8:Int)<1))||(decide (12<(i64.wrap (c+1)))))then
     some (.inr 3)
    else
     a (b,(i64.wrap (c+1)),1,e,f,(i64.wrap (g+1)))
   else
    bif ((decide (8<(i64.wrap (d+1))))||(decide (12<c)))then
     some (.inr 3)
    else
     a (b,c,(i64.wrap (d+1)),e,f,(i64.wrap (g+1)))
 else
  some (.inl ())
def zI:=EE m7 fuel
def RK:List (DW×DW×H7×Bool)->Option (Int):=λa=>
 (zI (a,0,0,a,(a.length:Int),0)).bind λa=>
 match a with
 | .inl _=>
  some 0
 | .inr a=>
  some a
def m8:Rd (D_×D_×Int×Int) HR:=λa (b,c,d,e)=>
 bif (decide (e<d))then
  (at? c e).bind λf=>
  (OS (f.1,f.2)).bind λg=>
  bif (!(E1 g.2 0))then
   some (.inr g.2)
  else
   (bif (decide (0<e))then at? b (i64.wrap (e-1))else some ([],[])).bind λg=>
   bif ((decide (0<e))&&(Op.bytesLess f.1 g.1||EG f.1 g.1))then
    some (.inr 10)
   else
    a (b,c,d,(i64.wrap (e+1)))
 else
  some (.inl ())
def zJ:=EE m8 fuel
def M9:List (DW×DW)->Option (Int):=λa=>
 bif (decide (12<(a.length:Int)))then
  some 3
 else
  (zJ (a,a,(a.length:Int),0)).bind λa=>
  match a with
  | .inl _=>
   some 0
  | .inr a=>
   some a
def m9:(DW×DW)×(Option DW)->Option (Bool):=λ(a,b)=>
 (b).bind λb=>
 some (EG a.1 b)
def mA:Rd (D_×((DW×DW)->Option Bool)×Int×Int) HR:=λa (b,c,d,e)=>
 bif (decide (e<d))then
  (at? b e).bind λf=>
  (c f).bind λf=>
  bif f then
   some (.inr e)
  else
   a (b,c,d,(i64.wrap (e+1)))
 else
  some (.inl ())
def mB:=EE mA fuel
def U_:D_×((DW×DW)->Option Bool)->Option (Int):=λ(a,b)=>
 (mB (a,b,(a.length:Int),0)).bind λa=>
 match a with
 | .inl _=>
  some (-1:Int)
 | .inr a=>
  some a
def L1:D_×DW->Option (DW×Bool):=λ(a,b)=>
 (U_ (a,(λx=>(m9 (x,(some b))).bind λr=>some r))).bind λb=>
 bif (decide (b<0))then
  some ([],false)
 else
  (at? a b).bind λa=>
  some (a.2,true)
def zK:Rd F0 M6:=λa (b,c,d)=>
 bif (decide (d<c))then
  (at? b d).bind λe=>
  bif (!(((((((decide (97<=(e.toNat:Int)))&&(decide ((e.toNat:Int)<=122)))||((decide (65<=(e.toNat:Int)))&&(decide ((e.toNat:Int)<=90))))||((decide (48<=(e.toNat:Int)))&&(decide ((e.toNat:Int)<=57))))||(E1 (e.toNat:Int) 46))||(E1 (e.toNat:Int) 45))||(E1 (e.toNat:Int) 95)))then
   some (.inr false)
  else
   a (b,c,(i64.wrap (d+1)))
 else
  some (.inl ())
def mC:=EE zK fuel
def RL:DW->Option (Bool):=λa=>
 (mC (a,(a.length:Int),0)).bind λb=>
 match b with
 | .inl _=>
  some ((!(EG a []))&&(decide ((a.length:Int)<=60)))
 | .inr a=>
  some a
def zL:Rd (KB×(List DW)×Int×Int) HR:=λa (b,c,d,e)=>
 bif (decide (e<d))then
  (at? c e).bind λf=>
  (RL f).bind λg=>
  bif (!g)then
   some (.inr 8)
  else
   bif (EG f b.1)then
    some (.inr 5)
   else
    (bif (decide (0<e))then at? b.2.1 (i64.wrap (e-1))else some []).bind λg=>
    bif ((decide (0<e))&&(Op.bytesLess f g||EG f g))then
     some (.inr 10)
    else
     a (b,c,d,(i64.wrap (e+1)))
 else
  some (.inl ())
def mD:=EE zL fuel
def bH:DW×(List DW)×DW×Int×Bool×DW×(List GX)->Option (Int):=λa=>
 bif (decide (20<(a.2.1.length:Int)))then
  some 3
 else
  (mD (a,a.2.1,(a.2.1.length:Int),0)).bind λa=>
  match a with
  | .inl _=>
   some 0
  | .inr a=>
   some a
def bI:Unit->Option (List (List (Int×Int))):=λ_=>
 let a:=(FH E1 76 22 (FH E1 72 56 []))
 some [(FH E1 80 20 (FH E1 76 55 (FH E1 65 62 (FH E1 78 85 [])))),(FH E1 72 44 (FH E1 76 77 [])),(FH E1 72 27 (FH E1 76 62 (FH E1 78 85 []))),(FH E1 78 0 a),(FH E1 78 0 a),(FH E1 78 0 a)]
def zM:Rd (DW×(List Int)×(List (List (Int×Int)))×Int) (Sum (List Int) (Int×Int)):=λa (b,c,d,e)=>
 bif (decide (e<6))then
  (at? d e).bind λf=>
  (at? b e).bind λg=>
  bif (!(FQ E1 (g.toNat:Int) f).isSome)then
   some (.inr (0,7))
  else
   (in? 6 e).bind λ_=>
   a (b,(c.set e.toNat ((FQ E1 (g.toNat:Int) f).getD 0)),d,(i64.wrap (e+1)))
 else
  some (.inl c)
def mE:=EE zM fuel
def bJ:DW->Option (Int×Int):=λa=>
 (bI ()).bind λb=>
 bif (!(E1 (a.length:Int) 6))then
  some (0,2)
 else
  (mE (a,(List.replicate 6 0),b,0)).bind λa=>
  match a with
  | .inl a=>
   let b:=(i64.wrap ((i64.wrap ((i64.wrap (100-(a.getD 3 0)))*(i64.wrap (100-(a.getD 4 0)))))*(i64.wrap (100-(a.getD 5 0)))))
   bif (E1 (i64.wrap (1000000-b)) 0)then
    some (0,0)
   else
    (div? i64 (i64.wrap ((i64.wrap ((i64.wrap (10*(i64.wrap ((i64.wrap (642*(i64.wrap (1000000-b))))+(i64.wrap ((i64.wrap ((i64.wrap (822*(a.getD 0 0)))*(a.getD 1 0)))*(a.getD 2 0)))))))+100000000))-1)) 100000000).bind λa=>
    some ((X4 100 a),0)
  | .inr a=>
   some (a.1,a.2)
def bK:DW->Option (Bool):=λa=>
 (UG a).bind λb=>
 bif (!(E1 b.2.2 0))then
  some false
 else
  (UH b.1).bind λb=>
  some ((E1 b.2 0)&&(EG b.1 a))
def bL:Sum LN (Sum KZ (Sum FY (Sum (List G7) (Sum Int Unit))))->Option (DW×Int):=λa=>
 ((λz=>Sum.casesOn (motive:=λ_=>Option DW) z (λx=>(UL x).bind λr=>some r) (λz=>Sum.casesOn (motive:=λ_=>Option DW) z (λx=>(UO x).bind λr=>some r) (λz=>Sum.casesOn (motive:=λ_=>Option DW) z (λx=>(UQ x).bind λr=>some r) (λz=>Sum.casesOn (motive:=λ_=>Option DW) z (λx=>(UR x).bind λr=>some r) (λz=>Sum.casesOn (motive:=λ_=>Option DW) z (λx=>(US x).bind λr=>some r) (λ_=>none)))))) a).bind λa=>
 bif (decide (100<(a.length:Int)))then
  some ([],3)
 else
  some (a,0)
def OV:Int×DW->Option (DW×Int):=λ(a,b)=>
 (IC (a,b)).bind λa=>
 bif (!(E1 a.2 0))then
  some ([],a.2)
 else
  (bL a.1).bind λa=>
  some (a.1,a.2)
def zN:Rd (GX×I5×Int×Int) HR:=λa (b,c,d,e)=>
 bif (decide (e<d))then
  (at? c e).bind λf=>
  bif ((decide (f.1<1))||(decide (3<f.1)))then
   some (.inr 7)
  else
   bif (EG f.2 [])then
    bif (!(E1 f.1 1))then
     some (.inr 2)
    else
     a (b,c,d,(i64.wrap (e+1)))
   else
    (OV (b.2.1,f.2)).bind λf=>
    bif (!(E1 f.2 0))then
     some (.inr f.2)
    else
     a (b,c,d,(i64.wrap (e+1)))
 else
  some (.inl ())
def mF:=EE zN fuel
def bM:DW×Int×I5×(List DW)×(List DW)->Option (Int):=λa=>
 bif (decide (100<(a.2.2.1.length:Int)))then
  some 3
 else
  (mF (a,a.2.2.1,(a.2.2.1.length:Int),0)).bind λa=>
  match a with
  | .inl _=>
   some 0
  | .inr a=>
   some a
def zO:Rd (DW×Bool×Int×Int) (Bool):=λa (b,c,d,e)=>
 bif (decide (e<d))then
  (bif (!c)then at? b e else some 0).bind λf=>
  (bif (!(c||(decide ((f.toNat:Int)<33))))then at? b e else some 0).bind λg=>
  a (b,((c||(decide ((f.toNat:Int)<33)))||(decide (126<(g.toNat:Int)))),d,(i64.wrap (e+1)))
 else
  some c
def mG:=EE zO fuel
def zP:Rd ((List DW)×(List DW)×Int×Int) HR:=λa (b,c,d,e)=>
 bif (decide (e<d))then
  (at? c e).bind λf=>
  (mG (f,((EG f [])||(decide (200<(f.length:Int)))),(f.length:Int),0)).bind λg=>
  bif g then
   some (.inr 8)
  else
   (bif (decide (0<e))then at? b (i64.wrap (e-1))else some []).bind λg=>
   bif ((decide (0<e))&&(Op.bytesLess f g||EG f g))then
    some (.inr 10)
   else
    a (b,c,d,(i64.wrap (e+1)))
 else
  some (.inl ())
def mH:=EE zP fuel
def bN:List DW->Option (Int):=λa=>
 bif (decide (200<(a.length:Int)))then
  some 3
 else
  (mH (a,a,(a.length:Int),0)).bind λa=>
  match a with
  | .inl _=>
   some 0
  | .inr a=>
   some a
def zQ:Rd (GX×(List DW)×Int×Int) (Sum GX (Int)):=λa (b,c,d,e)=>
 bif (decide (e<d))then
  (at? c e).bind λf=>
  (OV (b.2.1,f)).bind λf=>
  bif (!(E1 f.2 0))then
   some (.inr f.2)
  else
   a (b,c,d,(i64.wrap (e+1)))
 else
  some (.inl b)
def mI:=EE zQ fuel
def bO:DW×Int×I5×(List DW)×(List DW)->Option (Int):=λa=>
 (bK a.1).bind λb=>
 bif (!b)then
  some 8
 else
  bif ((decide (a.2.1<1))||(decide (5<a.2.1)))then
   some 7
  else
   (bM a).bind λb=>
   bif (!(E1 b 0))then
    some b
   else
    bif (decide (500<(a.2.2.2.1.length:Int)))then
     some 3
    else
     (mI (a,a.2.2.2.1,(a.2.2.2.1.length:Int),0)).bind λa=>
     match a with
     | .inl a=>
      (bN a.2.2.2.2).bind λa=>
      some a
     | .inr a=>
      some a
def bP:Unit->Option (List Int):=λ_=>
 some [0,1,0,2]
def RM:Int×DW->Option (DW×Int):=λ(a,b)=>
 (IC (a,b)).bind λa=>
 bif (!(E1 a.2 0))then
  some ([],a.2)
 else
  ((λz=>Sum.casesOn (motive:=λ_=>Option DW) z (λx=>(MR x).bind λr=>some r) (λz=>Sum.casesOn (motive:=λ_=>Option DW) z (λx=>(MS x).bind λr=>some r) (λz=>Sum.casesOn (motive:=λ_=>Option DW) z (λx=>(MT x).bind λr=>some r) (λz=>Sum.casesOn (motive:=λ_=>Option DW) z (λx=>(MV x).bind λr=>some r) (λz=>Sum.casesOn (motive:=λ_=>Option DW) z (λx=>(MW x).bind λr=>some r) (λ_=>none)))))) a.1).bind λa=>
  some (a,0)
def zR:Rd ((List E5)×Int×FJ×Int) (List E5):=λa (b,c,d,e)=>
 (bif (decide (c<e))then in? b.length e else some ()).bind λ_=>
 (bif (decide (c<e))then in? b.length (i64.wrap (e-1))else some ()).bind λ_=>
 (bif (decide (c<e))then d ((b.getD e.toNat (0,([],([],0)))),(b.getD ((i64.wrap (e-1)).toNat) (0,([],([],0)))))else some 0).bind λf=>
 bif ((decide (c<e))&&(decide (f<0)))then
  (in? b.length (i64.wrap (e-1))).bind λ_=>
  let f:=(b.getD ((i64.wrap (e-1)).toNat) (0,([],([],0))))
  (in? b.length e).bind λ_=>
  (in? b.length e).bind λ_=>
  (in? (b.set e.toNat f).length (i64.wrap (e-1))).bind λ_=>
  a (((b.set e.toNat f).set ((i64.wrap (e-1)).toNat) (b.getD e.toNat (0,([],([],0))))),c,d,(i64.wrap (e-1)))
 else
  some b
def mJ:=EE zR fuel
def zS:Rd ((List E5)×Int×Int×FJ×Int) (List E5):=λa (b,c,d,e,f)=>
 bif (decide (f<d))then
  (mJ (b,c,e,f)).bind λg=>
  a (g,c,d,e,(i64.wrap (f+1)))
 else
  some b
def mK:=EE zS fuel
def V0:(List E5)×Int×Int×FJ->Option (List E5):=λ(a,b,c,d)=>
 (mK (a,b,c,d,(i64.wrap (b+1)))).bind λa=>
 some a
def zT:Rd ((List E5)×Int×Int×Int×Int) (List E5):=λa (b,c,d,e,f)=>
 bif (decide (f<e))then
  (in? b.length (i64.wrap (d+f))).bind λ_=>
  let g:=(b.getD ((i64.wrap (d+f)).toNat) (0,([],([],0))))
  (in? b.length (i64.wrap (c+f))).bind λ_=>
  (in? b.length (i64.wrap (c+f))).bind λ_=>
  (in? (b.set ((i64.wrap (c+f)).toNat) g).length (i64.wrap (d+f))).bind λ_=>
  a (((b.set ((i64.wrap (c+f)).toNat) g).set ((i64.wrap (d+f)).toNat) (b.getD ((i64.wrap (c+f)).toNat) (0,([],([],0))))),c,d,e,(i64.wrap (f+1)))
 else
  some b
def mL:=EE zT fuel
def RN:(List E5)×Int×Int×Int×FJ->Option (List E5):=λ(a,b,c,d,_)=>
 (mL (a,b,c,d,0)).bind λa=>
 some a
def zU:Rd ((List E5)×Int×FJ×Int×Int) K_:=λa (b,c,d,e,f)=>
 bif (!(E1 e f))then
  bif (decide (f<e))then
   (RN (b,(i64.wrap (c-e)),c,f,d)).bind λg=>
   a (g,c,d,(i64.wrap (e-f)),f)
  else
   (RN (b,(i64.wrap (c-e)),(i64.wrap ((i64.wrap (c+f))-e)),e,d)).bind λg=>
   a (g,c,d,e,(i64.wrap (f-e)))
 else
  some (b,e)
def mM:=EE zU fuel
def bQ:(List E5)×Int×Int×Int×FJ->Option (List E5):=λ(a,b,c,d,e)=>
 (mM (a,c,e,(i64.wrap (c-b)),(i64.wrap (d-c)))).bind λa=>
 (RN (a.1,(i64.wrap (c-a.2)),c,a.2,e)).bind λa=>
 some a
def zV(slf:(List E5)×Int×Int×Int×FJ->Option (List E5))(a:(List E5)×Int×FJ×Int×Int->Option K_):(List E5)×Int×FJ×Int×Int->Option K_:=λ(b,c,d,e,f)=>
 bif (decide (e<f))then
  (shr? u64 (u64.wrap (i64.wrap (e+f))) 1).bind λg=>
  (in? b.length (i64.wrap g)).bind λ_=>
  (in? b.length c).bind λ_=>
  (d ((b.getD ((i64.wrap g).toNat) (0,([],([],0)))),(b.getD c.toNat (0,([],([],0)))))).bind λh=>
  bif (decide (h<0))then
   a (b,c,d,(i64.wrap ((i64.wrap g)+1)),f)
  else
   a (b,c,d,e,(i64.wrap g))
 else
  some (b,e)
def mN(slf:(List E5)×Int×Int×Int×FJ->Option (List E5)):(List E5)×Int×FJ×Int×Int->Option K_:=EE (zV slf) fuel
def zW(slf:(List E5)×Int×Int×Int×FJ->Option (List E5))(a:(List E5)×Int×Int->Option (List E5)):(List E5)×Int×Int->Option (List E5):=λ(b,c,d)=>
 bif (decide (d<(i64.wrap (c-1))))then
  (in? b.length (i64.wrap (d+1))).bind λ_=>
  let e:=(b.getD ((i64.wrap (d+1)).toNat) (0,([],([],0))))
  (in? b.length d).bind λ_=>
  (in? b.length d).bind λ_=>
  (in? (b.set d.toNat e).length (i64.wrap (d+1))).bind λ_=>
  a (((b.set d.toNat e).set ((i64.wrap (d+1)).toNat) (b.getD d.toNat (0,([],([],0))))),c,(i64.wrap (d+1)))
 else
  some b
def mO(slf:(List E5)×Int×Int×Int×FJ->Option (List E5)):(List E5)×Int×Int->Option (List E5):=EE (zW slf) fuel
def zX(slf:(List E5)×Int×Int×Int×FJ->Option (List E5))(a:(List E5)×Int×FJ×Int×Int->Option K_):(List E5)×Int×FJ×Int×Int->Option K_:=λ(b,c,d,e,f)=>
 bif (decide (e<f))then
  (shr? u64 (u64.wrap (i64.wrap (e+f))) 1).bind λg=>
  (in? b.length c).bind λ_=>
  (in? b.length (i64.wrap g)).bind λ_=>
  (d ((b.getD c.toNat (0,([],([],0)))),(b.getD ((i64.wrap g).toNat) (0,([],([],0)))))).bind λh=>
  bif (!(decide (h<0)))then
   a (b,c,d,(i64.wrap ((i64.wrap g)+1)),f)
  else
   a (b,c,d,e,(i64.wrap g))
 else
  some (b,e)
def mP(slf:(List E5)×Int×Int×Int×FJ->Option (List E5)):(List E5)×Int×FJ×Int×Int->Option K_:=EE (zX slf) fuel
def zY(slf:(List E5)×Int×Int×Int×FJ->Option (List E5))(a:(List E5)×Int×Int->Option (List E5)):(List E5)×Int×Int->Option (List E5):=λ(b,c,d)=>
 bif (decide (c<d))then
  (in? b.length (i64.wrap (d-1))).bind λ_=>
  let e:=(b.getD ((i64.wrap (d-1)).toNat) (0,([],([],0))))
  (in? b.length d).bind λ_=>
  (in? b.length d).bind λ_=>
  (in? (b.set d.toNat e).length (i64.wrap (d-1))).bind λ_=>
  a (((b.set d.toNat e).set ((i64.wrap (d-1)).toNat) (b.getD d.toNat (0,([],([],0))))),c,(i64.wrap (d-1)))
 else
  some b
def mQ(slf:(List E5)×Int×Int×Int×FJ->Option (List E5)):(List E5)×Int×Int->Option (List E5):=EE (zY slf) fuel
def bR(slf:(List E5)×Int×Int×Int×FJ->Option (List E5)):Int×Int×Int×Int×Int×Bool->Option (Int×Int):=λ(a,b,c,d,e,f)=>
 bif f then
  some ((i64.wrap (e-c)),d)
 else
  some (a,b)
def zZ(slf:(List E5)×Int×Int×Int×FJ->Option (List E5))(a:(List E5)×FJ×Int×Int×Int->Option K_):(List E5)×FJ×Int×Int×Int->Option K_:=λ(b,c,d,e,f)=>
 bif (decide (d<e))then
  (shr? u64 (u64.wrap (i64.wrap (d+e))) 1).bind λg=>
  (in? b.length (i64.wrap (f-(i64.wrap g)))).bind λ_=>
  (in? b.length (i64.wrap g)).bind λ_=>
  (c ((b.getD ((i64.wrap (f-(i64.wrap g))).toNat) (0,([],([],0)))),(b.getD ((i64.wrap g).toNat) (0,([],([],0)))))).bind λh=>
  bif (!(decide (h<0)))then
   a (b,c,(i64.wrap ((i64.wrap g)+1)),e,f)
  else
   a (b,c,d,(i64.wrap g),f)
 else
  some (b,d)
def mR(slf:(List E5)×Int×Int×Int×FJ->Option (List E5)):(List E5)×FJ×Int×Int×Int->Option K_:=EE (zZ slf) fuel
def bT(slf:(List E5)×Int×Int×Int×FJ->Option (List E5)):(List E5)×Int×FJ×Int×Int×Bool->Option (List E5):=λ(a,b,c,d,e,f)=>
 bif f then
  (bQ (a,d,b,e,c)).bind λb=>
  some b
 else
  some a
def bU(slf:(List E5)×Int×Int×Int×FJ->Option (List E5)):(List E5)×Int×FJ×Int×Int×Bool->Option (List E5):=λ(a,b,c,d,e,f)=>
 bif f then
  (slf (a,b,e,d,c)).bind λb=>
  some b
 else
  some a
def mS(slf:(List E5)×Int×Int×Int×FJ->Option (List E5)):(List E5)×Int×Int×Int×FJ->Option (List E5):=λ(a,b,c,d,e)=>
 bif (E1 (i64.wrap (c-b)) 1)then
  ((mN slf) (a,b,e,c,d)).bind λf=>
  ((mO slf) (f.1,f.2,b)).bind λf=>
  some f
 else
  bif (E1 (i64.wrap (d-c)) 1)then
   ((mP slf) (a,c,e,b,c)).bind λf=>
   ((mQ slf) (f.1,f.2,c)).bind λf=>
   some f
  else
   (shr? u64 (u64.wrap (i64.wrap (b+d))) 1).bind λf=>
   ((bR slf) (b,c,d,(i64.wrap f),(i64.wrap ((i64.wrap f)+c)),(decide ((i64.wrap f)<c)))).bind λg=>
   ((mR slf) (a,e,g.1,g.2,(i64.wrap ((i64.wrap ((i64.wrap f)+c))-1)))).bind λa=>
   let g:=(i64.wrap ((i64.wrap ((i64.wrap f)+c))-a.2))
   ((bT slf) (a.1,c,e,a.2,g,((decide (a.2<c))&&(decide (c<g))))).bind λc=>
   ((bU slf) (c,b,e,(i64.wrap f),a.2,((decide (b<a.2))&&(decide (a.2<(i64.wrap f)))))).bind λa=>
   bif ((decide ((i64.wrap f)<g))&&(decide (g<d)))then
    (slf (a,(i64.wrap f),g,d,e)).bind λb=>
    some b
   else
    some a
def KE:Nat->(List E5)×Int×Int×Int×FJ->Option (List E5)
 |0=>λ_=>none
 |n+1=>mS (KE n)
def V1:(List E5)×Int×Int×Int×FJ->Option (List E5):=KE 100
def z_:Rd ((List E5)×Int×FJ×Int×Int×Int) K_:=λa (b,c,d,e,f,g)=>
 bif (decide (g<=c))then
  (V0 (b,f,g,d)).bind λh=>
  a (h,c,d,e,g,(i64.wrap (g+e)))
 else
  some (b,f)
def mT:=EE z_ fuel
def A00:Rd ((List E5)×Int×FJ×Int×Int×Int) K_:=λa (b,c,d,e,f,g)=>
 bif (decide (g<=c))then
  (V1 (b,f,(i64.wrap (f+e)),g,d)).bind λh=>
  a (h,c,d,e,g,(i64.wrap (g+(i64.wrap (2*e)))))
 else
  some (b,f)
def mU:=EE A00 fuel
def A01:Rd ((List E5)×Int×FJ×Int) (List E5):=λa (b,c,d,e)=>
 bif (decide (e<c))then
  (mU (b,c,d,e,0,(i64.wrap (2*e)))).bind λf=>
  bif (decide ((i64.wrap (f.2+e))<c))then
   (V1 (f.1,f.2,(i64.wrap (f.2+e)),c,d)).bind λg=>
   a (g,c,d,(i64.wrap (e*2)))
  else
   a (f.1,c,d,(i64.wrap (e*2)))
 else
  some b
def mV:=EE A01 fuel
def bV:(List E5)×Int×FJ->Option (List E5):=λ(a,b,c)=>
 (mT (a,b,c,20,0,20)).bind λa=>
 (V0 (a.1,a.2,b,c)).bind λa=>
 (mV (a,b,c,20)).bind λa=>
 some a
def bW:(List E5)×FJ->Option (List E5):=λ(a,b)=>
 (bV (a,(a.length:Int),b)).bind λa=>
 some a
def A02:Rd (Int×(List Int)×Int×Int) HR:=λa (b,c,d,e)=>
 bif (decide (e<d))then
  (at? c e).bind λf=>
  bif (!(E1 f b))then
   some (.inr f)
  else
   a (b,c,d,(i64.wrap (e+1)))
 else
  some (.inl ())
def mW:=EE A02 fuel
def bX:List Int->Option (Int):=λa=>
 (mW (0,a,(a.length:Int),0)).bind λa=>
 match a with
 | .inl _=>
  some 0
 | .inr a=>
  some a
def bY:E5×E5->Option (Int):=λ(a,b)=>
 (LO (a.2.1,b.2.1)).bind λc=>
 (RH (a.1,b.1)).bind λa=>
 (bX [c,a]).bind λa=>
 some a
def A03:Rd (GX×(List E5)×I5×Int×Int) (List E5):=λa (b,c,d,e,f)=>
 bif (decide (f<e))then
  (at? d f).bind λg=>
  (bP ()).bind λh=>
  (at? h g.1).bind λh=>
  bif (!(EG g.2 []))then
   (RM (b.2.1,g.2)).bind λi=>
   (OV (b.2.1,g.2)).bind λj=>
   (app? 96 c [(h,(i.1,(j.1,g.1)))]).bind λi=>
   a (b,i,d,e,(i64.wrap (f+1)))
  else
   (app? 96 c [(h,([],([],g.1)))]).bind λg=>
   a (b,g,d,e,(i64.wrap (f+1)))
 else
  some c
def mX:=EE A03 fuel
def bZ:DW×Int×I5×(List DW)×(List DW)->Option (List E5):=λa=>
 (mX (a,[],a.2.2.1,(a.2.2.1.length:Int),0)).bind λa=>
 (bW (a,(λx=>(bY x).bind λr=>some r))).bind λa=>
 some a
def A04:Rd (FE×Bool×G9×(List E5)×Int×Int) (FE×Bool×G9):=λa (b,c,d,e,f,g)=>
 bif (decide (g<f))then
  (at? e g).bind λh=>
  bif ((E1 h.2.2.2 1)&&(!c))then
   bif (!(EG h.2.2.1 []))then
    a (b,true,(true,(true,h.2.2.1)),e,f,(i64.wrap (g+1)))
   else
    a (b,true,(false,(false,[])),e,f,(i64.wrap (g+1)))
  else
   bif ((!(E1 h.2.2.2 1))&&c)then
    (app? 144 b [(d,(true,((E1 h.2.2.2 3),h.2.2.1)))]).bind λh=>
    a (h,false,d,e,f,(i64.wrap (g+1)))
   else
    a (b,c,d,e,f,(i64.wrap (g+1)))
 else
  some (b,c,d)
def mY:=EE A04 fuel
def b_:FE×G9×Bool->Option FE:=λ(a,b,c)=>
 bif c then
  (app? 144 a [(b,(false,(false,[])))]).bind λb=>
  some b
 else
  some a
def A05:Rd (GX×FE×(List DW)×Int×Int) FE:=λa (b,c,d,e,f)=>
 bif (decide (f<e))then
  (at? d f).bind λg=>
  (OV (b.2.1,g)).bind λg=>
  (app? 144 c [((true,(true,g.1)),(true,(true,g.1)))]).bind λg=>
  a (b,g,d,e,(i64.wrap (f+1)))
 else
  some c
def mZ:=EE A05 fuel
def cA:DW×Int×I5×(List DW)×(List DW)->Option FE:=λa=>
 (bZ a).bind λb=>
 (mY ([],false,(false,(false,[])),b,(b.length:Int),0)).bind λb=>
 (b_ (b.1,b.2.2,b.2.1)).bind λb=>
 (mZ (a,b,a.2.2.2.1,(a.2.2.2.1.length:Int),0)).bind λa=>
 some a
def MY:FF×FF->Option (Int):=λ(a,b)=>
 (L0 (a.1,b.1)).bind λa=>
 some a
def cB:FF×Int×Bool->Option (FF×Int):=λ(a,b,c)=>
 bif c then
  (IL a.1.2.2.2).bind λc=>
  bif a.1.2.2.1 then
   some (a,(i64.wrap (c.1+1)))
  else
   some (a,c.1)
 else
  some (a,b)
def cC:JO×JO->Option (Int×Int×Bool):=λa=>
 (cB (a,0,(E1 a.1.1 0))).bind λa=>
 bif (E1 a.1.2.1 0)then
  (IL a.1.2.2.2.2).bind λb=>
  bif (!a.1.2.2.2.1)then
   some (a.2,(i64.wrap (b.1-1)),(decide (a.2<=(i64.wrap (b.1-1)))))
  else
   some (a.2,b.1,(decide (a.2<=b.1)))
 else
  some (a.2,999999999999999999,(decide (a.2<=999999999999999999)))
def cD:Int×JO×Bool->Option JO:=λ(a,b,c)=>
 bif c then
  (IM a).bind λc=>
  (strconv_Itoa a).bind λa=>
  some (0,(c,(true,a)))
 else
  some b
def A06:Rd ((List FF)×Int×(List FF)×Int×Int) (List FF):=λa (b,c,d,e,f)=>
 bif (decide (f<e))then
  (at? d f).bind λg=>
  (cC g).bind λg=>
  bif (!g.2.2)then
   a (b,c,d,e,(i64.wrap (f+1)))
  else
   (cD (g.2.1,(1,([],(false,[]))),(decide (g.2.1<999999999999999999)))).bind λh=>
   bif ((decide (0<(b.length:Int)))&&(E1 g.1 (i64.wrap (c+1))))then
    (in? b.length (i64.wrap ((b.length:Int)-1))).bind λ_=>
    a ((b.set ((i64.wrap ((b.length:Int)-1)).toNat) ((b.getD ((i64.wrap ((b.length:Int)-1)).toNat) ((0,([],(false,[]))),(0,([],(false,[]))))).1,h)),g.2.1,d,e,(i64.wrap (f+1)))
   else
    (IM g.1).bind λc=>
    (strconv_Itoa g.1).bind λi=>
    (app? 192 b [((0,(c,(false,i))),h)]).bind λc=>
    a (c,g.2.1,d,e,(i64.wrap (f+1)))
 else
  some b
def m_:=EE A06 fuel
def cE:List FF->Option (List FF):=λa=>
 (m_ ([],(-2:Int),a,(a.length:Int),0)).bind λa=>
 some a
def cF:(List FF)×Bool->Option (List FF):=λ(a,b)=>
 bif b then
  (cE a).bind λb=>
  some b
 else
  some a
def cG:FF×(G9×G9)×Bool->Option (FF×(G9×G9)):=λ(a,b,c)=>
 bif c then
  some (a,((true,((!a.1.2.2.1),a.1.2.2.2)),b.2))
 else
  some (a,b)
def A07:Rd ((Int×FE)×(List FF)×Int×Int) (Int×FE):=λa (b,c,d,e)=>
 bif (decide (e<d))then
  (at? c e).bind λf=>
  (cG (f,((false,(false,[])),(false,(false,[]))),(E1 f.1.1 0))).bind λf=>
  bif (E1 f.1.2.1 0)then
   (app? 144 b.2 [(f.2.1,(true,(f.1.2.2.2.1,f.1.2.2.2.2)))]).bind λg=>
   a ((b.1,g),c,d,(i64.wrap (e+1)))
  else
   (app? 144 b.2 [f.2]).bind λf=>
   a ((b.1,f),c,d,(i64.wrap (e+1)))
 else
  some (b.1,b.2)
def nA:=EE A07 fuel
def cH:Int×(List FF)->Option ((Int×FE)×Int):=λ(a,b)=>
 (cF (b,(E1 a 5))).bind λb=>
 bif (decide (200<(b.length:Int)))then
  some ((0,[]),3)
 else
  (nA ((a,[]),b,(b.length:Int),0)).bind λa=>
  some ((a.1,a.2),0)
def A08:Rd (Int×(Int×FE)×(List FF)×FE×Int×Int) (Sum ((Int×FE)×(List FF)) ((Int×FE)×Int)):=λa (b,c,d,e,f,g)=>
 bif (decide (g<f))then
  (at? e g).bind λh=>
  (MX (b,h.1)).bind λi=>
  bif (!(E1 i.2 0))then
   some (.inr ((0,[]),i.2))
  else
   (MX (b,h.2)).bind λj=>
   bif (!(E1 j.2 0))then
    some (.inr ((0,[]),j.2))
   else
    (UX (h.1,i.1)).bind λi=>
    (UY (h.2,j.1)).bind λh=>
    (L0 (i,h)).bind λj=>
    bif (decide (j<0))then
     (app? 192 d [(i,h)]).bind λh=>
     a (b,c,h,e,f,(i64.wrap (g+1)))
    else
     a (b,c,d,e,f,(i64.wrap (g+1)))
 else
  some (.inl (c,d))
def nB:=EE A08 fuel
def A09:Rd ((List FF)×(List FF)×Int×Int) (List FF):=λa (b,c,d,e)=>
 bif (decide (e<d))then
  (in? c.length e).bind λ_=>
  let f:=(c.getD e.toNat ((0,([],(false,[]))),(0,([],(false,[])))))
  (bif (!(E1 (b.length:Int) 0))then in? b.length (i64.wrap ((b.length:Int)-1))else some ()).bind λ_=>
  (bif (!(E1 (b.length:Int) 0))then L0 (((b.getD ((i64.wrap ((b.length:Int)-1)).toNat) ((0,([],(false,[]))),(0,([],(false,[]))))).2),f.1)else some 0).bind λg=>
  bif ((E1 (b.length:Int) 0)||(decide (g<0)))then
   (app? 192 b [f]).bind λg=>
   a (g,c,d,(i64.wrap (e+1)))
  else
   (in? b.length (i64.wrap ((b.length:Int)-1))).bind λ_=>
   (L0 (((b.getD ((i64.wrap ((b.length:Int)-1)).toNat) ((0,([],(false,[]))),(0,([],(false,[]))))).2),f.2)).bind λg=>
   bif (decide (g<0))then
    (in? b.length (i64.wrap ((b.length:Int)-1))).bind λ_=>
    a ((b.set ((i64.wrap ((b.length:Int)-1)).toNat) ((b.getD ((i64.wrap ((b.length:Int)-1)).toNat) ((0,([],(false,[]))),(0,([],(false,[]))))).1,f.2)),c,d,(i64.wrap (e+1)))
   else
    a (b,c,d,(i64.wrap (e+1)))
 else
  some b
def nC:=EE A09 fuel
def cI:Int×FE->Option ((Int×FE)×Int):=λ(a,b)=>
 (nB (a,(0,[]),[],b,(b.length:Int),0)).bind λb=>
 match b with
 | .inl b=>
  (jQ (b.2,(λx=>(MY x).bind λr=>some r))).bind λb=>
  (nC ([],b,(b.length:Int),0)).bind λb=>
  (cH (a,b)).bind λa=>
  some (a.1,a.2)
 | .inr a=>
  some (a.1,a.2)
def cJ:DW×Int×I5×(List DW)×(List DW)->Option ((Int×FE)×Int):=λa=>
 (bO a).bind λb=>
 bif (!(E1 b 0))then
  some ((0,[]),b)
 else
  (cA a).bind λb=>
  (cI (a.2.1,b)).bind λa=>
  some (a.1,a.2)
def cK:KB×Bool->Option (Sum KB (JQ×Int)):=λ(a,b)=>
 bif b then
  (bJ a.2.2.2.2.2.1).bind λb=>
  bif (!(E1 b.2 0))then
   some (.inr ([],b.2))
  else
   some (.inl a)
 else
  some (.inl a)
def A0A:Rd (JQ×(List GX)×Int×Int) (Sum JQ (JQ×Int)):=λa (b,c,d,e)=>
 bif (decide (e<d))then
  (at? c e).bind λf=>
  (cJ f).bind λf=>
  bif (!(E1 f.2 0))then
   some (.inr ([],f.2))
  else
   (app? 48 b [f.1]).bind λf=>
   a (f,c,d,(i64.wrap (e+1)))
 else
  some (.inl b)
def nD:=EE A0A fuel
def cL:DW×(List DW)×DW×Int×Bool×DW×(List GX)->Option (JQ×Int):=λa=>
 (RL a.1).bind λb=>
 bif (!b)then
  some ([],8)
 else
  (bH a).bind λb=>
  bif (!(E1 b 0))then
   some ([],b)
  else
   (RL a.2.2.1).bind λb=>
   bif (!b)then
    some ([],8)
   else
    bif ((decide (a.2.2.2.1<0))||(decide (1000000<a.2.2.2.1)))then
     some ([],9)
    else
     (cK (a,(!(EG a.2.2.2.2.2.1 [])))).bind λa=>
     match a with
     | .inl a=>
      bif (decide (50<(a.2.2.2.2.2.2.length:Int)))then
       some ([],3)
      else
       (nD ([],a.2.2.2.2.2.2,(a.2.2.2.2.2.2.length:Int),0)).bind λa=>
       match a with
       | .inl a=>
        some (a,0)
       | .inr a=>
        some (a.1,a.2)
     | .inr a=>
      some (a.1,a.2)
def RO:DW×(List DW)×DW×Int×Bool×DW×(List GX)->Option (Int):=λa=>
 (cL a).bind λa=>
 some a.2
def A0B:Rd ((Int×(List KB)×(List Int))×(List KB)×Int×Int) HR:=λa (b,c,d,e)=>
 bif (decide (e<d))then
  (at? c e).bind λf=>
  (RO f).bind λg=>
  bif (!(E1 g 0))then
   some (.inr g)
  else
   (bif (decide (0<e))then at? b.2.1 (i64.wrap (e-1))else some ([],([],([],(0,(false,([],[]))))))).bind λg=>
   bif ((decide (0<e))&&(Op.bytesLess f.1 g.1||EG f.1 g.1))then
    some (.inr 10)
   else
    (at? b.2.2 e).bind λf=>
    (bif (!(decide (f<0)))then at? b.2.2 e else some 0).bind λg=>
    bif ((decide (f<0))||(decide (b.1<g)))then
     some (.inr 9)
    else
     a (b,c,d,(i64.wrap (e+1)))
 else
  some (.inl ())
def nE:=EE A0B fuel
def cM:Int×(List KB)×(List Int)->Option (Int):=λa=>
 bif ((decide (a.1<0))||(decide (1000000000<a.1)))then
  some 9
 else
  bif (decide (2000<(a.2.1.length:Int)))then
   some 3
  else
   bif (!(E1 (a.2.2.length:Int) (a.2.1.length:Int)))then
    some 2
   else
    (nE (a,a.2.1,(a.2.1.length:Int),0)).bind λa=>
    match a with
    | .inl _=>
     some 0
    | .inr a=>
     some a
def nF:Rd (F_×(List DW)×Int×Int) (Sum F_ (Int)):=λa (b,c,d,e)=>
 bif (decide (e<d))then
  (at? c e).bind λf=>
  (L1 (b.2.2.2.1,f)).bind λg=>
  bif (!g.2)then
   some (.inr 4)
  else
   (bif (decide (0<e))then at? b.2.2.2.2.1 (i64.wrap (e-1))else some []).bind λg=>
   bif ((decide (0<e))&&(Op.bytesLess f g||EG f g))then
    some (.inr 10)
   else
    a (b,c,d,(i64.wrap (e+1)))
 else
  some (.inl b)
def nG:=EE nF fuel
def NT:JD×H7×Int×D_×(List DW)×Bool×(Int×(List KB)×(List Int))->Option (Int):=λa=>
 (RK a.1).bind λb=>
 bif (!(E1 b 0))then
  some b
 else
  (UZ a.2.1).bind λb=>
  bif (!(E1 b 0))then
   some b
  else
   bif ((decide (a.2.2.1<1))||(decide (4<a.2.2.1)))then
    some 9
   else
    (M9 a.2.2.2.1).bind λb=>
    bif (!(E1 b 0))then
     some b
    else
     (nG (a,a.2.2.2.2.1,(a.2.2.2.2.1.length:Int),0)).bind λa=>
     match a with
     | .inl a=>
      (cM a.2.2.2.2.2.2).bind λa=>
      some a
     | .inr a=>
      some a
def L2:F_×D_->Option (Int):=λ(a,b)=>
 (NT a).bind λa=>
 bif (!(E1 a 0))then
  some a
 else
  (M9 b).bind λa=>
  some a
def nH:Rd (Int×(List D_)×Int×Int) (Int):=λa (b,c,d,e)=>
 bif (decide (e<d))then
  (at? c e).bind λf=>
  bif (decide ((i64.wrap (b+(f.length:Int)))<0))then
   none
  else
   a ((i64.wrap (b+(f.length:Int))),c,d,(i64.wrap (e+1)))
 else
  some b
def nI:=EE nH fuel
def nJ:Rd (D_×(List D_)×Int×Int) D_:=λa (b,c,d,e)=>
 bif (decide (e<d))then
  (at? c e).bind λf=>
  (app? 48 b f).bind λf=>
  a (f,c,d,(i64.wrap (e+1)))
 else
  some b
def nK:=EE nJ fuel
def cN:List D_->Option D_:=λa=>
 (nI (0,a,(a.length:Int),0)).bind λb=>
 (YX ((),b)).bind λb=>
 (nK (b,a,(a.length:Int),0)).bind λa=>
 some a
def nL:Rd ((List DW)×D_×Int×Int) (List DW):=λa (b,c,d,e)=>
 bif (decide (e<d))then
  (at? c e).bind λf=>
  (app? 24 b [f.1]).bind λf=>
  a (f,c,d,(i64.wrap (e+1)))
 else
  some b
def cO:=EE nL fuel
def nM:Rd (D_×D_×FN×(List DW)×Int×Int) FN:=λa (b,c,d,e,f,g)=>
 bif (decide (g<f))then
  (in? e.length g).bind λ_=>
  (L1 (b,(e.getD g.toNat []))).bind λh=>
  (L1 (c,(e.getD g.toNat []))).bind λi=>
  bif (!(EG i.1 h.1))then
   (app? 72 d [((e.getD g.toNat []),(h.1,i.1))]).bind λh=>
   a (b,c,h,e,f,(i64.wrap (g+1)))
  else
   a (b,c,d,e,f,(i64.wrap (g+1)))
 else
  some d
def cP:=EE nM fuel
def OW:D_×D_->Option FN:=λ(a,b)=>
 (cN [a,b]).bind λc=>
 (cO ([],c,(c.length:Int),0)).bind λc=>
 (slices_Sort_string c).bind λc=>
 (slices_Compact_string c).bind λc=>
 (cP (a,b,[],c,(c.length:Int),0)).bind λa=>
 some a
def nN:Rd (F_×H7×H7×Int×Int) H7:=λa (b,c,d,e,f)=>
 bif (decide (f<e))then
  (at? d f).bind λg=>
  bif (decide (g.2.2<=b.2.2.1))then
   (app? 96 c [g]).bind λg=>
   a (b,g,d,e,(i64.wrap (f+1)))
  else
   a (b,c,d,e,(i64.wrap (f+1)))
 else
  some c
def nO:=EE nN fuel
def OX:F_×H7->Option H7:=λ(a,b)=>
 (nO (a,[],b,(b.length:Int),0)).bind λa=>
 some a
def cQ:FF×(Option JO)->Option (Bool):=λ(a,b)=>
 (b).bind λc=>
 (L0 (a.1,c)).bind λc=>
 (bif (decide (c<=0))then b else some (0,([],(false,[])))).bind λb=>
 (bif (decide (c<=0))then L0 (b,a.2)else some 0).bind λa=>
 some ((decide (c<=0))&&(decide (a<0)))
def A0C:Rd ((List FF)×(FF->Option Bool)×Int×Int) HR:=λa (b,c,d,e)=>
 bif (decide (e<d))then
  (at? b e).bind λf=>
  (c f).bind λf=>
  bif f then
   some (.inr e)
  else
   a (b,c,d,(i64.wrap (e+1)))
 else
  some (.inl ())
def A0D:=EE A0C fuel
def nP:(List FF)×(FF->Option Bool)->Option (Int):=λ(a,b)=>
 (A0D (a,b,(a.length:Int),0)).bind λa=>
 match a with
 | .inl _=>
  some (-1:Int)
 | .inr a=>
  some a
def RP:(List FF)×DW->Option (Int):=λ(a,b)=>
 (nP (a,(λx=>(cQ (x,(some (0,(b,(false,[])))))).bind λr=>some r))).bind λa=>
 some a
def RQ:(Int×FE)×DW->Option (Bool×Int):=λ(a,b)=>
 (RI a).bind λc=>
 bif (!(E1 c.2 0))then
  some (false,c.2)
 else
  (IC (a.1,b)).bind λa=>
  bif (!(E1 a.2 0))then
   some (false,a.2)
  else
   ((λz=>Sum.casesOn (motive:=λ_=>Option DW) z (λx=>(MR x).bind λr=>some r) (λz=>Sum.casesOn (motive:=λ_=>Option DW) z (λx=>(MS x).bind λr=>some r) (λz=>Sum.casesOn (motive:=λ_=>Option DW) z (λx=>(MT x).bind λr=>some r) (λz=>Sum.casesOn (motive:=λ_=>Option DW) z (λx=>(MV x).bind λr=>some r) (λz=>Sum.casesOn (motive:=λ_=>Option DW) z (λx=>(MW x).bind λr=>some r) (λ_=>none)))))) a.1).bind λa=>
   (RP (c.1,a)).bind λa=>
   some ((decide (0<=a)),0)
def nQ:Rd (D_×DW×(List GQ)×H7×Int×Int) (List GQ):=λa (b,c,d,e,f,g)=>
 bif (decide (g<f))then
  (at? e g).bind λh=>
  (L1 (b,h.1)).bind λi=>
  (RQ (h.2.1,i.1)).bind λj=>
  bif (!i.2)then
   (app? 72 d [(1,(h.1,c))]).bind λi=>
   a (b,c,i,e,f,(i64.wrap (g+1)))
  else
   bif (!j.1)then
    (app? 72 d [(2,(h.1,c))]).bind λh=>
    a (b,c,h,e,f,(i64.wrap (g+1)))
   else
    a (b,c,d,e,f,(i64.wrap (g+1)))
 else
  some d
def A0E:=EE nQ fuel
def V2:D_×H7×DW->Option (List GQ):=λ(a,b,c)=>
 (A0E (a,c,[],b,(b.length:Int),0)).bind λa=>
 some a
def nR:Rd (DW×JD×JD×Int×Int) JD:=λa (b,c,d,e,f)=>
 bif (decide (f<e))then
  (at? d f).bind λg=>
  bif (EG g.1 b)then
   (app? 96 c [g]).bind λg=>
   a (b,g,d,e,(i64.wrap (f+1)))
  else
   a (b,c,d,e,(i64.wrap (f+1)))
 else
  some c
def nS:=EE nR fuel
def cR:JD×DW->Option JD:=λ(a,b)=>
 (nS (b,[],a,(a.length:Int),0)).bind λa=>
 some a
def A0F:(List Int)×(List DW)->Option (Bool):=λa=>
 some (decide (0<(a.2.length:Int)))
def nT:Int×DW×DW×Bool->Option (Bool):=λa=>
 (strings_IndexByte (a.2.1,126)).bind λb=>
 (bif (!(decide (0<=b)))then strings_IndexByte (a.2.2.1,126)else some 0).bind λa=>
 some ((decide (0<=b))||(decide (0<=a)))
def A0G:Int×(List Int)×Int×Int×Int×Int×(List DW)->Option (Bool):=λa=>
 some ((decide (0<a.2.2.1))||(decide (0<=a.2.2.2.2.2.1)))
def nU:Rd ((List G7)×(G7->Option Bool)×Int×Int) HR:=λa (b,c,d,e)=>
 bif (decide (e<d))then
  (at? b e).bind λf=>
  (c f).bind λf=>
  bif f then
   some (.inr e)
  else
   a (b,c,d,(i64.wrap (e+1)))
 else
  some (.inl ())
def A0H:=EE nU fuel
def cS:(List G7)×(G7->Option Bool)->Option (Int):=λ(a,b)=>
 (A0H (a,b,(a.length:Int),0)).bind λa=>
 match a with
 | .inl _=>
  some (-1:Int)
 | .inr a=>
  some a
def nV:(List G7)×(G7->Option Bool)->Option (Bool):=λ(a,b)=>
 (cS (a,b)).bind λa=>
 some (decide (0<=a))
def nW:Bool×DW×Int->Option (Bool):=λa=>
 (RG a).bind λa=>
 some a
def nX:List G7->Option (Bool):=λa=>
 (nV (a,(λx=>(nW x).bind λr=>some r))).bind λa=>
 some a
def A0I:Int->Option (Bool):=λ_=>
 some false
def RR:Int×DW->Option (Bool×Int):=λ(a,b)=>
 (IC (a,b)).bind λa=>
 bif (!(E1 a.2 0))then
  some (false,a.2)
 else
  ((λz=>Sum.casesOn (motive:=λ_=>Option Bool) z (λx=>(A0F x).bind λr=>some r) (λz=>Sum.casesOn (motive:=λ_=>Option Bool) z (λx=>(nT x).bind λr=>some r) (λz=>Sum.casesOn (motive:=λ_=>Option Bool) z (λx=>(A0G x).bind λr=>some r) (λz=>Sum.casesOn (motive:=λ_=>Option Bool) z (λx=>(nX x).bind λr=>some r) (λz=>Sum.casesOn (motive:=λ_=>Option Bool) z (λx=>(A0I x).bind λr=>some r) (λ_=>none)))))) a.1).bind λa=>
  some (a,0)
def nY:Rd (DW×F_×DW×Bool×(List DW)×JD×Int×Int) (List DW):=λa (b,c,d,e,f,g,h,i)=>
 bif (decide (i<h))then
  (at? g i).bind λj=>
  (NR b).bind λk=>
  (RR (k.1,j.2.1)).bind λk=>
  bif ((e&&(EG j.2.1 d))||((!j.2.2.2)&&(c.2.2.2.2.2.1||(!k.1))))then
   (app? 24 f [j.2.1]).bind λj=>
   a (b,c,d,e,j,g,h,(i64.wrap (i+1)))
  else
   a (b,c,d,e,f,g,h,(i64.wrap (i+1)))
 else
  some f
def nZ:=EE nY fuel
def V3:F_×DW->Option (List DW):=λ(a,b)=>
 (L1 (a.2.2.2.1,b)).bind λc=>
 (cR (a.1,b)).bind λd=>
 (nZ (b,a,c.1,c.2,[],d,(d.length:Int),0)).bind λa=>
 some a
def o4:Rd (F_×(DW×DW)×JD×Int×Int) (Sum (Unit) H7):=λa (b,c,d,e,f)=>
 bif (decide (f<e))then
  (at? d f).bind λg=>
  bif ((EG g.1 c.1)&&(EG g.2.1 c.2))then
   (OX (b,g.2.2.1)).bind λg=>
   some (.inr g)
  else
   a (b,c,d,e,(i64.wrap (f+1)))
 else
  some (.inl ())
def o6:=EE o4 fuel
def RS:F_×(DW×DW)->Option H7:=λ(a,b)=>
 (o6 (a,b,a.1,(a.1.length:Int),0)).bind λa=>
 match a with
 | .inl _=>
  some []
 | .inr a=>
  some a
def ABU:Unit->Option (List DW):=λ_=>
 some []
def o8:List DW->Option (List DW):=λa=>
 (app? 24 [] a).bind λa=>
 some a
def cT:List DW->Option (List DW):=o8
def o9:Rd ((List DW)×H7×Int×Int) (List DW):=λa (b,c,d,e)=>
 bif (decide (e<d))then
  (at? c e).bind λf=>
  (app? 24 b [f.1]).bind λf=>
  a (f,c,d,(i64.wrap (e+1)))
 else
  some b
def oA:=EE o9 fuel
def oB:Rd ((List DW)×H7×Int×Int) (List DW):=λa (b,c,d,e)=>
 bif (decide (e<d))then
  (at? c e).bind λf=>
  (app? 24 b [f.1]).bind λf=>
  a (f,c,d,(i64.wrap (e+1)))
 else
  some b
def oC:=EE oB fuel
def A0J:Rd (D_×F_×(List (DW×Bool))×(List DW)) (List (DW×Bool)):=λa (b,c,d,e)=>
 bif (decide (0<(e.length:Int)))then
  (in? e.length 0).bind λ_=>
  (cut? e 1 (e.length:Int)).bind λf=>
  (L1 (b,(e.getD 0 []))).bind λg=>
  bif ((!g.2)||((FQ EG (e.getD 0 []) d).getD false))then
   a (b,c,d,f)
  else
   (RS (c,((e.getD 0 []),g.1))).bind λg=>
   (oC (f,g,(g.length:Int),0)).bind λf=>
   a (b,c,(FH EG (e.getD 0 []) true d),f)
 else
  some d
def A0K:=EE A0J fuel
def cU:F_×D_->Option (List (DW×Bool)):=λ(a,b)=>
 (cT a.2.2.2.2.1).bind λc=>
 (OX (a,a.2.1)).bind λd=>
 (oA (c,d,(d.length:Int),0)).bind λc=>
 (A0K (b,a,[],c)).bind λa=>
 some a
def oD:Rd (D_×F_×(List GQ)×D_×Int×Int) (F_×(List GQ)):=λa (b,c,d,e,f,g)=>
 bif (decide (g<f))then
  (at? e g).bind λh=>
  (V3 (c,h.1)).bind λi=>
  (OU (i,h.2)).bind λi=>
  bif (!i)then
   (app? 72 d [(3,(h.1,[]))]).bind λi=>
   a (b,c,i,e,f,(i64.wrap (g+1)))
  else
   (RS (c,h)).bind λi=>
   (V2 (b,i,h.1)).bind λh=>
   (app? 72 d h).bind λh=>
   a (b,c,h,e,f,(i64.wrap (g+1)))
 else
  some (c,d)
def oE:=EE oD fuel
def oG:Rd ((List GQ)×(List (DW×Bool))×D_×Int×Int) (List GQ):=λa (b,c,d,e,f)=>
 bif (decide (f<e))then
  (at? d f).bind λg=>
  bif (!((FQ EG g.1 c).getD false))then
   (app? 72 b [(4,(g.1,[]))]).bind λg=>
   a (g,c,d,e,(i64.wrap (f+1)))
  else
   a (b,c,d,e,(i64.wrap (f+1)))
 else
  some b
def oH:=EE oG fuel
def oI:Rd (D_×F_×(List GQ)×(List DW)×Int×Int) (List GQ):=λa (b,c,d,e,f,g)=>
 bif (decide (g<f))then
  (at? e g).bind λh=>
  (L1 (b,h)).bind λi=>
  (L1 (c.2.2.2.1,h)).bind λj=>
  bif ((!i.2)||(!(EG i.1 j.1)))then
   (app? 72 d [(5,(h,[]))]).bind λh=>
   a (b,c,h,e,f,(i64.wrap (g+1)))
  else
   a (b,c,d,e,f,(i64.wrap (g+1)))
 else
  some d
def oJ:=EE oI fuel
def OY:F_×D_->Option (List GQ):=λ(a,b)=>
 (OX (a,a.2.1)).bind λc=>
 (V2 (b,c,[])).bind λc=>
 (oE (b,a,c,b,(b.length:Int),0)).bind λa=>
 (cU (a.1,b)).bind λc=>
 (oH (a.2,c,b,(b.length:Int),0)).bind λc=>
 (oJ (b,a.1,c,a.1.2.2.2.2.1,(a.1.2.2.2.2.1.length:Int),0)).bind λa=>
 some a
def oK:Rd (IJ×(List GQ)×Int×Int) IJ:=λa (b,c,d,e)=>
 bif (decide (e<d))then
  (at? c e).bind λf=>
  bif ((E1 f.1 1)||(E1 f.1 2))then
   a ((FH (λ(x y:Int×DW×DW)=>E1 x.1 y.1&&(λ(x y:DW×DW)=>EG x.1 y.1&&EG x.2 y.2) x.2 y.2) f true b),c,d,(i64.wrap (e+1)))
  else
   a (b,c,d,(i64.wrap (e+1)))
 else
  some b
def oL:=EE oK fuel
def RT:F_×D_->Option IJ:=λ(a,b)=>
 (OY (a,b)).bind λa=>
 (oL ([],a,(a.length:Int),0)).bind λa=>
 some a
def oM:JP×(Option (DW×DW))->Option (Bool):=λ(a,b)=>
 (b).bind λb=>
 some (EG a.1 b.1)
def oN:Rd (FN×(JP->Option Bool)×Int×Int) HR:=λa (b,c,d,e)=>
 bif (decide (e<d))then
  (at? b e).bind λf=>
  (c f).bind λf=>
  bif f then
   some (.inr e)
  else
   a (b,c,d,(i64.wrap (e+1)))
 else
  some (.inl ())
def oO:=EE oN fuel
def cV:FN×(JP->Option Bool)->Option (Int):=λ(a,b)=>
 (oO (a,b,(a.length:Int),0)).bind λa=>
 match a with
 | .inl _=>
  some (-1:Int)
 | .inr a=>
  some a
def cW:FN×(JP->Option Bool)->Option (Bool):=λ(a,b)=>
 (cV (a,b)).bind λa=>
 some (decide (0<=a))
def L3:Int×Int->Option (Bool):=λ(a,b)=>
 (shr? u16 a b).bind λa=>
 some (E1 (KP u16 a 1) 1)
def oP:(DW×DW)×(DW×DW)->Option (Int):=λ(a,b)=>
 (LO (a.1,b.1)).bind λa=>
 some a
def oQ:Rd (FN×D_×D_×Int×Int) D_:=λa (b,c,d,e,f)=>
 bif (decide (f<e))then
  (at? d f).bind λg=>
  (cW (b,(λx=>(oM (x,(some g))).bind λr=>some r))).bind λh=>
  bif (!h)then
   (app? 48 c [g]).bind λg=>
   a (b,g,d,e,(i64.wrap (f+1)))
  else
   a (b,c,d,e,(i64.wrap (f+1)))
 else
  some c
def cX:=EE oQ fuel
def cY:JP×DW×Bool->Option (JP×DW):=λ(a,b,c)=>
 bif c then
  some (a,a.2.2)
 else
  some (a,b)
def oR:Rd (Int×D_×FN×Int×Int) D_:=λa (b,c,d,e,f)=>
 bif (decide (f<e))then
  (at? d f).bind λg=>
  (L3 (b,f)).bind λh=>
  (cY (g,g.2.1,h)).bind λg=>
  bif (!(EG g.2 []))then
   (app? 48 c [(g.1.1,g.2)]).bind λg=>
   a (b,g,d,e,(i64.wrap (f+1)))
  else
   a (b,c,d,e,(i64.wrap (f+1)))
 else
  some c
def oS:=EE oR fuel
def cZ:D_×FN×Int->Option D_:=λ(a,b,c)=>
 (cX (b,[],a,(a.length:Int),0)).bind λa=>
 (oS (c,a,b,(b.length:Int),0)).bind λa=>
 (xG (a,(λx=>(oP x).bind λr=>some r))).bind λa=>
 some a
def OZ(a:GQ):List (GQ×Bool)->Option (Sum IJ (Bool)):=λb=>
 bif (!((FQ (λ(x y:Int×DW×DW)=>E1 x.1 y.1&&(λ(x y:DW×DW)=>EG x.1 y.1&&EG x.2 y.2) x.2 y.2) a b).getD false))then
  some (.inr false)
 else
  some (.inl b)
def O_:Int×F_×FN×IJ->Option (Bool):=λ(a,b,c,d)=>
 (cZ (b.2.2.2.1,c,a)).bind λa=>
 (RT (b,a)).bind λa=>
 NB (λb:List (GQ×Bool)=>b.Perm a) λb=>
 (GU (λkx u=>OZ kx.1 u) b d).bind λa=>
 match a with
 | .inl _=>
  some true
 | .inr a=>
  some a
def KF(slf:Int×FN×FN×IK×Unit×Unit×F_×IJ->Option (Bool×FN×IK))(a:Int×FN×FN×IK×FN×Int×Int×F_×IJ->Option jR):Int×FN×FN×IK×FN×Int×Int×F_×IJ->Option jR:=λ(b,c,d,e,f,g,h,i,j)=>
 bif (decide (h<g))then
  (at? f h).bind λk=>
  (shl? u16 1 h).bind λl=>
  (L3 (b,h)).bind λm=>
  bif (m||((FQ E1 (HA u16 b l) e).getD false))then
   a (b,c,d,e,f,g,(i64.wrap (h+1)),i,j)
  else
   (app? 72 c [k]).bind λk=>
   (O_ ((HA u16 b l),i,d,j)).bind λm=>
   (bif m then slf ((HA u16 b l),k,d,e,(),(),i,j)else some (false,[],[])).bind λn=>
   bif m then
    bif (m&&n.1)then
     some (.inr (n.2.1,n.2.2,true,i,j))
    else
     (cut? n.2.1 0 (i64.wrap ((n.2.1.length:Int)-1))).bind λo=>
     a (b,o,d,(FH E1 (HA u16 b l) true n.2.2),f,g,(i64.wrap (h+1)),i,j)
   else
    bif (m&&n.1)then
     some (.inr (k,e,true,i,j))
    else
     (cut? k 0 (i64.wrap ((k.length:Int)-1))).bind λk=>
     a (b,k,d,(FH E1 (HA u16 b l) true e),f,g,(i64.wrap (h+1)),i,j)
 else
  some (.inl (c,e,i,j))
def oT(slf:Int×FN×FN×IK×Unit×Unit×F_×IJ->Option (Bool×FN×IK)):Int×FN×FN×IK×FN×Int×Int×F_×IJ->Option jR:=EE (KF slf) fuel
def JR(slf:Int×FN×FN×IK×Unit×Unit×F_×IJ->Option (Bool×FN×IK)):Int×FN×FN×IK×Unit×Unit×F_×IJ->Option (Bool×FN×IK):=λ(a,b,c,d,_,_,e,f)=>
 bif (E1 (b.length:Int) (c.length:Int))then
  some (true,b,d)
 else
  ((oT slf) (a,b,c,d,c,(c.length:Int),0,e,f)).bind λa=>
  match a with
  | .inl a=>
   some (false,a.1,a.2.1)
  | .inr a=>
   some (a.2.2.1,a.1,a.2.1)
def G_:Nat->Int×FN×FN×IK×Unit×Unit×F_×IJ->Option (Bool×FN×IK)
 |0=>λ_=>none
 |n+1=>JR (G_ n)
def c_:Int×FN×FN×IK×Unit×Unit×F_×IJ->Option (Bool×FN×IK):=G_ 100
def V4(a:GQ):List (GQ×Bool)->Option (Sum IJ (Unit)):=λb=>
 some (.inl (FH (λ(x y:Int×DW×DW)=>E1 x.1 y.1&&(λ(x y:DW×DW)=>EG x.1 y.1&&EG x.2 y.2) x.2 y.2) a true b))
def P0:F_×D_->Option (FN×Bool×Int):=λ(a,b)=>
 (L2 (a,b)).bind λc=>
 bif (!(E1 c 0))then
  some ([],false,c)
 else
  (OW (a.2.2.2.1,b)).bind λc=>
  bif (decide (8<(c.length:Int)))then
   some ([],false,3)
  else
   (RT (a,a.2.2.2.1)).bind λd=>
   (RT (a,b)).bind λb=>
   NB (λe:List (GQ×Bool)=>e.Perm b) λe=>
   (GU (λkx u=>V4 kx.1 u) e d).bind λb=>
   match b with
   | .inl b=>
    (c_ (0,[],c,[],(),(),a,b)).bind λa=>
    bif (!a.1)then
     some ([],false,0)
    else
     some (a.2.1,true,0)
   | .inr _=>
    some ([],false,0)
def V5:D_×D_->Option (FN×Int):=λ(a,b)=>
 (M9 a).bind λc=>
 bif (!(E1 c 0))then
  some ([],c)
 else
  (M9 b).bind λc=>
  bif (!(E1 c 0))then
   some ([],c)
  else
   (OW (a,b)).bind λa=>
   some (a,0)
def V6:GA×DW->Option (Int):=λ(a,b)=>
 (a).bind λa=>
 (MU (a.2.1,b)).bind λa=>
 some a
def ABV:Rd ((List DW)×Int×Int) (List DW):=λa (b,c,d)=>
 bif (decide (c<d))then
  (in? b.length d).bind λ_=>
  (in? b.length c).bind λ_=>
  (in? b.length c).bind λ_=>
  (in? (b.set c.toNat (b.getD d.toNat [])).length d).bind λ_=>
  a (((b.set c.toNat (b.getD d.toNat [])).set d.toNat (b.getD c.toNat [])),(i64.wrap (c+1)),(i64.wrap (d-1)))
 else
  some b
def A0L:=EE ABV fuel
def A0M:List DW->Option (List DW):=λa=>
 (A0L (a,0,(i64.wrap ((a.length:Int)-1)))).bind λa=>
 some a
def oU:Int->Option (Int):=λa=>
 (shl? u16 1 a).bind λa=>
 some (u16.wrap (a-1))
def ABW:Rd ((Int×FE)×Int×(List DW)×Int×Int) (Int):=λa (b,c,d,e,f)=>
 bif (decide (f<e))then
  (at? d f).bind λg=>
  (RQ (b,g)).bind λg=>
  bif g.1 then
   (shl? u16 1 (i64.wrap (f+1))).bind λg=>
   a (b,(HA u16 c g),d,e,(i64.wrap (f+1)))
  else
   a (b,c,d,e,(i64.wrap (f+1)))
 else
  some c
def A0N:=EE ABW fuel
def oV:GA×Int×(Int×FE)->Option (Int):=λ(a,b,c)=>
 (a).bind λa=>
 (at? a.2.2.1 b).bind λa=>
 (A0N (c,0,a,(a.length:Int),0)).bind λa=>
 some a
def ABX:Rd (GZ×Int×Int×Int×Int×Int×Int) GZ:=λa (b,c,d,e,f,g,h)=>
 bif (decide (h<g))then
  (L3 (f,h)).bind λi=>
  bif (!i)then
   (in? b.2.2.2.2.1.length e).bind λ_=>
   (in? (b.2.2.2.2.1.getD e.toNat []).length h).bind λ_=>
   let i:=((b.2.2.2.2.1.getD e.toNat []).getD h.toNat [])
   (in? i.length c).bind λ_=>
   (shl? u16 1 d).bind λj=>
   (in? i.length c).bind λ_=>
   a ((b.1,(b.2.1,(b.2.2.1,(b.2.2.2.1,((b.2.2.2.2.1.set e.toNat ((b.2.2.2.2.1.getD e.toNat []).set h.toNat (i.set c.toNat (WV u16 (i.getD c.toNat 0) j)))),(b.2.2.2.2.2.1,b.2.2.2.2.2.2)))))),c,d,e,f,g,(i64.wrap (h+1)))
  else
   a ((b.1,(b.2.1,(b.2.2.1,(b.2.2.2.1,(b.2.2.2.2.1,(b.2.2.2.2.2.1,b.2.2.2.2.2.2)))))),c,d,e,f,g,(i64.wrap (h+1)))
 else
  some (b.1,(b.2.1,(b.2.2.1,(b.2.2.2.1,(b.2.2.2.2.1,(b.2.2.2.2.2.1,b.2.2.2.2.2.2))))))
def A0O:=EE ABX fuel
def A0P:GZ×Int×Int×ON->Option GZ:=λ(a,b,c,d)=>
 (V6 ((some (a.1,(a.2.1,(a.2.2.1,(a.2.2.2.1,(a.2.2.2.2.1,(a.2.2.2.2.2.1,a.2.2.2.2.2.2))))))),d.1)).bind λe=>
 bif (decide (e<0))then
  (in? a.2.2.2.2.2.1.length b).bind λ_=>
  (shl? u16 1 c).bind λf=>
  (in? a.2.2.2.2.2.1.length b).bind λ_=>
  some (a.1,(a.2.1,(a.2.2.1,(a.2.2.2.1,(a.2.2.2.2.1,((a.2.2.2.2.2.1.set b.toNat (WV u16 (a.2.2.2.2.2.1.getD b.toNat 0) f)),a.2.2.2.2.2.2))))))
 else
  (in? a.2.2.2.1.length b).bind λ_=>
  (in? (a.2.2.2.1.getD b.toNat []).length c).bind λ_=>
  (shl? u16 1 e).bind λf=>
  (in? (a.2.2.2.1.getD b.toNat []).length c).bind λ_=>
  let g:=((a.2.2.2.1.getD b.toNat []).set c.toNat (HA u16 ((a.2.2.2.1.getD b.toNat []).getD c.toNat 0) f))
  (oV ((some (a.1,(a.2.1,(a.2.2.1,((a.2.2.2.1.set b.toNat g),(a.2.2.2.2.1,(a.2.2.2.2.2.1,a.2.2.2.2.2.2))))))),e,d.2.1)).bind λd=>
  (in? a.2.2.2.2.1.length b).bind λ_=>
  (in? (a.2.2.2.2.1.getD b.toNat []).length c).bind λ_=>
  let f:=((a.2.2.2.2.1.getD b.toNat []).getD c.toNat [])
  (in? f.length e).bind λ_=>
  (in? f.length e).bind λ_=>
  let h:=((a.2.2.2.2.1.getD b.toNat []).set c.toNat (f.set e.toNat (KP u16 (f.getD e.toNat 0) d)))
  (in? (a.2.2.2.2.1.set b.toNat h).length e).bind λ_=>
  (A0O ((a.1,(a.2.1,(a.2.2.1,((a.2.2.2.1.set b.toNat g),((a.2.2.2.2.1.set b.toNat h),(a.2.2.2.2.2.1,a.2.2.2.2.2.2)))))),b,c,e,d,(((a.2.2.2.2.1.set b.toNat h).getD e.toNat []).length:Int),0)).bind λa=>
  some (a.1,(a.2.1,(a.2.2.1,(a.2.2.2.1,(a.2.2.2.2.1,(a.2.2.2.2.2.1,a.2.2.2.2.2.2))))))
def ABY:Rd (GZ×Int×Int×Int×Int) GZ:=λa (b,c,d,e,f)=>
 bif (decide (f<e))then
  (in? b.2.2.2.2.1.length c).bind λ_=>
  (in? (b.2.2.2.2.1.getD c.toNat []).length d).bind λ_=>
  let g:=((b.2.2.2.2.1.getD c.toNat []).getD d.toNat [])
  (at? b.2.2.1 f).bind λh=>
  (oU (i64.wrap ((h.length:Int)+1))).bind λh=>
  (in? g.length f).bind λ_=>
  a ((b.1,(b.2.1,(b.2.2.1,(b.2.2.2.1,((b.2.2.2.2.1.set c.toNat ((b.2.2.2.2.1.getD c.toNat []).set d.toNat (g.set f.toNat h))),(b.2.2.2.2.2.1,b.2.2.2.2.2.2)))))),c,d,e,(i64.wrap (f+1)))
 else
  some (b.1,(b.2.1,(b.2.2.1,(b.2.2.2.1,(b.2.2.2.2.1,(b.2.2.2.2.2.1,b.2.2.2.2.2.2))))))
def A0Q:=EE ABY fuel
def ABZ:Rd (GZ×Int×Int×Int×Int) GZ:=λa (b,c,d,e,f)=>
 bif (decide (f<e))then
  (in? b.2.2.2.2.1.length d).bind λ_=>
  (mks? 24 c c 0).bind λg=>
  (in? (b.2.2.2.2.1.getD d.toNat []).length f).bind λ_=>
  (A0Q ((b.1,(b.2.1,(b.2.2.1,(b.2.2.2.1,((b.2.2.2.2.1.set d.toNat ((b.2.2.2.2.1.getD d.toNat []).set f.toNat g)),(b.2.2.2.2.2.1,b.2.2.2.2.2.2)))))),d,f,c,0)).bind λg=>
  a ((g.1,(g.2.1,(g.2.2.1,(g.2.2.2.1,(g.2.2.2.2.1,(g.2.2.2.2.2.1,g.2.2.2.2.2.2)))))),c,d,e,(i64.wrap (f+1)))
 else
  some (b.1,(b.2.1,(b.2.2.1,(b.2.2.2.1,(b.2.2.2.2.1,(b.2.2.2.2.2.1,b.2.2.2.2.2.2))))))
def A0R:=EE ABZ fuel
def AB_:Rd (GZ×Int×Int×Int) GZ:=λa (b,c,d,e)=>
 bif (decide (e<d))then
  (at? b.2.2.1 e).bind λf=>
  (mks? 24 (i64.wrap ((f.length:Int)+1)) (i64.wrap ((f.length:Int)+1)) 0).bind λg=>
  (app? 24 b.2.2.2.1 [g]).bind λg=>
  (mks? 24 (i64.wrap ((f.length:Int)+1)) (i64.wrap ((f.length:Int)+1)) []).bind λh=>
  (app? 24 b.2.2.2.2.1 [h]).bind λh=>
  (A0R ((b.1,(b.2.1,(b.2.2.1,(g,(h,(b.2.2.2.2.2.1,b.2.2.2.2.2.2)))))),c,e,(i64.wrap ((f.length:Int)+1)),0)).bind λf=>
  a ((f.1,(f.2.1,(f.2.2.1,(f.2.2.2.1,(f.2.2.2.2.1,(f.2.2.2.2.2.1,f.2.2.2.2.2.2)))))),c,d,(i64.wrap (e+1)))
 else
  some (b.1,(b.2.1,(b.2.2.1,(b.2.2.2.1,(b.2.2.2.2.1,(b.2.2.2.2.2.1,b.2.2.2.2.2.2))))))
def A0S:=EE AB_ fuel
def ABa:Rd (GZ×Int×Int×H7×Int×Int) GZ:=λa (b,c,d,e,f,g)=>
 bif (decide (g<f))then
  (at? e g).bind λh=>
  (A0P ((b.1,(b.2.1,(b.2.2.1,(b.2.2.2.1,(b.2.2.2.2.1,(b.2.2.2.2.2.1,b.2.2.2.2.2.2)))))),c,(i64.wrap (d+1)),h)).bind λh=>
  a ((h.1,(h.2.1,(h.2.2.1,(h.2.2.2.1,(h.2.2.2.2.1,(h.2.2.2.2.2.1,h.2.2.2.2.2.2)))))),c,d,e,f,(i64.wrap (g+1)))
 else
  some (b.1,(b.2.1,(b.2.2.1,(b.2.2.2.1,(b.2.2.2.2.1,(b.2.2.2.2.2.1,b.2.2.2.2.2.2))))))
def A0T:=EE ABa fuel
def ABb:Rd (GZ×Int×(List DW)×Int×Int) GZ:=λa (b,c,d,e,f)=>
 bif (decide (f<e))then
  (at? d f).bind λg=>
  (at? b.2.1 c).bind λh=>
  (RS (b.1,(h,g))).bind λg=>
  (A0T ((b.1,(b.2.1,(b.2.2.1,(b.2.2.2.1,(b.2.2.2.2.1,(b.2.2.2.2.2.1,b.2.2.2.2.2.2)))))),c,f,g,(g.length:Int),0)).bind λg=>
  a ((g.1,(g.2.1,(g.2.2.1,(g.2.2.2.1,(g.2.2.2.2.1,(g.2.2.2.2.2.1,g.2.2.2.2.2.2)))))),c,d,e,(i64.wrap (f+1)))
 else
  some (b.1,(b.2.1,(b.2.2.1,(b.2.2.2.1,(b.2.2.2.2.1,(b.2.2.2.2.2.1,b.2.2.2.2.2.2))))))
def A0U:=EE ABb fuel
def ABc:Rd (GZ×Int×Int) GZ:=λa (b,c,d)=>
 bif (decide (d<c))then
  (at? b.2.2.1 d).bind λe=>
  (A0U ((b.1,(b.2.1,(b.2.2.1,(b.2.2.2.1,(b.2.2.2.2.1,(b.2.2.2.2.2.1,b.2.2.2.2.2.2)))))),d,e,(e.length:Int),0)).bind λe=>
  a ((e.1,(e.2.1,(e.2.2.1,(e.2.2.2.1,(e.2.2.2.2.1,(e.2.2.2.2.2.1,e.2.2.2.2.2.2)))))),c,(i64.wrap (d+1)))
 else
  some (b.1,(b.2.1,(b.2.2.1,(b.2.2.2.1,(b.2.2.2.2.1,(b.2.2.2.2.2.1,b.2.2.2.2.2.2))))))
def A0V:=EE ABc fuel
def A0W:F_×((List DW)×((List (List DW))×((List (List Int))×((List (List (List Int)))×((List Int)×Int)))))->Option GZ:=λa=>
 (A0S ((a.1,(a.2.1,(a.2.2.1,(a.2.2.2.1,(a.2.2.2.2.1,(a.2.2.2.2.2.1,a.2.2.2.2.2.2)))))),(a.2.1.length:Int),(a.2.1.length:Int),0)).bind λb=>
 (A0V ((b.1,(b.2.1,(b.2.2.1,(b.2.2.2.1,(b.2.2.2.2.1,(b.2.2.2.2.2.1,b.2.2.2.2.2.2)))))),(a.2.1.length:Int),0)).bind λa=>
 some (a.1,(a.2.1,(a.2.2.1,(a.2.2.2.1,(a.2.2.2.2.1,(a.2.2.2.2.2.1,a.2.2.2.2.2.2))))))
def ABd:Rd (GZ×H7×Int×Int) (Sum GZ (GZ×Bool)):=λa (b,c,d,e)=>
 bif (decide (e<d))then
  (at? c e).bind λf=>
  (V6 ((some (b.1,(b.2.1,(b.2.2.1,(b.2.2.2.1,(b.2.2.2.2.1,(b.2.2.2.2.2.1,b.2.2.2.2.2.2))))))),f.1)).bind λg=>
  bif (decide (g<0))then
   some (.inr ((b.1,(b.2.1,(b.2.2.1,(b.2.2.2.1,(b.2.2.2.2.1,(b.2.2.2.2.2.1,b.2.2.2.2.2.2)))))),false))
  else
   (in? b.2.2.2.2.2.1.length g).bind λ_=>
   (oV ((some (b.1,(b.2.1,(b.2.2.1,(b.2.2.2.1,(b.2.2.2.2.1,(b.2.2.2.2.2.1,b.2.2.2.2.2.2))))))),g,f.2.1)).bind λf=>
   (in? b.2.2.2.2.2.1.length g).bind λ_=>
   (shl? u16 1 g).bind λh=>
   a ((b.1,(b.2.1,(b.2.2.1,(b.2.2.2.1,(b.2.2.2.2.1,((b.2.2.2.2.2.1.set g.toNat (KP u16 (b.2.2.2.2.2.1.getD g.toNat 0) f)),(HA u16 b.2.2.2.2.2.2 h))))))),c,d,(i64.wrap (e+1)))
 else
  some (.inl (b.1,(b.2.1,(b.2.2.1,(b.2.2.2.1,(b.2.2.2.2.1,(b.2.2.2.2.2.1,b.2.2.2.2.2.2)))))))
def A0X:=EE ABd fuel
def A0Y:Int×Int×Bool->Option (Int):=λ(a,b,c)=>
 bif c then
  (shl? u16 1 (i64.wrap (b+1))).bind λb=>
  some b
 else
  some a
def ABe:Rd (GZ×(List DW)×Int×Int) (Sum GZ (GZ×Bool)):=λa (b,c,d,e)=>
 bif (decide (e<d))then
  (at? c e).bind λf=>
  (V6 ((some (b.1,(b.2.1,(b.2.2.1,(b.2.2.2.1,(b.2.2.2.2.1,(b.2.2.2.2.2.1,b.2.2.2.2.2.2))))))),f)).bind λg=>
  bif (decide (g<0))then
   some (.inr ((b.1,(b.2.1,(b.2.2.1,(b.2.2.2.1,(b.2.2.2.2.1,(b.2.2.2.2.2.1,b.2.2.2.2.2.2)))))),false))
  else
   (L1 (b.1.2.2.2.1,f)).bind λf=>
   (at? b.2.2.1 g).bind λh=>
   (MU (h,f.1)).bind λf=>
   (A0Y (0,f,(decide (0<=f)))).bind λf=>
   (in? b.2.2.2.2.2.1.length g).bind λ_=>
   (in? b.2.2.2.2.2.1.length g).bind λ_=>
   (shl? u16 1 g).bind λh=>
   a ((b.1,(b.2.1,(b.2.2.1,(b.2.2.2.1,(b.2.2.2.2.1,((b.2.2.2.2.2.1.set g.toNat (KP u16 (b.2.2.2.2.2.1.getD g.toNat 0) f)),(HA u16 b.2.2.2.2.2.2 h))))))),c,d,(i64.wrap (e+1)))
 else
  some (.inl (b.1,(b.2.1,(b.2.2.1,(b.2.2.2.1,(b.2.2.2.2.1,(b.2.2.2.2.2.1,b.2.2.2.2.2.2)))))))
def A0Z:=EE ABe fuel
def A0_:F_×((List DW)×((List (List DW))×((List (List Int))×((List (List (List Int)))×((List Int)×Int)))))->Option (Bool×GZ):=λa=>
 (OX (a.1,a.1.2.1)).bind λb=>
 (A0X ((a.1,(a.2.1,(a.2.2.1,(a.2.2.2.1,(a.2.2.2.2.1,(a.2.2.2.2.2.1,a.2.2.2.2.2.2)))))),b,(b.length:Int),0)).bind λa=>
 match a with
 | .inl a=>
  (A0Z ((a.1,(a.2.1,(a.2.2.1,(a.2.2.2.1,(a.2.2.2.2.1,(a.2.2.2.2.2.1,a.2.2.2.2.2.2)))))),a.1.2.2.2.2.1,(a.1.2.2.2.2.1.length:Int),0)).bind λa=>
  match a with
  | .inl a=>
   some (true,(a.1,(a.2.1,(a.2.2.1,(a.2.2.2.1,(a.2.2.2.2.1,(a.2.2.2.2.2.1,a.2.2.2.2.2.2)))))))
  | .inr a=>
   some (a.2,(a.1.1,(a.1.2.1,(a.1.2.2.1,(a.1.2.2.2.1,(a.1.2.2.2.2.1,(a.1.2.2.2.2.2.1,a.1.2.2.2.2.2.2)))))))
 | .inr a=>
  some (a.2,(a.1.1,(a.1.2.1,(a.1.2.2.1,(a.1.2.2.2.1,(a.1.2.2.2.2.1,(a.1.2.2.2.2.2.1,a.1.2.2.2.2.2.2)))))))
def ABf:Rd (GZ×JD×Int×Int) GZ:=λa (b,c,d,e)=>
 bif (decide (e<d))then
  (at? c e).bind λf=>
  (V6 ((some (b.1,(b.2.1,(b.2.2.1,(b.2.2.2.1,(b.2.2.2.2.1,(b.2.2.2.2.2.1,b.2.2.2.2.2.2))))))),f.1)).bind λg=>
  bif (decide (g<0))then
   (app? 24 b.2.1 [f.1]).bind λf=>
   a ((b.1,(f,(b.2.2.1,(b.2.2.2.1,(b.2.2.2.2.1,(b.2.2.2.2.2.1,b.2.2.2.2.2.2)))))),c,d,(i64.wrap (e+1)))
  else
   a ((b.1,(b.2.1,(b.2.2.1,(b.2.2.2.1,(b.2.2.2.2.1,(b.2.2.2.2.2.1,b.2.2.2.2.2.2)))))),c,d,(i64.wrap (e+1)))
 else
  some (b.1,(b.2.1,(b.2.2.1,(b.2.2.2.1,(b.2.2.2.2.1,(b.2.2.2.2.2.1,b.2.2.2.2.2.2))))))
def A0a:=EE ABf fuel
def ABg:Rd (F_×GZ×(List DW)×Int×Int) GZ:=λa (b,c,d,e,f)=>
 bif (decide (f<e))then
  (at? d f).bind λg=>
  (V3 (b,g)).bind λg=>
  (A0M g).bind λg=>
  (app? 24 c.2.2.1 [g]).bind λh=>
  (oU (i64.wrap ((g.length:Int)+1))).bind λg=>
  (app? 24 c.2.2.2.2.2.1 [g]).bind λg=>
  a (b,(c.1,(c.2.1,(h,(c.2.2.2.1,(c.2.2.2.2.1,(g,c.2.2.2.2.2.2)))))),d,e,(i64.wrap (f+1)))
 else
  some (c.1,(c.2.1,(c.2.2.1,(c.2.2.2.1,(c.2.2.2.2.1,(c.2.2.2.2.2.1,c.2.2.2.2.2.2))))))
def A0b:=EE ABg fuel
def A0c:JD×H7×Int×D_×(List DW)×Bool×(Int×(List KB)×(List Int))->Option (GA×Bool):=λa=>
 (A0a ((a,([],([],([],([],([],0)))))),a.1,(a.1.length:Int),0)).bind λb=>
 (A0b (a,(b.1,(b.2.1,(b.2.2.1,(b.2.2.2.1,(b.2.2.2.2.1,(b.2.2.2.2.2.1,b.2.2.2.2.2.2)))))),b.2.1,(b.2.1.length:Int),0)).bind λa=>
 (A0W (a.1,(a.2.1,(a.2.2.1,(a.2.2.2.1,(a.2.2.2.2.1,(a.2.2.2.2.2.1,a.2.2.2.2.2.2))))))).bind λa=>
 (A0_ (a.1,(a.2.1,(a.2.2.1,(a.2.2.2.1,(a.2.2.2.2.1,(a.2.2.2.2.2.1,a.2.2.2.2.2.2))))))).bind λa=>
 some ((some (a.2.1,(a.2.2.1,(a.2.2.2.1,(a.2.2.2.2.1,(a.2.2.2.2.2.1,(a.2.2.2.2.2.2.1,a.2.2.2.2.2.2.2))))))),a.1)
def ABh:Rd (Int×Int) HR:=λa (b,c)=>
 bif (decide (c<16))then
  (L3 (b,c)).bind λd=>
  bif d then
   some (.inr c)
  else
   a (b,(i64.wrap (c+1)))
 else
  some (.inl ())
def A0d:=EE ABh fuel
def A0e:Int->Option (Int):=λa=>
 (A0d (a,0)).bind λa=>
 match a with
 | .inl _=>
  some 0
 | .inr a=>
  some a
def ABi:Rd (GA×D_×(List Int)×Int×Int) D_:=λa (b,c,d,e,f)=>
 bif (decide (f<e))then
  (at? d f).bind λg=>
  (A0e g).bind λg=>
  bif (decide (0<g))then
   (b).bind λh=>
   (at? h.2.1 f).bind λh=>
   (b).bind λi=>
   (at? i.2.2.1 f).bind λi=>
   (at? i (i64.wrap (g-1))).bind λg=>
   (app? 48 c [(h,g)]).bind λg=>
   a (b,g,d,e,(i64.wrap (f+1)))
  else
   a (b,c,d,e,(i64.wrap (f+1)))
 else
  some c
def A0f:=EE ABi fuel
def A0g:GA×(List Int)->Option D_:=λ(a,b)=>
 (A0f (a,[],b,(b.length:Int),0)).bind λa=>
 some a
def A0h:(List Int)×(List D_)×GA×Int->Option (Bool×(List D_)):=λ(a,b,c,d)=>
 (A0g (c,a)).bind λa=>
 (app? 24 b [a]).bind λa=>
 some ((decide ((a.length:Int)<d)),a)
def ABj:Unit->Option (List Int):=λ_=>
 some []
def A0i:List Int->Option (List Int):=λa=>
 (app? 24 [] a).bind λa=>
 some a
def A0j:List Int->Option (List Int):=A0i
def ABk:Rd (GA×(List Int)×Int×Bool×Int×Int×Int) (Int×Bool):=λa (b,c,d,e,f,g,h)=>
 bif (decide (h<g))then
  (at? c f).bind λi=>
  (L3 (i,h)).bind λi=>
  (bif i then b else some (([],([],(0,([],([],(false,(0,([],[])))))))),([],([],([],([],([],0))))))).bind λj=>
  (bif i then at? j.2.2.2.1 f else some []).bind λj=>
  (bif i then at? j h else some 0).bind λj=>
  bif (i&&(!(E1 (HA u16 d j) d)))then
   (b).bind λi=>
   (at? i.2.2.2.1 f).bind λi=>
   (at? i h).bind λi=>
   a (b,c,(HA u16 d i),true,f,g,(i64.wrap (h+1)))
  else
   a (b,c,d,e,f,g,(i64.wrap (h+1)))
 else
  some (d,e)
def A0k:=EE ABk fuel
def ABl:Rd (GA×(List Int)×Int×Bool×Int×Int) (Int×Bool):=λa (b,c,d,e,f,g)=>
 bif (decide (g<f))then
  (L3 (d,g)).bind λh=>
  bif (!h)then
   a (b,c,d,e,f,(i64.wrap (g+1)))
  else
   (b).bind λh=>
   (at? h.2.2.2.1 g).bind λh=>
   (A0k (b,c,d,e,g,(h.length:Int),0)).bind λh=>
   a (b,c,h.1,h.2,f,(i64.wrap (g+1)))
 else
  some (d,e)
def A0l:=EE ABl fuel
def ABm:Rd (GA×(List Int)×Int×Bool) (Int):=λa (b,c,d,e)=>
 bif e then
  (b).bind λe=>
  (A0l (b,c,d,false,(e.2.1.length:Int),0)).bind λe=>
  a (b,c,e.1,e.2)
 else
  some d
def A0m:=EE ABm fuel
def A0n:GA×(List Int)->Option (Int):=λ(a,b)=>
 (a).bind λc=>
 (A0m (a,b,c.2.2.2.2.2.2,true)).bind λa=>
 some a
def ABn:Rd (Int×(List Int)×Int×Int) M6:=λa (b,c,d,e)=>
 bif (decide (e<d))then
  (at? c e).bind λf=>
  (L3 (f,0)).bind λf=>
  (bif (!f)then L3 (b,e)else some false).bind λg=>
  bif ((!f)&&(!g))then
   some (.inr false)
  else
   a (b,c,d,(i64.wrap (e+1)))
 else
  some (.inl ())
def A0o:=EE ABn fuel
def oW:GA×(List Int)->Option (Bool):=λ(a,b)=>
 (A0n (a,b)).bind λa=>
 (A0o (a,b,(b.length:Int),0)).bind λa=>
 match a with
 | .inl _=>
  some true
 | .inr a=>
  some a
def ABo:Rd (GA×Int×Int×(List Int)×Int×Int) (Sum (List Int) ((List Int)×Bool)):=λa (b,c,d,e,f,g)=>
 bif (decide (g<f))then
  bif (E1 g c)then
   a (b,c,d,e,f,(i64.wrap (g+1)))
  else
   (in? e.length g).bind λ_=>
   (b).bind λh=>
   (at? h.2.2.2.2.1 c).bind λh=>
   (at? h d).bind λh=>
   (at? h g).bind λh=>
   (in? e.length g).bind λ_=>
   let i:=(e.set g.toNat (KP u16 (e.getD g.toNat 0) h))
   (in? i.length g).bind λ_=>
   bif (E1 (i.getD g.toNat 0) 0)then
    some (.inr ([],false))
   else
    a (b,c,d,i,f,(i64.wrap (g+1)))
 else
  some (.inl e)
def A0p:=EE ABo fuel
def A0q:GA×(List Int)×Int×Int->Option ((List Int)×Bool):=λ(a,b,c,d)=>
 (A0j b).bind λb=>
 (shl? u16 1 d).bind λe=>
 (in? b.length c).bind λ_=>
 (A0p (a,c,d,(b.set c.toNat e),((b.set c.toNat e).length:Int),0)).bind λb=>
 match b with
 | .inl b=>
  (oW (a,b)).bind λa=>
  some (b,a)
 | .inr a=>
  some (a.1,a.2)
def A0r:List Int->Option (Bool):=λ_=>
 some true
def ABp(slf:Int×(List Int)×Unit×GA×Unit×Unit×(List D_)×GA×Int->Option (Bool×(List D_)))(a:Int×(List Int)×GA×Int×Int×(List D_)×GA×Int->Option jS):Int×(List Int)×GA×Int×Int×(List D_)×GA×Int->Option jS:=λ(b,c,d,e,f,g,h,i)=>
 bif (decide (f<e))then
  (at? c b).bind λj=>
  (L3 (j,f)).bind λj=>
  bif (!j)then
   a (b,c,d,e,(i64.wrap (f+1)),g,h,i)
  else
   (A0q (d,c,b,f)).bind λj=>
   (bif j.2 then slf ((i64.wrap (b+1)),j.1,(),d,(),(),g,h,i)else some (false,[])).bind λk=>
   bif j.2 then
    bif (j.2&&(!k.1))then
     some (.inr (false,k.2,h,i))
    else
     a (b,c,d,e,(i64.wrap (f+1)),k.2,h,i)
   else
    bif (j.2&&(!k.1))then
     some (.inr (false,g,h,i))
    else
     a (b,c,d,e,(i64.wrap (f+1)),g,h,i)
 else
  some (.inl (g,h,i))
def A0s(slf:Int×(List Int)×Unit×GA×Unit×Unit×(List D_)×GA×Int->Option (Bool×(List D_))):Int×(List Int)×GA×Int×Int×(List D_)×GA×Int->Option jS:=EE (ABp slf) fuel
def ABq(slf:Int×(List Int)×Unit×GA×Unit×Unit×(List D_)×GA×Int->Option (Bool×(List D_))):Int×(List Int)×Unit×GA×Unit×Unit×(List D_)×GA×Int->Option (Bool×(List D_)):=λ(a,b,_,c,_,_,d,e,f)=>
 (A0r b).bind λg=>
 bif (!g)then
  some (true,d)
 else
  (c).bind λg=>
  bif (E1 a (g.2.1.length:Int))then
   (A0h (b,d,e,f)).bind λg=>
   some (g.1,g.2)
  else
   (c).bind λg=>
   (at? g.2.2.2.1 a).bind λg=>
   ((A0s slf) (a,b,c,(g.length:Int),0,d,e,f)).bind λa=>
   match a with
   | .inl a=>
    some (true,a.1)
   | .inr a=>
    some (a.1,a.2.1)
def dA:Nat->Int×(List Int)×Unit×GA×Unit×Unit×(List D_)×GA×Int->Option (Bool×(List D_))
 |0=>λ_=>none
 |n+1=>ABq (dA n)
def A0t:Int×(List Int)×Unit×GA×Unit×Unit×(List D_)×GA×Int->Option (Bool×(List D_)):=dA 100
def ABr:Rd ((List Int)×Int×Int×Int) HR:=λa (b,c,d,e)=>
 bif (decide (e<d))then
  (at? b e).bind λf=>
  bif (E1 c f)then
   some (.inr e)
  else
   a (b,c,d,(i64.wrap (e+1)))
 else
  some (.inl ())
def A0u:=EE ABr fuel
def A0v:(List Int)×Int->Option (Int):=λ(a,b)=>
 (A0u (a,b,(a.length:Int),0)).bind λa=>
 match a with
 | .inl _=>
  some (-1:Int)
 | .inr a=>
  some a
def A0w:(List Int)×Int->Option (Bool):=λ(a,b)=>
 (A0v (a,b)).bind λa=>
 some (decide (0<=a))
def A0x:GA×Unit×Unit×(List D_)×GA×Int->Option (List D_):=λ(a,_,_,b,c,d)=>
 (a).bind λe=>
 (A0w (e.2.2.2.2.2.1,0)).bind λe=>
 (bif (!e)then a else some (([],([],(0,([],([],(false,(0,([],[])))))))),([],([],([],([],([],0))))))).bind λf=>
 (bif (!e)then oW (a,f.2.2.2.2.2.1)else some false).bind λf=>
 bif ((!e)&&f)then
  (a).bind λe=>
  (A0t (0,e.2.2.2.2.2.1,(),a,(),(),b,c,d)).bind λa=>
  some a.2
 else
  some b
def A0y:F_×Int->Option (List D_):=λ(a,b)=>
 (A0c a).bind λa=>
 bif ((!a.2)||(E1 b 0))then
  some []
 else
  (A0x (a.1,(),(),[],a.1,b)).bind λa=>
  some a
def A0z:JD×H7×Int×D_×(List DW)×Bool×(Int×(List KB)×(List Int))->Option (D_×Bool×Int):=λa=>
 (NT a).bind λb=>
 bif (!(E1 b 0))then
  some ([],false,b)
 else
  (A0y (a,1)).bind λa=>
  bif (E1 (a.length:Int) 0)then
   some ([],false,0)
  else
   (at? a 0).bind λa=>
   some (a,true,0)
def V7:Unit->Option (Bool):=λ_=>
 (A0z ([([112,107,103,58,112,108,97,105,110,47,97],([49],([],false))),([112,107,103,58,112,108,97,105,110,47,97],([50],([],false)))],([([112,107,103,58,112,108,97,105,110,47,97],((5,[((true,(true,[48])),(false,(false,[])))]),1))],(1,([],([],(false,(0,([],[]))))))))).bind λa=>
 let b:=((a.2.1&&(E1 a.2.2 0))&&(E1 (a.1.length:Int) 1))
 (bif b then at? a.1 0 else some ([],[])).bind λa=>
 some (b&&(EG a.2 [50]))
def NU:F_×D_->Option ((List GQ)×Int):=λ(a,b)=>
 (L2 (a,b)).bind λc=>
 bif (!(E1 c 0))then
  some ([],c)
 else
  (OY (a,b)).bind λa=>
  some (a,0)
def oX:Rd (FN×JP×Int×Int) HR:=λa (b,c,d,e)=>
 bif (decide (e<d))then
  (at? b e).bind λf=>
  bif ((EG c.1 f.1)&&((EG c.2.1 f.2.1)&&(EG c.2.2 f.2.2)))then
   some (.inr e)
  else
   a (b,c,d,(i64.wrap (e+1)))
 else
  some (.inl ())
def oY:=EE oX fuel
def oZ:FN×JP->Option (Int):=λ(a,b)=>
 (oY (a,b,(a.length:Int),0)).bind λa=>
 match a with
 | .inl _=>
  some (-1:Int)
 | .inr a=>
  some a
def dB:FN×JP->Option (Bool):=λ(a,b)=>
 (oZ (a,b)).bind λa=>
 some (decide (0<=a))
def o_:(DW×DW)×(Option JP)->Option (Bool):=λ(a,b)=>
 (b).bind λb=>
 some (!(Op.bytesLess a.1 b.1||EG a.1 b.1))
def pA:Rd (JP×D_×D_×Int×Int) (JP×D_):=λa (b,c,d,e,f)=>
 bif (decide (f<e))then
  (at? d f).bind λg=>
  bif (!(EG g.1 b.1))then
   (app? 48 c [g]).bind λg=>
   a (b,g,d,e,(i64.wrap (f+1)))
  else
   a (b,c,d,e,(i64.wrap (f+1)))
 else
  some (b,c)
def dC:=EE pA fuel
def dD:D_×JP->Option D_:=λ(a,b)=>
 (dC (b,[],a,(a.length:Int),0)).bind λa=>
 bif (!(EG a.1.2.2 []))then
  (U_ (a.2,(λx=>(o_ (x,(some a.1))).bind λr=>some r))).bind λb=>
  bif (decide (b<0))then
   (R0 (a.2,(a.2.length:Int),[(a.1.1,a.1.2.2)])).bind λc=>
   some c
  else
   (R0 (a.2,b,[(a.1.1,a.1.2.2)])).bind λb=>
   some b
 else
  some a.2
def pB:Rd ((List GQ)×GQ×Int×Int) HR:=λa (b,c,d,e)=>
 bif (decide (e<d))then
  (at? b e).bind λf=>
  bif ((E1 c.1 f.1)&&((EG c.2.1 f.2.1)&&(EG c.2.2 f.2.2)))then
   some (.inr e)
  else
   a (b,c,d,(i64.wrap (e+1)))
 else
  some (.inl ())
def pC:=EE pB fuel
def pD:(List GQ)×GQ->Option (Int):=λ(a,b)=>
 (pC (a,b,(a.length:Int),0)).bind λa=>
 match a with
 | .inl _=>
  some (-1:Int)
 | .inr a=>
  some a
def V8:(List GQ)×GQ->Option (Bool):=λ(a,b)=>
 (pD (a,b)).bind λa=>
 some (decide (0<=a))
def pE:Rd (D_×D_×Int×Int) M6:=λa (s1_0,s2_1,b,c)=>
 bif (decide (c<b))then
  (at? s1_0 c).bind λd=>
  (at? s2_1 c).bind λe=>
  bif (!((EG d.1 e.1)&&(EG d.2 e.2)))then
   some (.inr false)
  else
   a (s1_0,s2_1,b,(i64.wrap (c+1)))
 else
  some (.inl ())
def pF:=EE pE fuel
def RU:D_×D_->Option (Bool):=λ(s1_0,s2_1)=>
 bif (!(E1 (s1_0.length:Int) (s2_1.length:Int)))then
  some false
 else
  (pF (s1_0,s2_1,(s1_0.length:Int),0)).bind λa=>
  match a with
  | .inl _=>
   some true
  | .inr a=>
   some a
def pG:Rd ((List GQ)×(List GQ)×(List GQ)×Int×Int) M6:=λa (b,c,d,e,f)=>
 bif (decide (f<e))then
  (at? d f).bind λg=>
  (bif ((E1 g.1 1)||(E1 g.1 2))then V8 (b,g)else some false).bind λh=>
  (bif (((E1 g.1 1)||(E1 g.1 2))&&(!h))then V8 (c,g)else some false).bind λi=>
  bif ((((E1 g.1 1)||(E1 g.1 2))&&(!h))&&(!i))then
   some (.inr false)
  else
   a (b,c,d,e,(i64.wrap (f+1)))
 else
  some (.inl ())
def pH:=EE pG fuel
def pI:Rd (F_×FN×(List GQ)×(List GQ)×D_×FN×Int×Int) (Sum D_ (Bool)):=λa (b,c,d,e,f,g,h,i)=>
 bif (decide (i<h))then
  (at? g i).bind λj=>
  (dB (c,j)).bind λk=>
  bif (!k)then
   some (.inr false)
  else
   (dD (f,j)).bind λj=>
   bif (decide (12<(j.length:Int)))then
    a (b,c,d,e,j,g,h,(i64.wrap (i+1)))
   else
    (NU (b,j)).bind λk=>
    bif (!(E1 k.2 0))then
     some (.inr false)
    else
     (pH (d,e,k.1,(k.1.length:Int),0)).bind λk=>
     match k with
     | .inl _=>
      a (b,c,d,e,j,g,h,(i64.wrap (i+1)))
     | .inr a=>
      some (.inr a)
 else
  some (.inl f)
def pJ:=EE pI fuel
def dE:F_×D_->Option (Bool):=λ(a,b)=>
 (P0 (a,b)).bind λc=>
 (V5 (a.2.2.2.1,b)).bind λd=>
 bif ((!(E1 c.2.2 0))||(!(E1 d.2 0)))then
  (V7 ()).bind λe=>
  some e
 else
  bif (!c.2.1)then
   let e:=((E1 (c.1.length:Int) 0)&&(decide (1<(d.1.length:Int))))
   (bif e then V7 ()else some false).bind λf=>
   some (e&&f)
  else
   (NU (a,a.2.2.2.1)).bind λe=>
   (NU (a,b)).bind λf=>
   (pJ (a,d.1,e.1,f.1,a.2.2.2.1,c.1,(c.1.length:Int),0)).bind λa=>
   match a with
   | .inl a=>
    let g:=(((E1 e.2 0)&&(E1 f.2 0))&&(E1 (c.1.length:Int) (d.1.length:Int)))
    (bif g then RU (a,b)else some false).bind λa=>
    (bif (g&&a)then V7 ()else some false).bind λb=>
    some ((g&&a)&&b)
   | .inr a=>
    some a
end
end Go.Ev.Pv
