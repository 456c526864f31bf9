/-
  The program's functions as plain Lean functions (printed by a program of the author's from the translation).
-/
import Derived.Test.YtloinlpkjpmnbaaGreatDoorE4
import Derived.Lib.AtoiAll
import Derived.Lib.ItoaNum
import Derived.Lib.Strings
import Derived.Lib.Join
import Derived.Lib.Split
import Derived.Lib.Repeat
import Derived.Lib.FieldsP
import Derived.Lib.MapU
import Derived.Lib.LastIndexByte
import Derived.Lib.Bytealg
import Derived.Lib.IndexMore
import Derived.Lib.CountLaws
import Derived.Lib.BitFns
import Derived.Sort.Defs
import Derived.Lib.SlicesCompact
set_option linter.unusedVariables false
set_option linter.unusedSimpArgs false
set_option linter.unusedSectionVars false
set_option maxRecDepth 100000
open Go.IntKind hiding min max bits signed
namespace Go.Ev.Pv
def fuel:Nat:=18446744073709551616
def str? (s:DX):Option DX:=bif decide (s.length<=281474976710656)then some s else none
theorem str?_some{s r:DX}(h:str? s=some r):r=s/\s.length<=281474976710656:=by
 unfold str? at h;cases hd:decide (s.length<=281474976710656)with
 |false=>rw[hd]at h;cases h
 |true=>rw[hd]at h;cases h;exact⟨rfl,A5 hd⟩
def HI{α:Type}(c:Prop) [Decidable c](x:Option α):Option α:=bif decide c then x else none
theorem O7{α:Type}{c:Prop}{_:Decidable c}{x:Option α}{r:α}(h:HI c x=some r):c/\x=some r:=by
 unfold HI at h;cases hd:decide c with
 |false=>rw[hd]at h;cases h
 |true=>rw[hd]at h;exact⟨A5 hd,h⟩
def M8:Nat->Nat->DX
 |0,_=>[]
 |k+1,u=>if u<10 then [UInt8.ofNat (48+u)]else M8 k (u / 10)++[UInt8.ofNat (48+u % 10)]
theorem A3E:∀(k u:Nat),u<10 ^ k->1<=k->M8 k u=Lib.decDigits u:=by
 intro k;induction k with
 |zero=>intro u _ h;omega
 |succ k ih=>
  intro u hu _;rw[Lib.decDigits];simp only[M8];by_cases h:u<10
  .rw[if_pos h,dif_pos h]
  .rw[if_neg h,dif_neg h]
   have hk:1<=k:=by
    rcases k with _|k
    .simp at hu;omega
    .omega
   rw[ih (u / 10) (by rw[Nat.pow_succ]at hu;omega) hk]
def QA(n:Int):DX:=if n<0 then 45::M8 20 n.natAbs else M8 20 n.toNat
theorem AGh{n:Int}(h0:-9223372036854775808<=n)(h1:n<=9223372036854775807):QA n=Lib.itoa n:=by
 unfold QA Lib.itoa;rw[A3E 20 n.natAbs oa oi,A3E 20 n.toNat oa oi]
theorem A3F:∀(k u:Nat),(M8 k u).length<=k:=by
 intro k;induction k with
 |zero=>intro u;exact AH _
 |succ k ih=>
  intro u;simp only[M8];split
  .simp
  .have:=ih (u / 10);simp only[AE,AX,BR];omega
theorem A3G(n:Int):(QA n).length<=21:=by
 unfold QA;split
 .have:=A3F 20 n.natAbs;simp only[AX];omega
 .have:=A3F 20 n.toNat;omega
def strings_Join:(List (List UInt8))×(List UInt8)->Option (List UInt8):=λx=>HI (x.1.length<=140737488355328/\(Lib.join x.1 x.2).length<=140737488355328) (some (Lib.join x.1 x.2))
def R_:List UInt8->Option (List UInt8):=λs=>HI (s.length<35184372088832) (str? (Lib.toLowerD s))
def strconv_Itoa:Int->Option (List UInt8):=λn=>some (QA n)
def strings_IndexByte:(List UInt8)×Int->Option (Int):=λx=>HI (x.1.length<4611686018427387904) (some (Lib.indexByte x.1 x.2.toNat.toUInt8))
def strings_LastIndexByte:(List UInt8)×Int->Option (Int):=λx=>HI (x.1.length<4611686018427387904) (some (Lib.lastIndexByte ⟨x.1.toArray⟩ x.2))
def strings_Cut:(List UInt8)×(List UInt8)->Option ((List UInt8)×(List UInt8)×Bool):=λx=>HI (x.1.length<4294967281) (some (Lib.cut x.1 x.2))
def strings_Repeat:(List UInt8)×Int->Option (List UInt8):=λx=>HI (0<=x.2/\x.1.length*x.2.toNat<=140737488355328) (some (Lib.repeatL x.1 x.2.toNat))
def strings_Split:(List UInt8)×(List UInt8)->Option (List (List UInt8)):=λx=>
 HI (x.1.length<4294967281/\1<=x.2.length) (some ((Lib.splitB ⟨x.2.toArray⟩ 0 (Lib.countB ⟨x.1.toArray⟩ ⟨x.2.toArray⟩) ⟨x.1.toArray⟩).map λb=>b.data.toList))
def eX:List UInt8->Option (Int×Unit):=λs=>HI (s.length<=281474976710656) (match Lib.atoiAll s with
 | .ok v=>some (v,())
 | .range=>some (Lib.atoiSat s,())
 |_=>some (0,()))
noncomputable def S0:(List UInt8)×(Int->Option Bool)->Option (List (List UInt8)):=λx=>
 @HI _ (x.1.length<=4294967296/\(∀r:Nat,r<=1114111->∃b,x.2 (r:Int)=some b)/\(Lib.goFieldsP (λr=>(x.2 (r:Int)).getD false) ⟨x.1.toArray⟩).length<=281474976710656) (Classical.propDecidable _) (some ((Lib.goFieldsP (λr=>(x.2 (r:Int)).getD false) ⟨x.1.toArray⟩).map λb=>b.data.toList))
def strings_HasPrefix:(List UInt8)×(List UInt8)->Option (Bool):=λx=>some (Lib.hasPrefix x.1 x.2)
def strings_TrimPrefix:(List UInt8)×(List UInt8)->Option (List UInt8):=λx=>some (Lib.trimPrefix x.1 x.2)
def strings_CutPrefix:(List UInt8)×(List UInt8)->Option ((List UInt8)×Bool):=λx=>some (Lib.trimPrefix x.1 x.2,Lib.hasPrefix x.1 x.2)
def YF:List Int->Option (List Int):=λxs=>some xs
def O8:List Int->Option (List UInt8):=λxs=>some (HA xs)
section
variable{T:Type}
def O9(xs:List T)(F:T×T->Option Int)(i j:Fin xs.length):Int:=(F (xs.get i,xs.get j)).getD 0
def IP(xs:List T)(F:T×T->Option Int)(i j:Fin xs.length):Bool:=decide (O9 xs F i j<0)
def UK(xs:List T)(F:T×T->Option Int):Prop:=
 (∀i j:Fin xs.length,(F (xs.get i,xs.get j)).isSome=true)/\(∀i:Fin xs.length,IP xs F i i=false)/\
 (∀i j k:Fin xs.length,IP xs F i j=true->IP xs F j k=true->IP xs F i k=true)/\(∀i j k:Fin xs.length,IP xs F i j=false->IP xs F j k=false->IP xs F i k=false)
instance{xs:List T}{F:T×T->Option Int}:Decidable (UK xs F):=by unfold UK;infer_instance
def eY{α:Type} [Inhabited α](lt:α->α->Bool):Nat->Nat->Array α->Array α
 |0,_,d=>d
 |n+1,i,d=>eY lt n (i+1) (Sort.insInner lt 0 i d)
theorem AGi{α:Type} [Inhabited α](lt:α->α->Bool):∀(n i:Nat) (d:Array α),Sort.insOuter lt 0 (i+n) i d=eY lt n i d:=by
 intro n;induction n with
 |zero=>intro i d;rw[Sort.insOuter,if_neg oa];rfl
 |succ n ih=>intro i d;rw[Sort.insOuter,if_pos oa,show i+(n+1)=(i+1)+n by omega,ih];rfl
def KQ(xs:List T)(F:T×T->Option Int)(h:0<xs.length):Array (Fin xs.length):=
 haveI:Inhabited (Fin xs.length):=⟨⟨0,h⟩⟩
 if xs.length<=12 then eY (IP xs F) (xs.length-1) 1 (Array.ofFn id)else Sort.pdq (IP xs F) (Array.ofFn id) 0 xs.length (Lib.bitLen xs.length) true true
theorem AGj{α:Type} [Inhabited α](lt:α->α->Bool)(d:Array α)(n lim:Nat)(h:0<n)(h12:n<=12):Sort.pdq lt d 0 n lim true true=eY lt (n-1) 1 d:=by
 rw[Sort.pdq,if_pos oa,Sort.insertionSort];have:=AGi lt (n-1) 1 d;rw[show 1+(n-1)=n by omega]at this;exact this
theorem A3H(xs:List T)(F:T×T->Option Int)(h:0<xs.length):
 KQ xs F h= @Sort.pdq _ ⟨⟨0,h⟩⟩ (IP xs F) (Array.ofFn id) 0 xs.length (Lib.bitLen xs.length) true true:=by
 unfold KQ;split
 .rename_i h12;exact(@AGj _ ⟨⟨0,h⟩⟩ (IP xs F) (Array.ofFn id) xs.length _ h h12).symm
 .rfl
def OA(xs:List T)(F:T×T->Option Int):Option (List T):=
 if h:0<xs.length then HI (UK xs F) (some ((KQ xs F h).toList.map xs.get))else some []
end
def rD:(List ((Int×(List UInt8)×Bool×(List UInt8))×(Int×(List UInt8)×Bool×(List UInt8))))×((((Int×(List UInt8)×Bool×(List UInt8))×(Int×(List UInt8)×Bool×(List UInt8)))×((Int×(List UInt8)×Bool×(List UInt8))×(Int×(List UInt8)×Bool×(List UInt8))))->Option Int)->Option (List ((Int×(List UInt8)×Bool×(List UInt8))×(Int×(List UInt8)×Bool×(List UInt8)))):=λv=>OA v.1 v.2
end Go.Ev.Pv
namespace Go.Ev.Pv
def rE:(List (Int×Int))×(((Int×Int)×(Int×Int))->Option Int)->Option (List (Int×Int)):=λx=>OA x.1 x.2
def slices_Sort_string(xs:List (List UInt8)):Option (List (List UInt8)):=some (xs.mergeSort λx y=>decide (x<=y))
def slices_Compact_string(xs:List (List UInt8)):Option (List (List UInt8)):=some (Lib.compact xs)
def HP(i:Nat):List UInt8:=[112,UInt8.ofNat (48+i / 10),UInt8.ofNat (48+i % 10)]
def rF:(List ((List UInt8)×(List UInt8)×Int))×(((List UInt8)×(List UInt8)×Int)×((List UInt8)×(List UInt8)×Int)->Option Int)->Option (List ((List UInt8)×(List UInt8)×Int)):=λx=>OA x.1 x.2
noncomputable section
abbrev GM:=(Bool×Bool×DX)
abbrev FQ:=(List (GM×GM))
abbrev QB:=(DX×(Int×FQ)×Int)
abbrev H8:=(List QB)
abbrev KB:=(List (DX×DX×H8×Bool))
abbrev E3:=(List (DX×DX))
abbrev J4:=(List (Int×DX))
abbrev GW:=(DX×Int×J4×(List DX)×(List DX))
abbrev IW:=(DX×(List DX)×DX×Int×Bool×DX×(List GW))
abbrev S1:=(Int×(List IW)×(List Int))
abbrev H0:=(KB×H8×Int×E3×(List DX)×Bool×S1)
abbrev E6:=(Int×DX×DX×Int)
abbrev HT:=(DX×DX×DX×DX×E3×DX)
abbrev H3:=(DX×HT×E3×DX×(List DX))
abbrev KC:=((List Int)×(List DX))
abbrev JQ:=(Int×DX×DX×Bool)
abbrev G7:=(Int×(List Int)×Int×Int×Int×Int×(List DX))
abbrev L1:=(Bool×DX×Int)
abbrev H4:=(List L1)
abbrev HC:=(Sum KC (Sum JQ (Sum G7 (Sum H4 (Sum Int Unit)))))
abbrev HD:=(H0×((List DX)×((List (List DX))×((List (List Int))×((List (List (List Int)))×((List Int)×Int))))))
abbrev L2:=(Int×DX×Bool×DX)
abbrev FS:=(L2×L2)
abbrev HZ:=(Option (H0×(List DX)×(List (List DX))×(List (List Int))×(List (List (List Int)))×(List Int)×Int))
abbrev FW:=(((DX×DX)×(DX×DX))->Option Int)
abbrev F9:=(DX×Int×Int)
abbrev FX:=((E6×E6)->Option Int)
abbrev M9:=(DX×DX×Int)
abbrev HU:=(List M9)
abbrev HJ:=((DX×DX)×(DX×DX)->Option Int)
abbrev FV:=(Int×Int×Int)
abbrev H_:=(DX×(DX×(DX×(DX×(E3×DX)))))
abbrev J5:=(DX×DX×DX×(List H3)×HU)
abbrev HK:=(E6×E6->Option Int)
abbrev JF:=(Option ((List Int)->Option FV))
abbrev OB:=(DX×(DX×(DX×((List H3)×HU))))
abbrev IX:=(Option (List Int))
abbrev I0:=(Sum (Unit) (Int))
abbrev JR:=(List (Int×FQ))
abbrev NA:=(List (Int×DX×DX))
abbrev S2:=(DX×Int×Bool×Bool×Int)
abbrev LK:=((List DX)×Bool)
abbrev QC:=(Bool×(List (DX×Bool)))
abbrev LL:=(Sum (Unit) (Bool))
abbrev QD:=((H3×H3)->Option Int)
abbrev MA:=(List (Int×Int))
abbrev MB:=((List E6)×Int)
abbrev OC:=(Int->Option Bool)
abbrev QE:=(Bool×IX×FV)
abbrev Rd(A B:Type):=(A->Option B)->A->Option B
def UL:Int->Option DX:=λa=>
 (div? i64 a 10).bind λb=>
 (cat? [112] (PU (i32.wrap (i64.wrap (48+b))))).bind λb=>
 (mod? a 10).bind λa=>
 (cat? b (PU (i32.wrap (i64.wrap (48+a))))).bind λa=>
 some a
def eZ:Rd ((List Int)×Int×Int) (List Int):=λa (b,c,d)=>
 bif (decide (d<c))then
  (in? b.length d).bind λ_=>
  bif ((decide (65<=(b.getD d.toNat 0)))&&(decide ((b.getD d.toNat 0)<=90)))then
   (in? b.length d).bind λ_=>
   a ((b.set d.toNat (u8.wrap ((u8.wrap ((b.getD d.toNat 0)+97))-65))),c,(i64.wrap (d+1)))
  else
   a (b,c,(i64.wrap (d+1)))
 else
  some b
def e_:=E8 eZ fuel
def P1:DX->Option DX:=λa=>
 (e_ ((FL a),((FL a).length:Int),0)).bind λa=>
 (cat? [] (HA a)).bind λa=>
 some a
def P2:F9×Int->Option F9:=λ(a,b)=>
 bif (decide (a.2.2<0))then
  some (a.1,(a.2.1,b))
 else
  some a
def OD:Option F9->Option (Int):=λa=>
 (a).bind λb=>
 (a).bind λc=>
 bif (decide (b.2.1<(c.1.length:Int)))then
  (a).bind λb=>
  (a).bind λa=>
  (at? b.1 a.2.1).bind λa=>
  some (a.toNat:Int)
 else
  some 0
def YG:Int->Option (Bool):=λa=>
 some (((decide (97<=a))&&(decide (a<=122)))||((decide (65<=a))&&(decide (a<=90))))
def A3I:Rd (F9×Int) (Sum F9 (F9×DX)):=λa (b,c)=>
 bif (decide (c<4))then
  (bif (!(decide ((b.1.length:Int)<=c)))then cut? b.1 c (i64.wrap (c+1))else some []).bind λd=>
  (bif (!(decide ((b.1.length:Int)<=c)))then P1 d else some []).bind λd=>
  (bif (!(decide ((b.1.length:Int)<=c)))then cut? [112,107,103,58] c (i64.wrap (c+1))else some []).bind λe=>
  bif ((decide ((b.1.length:Int)<=c))||(!(E5 d e)))then
   (P2 (b,c)).bind λd=>
   some (.inr (d,[]))
  else
   a (b,(i64.wrap (c+1)))
 else
  some (.inl b)
def rG:=E8 A3I fuel
def A3J:Rd F9 F9:=λa b=>
 (bif (decide (b.2.1<(b.1.length:Int)))then at? b.1 b.2.1 else some 0).bind λc=>
 (bif (decide (b.2.1<(b.1.length:Int)))then YG (c.toNat:Int)else some false).bind λc=>
 bif ((decide (b.2.1<(b.1.length:Int)))&&c)then
  a (b.1,((i64.wrap (b.2.1+1)),b.2.2))
 else
  some b
def rH:=E8 A3J fuel
def f0:F9×Bool->Option F9:=λ(a,b)=>
 bif b then
  some (a.1,((i64.wrap (a.2.1+1)),a.2.2))
 else
  (rH a).bind λa=>
  some a
def f9:F9×Bool->Option (DX×F9):=λ(a,b)=>
 (rG (a,0)).bind λa=>
 match a with
 | .inl a=>
  (bif b then OD (some (a.1,(4,a.2.2)))else some 0).bind λc=>
  (f0 ((a.1,(4,a.2.2)),(b&&(E1 c 42)))).bind λa=>
  (cut? a.1 4 a.2.1).bind λb=>
  (bif (!(E5 b []))then OD (some a)else some 0).bind λc=>
  bif ((E5 b [])||(!(E1 c 47)))then
   (P2 (a,a.2.1)).bind λc=>
   some ([],c)
  else
   (P1 b).bind λb=>
   some (b,(a.1,((i64.wrap (a.2.1+1)),a.2.2)))
 | .inr a=>
  some (a.2,a.1)
def YH:Int->Option (Int):=λa=>
 bif ((decide (48<=a))&&(decide (a<=57)))then
  some (i64.wrap (u8.wrap (a-48)))
 else
  bif ((decide (97<=a))&&(decide (a<=102)))then
   some (i64.wrap ((i64.wrap (u8.wrap (a-97)))+10))
  else
   bif ((decide (65<=a))&&(decide (a<=70)))then
    some (i64.wrap ((i64.wrap (u8.wrap (a-65)))+10))
   else
    some (-1:Int)
def fA:F9×Int×Int×Bool->Option (F9×Int):=λ(a,b,c,d)=>
 bif d then
  (at? a.1 (i64.wrap (a.2.1+b))).bind λb=>
  (YH (b.toNat:Int)).bind λb=>
  some (a,b)
 else
  some (a,c)
def A3K:Rd (F9×Int×Int) (Sum (F9×Int) (F9×Int×Bool)):=λa (b,c,d)=>
 bif (decide (d<=2))then
  (fA (b,d,(-1:Int),(decide ((i64.wrap (b.2.1+d))<(b.1.length:Int))))).bind λe=>
  bif (decide (e.2<0))then
   (P2 (e.1,(i64.wrap (e.1.2.1+d)))).bind λf=>
   some (.inr (f,0,false))
  else
   a (e.1,(i64.wrap ((i64.wrap (16*c))+e.2)),(i64.wrap (d+1)))
 else
  some (.inl (b,c))
def rI:=E8 A3K fuel
def fB:DX×Int×Int->Option (Int×Bool×F9):=λa=>
 bif (decide ((a.1.length:Int)<=a.2.1))then
  some (0,false,a)
 else
  (at? a.1 a.2.1).bind λb=>
  bif (!(E1 (b.toNat:Int) 37))then
   let c:=((decide ((b.toNat:Int)<33))||(decide (126<(b.toNat:Int))))
   (bif (!c)then strings_IndexByte ([47,64,63,35,38,61],(b.toNat:Int))else some 0).bind λd=>
   bif (c||(decide (0<=d)))then
    some (0,false,a)
   else
    some ((b.toNat:Int),true,(a.1,((i64.wrap (a.2.1+1)),a.2.2)))
  else
   (rI (a,0,1)).bind λa=>
   match a with
   | .inl a=>
    some ((u8.wrap a.2),true,(a.1.1,((i64.wrap (a.1.2.1+3)),a.1.2.2)))
   | .inr a=>
    some (a.2.1,a.2.2,a.1)
def A3L:Rd (F9×(List Int)) (F9×(List Int)):=λa (b,c)=>
 bif (decide (b.2.2<0))then
  (fB b).bind λd=>
  bif (!d.2.1)then
   some (d.2.2,c)
  else
   (app? 24 c [d.1]).bind λe=>
   a (d.2.2,e)
 else
  some (b,c)
def rJ:=E8 A3L fuel
def S3:DX×Int×Int->Option (DX×F9):=λa=>
 (rJ (a,[])).bind λa=>
 bif (E1 (a.2.length:Int) 0)then
  (P2 (a.1,a.1.2.1)).bind λb=>
  (cat? [] (HA a.2)).bind λc=>
  some (c,b)
 else
  (cat? [] (HA a.2)).bind λb=>
  some (b,a.1)
def A3M:Rd (F9×(List DX)) (F9×(List DX)):=λa (b,c)=>
 (bif (decide (b.2.2<0))then OD (some b)else some 0).bind λd=>
 bif ((decide (b.2.2<0))&&(E1 d 47))then
  (S3 (b.1,((i64.wrap (b.2.1+1)),b.2.2))).bind λd=>
  (app? 24 c [d.1]).bind λe=>
  a (d.2,e)
 else
  some (b,c)
def rK:=E8 A3M fuel
def YI:DX×Int×Int->Option ((List DX)×F9):=λa=>
 (S3 a).bind λa=>
 (rK (a.2,[a.1])).bind λa=>
 some (a.2,a.1)
def YJ:Int×Bool->Option (Bool):=λ(a,b)=>
 bif ((decide (97<=a))&&(decide (a<=122)))then
  some true
 else
  some ((!b)&&(((((decide (48<=a))&&(decide (a<=57)))||(E1 a 46))||(E1 a 45))||(E1 a 95)))
def A3N:Rd (F9×Int) F9:=λa (b,c)=>
 (bif (decide (b.2.1<(b.1.length:Int)))then at? b.1 b.2.1 else some 0).bind λd=>
 (bif (decide (b.2.1<(b.1.length:Int)))then YJ ((d.toNat:Int),(E1 b.2.1 c))else some false).bind λd=>
 bif ((decide (b.2.1<(b.1.length:Int)))&&d)then
  a ((b.1,((i64.wrap (b.2.1+1)),b.2.2)),c)
 else
  some b
def rL:=E8 A3N fuel
def fC:DX×Int×Int->Option ((DX×DX)×F9):=λa=>
 (rL (a,a.2.1)).bind λb=>
 (cut? b.1 a.2.1 b.2.1).bind λa=>
 (bif (!(E5 a []))then OD (some b)else some 0).bind λc=>
 bif ((E5 a [])||(!(E1 c 61)))then
  (P2 (b,b.2.1)).bind λc=>
  some (([],[]),c)
 else
  (S3 (b.1,((i64.wrap (b.2.1+1)),b.2.2))).bind λb=>
  some ((a,b.1),b.2)
def fD:F9×H_×Bool->Option (F9×H_):=λ(a,b,c)=>
 bif c then
  (S3 (a.1,((i64.wrap (a.2.1+1)),a.2.2))).bind λc=>
  some (c.2,(b.1,(b.2.1,(b.2.2.1,(c.1,(b.2.2.2.2.1,b.2.2.2.2.2))))))
 else
  some (a,(b.1,(b.2.1,(b.2.2.1,(b.2.2.2.1,(b.2.2.2.2.1,b.2.2.2.2.2))))))
def A3O:Rd (F9×H_×Int) (F9×H_):=λa (b,c,d)=>
 let e:=((decide (b.2.2<0))&&(decide (b.2.1<(b.1.length:Int))))
 (bif e then OD (some b)else some 0).bind λf=>
 bif (e&&(E1 f d))then
  (fC (b.1,((i64.wrap (b.2.1+1)),b.2.2))).bind λd=>
  (app? 48 c.2.2.2.2.1 [d.1]).bind λe=>
  a (d.2,(c.1,(c.2.1,(c.2.2.1,(c.2.2.2.1,(e,c.2.2.2.2.2))))),38)
 else
  some (b,(c.1,(c.2.1,(c.2.2.1,(c.2.2.2.1,(c.2.2.2.2.1,c.2.2.2.2.2))))))
def rM:=E8 A3O fuel
def fE:F9×H_×Bool->Option (F9×H_):=λ(a,b,c)=>
 bif c then
  (YI (a.1,((i64.wrap (a.2.1+1)),a.2.2))).bind λc=>
  (strings_Join (c.1,[47])).bind λd=>
  some (c.2,(b.1,(b.2.1,(b.2.2.1,(b.2.2.2.1,(b.2.2.2.2.1,d))))))
 else
  some (a,(b.1,(b.2.1,(b.2.2.1,(b.2.2.2.1,(b.2.2.2.2.1,b.2.2.2.2.2))))))
def fF:DX×Int×Int->Option (H_×F9):=λa=>
 (f9 (a,false)).bind λa=>
 bif (decide (0<=a.2.2.2))then
  some ((a.1,([],([],([],([],[]))))),a.2)
 else
  (YI a.2).bind λb=>
  (cut? b.1 0 (i64.wrap ((b.1.length:Int)-1))).bind λc=>
  (strings_Join (c,[47])).bind λc=>
  (at? b.1 (i64.wrap ((b.1.length:Int)-1))).bind λd=>
  (bif (decide (b.2.2.2<0))then OD (some b.2)else some 0).bind λe=>
  (fD (b.2,(a.1,(c,(d,([],([],[]))))),((decide (b.2.2.2<0))&&(E1 e 64)))).bind λa=>
  (rM (a.1,(a.2.1,(a.2.2.1,(a.2.2.2.1,(a.2.2.2.2.1,(a.2.2.2.2.2.1,a.2.2.2.2.2.2))))),63)).bind λa=>
  (bif (decide (a.1.2.2<0))then OD (some a.1)else some 0).bind λb=>
  (fE (a.1,(a.2.1,(a.2.2.1,(a.2.2.2.1,(a.2.2.2.2.1,(a.2.2.2.2.2.1,a.2.2.2.2.2.2))))),((decide (a.1.2.2<0))&&(E1 b 35)))).bind λa=>
  bif ((decide (a.1.2.2<0))&&(decide (a.1.2.1<(a.1.1.length:Int))))then
   (P2 (a.1,a.1.2.1)).bind λb=>
   some ((a.2.1,(a.2.2.1,(a.2.2.2.1,(a.2.2.2.2.1,(a.2.2.2.2.2.1,a.2.2.2.2.2.2))))),b)
  else
   some ((a.2.1,(a.2.2.1,(a.2.2.2.1,(a.2.2.2.2.1,(a.2.2.2.2.2.1,a.2.2.2.2.2.2))))),a.1)
def A3P:Rd (E3×Int×FW×Int) E3:=λa (b,c,d,e)=>
 (bif (decide (c<e))then in? b.length e else some ()).bind λ_=>
 (bif (decide (c<e))then in? b.length (i64.wrap (e-1))else some ()).bind λ_=>
 (bif (decide (c<e))then d ((b.getD e.toNat ([],[])),(b.getD ((i64.wrap (e-1)).toNat) ([],[])))else some 0).bind λf=>
 bif ((decide (c<e))&&(decide (f<0)))then
  (in? b.length (i64.wrap (e-1))).bind λ_=>
  let f:=(b.getD ((i64.wrap (e-1)).toNat) ([],[]))
  (in? b.length e).bind λ_=>
  (in? b.length e).bind λ_=>
  (in? (b.set e.toNat f).length (i64.wrap (e-1))).bind λ_=>
  a (((b.set e.toNat f).set ((i64.wrap (e-1)).toNat) (b.getD e.toNat ([],[]))),c,d,(i64.wrap (e-1)))
 else
  some b
def rN:=E8 A3P fuel
def A3Q:Rd (E3×Int×Int×FW×Int) E3:=λa (b,c,d,e,f)=>
 bif (decide (f<d))then
  (rN (b,c,e,f)).bind λg=>
  a (g,c,d,e,(i64.wrap (f+1)))
 else
  some b
def rO:=E8 A3Q fuel
def YK:E3×Int×Int×FW->Option E3:=λ(a,b,c,d)=>
 (rO (a,b,c,d,(i64.wrap (b+1)))).bind λa=>
 some a
def A3R:Rd (E3×Int×Int×Int×Int) E3:=λa (b,c,d,e,f)=>
 bif (decide (f<e))then
  (in? b.length (i64.wrap (d+f))).bind λ_=>
  let g:=(b.getD ((i64.wrap (d+f)).toNat) ([],[]))
  (in? b.length (i64.wrap (c+f))).bind λ_=>
  (in? b.length (i64.wrap (c+f))).bind λ_=>
  (in? (b.set ((i64.wrap (c+f)).toNat) g).length (i64.wrap (d+f))).bind λ_=>
  a (((b.set ((i64.wrap (c+f)).toNat) g).set ((i64.wrap (d+f)).toNat) (b.getD ((i64.wrap (c+f)).toNat) ([],[]))),c,d,e,(i64.wrap (f+1)))
 else
  some b
def rP:=E8 A3R fuel
def UM:E3×Int×Int×Int×FW->Option E3:=λ(a,b,c,d,_)=>
 (rP (a,b,c,d,0)).bind λa=>
 some a
def A3S:Rd (E3×Int×FW×Int×Int) (E3×Int):=λa (b,c,d,e,f)=>
 bif (!(E1 e f))then
  bif (decide (f<e))then
   (UM (b,(i64.wrap (c-e)),c,f,d)).bind λg=>
   a (g,c,d,(i64.wrap (e-f)),f)
  else
   (UM (b,(i64.wrap (c-e)),(i64.wrap ((i64.wrap (c+f))-e)),e,d)).bind λg=>
   a (g,c,d,e,(i64.wrap (f-e)))
 else
  some (b,e)
def rQ:=E8 A3S fuel
def fG:E3×Int×Int×Int×FW->Option E3:=λ(a,b,c,d,e)=>
 (rQ (a,c,e,(i64.wrap (c-b)),(i64.wrap (d-c)))).bind λa=>
 (UM (a.1,(i64.wrap (c-a.2)),c,a.2,e)).bind λa=>
 some a
def A3T(slf:E3×Int×Int×Int×FW->Option E3)(a:E3×Int×FW×Int×Int->Option (E3×Int)):E3×Int×FW×Int×Int->Option (E3×Int):=λ(b,c,d,e,f)=>
 bif (decide (e<f))then
  (shr? u64 (u64.wrap (i64.wrap (e+f))) 1).bind λg=>
  (in? b.length (i64.wrap g)).bind λ_=>
  (in? b.length c).bind λ_=>
  (d ((b.getD ((i64.wrap g).toNat) ([],[])),(b.getD c.toNat ([],[])))).bind λh=>
  bif (decide (h<0))then
   a (b,c,d,(i64.wrap ((i64.wrap g)+1)),f)
  else
   a (b,c,d,e,(i64.wrap g))
 else
  some (b,e)
def rR(slf:E3×Int×Int×Int×FW->Option E3):E3×Int×FW×Int×Int->Option (E3×Int):=E8 (A3T slf) fuel
def A3U(slf:E3×Int×Int×Int×FW->Option E3)(a:E3×Int×Int->Option E3):E3×Int×Int->Option E3:=λ(b,c,d)=>
 bif (decide (d<(i64.wrap (c-1))))then
  (in? b.length (i64.wrap (d+1))).bind λ_=>
  let e:=(b.getD ((i64.wrap (d+1)).toNat) ([],[]))
  (in? b.length d).bind λ_=>
  (in? b.length d).bind λ_=>
  (in? (b.set d.toNat e).length (i64.wrap (d+1))).bind λ_=>
  a (((b.set d.toNat e).set ((i64.wrap (d+1)).toNat) (b.getD d.toNat ([],[]))),c,(i64.wrap (d+1)))
 else
  some b
def rS(slf:E3×Int×Int×Int×FW->Option E3):E3×Int×Int->Option E3:=E8 (A3U slf) fuel
def A3V(slf:E3×Int×Int×Int×FW->Option E3)(a:E3×Int×FW×Int×Int->Option (E3×Int)):E3×Int×FW×Int×Int->Option (E3×Int):=λ(b,c,d,e,f)=>
 bif (decide (e<f))then
  (shr? u64 (u64.wrap (i64.wrap (e+f))) 1).bind λg=>
  (in? b.length c).bind λ_=>
  (in? b.length (i64.wrap g)).bind λ_=>
  (d ((b.getD c.toNat ([],[])),(b.getD ((i64.wrap g).toNat) ([],[])))).bind λh=>
  bif (!(decide (h<0)))then
   a (b,c,d,(i64.wrap ((i64.wrap g)+1)),f)
  else
   a (b,c,d,e,(i64.wrap g))
 else
  some (b,e)
def rT(slf:E3×Int×Int×Int×FW->Option E3):E3×Int×FW×Int×Int->Option (E3×Int):=E8 (A3V slf) fuel
def A3W(slf:E3×Int×Int×Int×FW->Option E3)(a:E3×Int×Int->Option E3):E3×Int×Int->Option E3:=λ(b,c,d)=>
 bif (decide (c<d))then
  (in? b.length (i64.wrap (d-1))).bind λ_=>
  let e:=(b.getD ((i64.wrap (d-1)).toNat) ([],[]))
  (in? b.length d).bind λ_=>
  (in? b.length d).bind λ_=>
  (in? (b.set d.toNat e).length (i64.wrap (d-1))).bind λ_=>
  a (((b.set d.toNat e).set ((i64.wrap (d-1)).toNat) (b.getD d.toNat ([],[]))),c,(i64.wrap (d-1)))
 else
  some b
def rU(slf:E3×Int×Int×Int×FW->Option E3):E3×Int×Int->Option E3:=E8 (A3W slf) fuel
def fH(slf:E3×Int×Int×Int×FW->Option E3):Int×Int×Int×Int×Int×Bool->Option (Int×Int):=λ(a,b,c,d,e,f)=>
 bif f then
  some ((i64.wrap (e-c)),d)
 else
  some (a,b)
def A3X(slf:E3×Int×Int×Int×FW->Option E3)(a:E3×FW×Int×Int×Int->Option (E3×Int)):E3×FW×Int×Int×Int->Option (E3×Int):=λ(b,c,d,e,f)=>
 bif (decide (d<e))then
  (shr? u64 (u64.wrap (i64.wrap (d+e))) 1).bind λg=>
  (in? b.length (i64.wrap (f-(i64.wrap g)))).bind λ_=>
  (in? b.length (i64.wrap g)).bind λ_=>
  (c ((b.getD ((i64.wrap (f-(i64.wrap g))).toNat) ([],[])),(b.getD ((i64.wrap g).toNat) ([],[])))).bind λh=>
  bif (!(decide (h<0)))then
   a (b,c,(i64.wrap ((i64.wrap g)+1)),e,f)
  else
   a (b,c,d,(i64.wrap g),f)
 else
  some (b,d)
def rV(slf:E3×Int×Int×Int×FW->Option E3):E3×FW×Int×Int×Int->Option (E3×Int):=E8 (A3X slf) fuel
def fI(slf:E3×Int×Int×Int×FW->Option E3):E3×Int×FW×Int×Int×Bool->Option E3:=λ(a,b,c,d,e,f)=>
 bif f then
  (fG (a,d,b,e,c)).bind λb=>
  some b
 else
  some a
def fJ(slf:E3×Int×Int×Int×FW->Option E3):E3×Int×FW×Int×Int×Bool->Option E3:=λ(a,b,c,d,e,f)=>
 bif f then
  (slf (a,b,e,d,c)).bind λb=>
  some b
 else
  some a
def rW(slf:E3×Int×Int×Int×FW->Option E3):E3×Int×Int×Int×FW->Option E3:=λ(a,b,c,d,e)=>
 bif (E1 (i64.wrap (c-b)) 1)then
  ((rR slf) (a,b,e,c,d)).bind λf=>
  ((rS slf) (f.1,f.2,b)).bind λf=>
  some f
 else
  bif (E1 (i64.wrap (d-c)) 1)then
   ((rT slf) (a,c,e,b,c)).bind λf=>
   ((rU slf) (f.1,f.2,c)).bind λf=>
   some f
  else
   (shr? u64 (u64.wrap (i64.wrap (b+d))) 1).bind λf=>
   ((fH slf) (b,c,d,(i64.wrap f),(i64.wrap ((i64.wrap f)+c)),(decide ((i64.wrap f)<c)))).bind λg=>
   ((rV slf) (a,e,g.1,g.2,(i64.wrap ((i64.wrap ((i64.wrap f)+c))-1)))).bind λa=>
   let g:=(i64.wrap ((i64.wrap ((i64.wrap f)+c))-a.2))
   ((fI slf) (a.1,c,e,a.2,g,((decide (a.2<c))&&(decide (c<g))))).bind λc=>
   ((fJ slf) (c,b,e,(i64.wrap f),a.2,((decide (b<a.2))&&(decide (a.2<(i64.wrap f)))))).bind λa=>
   bif ((decide ((i64.wrap f)<g))&&(decide (g<d)))then
    (slf (a,(i64.wrap f),g,d,e)).bind λb=>
    some b
   else
    some a
def LM:Nat->E3×Int×Int×Int×FW->Option E3
 |0=>λ_=>none
 |n+1=>rW (LM n)
def YL:E3×Int×Int×Int×FW->Option E3:=LM 100
def A3Y:Rd (E3×Int×FW×Int×Int×Int) (E3×Int):=λa (b,c,d,e,f,g)=>
 bif (decide (g<=c))then
  (YK (b,f,g,d)).bind λh=>
  a (h,c,d,e,g,(i64.wrap (g+e)))
 else
  some (b,f)
def rX:=E8 A3Y fuel
def A3Z:Rd (E3×Int×FW×Int×Int×Int) (E3×Int):=λa (b,c,d,e,f,g)=>
 bif (decide (g<=c))then
  (YL (b,f,(i64.wrap (f+e)),g,d)).bind λh=>
  a (h,c,d,e,g,(i64.wrap (g+(i64.wrap (2*e)))))
 else
  some (b,f)
def rY:=E8 A3Z fuel
def A3_:Rd (E3×Int×FW×Int) E3:=λa (b,c,d,e)=>
 bif (decide (e<c))then
  (rY (b,c,d,e,0,(i64.wrap (2*e)))).bind λf=>
  bif (decide ((i64.wrap (f.2+e))<c))then
   (YL (f.1,f.2,(i64.wrap (f.2+e)),c,d)).bind λg=>
   a (g,c,d,(i64.wrap (e*2)))
  else
   a (f.1,c,d,(i64.wrap (e*2)))
 else
  some b
def rZ:=E8 A3_ fuel
def fK:E3×Int×FW->Option E3:=λ(a,b,c)=>
 (rX (a,b,c,20,0,20)).bind λa=>
 (YK (a.1,a.2,b,c)).bind λa=>
 (rZ (a,b,c,20)).bind λa=>
 some a
def fL:E3×FW->Option E3:=λ(a,b)=>
 (fK (a,(a.length:Int),b)).bind λa=>
 some a
def UN:DX->Option (Bool):=λa=>
 some (!(E5 a a))
def LN:DX×DX->Option (Int):=λ(a,b)=>
 (UN a).bind λc=>
 (UN b).bind λd=>
 bif c then
  bif d then
   some 0
  else
   some (-1:Int)
 else
  bif d then
   some 1
  else
   bif (Op.bytesLess a b)then
    some (-1:Int)
   else
    bif (!(Op.bytesLess a b||E5 a b))then
     some 1
    else
     some 0
def fM:(DX×DX)×(DX×DX)->Option (Int):=λ(a,b)=>
 (LN (a.1,b.1)).bind λa=>
 some a
def fN:Unit->Option (List S2):=λ_=>
 some [([100,111,116,116,101,100],(2,(true,(false,1)))),([114,101,118,105,115,101,100],(3,(true,(false,2)))),([115,116,97,103,101,100],(1,(true,(true,3)))),([113,117,97,108,105,102,105,101,100],(3,(false,(false,4)))),([112,108,97,105,110],(2,(false,(false,5))))]
def A3a:Rd (DX×(List S2)×Int) I0:=λa (b,c,d)=>
 bif (decide (d<5))then
  (at? c d).bind λe=>
  bif (E5 e.1 b)then
   some (.inr d)
  else
   a (b,c,(i64.wrap (d+1)))
 else
  some (.inl ())
def r_:=E8 A3a fuel
def fO:DX->Option (Int):=λa=>
 (fN ()).bind λb=>
 (r_ (a,b,0)).bind λa=>
 match a with
 | .inl _=>
  some (-1:Int)
 | .inr a=>
  some a
def S4:DX->Option (S2×Int):=λa=>
 (fO a).bind λa=>
 bif (decide (a<0))then
  some (([],(0,(false,(false,0)))),7)
 else
  (fN ()).bind λb=>
  (at? b a).bind λa=>
  some (a,0)
def fP:Rd ((List DX)×Int×Int) LL:=λa (b,c,d)=>
 bif (decide (d<c))then
  (at? b d).bind λe=>
  bif (decide (200<(e.length:Int)))then
   some (.inr true)
  else
   a (b,c,(i64.wrap (d+1)))
 else
  some (.inl ())
def fQ:=E8 fP fuel
def A3b:Rd (E3×Int×Int) LL:=λa (b,c,d)=>
 bif (decide (d<c))then
  (at? b d).bind λe=>
  bif ((decide (200<(e.1.length:Int)))||(decide (200<(e.2.length:Int))))then
   some (.inr true)
  else
   a (b,c,(i64.wrap (d+1)))
 else
  some (.inl ())
def sA:=E8 A3b fuel
def S5:DX×DX×DX×DX×E3×DX->Option (Bool):=λa=>
 let b:=[a.2.1,a.2.2.1,a.2.2.2.1,a.2.2.2.2.2]
 (fQ (b,(b.length:Int),0)).bind λb=>
 match b with
 | .inl _=>
  (sA (a.2.2.2.2.1,(a.2.2.2.2.1.length:Int),0)).bind λb=>
  match b with
  | .inl _=>
   some (decide (10<(a.2.2.2.2.1.length:Int)))
  | .inr a=>
   some a
 | .inr a=>
  some a
def UO:DX->Option (List DX):=λa=>
 bif (E5 a [])then
  some []
 else
  (strings_Split (a,[47])).bind λa=>
  some a
def A3c:Rd (Bool×(List DX)×Int×Int) LL:=λa (b,c,d,e)=>
 bif (decide (e<d))then
  (at? c e).bind λf=>
  bif ((E5 f [])||(b&&((E5 f [46])||(E5 f [46,46]))))then
   some (.inr true)
  else
   a (b,c,d,(i64.wrap (e+1)))
 else
  some (.inl ())
def sB:=E8 A3c fuel
def YM:(List DX)×Bool->Option (Bool):=λ(a,b)=>
 (sB (b,a,(a.length:Int),0)).bind λb=>
 match b with
 | .inl _=>
  some (decide (10<(a.length:Int)))
 | .inr a=>
  some a
def A3d:Rd F9 LL:=λa (b,c,d)=>
 bif (decide (d<c))then
  (at? b d).bind λe=>
  (YJ ((e.toNat:Int),(E1 d 0))).bind λe=>
  bif (!e)then
   some (.inr false)
  else
   a (b,c,(i64.wrap (d+1)))
 else
  some (.inl ())
def sC:=E8 A3d fuel
def fR:DX->Option (Bool):=λa=>
 (sC (a,(a.length:Int),0)).bind λb=>
 match b with
 | .inl _=>
  some (!(E5 a []))
 | .inr a=>
  some a
def A3e:Rd (E3×E3×Int×Int) I0:=λa (b,c,d,e)=>
 bif (decide (e<d))then
  (at? c e).bind λf=>
  (fR f.1).bind λg=>
  bif (!g)then
   some (.inr 8)
  else
   bif (E5 f.2 [])then
    some (.inr 2)
   else
    (bif (decide (0<e))then at? b (i64.wrap (e-1))else some ([],[])).bind λg=>
    bif ((decide (0<e))&&(Op.bytesLess f.1 g.1||E5 f.1 g.1))then
     some (.inr 10)
    else
     a (b,c,d,(i64.wrap (e+1)))
 else
  some (.inl ())
def sD:=E8 A3e fuel
def fS:List (DX×DX)->Option (Int):=λa=>
 (sD (a,a,(a.length:Int),0)).bind λa=>
 match a with
 | .inl _=>
  some 0
 | .inr a=>
  some a
def fT:Rd F9 LL:=λa (b,c,d)=>
 bif (decide (d<c))then
  (at? b d).bind λe=>
  (bif (!(decide ((e.toNat:Int)<32)))then at? b d else some 0).bind λf=>
  bif ((decide ((e.toNat:Int)<32))||(E1 (f.toNat:Int) 127))then
   some (.inr true)
  else
   a (b,c,(i64.wrap (d+1)))
 else
  some (.inl ())
def sE:=E8 fT fuel
def UP:DX->Option (Bool):=λa=>
 (sE (a,(a.length:Int),0)).bind λa=>
 match a with
 | .inl _=>
  some false
 | .inr a=>
  some a
def fU:Rd ((List DX)×Int×Int) I0:=λa (b,c,d)=>
 bif (decide (d<c))then
  (at? b d).bind λe=>
  (UP e).bind λe=>
  bif e then
   some (.inr 8)
  else
   a (b,c,(i64.wrap (d+1)))
 else
  some (.inl ())
def fV:=E8 fU fuel
def A3f:Rd (E3×Int×Int) I0:=λa (b,c,d)=>
 bif (decide (d<c))then
  (at? b d).bind λe=>
  (UP e.2).bind λe=>
  bif e then
   some (.inr 8)
  else
   a (b,c,(i64.wrap (d+1)))
 else
  some (.inl ())
def sF:=E8 A3f fuel
def JS:DX×DX×DX×DX×E3×DX->Option (Int):=λa=>
 (S4 a.1).bind λb=>
 bif (!(E1 b.2 0))then
  some b.2
 else
  (S5 a).bind λc=>
  bif c then
   some 3
  else
   bif (((!(E5 a.2.1 []))&&(E1 b.1.2.1 1))||((E5 a.2.1 [])&&(E1 b.1.2.1 3)))then
    some 2
   else
    (UO a.2.1).bind λb=>
    (YM (b,false)).bind λb=>
    bif b then
     some 2
    else
     (bif (!(E5 a.2.2.1 []))then strings_IndexByte (a.2.2.1,47)else some 0).bind λb=>
     bif ((E5 a.2.2.1 [])||(decide (0<=b)))then
      some 8
     else
      (fS a.2.2.2.2.1).bind λb=>
      bif (!(E1 b 0))then
       some b
      else
       (UO a.2.2.2.2.2).bind λb=>
       (YM (b,true)).bind λb=>
       bif b then
        some 2
       else
        let b:=[a.2.1,a.2.2.1,a.2.2.2.1,a.2.2.2.2.2]
        (fV (b,(b.length:Int),0)).bind λb=>
        match b with
        | .inl _=>
         (sF (a.2.2.2.2.1,(a.2.2.2.2.1.length:Int),0)).bind λa=>
         match a with
         | .inl _=>
          some 0
         | .inr a=>
          some a
        | .inr a=>
         some a
def UQ:Int->Option (Bool):=λa=>
 some (((E1 a 45)||(E1 a 95))||(E1 a 46))
def MC:(List Int)×Int->Option (Unit×(List Int)):=λ(a,b)=>
 (YF a).bind λa=>
 (app? 24 a [b]).bind λa=>
 some ((),a)
def fW:Rd (DX×(List Int)×Int×Int) (List Int):=λa (b,c,d,e)=>
 bif (decide (e<d))then
  (at? b e).bind λf=>
  (UQ (f.toNat:Int)).bind λf=>
  bif (!f)then
   (at? b e).bind λf=>
   (MC (c,(f.toNat:Int))).bind λf=>
   a (b,f.2,d,(i64.wrap (e+1)))
  else
   (bif (!(E1 e 0))then at? b (i64.wrap (e-1))else some 0).bind λf=>
   (bif (!(E1 e 0))then UQ (f.toNat:Int)else some false).bind λf=>
   bif ((E1 e 0)||(!f))then
    (MC (c,45)).bind λf=>
    a (b,f.2,d,(i64.wrap (e+1)))
   else
    a (b,c,d,(i64.wrap (e+1)))
 else
  some c
def fX:=E8 fW fuel
def UR:DX->Option DX:=λa=>
 (fX (a,[],(a.length:Int),0)).bind λa=>
 (O8 a).bind λa=>
 some a
def US:HT×Bool->Option HT:=λ(a,b)=>
 bif b then
  (P1 a.2.1).bind λb=>
  (P1 a.2.2.1).bind λc=>
  some (a.1,(b,(c,a.2.2.2)))
 else
  some a
def KD:DX×DX×DX×DX×E3×DX->Option HT:=λa=>
 (S4 a.1).bind λb=>
 (US (a,b.1.2.2.1)).bind λa=>
 bif b.1.2.2.2.1 then
  (UR a.2.2.1).bind λb=>
  (app? 48 [] a.2.2.2.2.1).bind λc=>
  some (a.1,(a.2.1,(b,(a.2.2.2.1,(c,a.2.2.2.2.2)))))
 else
  (app? 48 [] a.2.2.2.2.1).bind λb=>
  some (a.1,(a.2.1,(a.2.2.1,(a.2.2.2.1,(b,a.2.2.2.2.2)))))
def sG:Rd (HT×H_×Int) (Sum (HT×H_) (HT×Int×Int)):=λa (b,c,d)=>
 bif (decide (d<(c.2.2.2.2.1.length:Int)))then
  (in? c.2.2.2.2.1.length d).bind λ_=>
  (in? c.2.2.2.2.1.length (i64.wrap (d-1))).bind λ_=>
  bif (E5 ((c.2.2.2.2.1.getD d.toNat ([],[])).1) ((c.2.2.2.2.1.getD ((i64.wrap (d-1)).toNat) ([],[])).1))then
   some (.inr (([],([],([],([],([],[]))))),0,5))
  else
   a (b,(c.1,(c.2.1,(c.2.2.1,(c.2.2.2.1,(c.2.2.2.2.1,c.2.2.2.2.2))))),(i64.wrap (d+1)))
 else
  some (.inl (b,(c.1,(c.2.1,(c.2.2.1,(c.2.2.2.1,(c.2.2.2.2.1,c.2.2.2.2.2)))))))
def fY:=E8 sG fuel
def MD:DX->Option (HT×Int×Int):=λa=>
 bif (decide (3000<(a.length:Int)))then
  some (([],([],([],([],([],[]))))),0,3)
 else
  (fF (a,(0,(-1:Int)))).bind λa=>
  bif (decide (0<=a.2.2.2))then
   some (([],([],([],([],([],[]))))),a.2.2.2,6)
  else
   (fL (a.1.2.2.2.2.1,(λx=>(fM x).bind λr=>some r))).bind λb=>
   (fY (([],([],([],([],([],[]))))),(a.1.1,(a.1.2.1,(a.1.2.2.1,(a.1.2.2.2.1,(b,a.1.2.2.2.2.2))))),1)).bind λa=>
   match a with
   | .inl a=>
    (JS (a.2.1,(a.2.2.1,(a.2.2.2.1,(a.2.2.2.2.1,(a.2.2.2.2.2.1,a.2.2.2.2.2.2)))))).bind λb=>
    bif (!(E1 b 0))then
     some (([],([],([],([],([],[]))))),0,b)
    else
     (KD (a.2.1,(a.2.2.1,(a.2.2.2.1,(a.2.2.2.2.1,(a.2.2.2.2.2.1,a.2.2.2.2.2.2)))))).bind λa=>
     some (a,0,0)
   | .inr a=>
    some (a.1,a.2.1,a.2.2)
def QF:(List Int)×DX->Option (Int×Unit×(List Int)):=λ(a,b)=>
 (YF a).bind λa=>
 (app? 24 a (FL b)).bind λa=>
 some ((b.length:Int),(),a)
def A3g:Rd (DX×(List Int)×Int×Int) (List Int):=λa (b,c,d,e)=>
 bif (decide (e<d))then
  (at? b e).bind λf=>
  (YG (f.toNat:Int)).bind λg=>
  let h:=((decide (48<=(f.toNat:Int)))&&(decide ((f.toNat:Int)<=57)))
  (bif (!(g||h))then strings_IndexByte ([46,45,95,126],(f.toNat:Int))else some 0).bind λi=>
  bif ((g||h)||(decide (0<=i)))then
   (MC (c,(f.toNat:Int))).bind λg=>
   a (b,g.2,d,(i64.wrap (e+1)))
  else
   (div? u8 (f.toNat:Int) 16).bind λg=>
   (div? u8 (f.toNat:Int) 16).bind λh=>
   (cut? [48,49,50,51,52,53,54,55,56,57,65,66,67,68,69,70] g (u8.wrap (h+1))).bind λg=>
   (cat? [37] g).bind λg=>
   (mod? (f.toNat:Int) 16).bind λh=>
   (mod? (f.toNat:Int) 16).bind λf=>
   (cut? [48,49,50,51,52,53,54,55,56,57,65,66,67,68,69,70] h (u8.wrap (f+1))).bind λf=>
   (cat? g f).bind λf=>
   (QF (c,f)).bind λf=>
   a (b,f.2.2,d,(i64.wrap (e+1)))
 else
  some c
def sH:=E8 A3g fuel
def UT:DX->Option DX:=λa=>
 (sH (a,[],(a.length:Int),0)).bind λa=>
 (O8 a).bind λa=>
 some a
def A3h:Rd ((List DX)×(List DX)×Int×Int) (List DX):=λa (b,c,d,e)=>
 bif (decide (e<d))then
  (at? c e).bind λf=>
  (UT f).bind λf=>
  (app? 24 b [f]).bind λf=>
  a (f,c,d,(i64.wrap (e+1)))
 else
  some b
def sJ:=E8 A3h fuel
def fZ:DX->Option DX:=λa=>
 (UO a).bind λa=>
 (sJ ([],a,(a.length:Int),0)).bind λa=>
 (strings_Join (a,[47])).bind λa=>
 some a
def f_:DX×DX×DX×DX×E3×DX->Option DX:=λa=>
 (cat? [112,107,103,58] a.1).bind λb=>
 (cat? b [47]).bind λb=>
 bif (!(E5 a.2.1 []))then
  (fZ a.2.1).bind λc=>
  (cat? c [47]).bind λc=>
  (cat? b c).bind λc=>
  (UT a.2.2.1).bind λd=>
  (cat? c d).bind λc=>
  some c
 else
  (UT a.2.2.1).bind λa=>
  (cat? b a).bind λa=>
  some a
def JT:DX×DX×DX×DX×E3×DX->Option (DX×Int):=λa=>
 (JS a).bind λb=>
 bif (!(E1 b 0))then
  some ([],b)
 else
  (KD a).bind λa=>
  (f_ a).bind λa=>
  some (a,0)
def NB:DX->Option (Int×Bool):=λa=>
 (MD a).bind λb=>
 bif (!(E1 b.2.2 0))then
  some (0,false)
 else
  (JT b.1).bind λc=>
  bif ((!(E1 c.2 0))||(!(E5 c.1 a)))then
   some (0,false)
  else
   (S4 b.1.1).bind λa=>
   some (a.1.2.2.2.2,(E1 a.2 0))
def A3i:Rd (DX×Int×OC×Int) (Int):=λa (b,c,d,e)=>
 let f:=(decide ((i64.wrap (c+e))<(b.length:Int)))
 (bif f then at? b (i64.wrap (c+e))else some 0).bind λg=>
 (bif f then d (g.toNat:Int)else some false).bind λg=>
 bif (f&&g)then
  a (b,c,d,(i64.wrap (e+1)))
 else
  some e
def sK:=E8 A3i fuel
def IA:DX×Int×OC->Option (Int):=λ(a,b,c)=>
 (sK (a,b,c,0)).bind λa=>
 some a
def H5:Int->Option (Bool):=λa=>
 some ((decide (48<=a))&&(decide (a<=57)))
def J6:DX->Option (Int×Bool):=λa=>
 let b:=((E5 a [])||(decide (18<(a.length:Int))))
 (bif (!b)then IA (a,0,(λx=>(H5 x).bind λr=>some r))else some 0).bind λc=>
 bif (b||(!(E1 c (a.length:Int))))then
  some (0,false)
 else
  (eX a).bind λa=>
  some (a.1,true)
def QG:DX->Option (Int×Bool):=λa=>
 (bif (decide (1<(a.length:Int)))then at? a 0 else some 0).bind λb=>
 bif ((decide (1<(a.length:Int)))&&(E1 (b.toNat:Int) 48))then
  some (0,false)
 else
  (J6 a).bind λa=>
  some (a.1,a.2)
def L3:Int->Option (Bool):=λa=>
 some (((decide (65<=a))&&(decide (a<=90)))||((decide (97<=a))&&(decide (a<=122))))
def UU:Int->Option (Bool):=λa=>
 (H5 a).bind λb=>
 (bif (!b)then L3 a else some false).bind λc=>
 some ((b||c)||(E1 a 45))
def gA:Rd ((List DX)×Int×Int) (Sum (Unit) LK):=λa (b,c,d)=>
 bif (decide (d<c))then
  (at? b d).bind λe=>
  (bif (!(E5 e []))then IA (e,0,(λx=>(UU x).bind λr=>some r))else some 0).bind λf=>
  bif ((E5 e [])||(!(E1 f (e.length:Int))))then
   some (.inr ([],false))
  else
   a (b,c,(i64.wrap (d+1)))
 else
  some (.inl ())
def gB:=E8 gA fuel
def S6:DX->Option LK:=λa=>
 (strings_Split (a,[46])).bind λa=>
 (gB (a,(a.length:Int),0)).bind λb=>
 match b with
 | .inl _=>
  some (a,true)
 | .inr a=>
  some (a.1,a.2)
def A3j:Rd ((List DX)×Int×Int) (Sum (Unit) LK):=λa (b,c,d)=>
 bif (decide (d<c))then
  (at? b d).bind λe=>
  (IA (e,0,(λx=>(H5 x).bind λr=>some r))).bind λf=>
  bif (E1 f (e.length:Int))then
   (QG e).bind λe=>
   bif (!e.2)then
    some (.inr ([],false))
   else
    a (b,c,(i64.wrap (d+1)))
  else
   a (b,c,(i64.wrap (d+1)))
 else
  some (.inl ())
def sL:=E8 A3j fuel
def UV:DX->Option LK:=λa=>
 (S6 a).bind λa=>
 (sL (a.1,(a.1.length:Int),0)).bind λb=>
 match b with
 | .inl _=>
  some (a.1,a.2)
 | .inr a=>
  some (a.1,a.2)
def UW:DX->Option LK:=λa=>
 (strings_Cut (a,[43])).bind λa=>
 (S6 a.2.1).bind λb=>
 bif (a.2.2&&(!b.2))then
  some ([],false)
 else
  bif (E5 a.1 [])then
   some ([],true)
  else
   (at? a.1 0).bind λb=>
   bif (!(E1 (b.toNat:Int) 45))then
    some ([],false)
   else
    (cut? a.1 1 (a.1.length:Int)).bind λa=>
    (UV a).bind λa=>
    some (a.1,a.2)
def UX:DX×Int×Bool->Option (Sum (Int) (HC×Bool)):=λ(a,b,c)=>
 bif c then
  (bif (!(decide ((a.length:Int)<=b)))then at? a b else some 0).bind λc=>
  bif ((decide ((a.length:Int)<=b))||(!(E1 (c.toNat:Int) 46)))then
   some (.inr ((Sum.inr (Sum.inr (Sum.inr (Sum.inr (Sum.inr ()))))),false))
  else
   some (.inl (i64.wrap (b+1)))
 else
  some (.inl b)
def gC:Rd (DX×KC×Int×Int) (Sum (KC×Int) (HC×Bool)):=λa (b,c,d,e)=>
 bif (decide (e<3))then
  (UX (b,d,(decide (0<e)))).bind λf=>
  match f with
  | .inl f=>
   (IA (b,f,(λx=>(H5 x).bind λr=>some r))).bind λg=>
   (cut? b f (i64.wrap (f+g))).bind λh=>
   (QG h).bind λh=>
   bif (!h.2)then
    some (.inr ((Sum.inr (Sum.inr (Sum.inr (Sum.inr (Sum.inr ()))))),false))
   else
    (in? 3 e).bind λ_=>
    a (b,((c.1.set e.toNat h.1),c.2),(i64.wrap (f+g)),(i64.wrap (e+1)))
  | .inr a=>
   some (.inr (a.1,a.2))
 else
  some (.inl ((c.1,c.2),d))
def sM:=E8 gC fuel
def YN:DX->Option (HC×Bool):=λa=>
 (sM (a,((List.replicate 3 0),[]),0,0)).bind λb=>
 match b with
 | .inl b=>
  (cut? a b.2 (a.length:Int)).bind λa=>
  (UW a).bind λa=>
  some ((Sum.inl (b.1.1,a.1)),a.2)
 | .inr a=>
  some (a.1,a.2)
def S7:Int->Option (Bool):=λa=>
 (H5 a).bind λb=>
 (bif (!b)then L3 a else some false).bind λc=>
 (bif (!(b||c))then strings_IndexByte ([46,43,126,45],a)else some 0).bind λa=>
 some ((b||c)||(decide (0<=a)))
def A3k:Rd (DX×Int) LL:=λa (b,c)=>
 bif (decide (c<(b.length:Int)))then
  (IA (b,c,(λx=>(H5 x).bind λr=>some r))).bind λd=>
  bif (decide (18<d))then
   some (.inr false)
  else
   a (b,(i64.wrap (c+(XJ d 1))))
 else
  some (.inl ())
def sN:=E8 A3k fuel
def gD:DX->Option (Bool):=λa=>
 (sN (a,0)).bind λa=>
 match a with
 | .inl _=>
  some true
 | .inr a=>
  some a
def S8:DX×JQ×DX×DX×Bool->Option (Sum (DX×JQ) (HC×Bool)):=λ(a,b,c,d,e)=>
 bif e then
  (QG c).bind λc=>
  bif (!c.2)then
   some (.inr ((Sum.inr (Sum.inr (Sum.inr (Sum.inr (Sum.inr ()))))),false))
  else
   some (.inl (d,(c.1,b.2)))
 else
  some (.inl (a,b))
def YO:DX->Option (HC×Bool):=λa=>
 (strings_Cut (a,[58])).bind λb=>
 (S8 (a,(0,([],([],false))),b.1,b.2.1,b.2.2)).bind λa=>
 match a with
 | .inl a=>
  (bif (!(E5 a.1 []))then at? a.1 0 else some 0).bind λb=>
  (bif (!(E5 a.1 []))then H5 (b.toNat:Int)else some false).bind λb=>
  (bif (!((E5 a.1 [])||(!b)))then IA (a.1,0,(λx=>(S7 x).bind λr=>some r))else some 0).bind λc=>
  let d:=(((E5 a.1 [])||(!b))||(!(E1 c (a.1.length:Int))))
  (bif (!d)then gD a.1 else some false).bind λb=>
  bif (d||(!b))then
   some ((Sum.inr (Sum.inr (Sum.inr (Sum.inr (Sum.inr ()))))),false)
  else
   (strings_LastIndexByte (a.1,45)).bind λb=>
   bif (decide (0<=b))then
    (cut? a.1 0 b).bind λc=>
    (cut? a.1 (i64.wrap (b+1)) (a.1.length:Int)).bind λb=>
    bif (E5 b [])then
     some ((Sum.inr (Sum.inr (Sum.inr (Sum.inr (Sum.inr ()))))),false)
    else
     (strings_IndexByte (c,45)).bind λd=>
     some ((Sum.inr (Sum.inl (a.2.1,(c,(b,(decide (0<=d))))))),true)
   else
    (strings_IndexByte (a.1,45)).bind λb=>
    some ((Sum.inr (Sum.inl (a.2.1,(a.1,(a.2.2.2.1,(decide (0<=b))))))),true)
 | .inr a=>
  some (a.1,a.2)
def gE:Rd (DX×(List Int)) ((List Int)×DX×Bool):=λa (b,c)=>
 (IA (b,0,(λx=>(H5 x).bind λr=>some r))).bind λd=>
 (cut? b 0 d).bind λe=>
 (J6 e).bind λe=>
 bif (!e.2)then
  some ([],[],false)
 else
  (app? 24 c [e.1]).bind λc=>
  (cut? b d (b.length:Int)).bind λb=>
  (bif (!(decide ((b.length:Int)<2)))then at? b 0 else some 0).bind λd=>
  let e:=((decide ((b.length:Int)<2))||(!(E1 (d.toNat:Int) 46)))
  (bif (!e)then at? b 1 else some 0).bind λd=>
  (bif (!e)then H5 (d.toNat:Int)else some false).bind λd=>
  bif (e||(!d))then
   some (c,b,true)
  else
   (cut? b 1 (b.length:Int)).bind λb=>
   a (b,c)
def sO:=E8 gE fuel
def UY:DX->Option ((List Int)×DX×Bool):=λa=>
 (sO (a,[])).bind λa=>
 some (a.1,a.2.1,a.2.2)
def gF:Int->Option (Bool):=λa=>
 some (((E1 a 46)||(E1 a 45))||(E1 a 95))
def S9:DX×OC->Option (Int):=λ(a,b)=>
 (bif (decide (1<(a.length:Int)))then at? a 0 else some 0).bind λc=>
 (bif (decide (1<(a.length:Int)))then gF (c.toNat:Int)else some false).bind λc=>
 (bif ((decide (1<(a.length:Int)))&&c)then at? a 1 else some 0).bind λd=>
 (bif ((decide (1<(a.length:Int)))&&c)then b (d.toNat:Int)else some false).bind λb=>
 bif (((decide (1<(a.length:Int)))&&c)&&b)then
  some 1
 else
  some 0
def gG:Rd (DX×DX×(List DX)×Int×Int) DX:=λa (b,c,d,e,f)=>
 bif (decide (f<e))then
  (at? d f).bind λg=>
  (strings_HasPrefix (b,g)).bind λh=>
  bif h then
   some g
  else
   a (b,c,d,e,(i64.wrap (f+1)))
 else
  some c
def gH:=E8 gG fuel
def gI:DX×Bool->Option (Bool):=λ(a,b)=>
 bif b then
  some b
 else
  some (E5 a [97,108,112,104,97])
def gJ:DX×Bool->Option (Bool):=λ(a,b)=>
 bif b then
  some b
 else
  some (E5 a [98,101,116,97])
def gK:DX×Bool->Option (Bool):=λ(a,b)=>
 bif b then
  some b
 else
  bif (E5 a [114,99])then
   some (E5 a [114,99])
  else
   bif (E5 a [112,114,101])then
    some (E5 a [112,114,101])
   else
    some (E5 a [112,114,101,118,105,101,119])
def UZ:DX->Option F9:=λa=>
 let b:=[[112,114,101,118,105,101,119],[97,108,112,104,97],[98,101,116,97],[112,111,115,116],[112,114,101],[114,101,118],[100,101,118],[114,99],[97],[98],[99],[114]]
 (gH (a,[],b,(b.length:Int),0)).bind λa=>
 bif (E5 a [])then
  some ([],0,0)
 else
  (gI (a,(E5 a [97]))).bind λb=>
  bif b then
   some (a,1,1)
  else
   (gJ (a,(E5 a [98]))).bind λb=>
   bif b then
    some (a,1,2)
   else
    (gK (a,(E5 a [99]))).bind λb=>
    bif b then
     some (a,1,3)
    else
     bif (E5 a [112,111,115,116])then
      bif (E5 a [112,111,115,116])then
       some (a,2,0)
      else
       some (a,3,0)
     else
      bif (E5 a [114,101,118])then
       bif (E5 a [114,101,118])then
        some (a,2,0)
       else
        some (a,3,0)
      else
       bif (E5 a [114])then
        some (a,2,0)
       else
        some (a,3,0)
def SA:DX×Int×Int×Bool->Option (Sum (DX×Int) (DX×Bool)):=λ(a,b,c,d)=>
 bif d then
  (IA (a,c,(λx=>(H5 x).bind λr=>some r))).bind λd=>
  (cut? a c (i64.wrap (c+d))).bind λe=>
  (J6 e).bind λe=>
  bif (!e.2)then
   some (.inr ([],false))
  else
   (cut? a (i64.wrap (c+d)) (a.length:Int)).bind λc=>
   some (.inl (c,e.1))
 else
  some (.inl (a,b))
def gL:Rd (G7×DX×Int) (G7×DX×Bool):=λa (b,c,d)=>
 (S9 (c,(λx=>(L3 x).bind λr=>some r))).bind λe=>
 (cut? c e (c.length:Int)).bind λe=>
 (UZ e).bind λf=>
 bif (E5 f.1 [])then
  some (b,c,true)
 else
  bif (decide (f.2.1<=d))then
   some (b,[],false)
  else
   (cut? e (f.1.length:Int) (e.length:Int)).bind λc=>
   (S9 (c,(λx=>(H5 x).bind λr=>some r))).bind λd=>
   (bif ((!(decide (0<d)))&&(!(E5 c [])))then at? c 0 else some 0).bind λe=>
   (bif ((!(decide (0<d)))&&(!(E5 c [])))then H5 (e.toNat:Int)else some false).bind λe=>
   (SA (c,0,d,((decide (0<d))||((!(E5 c []))&&e)))).bind λc=>
   match c with
   | .inl c=>
    bif (E1 f.2.1 1)then
     a ((b.1,(b.2.1,(f.2.2,(c.2,b.2.2.2.2)))),c.1,f.2.1)
    else
     bif (E1 f.2.1 2)then
      a ((b.1,(b.2.1,(b.2.2.1,(b.2.2.2.1,(c.2,b.2.2.2.2.2))))),c.1,f.2.1)
     else
      bif (E1 f.2.1 3)then
       a ((b.1,(b.2.1,(b.2.2.1,(b.2.2.2.1,(b.2.2.2.2.1,(c.2,b.2.2.2.2.2.2)))))),c.1,f.2.1)
      else
       a (b,c.1,f.2.1)
   | .inr a=>
    some (b,a.1,a.2)
def sP:=E8 gL fuel
def U_:G7×DX->Option (DX×Bool×G7):=λ(a,b)=>
 (sP (a,b,0)).bind λa=>
 some (a.2.1,a.2.2,a.1)
def QH:Int->Option (Bool):=λa=>
 some (((E1 a 46)||(E1 a 45))||(E1 a 95))
def V0:Int->Option (Bool):=λa=>
 (H5 a).bind λb=>
 (bif (!b)then L3 a else some false).bind λa=>
 some (b||a)
def gM:Rd (Int×(List DX)×Int×Int) (Sum (Int) LK):=λa (b,c,d,e)=>
 bif (decide (e<d))then
  (at? c e).bind λf=>
  (IA (f,0,(λx=>(H5 x).bind λr=>some r))).bind λg=>
  (IA (f,0,(λx=>(V0 x).bind λr=>some r))).bind λh=>
  bif ((!(E1 h (f.length:Int)))||((E1 g (f.length:Int))&&(decide (18<g))))then
   some (.inr ([],false))
  else
   a ((i64.wrap (b+(f.length:Int))),c,d,(i64.wrap (e+1)))
 else
  some (.inl b)
def sQ:=E8 gM fuel
def V1:DX->Option LK:=λa=>
 (S0 (a,(λx=>(QH x).bind λr=>some r))).bind λb=>
 (sQ ((b.length:Int),b,(b.length:Int),0)).bind λc=>
 match c with
 | .inl c=>
  some (b,((decide (0<(b.length:Int)))&&(E1 (i64.wrap (c-1)) (a.length:Int))))
 | .inr a=>
  some (a.1,a.2)
def V2:DX×G7×Int×Bool->Option (Sum (DX×G7) (HC×Bool)):=λ(a,b,c,d)=>
 bif d then
  (cut? a 0 c).bind λd=>
  (J6 d).bind λd=>
  bif (!d.2)then
   some (.inr ((Sum.inr (Sum.inr (Sum.inr (Sum.inr (Sum.inr ()))))),false))
  else
   (cut? a (i64.wrap (c+1)) (a.length:Int)).bind λc=>
   some (.inl (c,(d.1,b.2)))
 else
  some (.inl (a,b))
def V3:DX->Option (HC×Bool):=λa=>
 (strings_TrimPrefix (a,[118])).bind λa=>
 (IA (a,0,(λx=>(H5 x).bind λr=>some r))).bind λb=>
 (bif (decide (b<(a.length:Int)))then at? a b else some 0).bind λc=>
 (V2 (a,(0,([],(0,(0,((-1:Int),((-1:Int),[])))))),b,((decide (b<(a.length:Int)))&&(E1 (c.toNat:Int) 33)))).bind λa=>
 match a with
 | .inl a=>
  (UY a.1).bind λb=>
  bif (!b.2.2)then
   some ((Sum.inr (Sum.inr (Sum.inr (Sum.inr (Sum.inr ()))))),false)
  else
   (U_ ((a.2.1,(b.1,a.2.2.2)),b.2.1)).bind λa=>
   bif (!a.2.1)then
    some ((Sum.inr (Sum.inr (Sum.inr (Sum.inr (Sum.inr ()))))),false)
   else
    (strings_CutPrefix (a.1,[43])).bind λb=>
    bif b.2 then
     (V1 b.1).bind λb=>
     some ((Sum.inr (Sum.inr (Sum.inl (a.2.2.1,(a.2.2.2.1,(a.2.2.2.2.1,(a.2.2.2.2.2.1,(a.2.2.2.2.2.2.1,(a.2.2.2.2.2.2.2.1,b.1))))))))),b.2)
    else
     some ((Sum.inr (Sum.inr (Sum.inl a.2.2))),(E5 a.1 []))
 | .inr a=>
  some (a.1,a.2)
def gN:DX×Bool->Option DX:=λ(a,b)=>
 (R_ a).bind λa=>
 bif ((E5 a [97])&&b)then
  some [97,108,112,104,97]
 else
  bif ((E5 a [98])&&b)then
   some [98,101,116,97]
  else
   bif ((E5 a [109])&&b)then
    some [109,105,108,101,115,116,111,110,101]
   else
    bif (E5 a [99,114])then
     some [114,99]
    else
     bif (((E5 a [102,105,110,97,108])||(E5 a [103,97]))||(E5 a [114,101,108,101,97,115,101]))then
      some []
     else
      some a
def SB:Bool×DX×Int->Option (Bool):=λa=>
 some ((a.1&&(E5 a.2.1 []))||((!a.1)&&(E1 a.2.2 0)))
def V4:DX×Int×Bool->Option (Sum (Int) (HC×Bool)):=λ(a,b,c)=>
 bif c then
  let c:=(E1 b (i64.wrap ((a.length:Int)-1)))
  (bif (!((E1 b 0)||c))then at? a (i64.wrap (b+1))else some 0).bind λd=>
  (bif (!((E1 b 0)||c))then H5 (d.toNat:Int)else some false).bind λd=>
  (bif ((!((E1 b 0)||c))&&(!d))then at? a (i64.wrap (b+1))else some 0).bind λa=>
  (bif ((!((E1 b 0)||c))&&(!d))then L3 (a.toNat:Int)else some false).bind λa=>
  bif (((E1 b 0)||c)||((!d)&&(!a)))then
   some (.inr ((Sum.inr (Sum.inr (Sum.inr (Sum.inr (Sum.inr ()))))),false))
  else
   some (.inl (i64.wrap (b+1)))
 else
  some (.inl b)
def gO:Rd (DX×H4×Int) (Sum H4 (HC×Bool)):=λa (b,c,d)=>
 bif (decide (d<(b.length:Int)))then
  (at? b d).bind λe=>
  (bif (!(E1 (e.toNat:Int) 46))then at? b d else some 0).bind λf=>
  (V4 (b,d,((E1 (e.toNat:Int) 46)||(E1 (f.toNat:Int) 45)))).bind λd=>
  match d with
  | .inl d=>
   (IA (b,d,(λx=>(H5 x).bind λr=>some r))).bind λe=>
   bif (decide (0<e))then
    (cut? b d (i64.wrap (d+e))).bind λf=>
    (J6 f).bind λf=>
    bif (!f.2)then
     some (.inr ((Sum.inr (Sum.inr (Sum.inr (Sum.inr (Sum.inr ()))))),false))
    else
     (app? 72 c [(false,([],f.1))]).bind λf=>
     a (b,f,(i64.wrap (d+e)))
   else
    (IA (b,d,(λx=>(L3 x).bind λr=>some r))).bind λe=>
    bif (E1 e 0)then
     some (.inr ((Sum.inr (Sum.inr (Sum.inr (Sum.inr (Sum.inr ()))))),false))
    else
     let f:=(decide ((i64.wrap (d+e))<(b.length:Int)))
     (bif f then at? b (i64.wrap (d+e))else some 0).bind λg=>
     (bif f then H5 (g.toNat:Int)else some false).bind λg=>
     (cut? b d (i64.wrap (d+e))).bind λh=>
     (gN (h,(f&&g))).bind λf=>
     (app? 72 c [(true,(f,0))]).bind λf=>
     a (b,f,(i64.wrap (d+e)))
  | .inr a=>
   some (.inr (a.1,a.2))
 else
  some (.inl c)
def sR:=E8 gO fuel
def A3l:Rd H4 H4:=λa b=>
 (bif (decide (0<(b.length:Int)))then at? b (i64.wrap ((b.length:Int)-1))else some (false,([],0))).bind λc=>
 (bif (decide (0<(b.length:Int)))then SB c else some false).bind λc=>
 bif ((decide (0<(b.length:Int)))&&c)then
  (cut? b 0 (i64.wrap ((b.length:Int)-1))).bind λc=>
  a c
 else
  some b
def sS:=E8 A3l fuel
def V5:DX->Option (HC×Bool):=λa=>
 (sR (a,[],0)).bind λa=>
 match a with
 | .inl a=>
  (sS a).bind λa=>
  some ((Sum.inr (Sum.inr (Sum.inr (Sum.inl a)))),true)
 | .inr a=>
  some (a.1,a.2)
def YP:DX->Option (HC×Bool):=λa=>
 (QG a).bind λa=>
 some ((Sum.inr (Sum.inr (Sum.inr (Sum.inr (Sum.inl a.1))))),a.2)
def IY:Int×DX->Option (HC×Int):=λ(a,b)=>
 bif ((decide (a<1))||(decide (5<a)))then
  some ((Sum.inr (Sum.inr (Sum.inr (Sum.inr (Sum.inr ()))))),7)
 else
  bif ((E5 b [])||(decide (100<(b.length:Int))))then
   some ((Sum.inr (Sum.inr (Sum.inr (Sum.inr (Sum.inr ()))))),3)
  else
   bif (E1 a 1)then
    (YN b).bind λc=>
    bif (!c.2)then
     some ((Sum.inr (Sum.inr (Sum.inr (Sum.inr (Sum.inr ()))))),6)
    else
     some (c.1,0)
   else
    bif (E1 a 2)then
     (YO b).bind λc=>
     bif (!c.2)then
      some ((Sum.inr (Sum.inr (Sum.inr (Sum.inr (Sum.inr ()))))),6)
     else
      some (c.1,0)
    else
     bif (E1 a 3)then
      (R_ b).bind λc=>
      (V3 c).bind λc=>
      bif (!c.2)then
       some ((Sum.inr (Sum.inr (Sum.inr (Sum.inr (Sum.inr ()))))),6)
      else
       some (c.1,0)
     else
      bif (E1 a 4)then
       (V5 b).bind λc=>
       bif (!c.2)then
        some ((Sum.inr (Sum.inr (Sum.inr (Sum.inr (Sum.inr ()))))),6)
       else
        some (c.1,0)
      else
       bif (E1 a 5)then
        (YP b).bind λa=>
        bif (!a.2)then
         some ((Sum.inr (Sum.inr (Sum.inr (Sum.inr (Sum.inr ()))))),6)
        else
         some (a.1,0)
       else
        bif (!false)then
         some ((Sum.inr (Sum.inr (Sum.inr (Sum.inr (Sum.inr ()))))),6)
        else
         some ((Sum.inr (Sum.inr (Sum.inr (Sum.inr (Sum.inr ()))))),0)
def YQ:Int×DX->Option (Int):=λ(a,b)=>
 (IY (a,b)).bind λa=>
 some a.2
def SC:DX×DX->Option (Int×Int):=λ(a,b)=>
 (NB a).bind λa=>
 bif (!a.2)then
  some (0,8)
 else
  (YQ (a.1,b)).bind λb=>
  some (a.1,b)
def A3m:Rd ((List DX)×(List Int)×Int×Int) (List DX):=λa (b,c,d,e)=>
 bif (decide (e<d))then
  (at? c e).bind λf=>
  (strconv_Itoa f).bind λf=>
  (app? 24 b [f]).bind λf=>
  a (f,c,d,(i64.wrap (e+1)))
 else
  some b
def sT:=E8 A3m fuel
def YR:List Int->Option DX:=λa=>
 (sT ([],a,(a.length:Int),0)).bind λa=>
 (strings_Join (a,[46])).bind λa=>
 some a
def YS:(List Int)×(List DX)->Option DX:=λa=>
 (cut? a.1 0 (a.1.length:Int)).bind λb=>
 (YR b).bind λb=>
 bif (decide (0<(a.2.length:Int)))then
  (strings_Join (a.2,[46])).bind λa=>
  (cat? [45] a).bind λa=>
  (cat? b a).bind λa=>
  some a
 else
  some b
def A3n:Rd (DX×(List Int)×Int) (List Int):=λa (b,c,d)=>
 bif (decide (d<(b.length:Int)))then
  (IA (b,d,(λx=>(H5 x).bind λr=>some r))).bind λe=>
  bif (E1 e 0)then
   (at? b d).bind λf=>
   (MC (c,(f.toNat:Int))).bind λf=>
   a (b,f.2,(i64.wrap (d+1)))
  else
   (cut? b d (i64.wrap (d+e))).bind λf=>
   (J6 f).bind λf=>
   bif (((!(E1 f.1 0))||(decide ((i64.wrap (d+e))<(b.length:Int))))||(E1 e (b.length:Int)))then
    (strconv_Itoa f.1).bind λf=>
    (QF (c,f)).bind λf=>
    a (b,f.2.2,(i64.wrap (d+e)))
   else
    a (b,c,(i64.wrap (d+e)))
 else
  some c
def sU:=E8 A3n fuel
def YT:DX->Option DX:=λa=>
 (sU (a,[],0)).bind λa=>
 (O8 a).bind λa=>
 some a
def YU:Int×DX×DX×Bool->Option DX:=λa=>
 bif (E5 a.2.2.1 [])then
  some [48]
 else
  some a.2.2.1
def gP:Int->Option (Bool):=λa=>
 (H5 a).bind λa=>
 some (!a)
def A3o:Rd (DX×(List Int)×Int×Int) (List Int):=λa (b,c,d,e)=>
 bif (decide (e<d))then
  (at? b e).bind λf=>
  bif (E1 (f.toNat:Int) 126)then
   (MC (c,1)).bind λf=>
   a (b,f.2,d,(i64.wrap (e+1)))
  else
   (at? b e).bind λf=>
   (L3 (f.toNat:Int)).bind λf=>
   bif f then
    (at? b e).bind λf=>
    (MC (c,(f.toNat:Int))).bind λf=>
    a (b,f.2,d,(i64.wrap (e+1)))
   else
    (at? b e).bind λf=>
    (MC (c,(u8.wrap ((f.toNat:Int)+128)))).bind λf=>
    a (b,f.2,d,(i64.wrap (e+1)))
 else
  some c
def sV:=E8 A3o fuel
def gQ:DX->Option DX:=λa=>
 (sV (a,[],(a.length:Int),0)).bind λa=>
 (O8 a).bind λa=>
 (cat? a [2]).bind λa=>
 some a
def JU:Int->Option DX:=λa=>
 (strconv_Itoa a).bind λa=>
 (strings_Repeat ([48],(i64.wrap (18-(a.length:Int))))).bind λb=>
 (cat? b a).bind λa=>
 some a
def A3p:Rd (DX×(List Int)) (List Int):=λa (b,c)=>
 bif (!(E5 b []))then
  (IA (b,0,(λx=>(gP x).bind λr=>some r))).bind λd=>
  (IA (b,d,(λx=>(H5 x).bind λr=>some r))).bind λe=>
  (cut? b d (i64.wrap (d+e))).bind λf=>
  (J6 f).bind λf=>
  (cut? b 0 d).bind λg=>
  (gQ g).bind λg=>
  (JU f.1).bind λf=>
  (cat? g f).bind λf=>
  (QF (c,f)).bind λf=>
  (cut? b (i64.wrap (d+e)) (b.length:Int)).bind λb=>
  a (b,f.2.2)
 else
  some c
def sW:=E8 A3p fuel
def P3:DX->Option DX:=λa=>
 (sW (a,[])).bind λa=>
 (O8 a).bind λa=>
 (cat? a [2]).bind λa=>
 some a
def gR:JQ×DX×Bool->Option (JQ×DX):=λ(a,b,c)=>
 bif c then
  (strconv_Itoa a.1).bind λc=>
  (cat? c [58]).bind λc=>
  (cat? c b).bind λc=>
  some (a,c)
 else
  some (a,b)
def YV:Int×DX×DX×Bool->Option DX:=λa=>
 (YT a.2.1).bind λb=>
 (gR (a,b,(!(E1 a.1 0)))).bind λa=>
 (YU a.1).bind λb=>
 (P3 b).bind λb=>
 (P3 [48]).bind λc=>
 bif (!(E5 b c))then
  (cat? a.2 [45]).bind λb=>
  (YT a.1.2.2.1).bind λc=>
  (cat? b c).bind λb=>
  some b
 else
  bif a.1.2.2.2 then
   (cat? a.2 [45,48]).bind λb=>
   some b
  else
   some a.2
def A3q:Rd (List Int) (List Int):=λa b=>
 (bif (decide (0<(b.length:Int)))then at? b (i64.wrap ((b.length:Int)-1))else some 0).bind λc=>
 bif ((decide (0<(b.length:Int)))&&(E1 c 0))then
  (cut? b 0 (i64.wrap ((b.length:Int)-1))).bind λc=>
  a c
 else
  some b
def sX:=E8 A3q fuel
def YW:List Int->Option (List Int):=λa=>
 (sX a).bind λa=>
 some a
def gS:G7×DX×Bool->Option (G7×DX):=λ(a,b,c)=>
 bif c then
  (strconv_Itoa a.1).bind λc=>
  (cat? c [33]).bind λc=>
  some (a,c)
 else
  some (a,b)
def gT:DX×(List Int)×Bool->Option DX:=λ(a,b,c)=>
 bif c then
  (YR b).bind λb=>
  (cat? a b).bind λb=>
  some b
 else
  (cat? a [48]).bind λa=>
  some a
def gU:G7×DX×Bool->Option (G7×DX):=λ(a,b,c)=>
 bif c then
  (at? [[],[97],[98],[114,99]] a.2.2.1).bind λc=>
  (strconv_Itoa a.2.2.2.1).bind λd=>
  (cat? c d).bind λc=>
  (cat? b c).bind λc=>
  some (a,c)
 else
  some (a,b)
def gV:G7×DX×Bool->Option (G7×DX):=λ(a,b,c)=>
 bif c then
  (strconv_Itoa a.2.2.2.2.1).bind λc=>
  (cat? [46,112,111,115,116] c).bind λc=>
  (cat? b c).bind λc=>
  some (a,c)
 else
  some (a,b)
def gW:G7×DX×Bool->Option (G7×DX):=λ(a,b,c)=>
 bif c then
  (strconv_Itoa a.2.2.2.2.2.1).bind λc=>
  (cat? [46,100,101,118] c).bind λc=>
  (cat? b c).bind λc=>
  some (a,c)
 else
  some (a,b)
def gX:DX×Int×Bool->Option DX:=λ(a,b,c)=>
 bif c then
  (strconv_Itoa b).bind λb=>
  some b
 else
  some a
def A3r:Rd (DX×(List DX)×Int×Int) DX:=λa (b,c,d,e)=>
 bif (decide (e<d))then
  (at? c e).bind λf=>
  (J6 f).bind λg=>
  (gX (f,g.1,g.2)).bind λf=>
  bif (E1 e 0)then
   (cat? [43] f).bind λg=>
   (cat? b g).bind λg=>
   a (g,c,d,(i64.wrap (e+1)))
  else
   (cat? [46] f).bind λf=>
   (cat? b f).bind λf=>
   a (f,c,d,(i64.wrap (e+1)))
 else
  some b
def sY:=E8 A3r fuel
def YX:Int×(List Int)×Int×Int×Int×Int×(List DX)->Option DX:=λa=>
 (gS (a,[],(!(E1 a.1 0)))).bind λa=>
 (YW a.1.2.1).bind λb=>
 (gT (a.2,b,(decide (0<(b.length:Int))))).bind λb=>
 (gU (a.1,b,(decide (0<a.1.2.2.1)))).bind λa=>
 (gV (a.1,a.2,(decide (0<=a.1.2.2.2.2.1)))).bind λa=>
 (gW (a.1,a.2,(decide (0<=a.1.2.2.2.2.2.1)))).bind λa=>
 (sY (a.2,a.1.2.2.2.2.2.2,(a.1.2.2.2.2.2.2.length:Int),0)).bind λa=>
 some a
def A3s:Rd ((List DX)×H4×Int×Int) (List DX):=λa (b,c,d,e)=>
 bif (decide (e<d))then
  (at? c e).bind λf=>
  (SB f).bind λg=>
  bif g then
   (app? 24 b [[48]]).bind λg=>
   a (g,c,d,(i64.wrap (e+1)))
  else
   bif f.1 then
    (app? 24 b [f.2.1]).bind λg=>
    a (g,c,d,(i64.wrap (e+1)))
   else
    (strconv_Itoa f.2.2).bind λf=>
    (app? 24 b [f]).bind λf=>
    a (f,c,d,(i64.wrap (e+1)))
 else
  some b
def sZ:=E8 A3s fuel
def YY:List L1->Option DX:=λa=>
 (sZ ([],a,(a.length:Int),0)).bind λa=>
 bif (E1 (a.length:Int) 0)then
  some [48]
 else
  (strings_Join (a,[45])).bind λa=>
  some a
def YZ:Int->Option DX:=λa=>
 (strconv_Itoa a).bind λa=>
 some a
def A3t:Rd ((Int->Option DX)×(List Int)×(List Int)×Int×Int) (List Int):=λa (b,c,d,e,f)=>
 bif (decide (f<e))then
  (at? d f).bind λg=>
  (b g).bind λg=>
  (QF (c,g)).bind λg=>
  a (b,g.2.2,d,e,(i64.wrap (f+1)))
 else
  some c
def s_:=E8 A3t fuel
def Y_:(List Int)×DX×(Int->Option DX)->Option DX:=λ(a,b,c)=>
 (s_ (c,[],a,(a.length:Int),0)).bind λa=>
 (O8 a).bind λa=>
 (cat? a b).bind λa=>
 some a
def A3u:Rd ((DX->Option DX)×(List Int)×(List DX)×Int×Int) (List Int):=λa (b,c,d,e,f)=>
 bif (decide (f<e))then
  (at? d f).bind λg=>
  (b g).bind λg=>
  (QF (c,g)).bind λg=>
  a (b,g.2.2,d,e,(i64.wrap (f+1)))
 else
  some c
def tA:=E8 A3u fuel
def Z0:(List DX)×DX×(DX->Option DX)->Option DX:=λ(a,b,c)=>
 (tA (c,[],a,(a.length:Int),0)).bind λa=>
 (O8 a).bind λa=>
 (cat? a b).bind λa=>
 some a
def gY:DX->Option DX:=λa=>
 (J6 a).bind λb=>
 bif b.2 then
  (JU b.1).bind λb=>
  (cat? [48] b).bind λb=>
  some b
 else
  (cat? [49] a).bind λa=>
  (cat? a [32]).bind λa=>
  some a
def NC:(List Int)×(List DX)->Option DX:=λa=>
 (cut? a.1 0 (a.1.length:Int)).bind λb=>
 (Y_ (b,[],(λx=>(JU x).bind λr=>some r))).bind λb=>
 bif (E1 (a.2.length:Int) 0)then
  (cat? b [126]).bind λc=>
  some c
 else
  (cat? b [33]).bind λb=>
  (Z0 (a.2,[33],(λx=>(gY x).bind λr=>some r))).bind λa=>
  (cat? b a).bind λa=>
  some a
def ND:Int×DX×DX×Bool->Option DX:=λa=>
 (JU a.1).bind λb=>
 (P3 a.2.1).bind λc=>
 (cat? b c).bind λb=>
 (YU a).bind λa=>
 (P3 a).bind λa=>
 (cat? b a).bind λa=>
 some a
def gZ:Int->Option DX:=λa=>
 (JU a).bind λa=>
 (cat? [49] a).bind λa=>
 some a
def g_:Int×(List Int)×Int×Int×Int×Int×(List DX)->Option (Int):=λa=>
 bif (decide (0<a.2.2.1))then
  some a.2.2.1
 else
  bif ((decide (0<=a.2.2.2.2.2.1))&&(decide (a.2.2.2.2.1<0)))then
   some 0
  else
   some 4
def hJ:Int->Option DX:=λa=>
 bif (decide (a<0))then
  some [48]
 else
  (JU a).bind λa=>
  (cat? [49] a).bind λa=>
  some a
def hP:DX->Option DX:=λa=>
 (J6 a).bind λb=>
 bif b.2 then
  (JU b.1).bind λb=>
  (cat? [50] b).bind λb=>
  some b
 else
  (cat? [49] a).bind λa=>
  (cat? a [32]).bind λa=>
  some a
def hU:G7×DX×Bool->Option (G7×DX):=λ(a,b,c)=>
 bif c then
  (JU a.2.2.2.2.2.1).bind λc=>
  (cat? [48] c).bind λc=>
  (cat? b c).bind λc=>
  some (a,c)
 else
  (cat? b [49]).bind λb=>
  some (a,b)
def NE:Int×(List Int)×Int×Int×Int×Int×(List DX)->Option DX:=λa=>
 (JU a.1).bind λb=>
 (YW a.2.1).bind λc=>
 (Y_ (c,[48],(λx=>(gZ x).bind λr=>some r))).bind λc=>
 (cat? b c).bind λb=>
 (g_ a).bind λc=>
 (strconv_Itoa c).bind λc=>
 (JU a.2.2.2.1).bind λd=>
 (cat? c d).bind λc=>
 (hJ a.2.2.2.2.1).bind λd=>
 (cat? c d).bind λc=>
 (cat? b c).bind λb=>
 (hU (a,b,(decide (0<=a.2.2.2.2.2.1)))).bind λa=>
 bif (E1 (a.1.2.2.2.2.2.2.length:Int) 0)then
  (cat? a.2 [48]).bind λb=>
  some b
 else
  (cat? a.2 [49]).bind λb=>
  (Z0 (a.1.2.2.2.2.2.2,[48],(λx=>(hP x).bind λr=>some r))).bind λa=>
  (cat? b a).bind λa=>
  some a
def ZA:Unit->Option (List DX):=λ_=>
 some [[97,108,112,104,97],[98,101,116,97],[109,105,108,101,115,116,111,110,101],[114,99],[115,110,97,112,115,104,111,116]]
def hY:Rd ((List DX)×DX×Int×Int) I0:=λa (b,c,d,e)=>
 bif (decide (e<d))then
  (at? b e).bind λf=>
  bif (E5 c f)then
   some (.inr e)
  else
   a (b,c,d,(i64.wrap (e+1)))
 else
  some (.inl ())
def hZ:=E8 hY fuel
def P4:(List DX)×DX->Option (Int):=λ(a,b)=>
 (hZ (a,b,(a.length:Int),0)).bind λa=>
 match a with
 | .inl _=>
  some (-1:Int)
 | .inr a=>
  some a
def SD:(List DX)×DX->Option (Bool):=λ(a,b)=>
 (P4 (a,b)).bind λa=>
 some (decide (0<=a))
def V6:Bool×DX×Int->Option (Bool):=λa=>
 (bif a.1 then ZA ()else some []).bind λb=>
 (bif a.1 then SD (b,a.2.1)else some false).bind λb=>
 some (a.1&&b)
def ZB:Bool×DX×Int->Option DX:=λa=>
 bif (!a.1)then
  (JU a.2.2).bind λb=>
  (cat? [56] b).bind λb=>
  some b
 else
  (V6 a).bind λb=>
  bif b then
   (ZA ()).bind λb=>
   (P4 (b,a.2.1)).bind λb=>
   (strconv_Itoa b).bind λb=>
   some b
  else
   bif (E5 a.2.1 [115,112])then
    some [54]
   else
    (cat? [55] a.2.1).bind λa=>
    (cat? a [32]).bind λa=>
    some a
def A3v:Rd (DX×Int×H4×Int×Int) DX:=λa (b,c,d,e,f)=>
 bif (decide (f<e))then
  (at? d f).bind λg=>
  (SB g).bind λh=>
  bif h then
   a (b,(i64.wrap (c+1)),d,e,(i64.wrap (f+1)))
  else
   (V6 g).bind λh=>
   bif h then
    (strconv_Itoa (i64.wrap (100+c))).bind λh=>
    (cat? [49] h).bind λh=>
    (ZB g).bind λi=>
    (cat? h i).bind λh=>
    (cat? b h).bind λh=>
    a (h,0,d,e,(i64.wrap (f+1)))
   else
    (strconv_Itoa (i64.wrap (900-c))).bind λc=>
    (cat? [51] c).bind λc=>
    (ZB g).bind λg=>
    (cat? c g).bind λc=>
    (cat? b c).bind λc=>
    a (c,0,d,e,(i64.wrap (f+1)))
 else
  some b
def tB:=E8 A3v fuel
def NF:List L1->Option DX:=λa=>
 (tB ([],0,a,(a.length:Int),0)).bind λa=>
 (cat? a [50]).bind λa=>
 some a
def NG:Int->Option DX:=λa=>
 (JU a).bind λa=>
 some a
def QI:Int×GM->Option (DX×Int):=λ(a,b)=>
 bif (!b.1)then
  bif (b.2.1||(!(E5 b.2.2 [])))then
   some ([],2)
  else
   some ([],0)
 else
  (IY (a,b.2.2)).bind λa=>
  bif (!(E1 a.2 0))then
   some ([],a.2)
  else
   ((λz=>Sum.casesOn (motive:=λ_=>Option DX) z (λx=>(YS x).bind λr=>some r) (λz=>Sum.casesOn (motive:=λ_=>Option DX) z (λx=>(YV x).bind λr=>some r) (λz=>Sum.casesOn (motive:=λ_=>Option DX) z (λx=>(YX x).bind λr=>some r) (λz=>Sum.casesOn (motive:=λ_=>Option DX) z (λx=>(YY x).bind λr=>some r) (λz=>Sum.casesOn (motive:=λ_=>Option DX) z (λx=>(YZ x).bind λr=>some r) (λ_=>none)))))) a.1).bind λc=>
   bif (!(E5 c b.2.2))then
    some ([],2)
   else
    ((λz=>Sum.casesOn (motive:=λ_=>Option DX) z (λx=>(NC x).bind λr=>some r) (λz=>Sum.casesOn (motive:=λ_=>Option DX) z (λx=>(ND x).bind λr=>some r) (λz=>Sum.casesOn (motive:=λ_=>Option DX) z (λx=>(NE x).bind λr=>some r) (λz=>Sum.casesOn (motive:=λ_=>Option DX) z (λx=>(NF x).bind λr=>some r) (λz=>Sum.casesOn (motive:=λ_=>Option DX) z (λx=>(NG x).bind λr=>some r) (λ_=>none)))))) a.1).bind λa=>
    some (a,0)
def ZC:GM×DX->Option L2:=λ(a,b)=>
 bif (!a.1)then
  some ((-1:Int),([],(false,[])))
 else
  some (0,(b,((!a.2.1),a.2.2)))
def ZD:GM×DX->Option L2:=λ(a,b)=>
 bif (!a.1)then
  some (1,([],(false,[])))
 else
  some (0,(b,(a.2.1,a.2.2)))
def iA:Int->Option (Bool):=λa=>
 some (!(E1 a a))
def ME:Int×Int->Option (Int):=λ(a,b)=>
 (iA a).bind λc=>
 (iA b).bind λd=>
 bif c then
  bif d then
   some 0
  else
   some (-1:Int)
 else
  bif d then
   some 1
  else
   bif (decide (a<b))then
    some (-1:Int)
   else
    bif (decide (b<a))then
     some 1
    else
     some 0
def MF:L2×L2->Option (Int):=λ(a,b)=>
 bif ((!(E1 a.1 b.1))||(!(E1 a.1 0)))then
  (ME (a.1,b.1)).bind λc=>
  some c
 else
  (LN (a.2.1,b.2.1)).bind λc=>
  bif ((!(E1 c 0))||(KK a.2.2.1 b.2.2.1))then
   some c
  else
   bif a.2.2.1 then
    some 1
   else
    some (-1:Int)
def iB:(GM×GM)×(List FS)->Option (Int):=λ(a,b)=>
 bif (((!a.1.1)||(!a.1.2.1))||(a.2.1&&((!a.2.2.1)||(E5 a.2.2.2 [57,57,57,57,57,57,57,57,57,57,57,57,57,57,57,57,57,57]))))then
  some 2
 else
  bif (decide (0<(b.length:Int)))then
   (J6 a.1.2.2).bind λa=>
   (at? b (i64.wrap ((b.length:Int)-1))).bind λb=>
   (J6 b.2.2.2.2).bind λb=>
   bif (decide (a.1<(i64.wrap (b.1+2))))then
    some 10
   else
    some 0
  else
   some 0
def A3w:Rd ((Int×FQ)×(List FS)×FQ×Int×Int) (Sum (List FS) ((List FS)×Int)):=λa (b,c,d,e,f)=>
 bif (decide (f<e))then
  (at? d f).bind λg=>
  (QI (b.1,g.1)).bind λh=>
  bif (!(E1 h.2 0))then
   some (.inr ([],h.2))
  else
   (QI (b.1,g.2)).bind λi=>
   bif (!(E1 i.2 0))then
    some (.inr ([],i.2))
   else
    (ZC (g.1,h.1)).bind λh=>
    (ZD (g.2,i.1)).bind λi=>
    (MF (h,i)).bind λj=>
    (bif ((!(decide (0<=j)))&&(decide (0<(c.length:Int))))then at? c (i64.wrap ((c.length:Int)-1))else some ((0,([],(false,[]))),(0,([],(false,[]))))).bind λk=>
    (bif ((!(decide (0<=j)))&&(decide (0<(c.length:Int))))then MF (h,k.2)else some 0).bind λk=>
    bif ((decide (0<=j))||((decide (0<(c.length:Int)))&&(decide (k<=0))))then
     some (.inr ([],10))
    else
     bif (E1 b.1 5)then
      (iB (g,c)).bind λg=>
      bif (!(E1 g 0))then
       some (.inr ([],g))
      else
       (app? 192 c [(h,i)]).bind λg=>
       a (b,g,d,e,(i64.wrap (f+1)))
     else
      (app? 192 c [(h,i)]).bind λg=>
      a (b,g,d,e,(i64.wrap (f+1)))
 else
  some (.inl c)
def tC:=E8 A3w fuel
def ZE:Int×FQ->Option ((List FS)×Int):=λa=>
 bif ((decide (a.1<1))||(decide (5<a.1)))then
  some ([],7)
 else
  bif (decide (200<(a.2.length:Int)))then
   some ([],3)
  else
   (tC (a,[],a.2,(a.2.length:Int),0)).bind λa=>
   match a with
   | .inl a=>
    some (a,0)
   | .inr a=>
    some (a.1,a.2)
def V7:Int×FQ->Option (Int):=λa=>
 (ZE a).bind λa=>
 some a.2
def tD:Rd (H8×H8×Int×Int) I0:=λa (b,c,d,e)=>
 bif (decide (e<d))then
  (at? c e).bind λf=>
  (NB f.1).bind λg=>
  bif (!g.2)then
   some (.inr 8)
  else
   (V7 f.2.1).bind λh=>
   bif (!(E1 h 0))then
    some (.inr h)
   else
    bif (!(E1 f.2.1.1 g.1))then
     some (.inr 7)
    else
     bif ((decide (f.2.2<1))||(decide (4<f.2.2)))then
      some (.inr 9)
     else
      (bif (decide (0<e))then at? b (i64.wrap (e-1))else some ([],((0,[]),0))).bind λg=>
      bif ((decide (0<e))&&(Op.bytesLess f.1 g.1||E5 f.1 g.1))then
       some (.inr 10)
      else
       a (b,c,d,(i64.wrap (e+1)))
 else
  some (.inl ())
def A3x:=E8 tD fuel
def iC:List QB->Option (Int):=λa=>
 bif (decide (12<(a.length:Int)))then
  some 3
 else
  (A3x (a,a,(a.length:Int),0)).bind λa=>
  match a with
  | .inl _=>
   some 0
  | .inr a=>
   some a
def tE:QB×(Option (DX×DX×H8×Bool))->Option (Bool):=λ(a,b)=>
 (b).bind λb=>
 some (E5 a.1 b.1)
def tF:Rd (H8×(QB->Option Bool)×Int×Int) I0:=λa (b,c,d,e)=>
 bif (decide (e<d))then
  (at? b e).bind λf=>
  (c f).bind λf=>
  bif f then
   some (.inr e)
  else
   a (b,c,d,(i64.wrap (e+1)))
 else
  some (.inl ())
def tG:=E8 tF fuel
def iD:H8×(QB->Option Bool)->Option (Int):=λ(a,b)=>
 (tG (a,b,(a.length:Int),0)).bind λa=>
 match a with
 | .inl _=>
  some (-1:Int)
 | .inr a=>
  some a
def iE:H8×(QB->Option Bool)->Option (Bool):=λ(a,b)=>
 (iD (a,b)).bind λa=>
 some (decide (0<=a))
def QJ:Int×DX×DX->Option (HC×HC×Int):=λ(a,b,c)=>
 (IY (a,b)).bind λb=>
 bif (!(E1 b.2 0))then
  some ((Sum.inr (Sum.inr (Sum.inr (Sum.inr (Sum.inr ()))))),(Sum.inr (Sum.inr (Sum.inr (Sum.inr (Sum.inr ()))))),b.2)
 else
  (IY (a,c)).bind λa=>
  some (b.1,a.1,a.2)
def ZF:Int×DX×DX->Option (Int×Int):=λ(a,b,c)=>
 (QJ (a,b,c)).bind λa=>
 bif (!(E1 a.2.2 0))then
  some (0,a.2.2)
 else
  ((λz=>Sum.casesOn (motive:=λ_=>Option DX) z (λx=>(NC x).bind λr=>some r) (λz=>Sum.casesOn (motive:=λ_=>Option DX) z (λx=>(ND x).bind λr=>some r) (λz=>Sum.casesOn (motive:=λ_=>Option DX) z (λx=>(NE x).bind λr=>some r) (λz=>Sum.casesOn (motive:=λ_=>Option DX) z (λx=>(NF x).bind λr=>some r) (λz=>Sum.casesOn (motive:=λ_=>Option DX) z (λx=>(NG x).bind λr=>some r) (λ_=>none)))))) a.1).bind λb=>
  ((λz=>Sum.casesOn (motive:=λ_=>Option DX) z (λx=>(NC x).bind λr=>some r) (λz=>Sum.casesOn (motive:=λ_=>Option DX) z (λx=>(ND x).bind λr=>some r) (λz=>Sum.casesOn (motive:=λ_=>Option DX) z (λx=>(NE x).bind λr=>some r) (λz=>Sum.casesOn (motive:=λ_=>Option DX) z (λx=>(NF x).bind λr=>some r) (λz=>Sum.casesOn (motive:=λ_=>Option DX) z (λx=>(NG x).bind λr=>some r) (λ_=>none)))))) a.2.1).bind λa=>
  (LN (b,a)).bind λa=>
  some (a,0)
def iF:(DX×DX×H8×Bool)×KB->Option (Int):=λ(a,b)=>
 (SC (a.1,a.2.1)).bind λc=>
 bif (!(E1 c.2 0))then
  some c.2
 else
  (iC a.2.2.1).bind λd=>
  bif (!(E1 d 0))then
   some d
  else
   (iE (a.2.2.1,(λx=>(tE (x,(some a))).bind λr=>some r))).bind λd=>
   bif d then
    some 2
   else
    bif (E1 (b.length:Int) 0)then
     some 0
    else
     (at? b (i64.wrap ((b.length:Int)-1))).bind λb=>
     bif (Op.bytesLess a.1 b.1)then
      some 10
     else
      bif (E5 a.1 b.1)then
       (ZF (c.1,b.2.1,a.2.1)).bind λa=>
       bif (decide (0<=a.1))then
        some 10
       else
        some 0
      else
       some 0
def tH:Rd (KB×Int×Int×KB×Int×Int) I0:=λa (b,c,d,e,f,g)=>
 bif (decide (g<f))then
  (at? e g).bind λh=>
  (cut? b 0 g).bind λi=>
  (iF (h,i)).bind λi=>
  bif (!(E1 i 0))then
   some (.inr i)
  else
   (bif (!(E1 g 0))then at? b (i64.wrap (g-1))else some ([],([],([],false)))).bind λi=>
   bif ((E1 g 0)||(!(E5 i.1 h.1)))then
    bif ((decide ((8:Int)<1))||(decide (12<(i64.wrap (c+1)))))then
     some (.inr 3)
    else
     a (b,(i64.wrap (c+1)),1,e,f,(i64.wrap (g+1)))
   else
    bif ((decide (8<(i64.wrap (d+1))))||(decide (12<c)))then
     some (.inr 3)
    else
     a (b,c,(i64.wrap (d+1)),e,f,(i64.wrap (g+1)))
 else
  some (.inl ())
def A3y:=E8 tH fuel
def V8:List (DX×DX×H8×Bool)->Option (Int):=λa=>
 (A3y (a,0,0,a,(a.length:Int),0)).bind λa=>
 match a with
 | .inl _=>
  some 0
 | .inr a=>
  some a
def tI:Rd (E3×E3×Int×Int) I0:=λa (b,c,d,e)=>
 bif (decide (e<d))then
  (at? c e).bind λf=>
  (SC (f.1,f.2)).bind λg=>
  bif (!(E1 g.2 0))then
   some (.inr g.2)
  else
   (bif (decide (0<e))then at? b (i64.wrap (e-1))else some ([],[])).bind λg=>
   bif ((decide (0<e))&&(Op.bytesLess f.1 g.1||E5 f.1 g.1))then
    some (.inr 10)
   else
    a (b,c,d,(i64.wrap (e+1)))
 else
  some (.inl ())
def A3z:=E8 tI fuel
def iG:List (DX×DX)->Option (Int):=λa=>
 bif (decide (12<(a.length:Int)))then
  some 3
 else
  (A3z (a,a,(a.length:Int),0)).bind λa=>
  match a with
  | .inl _=>
   some 0
  | .inr a=>
   some a
def tJ:(DX×DX)×(Option DX)->Option (Bool):=λ(a,b)=>
 (b).bind λb=>
 some (E5 a.1 b)
def tK:Rd (E3×((DX×DX)->Option Bool)×Int×Int) I0:=λa (b,c,d,e)=>
 bif (decide (e<d))then
  (at? b e).bind λf=>
  (c f).bind λf=>
  bif f then
   some (.inr e)
  else
   a (b,c,d,(i64.wrap (e+1)))
 else
  some (.inl ())
def tL:=E8 tK fuel
def ZG:E3×((DX×DX)->Option Bool)->Option (Int):=λ(a,b)=>
 (tL (a,b,(a.length:Int),0)).bind λa=>
 match a with
 | .inl _=>
  some (-1:Int)
 | .inr a=>
  some a
def MG:E3×DX->Option (DX×Bool):=λ(a,b)=>
 (ZG (a,(λx=>(tJ (x,(some b))).bind λr=>some r))).bind λb=>
 bif (decide (b<0))then
  some ([],false)
 else
  (at? a b).bind λa=>
  some (a.2,true)
def A40:Rd F9 LL:=λa (b,c,d)=>
 bif (decide (d<c))then
  (at? b d).bind λe=>
  bif (!(((((((decide (97<=(e.toNat:Int)))&&(decide ((e.toNat:Int)<=122)))||((decide (65<=(e.toNat:Int)))&&(decide ((e.toNat:Int)<=90))))||((decide (48<=(e.toNat:Int)))&&(decide ((e.toNat:Int)<=57))))||(E1 (e.toNat:Int) 46))||(E1 (e.toNat:Int) 45))||(E1 (e.toNat:Int) 95)))then
   some (.inr false)
  else
   a (b,c,(i64.wrap (d+1)))
 else
  some (.inl ())
def tM:=E8 A40 fuel
def V9:DX->Option (Bool):=λa=>
 (tM (a,(a.length:Int),0)).bind λb=>
 match b with
 | .inl _=>
  some ((!(E5 a []))&&(decide ((a.length:Int)<=60)))
 | .inr a=>
  some a
def A41:Rd (IW×(List DX)×Int×Int) I0:=λa (b,c,d,e)=>
 bif (decide (e<d))then
  (at? c e).bind λf=>
  (V9 f).bind λg=>
  bif (!g)then
   some (.inr 8)
  else
   bif (E5 f b.1)then
    some (.inr 5)
   else
    (bif (decide (0<e))then at? b.2.1 (i64.wrap (e-1))else some []).bind λg=>
    bif ((decide (0<e))&&(Op.bytesLess f g||E5 f g))then
     some (.inr 10)
    else
     a (b,c,d,(i64.wrap (e+1)))
 else
  some (.inl ())
def tN:=E8 A41 fuel
def iH:DX×(List DX)×DX×Int×Bool×DX×(List GW)->Option (Int):=λa=>
 bif (decide (20<(a.2.1.length:Int)))then
  some 3
 else
  (tN (a,a.2.1,(a.2.1.length:Int),0)).bind λa=>
  match a with
  | .inl _=>
   some 0
  | .inr a=>
   some a
def iI:Unit->Option (List MA):=λ_=>
 let a:=(FK E1 76 22 (FK E1 72 56 []))
 some [(FK E1 80 20 (FK E1 76 55 (FK E1 65 62 (FK E1 78 85 [])))),(FK E1 72 44 (FK E1 76 77 [])),(FK E1 72 27 (FK E1 76 62 (FK E1 78 85 []))),(FK E1 78 0 a),(FK E1 78 0 a),(FK E1 78 0 a)]
def tO:Rd (DX×(List Int)×(List MA)×Int) (Sum (List Int) (Int×Int)):=λa (b,c,d,e)=>
 bif (decide (e<6))then
  (at? d e).bind λf=>
  (at? b e).bind λg=>
  bif (!(FM E1 (g.toNat:Int) f).isSome)then
   some (.inr (0,7))
  else
   (in? 6 e).bind λ_=>
   a (b,(c.set e.toNat ((FM E1 (g.toNat:Int) f).getD 0)),d,(i64.wrap (e+1)))
 else
  some (.inl c)
def iJ:=E8 tO fuel
def OE:DX->Option (Int×Int):=λa=>
 (iI ()).bind λb=>
 bif (!(E1 (a.length:Int) 6))then
  some (0,2)
 else
  (iJ (a,(List.replicate 6 0),b,0)).bind λa=>
  match a with
  | .inl a=>
   let b:=(i64.wrap ((i64.wrap ((i64.wrap (100-(a.getD 3 0)))*(i64.wrap (100-(a.getD 4 0)))))*(i64.wrap (100-(a.getD 5 0)))))
   bif (E1 (i64.wrap (1000000-b)) 0)then
    some (0,0)
   else
    (div? i64 (i64.wrap ((i64.wrap ((i64.wrap (10*(i64.wrap ((i64.wrap (642*(i64.wrap (1000000-b))))+(i64.wrap ((i64.wrap ((i64.wrap (822*(a.getD 0 0)))*(a.getD 1 0)))*(a.getD 2 0)))))))+100000000))-1)) 100000000).bind λa=>
    some ((OW 100 a),0)
  | .inr a=>
   some (a.1,a.2)
def iK:DX->Option (Bool):=λa=>
 (MD a).bind λb=>
 bif (!(E1 b.2.2 0))then
  some false
 else
  (JT b.1).bind λb=>
  some ((E1 b.2 0)&&(E5 b.1 a))
def iL:Sum KC (Sum JQ (Sum G7 (Sum H4 (Sum Int Unit))))->Option (DX×Int):=λa=>
 ((λz=>Sum.casesOn (motive:=λ_=>Option DX) z (λx=>(YS x).bind λr=>some r) (λz=>Sum.casesOn (motive:=λ_=>Option DX) z (λx=>(YV x).bind λr=>some r) (λz=>Sum.casesOn (motive:=λ_=>Option DX) z (λx=>(YX x).bind λr=>some r) (λz=>Sum.casesOn (motive:=λ_=>Option DX) z (λx=>(YY x).bind λr=>some r) (λz=>Sum.casesOn (motive:=λ_=>Option DX) z (λx=>(YZ x).bind λr=>some r) (λ_=>none)))))) a).bind λa=>
 bif (decide (100<(a.length:Int)))then
  some ([],3)
 else
  some (a,0)
def SE:Int×DX->Option (DX×Int):=λ(a,b)=>
 (IY (a,b)).bind λa=>
 bif (!(E1 a.2 0))then
  some ([],a.2)
 else
  (iL a.1).bind λa=>
  some (a.1,a.2)
def A42:Rd (GW×J4×Int×Int) I0:=λa (b,c,d,e)=>
 bif (decide (e<d))then
  (at? c e).bind λf=>
  bif ((decide (f.1<1))||(decide (3<f.1)))then
   some (.inr 7)
  else
   bif (E5 f.2 [])then
    bif (!(E1 f.1 1))then
     some (.inr 2)
    else
     a (b,c,d,(i64.wrap (e+1)))
   else
    (SE (b.2.1,f.2)).bind λf=>
    bif (!(E1 f.2 0))then
     some (.inr f.2)
    else
     a (b,c,d,(i64.wrap (e+1)))
 else
  some (.inl ())
def tP:=E8 A42 fuel
def iM:DX×Int×J4×(List DX)×(List DX)->Option (Int):=λa=>
 bif (decide (100<(a.2.2.1.length:Int)))then
  some 3
 else
  (tP (a,a.2.2.1,(a.2.2.1.length:Int),0)).bind λa=>
  match a with
  | .inl _=>
   some 0
  | .inr a=>
   some a
def A43:Rd (DX×Bool×Int×Int) (Bool):=λa (b,c,d,e)=>
 bif (decide (e<d))then
  (bif (!c)then at? b e else some 0).bind λf=>
  (bif (!(c||(decide ((f.toNat:Int)<33))))then at? b e else some 0).bind λg=>
  a (b,((c||(decide ((f.toNat:Int)<33)))||(decide (126<(g.toNat:Int)))),d,(i64.wrap (e+1)))
 else
  some c
def tQ:=E8 A43 fuel
def A44:Rd ((List DX)×(List DX)×Int×Int) I0:=λa (b,c,d,e)=>
 bif (decide (e<d))then
  (at? c e).bind λf=>
  (tQ (f,((E5 f [])||(decide (200<(f.length:Int)))),(f.length:Int),0)).bind λg=>
  bif g then
   some (.inr 8)
  else
   (bif (decide (0<e))then at? b (i64.wrap (e-1))else some []).bind λg=>
   bif ((decide (0<e))&&(Op.bytesLess f g||E5 f g))then
    some (.inr 10)
   else
    a (b,c,d,(i64.wrap (e+1)))
 else
  some (.inl ())
def tR:=E8 A44 fuel
def iN:List DX->Option (Int):=λa=>
 bif (decide (200<(a.length:Int)))then
  some 3
 else
  (tR (a,a,(a.length:Int),0)).bind λa=>
  match a with
  | .inl _=>
   some 0
  | .inr a=>
   some a
def A45:Rd (GW×(List DX)×Int×Int) (Sum GW (Int)):=λa (b,c,d,e)=>
 bif (decide (e<d))then
  (at? c e).bind λf=>
  (SE (b.2.1,f)).bind λf=>
  bif (!(E1 f.2 0))then
   some (.inr f.2)
  else
   a (b,c,d,(i64.wrap (e+1)))
 else
  some (.inl b)
def tS:=E8 A45 fuel
def iO:DX×Int×J4×(List DX)×(List DX)->Option (Int):=λa=>
 (iK a.1).bind λb=>
 bif (!b)then
  some 8
 else
  bif ((decide (a.2.1<1))||(decide (5<a.2.1)))then
   some 7
  else
   (iM a).bind λb=>
   bif (!(E1 b 0))then
    some b
   else
    bif (decide (500<(a.2.2.2.1.length:Int)))then
     some 3
    else
     (tS (a,a.2.2.2.1,(a.2.2.2.1.length:Int),0)).bind λa=>
     match a with
     | .inl a=>
      (iN a.2.2.2.2).bind λa=>
      some a
     | .inr a=>
      some a
def iP:Unit->Option (List Int):=λ_=>
 some [0,1,0,2]
def VA:Int×DX->Option (DX×Int):=λ(a,b)=>
 (IY (a,b)).bind λa=>
 bif (!(E1 a.2 0))then
  some ([],a.2)
 else
  ((λz=>Sum.casesOn (motive:=λ_=>Option DX) z (λx=>(NC x).bind λr=>some r) (λz=>Sum.casesOn (motive:=λ_=>Option DX) z (λx=>(ND x).bind λr=>some r) (λz=>Sum.casesOn (motive:=λ_=>Option DX) z (λx=>(NE x).bind λr=>some r) (λz=>Sum.casesOn (motive:=λ_=>Option DX) z (λx=>(NF x).bind λr=>some r) (λz=>Sum.casesOn (motive:=λ_=>Option DX) z (λx=>(NG x).bind λr=>some r) (λ_=>none)))))) a.1).bind λa=>
  some (a,0)
def A46:Rd ((List E6)×Int×FX×Int) (List E6):=λa (b,c,d,e)=>
 (bif (decide (c<e))then in? b.length e else some ()).bind λ_=>
 (bif (decide (c<e))then in? b.length (i64.wrap (e-1))else some ()).bind λ_=>
 (bif (decide (c<e))then d ((b.getD e.toNat (0,([],([],0)))),(b.getD ((i64.wrap (e-1)).toNat) (0,([],([],0)))))else some 0).bind λf=>
 bif ((decide (c<e))&&(decide (f<0)))then
  (in? b.length (i64.wrap (e-1))).bind λ_=>
  let f:=(b.getD ((i64.wrap (e-1)).toNat) (0,([],([],0))))
  (in? b.length e).bind λ_=>
  (in? b.length e).bind λ_=>
  (in? (b.set e.toNat f).length (i64.wrap (e-1))).bind λ_=>
  a (((b.set e.toNat f).set ((i64.wrap (e-1)).toNat) (b.getD e.toNat (0,([],([],0))))),c,d,(i64.wrap (e-1)))
 else
  some b
def tT:=E8 A46 fuel
def A47:Rd ((List E6)×Int×Int×FX×Int) (List E6):=λa (b,c,d,e,f)=>
 bif (decide (f<d))then
  (tT (b,c,e,f)).bind λg=>
  a (g,c,d,e,(i64.wrap (f+1)))
 else
  some b
def tU:=E8 A47 fuel
def ZH:(List E6)×Int×Int×FX->Option (List E6):=λ(a,b,c,d)=>
 (tU (a,b,c,d,(i64.wrap (b+1)))).bind λa=>
 some a
def A48:Rd ((List E6)×Int×Int×Int×Int) (List E6):=λa (b,c,d,e,f)=>
 bif (decide (f<e))then
  (in? b.length (i64.wrap (d+f))).bind λ_=>
  let g:=(b.getD ((i64.wrap (d+f)).toNat) (0,([],([],0))))
  (in? b.length (i64.wrap (c+f))).bind λ_=>
  (in? b.length (i64.wrap (c+f))).bind λ_=>
  (in? (b.set ((i64.wrap (c+f)).toNat) g).length (i64.wrap (d+f))).bind λ_=>
  a (((b.set ((i64.wrap (c+f)).toNat) g).set ((i64.wrap (d+f)).toNat) (b.getD ((i64.wrap (c+f)).toNat) (0,([],([],0))))),c,d,e,(i64.wrap (f+1)))
 else
  some b
def tV:=E8 A48 fuel
def VB:(List E6)×Int×Int×Int×FX->Option (List E6):=λ(a,b,c,d,_)=>
 (tV (a,b,c,d,0)).bind λa=>
 some a
def A49:Rd ((List E6)×Int×FX×Int×Int) MB:=λa (b,c,d,e,f)=>
 bif (!(E1 e f))then
  bif (decide (f<e))then
   (VB (b,(i64.wrap (c-e)),c,f,d)).bind λg=>
   a (g,c,d,(i64.wrap (e-f)),f)
  else
   (VB (b,(i64.wrap (c-e)),(i64.wrap ((i64.wrap (c+f))-e)),e,d)).bind λg=>
   a (g,c,d,e,(i64.wrap (f-e)))
 else
  some (b,e)
def tW:=E8 A49 fuel
def iQ:(List E6)×Int×Int×Int×FX->Option (List E6):=λ(a,b,c,d,e)=>
 (tW (a,c,e,(i64.wrap (c-b)),(i64.wrap (d-c)))).bind λa=>
 (VB (a.1,(i64.wrap (c-a.2)),c,a.2,e)).bind λa=>
 some a
def A4A(slf:(List E6)×Int×Int×Int×FX->Option (List E6))(a:(List E6)×Int×FX×Int×Int->Option MB):(List E6)×Int×FX×Int×Int->Option MB:=λ(b,c,d,e,f)=>
 bif (decide (e<f))then
  (shr? u64 (u64.wrap (i64.wrap (e+f))) 1).bind λg=>
  (in? b.length (i64.wrap g)).bind λ_=>
  (in? b.length c).bind λ_=>
  (d ((b.getD ((i64.wrap g).toNat) (0,([],([],0)))),(b.getD c.toNat (0,([],([],0)))))).bind λh=>
  bif (decide (h<0))then
   a (b,c,d,(i64.wrap ((i64.wrap g)+1)),f)
  else
   a (b,c,d,e,(i64.wrap g))
 else
  some (b,e)
def tX(slf:(List E6)×Int×Int×Int×FX->Option (List E6)):(List E6)×Int×FX×Int×Int->Option MB:=E8 (A4A slf) fuel
def A4B(slf:(List E6)×Int×Int×Int×FX->Option (List E6))(a:(List E6)×Int×Int->Option (List E6)):(List E6)×Int×Int->Option (List E6):=λ(b,c,d)=>
 bif (decide (d<(i64.wrap (c-1))))then
  (in? b.length (i64.wrap (d+1))).bind λ_=>
  let e:=(b.getD ((i64.wrap (d+1)).toNat) (0,([],([],0))))
  (in? b.length d).bind λ_=>
  (in? b.length d).bind λ_=>
  (in? (b.set d.toNat e).length (i64.wrap (d+1))).bind λ_=>
  a (((b.set d.toNat e).set ((i64.wrap (d+1)).toNat) (b.getD d.toNat (0,([],([],0))))),c,(i64.wrap (d+1)))
 else
  some b
def tY(slf:(List E6)×Int×Int×Int×FX->Option (List E6)):(List E6)×Int×Int->Option (List E6):=E8 (A4B slf) fuel
def A4C(slf:(List E6)×Int×Int×Int×FX->Option (List E6))(a:(List E6)×Int×FX×Int×Int->Option MB):(List E6)×Int×FX×Int×Int->Option MB:=λ(b,c,d,e,f)=>
 bif (decide (e<f))then
  (shr? u64 (u64.wrap (i64.wrap (e+f))) 1).bind λg=>
  (in? b.length c).bind λ_=>
  (in? b.length (i64.wrap g)).bind λ_=>
  (d ((b.getD c.toNat (0,([],([],0)))),(b.getD ((i64.wrap g).toNat) (0,([],([],0)))))).bind λh=>
  bif (!(decide (h<0)))then
   a (b,c,d,(i64.wrap ((i64.wrap g)+1)),f)
  else
   a (b,c,d,e,(i64.wrap g))
 else
  some (b,e)
def tZ(slf:(List E6)×Int×Int×Int×FX->Option (List E6)):(List E6)×Int×FX×Int×Int->Option MB:=E8 (A4C slf) fuel
def A4D(slf:(List E6)×Int×Int×Int×FX->Option (List E6))(a:(List E6)×Int×Int->Option (List E6)):(List E6)×Int×Int->Option (List E6):=λ(b,c,d)=>
 bif (decide (c<d))then
  (in? b.length (i64.wrap (d-1))).bind λ_=>
  let e:=(b.getD ((i64.wrap (d-1)).toNat) (0,([],([],0))))
  (in? b.length d).bind λ_=>
  (in? b.length d).bind λ_=>
  (in? (b.set d.toNat e).length (i64.wrap (d-1))).bind λ_=>
  a (((b.set d.toNat e).set ((i64.wrap (d-1)).toNat) (b.getD d.toNat (0,([],([],0))))),c,(i64.wrap (d-1)))
 else
  some b
def t_(slf:(List E6)×Int×Int×Int×FX->Option (List E6)):(List E6)×Int×Int->Option (List E6):=E8 (A4D slf) fuel
def iR(slf:(List E6)×Int×Int×Int×FX->Option (List E6)):Int×Int×Int×Int×Int×Bool->Option (Int×Int):=λ(a,b,c,d,e,f)=>
 bif f then
  some ((i64.wrap (e-c)),d)
 else
  some (a,b)
def A4E(slf:(List E6)×Int×Int×Int×FX->Option (List E6))(a:(List E6)×FX×Int×Int×Int->Option MB):(List E6)×FX×Int×Int×Int->Option MB:=λ(b,c,d,e,f)=>
 bif (decide (d<e))then
  (shr? u64 (u64.wrap (i64.wrap (d+e))) 1).bind λg=>
  (in? b.length (i64.wrap (f-(i64.wrap g)))).bind λ_=>
  (in? b.length (i64.wrap g)).bind λ_=>
  (c ((b.getD ((i64.wrap (f-(i64.wrap g))).toNat) (0,([],([],0)))),(b.getD ((i64.wrap g).toNat) (0,([],([],0)))))).bind λh=>
  bif (!(decide (h<0)))then
   a (b,c,(i64.wrap ((i64.wrap g)+1)),e,f)
  else
   a (b,c,d,(i64.wrap g),f)
 else
  some (b,d)
def u6(slf:(List E6)×Int×Int×Int×FX->Option (List E6)):(List E6)×FX×Int×Int×Int->Option MB:=E8 (A4E slf) fuel
def iS(slf:(List E6)×Int×Int×Int×FX->Option (List E6)):(List E6)×Int×FX×Int×Int×Bool->Option (List E6):=λ(a,b,c,d,e,f)=>
 bif f then
  (iQ (a,d,b,e,c)).bind λb=>
  some b
 else
  some a
def iT(slf:(List E6)×Int×Int×Int×FX->Option (List E6)):(List E6)×Int×FX×Int×Int×Bool->Option (List E6):=λ(a,b,c,d,e,f)=>
 bif f then
  (slf (a,b,e,d,c)).bind λb=>
  some b
 else
  some a
def u7(slf:(List E6)×Int×Int×Int×FX->Option (List E6)):(List E6)×Int×Int×Int×FX->Option (List E6):=λ(a,b,c,d,e)=>
 bif (E1 (i64.wrap (c-b)) 1)then
  ((tX slf) (a,b,e,c,d)).bind λf=>
  ((tY slf) (f.1,f.2,b)).bind λf=>
  some f
 else
  bif (E1 (i64.wrap (d-c)) 1)then
   ((tZ slf) (a,c,e,b,c)).bind λf=>
   ((t_ slf) (f.1,f.2,c)).bind λf=>
   some f
  else
   (shr? u64 (u64.wrap (i64.wrap (b+d))) 1).bind λf=>
   ((iR slf) (b,c,d,(i64.wrap f),(i64.wrap ((i64.wrap f)+c)),(decide ((i64.wrap f)<c)))).bind λg=>
   ((u6 slf) (a,e,g.1,g.2,(i64.wrap ((i64.wrap ((i64.wrap f)+c))-1)))).bind λa=>
   let g:=(i64.wrap ((i64.wrap ((i64.wrap f)+c))-a.2))
   ((iS slf) (a.1,c,e,a.2,g,((decide (a.2<c))&&(decide (c<g))))).bind λc=>
   ((iT slf) (c,b,e,(i64.wrap f),a.2,((decide (b<a.2))&&(decide (a.2<(i64.wrap f)))))).bind λa=>
   bif ((decide ((i64.wrap f)<g))&&(decide (g<d)))then
    (slf (a,(i64.wrap f),g,d,e)).bind λb=>
    some b
   else
    some a
def LO:Nat->(List E6)×Int×Int×Int×FX->Option (List E6)
 |0=>λ_=>none
 |n+1=>u7 (LO n)
def ZI:(List E6)×Int×Int×Int×FX->Option (List E6):=LO 100
def A4F:Rd ((List E6)×Int×FX×Int×Int×Int) MB:=λa (b,c,d,e,f,g)=>
 bif (decide (g<=c))then
  (ZH (b,f,g,d)).bind λh=>
  a (h,c,d,e,g,(i64.wrap (g+e)))
 else
  some (b,f)
def uA:=E8 A4F fuel
def A4G:Rd ((List E6)×Int×FX×Int×Int×Int) MB:=λa (b,c,d,e,f,g)=>
 bif (decide (g<=c))then
  (ZI (b,f,(i64.wrap (f+e)),g,d)).bind λh=>
  a (h,c,d,e,g,(i64.wrap (g+(i64.wrap (2*e)))))
 else
  some (b,f)
def uB:=E8 A4G fuel
def A4H:Rd ((List E6)×Int×FX×Int) (List E6):=λa (b,c,d,e)=>
 bif (decide (e<c))then
  (uB (b,c,d,e,0,(i64.wrap (2*e)))).bind λf=>
  bif (decide ((i64.wrap (f.2+e))<c))then
   (ZI (f.1,f.2,(i64.wrap (f.2+e)),c,d)).bind λg=>
   a (g,c,d,(i64.wrap (e*2)))
  else
   a (f.1,c,d,(i64.wrap (e*2)))
 else
  some b
def uC:=E8 A4H fuel
def iU:(List E6)×Int×FX->Option (List E6):=λ(a,b,c)=>
 (uA (a,b,c,20,0,20)).bind λa=>
 (ZH (a.1,a.2,b,c)).bind λa=>
 (uC (a,b,c,20)).bind λa=>
 some a
def iV:(List E6)×FX->Option (List E6):=λ(a,b)=>
 (iU (a,(a.length:Int),b)).bind λa=>
 some a
def VC:Rd (Int×(List Int)×Int×Int) I0:=λa (b,c,d,e)=>
 bif (decide (e<d))then
  (at? c e).bind λf=>
  bif (!(E1 f b))then
   some (.inr f)
  else
   a (b,c,d,(i64.wrap (e+1)))
 else
  some (.inl ())
def ZJ:=E8 VC fuel
def NH:List Int->Option (Int):=λa=>
 (ZJ (0,a,(a.length:Int),0)).bind λa=>
 match a with
 | .inl _=>
  some 0
 | .inr a=>
  some a
def iW:E6×E6->Option (Int):=λ(a,b)=>
 (LN (a.2.1,b.2.1)).bind λc=>
 (ME (a.1,b.1)).bind λa=>
 (NH [c,a]).bind λa=>
 some a
def A4I:Rd (GW×(List E6)×J4×Int×Int) (List E6):=λa (b,c,d,e,f)=>
 bif (decide (f<e))then
  (at? d f).bind λg=>
  (iP ()).bind λh=>
  (at? h g.1).bind λh=>
  bif (!(E5 g.2 []))then
   (VA (b.2.1,g.2)).bind λi=>
   (SE (b.2.1,g.2)).bind λj=>
   (app? 96 c [(h,(i.1,(j.1,g.1)))]).bind λi=>
   a (b,i,d,e,(i64.wrap (f+1)))
  else
   (app? 96 c [(h,([],([],g.1)))]).bind λg=>
   a (b,g,d,e,(i64.wrap (f+1)))
 else
  some c
def uD:=E8 A4I fuel
def iX:DX×Int×J4×(List DX)×(List DX)->Option (List E6):=λa=>
 (uD (a,[],a.2.2.1,(a.2.2.1.length:Int),0)).bind λa=>
 (iV (a,(λx=>(iW x).bind λr=>some r))).bind λa=>
 some a
def A4J:Rd (FQ×Bool×GM×(List E6)×Int×Int) (FQ×Bool×GM):=λa (b,c,d,e,f,g)=>
 bif (decide (g<f))then
  (at? e g).bind λh=>
  bif ((E1 h.2.2.2 1)&&(!c))then
   bif (!(E5 h.2.2.1 []))then
    a (b,true,(true,(true,h.2.2.1)),e,f,(i64.wrap (g+1)))
   else
    a (b,true,(false,(false,[])),e,f,(i64.wrap (g+1)))
  else
   bif ((!(E1 h.2.2.2 1))&&c)then
    (app? 144 b [(d,(true,((E1 h.2.2.2 3),h.2.2.1)))]).bind λh=>
    a (h,false,d,e,f,(i64.wrap (g+1)))
   else
    a (b,c,d,e,f,(i64.wrap (g+1)))
 else
  some (b,c,d)
def uE:=E8 A4J fuel
def iY:FQ×GM×Bool->Option FQ:=λ(a,b,c)=>
 bif c then
  (app? 144 a [(b,(false,(false,[])))]).bind λb=>
  some b
 else
  some a
def A4K:Rd (GW×FQ×(List DX)×Int×Int) FQ:=λa (b,c,d,e,f)=>
 bif (decide (f<e))then
  (at? d f).bind λg=>
  (SE (b.2.1,g)).bind λg=>
  (app? 144 c [((true,(true,g.1)),(true,(true,g.1)))]).bind λg=>
  a (b,g,d,e,(i64.wrap (f+1)))
 else
  some c
def uF:=E8 A4K fuel
def iZ:DX×Int×J4×(List DX)×(List DX)->Option FQ:=λa=>
 (iX a).bind λb=>
 (uE ([],false,(false,(false,[])),b,(b.length:Int),0)).bind λb=>
 (iY (b.1,b.2.2,b.2.1)).bind λb=>
 (uF (a,b,a.2.2.2.1,(a.2.2.2.1.length:Int),0)).bind λa=>
 some a
def P5:FS×FS->Option (Int):=λ(a,b)=>
 (MF (a.1,b.1)).bind λa=>
 some a
def i_:FS×Int×Bool->Option (FS×Int):=λ(a,b,c)=>
 bif c then
  (J6 a.1.2.2.2).bind λc=>
  bif a.1.2.2.1 then
   some (a,(i64.wrap (c.1+1)))
  else
   some (a,c.1)
 else
  some (a,b)
def j0:L2×L2->Option (Int×Int×Bool):=λa=>
 (i_ (a,0,(E1 a.1.1 0))).bind λa=>
 bif (E1 a.1.2.1 0)then
  (J6 a.1.2.2.2.2).bind λb=>
  bif (!a.1.2.2.2.1)then
   some (a.2,(i64.wrap (b.1-1)),(decide (a.2<=(i64.wrap (b.1-1)))))
  else
   some (a.2,b.1,(decide (a.2<=b.1)))
 else
  some (a.2,999999999999999999,(decide (a.2<=999999999999999999)))
def j5:Int×L2×Bool->Option L2:=λ(a,b,c)=>
 bif c then
  (JU a).bind λc=>
  (strconv_Itoa a).bind λa=>
  some (0,(c,(true,a)))
 else
  some b
def A4L:Rd ((List FS)×Int×(List FS)×Int×Int) (List FS):=λa (b,c,d,e,f)=>
 bif (decide (f<e))then
  (at? d f).bind λg=>
  (j0 g).bind λg=>
  bif (!g.2.2)then
   a (b,c,d,e,(i64.wrap (f+1)))
  else
   (j5 (g.2.1,(1,([],(false,[]))),(decide (g.2.1<999999999999999999)))).bind λh=>
   bif ((decide (0<(b.length:Int)))&&(E1 g.1 (i64.wrap (c+1))))then
    (in? b.length (i64.wrap ((b.length:Int)-1))).bind λ_=>
    a ((b.set ((i64.wrap ((b.length:Int)-1)).toNat) ((b.getD ((i64.wrap ((b.length:Int)-1)).toNat) ((0,([],(false,[]))),(0,([],(false,[]))))).1,h)),g.2.1,d,e,(i64.wrap (f+1)))
   else
    (JU g.1).bind λc=>
    (strconv_Itoa g.1).bind λi=>
    (app? 192 b [((0,(c,(false,i))),h)]).bind λc=>
    a (c,g.2.1,d,e,(i64.wrap (f+1)))
 else
  some b
def uG:=E8 A4L fuel
def j6:List FS->Option (List FS):=λa=>
 (uG ([],(-2:Int),a,(a.length:Int),0)).bind λa=>
 some a
def j7:(List FS)×Bool->Option (List FS):=λ(a,b)=>
 bif b then
  (j6 a).bind λb=>
  some b
 else
  some a
def j8:FS×(GM×GM)×Bool->Option (FS×(GM×GM)):=λ(a,b,c)=>
 bif c then
  some (a,((true,((!a.1.2.2.1),a.1.2.2.2)),b.2))
 else
  some (a,b)
def A4M:Rd ((Int×FQ)×(List FS)×Int×Int) (Int×FQ):=λa (b,c,d,e)=>
 bif (decide (e<d))then
  (at? c e).bind λf=>
  (j8 (f,((false,(false,[])),(false,(false,[]))),(E1 f.1.1 0))).bind λf=>
  bif (E1 f.1.2.1 0)then
   (app? 144 b.2 [(f.2.1,(true,(f.1.2.2.2.1,f.1.2.2.2.2)))]).bind λg=>
   a ((b.1,g),c,d,(i64.wrap (e+1)))
  else
   (app? 144 b.2 [f.2]).bind λf=>
   a ((b.1,f),c,d,(i64.wrap (e+1)))
 else
  some (b.1,b.2)
def uH:=E8 A4M fuel
def j9:Int×(List FS)->Option ((Int×FQ)×Int):=λ(a,b)=>
 (j7 (b,(E1 a 5))).bind λb=>
 bif (decide (200<(b.length:Int)))then
  some ((0,[]),3)
 else
  (uH ((a,[]),b,(b.length:Int),0)).bind λa=>
  some ((a.1,a.2),0)
def A4N:Rd (Int×(Int×FQ)×(List FS)×FQ×Int×Int) (Sum ((Int×FQ)×(List FS)) ((Int×FQ)×Int)):=λa (b,c,d,e,f,g)=>
 bif (decide (g<f))then
  (at? e g).bind λh=>
  (QI (b,h.1)).bind λi=>
  bif (!(E1 i.2 0))then
   some (.inr ((0,[]),i.2))
  else
   (QI (b,h.2)).bind λj=>
   bif (!(E1 j.2 0))then
    some (.inr ((0,[]),j.2))
   else
    (ZC (h.1,i.1)).bind λi=>
    (ZD (h.2,j.1)).bind λh=>
    (MF (i,h)).bind λj=>
    bif (decide (j<0))then
     (app? 192 d [(i,h)]).bind λh=>
     a (b,c,h,e,f,(i64.wrap (g+1)))
    else
     a (b,c,d,e,f,(i64.wrap (g+1)))
 else
  some (.inl (c,d))
def uI:=E8 A4N fuel
def A4O:Rd ((List FS)×(List FS)×Int×Int) (List FS):=λa (b,c,d,e)=>
 bif (decide (e<d))then
  (in? c.length e).bind λ_=>
  let f:=(c.getD e.toNat ((0,([],(false,[]))),(0,([],(false,[])))))
  (bif (!(E1 (b.length:Int) 0))then in? b.length (i64.wrap ((b.length:Int)-1))else some ()).bind λ_=>
  (bif (!(E1 (b.length:Int) 0))then MF (((b.getD ((i64.wrap ((b.length:Int)-1)).toNat) ((0,([],(false,[]))),(0,([],(false,[]))))).2),f.1)else some 0).bind λg=>
  bif ((E1 (b.length:Int) 0)||(decide (g<0)))then
   (app? 192 b [f]).bind λg=>
   a (g,c,d,(i64.wrap (e+1)))
  else
   (in? b.length (i64.wrap ((b.length:Int)-1))).bind λ_=>
   (MF (((b.getD ((i64.wrap ((b.length:Int)-1)).toNat) ((0,([],(false,[]))),(0,([],(false,[]))))).2),f.2)).bind λg=>
   bif (decide (g<0))then
    (in? b.length (i64.wrap ((b.length:Int)-1))).bind λ_=>
    a ((b.set ((i64.wrap ((b.length:Int)-1)).toNat) ((b.getD ((i64.wrap ((b.length:Int)-1)).toNat) ((0,([],(false,[]))),(0,([],(false,[]))))).1,f.2)),c,d,(i64.wrap (e+1)))
   else
    a (b,c,d,(i64.wrap (e+1)))
 else
  some b
def uJ:=E8 A4O fuel
def jA:Int×FQ->Option ((Int×FQ)×Int):=λ(a,b)=>
 (uI (a,(0,[]),[],b,(b.length:Int),0)).bind λb=>
 match b with
 | .inl b=>
  (rD (b.2,(λx=>(P5 x).bind λr=>some r))).bind λb=>
  (uJ ([],b,(b.length:Int),0)).bind λb=>
  (j9 (a,b)).bind λa=>
  some (a.1,a.2)
 | .inr a=>
  some (a.1,a.2)
def jB:DX×Int×J4×(List DX)×(List DX)->Option ((Int×FQ)×Int):=λa=>
 (iO a).bind λb=>
 bif (!(E1 b 0))then
  some ((0,[]),b)
 else
  (iZ a).bind λb=>
  (jA (a.2.1,b)).bind λa=>
  some (a.1,a.2)
def VD:IW×Bool->Option (Sum IW (JR×Int)):=λ(a,b)=>
 bif b then
  (OE a.2.2.2.2.2.1).bind λb=>
  bif (!(E1 b.2 0))then
   some (.inr ([],b.2))
  else
   some (.inl a)
 else
  some (.inl a)
def uK:Rd (JR×(List GW)×Int×Int) (Sum JR (JR×Int)):=λa (b,c,d,e)=>
 bif (decide (e<d))then
  (at? c e).bind λf=>
  (jB f).bind λf=>
  bif (!(E1 f.2 0))then
   some (.inr ([],f.2))
  else
   (app? 48 b [f.1]).bind λf=>
   a (f,c,d,(i64.wrap (e+1)))
 else
  some (.inl b)
def VE:=E8 uK fuel
def MH:DX×(List DX)×DX×Int×Bool×DX×(List GW)->Option (JR×Int):=λa=>
 (V9 a.1).bind λb=>
 bif (!b)then
  some ([],8)
 else
  (iH a).bind λb=>
  bif (!(E1 b 0))then
   some ([],b)
  else
   (V9 a.2.2.1).bind λb=>
   bif (!b)then
    some ([],8)
   else
    bif ((decide (a.2.2.2.1<0))||(decide (1000000<a.2.2.2.1)))then
     some ([],9)
    else
     (VD (a,(!(E5 a.2.2.2.2.2.1 [])))).bind λa=>
     match a with
     | .inl a=>
      bif (decide (50<(a.2.2.2.2.2.2.length:Int)))then
       some ([],3)
      else
       (VE ([],a.2.2.2.2.2.2,(a.2.2.2.2.2.2.length:Int),0)).bind λa=>
       match a with
       | .inl a=>
        some (a,0)
       | .inr a=>
        some (a.1,a.2)
     | .inr a=>
      some (a.1,a.2)
def SF:DX×(List DX)×DX×Int×Bool×DX×(List GW)->Option (Int):=λa=>
 (MH a).bind λa=>
 some a.2
def A4P:Rd (S1×(List IW)×Int×Int) I0:=λa (b,c,d,e)=>
 bif (decide (e<d))then
  (at? c e).bind λf=>
  (SF f).bind λg=>
  bif (!(E1 g 0))then
   some (.inr g)
  else
   (bif (decide (0<e))then at? b.2.1 (i64.wrap (e-1))else some ([],([],([],(0,(false,([],[]))))))).bind λg=>
   bif ((decide (0<e))&&(Op.bytesLess f.1 g.1||E5 f.1 g.1))then
    some (.inr 10)
   else
    (at? b.2.2 e).bind λf=>
    (bif (!(decide (f<0)))then at? b.2.2 e else some 0).bind λg=>
    bif ((decide (f<0))||(decide (b.1<g)))then
     some (.inr 9)
    else
     a (b,c,d,(i64.wrap (e+1)))
 else
  some (.inl ())
def uL:=E8 A4P fuel
def ZK:Int×(List IW)×(List Int)->Option (Int):=λa=>
 bif ((decide (a.1<0))||(decide (1000000000<a.1)))then
  some 9
 else
  bif (decide (2000<(a.2.1.length:Int)))then
   some 3
  else
   bif (!(E1 (a.2.2.length:Int) (a.2.1.length:Int)))then
    some 2
   else
    (uL (a,a.2.1,(a.2.1.length:Int),0)).bind λa=>
    match a with
    | .inl _=>
     some 0
    | .inr a=>
     some a
def uM:Rd (H0×(List DX)×Int×Int) (Sum H0 (Int)):=λa (b,c,d,e)=>
 bif (decide (e<d))then
  (at? c e).bind λf=>
  (MG (b.2.2.2.1,f)).bind λg=>
  bif (!g.2)then
   some (.inr 4)
  else
   (bif (decide (0<e))then at? b.2.2.2.2.1 (i64.wrap (e-1))else some []).bind λg=>
   bif ((decide (0<e))&&(Op.bytesLess f g||E5 f g))then
    some (.inr 10)
   else
    a (b,c,d,(i64.wrap (e+1)))
 else
  some (.inl b)
def uN:=E8 uM fuel
def JG:KB×H8×Int×E3×(List DX)×Bool×S1->Option (Int):=λa=>
 (V8 a.1).bind λb=>
 bif (!(E1 b 0))then
  some b
 else
  (iC a.2.1).bind λb=>
  bif (!(E1 b 0))then
   some b
  else
   bif ((decide (a.2.2.1<1))||(decide (4<a.2.2.1)))then
    some 9
   else
    (iG a.2.2.2.1).bind λb=>
    bif (!(E1 b 0))then
     some b
    else
     (uN (a,a.2.2.2.2.1,(a.2.2.2.2.1.length:Int),0)).bind λa=>
     match a with
     | .inl a=>
      (ZK a.2.2.2.2.2.2).bind λa=>
      some a
     | .inr a=>
      some a
def P6:HZ×DX->Option (Int):=λ(a,b)=>
 (a).bind λa=>
 (P4 (a.2.1,b)).bind λa=>
 some a
def uO:Rd (DX×KB×KB×Int×Int) KB:=λa (b,c,d,e,f)=>
 bif (decide (f<e))then
  (at? d f).bind λg=>
  bif (E5 g.1 b)then
   (app? 96 c [g]).bind λg=>
   a (b,g,d,e,(i64.wrap (f+1)))
  else
   a (b,c,d,e,(i64.wrap (f+1)))
 else
  some c
def uP:=E8 uO fuel
def jC:KB×DX->Option KB:=λ(a,b)=>
 (uP (b,[],a,(a.length:Int),0)).bind λa=>
 some a
def A4Q:(List Int)×(List DX)->Option (Bool):=λa=>
 some (decide (0<(a.2.length:Int)))
def A4R:Int×DX×DX×Bool->Option (Bool):=λa=>
 (strings_IndexByte (a.2.1,126)).bind λb=>
 (bif (!(decide (0<=b)))then strings_IndexByte (a.2.2.1,126)else some 0).bind λa=>
 some ((decide (0<=b))||(decide (0<=a)))
def A4S:Int×(List Int)×Int×Int×Int×Int×(List DX)->Option (Bool):=λa=>
 some ((decide (0<a.2.2.1))||(decide (0<=a.2.2.2.2.2.1)))
def uQ:Rd (H4×(L1->Option Bool)×Int×Int) I0:=λa (b,c,d,e)=>
 bif (decide (e<d))then
  (at? b e).bind λf=>
  (c f).bind λf=>
  bif f then
   some (.inr e)
  else
   a (b,c,d,(i64.wrap (e+1)))
 else
  some (.inl ())
def A4T:=E8 uQ fuel
def jD:H4×(L1->Option Bool)->Option (Int):=λ(a,b)=>
 (A4T (a,b,(a.length:Int),0)).bind λa=>
 match a with
 | .inl _=>
  some (-1:Int)
 | .inr a=>
  some a
def uR:H4×(L1->Option Bool)->Option (Bool):=λ(a,b)=>
 (jD (a,b)).bind λa=>
 some (decide (0<=a))
def uS:Bool×DX×Int->Option (Bool):=λa=>
 (V6 a).bind λa=>
 some a
def uT:List L1->Option (Bool):=λa=>
 (uR (a,(λx=>(uS x).bind λr=>some r))).bind λa=>
 some a
def A4U:Int->Option (Bool):=λ_=>
 some false
def VF:Int×DX->Option (Bool×Int):=λ(a,b)=>
 (IY (a,b)).bind λa=>
 bif (!(E1 a.2 0))then
  some (false,a.2)
 else
  ((λz=>Sum.casesOn (motive:=λ_=>Option Bool) z (λx=>(A4Q x).bind λr=>some r) (λz=>Sum.casesOn (motive:=λ_=>Option Bool) z (λx=>(A4R x).bind λr=>some r) (λz=>Sum.casesOn (motive:=λ_=>Option Bool) z (λx=>(A4S x).bind λr=>some r) (λz=>Sum.casesOn (motive:=λ_=>Option Bool) z (λx=>(uT x).bind λr=>some r) (λz=>Sum.casesOn (motive:=λ_=>Option Bool) z (λx=>(A4U x).bind λr=>some r) (λ_=>none)))))) a.1).bind λa=>
  some (a,0)
def uU:Rd (DX×H0×DX×Bool×(List DX)×KB×Int×Int) (List DX):=λa (b,c,d,e,f,g,h,i)=>
 bif (decide (i<h))then
  (at? g i).bind λj=>
  (NB b).bind λk=>
  (VF (k.1,j.2.1)).bind λk=>
  bif ((e&&(E5 j.2.1 d))||((!j.2.2.2)&&(c.2.2.2.2.2.1||(!k.1))))then
   (app? 24 f [j.2.1]).bind λj=>
   a (b,c,d,e,j,g,h,(i64.wrap (i+1)))
  else
   a (b,c,d,e,f,g,h,(i64.wrap (i+1)))
 else
  some f
def uV:=E8 uU fuel
def ZL:H0×DX->Option (List DX):=λ(a,b)=>
 (MG (a.2.2.2.1,b)).bind λc=>
 (jC (a.1,b)).bind λd=>
 (uV (b,a,c.1,c.2,[],d,(d.length:Int),0)).bind λa=>
 some a
def A4V:Rd ((List DX)×Int×Int) (List DX):=λa (b,c,d)=>
 bif (decide (c<d))then
  (in? b.length d).bind λ_=>
  (in? b.length c).bind λ_=>
  (in? b.length c).bind λ_=>
  (in? (b.set c.toNat (b.getD d.toNat [])).length d).bind λ_=>
  a (((b.set c.toNat (b.getD d.toNat [])).set d.toNat (b.getD c.toNat [])),(i64.wrap (c+1)),(i64.wrap (d-1)))
 else
  some b
def uW:=E8 A4V fuel
def jE:List DX->Option (List DX):=λa=>
 (uW (a,0,(i64.wrap ((a.length:Int)-1)))).bind λa=>
 some a
def ZM:Int->Option (Int):=λa=>
 (shl? u16 1 a).bind λa=>
 some (u16.wrap (a-1))
def uX:Rd (H0×H8×H8×Int×Int) H8:=λa (b,c,d,e,f)=>
 bif (decide (f<e))then
  (at? d f).bind λg=>
  bif (decide (g.2.2<=b.2.2.1))then
   (app? 96 c [g]).bind λg=>
   a (b,g,d,e,(i64.wrap (f+1)))
  else
   a (b,c,d,e,(i64.wrap (f+1)))
 else
  some c
def uY:=E8 uX fuel
def QK:H0×H8->Option H8:=λ(a,b)=>
 (uY (a,[],b,(b.length:Int),0)).bind λa=>
 some a
def uZ:Rd (H0×(DX×DX)×KB×Int×Int) (Sum (Unit) H8):=λa (b,c,d,e,f)=>
 bif (decide (f<e))then
  (at? d f).bind λg=>
  bif ((E5 g.1 c.1)&&(E5 g.2.1 c.2))then
   (QK (b,g.2.2.1)).bind λg=>
   some (.inr g)
  else
   a (b,c,d,e,(i64.wrap (f+1)))
 else
  some (.inl ())
def u_:=E8 uZ fuel
def SG:H0×(DX×DX)->Option H8:=λ(a,b)=>
 (u_ (a,b,a.1,(a.1.length:Int),0)).bind λa=>
 match a with
 | .inl _=>
  some []
 | .inr a=>
  some a
def jF:FS×(Option L2)->Option (Bool):=λ(a,b)=>
 (b).bind λc=>
 (MF (a.1,c)).bind λc=>
 (bif (decide (c<=0))then b else some (0,([],(false,[])))).bind λb=>
 (bif (decide (c<=0))then MF (b,a.2)else some 0).bind λa=>
 some ((decide (c<=0))&&(decide (a<0)))
def A4W:Rd ((List FS)×(FS->Option Bool)×Int×Int) I0:=λa (b,c,d,e)=>
 bif (decide (e<d))then
  (at? b e).bind λf=>
  (c f).bind λf=>
  bif f then
   some (.inr e)
  else
   a (b,c,d,(i64.wrap (e+1)))
 else
  some (.inl ())
def A4X:=E8 A4W fuel
def vA:(List FS)×(FS->Option Bool)->Option (Int):=λ(a,b)=>
 (A4X (a,b,(a.length:Int),0)).bind λa=>
 match a with
 | .inl _=>
  some (-1:Int)
 | .inr a=>
  some a
def ZN:(List FS)×DX->Option (Int):=λ(a,b)=>
 (vA (a,(λx=>(jF (x,(some (0,(b,(false,[])))))).bind λr=>some r))).bind λa=>
 some a
def SH:(Int×FQ)×DX->Option (Bool×Int):=λ(a,b)=>
 (ZE a).bind λc=>
 bif (!(E1 c.2 0))then
  some (false,c.2)
 else
  (IY (a.1,b)).bind λa=>
  bif (!(E1 a.2 0))then
   some (false,a.2)
  else
   ((λz=>Sum.casesOn (motive:=λ_=>Option DX) z (λx=>(NC x).bind λr=>some r) (λz=>Sum.casesOn (motive:=λ_=>Option DX) z (λx=>(ND x).bind λr=>some r) (λz=>Sum.casesOn (motive:=λ_=>Option DX) z (λx=>(NE x).bind λr=>some r) (λz=>Sum.casesOn (motive:=λ_=>Option DX) z (λx=>(NF x).bind λr=>some r) (λz=>Sum.casesOn (motive:=λ_=>Option DX) z (λx=>(NG x).bind λr=>some r) (λ_=>none)))))) a.1).bind λa=>
   (ZN (c.1,a)).bind λa=>
   some ((decide (0<=a)),0)
def vB:Rd ((Int×FQ)×Int×(List DX)×Int×Int) (Int):=λa (b,c,d,e,f)=>
 bif (decide (f<e))then
  (at? d f).bind λg=>
  (SH (b,g)).bind λg=>
  bif g.1 then
   (shl? u16 1 (i64.wrap (f+1))).bind λg=>
   a (b,(II u16 c g),d,e,(i64.wrap (f+1)))
  else
   a (b,c,d,e,(i64.wrap (f+1)))
 else
  some c
def A4Y:=E8 vB fuel
def ZO:HZ×Int×(Int×FQ)->Option (Int):=λ(a,b,c)=>
 (a).bind λa=>
 (at? a.2.2.1 b).bind λa=>
 (A4Y (c,0,a,(a.length:Int),0)).bind λa=>
 some a
def NI:Int×Int->Option (Bool):=λ(a,b)=>
 (shr? u16 a b).bind λa=>
 some (E1 (JC u16 a 1) 1)
def jG:Rd (HD×Int×Int×Int×Int×Int×Int) HD:=λa (b,c,d,e,f,g,h)=>
 bif (decide (h<g))then
  (NI (f,h)).bind λi=>
  bif (!i)then
   (in? b.2.2.2.2.1.length e).bind λ_=>
   (in? (b.2.2.2.2.1.getD e.toNat []).length h).bind λ_=>
   let i:=((b.2.2.2.2.1.getD e.toNat []).getD h.toNat [])
   (in? i.length c).bind λ_=>
   (shl? u16 1 d).bind λj=>
   (in? i.length c).bind λ_=>
   a ((b.1,(b.2.1,(b.2.2.1,(b.2.2.2.1,((b.2.2.2.2.1.set e.toNat ((b.2.2.2.2.1.getD e.toNat []).set h.toNat (i.set c.toNat (OV u16 (i.getD c.toNat 0) j)))),(b.2.2.2.2.2.1,b.2.2.2.2.2.2)))))),c,d,e,f,g,(i64.wrap (h+1)))
  else
   a ((b.1,(b.2.1,(b.2.2.1,(b.2.2.2.1,(b.2.2.2.2.1,(b.2.2.2.2.2.1,b.2.2.2.2.2.2)))))),c,d,e,f,g,(i64.wrap (h+1)))
 else
  some (b.1,(b.2.1,(b.2.2.1,(b.2.2.2.1,(b.2.2.2.2.1,(b.2.2.2.2.2.1,b.2.2.2.2.2.2))))))
def vC:=E8 jG fuel
def jH:HD×Int×Int×QB->Option HD:=λ(a,b,c,d)=>
 (P6 ((some (a.1,(a.2.1,(a.2.2.1,(a.2.2.2.1,(a.2.2.2.2.1,(a.2.2.2.2.2.1,a.2.2.2.2.2.2))))))),d.1)).bind λe=>
 bif (decide (e<0))then
  (in? a.2.2.2.2.2.1.length b).bind λ_=>
  (shl? u16 1 c).bind λf=>
  (in? a.2.2.2.2.2.1.length b).bind λ_=>
  some (a.1,(a.2.1,(a.2.2.1,(a.2.2.2.1,(a.2.2.2.2.1,((a.2.2.2.2.2.1.set b.toNat (OV u16 (a.2.2.2.2.2.1.getD b.toNat 0) f)),a.2.2.2.2.2.2))))))
 else
  (in? a.2.2.2.1.length b).bind λ_=>
  (in? (a.2.2.2.1.getD b.toNat []).length c).bind λ_=>
  (shl? u16 1 e).bind λf=>
  (in? (a.2.2.2.1.getD b.toNat []).length c).bind λ_=>
  let g:=((a.2.2.2.1.getD b.toNat []).set c.toNat (II u16 ((a.2.2.2.1.getD b.toNat []).getD c.toNat 0) f))
  (ZO ((some (a.1,(a.2.1,(a.2.2.1,((a.2.2.2.1.set b.toNat g),(a.2.2.2.2.1,(a.2.2.2.2.2.1,a.2.2.2.2.2.2))))))),e,d.2.1)).bind λd=>
  (in? a.2.2.2.2.1.length b).bind λ_=>
  (in? (a.2.2.2.2.1.getD b.toNat []).length c).bind λ_=>
  let f:=((a.2.2.2.2.1.getD b.toNat []).getD c.toNat [])
  (in? f.length e).bind λ_=>
  (in? f.length e).bind λ_=>
  let h:=((a.2.2.2.2.1.getD b.toNat []).set c.toNat (f.set e.toNat (JC u16 (f.getD e.toNat 0) d)))
  (in? (a.2.2.2.2.1.set b.toNat h).length e).bind λ_=>
  (vC ((a.1,(a.2.1,(a.2.2.1,((a.2.2.2.1.set b.toNat g),((a.2.2.2.2.1.set b.toNat h),(a.2.2.2.2.2.1,a.2.2.2.2.2.2)))))),b,c,e,d,(((a.2.2.2.2.1.set b.toNat h).getD e.toNat []).length:Int),0)).bind λa=>
  some (a.1,(a.2.1,(a.2.2.1,(a.2.2.2.1,(a.2.2.2.2.1,(a.2.2.2.2.2.1,a.2.2.2.2.2.2))))))
def vD:Rd (HD×Int×Int×Int×Int) HD:=λa (b,c,d,e,f)=>
 bif (decide (f<e))then
  (in? b.2.2.2.2.1.length c).bind λ_=>
  (in? (b.2.2.2.2.1.getD c.toNat []).length d).bind λ_=>
  let g:=((b.2.2.2.2.1.getD c.toNat []).getD d.toNat [])
  (at? b.2.2.1 f).bind λh=>
  (ZM (i64.wrap ((h.length:Int)+1))).bind λh=>
  (in? g.length f).bind λ_=>
  a ((b.1,(b.2.1,(b.2.2.1,(b.2.2.2.1,((b.2.2.2.2.1.set c.toNat ((b.2.2.2.2.1.getD c.toNat []).set d.toNat (g.set f.toNat h))),(b.2.2.2.2.2.1,b.2.2.2.2.2.2)))))),c,d,e,(i64.wrap (f+1)))
 else
  some (b.1,(b.2.1,(b.2.2.1,(b.2.2.2.1,(b.2.2.2.2.1,(b.2.2.2.2.2.1,b.2.2.2.2.2.2))))))
def vE:=E8 vD fuel
def vF:Rd (HD×Int×Int×Int×Int) HD:=λa (b,c,d,e,f)=>
 bif (decide (f<e))then
  (in? b.2.2.2.2.1.length d).bind λ_=>
  (mks? 24 c c 0).bind λg=>
  (in? (b.2.2.2.2.1.getD d.toNat []).length f).bind λ_=>
  (vE ((b.1,(b.2.1,(b.2.2.1,(b.2.2.2.1,((b.2.2.2.2.1.set d.toNat ((b.2.2.2.2.1.getD d.toNat []).set f.toNat g)),(b.2.2.2.2.2.1,b.2.2.2.2.2.2)))))),d,f,c,0)).bind λg=>
  a ((g.1,(g.2.1,(g.2.2.1,(g.2.2.2.1,(g.2.2.2.2.1,(g.2.2.2.2.2.1,g.2.2.2.2.2.2)))))),c,d,e,(i64.wrap (f+1)))
 else
  some (b.1,(b.2.1,(b.2.2.1,(b.2.2.2.1,(b.2.2.2.2.1,(b.2.2.2.2.2.1,b.2.2.2.2.2.2))))))
def vG:=E8 vF fuel
def vH:Rd (HD×Int×Int×Int) HD:=λa (b,c,d,e)=>
 bif (decide (e<d))then
  (at? b.2.2.1 e).bind λf=>
  (mks? 24 (i64.wrap ((f.length:Int)+1)) (i64.wrap ((f.length:Int)+1)) 0).bind λg=>
  (app? 24 b.2.2.2.1 [g]).bind λg=>
  (mks? 24 (i64.wrap ((f.length:Int)+1)) (i64.wrap ((f.length:Int)+1)) []).bind λh=>
  (app? 24 b.2.2.2.2.1 [h]).bind λh=>
  (vG ((b.1,(b.2.1,(b.2.2.1,(g,(h,(b.2.2.2.2.2.1,b.2.2.2.2.2.2)))))),c,e,(i64.wrap ((f.length:Int)+1)),0)).bind λf=>
  a ((f.1,(f.2.1,(f.2.2.1,(f.2.2.2.1,(f.2.2.2.2.1,(f.2.2.2.2.2.1,f.2.2.2.2.2.2)))))),c,d,(i64.wrap (e+1)))
 else
  some (b.1,(b.2.1,(b.2.2.1,(b.2.2.2.1,(b.2.2.2.2.1,(b.2.2.2.2.2.1,b.2.2.2.2.2.2))))))
def vI:=E8 vH fuel
def vJ:Rd (HD×Int×Int×H8×Int×Int) HD:=λa (b,c,d,e,f,g)=>
 bif (decide (g<f))then
  (at? e g).bind λh=>
  (jH ((b.1,(b.2.1,(b.2.2.1,(b.2.2.2.1,(b.2.2.2.2.1,(b.2.2.2.2.2.1,b.2.2.2.2.2.2)))))),c,(i64.wrap (d+1)),h)).bind λh=>
  a ((h.1,(h.2.1,(h.2.2.1,(h.2.2.2.1,(h.2.2.2.2.1,(h.2.2.2.2.2.1,h.2.2.2.2.2.2)))))),c,d,e,f,(i64.wrap (g+1)))
 else
  some (b.1,(b.2.1,(b.2.2.1,(b.2.2.2.1,(b.2.2.2.2.1,(b.2.2.2.2.2.1,b.2.2.2.2.2.2))))))
def vK:=E8 vJ fuel
def vL:Rd (HD×Int×(List DX)×Int×Int) HD:=λa (b,c,d,e,f)=>
 bif (decide (f<e))then
  (at? d f).bind λg=>
  (at? b.2.1 c).bind λh=>
  (SG (b.1,(h,g))).bind λg=>
  (vK ((b.1,(b.2.1,(b.2.2.1,(b.2.2.2.1,(b.2.2.2.2.1,(b.2.2.2.2.2.1,b.2.2.2.2.2.2)))))),c,f,g,(g.length:Int),0)).bind λg=>
  a ((g.1,(g.2.1,(g.2.2.1,(g.2.2.2.1,(g.2.2.2.2.1,(g.2.2.2.2.2.1,g.2.2.2.2.2.2)))))),c,d,e,(i64.wrap (f+1)))
 else
  some (b.1,(b.2.1,(b.2.2.1,(b.2.2.2.1,(b.2.2.2.2.1,(b.2.2.2.2.2.1,b.2.2.2.2.2.2))))))
def vM:=E8 vL fuel
def vN:Rd (HD×Int×Int) HD:=λa (b,c,d)=>
 bif (decide (d<c))then
  (at? b.2.2.1 d).bind λe=>
  (vM ((b.1,(b.2.1,(b.2.2.1,(b.2.2.2.1,(b.2.2.2.2.1,(b.2.2.2.2.2.1,b.2.2.2.2.2.2)))))),d,e,(e.length:Int),0)).bind λe=>
  a ((e.1,(e.2.1,(e.2.2.1,(e.2.2.2.1,(e.2.2.2.2.1,(e.2.2.2.2.2.1,e.2.2.2.2.2.2)))))),c,(i64.wrap (d+1)))
 else
  some (b.1,(b.2.1,(b.2.2.1,(b.2.2.2.1,(b.2.2.2.2.1,(b.2.2.2.2.2.1,b.2.2.2.2.2.2))))))
def vO:=E8 vN fuel
def jI:H0×((List DX)×((List (List DX))×((List (List Int))×((List (List (List Int)))×((List Int)×Int)))))->Option HD:=λa=>
 (vI ((a.1,(a.2.1,(a.2.2.1,(a.2.2.2.1,(a.2.2.2.2.1,(a.2.2.2.2.2.1,a.2.2.2.2.2.2)))))),(a.2.1.length:Int),(a.2.1.length:Int),0)).bind λb=>
 (vO ((b.1,(b.2.1,(b.2.2.1,(b.2.2.2.1,(b.2.2.2.2.1,(b.2.2.2.2.2.1,b.2.2.2.2.2.2)))))),(a.2.1.length:Int),0)).bind λa=>
 some (a.1,(a.2.1,(a.2.2.1,(a.2.2.2.1,(a.2.2.2.2.1,(a.2.2.2.2.2.1,a.2.2.2.2.2.2))))))
def vP:Rd (HD×H8×Int×Int) (Sum HD (HD×Bool)):=λa (b,c,d,e)=>
 bif (decide (e<d))then
  (at? c e).bind λf=>
  (P6 ((some (b.1,(b.2.1,(b.2.2.1,(b.2.2.2.1,(b.2.2.2.2.1,(b.2.2.2.2.2.1,b.2.2.2.2.2.2))))))),f.1)).bind λg=>
  bif (decide (g<0))then
   some (.inr ((b.1,(b.2.1,(b.2.2.1,(b.2.2.2.1,(b.2.2.2.2.1,(b.2.2.2.2.2.1,b.2.2.2.2.2.2)))))),false))
  else
   (in? b.2.2.2.2.2.1.length g).bind λ_=>
   (ZO ((some (b.1,(b.2.1,(b.2.2.1,(b.2.2.2.1,(b.2.2.2.2.1,(b.2.2.2.2.2.1,b.2.2.2.2.2.2))))))),g,f.2.1)).bind λf=>
   (in? b.2.2.2.2.2.1.length g).bind λ_=>
   (shl? u16 1 g).bind λh=>
   a ((b.1,(b.2.1,(b.2.2.1,(b.2.2.2.1,(b.2.2.2.2.1,((b.2.2.2.2.2.1.set g.toNat (JC u16 (b.2.2.2.2.2.1.getD g.toNat 0) f)),(II u16 b.2.2.2.2.2.2 h))))))),c,d,(i64.wrap (e+1)))
 else
  some (.inl (b.1,(b.2.1,(b.2.2.1,(b.2.2.2.1,(b.2.2.2.2.1,(b.2.2.2.2.2.1,b.2.2.2.2.2.2)))))))
def vQ:=E8 vP fuel
def jJ:Int×Int×Bool->Option (Int):=λ(a,b,c)=>
 bif c then
  (shl? u16 1 (i64.wrap (b+1))).bind λb=>
  some b
 else
  some a
def vR:Rd (HD×(List DX)×Int×Int) (Sum HD (HD×Bool)):=λa (b,c,d,e)=>
 bif (decide (e<d))then
  (at? c e).bind λf=>
  (P6 ((some (b.1,(b.2.1,(b.2.2.1,(b.2.2.2.1,(b.2.2.2.2.1,(b.2.2.2.2.2.1,b.2.2.2.2.2.2))))))),f)).bind λg=>
  bif (decide (g<0))then
   some (.inr ((b.1,(b.2.1,(b.2.2.1,(b.2.2.2.1,(b.2.2.2.2.1,(b.2.2.2.2.2.1,b.2.2.2.2.2.2)))))),false))
  else
   (MG (b.1.2.2.2.1,f)).bind λf=>
   (at? b.2.2.1 g).bind λh=>
   (P4 (h,f.1)).bind λf=>
   (jJ (0,f,(decide (0<=f)))).bind λf=>
   (in? b.2.2.2.2.2.1.length g).bind λ_=>
   (in? b.2.2.2.2.2.1.length g).bind λ_=>
   (shl? u16 1 g).bind λh=>
   a ((b.1,(b.2.1,(b.2.2.1,(b.2.2.2.1,(b.2.2.2.2.1,((b.2.2.2.2.2.1.set g.toNat (JC u16 (b.2.2.2.2.2.1.getD g.toNat 0) f)),(II u16 b.2.2.2.2.2.2 h))))))),c,d,(i64.wrap (e+1)))
 else
  some (.inl (b.1,(b.2.1,(b.2.2.1,(b.2.2.2.1,(b.2.2.2.2.1,(b.2.2.2.2.2.1,b.2.2.2.2.2.2)))))))
def vS:=E8 vR fuel
def vT:H0×((List DX)×((List (List DX))×((List (List Int))×((List (List (List Int)))×((List Int)×Int)))))->Option (Bool×HD):=λa=>
 (QK (a.1,a.1.2.1)).bind λb=>
 (vQ ((a.1,(a.2.1,(a.2.2.1,(a.2.2.2.1,(a.2.2.2.2.1,(a.2.2.2.2.2.1,a.2.2.2.2.2.2)))))),b,(b.length:Int),0)).bind λa=>
 match a with
 | .inl a=>
  (vS ((a.1,(a.2.1,(a.2.2.1,(a.2.2.2.1,(a.2.2.2.2.1,(a.2.2.2.2.2.1,a.2.2.2.2.2.2)))))),a.1.2.2.2.2.1,(a.1.2.2.2.2.1.length:Int),0)).bind λa=>
  match a with
  | .inl a=>
   some (true,(a.1,(a.2.1,(a.2.2.1,(a.2.2.2.1,(a.2.2.2.2.1,(a.2.2.2.2.2.1,a.2.2.2.2.2.2)))))))
  | .inr a=>
   some (a.2,(a.1.1,(a.1.2.1,(a.1.2.2.1,(a.1.2.2.2.1,(a.1.2.2.2.2.1,(a.1.2.2.2.2.2.1,a.1.2.2.2.2.2.2)))))))
 | .inr a=>
  some (a.2,(a.1.1,(a.1.2.1,(a.1.2.2.1,(a.1.2.2.2.1,(a.1.2.2.2.2.1,(a.1.2.2.2.2.2.1,a.1.2.2.2.2.2.2)))))))
def vU:Rd (HD×KB×Int×Int) HD:=λa (b,c,d,e)=>
 bif (decide (e<d))then
  (at? c e).bind λf=>
  (P6 ((some (b.1,(b.2.1,(b.2.2.1,(b.2.2.2.1,(b.2.2.2.2.1,(b.2.2.2.2.2.1,b.2.2.2.2.2.2))))))),f.1)).bind λg=>
  bif (decide (g<0))then
   (app? 24 b.2.1 [f.1]).bind λf=>
   a ((b.1,(f,(b.2.2.1,(b.2.2.2.1,(b.2.2.2.2.1,(b.2.2.2.2.2.1,b.2.2.2.2.2.2)))))),c,d,(i64.wrap (e+1)))
  else
   a ((b.1,(b.2.1,(b.2.2.1,(b.2.2.2.1,(b.2.2.2.2.1,(b.2.2.2.2.2.1,b.2.2.2.2.2.2)))))),c,d,(i64.wrap (e+1)))
 else
  some (b.1,(b.2.1,(b.2.2.1,(b.2.2.2.1,(b.2.2.2.2.1,(b.2.2.2.2.2.1,b.2.2.2.2.2.2))))))
def vV:=E8 vU fuel
def vW:Rd (H0×HD×(List DX)×Int×Int) HD:=λa (b,c,d,e,f)=>
 bif (decide (f<e))then
  (at? d f).bind λg=>
  (ZL (b,g)).bind λg=>
  (jE g).bind λg=>
  (app? 24 c.2.2.1 [g]).bind λh=>
  (ZM (i64.wrap ((g.length:Int)+1))).bind λg=>
  (app? 24 c.2.2.2.2.2.1 [g]).bind λg=>
  a (b,(c.1,(c.2.1,(h,(c.2.2.2.1,(c.2.2.2.2.1,(g,c.2.2.2.2.2.2)))))),d,e,(i64.wrap (f+1)))
 else
  some (c.1,(c.2.1,(c.2.2.1,(c.2.2.2.1,(c.2.2.2.2.1,(c.2.2.2.2.2.1,c.2.2.2.2.2.2))))))
def vX:=E8 vW fuel
def jK:KB×H8×Int×E3×(List DX)×Bool×S1->Option (HZ×Bool):=λa=>
 (vV ((a,([],([],([],([],([],0)))))),a.1,(a.1.length:Int),0)).bind λb=>
 (vX (a,(b.1,(b.2.1,(b.2.2.1,(b.2.2.2.1,(b.2.2.2.2.1,(b.2.2.2.2.2.1,b.2.2.2.2.2.2)))))),b.2.1,(b.2.1.length:Int),0)).bind λa=>
 (jI (a.1,(a.2.1,(a.2.2.1,(a.2.2.2.1,(a.2.2.2.2.1,(a.2.2.2.2.2.1,a.2.2.2.2.2.2))))))).bind λa=>
 (vT (a.1,(a.2.1,(a.2.2.1,(a.2.2.2.1,(a.2.2.2.2.1,(a.2.2.2.2.2.1,a.2.2.2.2.2.2))))))).bind λa=>
 some ((some (a.2.1,(a.2.2.1,(a.2.2.2.1,(a.2.2.2.2.1,(a.2.2.2.2.2.1,(a.2.2.2.2.2.2.1,a.2.2.2.2.2.2.2))))))),a.1)
def SI:DX×DX×DX×DX×E3×DX->Option (HT×Int):=λa=>
 (JS a).bind λb=>
 bif (!(E1 b 0))then
  some (([],([],([],([],([],[]))))),b)
 else
  (KD a).bind λa=>
  some (a,0)
def QL:HT×DX->Option (HT×Int):=λ(a,b)=>
 (JS a).bind λc=>
 bif (!(E1 c 0))then
  some (([],([],([],([],([],[]))))),c)
 else
  (SI (a.1,(a.2.1,(a.2.2.1,(b,a.2.2.2.2))))).bind λa=>
  some (a.1,a.2)
def QN:GW×(Int×FQ)×DX×DX->Option (Bool):=λ(a,b,c,d)=>
 (bif (!((!(E5 a.1 c))||(E5 d [])))then YQ (a.2.1,d)else some 0).bind λe=>
 bif (((!(E5 a.1 c))||(E5 d []))||(!(E1 e 0)))then
  some false
 else
  (SH (b,d)).bind λa=>
  some ((E1 a.2 0)&&a.1)
def jL:Rd (IW×HT×JR×DX×(List Int)×(List GW)×Int×Int) (List Int):=λa (b,c,d,e,f,g,h,i)=>
 bif (decide (i<h))then
  (at? g i).bind λj=>
  (bif (!b.2.2.2.2.1)then at? d i else some (0,[])).bind λk=>
  (bif (!b.2.2.2.2.1)then QN (j,k,e,c.2.2.2.1)else some false).bind λj=>
  bif ((!b.2.2.2.2.1)&&j)then
   (app? 24 f [i]).bind λj=>
   a (b,c,d,e,j,g,h,(i64.wrap (i+1)))
  else
   a (b,c,d,e,f,g,h,(i64.wrap (i+1)))
 else
  some f
def jM:=E8 jL fuel
def VG:IW×HT->Option ((List Int)×Int):=λ(a,b)=>
 (MH a).bind λc=>
 bif (!(E1 c.2 0))then
  some ([],c.2)
 else
  (JT b).bind λd=>
  bif (!(E1 d.2 0))then
   some ([],d.2)
  else
   (jM (a,b,c.1,d.1,[],a.2.2.2.2.2.2,(a.2.2.2.2.2.2.length:Int),0)).bind λa=>
   some (a,0)
def jN:Rd (HT×Int×(List IW)×Int×Int) (Int):=λa (b,c,d,e,f)=>
 bif (decide (f<e))then
  (at? d f).bind λg=>
  (VG (g,b)).bind λh=>
  bif (E1 (h.1.length:Int) 0)then
   a (b,c,d,e,(i64.wrap (f+1)))
  else
   bif (!(E5 g.2.2.2.2.2.1 []))then
    (OE g.2.2.2.2.2.1).bind λg=>
    a (b,(i64.wrap (c+g.1)),d,e,(i64.wrap (f+1)))
   else
    a (b,(i64.wrap (c+100)),d,e,(i64.wrap (f+1)))
 else
  some c
def jO:=E8 jN fuel
def VH:H0×(DX×DX)->Option (Int):=λ(a,b)=>
 (MD b.1).bind λc=>
 (QL (c.1,b.2)).bind λb=>
 bif (!(E1 b.2 0))then
  some 0
 else
  (jO (b.1,0,a.2.2.2.2.2.2.2.1,(a.2.2.2.2.2.2.2.1.length:Int),0)).bind λa=>
  some a
def VI:Bool×Bool->Option (Int):=λ(a,b)=>
 bif a then
  some 3
 else
  bif b then
   some 2
  else
   some 1
def SJ:(List Int)×Int->Option (Int):=λ(a,b)=>
 bif (decide (b<(a.length:Int)))then
  (at? a b).bind λa=>
  some a
 else
  some 0
def SK:H4×Int->Option L1:=λ(a,b)=>
 (bif (decide (b<(a.length:Int)))then at? a b else some (false,([],0))).bind λc=>
 (bif (decide (b<(a.length:Int)))then SB c else some false).bind λc=>
 bif ((decide (b<(a.length:Int)))&&(!c))then
  (at? a b).bind λa=>
  some a
 else
  some (false,([],0))
def VJ:Int×DX×DX->Option (Int×Int):=λ(a,b,c)=>
 (QJ (a,b,c)).bind λa=>
 bif (!(E1 a.2.2 0))then
  some (0,a.2.2)
 else
  ((λz=>Sum.casesOn (motive:=λ_=>Option DX) z (λx=>(NC x).bind λr=>some r) (λz=>Sum.casesOn (motive:=λ_=>Option DX) z (λx=>(ND x).bind λr=>some r) (λz=>Sum.casesOn (motive:=λ_=>Option DX) z (λx=>(NE x).bind λr=>some r) (λz=>Sum.casesOn (motive:=λ_=>Option DX) z (λx=>(NF x).bind λr=>some r) (λz=>Sum.casesOn (motive:=λ_=>Option DX) z (λx=>(NG x).bind λr=>some r) (λ_=>none)))))) a.1).bind λb=>
  ((λz=>Sum.casesOn (motive:=λ_=>Option DX) z (λx=>(NC x).bind λr=>some r) (λz=>Sum.casesOn (motive:=λ_=>Option DX) z (λx=>(ND x).bind λr=>some r) (λz=>Sum.casesOn (motive:=λ_=>Option DX) z (λx=>(NE x).bind λr=>some r) (λz=>Sum.casesOn (motive:=λ_=>Option DX) z (λx=>(NF x).bind λr=>some r) (λz=>Sum.casesOn (motive:=λ_=>Option DX) z (λx=>(NG x).bind λr=>some r) (λ_=>none)))))) a.2.1).bind λc=>
  bif (E5 b c)then
   some (0,0)
  else
   bif ((Sum.casesOn a.1 (λb=>some b) (λc=>(Sum.casesOn c (λd=>none) (λe=>(Sum.casesOn e (λf=>none) (λg=>(Sum.casesOn g (λh=>none) (λi=>(Sum.casesOn i (λj=>none) (λk=>none)))))))))):Option KC).isSome then
    (VI ((!(E1 (((((Sum.casesOn a.1 (λb=>some b) (λc=>(Sum.casesOn c (λd=>none) (λe=>(Sum.casesOn e (λf=>none) (λg=>(Sum.casesOn g (λh=>none) (λi=>(Sum.casesOn i (λj=>none) (λk=>none)))))))))):Option KC).getD ((List.replicate 3 0),[])).1).getD 0 0) (((((Sum.casesOn a.2.1 (λl=>some l) (λm=>(Sum.casesOn m (λn=>none) (λo=>(Sum.casesOn o (λp=>none) (λq=>(Sum.casesOn q (λs=>none) (λt=>(Sum.casesOn t (λu=>none) (λv=>none)))))))))):Option KC).getD ((List.replicate 3 0),[])).1).getD 0 0))),(!(E1 (((((Sum.casesOn a.1 (λb=>some b) (λc=>(Sum.casesOn c (λd=>none) (λe=>(Sum.casesOn e (λf=>none) (λg=>(Sum.casesOn g (λh=>none) (λi=>(Sum.casesOn i (λj=>none) (λk=>none)))))))))):Option KC).getD ((List.replicate 3 0),[])).1).getD 1 0) (((((Sum.casesOn a.2.1 (λl=>some l) (λm=>(Sum.casesOn m (λn=>none) (λo=>(Sum.casesOn o (λp=>none) (λq=>(Sum.casesOn q (λs=>none) (λt=>(Sum.casesOn t (λu=>none) (λv=>none)))))))))):Option KC).getD ((List.replicate 3 0),[])).1).getD 1 0))))).bind λb=>
    some (b,0)
   else
    bif ((Sum.casesOn a.1 (λb=>none) (λc=>(Sum.casesOn c (λd=>some d) (λe=>(Sum.casesOn e (λf=>none) (λg=>(Sum.casesOn g (λh=>none) (λi=>(Sum.casesOn i (λj=>none) (λk=>none)))))))))):Option JQ).isSome then
     (P3 (((((Sum.casesOn a.1 (λb=>none) (λc=>(Sum.casesOn c (λd=>some d) (λe=>(Sum.casesOn e (λf=>none) (λg=>(Sum.casesOn g (λh=>none) (λi=>(Sum.casesOn i (λj=>none) (λk=>none)))))))))):Option JQ).getD (0,([],([],false)))).2).1)).bind λl=>
     (P3 (((((Sum.casesOn a.2.1 (λm=>none) (λn=>(Sum.casesOn n (λo=>some o) (λp=>(Sum.casesOn p (λq=>none) (λs=>(Sum.casesOn s (λt=>none) (λu=>(Sum.casesOn u (λv=>none) (λw=>none)))))))))):Option JQ).getD (0,([],([],false)))).2).1)).bind λy=>
     (VI ((!(E1 ((((Sum.casesOn a.1 (λb=>none) (λc=>(Sum.casesOn c (λd=>some d) (λe=>(Sum.casesOn e (λf=>none) (λg=>(Sum.casesOn g (λh=>none) (λi=>(Sum.casesOn i (λj=>none) (λk=>none)))))))))):Option JQ).getD (0,([],([],false)))).1) ((((Sum.casesOn a.2.1 (λm=>none) (λn=>(Sum.casesOn n (λo=>some o) (λp=>(Sum.casesOn p (λq=>none) (λs=>(Sum.casesOn s (λt=>none) (λu=>(Sum.casesOn u (λv=>none) (λw=>none)))))))))):Option JQ).getD (0,([],([],false)))).1))),(!(E5 l y)))).bind λb=>
     some (b,0)
    else
     bif ((Sum.casesOn a.1 (λb=>none) (λc=>(Sum.casesOn c (λd=>none) (λe=>(Sum.casesOn e (λf=>some f) (λg=>(Sum.casesOn g (λh=>none) (λi=>(Sum.casesOn i (λj=>none) (λk=>none)))))))))):Option G7).isSome then
      let l:=(((Sum.casesOn a.1 (λb=>none) (λc=>(Sum.casesOn c (λd=>none) (λe=>(Sum.casesOn e (λf=>some f) (λg=>(Sum.casesOn g (λh=>none) (λi=>(Sum.casesOn i (λj=>none) (λk=>none)))))))))):Option G7).getD (0,([],(0,(0,(0,(0,[]))))))).1
      let m:=(((Sum.casesOn a.2.1 (λn=>none) (λo=>(Sum.casesOn o (λp=>none) (λq=>(Sum.casesOn q (λs=>some s) (λt=>(Sum.casesOn t (λu=>none) (λv=>(Sum.casesOn v (λw=>none) (λy=>none)))))))))):Option G7).getD (0,([],(0,(0,(0,(0,[]))))))).1
      (bif (!(!(E1 l m)))then SJ ((((((Sum.casesOn a.1 (λb=>none) (λc=>(Sum.casesOn c (λd=>none) (λe=>(Sum.casesOn e (λf=>some f) (λg=>(Sum.casesOn g (λh=>none) (λi=>(Sum.casesOn i (λj=>none) (λk=>none)))))))))):Option G7).getD (0,([],(0,(0,(0,(0,[]))))))).2).1),0)else some 0).bind λaa=>
      (bif (!(!(E1 l m)))then SJ ((((((Sum.casesOn a.2.1 (λn=>none) (λo=>(Sum.casesOn o (λp=>none) (λq=>(Sum.casesOn q (λs=>some s) (λt=>(Sum.casesOn t (λu=>none) (λv=>(Sum.casesOn v (λw=>none) (λy=>none)))))))))):Option G7).getD (0,([],(0,(0,(0,(0,[]))))))).2).1),0)else some 0).bind λab=>
      (SJ ((((((Sum.casesOn a.1 (λb=>none) (λc=>(Sum.casesOn c (λd=>none) (λe=>(Sum.casesOn e (λf=>some f) (λg=>(Sum.casesOn g (λh=>none) (λi=>(Sum.casesOn i (λj=>none) (λk=>none)))))))))):Option G7).getD (0,([],(0,(0,(0,(0,[]))))))).2).1),1)).bind λb=>
      (SJ ((((((Sum.casesOn a.2.1 (λn=>none) (λo=>(Sum.casesOn o (λp=>none) (λq=>(Sum.casesOn q (λs=>some s) (λt=>(Sum.casesOn t (λu=>none) (λv=>(Sum.casesOn v (λw=>none) (λy=>none)))))))))):Option G7).getD (0,([],(0,(0,(0,(0,[]))))))).2).1),1)).bind λc=>
      (VI (((!(E1 l m))||(!(E1 aa ab))),(!(E1 b c)))).bind λb=>
      some (b,0)
     else
      bif ((Sum.casesOn a.1 (λb=>none) (λc=>(Sum.casesOn c (λd=>none) (λe=>(Sum.casesOn e (λf=>none) (λg=>(Sum.casesOn g (λh=>some h) (λi=>(Sum.casesOn i (λj=>none) (λk=>none)))))))))):Option H4).isSome then
       (SK ((((Sum.casesOn a.1 (λb=>none) (λc=>(Sum.casesOn c (λd=>none) (λe=>(Sum.casesOn e (λf=>none) (λg=>(Sum.casesOn g (λh=>some h) (λi=>(Sum.casesOn i (λj=>none) (λk=>none)))))))))):Option H4).getD []),0)).bind λl=>
       (SK ((((Sum.casesOn a.2.1 (λm=>none) (λn=>(Sum.casesOn n (λo=>none) (λp=>(Sum.casesOn p (λq=>none) (λs=>(Sum.casesOn s (λt=>some t) (λu=>(Sum.casesOn u (λv=>none) (λw=>none)))))))))):Option H4).getD []),0)).bind λy=>
       (SK ((((Sum.casesOn a.1 (λb=>none) (λc=>(Sum.casesOn c (λd=>none) (λe=>(Sum.casesOn e (λf=>none) (λg=>(Sum.casesOn g (λh=>some h) (λi=>(Sum.casesOn i (λj=>none) (λk=>none)))))))))):Option H4).getD []),1)).bind λb=>
       (SK ((((Sum.casesOn a.2.1 (λm=>none) (λn=>(Sum.casesOn n (λo=>none) (λp=>(Sum.casesOn p (λq=>none) (λs=>(Sum.casesOn s (λt=>some t) (λu=>(Sum.casesOn u (λv=>none) (λw=>none)))))))))):Option H4).getD []),1)).bind λa=>
       (VI ((!((KK l.1 y.1)&&((E5 l.2.1 y.2.1)&&(E1 l.2.2 y.2.2)))),(!((KK b.1 a.1)&&((E5 b.2.1 a.2.1)&&(E1 b.2.2 a.2.2)))))).bind λa=>
       some (a,0)
      else
       some (1,0)
def ZP:FV×Bool->Option FV:=λ(a,b)=>
 bif b then
  some (a.1,(1,a.2.2))
 else
  some a
def OF:H0×(DX×DX)->Option FV:=λ(a,b)=>
 (MG (a.2.2.2.1,b.1)).bind λc=>
 (ZP ((0,(0,0)),(!(E5 c.1 b.2)))).bind λd=>
 bif (E5 b.2 [])then
  some d
 else
  (VH (a,b)).bind λa=>
  bif c.2 then
   (NB b.1).bind λe=>
   (VJ (e.1,c.1,b.2)).bind λb=>
   some (a,(d.2.1,b.1))
  else
   some (a,d.2)
def vY:Rd (HZ×DX×(List FV)×(List DX)×Int×Int) (List FV):=λa (b,c,d,e,f,g)=>
 bif (decide (g<f))then
  (at? e g).bind λh=>
  (b).bind λi=>
  (OF (i.1,(c,h))).bind λh=>
  (app? 72 d [h]).bind λh=>
  a (b,c,h,e,f,(i64.wrap (g+1)))
 else
  some d
def vZ:=E8 vY fuel
def v_:Rd (HZ×(List (List FV))×(List DX)×Int×Int) (List (List FV)):=λa (b,c,d,e,f)=>
 bif (decide (f<e))then
  (at? d f).bind λg=>
  (b).bind λh=>
  (OF (h.1,(g,[]))).bind λh=>
  (b).bind λi=>
  (at? i.2.2.1 f).bind λi=>
  (vZ (b,g,[h],i,(i.length:Int),0)).bind λg=>
  (app? 24 c [g]).bind λg=>
  a (b,g,d,e,(i64.wrap (f+1)))
 else
  some c
def w5:=E8 v_ fuel
def ZQ:Option (H0×(List DX)×(List (List DX))×(List (List Int))×(List (List (List Int)))×(List Int)×Int)->Option (List (List FV)):=λa=>
 (a).bind λb=>
 (w5 (a,[],b.2.1,(b.2.1.length:Int),0)).bind λa=>
 some a
def w6:Rd (Int×Int) I0:=λa (b,c)=>
 bif (decide (c<16))then
  (NI (b,c)).bind λd=>
  bif d then
   some (.inr c)
  else
   a (b,(i64.wrap (c+1)))
 else
  some (.inl ())
def jP:=E8 w6 fuel
def VK:Int->Option (Int):=λa=>
 (jP (a,0)).bind λa=>
 match a with
 | .inl _=>
  some 0
 | .inr a=>
  some a
def jQ:FV×FV->Option FV:=λ(a,b)=>
 some ((OW a.1 b.1),((OW a.2.1 b.2.1),(OW a.2.2 b.2.2)))
def ZR:FV×FV->Option FV:=λ(a,b)=>
 some ((i64.wrap (a.1+b.1)),((i64.wrap (a.2.1+b.2.1)),(i64.wrap (a.2.2+b.2.2))))
def w7:Rd (Int×FV×(List FV)×Int×Int) FV:=λa (b,c,d,e,f)=>
 bif (decide (f<e))then
  (at? d f).bind λg=>
  (NI (b,f)).bind λh=>
  bif h then
   (jQ (c,g)).bind λg=>
   a (b,g,d,e,(i64.wrap (f+1)))
  else
   a (b,c,d,e,(i64.wrap (f+1)))
 else
  some c
def w8:=E8 w7 fuel
def w9:Rd ((Option (List (List FV)))×FV×(List Int)×Int×Int) FV:=λa (b,c,d,e,f)=>
 bif (decide (f<e))then
  (at? d f).bind λg=>
  (b).bind λh=>
  (at? h f).bind λh=>
  (VK g).bind λi=>
  (at? h i).bind λh=>
  (b).bind λi=>
  (at? i f).bind λi=>
  (w8 (g,h,i,(i.length:Int),0)).bind λg=>
  (ZR (c,g)).bind λg=>
  a (b,g,d,e,(i64.wrap (f+1)))
 else
  some c
def wA:=E8 w9 fuel
def VL:(List Int)×(Option (List (List FV)))->Option FV:=λ(a,b)=>
 (wA (b,(0,(0,0)),a,(a.length:Int),0)).bind λa=>
 some a
def jR:FV×FV->Option (Int):=λ(a,b)=>
 (ME (a.1,b.1)).bind λc=>
 (ME (a.2.1,b.2.1)).bind λd=>
 (ME (a.2.2,b.2.2)).bind λa=>
 (NH [c,d,a]).bind λa=>
 some a
def jS:(List Int)×IX×JF×FV->Option QE:=λ(a,b,c,d)=>
 (bif (!b.isNone)then c.bind (λF=>F a)else some (0,(0,0))).bind λa=>
 (bif (!b.isNone)then jR (a,d)else some 0).bind λa=>
 some ((b.isNone||(decide (a<0))),b,d)
def wB:(List Int)×JF×IX×FV->Option QE:=λ(a,b,_,_)=>
 (app? 24 [] a).bind λc=>
 (b.bind (λF=>F a)).bind λa=>
 some (true,(some c),a)
def AGk:Unit->Option (List Int):=λ_=>
 some []
def wC:List Int->Option (List Int):=λa=>
 (app? 24 [] a).bind λa=>
 some a
def wD:List Int->Option (List Int):=wC
def wE:Rd (HZ×(List Int)×Int×Bool×Int×Int×Int) (Int×Bool):=λa (b,c,d,e,f,g,h)=>
 bif (decide (h<g))then
  (at? c f).bind λi=>
  (NI (i,h)).bind λi=>
  (bif i then b else some (([],([],(0,([],([],(false,(0,([],[])))))))),([],([],([],([],([],0))))))).bind λj=>
  (bif i then at? j.2.2.2.1 f else some []).bind λj=>
  (bif i then at? j h else some 0).bind λj=>
  bif (i&&(!(E1 (II u16 d j) d)))then
   (b).bind λi=>
   (at? i.2.2.2.1 f).bind λi=>
   (at? i h).bind λi=>
   a (b,c,(II u16 d i),true,f,g,(i64.wrap (h+1)))
  else
   a (b,c,d,e,f,g,(i64.wrap (h+1)))
 else
  some (d,e)
def wF:=E8 wE fuel
def wG:Rd (HZ×(List Int)×Int×Bool×Int×Int) (Int×Bool):=λa (b,c,d,e,f,g)=>
 bif (decide (g<f))then
  (NI (d,g)).bind λh=>
  bif (!h)then
   a (b,c,d,e,f,(i64.wrap (g+1)))
  else
   (b).bind λh=>
   (at? h.2.2.2.1 g).bind λh=>
   (wF (b,c,d,e,g,(h.length:Int),0)).bind λh=>
   a (b,c,h.1,h.2,f,(i64.wrap (g+1)))
 else
  some (d,e)
def wH:=E8 wG fuel
def A4Z:Rd (HZ×(List Int)×Int×Bool) (Int):=λa (b,c,d,e)=>
 bif e then
  (b).bind λe=>
  (wH (b,c,d,false,(e.2.1.length:Int),0)).bind λe=>
  a (b,c,e.1,e.2)
 else
  some d
def A4_:=E8 A4Z fuel
def jT:HZ×(List Int)->Option (Int):=λ(a,b)=>
 (a).bind λc=>
 (A4_ (a,b,c.2.2.2.2.2.2,true)).bind λa=>
 some a
def wI:Rd (Int×(List Int)×Int×Int) LL:=λa (b,c,d,e)=>
 bif (decide (e<d))then
  (at? c e).bind λf=>
  (NI (f,0)).bind λf=>
  (bif (!f)then NI (b,e)else some false).bind λg=>
  bif ((!f)&&(!g))then
   some (.inr false)
  else
   a (b,c,d,(i64.wrap (e+1)))
 else
  some (.inl ())
def wJ:=E8 wI fuel
def ZS:HZ×(List Int)->Option (Bool):=λ(a,b)=>
 (jT (a,b)).bind λa=>
 (wJ (a,b,(b.length:Int),0)).bind λa=>
 match a with
 | .inl _=>
  some true
 | .inr a=>
  some a
def wK:Rd (HZ×Int×Int×(List Int)×Int×Int) (Sum (List Int) ((List Int)×Bool)):=λa (b,c,d,e,f,g)=>
 bif (decide (g<f))then
  bif (E1 g c)then
   a (b,c,d,e,f,(i64.wrap (g+1)))
  else
   (in? e.length g).bind λ_=>
   (b).bind λh=>
   (at? h.2.2.2.2.1 c).bind λh=>
   (at? h d).bind λh=>
   (at? h g).bind λh=>
   (in? e.length g).bind λ_=>
   let i:=(e.set g.toNat (JC u16 (e.getD g.toNat 0) h))
   (in? i.length g).bind λ_=>
   bif (E1 (i.getD g.toNat 0) 0)then
    some (.inr ([],false))
   else
    a (b,c,d,i,f,(i64.wrap (g+1)))
 else
  some (.inl e)
def wL:=E8 wK fuel
def ZT:HZ×(List Int)×Int×Int->Option ((List Int)×Bool):=λ(a,b,c,d)=>
 (wD b).bind λb=>
 (shl? u16 1 d).bind λe=>
 (in? b.length c).bind λ_=>
 (wL (a,c,d,(b.set c.toNat e),((b.set c.toNat e).length:Int),0)).bind λb=>
 match b with
 | .inl b=>
  (ZS (a,b)).bind λa=>
  some (b,a)
 | .inr a=>
  some (a.1,a.2)
def wM:Rd ((List Int)×Int×Int×Int) I0:=λa (b,c,d,e)=>
 bif (decide (e<d))then
  (at? b e).bind λf=>
  bif (E1 c f)then
   some (.inr e)
  else
   a (b,c,d,(i64.wrap (e+1)))
 else
  some (.inl ())
def wP:=E8 wM fuel
def wQ:(List Int)×Int->Option (Int):=λ(a,b)=>
 (wP (a,b,(a.length:Int),0)).bind λa=>
 match a with
 | .inl _=>
  some (-1:Int)
 | .inr a=>
  some a
def jU:(List Int)×Int->Option (Bool):=λ(a,b)=>
 (wQ (a,b)).bind λa=>
 some (decide (0<=a))
def wR(slf:Int×(List Int)×Unit×HZ×Unit×Unit×IX×JF×FV->Option QE)(a:Int×(List Int)×HZ×Int×Int×IX×JF×FV->Option (Sum (IX×JF×FV) (Bool×IX×JF×FV))):Int×(List Int)×HZ×Int×Int×IX×JF×FV->Option (Sum (IX×JF×FV) (Bool×IX×JF×FV)):=λ(b,c,d,e,f,g,h,i)=>
 bif (decide (f<e))then
  (at? c b).bind λj=>
  (NI (j,f)).bind λj=>
  bif (!j)then
   a (b,c,d,e,(i64.wrap (f+1)),g,h,i)
  else
   (ZT (d,c,b,f)).bind λj=>
   (bif j.2 then slf ((i64.wrap (b+1)),j.1,(),d,(),(),g,h,i)else some (false,(none:Option (List Int)),(0,(0,0)))).bind λk=>
   bif j.2 then
    bif (j.2&&(!k.1))then
     some (.inr (false,k.2.1,h,k.2.2))
    else
     a (b,c,d,e,(i64.wrap (f+1)),k.2.1,h,k.2.2)
   else
    bif (j.2&&(!k.1))then
     some (.inr (false,g,h,i))
    else
     a (b,c,d,e,(i64.wrap (f+1)),g,h,i)
 else
  some (.inl (g,h,i))
def wS(slf:Int×(List Int)×Unit×HZ×Unit×Unit×IX×JF×FV->Option QE):Int×(List Int)×HZ×Int×Int×IX×JF×FV->Option (Sum (IX×JF×FV) (Bool×IX×JF×FV)):=E8 (wR slf) fuel
def ZU(slf:Int×(List Int)×Unit×HZ×Unit×Unit×IX×JF×FV->Option QE):Int×(List Int)×Unit×HZ×Unit×Unit×IX×JF×FV->Option QE:=λ(a,b,_,c,_,_,d,e,f)=>
 (jS (b,d,e,f)).bind λd=>
 bif (!d.1)then
  some (true,d.2.1,d.2.2)
 else
  (c).bind λf=>
  bif (E1 a (f.2.1.length:Int))then
   (wB (b,e,d.2.1,d.2.2)).bind λf=>
   some (f.1,f.2.1,f.2.2)
  else
   (c).bind λf=>
   (at? f.2.2.2.1 a).bind λf=>
   ((wS slf) (a,b,c,(f.length:Int),0,d.2.1,e,d.2.2)).bind λa=>
   match a with
   | .inl a=>
    some (true,a.1,a.2.2)
   | .inr a=>
    some (a.1,a.2.1,a.2.2.2)
def QO:Nat->Int×(List Int)×Unit×HZ×Unit×Unit×IX×JF×FV->Option QE
 |0=>λ_=>none
 |n+1=>ZU (QO n)
def A4a:Int×(List Int)×Unit×HZ×Unit×Unit×IX×JF×FV->Option QE:=QO 100
def ZV:HZ×Unit×Unit×IX×JF×FV->Option (IX×FV):=λ(a,_,_,b,c,d)=>
 (a).bind λe=>
 (jU (e.2.2.2.2.2.1,0)).bind λe=>
 (bif (!e)then a else some (([],([],(0,([],([],(false,(0,([],[])))))))),([],([],([],([],([],0))))))).bind λf=>
 (bif (!e)then ZS (a,f.2.2.2.2.2.1)else some false).bind λf=>
 bif ((!e)&&f)then
  (a).bind λe=>
  (A4a (0,e.2.2.2.2.2.1,(),a,(),(),b,c,d)).bind λa=>
  some (a.2.1,a.2.2)
 else
  some (b,d)
def wT:Rd (HZ×E3×(List Int)×Int×Int) E3:=λa (b,c,d,e,f)=>
 bif (decide (f<e))then
  (at? d f).bind λg=>
  (VK g).bind λg=>
  bif (decide (0<g))then
   (b).bind λh=>
   (at? h.2.1 f).bind λh=>
   (b).bind λi=>
   (at? i.2.2.1 f).bind λi=>
   (at? i (i64.wrap (g-1))).bind λg=>
   (app? 48 c [(h,g)]).bind λg=>
   a (b,g,d,e,(i64.wrap (f+1)))
  else
   a (b,c,d,e,(i64.wrap (f+1)))
 else
  some c
def wU:=E8 wT fuel
def ZW:HZ×(List Int)->Option E3:=λ(a,b)=>
 (wU (a,[],b,(b.length:Int),0)).bind λa=>
 some a
def wV:Rd (H0×FV×E3×Int×Int) (H0×FV):=λa (b,c,d,e,f)=>
 bif (decide (f<e))then
  (at? d f).bind λg=>
  (OF (b,g)).bind λg=>
  (ZR (c,g)).bind λg=>
  a (b,g,d,e,(i64.wrap (f+1)))
 else
  some (b,c)
def wW:=E8 wV fuel
def wX:Rd (E3×FV×E3×Int×Int) FV:=λa (b,c,d,e,f)=>
 bif (decide (f<e))then
  (at? d f).bind λg=>
  (MG (b,g.1)).bind λg=>
  bif (!g.2)then
   a (b,(c.1,((i64.wrap (c.2.1+1)),c.2.2)),d,e,(i64.wrap (f+1)))
  else
   a (b,c,d,e,(i64.wrap (f+1)))
 else
  some c
def wY:=E8 wX fuel
def LP:H0×E3->Option FV:=λ(a,b)=>
 (wW (a,(0,(0,0)),b,(b.length:Int),0)).bind λa=>
 (wY (b,a.2,a.1.2.2.2.1,(a.1.2.2.2.1.length:Int),0)).bind λa=>
 some a
def NJ:KB×H8×Int×E3×(List DX)×Bool×S1->Option (E3×FV×Bool×Int):=λa=>
 (JG a).bind λb=>
 bif (!(E1 b 0))then
  some ([],(0,(0,0)),false,b)
 else
  (jK a).bind λb=>
  bif (!b.2)then
   some ([],(0,(0,0)),false,0)
  else
   (ZQ b.1).bind λc=>
   (ZV (b.1,(),(),(none:Option (List Int)),(some (λx=>(VL (x,(some c))).bind λr=>some r)),(0,(0,0)))).bind λc=>
   bif c.1.isNone then
    some ([],(0,(0,0)),false,0)
   else
    (ZW (b.1,(c.1.getD []))).bind λb=>
    (LP (a,b)).bind λa=>
    some (b,a,true,0)
def jV:Unit->Option (Bool):=λ_=>
 (OE [78,72,76,76,78,78]).bind λa=>
 (ZF (5,[57],[49,48])).bind λb=>
 some ((((E1 a.1 34)&&(E1 a.2 0))&&(E1 b.1 (-1:Int)))&&(E1 b.2 0))
def VM:H0×E3->Option (Int):=λ(a,b)=>
 (JG a).bind λa=>
 bif (!(E1 a 0))then
  some a
 else
  (iG b).bind λa=>
  some a
def wZ:Rd (E3×DX×NA×H8×Int×Int) NA:=λa (b,c,d,e,f,g)=>
 bif (decide (g<f))then
  (at? e g).bind λh=>
  (MG (b,h.1)).bind λi=>
  (SH (h.2.1,i.1)).bind λj=>
  bif (!i.2)then
   (app? 72 d [(1,(h.1,c))]).bind λi=>
   a (b,c,i,e,f,(i64.wrap (g+1)))
  else
   bif (!j.1)then
    (app? 72 d [(2,(h.1,c))]).bind λh=>
    a (b,c,h,e,f,(i64.wrap (g+1)))
   else
    a (b,c,d,e,f,(i64.wrap (g+1)))
 else
  some d
def A4b:=E8 wZ fuel
def ZX:E3×H8×DX->Option NA:=λ(a,b,c)=>
 (A4b (a,c,[],b,(b.length:Int),0)).bind λa=>
 some a
def AGl:Unit->Option (List DX):=λ_=>
 some []
def w_:List DX->Option (List DX):=λa=>
 (app? 24 [] a).bind λa=>
 some a
def ZY:List DX->Option (List DX):=w_
def x3:Rd ((List DX)×H8×Int×Int) (List DX):=λa (b,c,d,e)=>
 bif (decide (e<d))then
  (at? c e).bind λf=>
  (app? 24 b [f.1]).bind λf=>
  a (f,c,d,(i64.wrap (e+1)))
 else
  some b
def x4:=E8 x3 fuel
def x5:Rd ((List DX)×H8×Int×Int) (List DX):=λa (b,c,d,e)=>
 bif (decide (e<d))then
  (at? c e).bind λf=>
  (app? 24 b [f.1]).bind λf=>
  a (f,c,d,(i64.wrap (e+1)))
 else
  some b
def x6:=E8 x5 fuel
def A4c:Rd (E3×H0×(List (DX×Bool))×(List DX)) (List (DX×Bool)):=λa (b,c,d,e)=>
 bif (decide (0<(e.length:Int)))then
  (in? e.length 0).bind λ_=>
  (cut? e 1 (e.length:Int)).bind λf=>
  (MG (b,(e.getD 0 []))).bind λg=>
  bif ((!g.2)||((FM E5 (e.getD 0 []) d).getD false))then
   a (b,c,d,f)
  else
   (SG (c,((e.getD 0 []),g.1))).bind λg=>
   (x6 (f,g,(g.length:Int),0)).bind λf=>
   a (b,c,(FK E5 (e.getD 0 []) true d),f)
 else
  some d
def A4d:=E8 A4c fuel
def jW:H0×E3->Option (List (DX×Bool)):=λ(a,b)=>
 (ZY a.2.2.2.2.1).bind λc=>
 (QK (a,a.2.1)).bind λd=>
 (x4 (c,d,(d.length:Int),0)).bind λc=>
 (A4d (b,a,[],c)).bind λa=>
 some a
def x7:Rd (E3×H0×NA×E3×Int×Int) (H0×NA):=λa (b,c,d,e,f,g)=>
 bif (decide (g<f))then
  (at? e g).bind λh=>
  (ZL (c,h.1)).bind λi=>
  (SD (i,h.2)).bind λi=>
  bif (!i)then
   (app? 72 d [(3,(h.1,[]))]).bind λi=>
   a (b,c,i,e,f,(i64.wrap (g+1)))
  else
   (SG (c,h)).bind λi=>
   (ZX (b,i,h.1)).bind λh=>
   (app? 72 d h).bind λh=>
   a (b,c,h,e,f,(i64.wrap (g+1)))
 else
  some (c,d)
def x8:=E8 x7 fuel
def x9:Rd (NA×(List (DX×Bool))×E3×Int×Int) NA:=λa (b,c,d,e,f)=>
 bif (decide (f<e))then
  (at? d f).bind λg=>
  bif (!((FM E5 g.1 c).getD false))then
   (app? 72 b [(4,(g.1,[]))]).bind λg=>
   a (g,c,d,e,(i64.wrap (f+1)))
  else
   a (b,c,d,e,(i64.wrap (f+1)))
 else
  some b
def xA:=E8 x9 fuel
def xB:Rd (E3×H0×NA×(List DX)×Int×Int) NA:=λa (b,c,d,e,f,g)=>
 bif (decide (g<f))then
  (at? e g).bind λh=>
  (MG (b,h)).bind λi=>
  (MG (c.2.2.2.1,h)).bind λj=>
  bif ((!i.2)||(!(E5 i.1 j.1)))then
   (app? 72 d [(5,(h,[]))]).bind λh=>
   a (b,c,h,e,f,(i64.wrap (g+1)))
  else
   a (b,c,d,e,f,(i64.wrap (g+1)))
 else
  some d
def xC:=E8 xB fuel
def jX:H0×E3->Option NA:=λ(a,b)=>
 (QK (a,a.2.1)).bind λc=>
 (ZX (b,c,[])).bind λc=>
 (x8 (b,a,c,b,(b.length:Int),0)).bind λa=>
 (jW (a.1,b)).bind λc=>
 (xA (a.2,c,b,(b.length:Int),0)).bind λc=>
 (xC (b,a.1,c,a.1.2.2.2.2.1,(a.1.2.2.2.2.1.length:Int),0)).bind λa=>
 some a
def jY:H0×E3->Option (NA×Int):=λ(a,b)=>
 (VM (a,b)).bind λc=>
 bif (!(E1 c 0))then
  some ([],c)
 else
  (jX (a,b)).bind λa=>
  some (a,0)
def AGm:Rd F9 LL:=λa (b,c,d)=>
 bif (decide (d<c))then
  (at? b d).bind λe=>
  (bif (decide (97<=(e.toNat:Int)))then at? b d else some 0).bind λf=>
  let g:=((decide (97<=(e.toNat:Int)))&&(decide ((f.toNat:Int)<=122)))
  (bif (!g)then at? b d else some 0).bind λe=>
  (bif ((!g)&&(decide (48<=(e.toNat:Int))))then at? b d else some 0).bind λf=>
  bif (!(g||((decide (48<=(e.toNat:Int)))&&(decide ((f.toNat:Int)<=57)))))then
   some (.inr false)
  else
   a (b,c,(i64.wrap (d+1)))
 else
  some (.inl ())
def A4e:=E8 AGm fuel
def xD:DX->Option (Bool):=λa=>
 (A4e (a,(a.length:Int),0)).bind λb=>
 match b with
 | .inl _=>
  some ((!(E5 a []))&&(decide ((a.length:Int)<=30)))
 | .inr a=>
  some a
def jZ:(DX×DX)×(Option QB)->Option (Bool):=λ(a,b)=>
 (b).bind λb=>
 some (E5 a.1 b.1)
def xE:Rd (DX×E3×OB×H8×Int×Int) OB:=λa (b,c,d,e,f,g)=>
 bif (decide (g<f))then
  (at? e g).bind λh=>
  (ZG (c,(λx=>(jZ (x,(some h))).bind λr=>some r))).bind λi=>
  bif (decide (0<=i))then
   (UL i).bind λi=>
   (app? 72 d.2.2.2.2 [(b,(i,h.2.2))]).bind λh=>
   a (b,c,(d.1,(d.2.1,(d.2.2.1,(d.2.2.2.1,h)))),e,f,(i64.wrap (g+1)))
  else
   a (b,c,(d.1,(d.2.1,(d.2.2.1,(d.2.2.2.1,d.2.2.2.2)))),e,f,(i64.wrap (g+1)))
 else
  some (d.1,(d.2.1,(d.2.2.1,(d.2.2.2.1,d.2.2.2.2))))
def xF:=E8 xE fuel
def SL:DX×H8×E3×OB->Option OB:=λ(a,b,c,d)=>
 (xF (a,c,(d.1,(d.2.1,(d.2.2.1,(d.2.2.2.1,d.2.2.2.2)))),b,(b.length:Int),0)).bind λa=>
 some (a.1,(a.2.1,(a.2.2.1,(a.2.2.2.1,a.2.2.2.2))))
def AGn:Rd F9 LL:=λa (b,c,d)=>
 bif (decide (d<c))then
  (at? b d).bind λe=>
  (bif (!(decide ((e.toNat:Int)<32)))then at? b d else some 0).bind λf=>
  bif ((decide ((e.toNat:Int)<32))||(E1 (f.toNat:Int) 127))then
   some (.inr false)
  else
   a (b,c,(i64.wrap (d+1)))
 else
  some (.inl ())
def A4f:=E8 AGn fuel
def SM:DX->Option (Bool):=λa=>
 (A4f (a,(a.length:Int),0)).bind λb=>
 match b with
 | .inl _=>
  some (decide ((a.length:Int)<=100))
 | .inr a=>
  some a
def xG:Rd F9 LL:=λa (b,c,d)=>
 bif (decide (d<c))then
  (at? b d).bind λe=>
  (bif (!(decide ((e.toNat:Int)<33)))then at? b d else some 0).bind λf=>
  bif ((decide ((e.toNat:Int)<33))||(decide (126<(f.toNat:Int))))then
   some (.inr false)
  else
   a (b,c,(i64.wrap (d+1)))
 else
  some (.inl ())
def xH:=E8 xG fuel
def SN:DX×Int->Option (Bool):=λ(a,b)=>
 (xH (a,(a.length:Int),0)).bind λc=>
 match c with
 | .inl _=>
  some ((!(E5 a []))&&(decide ((a.length:Int)<=b)))
 | .inr a=>
  some a
def AGo:Rd F9 LL:=λa (b,c,d)=>
 bif (decide (d<c))then
  (at? b d).bind λe=>
  (YH (e.toNat:Int)).bind λe=>
  (bif (!(decide (e<0)))then at? b d else some 0).bind λf=>
  (bif ((!(decide (e<0)))&&(decide (65<=(f.toNat:Int))))then at? b d else some 0).bind λg=>
  bif ((decide (e<0))||((decide (65<=(f.toNat:Int)))&&(decide ((g.toNat:Int)<=70))))then
   some (.inr false)
  else
   a (b,c,(i64.wrap (d+1)))
 else
  some (.inl ())
def A4g:=E8 AGo fuel
def A4h:DX×Int->Option (Bool):=λ(a,b)=>
 (A4g (a,(a.length:Int),0)).bind λc=>
 match c with
 | .inl _=>
  some (E1 (a.length:Int) b)
 | .inr a=>
  some a
def A4i:Int×Bool->Option (Int):=λ(a,b)=>
 bif b then
  some 16
 else
  some a
def AGp:Rd (E3×E3×Int×Int) I0:=λa (b,c,d,e)=>
 bif (decide (e<d))then
  (at? c e).bind λf=>
  (A4i (64,(E5 f.1 [115,117,109,54,52]))).bind λg=>
  bif ((!(E5 f.1 [115,104,97,50,53,54]))&&(!(E5 f.1 [115,117,109,54,52])))then
   some (.inr 7)
  else
   (A4h (f.2,g)).bind λg=>
   bif (!g)then
    some (.inr 2)
   else
    (bif (decide (0<e))then at? b (i64.wrap (e-1))else some ([],[])).bind λg=>
    bif ((decide (0<e))&&(Op.bytesLess f.1 g.1||E5 f.1 g.1))then
     some (.inr 10)
    else
     a (b,c,d,(i64.wrap (e+1)))
 else
  some (.inl ())
def A4j:=E8 AGp fuel
def A4k:List (DX×DX)->Option (Int):=λa=>
 bif (decide (4<(a.length:Int)))then
  some 3
 else
  (A4j (a,a,(a.length:Int),0)).bind λa=>
  match a with
  | .inl _=>
   some 0
  | .inr a=>
   some a
def AGq:Rd ((List DX)×QC×(List DX)×Int×Int) I0:=λa (b,c,d,e,f)=>
 bif (decide (f<e))then
  (at? d f).bind λg=>
  (SN (g,200)).bind λh=>
  bif (!h)then
   some (.inr 8)
  else
   (bif ((!c.1)&&(decide (0<f)))then at? b (i64.wrap (f-1))else some []).bind λh=>
   bif (((!c.1)&&(decide (0<f)))&&(Op.bytesLess g h||E5 g h))then
    some (.inr 10)
   else
    a (b,c,d,e,(i64.wrap (f+1)))
 else
  some (.inl ())
def A4l:=E8 AGq fuel
def A4m:QC×(List DX)->Option (Int):=λ(a,b)=>
 bif (decide (100<(b.length:Int)))then
  some 3
 else
  (A4l (b,a,b,(b.length:Int),0)).bind λa=>
  match a with
  | .inl _=>
   some 0
  | .inr a=>
   some a
def AGr:Rd (H3×Int×Int) (Sum H3 (Int)):=λa (b,c,d)=>
 bif (decide (d<c))then
  (at? b.2.2.2.1 d).bind λe=>
  (bif (!(decide ((e.toNat:Int)<32)))then at? b.2.2.2.1 d else some 0).bind λf=>
  bif ((decide ((e.toNat:Int)<32))||(decide (126<(f.toNat:Int))))then
   some (.inr 2)
  else
   a (b,c,(i64.wrap (d+1)))
 else
  some (.inl b)
def A4n:=E8 AGr fuel
def j_:QC×H3->Option (Int):=λ(a,b)=>
 (SN (b.1,100)).bind λc=>
 bif (!c)then
  some 8
 else
  (JS b.2.1).bind λc=>
  bif (!(E1 c 0))then
   some c
  else
   (A4k b.2.2.1).bind λc=>
   bif (!(E1 c 0))then
    some c
   else
    (A4n (b,(b.2.2.2.1.length:Int),0)).bind λb=>
    match b with
    | .inl b=>
     bif (!(E5 b.2.2.2.1 []))then
      none
     else
      (A4m (a,b.2.2.2.2)).bind λa=>
      some a
    | .inr a=>
     some a
def OG:M9×M9->Option (Int):=λ(a,b)=>
 (LN (a.1,b.1)).bind λc=>
 (LN (a.2.1,b.2.1)).bind λd=>
 (ME (a.2.2,b.2.2)).bind λa=>
 (NH [c,d,a]).bind λa=>
 some a
def xI:Rd (HU×QC×HU×Int×Int) I0:=λa (b,c,d,e,f)=>
 bif (decide (f<e))then
  (at? d f).bind λg=>
  bif ((decide (g.2.2<1))||(decide (4<g.2.2)))then
   some (.inr 9)
  else
   bif ((!((FM E5 g.1 c.2).getD false))||(!((FM E5 g.2.1 c.2).getD false)))then
    some (.inr 4)
   else
    bif (E5 g.1 g.2.1)then
     some (.inr 2)
    else
     (bif ((!c.1)&&(decide (0<f)))then at? b (i64.wrap (f-1))else some ([],([],0))).bind λh=>
     (bif ((!c.1)&&(decide (0<f)))then OG (h,g)else some 0).bind λg=>
     bif (((!c.1)&&(decide (0<f)))&&(decide (0<=g)))then
      some (.inr 10)
     else
      a (b,c,d,e,(i64.wrap (f+1)))
 else
  some (.inl ())
def xJ:=E8 xI fuel
def k9:QC×HU->Option (Int):=λ(a,b)=>
 (xJ (b,a,b,(b.length:Int),0)).bind λa=>
 match a with
 | .inl _=>
  some 0
 | .inr a=>
  some a
def xK:Rd (QC×J5×(List H3)×Int×Int) (Sum (QC×J5) (Int)):=λa (b,c,d,e,f)=>
 bif (decide (f<e))then
  (at? d f).bind λg=>
  (j_ ((b.1,b.2),g)).bind λh=>
  bif (!(E1 h 0))then
   some (.inr h)
  else
   (bif ((!b.1)&&(decide (0<f)))then at? c.2.2.2.1 (i64.wrap (f-1))else some ([],(([],([],([],([],([],[]))))),([],([],[]))))).bind λh=>
   bif (((!b.1)&&(decide (0<f)))&&(Op.bytesLess g.1 h.1||E5 g.1 h.1))then
    some (.inr 10)
   else
    a ((b.1,(FK E5 g.1 true b.2)),c,d,e,(i64.wrap (f+1)))
 else
  some (.inl ((b.1,b.2),c))
def xL:=E8 xK fuel
def ZZ:QC×J5->Option (Int):=λ(a,b)=>
 (bif (!(E5 b.1 []))then SM b.1 else some false).bind λc=>
 (bif (!((E5 b.1 [])||(!c)))then SM b.2.1 else some false).bind λd=>
 bif (((E5 b.1 [])||(!c))||(!d))then
  some 8
 else
  bif ((decide (3000<(b.2.2.2.1.length:Int)))||(decide (20000<(b.2.2.2.2.length:Int))))then
   some 3
  else
   (xL ((a.1,a.2),b,b.2.2.2.1,(b.2.2.2.1.length:Int),0)).bind λa=>
   match a with
   | .inl a=>
    bif (!((FM E5 a.2.2.2.1 a.1.2).getD false))then
     some 4
    else
     (k9 ((a.1.1,a.1.2),a.2.2.2.2.2)).bind λa=>
     some a
   | .inr a=>
    some a
def AGs:Unit->Option E3:=λ_=>
 some []
def xM:List (DX×DX)->Option E3:=λa=>
 (app? 48 [] a).bind λa=>
 some a
def kA:List (DX×DX)->Option E3:=xM
def AGt:Unit->Option E3:=λ_=>
 some []
def A4o:List (DX×DX)->Option E3:=λa=>
 (app? 48 [] a).bind λa=>
 some a
def xN:List (DX×DX)->Option E3:=A4o
def kB:DX×HT×E3×DX×(List DX)->Option (DX×(HT×(E3×(DX×(List DX))))):=λa=>
 (kA a.2.1.2.2.2.2.1).bind λb=>
 (xN a.2.2.1).bind λc=>
 (ZY a.2.2.2.2).bind λd=>
 some (a.1,((a.2.1.1,(a.2.1.2.1,(a.2.1.2.2.1,(a.2.1.2.2.2.1,(b,a.2.1.2.2.2.2.2))))),(c,(a.2.2.2.1,d))))
def VN:Rd ((List H3)×Int×QD×Int) (List H3):=λa (b,c,d,e)=>
 (bif (decide (c<e))then in? b.length e else some ()).bind λ_=>
 (bif (decide (c<e))then in? b.length (i64.wrap (e-1))else some ()).bind λ_=>
 (bif (decide (c<e))then d ((b.getD e.toNat ([],(([],([],([],([],([],[]))))),([],([],[]))))),(b.getD ((i64.wrap (e-1)).toNat) ([],(([],([],([],([],([],[]))))),([],([],[]))))))else some 0).bind λf=>
 bif ((decide (c<e))&&(decide (f<0)))then
  (in? b.length (i64.wrap (e-1))).bind λ_=>
  let f:=(b.getD ((i64.wrap (e-1)).toNat) ([],(([],([],([],([],([],[]))))),([],([],[])))))
  (in? b.length e).bind λ_=>
  (in? b.length e).bind λ_=>
  (in? (b.set e.toNat f).length (i64.wrap (e-1))).bind λ_=>
  a (((b.set e.toNat f).set ((i64.wrap (e-1)).toNat) (b.getD e.toNat ([],(([],([],([],([],([],[]))))),([],([],[])))))),c,d,(i64.wrap (e-1)))
 else
  some b
def kC:=E8 VN fuel
def SO:Rd ((List H3)×Int×Int×QD×Int) (List H3):=λa (b,c,d,e,f)=>
 bif (decide (f<d))then
  (kC (b,c,e,f)).bind λg=>
  a (g,c,d,e,(i64.wrap (f+1)))
 else
  some b
def xO:=E8 SO fuel
def Z_:(List H3)×Int×Int×QD->Option (List H3):=λ(a,b,c,d)=>
 (xO (a,b,c,d,(i64.wrap (b+1)))).bind λa=>
 some a
def kD:Rd ((List H3)×Int×QD×Int×Int×Int) ((List H3)×Int):=λa (b,c,d,e,f,g)=>
 bif (decide (g<=c))then
  (Z_ (b,f,g,d)).bind λh=>
  a (h,c,d,e,g,(i64.wrap (g+e)))
 else
  some (b,f)
def xP:=E8 kD fuel
def AGu:Rd ((List H3)×Int×QD×Int×Int×Int) ((List H3)×Int):=λ_ (a,b,_,_,c,d)=>
 bif (decide (d<=b))then
  none
 else
  some (a,c)
def A4p:=E8 AGu fuel
def kE:Rd ((List H3)×Int×QD×Int) (List H3):=λa (b,c,d,e)=>
 bif (decide (e<c))then
  (A4p (b,c,d,e,0,(i64.wrap (2*e)))).bind λf=>
  bif (decide ((i64.wrap (f.2+e))<c))then
   none
  else
   a (f.1,c,d,(i64.wrap (e*2)))
 else
  some b
def xQ:=E8 kE fuel
def xR:(List H3)×Int×QD->Option (List H3):=λ(a,b,c)=>
 (xP (a,b,c,20,0,20)).bind λa=>
 (Z_ (a.1,a.2,b,c)).bind λa=>
 (xQ (a,b,c,20)).bind λa=>
 some a
def kF:(List H3)×QD->Option (List H3):=λ(a,b)=>
 (xR (a,(a.length:Int),b)).bind λa=>
 some a
def kG:H3×H3->Option (Int):=λ(a,b)=>
 (LN (a.1,b.1)).bind λa=>
 some a
def AGv:Unit->Option HU:=λ_=>
 some []
def xS:List M9->Option HU:=λa=>
 (app? 72 [] a).bind λa=>
 some a
def kH:List M9->Option HU:=xS
def A4q:Rd (HU×Int) HU:=λa (b,c)=>
 bif (decide (c<(b.length:Int)))then
  (in? b.length c).bind λ_=>
  let d:=(b.getD c.toNat ([],([],0)))
  (in? b.length (i64.wrap (c-1))).bind λ_=>
  let e:=(b.getD ((i64.wrap (c-1)).toNat) ([],([],0)))
  bif ((E5 d.1 e.1)&&((E5 d.2.1 e.2.1)&&(E1 d.2.2 e.2.2)))then
   none
  else
   a (b,(i64.wrap (c+1)))
 else
  some b
def kI:=E8 A4q fuel
def kJ:List M9->Option HU:=λa=>
 bif (decide ((a.length:Int)<2))then
  some a
 else
  (kI (a,1)).bind λa=>
  some a
def xT:Rd (OB×(List H3)×Int×Int) OB:=λa (b,c,d,e)=>
 bif (decide (e<d))then
  (at? c e).bind λf=>
  (kB f).bind λf=>
  (SI f.2.1).bind λg=>
  (slices_Sort_string f.2.2.2.2).bind λh=>
  (slices_Compact_string h).bind λh=>
  (app? 240 b.2.2.2.1 [(f.1,(g.1,(f.2.2.1,(f.2.2.2.1,h))))]).bind λf=>
  a ((b.1,(b.2.1,(b.2.2.1,(f,b.2.2.2.2)))),c,d,(i64.wrap (e+1)))
 else
  some (b.1,(b.2.1,(b.2.2.1,(b.2.2.2.1,b.2.2.2.2))))
def xU:=E8 xT fuel
def A4r:Rd (J5×OB×Int) (Sum (J5×OB) (J5×Int)):=λa (b,c,d)=>
 bif (decide (d<(c.2.2.2.1.length:Int)))then
  (in? c.2.2.2.1.length d).bind λ_=>
  (in? c.2.2.2.1.length (i64.wrap (d-1))).bind λ_=>
  bif (E5 ((c.2.2.2.1.getD d.toNat ([],(([],([],([],([],([],[]))))),([],([],[]))))).1) ((c.2.2.2.1.getD ((i64.wrap (d-1)).toNat) ([],(([],([],([],([],([],[]))))),([],([],[]))))).1))then
   some (.inr (([],([],([],([],[])))),5))
  else
   a (b,(c.1,(c.2.1,(c.2.2.1,(c.2.2.2.1,c.2.2.2.2)))),(i64.wrap (d+1)))
 else
  some (.inl (b,(c.1,(c.2.1,(c.2.2.1,(c.2.2.2.1,c.2.2.2.2))))))
def kK:=E8 A4r fuel
def aA:DX×DX×DX×(List H3)×HU->Option (J5×Int):=λa=>
 (ZZ ((true,[]),a)).bind λb=>
 bif (!(E1 b 0))then
  some (([],([],([],([],[])))),b)
 else
  (xU ((a.1,(a.2.1,(a.2.2.1,([],a.2.2.2.2)))),a.2.2.2.1,(a.2.2.2.1.length:Int),0)).bind λb=>
  (kF (b.2.2.2.1,(λx=>(kG x).bind λr=>some r))).bind λc=>
  (kK (([],([],([],([],[])))),(b.1,(b.2.1,(b.2.2.1,(c,b.2.2.2.2)))),1)).bind λb=>
  match b with
  | .inl b=>
   (kH a.2.2.2.2).bind λa=>
   (rF (a,(λx=>(OG x).bind λr=>some r))).bind λa=>
   (kJ a).bind λa=>
   some ((b.2.1,(b.2.2.1,(b.2.2.2.1,(b.2.2.2.2.1,a)))),0)
  | .inr a=>
   some (a.1,a.2)
def xV:Rd (H0×E3×J5×OB×E3×Int×Int) (Sum (J5×OB) (J5×Int)):=λa (b,c,d,e,f,g,h)=>
 bif (decide (h<g))then
  (at? f h).bind λi=>
  (MD i.1).bind λj=>
  (QL (j.1,i.2)).bind λj=>
  bif (!(E1 j.2 0))then
   some (.inr (([],([],([],([],[])))),j.2))
  else
   (UL h).bind λk=>
   (app? 240 e.2.2.2.1 [(k,(j.1,([],([],[]))))]).bind λj=>
   (UL h).bind λk=>
   (SG (b,i)).bind λi=>
   (SL (k,i,c,(e.1,(e.2.1,(e.2.2.1,(j,e.2.2.2.2)))))).bind λi=>
   a (b,c,d,(i.1,(i.2.1,(i.2.2.1,(i.2.2.2.1,i.2.2.2.2)))),f,g,(i64.wrap (h+1)))
 else
  some (.inl (d,(e.1,(e.2.1,(e.2.2.1,(e.2.2.2.1,e.2.2.2.2))))))
def kL:=E8 xV fuel
def aB:H0×E3×DX->Option (J5×Int):=λ(a,b,c)=>
 (VM (a,b)).bind λd=>
 bif (!(E1 d 0))then
  some (([],([],([],([],[])))),d)
 else
  (xD c).bind λd=>
  bif (!d)then
   some (([],([],([],([],[])))),8)
  else
   (QK (a,a.2.1)).bind λd=>
   (SL ([114,111,111,116],d,b,(c,([],([114,111,111,116],([([114,111,111,116],(([112,108,97,105,110],([],(c,([],([],[]))))),([],([],[]))))],[])))))).bind λc=>
   (kL (a,b,([],([],([],([],[])))),(c.1,(c.2.1,(c.2.2.1,(c.2.2.2.1,c.2.2.2.2)))),b,(b.length:Int),0)).bind λa=>
   match a with
   | .inl a=>
    (aA (a.2.1,(a.2.2.1,(a.2.2.2.1,(a.2.2.2.2.1,a.2.2.2.2.2))))).bind λa=>
    some (a.1,a.2)
   | .inr a=>
    some (a.1,a.2)
def kM:DX×DX×DX×(List H3)×HU->Option (Int):=λa=>
 (ZZ ((false,[]),a)).bind λa=>
 some a
def kN:(Int×Int)×(Int×Int)->Option (Int):=λ(a,b)=>
 (ME (a.1,b.1)).bind λc=>
 (ME (a.2,b.2)).bind λa=>
 (NH [c,a]).bind λa=>
 some a
def xW:Rd (J5×JR×MA×Int×GW×(List Int)×Int×Int) (J5×MA):=λa (b,c,d,e,f,g,h,i)=>
 bif (decide (i<h))then
  (at? g i).bind λj=>
  (at? c e).bind λk=>
  (at? b.2.2.2.1 j).bind λl=>
  (QN (f,k,f.1,l.2.1.2.2.2.1)).bind λk=>
  bif k then
   (app? 48 d [(j,e)]).bind λj=>
   a (b,c,j,e,f,g,h,(i64.wrap (i+1)))
  else
   a (b,c,d,e,f,g,h,(i64.wrap (i+1)))
 else
  some (b,d)
def xX:=E8 xW fuel
def xY:Rd ((List (DX×(List Int)))×J5×JR×MA×(List GW)×Int×Int) MA:=λa (b,c,d,e,f,g,h)=>
 bif (decide (h<g))then
  (at? f h).bind λi=>
  (xX (c,d,e,h,i,((FM E5 i.1 b).getD []),(((FM E5 i.1 b).getD []).length:Int),0)).bind λc=>
  a (b,c.1,d,c.2,f,g,(i64.wrap (h+1)))
 else
  some e
def xZ:=E8 xY fuel
def kO:IW×J5×(List (DX×(List Int)))->Option MA:=λ(a,b,c)=>
 (MH a).bind λd=>
 (xZ (c,b,d.1,[],a.2.2.2.2.2.2,(a.2.2.2.2.2.2.length:Int),0)).bind λa=>
 (rE (a,(λx=>(kN x).bind λr=>some r))).bind λa=>
 some a
def x_:Rd ((List (DX×List Int))×(List H3)×Int×Int) (List (DX×List Int)):=λa (b,c,d,e)=>
 bif (decide (e<d))then
  (at? c e).bind λf=>
  (JT f.2.1).bind λf=>
  (app? 24 ((FM E5 f.1 b).getD []) [e]).bind λg=>
  (bif E5 f.1 f.1 then some ()else none).bind λ_=>
  a ((FK E5 f.1 g b),c,d,(i64.wrap (e+1)))
 else
  some b
def yA:=E8 x_ fuel
def yB:Rd (J5×HU×IW×MA×Int×Int) (Sum (J5×HU) (HU×Int)):=λa (b,c,d,e,f,g)=>
 bif (decide (g<f))then
  (at? e g).bind λh=>
  bif (E1 (c.length:Int) 100000)then
   some (.inr ([],3))
  else
   (at? b.2.2.2.1 h.1).bind λi=>
   (app? 72 c [(d.1,(i.1,h.2))]).bind λh=>
   a (b,h,d,e,f,(i64.wrap (g+1)))
 else
  some (.inl (b,c))
def yC:=E8 yB fuel
def yD:Rd (J5×(List (DX×(List Int)))×HU×(List IW)×Int×Int) (Sum HU (HU×Int)):=λa (b,c,d,e,f,g)=>
 bif (decide (g<f))then
  (at? e g).bind λh=>
  bif h.2.2.2.2.1 then
   a (b,c,d,e,f,(i64.wrap (g+1)))
  else
   (kO (h,b,c)).bind λi=>
   (yC (b,d,h,i,(i.length:Int),0)).bind λb=>
   match b with
   | .inl b=>
    a (b.1,c,b.2,e,f,(i64.wrap (g+1)))
   | .inr a=>
    some (.inr (a.1,a.2))
 else
  some (.inl d)
def yE:=E8 yD fuel
def aC:S1×J5->Option (HU×Int):=λ(a,b)=>
 (ZK a).bind λc=>
 bif (!(E1 c 0))then
  some ([],c)
 else
  (kM b).bind λc=>
  bif (!(E1 c 0))then
   some ([],c)
  else
   (yA ([],b.2.2.2.1,(b.2.2.2.1.length:Int),0)).bind λc=>
   (yE (b,c,[],a.2.1,(a.2.1.length:Int),0)).bind λa=>
   match a with
   | .inl a=>
    some (a,0)
   | .inr a=>
    some (a.1,a.2)
def aD:M9×(Option M9)->Option (Bool):=λ(a,b)=>
 (b).bind λc=>
 (bif (E5 a.1 c.1)then b else some ([],([],0))).bind λb=>
 some ((E5 a.1 c.1)&&(E5 a.2.1 b.2.1))
def yF:Rd (HU×(M9->Option Bool)×Int×Int) I0:=λa (b,c,d,e)=>
 bif (decide (e<d))then
  (at? b e).bind λf=>
  (c f).bind λf=>
  bif f then
   some (.inr e)
  else
   a (b,c,d,(i64.wrap (e+1)))
 else
  some (.inl ())
def yG:=E8 yF fuel
def kP:HU×(M9->Option Bool)->Option (Int):=λ(a,b)=>
 (yG (a,b,(a.length:Int),0)).bind λa=>
 match a with
 | .inl _=>
  some (-1:Int)
 | .inr a=>
  some a
def kQ:HU×(M9->Option Bool)->Option (Bool):=λ(a,b)=>
 (kP (a,b)).bind λa=>
 some (decide (0<=a))
def kR:IW×(Option M9)->Option (Bool):=λ(a,b)=>
 (b).bind λb=>
 some (E5 a.1 b.1)
def yH:Rd ((List IW)×(IW->Option Bool)×Int×Int) I0:=λa (b,c,d,e)=>
 bif (decide (e<d))then
  (at? b e).bind λf=>
  (c f).bind λf=>
  bif f then
   some (.inr e)
  else
   a (b,c,d,(i64.wrap (e+1)))
 else
  some (.inl ())
def yI:=E8 yH fuel
def kS:(List IW)×(IW->Option Bool)->Option (Int):=λ(a,b)=>
 (yI (a,b,(a.length:Int),0)).bind λa=>
 match a with
 | .inl _=>
  some (-1:Int)
 | .inr a=>
  some a
def yJ:Rd (E3×E3×Int×Int) LL:=λa (s1_0,s2_1,b,c)=>
 bif (decide (c<b))then
  (at? s1_0 c).bind λd=>
  (at? s2_1 c).bind λe=>
  bif (!((E5 d.1 e.1)&&(E5 d.2 e.2)))then
   some (.inr false)
  else
   a (s1_0,s2_1,b,(i64.wrap (c+1)))
 else
  some (.inl ())
def yK:=E8 yJ fuel
def kT:E3×E3->Option (Bool):=λ(s1_0,s2_1)=>
 bif (!(E1 (s1_0.length:Int) (s2_1.length:Int)))then
  some false
 else
  (yK (s1_0,s2_1,(s1_0.length:Int),0)).bind λa=>
  match a with
  | .inl _=>
   some true
  | .inr a=>
   some a
def yL:Rd (H0×HU×Int×HU×Int×Int) (H0×Int):=λa (b,c,d,e,f,g)=>
 bif (decide (g<f))then
  (at? e g).bind λh=>
  (cut? c 0 g).bind λi=>
  (kQ (i,(λx=>(aD (x,(some h))).bind λr=>some r))).bind λi=>
  bif i then
   a (b,c,d,e,f,(i64.wrap (g+1)))
  else
   (kS (b.2.2.2.2.2.2.2.1,(λx=>(kR (x,(some h))).bind λr=>some r))).bind λh=>
   (at? b.2.2.2.2.2.2.2.1 h).bind λh=>
   bif (!(E5 h.2.2.2.2.2.1 []))then
    (OE h.2.2.2.2.2.1).bind λh=>
    a (b,c,(i64.wrap (d+h.1)),e,f,(i64.wrap (g+1)))
   else
    a (b,c,(i64.wrap (d+100)),e,f,(i64.wrap (g+1)))
 else
  some (b,d)
def yM:=E8 yL fuel
def kU:KB×H8×Int×E3×(List DX)×Bool×S1->Option (Bool):=λa=>
 (NJ a).bind λb=>
 bif ((!(E1 b.2.2.2 0))||(!b.2.2.1))then
  (jV ()).bind λc=>
  some c
 else
  (jY (a,b.1)).bind λc=>
  (aB (a,b.1,[97,112,112])).bind λd=>
  (aC (a.2.2.2.2.2.2,d.1)).bind λe=>
  bif ((((!(E1 c.2 0))||(!(E1 d.2 0)))||(!(E1 e.2 0)))||(decide (0<(c.1.length:Int))))then
   some false
  else
   (yM (a,e.1,0,e.1,(e.1.length:Int),0)).bind λa=>
   (NJ (a.1.1,(a.1.2.1,(a.1.2.2.1,(b.1,a.1.2.2.2.2))))).bind λc=>
   let d:=(((E1 a.2 b.2.1.1)&&c.2.2.1)&&(E1 c.2.2.2 0))
   (bif d then kT (b.1,c.1)else some false).bind λa=>
   let e:=((E1 c.2.1.1 b.2.1.1)&&((E1 c.2.1.2.1 0)&&(E1 c.2.1.2.2 0)))
   (bif ((d&&a)&&e)then jV ()else some false).bind λb=>
   some (((d&&a)&&e)&&b)
end
end Go.Ev.Pv
