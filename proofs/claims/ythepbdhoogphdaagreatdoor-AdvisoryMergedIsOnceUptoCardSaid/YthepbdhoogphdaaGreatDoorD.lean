/-
  The program's functions as plain Lean functions (printed by a program of the author's from the translation).
-/
import Derived.Test.YthepbdhoogphdaaGreatDoorE4
import Derived.Lib.AtoiAll
import Derived.Lib.ItoaNum
import Derived.Lib.Strings
import Derived.Lib.Join
import Derived.Lib.Split
import Derived.Lib.Repeat
import Derived.Lib.FieldsP
import Derived.Lib.MapU
import Derived.Lib.LastIndexByte
import Derived.Lib.Bytealg
import Derived.Lib.IndexMore
import Derived.Lib.CountLaws
import Derived.Lib.BitFns
import Derived.Sort.Defs
import Derived.Lib.SlicesCompact
set_option linter.unusedVariables false
set_option linter.unusedSimpArgs false
set_option linter.unusedSectionVars false
set_option maxRecDepth 100000
namespace Go.Ev.Pv
def fuel:Nat:=18446744073709551616
end Go.Ev.Pv
namespace Go.Ev.Pv
def str? (s:Str):Option Str:=bif decide (s.length≤281474976710656) then some s else none
theorem str?_some {s r:Str} (h:str? s=some r):r=s∧s.length≤281474976710656:=by
 unfold str? at h
 cases hd:decide (s.length≤281474976710656) with
 | false=>rw [hd] at h; cases h
 | true=>rw [hd] at h; cases h; exact ⟨rfl,of_decide_eq_true hd⟩
def ifB {α:Type} (c:Prop) [Decidable c] (x:Option α):Option α:=bif decide c then x else none
theorem ubbe_ {α:Type} {c:Prop} {_:Decidable c} {x:Option α} {r:α} (h:ifB c x=some r):c∧x=some r:=by
 unfold ifB at h
 cases hd:decide c with
 | false=>rw [hd] at h; cases h
 | true=>rw [hd] at h; exact ⟨of_decide_eq_true hd,h⟩
def decS:Nat→Nat→Str
 | 0,_=>[]
 | k+1,u=>if u<10 then [UInt8.ofNat (48+u)] else decS k (u / 10)++[UInt8.ofNat (48+u % 10)]
theorem ucgt_:∀ (k u:Nat),u<10 ^ k→1≤k→decS k u=Lib.decDigits u:=by
 intro k
 induction k with
 | zero=>intro u _ h; omega
 | succ k ih =>
   intro u hu _
   rw [Lib.decDigits]
   simp only [decS]
   by_cases h:u<10
   · rw [if_pos h,dif_pos h]
   · rw [if_neg h,dif_neg h]
     have hk:1≤k:=by
      rcases k with _ | k
      · simp at hu; omega
      · omega
     rw [ih (u / 10) (by rw [Nat.pow_succ] at hu; omega) hk]
def itoaS (n:Int):Str:=if n<0 then 45::decS 20 n.natAbs else decS 20 n.toNat
theorem uch8_ {n:Int} (h0:-9223372036854775808≤n) (h1:n≤9223372036854775807):itoaS n=Lib.itoa n:=by
 unfold itoaS Lib.itoa
 rw [ucgt_ 20 n.natAbs (by omega) (by decide),ucgt_ 20 n.toNat (by omega) (by decide)]
theorem ucc8_:∀ (k u:Nat),(decS k u).length≤k:=by
 intro k
 induction k with
 | zero=>intro u; exact Nat.le_refl _
 | succ k ih =>
   intro u
   simp only [decS]
   split
   · simp
   · have:=ih (u / 10); simp only [List.length_append,List.length_cons,List.length_nil]; omega
theorem ub90_ (n:Int):(itoaS n).length≤21:=by
 unfold itoaS
 split
 · have:=ucc8_ 20 n.natAbs; simp only [List.length_cons]; omega
 · have:=ucc8_ 20 n.toNat; omega
def strings_Join:(List (List UInt8))×(List UInt8)→Option (List UInt8):=fun x=>ifB (x.1.length≤140737488355328∧(Lib.join x.1 x.2).length≤140737488355328) (some (Lib.join x.1 x.2))
def ut9_:List UInt8→Option (List UInt8):=fun s=>ifB (s.length<35184372088832) (str? (Lib.toLowerD s))
def strconv_Itoa:Int→Option (List UInt8):=fun n=>some (itoaS n)
def strings_IndexByte:(List UInt8)×Int→Option (Int):=fun x=>ifB (x.1.length<4611686018427387904) (some (Lib.indexByte x.1 x.2.toNat.toUInt8))
def strings_LastIndexByte:(List UInt8)×Int→Option (Int):=fun x=>ifB (x.1.length<4611686018427387904) (some (Lib.lastIndexByte ⟨x.1.toArray⟩ x.2))
def strings_Cut:(List UInt8)×(List UInt8)→Option ((List UInt8)×(List UInt8)×Bool):=fun x=>ifB (x.1.length<4294967281) (some (Lib.cut x.1 x.2))
def strings_Repeat:(List UInt8)×Int→Option (List UInt8):=fun x=>ifB (0≤x.2∧x.1.length*x.2.toNat≤140737488355328) (some (Lib.repeatL x.1 x.2.toNat))
def strings_Split:(List UInt8)×(List UInt8)→Option (List (List UInt8)):=fun x =>
 ifB (x.1.length<4294967281∧1≤x.2.length) (some ((Lib.splitB ⟨x.2.toArray⟩ 0 (Lib.countB ⟨x.1.toArray⟩ ⟨x.2.toArray⟩) ⟨x.1.toArray⟩).map fun b=>b.data.toList))
def ube7_:List UInt8→Option (Int×Unit):=fun s=>ifB (s.length≤281474976710656) (match Lib.atoiAll s with
 | .ok v=>some (v,())
 | .range=>some (Lib.atoiSat s,())
 | _=>some (0,()))
noncomputable def ui3_:(List UInt8)×(Int→Option Bool)→Option (List (List UInt8)):=fun x =>
 @ifB _ (x.1.length≤4294967296∧(∀ r:Nat,r≤1114111→∃ b,x.2 (r:Int)=some b)∧(Lib.goFieldsP (fun r=>(x.2 (r:Int)).getD false) ⟨x.1.toArray⟩).length≤281474976710656) (Classical.propDecidable _) (some ((Lib.goFieldsP (fun r=>(x.2 (r:Int)).getD false) ⟨x.1.toArray⟩).map fun b=>b.data.toList))
def strings_HasPrefix:(List UInt8)×(List UInt8)→Option (Bool):=fun x=>some (Lib.hasPrefix x.1 x.2)
def strings_TrimPrefix:(List UInt8)×(List UInt8)→Option (List UInt8):=fun x=>some (Lib.trimPrefix x.1 x.2)
def strings_CutPrefix:(List UInt8)×(List UInt8)→Option ((List UInt8)×Bool):=fun x=>some (Lib.trimPrefix x.1 x.2,Lib.hasPrefix x.1 x.2)
def uhu_:List Int→Option (List Int):=fun xs=>some xs
def ucd_:List Int→Option (List UInt8):=fun xs=>some (strOf xs)
section
variable {T:Type}
def cfAt (xs:List T) (F:T×T→Option Int) (i j:Fin xs.length):Int:=(F (xs.get i,xs.get j)).getD 0
def ltAt (xs:List T) (F:T×T→Option Int) (i j:Fin xs.length):Bool:=decide (cfAt xs F i j<0)
def ubvr_ (xs:List T) (F:T×T→Option Int):Prop :=
 (∀ i j:Fin xs.length,(F (xs.get i,xs.get j)).isSome=true)∧(∀ i:Fin xs.length,ltAt xs F i i=false) ∧
 (∀ i j k:Fin xs.length,ltAt xs F i j=true→ltAt xs F j k=true→ltAt xs F i k=true)∧(∀ i j k:Fin xs.length,ltAt xs F i j=false→ltAt xs F j k=false→ltAt xs F i k=false)
instance {xs:List T} {F:T×T→Option Int}:Decidable (ubvr_ xs F):=by unfold ubvr_; infer_instance
def insS {α:Type} [Inhabited α] (lt:α→α→Bool):Nat→Nat→Array α→Array α
 | 0,_,d=>d
 | n+1,i,d=>insS lt n (i+1) (Sort.insInner lt 0 i d)
theorem ucji_ {α:Type} [Inhabited α] (lt:α→α→Bool):∀ (n i:Nat) (d:Array α),Sort.insOuter lt 0 (i+n) i d=insS lt n i d:=by
 intro n
 induction n with
 | zero=>intro i d; rw [Sort.insOuter,if_neg (by omega)]; rfl
 | succ n ih=>intro i d; rw [Sort.insOuter,if_pos (by omega),show i+(n+1)=(i+1)+n by omega,ih]; rfl
def ubqs_ (xs:List T) (F:T×T→Option Int) (h:0<xs.length):Array (Fin xs.length) :=
 haveI:Inhabited (Fin xs.length):=⟨⟨0,h⟩⟩
 if xs.length≤12 then insS (ltAt xs F) (xs.length-1) 1 (Array.ofFn id) else Sort.pdq (ltAt xs F) (Array.ofFn id) 0 xs.length (Lib.bitLen xs.length) true true
theorem ucfh_ {α:Type} [Inhabited α] (lt:α→α→Bool) (d:Array α) (n lim:Nat) (h:0<n) (h12:n≤12):Sort.pdq lt d 0 n lim true true=insS lt (n-1) 1 d:=by
 rw [Sort.pdq,if_pos (by omega),Sort.insertionSort]
 have:=ucji_ lt (n-1) 1 d
 rw [show 1+(n-1)=n by omega] at this
 exact this
theorem ub91_ (xs:List T) (F:T×T→Option Int) (h:0<xs.length) :
 ubqs_ xs F h = @Sort.pdq _ ⟨⟨0,h⟩⟩ (ltAt xs F) (Array.ofFn id) 0 xs.length (Lib.bitLen xs.length) true true:=by
 unfold ubqs_
 split
 · rename_i h12
   exact (@ucfh_ _ ⟨⟨0,h⟩⟩ (ltAt xs F) (Array.ofFn id) xs.length _ h h12).symm
 · rfl
def ub40_ (xs:List T) (F:T×T→Option Int):Option (List T) :=
 if h:0<xs.length then ifB (ubvr_ xs F) (some ((ubqs_ xs F h).toList.map xs.get)) else some []
end
def uhd_:(List ((Int×(List UInt8)×Bool×(List UInt8))×(Int×(List UInt8)×Bool×(List UInt8))))×((((Int×(List UInt8)×Bool×(List UInt8))×(Int×(List UInt8)×Bool×(List UInt8)))×((Int×(List UInt8)×Bool×(List UInt8))×(Int×(List UInt8)×Bool×(List UInt8))))→Option Int)→Option (List ((Int×(List UInt8)×Bool×(List UInt8))×(Int×(List UInt8)×Bool×(List UInt8)))):=fun v=>ub40_ v.1 v.2
def ufx_:(List ((List UInt8)×(List (List UInt8))×(List UInt8)×Int×Bool×(List UInt8)×(List ((List UInt8)×Int×(List (Int×(List UInt8)))×(List (List UInt8))×(List (List UInt8))))))×((((List UInt8)×(List (List UInt8))×(List UInt8)×Int×Bool×(List UInt8)×(List ((List UInt8)×Int×(List (Int×(List UInt8)))×(List (List UInt8))×(List (List UInt8)))))×((List UInt8)×(List (List UInt8))×(List UInt8)×Int×Bool×(List UInt8)×(List ((List UInt8)×Int×(List (Int×(List UInt8)))×(List (List UInt8))×(List (List UInt8))))))→Option Int)→Option (List ((List UInt8)×(List (List UInt8))×(List UInt8)×Int×Bool×(List UInt8)×(List ((List UInt8)×Int×(List (Int×(List UInt8)))×(List (List UInt8))×(List (List UInt8)))))):=fun v=>ub40_ v.1 v.2
end Go.Ev.Pv
namespace Go.Ev.Pv
def slices_Sort_string (xs:List (List UInt8)):Option (List (List UInt8)):=some (xs.mergeSort fun x y=>decide (x≤y))
def slices_Compact_string (xs:List (List UInt8)):Option (List (List UInt8)):=some (Lib.compact xs)
def unu_:(List (List UInt8))×((List UInt8)×(List (List UInt8))×(List UInt8)×Int×Bool×(List UInt8)×(List ((List UInt8)×Int×(List (Int×(List UInt8)))×(List (List UInt8))×(List (List UInt8)))))→Option (List (List UInt8)):=fun (xs,adv)=>bif xs.isEmpty then none else some (xs.filter fun s=>!(eqS s adv.1))
end Go.Ev.Pv
namespace Go.Ev.Pv
noncomputable section
abbrev YY25:=(List (Int×Str))
abbrev YY5:=(Str×Int×YY25×(List Str)×(List Str))
abbrev YY1:=(Str×(List Str)×Str×Int×Bool×Str×(List YY5))
abbrev YY2:=(Int×Str×Str×Int)
abbrev YY28:=((List Int)×(List Str))
abbrev YY33:=(Int×Str×Str×Bool)
abbrev YY9:=(Int×(List Int)×Int×Int×Int×Int×(List Str))
abbrev YY19:=(Bool×Str×Int)
abbrev YY3:=(Sum YY28 (Sum YY33 (Sum YY9 (Sum (List YY19) (Sum Int Unit)))))
abbrev YY27:=(Bool×Bool×Str)
abbrev YY4:=(YY27×YY27)
abbrev YY6:=(List (Str×Str))
abbrev YY34:=(Int×Str×Bool×Str)
abbrev YY7:=(YY34×YY34)
abbrev YY8:=(((Str×Str)×(Str×Str))→Option Int)
abbrev YY10:=(Str×Int×Int)
abbrev YY11:=((YY2×YY2)→Option Int)
abbrev YY12:=((Int×Int)→Option Int)
abbrev YY13:=(Str×(Str×(Str×(Str×(YY6×Str)))))
abbrev YY14:=((Str×Str)×(Str×Str)→Option Int)
abbrev YY15:=(Int×(List YY4))
abbrev YY16:=(Str×Str×Str×Str×YY6×Str)
abbrev YY17:=(Int×(List YY1)×(List Int))
abbrev YY20:=(Sum (Unit) (Bool))
abbrev YY21:=(YY2×YY2→Option Int)
abbrev YY22:=(Int×Int→Option Int)
abbrev YY24:=(Int×((List YY1)×(List Int)))
abbrev YY26:=(Sum (Unit) (Int))
abbrev YY29:=(Str×Int×Bool×Bool×Int)
abbrev YY30:=((List Str)×Bool)
abbrev YY31:=((List YY2)×Int)
abbrev YY32:=((List Int)×Int)
abbrev YY37:=(Int→Option Bool)
abbrev YY38:=(Int×List Int)
abbrev YY39:=(List (List (Int×Int)))
abbrev YY40:=(List (Str×Int))
def ubki_ (next:Str×Int×Int→Option YY20):Str×Int×Int→Option YY20:=fun (s_0,t6,t7) =>
 bif (decide (t7<t6)) then
  (at? s_0 t7).bind fun b1 =>
  bif (!(((((((decide ((97:Int)≤(b1.toNat:Int)))&&(decide ((b1.toNat:Int)≤(122:Int))))||((decide ((65:Int)≤(b1.toNat:Int)))&&(decide ((b1.toNat:Int)≤(90:Int)))))||((decide ((48:Int)≤(b1.toNat:Int)))&&(decide ((b1.toNat:Int)≤(57:Int)))))||(eqI (b1.toNat:Int) (46:Int)))||(eqI (b1.toNat:Int) (45:Int)))||(eqI (b1.toNat:Int) (95:Int)))) then
   some (.inr false)
  else
   next (s_0,t6,(IntKind.i64.wrap (t7+(1:Int))))
 else
  some (.inl ())
def u6q_:Str×Int×Int→Option YY20:=loopN ubki_ fuel
def ui0_:Str→Option (Bool):=fun s_0 =>
 (u6q_ (s_0,(s_0.length:Int),(0:Int))).bind fun r6 =>
 match r6 with
 | .inl y7 =>
   some ((!(eqS s_0 ([]:Str)))&&(decide ((s_0.length:Int)≤(60:Int))))
 | .inr y7' =>
   some y7'
def unv_ (next:YY1×(List Str)×Int×Int→Option YY26):YY1×(List Str)×Int×Int→Option YY26:=fun (a_1,t10,t11,t12) =>
 bif (decide (t12<t11)) then
  (at? t10 t12).bind fun y1 =>
  (ui0_ y1).bind fun r2 =>
  bif (!r2) then
   some (.inr (8:Int))
  else
   bif (eqS y1 a_1.1) then
    some (.inr (5:Int))
   else
    (bif (decide ((0:Int)<t12)) then at? a_1.2.1 (IntKind.i64.wrap (t12-(1:Int))) else some ([]:Str)).bind fun y3 =>
    bif ((decide ((0:Int)<t12))&&(Op.bytesLess y1 y3||eqS y1 y3)) then
     some (.inr (10:Int))
    else
     next (a_1,t10,t11,(IntKind.i64.wrap (t12+(1:Int))))
 else
  some (.inl ())
def uip_:YY1×(List Str)×Int×Int→Option YY26:=loopN unv_ fuel
def udl_:Str×(List Str)×Str×Int×Bool×Str×(List YY5)→Option (Int):=fun a_0 =>
 bif (decide ((20:Int)<(a_0.2.1.length:Int))) then
  some (3:Int)
 else
  (uip_ (a_0,a_0.2.1,(a_0.2.1.length:Int),(0:Int))).bind fun r5 =>
  match r5 with
  | .inl y6 =>
    some (0:Int)
  | .inr y6' =>
    some y6'
def uw1_:Unit→Option YY39:=fun _ =>
 let v1:=(putKV eqI (76:Int) (22:Int) (putKV eqI (72:Int) (56:Int) ([]:List (Int×Int))))
 some ([(putKV eqI (80:Int) (20:Int) (putKV eqI (76:Int) (55:Int) (putKV eqI (65:Int) (62:Int) (putKV eqI (78:Int) (85:Int) ([]:List (Int×Int)))))),(putKV eqI (72:Int) (44:Int) (putKV eqI (76:Int) (77:Int) ([]:List (Int×Int)))),(putKV eqI (72:Int) (27:Int) (putKV eqI (76:Int) (62:Int) (putKV eqI (78:Int) (85:Int) ([]:List (Int×Int))))),(putKV eqI (78:Int) (0:Int) v1),(putKV eqI (78:Int) (0:Int) v1),(putKV eqI (78:Int) (0:Int) v1)]:List (List (Int×Int)))
def ubhn_ (next:Str×(List Int)×YY39×Int→Option (Sum (List Int) (Int×Int))):Str×(List Int)×YY39×Int→Option (Sum (List Int) (Int×Int)):=fun (vector_0,w_5,t16,t17) =>
 bif (decide (t17<(6:Int))) then
  (at? t16 t17).bind fun y2 =>
  (at? vector_0 t17).bind fun b3 =>
  bif (!(ui5_ eqI (b3.toNat:Int) y2).isSome) then
   some (.inr ((0:Int),(7:Int)))
  else
   (in? 6 t17).bind fun _ =>
   next (vector_0,(w_5.set t17.toNat ((ui5_ eqI (b3.toNat:Int) y2).getD (0:Int))),t16,(IntKind.i64.wrap (t17+(1:Int))))
 else
  some (.inl w_5)
def u3r_:Str×(List Int)×YY39×Int→Option (Sum (List Int) (Int×Int)):=loopN ubhn_ fuel
def ur3_:Str→Option (Int×Int):=fun vector_0 =>
 (uw1_ ()).bind fun r1 =>
 bif (!(eqI (vector_0.length:Int) (6:Int))) then
  some ((0:Int),(2:Int))
 else
  (u3r_ (vector_0,(List.replicate 6 (0:Int)),r1,(0:Int))).bind fun r4 =>
  match r4 with
  | .inl y5 =>
    let v7:=(IntKind.i64.wrap ((IntKind.i64.wrap ((IntKind.i64.wrap ((100:Int)-(y5.getD 3 (0:Int))))*(IntKind.i64.wrap ((100:Int)-(y5.getD 4 (0:Int))))))*(IntKind.i64.wrap ((100:Int)-(y5.getD 5 (0:Int))))))
    bif (eqI (IntKind.i64.wrap ((1000000:Int)-v7)) (0:Int)) then
     some ((0:Int),(0:Int))
    else
     (div? IntKind.i64 (IntKind.i64.wrap ((IntKind.i64.wrap ((IntKind.i64.wrap ((10:Int)*(IntKind.i64.wrap ((IntKind.i64.wrap ((642:Int)*(IntKind.i64.wrap ((1000000:Int)-v7))))+(IntKind.i64.wrap ((IntKind.i64.wrap ((IntKind.i64.wrap ((822:Int)*(y5.getD 0 (0:Int))))*(y5.getD 1 (0:Int))))*(y5.getD 2 (0:Int))))))))+(100000000:Int)))-(1:Int))) (100000000:Int)).bind fun q12 =>
     some ((minI (100:Int) q12),(0:Int))
  | .inr y5' =>
    some (y5'.1,y5'.2)
def ubxr_ (next:(List Int)×Int×Int→Option (List Int)):(List Int)×Int×Int→Option (List Int):=fun (b_3,t9,t10) =>
 bif (decide (t10<t9)) then
  (in? b_3.length t10).bind fun _ =>
  bif ((decide ((65:Int)≤(b_3.getD t10.toNat (0:Int))))&&(decide ((b_3.getD t10.toNat (0:Int))≤(90:Int)))) then
   (in? b_3.length t10).bind fun _ =>
   next ((b_3.set t10.toNat (IntKind.u8.wrap ((IntKind.u8.wrap ((b_3.getD t10.toNat (0:Int))+(97:Int)))-(65:Int)))),t9,(IntKind.i64.wrap (t10+(1:Int))))
  else
   next (b_3,t9,(IntKind.i64.wrap (t10+(1:Int))))
 else
  some b_3
def ubkj_:(List Int)×Int×Int→Option (List Int):=loopN ubxr_ fuel
def u6r_:Str→Option Str:=fun s_0 =>
 (ubkj_ ((ue8_ s_0),((ue8_ s_0).length:Int),(0:Int))).bind fun r3 =>
 (cat? [] (strOf r3)).bind fun s4 =>
 some s4
def ufy_:YY10×Int→Option YY10:=fun (r_0,at_1) =>
 bif (decide (r_0.2.2<(0:Int))) then
  some (r_0.1,(r_0.2.1,at_1))
 else
  some r_0
def uen_:Option YY10→Option (Int):=fun r_0 =>
 (r_0).bind fun p1 =>
 (r_0).bind fun p2 =>
 bif (decide (p1.2.1<(p2.1.length:Int))) then
  (r_0).bind fun p3 =>
  (r_0).bind fun p4 =>
  (at? p3.1 p4.2.1).bind fun b5 =>
  some (b5.toNat:Int)
 else
  some (0:Int)
def u18_:Int→Option (Bool):=fun c_0 =>
 some (((decide ((97:Int)≤c_0))&&(decide (c_0≤(122:Int))))||((decide ((65:Int)≤c_0))&&(decide (c_0≤(90:Int)))))
def u94_ (next:YY10×Int→Option (Sum YY10 (YY10×Str))):YY10×Int→Option (Sum YY10 (YY10×Str)):=fun (r_0,t7) =>
 bif (decide (t7<(4:Int))) then
  (bif (!(decide ((r_0.1.length:Int)≤t7))) then cut? r_0.1 t7 (IntKind.i64.wrap (t7+(1:Int))) else some ([]:Str)).bind fun s1 =>
  (bif (!(decide ((r_0.1.length:Int)≤t7))) then u6r_ s1 else some ([]:Str)).bind fun r2 =>
  (bif (!(decide ((r_0.1.length:Int)≤t7))) then cut? ([112,107,103,58]:Str) t7 (IntKind.i64.wrap (t7+(1:Int))) else some ([]:Str)).bind fun s3 =>
  bif ((decide ((r_0.1.length:Int)≤t7))||(!(eqS r2 s3))) then
   (ufy_ (r_0,t7)).bind fun r4 =>
   some (.inr (r4,([]:Str)))
  else
   next (r_0,(IntKind.i64.wrap (t7+(1:Int))))
 else
  some (.inl r_0)
def uw2_:YY10×Int→Option (Sum YY10 (YY10×Str)):=loopN u94_ fuel
def u95_ (next:Str×Int×Int→Option YY10):Str×Int×Int→Option YY10:=fun r_0 =>
 (bif (decide (r_0.2.1<(r_0.1.length:Int))) then at? r_0.1 r_0.2.1 else some 0).bind fun b8 =>
 (bif (decide (r_0.2.1<(r_0.1.length:Int))) then u18_ (b8.toNat:Int) else some false).bind fun r9 =>
 bif ((decide (r_0.2.1<(r_0.1.length:Int)))&&r9) then
  next (r_0.1,((IntKind.i64.wrap (r_0.2.1+(1:Int))),r_0.2.2))
 else
  some r_0
def uw3_:Str×Int×Int→Option YY10:=loopN u95_ fuel
def uqd_:YY10×Bool→Option YY10:=fun (r_0,t45) =>
 bif t45 then
  some (r_0.1,((IntKind.i64.wrap (r_0.2.1+(1:Int))),r_0.2.2))
 else
  (uw3_ r_0).bind fun r10 =>
  some r10
def uw4_:YY10×Bool→Option (Str×YY10):=fun (r_0,star_1) =>
 (uw2_ (r_0,(0:Int))).bind fun r5 =>
 match r5 with
 | .inl y6 =>
   (bif star_1 then uen_ (some (y6.1,((4:Int),y6.2.2))) else some (0:Int)).bind fun r7 =>
   (uqd_ ((y6.1,((4:Int),y6.2.2)),(star_1&&(eqI r7 (42:Int))))).bind fun r11 =>
   (cut? r11.1 (4:Int) r11.2.1).bind fun s12 =>
   (bif (!(eqS s12 ([]:Str))) then uen_ (some r11) else some (0:Int)).bind fun r13 =>
   bif ((eqS s12 ([]:Str))||(!(eqI r13 (47:Int)))) then
    (ufy_ (r11,r11.2.1)).bind fun r14 =>
    some (([]:Str),r14)
   else
    (u6r_ s12).bind fun r15 =>
    some (r15,(r11.1,((IntKind.i64.wrap (r11.2.1+(1:Int))),r11.2.2)))
 | .inr y6' =>
   some (y6'.2,y6'.1)
def ub41_:Int→Option (Int):=fun c_0 =>
 bif ((decide ((48:Int)≤c_0))&&(decide (c_0≤(57:Int)))) then
  some (IntKind.i64.wrap (IntKind.u8.wrap (c_0-(48:Int))))
 else
  bif ((decide ((97:Int)≤c_0))&&(decide (c_0≤(102:Int)))) then
   some (IntKind.i64.wrap ((IntKind.i64.wrap (IntKind.u8.wrap (c_0-(97:Int))))+(10:Int)))
  else
   bif ((decide ((65:Int)≤c_0))&&(decide (c_0≤(70:Int)))) then
    some (IntKind.i64.wrap ((IntKind.i64.wrap (IntKind.u8.wrap (c_0-(65:Int))))+(10:Int)))
   else
    some (-1:Int)
def unw_:YY10×Int×Int×Bool→Option (YY10×Int):=fun (r_0,i_6,d_7,t63) =>
 bif t63 then
  (at? r_0.1 (IntKind.i64.wrap (r_0.2.1+i_6))).bind fun b5 =>
  (ub41_ (b5.toNat:Int)).bind fun r6 =>
  some (r_0,r6)
 else
  some (r_0,d_7)
def u6s_ (next:YY10×Int×Int→Option (Sum (YY10×Int) (YY10×Int×Bool))):YY10×Int×Int→Option (Sum (YY10×Int) (YY10×Int×Bool)):=fun (r_0,n_5,i_6) =>
 bif (decide (i_6≤(2:Int))) then
  (unw_ (r_0,i_6,(-1:Int),(decide ((IntKind.i64.wrap (r_0.2.1+i_6))<(r_0.1.length:Int))))).bind fun r7 =>
  bif (decide (r7.2<(0:Int))) then
   (ufy_ (r7.1,(IntKind.i64.wrap (r7.1.2.1+i_6)))).bind fun r8 =>
   some (.inr (r8,(0:Int),false))
  else
   next (r7.1,(IntKind.i64.wrap ((IntKind.i64.wrap ((16:Int)*n_5))+r7.2)),(IntKind.i64.wrap (i_6+(1:Int))))
 else
  some (.inl (r_0,n_5))
def uve_:YY10×Int×Int→Option (Sum (YY10×Int) (YY10×Int×Bool)):=loopN u6s_ fuel
def uuz_:Str×Int×Int→Option (Int×Bool×YY10):=fun r_0 =>
 bif (decide ((r_0.1.length:Int)≤r_0.2.1)) then
  some ((0:Int),false,r_0)
 else
  (at? r_0.1 r_0.2.1).bind fun b1 =>
  bif (!(eqI (b1.toNat:Int) (37:Int))) then
   let v2:=((decide ((b1.toNat:Int)<(33:Int)))||(decide ((126:Int)<(b1.toNat:Int))))
   (bif (!v2) then strings_IndexByte (([47,64,63,35,38,61]:Str),(b1.toNat:Int)) else some (0:Int)).bind fun r3 =>
   bif (v2||(decide ((0:Int)≤r3))) then
    some ((0:Int),false,r_0)
   else
    some ((b1.toNat:Int),true,(r_0.1,((IntKind.i64.wrap (r_0.2.1+(1:Int))),r_0.2.2)))
  else
   (uve_ (r_0,(0:Int),(1:Int))).bind fun r10 =>
   match r10 with
   | .inl y11 =>
     some ((IntKind.u8.wrap y11.2),true,(y11.1.1,((IntKind.i64.wrap (y11.1.2.1+(3:Int))),y11.1.2.2)))
   | .inr y11' =>
     some (y11'.2.1,y11'.2.2,y11'.1)
def u96_ (next:YY10×(List Int)→Option (YY10×(List Int))):YY10×(List Int)→Option (YY10×(List Int)):=fun (r_0,b_3) =>
 bif (decide (r_0.2.2<(0:Int))) then
  (uuz_ r_0).bind fun r1 =>
  bif (!r1.2.1) then
   some (r1.2.2,b_3)
  else
   (app? 24 b_3 ([r1.1]:List Int)).bind fun l2 =>
   next (r1.2.2,l2)
 else
  some (r_0,b_3)
def uw5_:YY10×(List Int)→Option (YY10×(List Int)):=loopN u96_ fuel
def ui6_:Str×Int×Int→Option (Str×YY10):=fun r_0 =>
 (uw5_ (r_0,([]:List Int))).bind fun r3 =>
 bif (eqI (r3.2.length:Int) (0:Int)) then
  (ufy_ (r3.1,r3.1.2.1)).bind fun r4 =>
  (cat? [] (strOf r3.2)).bind fun s5 =>
  some (s5,r4)
 else
  (cat? [] (strOf r3.2)).bind fun s6 =>
  some (s6,r3.1)
def u6t_ (next:YY10×(List Str)→Option (YY10×(List Str))):YY10×(List Str)→Option (YY10×(List Str)):=fun (r_0,l_3) =>
 (bif (decide (r_0.2.2<(0:Int))) then uen_ (some r_0) else some (0:Int)).bind fun r2 =>
 bif ((decide (r_0.2.2<(0:Int)))&&(eqI r2 (47:Int))) then
  (ui6_ (r_0.1,((IntKind.i64.wrap (r_0.2.1+(1:Int))),r_0.2.2))).bind fun r3 =>
  (app? 24 l_3 ([r3.1]:List Str)).bind fun l4 =>
  next (r3.2,l4)
 else
  some (r_0,l_3)
def uvf_:YY10×(List Str)→Option (YY10×(List Str)):=loopN u6t_ fuel
def uo0_:Str×Int×Int→Option ((List Str)×YY10):=fun r_0 =>
 (ui6_ r_0).bind fun r1 =>
 (uvf_ (r1.2,([r1.1]:List Str))).bind fun r5 =>
 some (r5.2,r5.1)
def u19_:Int×Bool→Option (Bool):=fun (c_0,first_1) =>
 bif ((decide ((97:Int)≤c_0))&&(decide (c_0≤(122:Int)))) then
  some true
 else
  some ((!first_1)&&(((((decide ((48:Int)≤c_0))&&(decide (c_0≤(57:Int))))||(eqI c_0 (46:Int)))||(eqI c_0 (45:Int)))||(eqI c_0 (95:Int))))
def uw6_ (next:YY10×Int→Option YY10):YY10×Int→Option YY10:=fun (r_0,from_3) =>
 (bif (decide (r_0.2.1<(r_0.1.length:Int))) then at? r_0.1 r_0.2.1 else some 0).bind fun b1 =>
 (bif (decide (r_0.2.1<(r_0.1.length:Int))) then u19_ ((b1.toNat:Int),(eqI r_0.2.1 from_3)) else some false).bind fun r2 =>
 bif ((decide (r_0.2.1<(r_0.1.length:Int)))&&r2) then
  next ((r_0.1,((IntKind.i64.wrap (r_0.2.1+(1:Int))),r_0.2.2)),from_3)
 else
  some r_0
def unx_:YY10×Int→Option YY10:=loopN uw6_ fuel
def ulx_:Str×Int×Int→Option ((Str×Str)×YY10):=fun r_0 =>
 (unx_ (r_0,r_0.2.1)).bind fun r3 =>
 (cut? r3.1 r_0.2.1 r3.2.1).bind fun s4 =>
 (bif (!(eqS s4 ([]:Str))) then uen_ (some r3) else some (0:Int)).bind fun r5 =>
 bif ((eqS s4 ([]:Str))||(!(eqI r5 (61:Int)))) then
  (ufy_ (r3,r3.2.1)).bind fun r6 =>
  some ((([]:Str),([]:Str)),r6)
 else
  (ui6_ (r3.1,((IntKind.i64.wrap (r3.2.1+(1:Int))),r3.2.2))).bind fun r7 =>
  some ((s4,r7.1),r7.2)
def uqe_:YY10×YY13×Bool→Option (YY10×YY13):=fun (r_0,p_3,t40) =>
 bif t40 then
  (ui6_ (r_0.1,((IntKind.i64.wrap (r_0.2.1+(1:Int))),r_0.2.2))).bind fun r7 =>
  some (r7.2,(p_3.1,(p_3.2.1,(p_3.2.2.1,(r7.1,(p_3.2.2.2.2.1,p_3.2.2.2.2.2))))))
 else
  some (r_0,(p_3.1,(p_3.2.1,(p_3.2.2.1,(p_3.2.2.2.1,(p_3.2.2.2.2.1,p_3.2.2.2.2.2))))))
def u97_ (next:YY10×YY13×Int→Option (YY10×YY13)):YY10×YY13×Int→Option (YY10×YY13):=fun (r_0,p_3,sign_5) =>
 let v9:=((decide (r_0.2.2<(0:Int)))&&(decide (r_0.2.1<(r_0.1.length:Int))))
 (bif v9 then uen_ (some r_0) else some (0:Int)).bind fun r10 =>
 bif (v9&&(eqI r10 sign_5)) then
  (ulx_ (r_0.1,((IntKind.i64.wrap (r_0.2.1+(1:Int))),r_0.2.2))).bind fun r11 =>
  (app? 48 p_3.2.2.2.2.1 ([r11.1]:List (Str×Str))).bind fun l12 =>
  next (r11.2,(p_3.1,(p_3.2.1,(p_3.2.2.1,(p_3.2.2.2.1,(l12,p_3.2.2.2.2.2))))),(38:Int))
 else
  some (r_0,(p_3.1,(p_3.2.1,(p_3.2.2.1,(p_3.2.2.2.1,(p_3.2.2.2.2.1,p_3.2.2.2.2.2))))))
def uw7_:YY10×YY13×Int→Option (YY10×YY13):=loopN u97_ fuel
def uqf_:YY10×YY13×Bool→Option (YY10×YY13):=fun (r_0,p_3,t97) =>
 bif t97 then
  (uo0_ (r_0.1,((IntKind.i64.wrap (r_0.2.1+(1:Int))),r_0.2.2))).bind fun r15 =>
  (strings_Join (r15.1,([47]:Str))).bind fun r16 =>
  some (r15.2,(p_3.1,(p_3.2.1,(p_3.2.2.1,(p_3.2.2.2.1,(p_3.2.2.2.2.1,r16))))))
 else
  some (r_0,(p_3.1,(p_3.2.1,(p_3.2.2.1,(p_3.2.2.2.1,(p_3.2.2.2.2.1,p_3.2.2.2.2.2))))))
def uw8_:Str×Int×Int→Option (YY13×YY10):=fun r_0 =>
 (uw4_ (r_0,false)).bind fun r1 =>
 bif (decide ((0:Int)≤r1.2.2.2)) then
  some ((r1.1,(([]:Str),(([]:Str),(([]:Str),(([]:List (Str×Str)),([]:Str)))))),r1.2)
 else
  (uo0_ r1.2).bind fun r2 =>
  (cut? r2.1 (0:Int) (IntKind.i64.wrap ((r2.1.length:Int)-(1:Int)))).bind fun s3 =>
  (strings_Join (s3,([47]:Str))).bind fun r4 =>
  (at? r2.1 (IntKind.i64.wrap ((r2.1.length:Int)-(1:Int)))).bind fun y5 =>
  (bif (decide (r2.2.2.2<(0:Int))) then uen_ (some r2.2) else some (0:Int)).bind fun r6 =>
  (uqe_ (r2.2,(r1.1,(r4,(y5,(([]:Str),(([]:List (Str×Str)),([]:Str)))))),((decide (r2.2.2.2<(0:Int)))&&(eqI r6 (64:Int))))).bind fun r8 =>
  (uw7_ (r8.1,(r8.2.1,(r8.2.2.1,(r8.2.2.2.1,(r8.2.2.2.2.1,(r8.2.2.2.2.2.1,r8.2.2.2.2.2.2))))),(63:Int))).bind fun r13 =>
  (bif (decide (r13.1.2.2<(0:Int))) then uen_ (some r13.1) else some (0:Int)).bind fun r14 =>
  (uqf_ (r13.1,(r13.2.1,(r13.2.2.1,(r13.2.2.2.1,(r13.2.2.2.2.1,(r13.2.2.2.2.2.1,r13.2.2.2.2.2.2))))),((decide (r13.1.2.2<(0:Int)))&&(eqI r14 (35:Int))))).bind fun r17 =>
  bif ((decide (r17.1.2.2<(0:Int)))&&(decide (r17.1.2.1<(r17.1.1.length:Int)))) then
   (ufy_ (r17.1,r17.1.2.1)).bind fun r19 =>
   some ((r17.2.1,(r17.2.2.1,(r17.2.2.2.1,(r17.2.2.2.2.1,(r17.2.2.2.2.2.1,r17.2.2.2.2.2.2))))),r19)
  else
   some ((r17.2.1,(r17.2.2.1,(r17.2.2.2.1,(r17.2.2.2.2.1,(r17.2.2.2.2.2.1,r17.2.2.2.2.2.2))))),r17.1)
def uhv_ (next:YY6×Int×YY8×Int→Option YY6):YY6×Int×YY8×Int→Option YY6:=fun (data_0,a_1,cmp_3,j_9) =>
 (bif (decide (a_1<j_9)) then in? data_0.length j_9 else some ()).bind fun _ =>
 (bif (decide (a_1<j_9)) then in? data_0.length (IntKind.i64.wrap (j_9-(1:Int))) else some ()).bind fun _ =>
 (bif (decide (a_1<j_9)) then cmp_3 ((data_0.getD j_9.toNat (([]:Str),([]:Str))),(data_0.getD ((IntKind.i64.wrap (j_9-(1:Int))).toNat) (([]:Str),([]:Str)))) else some (0:Int)).bind fun r3 =>
 bif ((decide (a_1<j_9))&&(decide (r3<(0:Int)))) then
  (in? data_0.length (IntKind.i64.wrap (j_9-(1:Int)))).bind fun _ =>
  let v4:=(data_0.getD ((IntKind.i64.wrap (j_9-(1:Int))).toNat) (([]:Str),([]:Str)))
  (in? data_0.length j_9).bind fun _ =>
  (in? data_0.length j_9).bind fun _ =>
  (in? (data_0.set j_9.toNat v4).length (IntKind.i64.wrap (j_9-(1:Int)))).bind fun _ =>
  next (((data_0.set j_9.toNat v4).set ((IntKind.i64.wrap (j_9-(1:Int))).toNat) (data_0.getD j_9.toNat (([]:Str),([]:Str)))),a_1,cmp_3,(IntKind.i64.wrap (j_9-(1:Int))))
 else
  some data_0
def ued_:YY6×Int×YY8×Int→Option YY6:=loopN uhv_ fuel
def uhw_ (next:YY6×Int×Int×YY8×Int→Option YY6):YY6×Int×Int×YY8×Int→Option YY6:=fun (data_0,a_1,b_2,cmp_3,i_8) =>
 bif (decide (i_8<b_2)) then
  (ued_ (data_0,a_1,cmp_3,i_8)).bind fun r7 =>
  next (r7,a_1,b_2,cmp_3,(IntKind.i64.wrap (i_8+(1:Int))))
 else
  some data_0
def uee_:YY6×Int×Int×YY8×Int→Option YY6:=loopN uhw_ fuel
def uby_:YY6×Int×Int×YY8→Option YY6:=fun (data_0,a_1,b_2,cmp_3) =>
 (uee_ (data_0,a_1,b_2,cmp_3,(IntKind.i64.wrap (a_1+(1:Int))))).bind fun r8 =>
 some r8
def ujw_ (next:YY6×Int×Int×Int×Int→Option YY6):YY6×Int×Int×Int×Int→Option YY6:=fun (data_0,a_1,b_2,n_3,i_10) =>
 bif (decide (i_10<n_3)) then
  (in? data_0.length (IntKind.i64.wrap (b_2+i_10))).bind fun _ =>
  let v1:=(data_0.getD ((IntKind.i64.wrap (b_2+i_10)).toNat) (([]:Str),([]:Str)))
  (in? data_0.length (IntKind.i64.wrap (a_1+i_10))).bind fun _ =>
  (in? data_0.length (IntKind.i64.wrap (a_1+i_10))).bind fun _ =>
  (in? (data_0.set ((IntKind.i64.wrap (a_1+i_10)).toNat) v1).length (IntKind.i64.wrap (b_2+i_10))).bind fun _ =>
  next (((data_0.set ((IntKind.i64.wrap (a_1+i_10)).toNat) v1).set ((IntKind.i64.wrap (b_2+i_10)).toNat) (data_0.getD ((IntKind.i64.wrap (a_1+i_10)).toNat) (([]:Str),([]:Str)))),a_1,b_2,n_3,(IntKind.i64.wrap (i_10+(1:Int))))
 else
  some data_0
def ufj_:YY6×Int×Int×Int×Int→Option YY6:=loopN ujw_ fuel
def ubw_:YY6×Int×Int×Int×YY8→Option YY6:=fun (data_0,a_1,b_2,n_3,cmp_4) =>
 (ufj_ (data_0,a_1,b_2,n_3,(0:Int))).bind fun r4 =>
 some r4
def umd_ (next:YY6×Int×YY8×Int×Int→Option (YY6×Int)):YY6×Int×YY8×Int×Int→Option (YY6×Int):=fun (data_0,m_2,cmp_4,i_10,j_11) =>
 bif (!(eqI i_10 j_11)) then
  bif (decide (j_11<i_10)) then
   (ubw_ (data_0,(IntKind.i64.wrap (m_2-i_10)),m_2,j_11,cmp_4)).bind fun r1 =>
   next (r1,m_2,cmp_4,(IntKind.i64.wrap (i_10-j_11)),j_11)
  else
   (ubw_ (data_0,(IntKind.i64.wrap (m_2-i_10)),(IntKind.i64.wrap ((IntKind.i64.wrap (m_2+j_11))-i_10)),i_10,cmp_4)).bind fun r2 =>
   next (r2,m_2,cmp_4,i_10,(IntKind.i64.wrap (j_11-i_10)))
 else
  some (data_0,i_10)
def ugr_:YY6×Int×YY8×Int×Int→Option (YY6×Int):=loopN umd_ fuel
def uff_:YY6×Int×Int×Int×YY8→Option YY6:=fun (data_0,a_1,m_2,b_3,cmp_4) =>
 (ugr_ (data_0,m_2,cmp_4,(IntKind.i64.wrap (m_2-a_1)),(IntKind.i64.wrap (b_3-m_2)))).bind fun r3 =>
 (ubw_ (r3.1,(IntKind.i64.wrap (m_2-r3.2)),m_2,r3.2,cmp_4)).bind fun r4 =>
 some r4
def ukh_ (slf:YY6×Int×Int×Int×YY8→Option YY6) (next:YY6×Int×YY8×Int×Int→Option (YY6×Int)):YY6×Int×YY8×Int×Int→Option (YY6×Int):=fun (data_0,a_1,cmp_4,i_10,j_11) =>
 bif (decide (i_10<j_11)) then
  (shr? IntKind.u64 (IntKind.u64.wrap (IntKind.i64.wrap (i_10+j_11))) (1:Int)).bind fun n1 =>
  (in? data_0.length (IntKind.i64.wrap n1)).bind fun _ =>
  (in? data_0.length a_1).bind fun _ =>
  (cmp_4 ((data_0.getD ((IntKind.i64.wrap n1).toNat) (([]:Str),([]:Str))),(data_0.getD a_1.toNat (([]:Str),([]:Str))))).bind fun r4 =>
  bif (decide (r4<(0:Int))) then
   next (data_0,a_1,cmp_4,(IntKind.i64.wrap ((IntKind.i64.wrap n1)+(1:Int))),j_11)
  else
   next (data_0,a_1,cmp_4,i_10,(IntKind.i64.wrap n1))
 else
  some (data_0,i_10)
def ufz_ (slf:YY6×Int×Int×Int×YY8→Option YY6):YY6×Int×YY8×Int×Int→Option (YY6×Int):=loopN (ukh_ slf) fuel
def uki_ (slf:YY6×Int×Int×Int×YY8→Option YY6) (next:YY6×Int×Int→Option YY6):YY6×Int×Int→Option YY6:=fun (data_0,i_10,k_13) =>
 bif (decide (k_13<(IntKind.i64.wrap (i_10-(1:Int))))) then
  (in? data_0.length (IntKind.i64.wrap (k_13+(1:Int)))).bind fun _ =>
  let v6:=(data_0.getD ((IntKind.i64.wrap (k_13+(1:Int))).toNat) (([]:Str),([]:Str)))
  (in? data_0.length k_13).bind fun _ =>
  (in? data_0.length k_13).bind fun _ =>
  (in? (data_0.set k_13.toNat v6).length (IntKind.i64.wrap (k_13+(1:Int)))).bind fun _ =>
  next (((data_0.set k_13.toNat v6).set ((IntKind.i64.wrap (k_13+(1:Int))).toNat) (data_0.getD k_13.toNat (([]:Str),([]:Str)))),i_10,(IntKind.i64.wrap (k_13+(1:Int))))
 else
  some data_0
def uf0_ (slf:YY6×Int×Int×Int×YY8→Option YY6):YY6×Int×Int→Option YY6:=loopN (uki_ slf) fuel
def ukj_ (slf:YY6×Int×Int×Int×YY8→Option YY6) (next:YY6×Int×YY8×Int×Int→Option (YY6×Int)):YY6×Int×YY8×Int×Int→Option (YY6×Int):=fun (data_0,m_2,cmp_4,i_14,j_15) =>
 bif (decide (i_14<j_15)) then
  (shr? IntKind.u64 (IntKind.u64.wrap (IntKind.i64.wrap (i_14+j_15))) (1:Int)).bind fun n10 =>
  (in? data_0.length m_2).bind fun _ =>
  (in? data_0.length (IntKind.i64.wrap n10)).bind fun _ =>
  (cmp_4 ((data_0.getD m_2.toNat (([]:Str),([]:Str))),(data_0.getD ((IntKind.i64.wrap n10).toNat) (([]:Str),([]:Str))))).bind fun r13 =>
  bif (!(decide (r13<(0:Int)))) then
   next (data_0,m_2,cmp_4,(IntKind.i64.wrap ((IntKind.i64.wrap n10)+(1:Int))),j_15)
  else
   next (data_0,m_2,cmp_4,i_14,(IntKind.i64.wrap n10))
 else
  some (data_0,i_14)
def uf1_ (slf:YY6×Int×Int×Int×YY8→Option YY6):YY6×Int×YY8×Int×Int→Option (YY6×Int):=loopN (ukj_ slf) fuel
def ujx_ (slf:YY6×Int×Int×Int×YY8→Option YY6) (next:YY6×Int×Int→Option YY6):YY6×Int×Int→Option YY6:=fun (data_0,i_14,k_17) =>
 bif (decide (i_14<k_17)) then
  (in? data_0.length (IntKind.i64.wrap (k_17-(1:Int)))).bind fun _ =>
  let v15:=(data_0.getD ((IntKind.i64.wrap (k_17-(1:Int))).toNat) (([]:Str),([]:Str)))
  (in? data_0.length k_17).bind fun _ =>
  (in? data_0.length k_17).bind fun _ =>
  (in? (data_0.set k_17.toNat v15).length (IntKind.i64.wrap (k_17-(1:Int)))).bind fun _ =>
  next (((data_0.set k_17.toNat v15).set ((IntKind.i64.wrap (k_17-(1:Int))).toNat) (data_0.getD k_17.toNat (([]:Str),([]:Str)))),i_14,(IntKind.i64.wrap (k_17-(1:Int))))
 else
  some data_0
def ufk_ (slf:YY6×Int×Int×Int×YY8→Option YY6):YY6×Int×Int→Option YY6:=loopN (ujx_ slf) fuel
def udg_ (slf:YY6×Int×Int×Int×YY8→Option YY6):Int×Int×Int×Int×Int×Bool→Option (Int×Int):=fun (a_1,m_2,b_3,mid_18,n_19,t140) =>
 bif t140 then
  some ((IntKind.i64.wrap (n_19-b_3)),mid_18)
 else
  some (a_1,m_2)
def ujy_ (slf:YY6×Int×Int×Int×YY8→Option YY6) (next:YY6×YY8×Int×Int×Int→Option (YY6×Int)):YY6×YY8×Int×Int×Int→Option (YY6×Int):=fun (data_0,cmp_4,start_20,r_21,p_22) =>
 bif (decide (start_20<r_21)) then
  (shr? IntKind.u64 (IntKind.u64.wrap (IntKind.i64.wrap (start_20+r_21))) (1:Int)).bind fun n22 =>
  (in? data_0.length (IntKind.i64.wrap (p_22-(IntKind.i64.wrap n22)))).bind fun _ =>
  (in? data_0.length (IntKind.i64.wrap n22)).bind fun _ =>
  (cmp_4 ((data_0.getD ((IntKind.i64.wrap (p_22-(IntKind.i64.wrap n22))).toNat) (([]:Str),([]:Str))),(data_0.getD ((IntKind.i64.wrap n22).toNat) (([]:Str),([]:Str))))).bind fun r25 =>
  bif (!(decide (r25<(0:Int)))) then
   next (data_0,cmp_4,(IntKind.i64.wrap ((IntKind.i64.wrap n22)+(1:Int))),r_21,p_22)
  else
   next (data_0,cmp_4,start_20,(IntKind.i64.wrap n22),p_22)
 else
  some (data_0,start_20)
def ufl_ (slf:YY6×Int×Int×Int×YY8→Option YY6):YY6×YY8×Int×Int×Int→Option (YY6×Int):=loopN (ujy_ slf) fuel
def udh_ (slf:YY6×Int×Int×Int×YY8→Option YY6):YY6×Int×YY8×Int×Int×Bool→Option YY6:=fun (data_0,m_2,cmp_4,start_20,end_24,t185) =>
 bif t185 then
  (uff_ (data_0,start_20,m_2,end_24,cmp_4)).bind fun r28 =>
  some r28
 else
  some data_0
def udi_ (slf:YY6×Int×Int×Int×YY8→Option YY6):YY6×Int×YY8×Int×Int×Bool→Option YY6:=fun (data_0,a_1,cmp_4,mid_18,start_20,t199) =>
 bif t199 then
  (slf (data_0,a_1,start_20,mid_18,cmp_4)).bind fun r31 =>
  some r31
 else
  some data_0
def uez_ (slf:YY6×Int×Int×Int×YY8→Option YY6):YY6×Int×Int×Int×YY8→Option YY6:=fun (data_0,a_1,m_2,b_3,cmp_4) =>
 bif (eqI (IntKind.i64.wrap (m_2-a_1)) (1:Int)) then
  ((ufz_ slf) (data_0,a_1,cmp_4,m_2,b_3)).bind fun r5 =>
  ((uf0_ slf) (r5.1,r5.2,a_1)).bind fun r9 =>
  some r9
 else
  bif (eqI (IntKind.i64.wrap (b_3-m_2)) (1:Int)) then
   ((uf1_ slf) (data_0,m_2,cmp_4,a_1,m_2)).bind fun r14 =>
   ((ufk_ slf) (r14.1,r14.2,m_2)).bind fun r18 =>
   some r18
  else
   (shr? IntKind.u64 (IntKind.u64.wrap (IntKind.i64.wrap (a_1+b_3))) (1:Int)).bind fun n19 =>
   ((udg_ slf) (a_1,m_2,b_3,(IntKind.i64.wrap n19),(IntKind.i64.wrap ((IntKind.i64.wrap n19)+m_2)),(decide ((IntKind.i64.wrap n19)<m_2)))).bind fun r20 =>
   ((ufl_ slf) (data_0,cmp_4,r20.1,r20.2,(IntKind.i64.wrap ((IntKind.i64.wrap ((IntKind.i64.wrap n19)+m_2))-(1:Int))))).bind fun r26 =>
   let v27:=(IntKind.i64.wrap ((IntKind.i64.wrap ((IntKind.i64.wrap n19)+m_2))-r26.2))
   ((udh_ slf) (r26.1,m_2,cmp_4,r26.2,v27,((decide (r26.2<m_2))&&(decide (m_2<v27))))).bind fun r29 =>
   ((udi_ slf) (r29,a_1,cmp_4,(IntKind.i64.wrap n19),r26.2,((decide (a_1<r26.2))&&(decide (r26.2<(IntKind.i64.wrap n19)))))).bind fun r32 =>
   bif ((decide ((IntKind.i64.wrap n19)<v27))&&(decide (v27<b_3))) then
    (slf (r32,(IntKind.i64.wrap n19),v27,b_3,cmp_4)).bind fun r34 =>
    some r34
   else
    some r32
def uu_:Nat→YY6×Int×Int×Int×YY8→Option YY6
 | 0=>fun _=>none
 | n+1=>uez_ (uu_ n)
def ucw_:YY6×Int×Int×Int×YY8→Option YY6:=uu_ 100
def ume_ (next:YY6×Int×YY8×Int×Int×Int→Option (YY6×Int)):YY6×Int×YY8×Int×Int×Int→Option (YY6×Int):=fun (data_0,n_1,cmp_2,blockSize_6,a_7,b_8) =>
 bif (decide (b_8≤n_1)) then
  (uby_ (data_0,a_7,b_8,cmp_2)).bind fun r1 =>
  next (r1,n_1,cmp_2,blockSize_6,b_8,(IntKind.i64.wrap (b_8+blockSize_6)))
 else
  some (data_0,a_7)
def ugs_:YY6×Int×YY8×Int×Int×Int→Option (YY6×Int):=loopN ume_ fuel
def umf_ (next:YY6×Int×YY8×Int×Int×Int→Option (YY6×Int)):YY6×Int×YY8×Int×Int×Int→Option (YY6×Int):=fun (data_0,n_1,cmp_2,blockSize_6,a_7,b_8) =>
 bif (decide (b_8≤n_1)) then
  (ucw_ (data_0,a_7,(IntKind.i64.wrap (a_7+blockSize_6)),b_8,cmp_2)).bind fun r4 =>
  next (r4,n_1,cmp_2,blockSize_6,b_8,(IntKind.i64.wrap (b_8+(IntKind.i64.wrap ((2:Int)*blockSize_6)))))
 else
  some (data_0,a_7)
def ugt_:YY6×Int×YY8×Int×Int×Int→Option (YY6×Int):=loopN umf_ fuel
def umg_ (next:YY6×Int×YY8×Int→Option YY6):YY6×Int×YY8×Int→Option YY6:=fun (data_0,n_1,cmp_2,blockSize_6) =>
 bif (decide (blockSize_6<n_1)) then
  (ugt_ (data_0,n_1,cmp_2,blockSize_6,(0:Int),(IntKind.i64.wrap ((2:Int)*blockSize_6)))).bind fun r6 =>
  bif (decide ((IntKind.i64.wrap (r6.2+blockSize_6))<n_1)) then
   (ucw_ (r6.1,r6.2,(IntKind.i64.wrap (r6.2+blockSize_6)),n_1,cmp_2)).bind fun r7 =>
   next (r7,n_1,cmp_2,(IntKind.i64.wrap (blockSize_6*(2:Int))))
  else
   next (r6.1,n_1,cmp_2,(IntKind.i64.wrap (blockSize_6*(2:Int))))
 else
  some data_0
def ugu_:YY6×Int×YY8×Int→Option YY6:=loopN umg_ fuel
def ufg_:YY6×Int×YY8→Option YY6:=fun (data_0,n_1,cmp_2) =>
 (ugs_ (data_0,n_1,cmp_2,(20:Int),(0:Int),(20:Int))).bind fun r2 =>
 (uby_ (r2.1,r2.2,n_1,cmp_2)).bind fun r3 =>
 (ugu_ (r3,n_1,cmp_2,(20:Int))).bind fun r8 =>
 some r8
def uer_:YY6×YY8→Option YY6:=fun (x_0,cmp_1) =>
 (ufg_ (x_0,(x_0.length:Int),cmp_1)).bind fun r1 =>
 some r1
def umh_:Str→Option (Bool):=fun x_0 =>
 some (!(eqS x_0 x_0))
def udj_:Str×Str→Option (Int):=fun (x_0,y_1) =>
 (umh_ x_0).bind fun r1 =>
 (umh_ y_1).bind fun r2 =>
 bif r1 then
  bif r2 then
   some (0:Int)
  else
   some (-1:Int)
 else
  bif r2 then
   some (1:Int)
  else
   bif (Op.bytesLess x_0 y_1) then
    some (-1:Int)
   else
    bif (!(Op.bytesLess x_0 y_1||eqS x_0 y_1)) then
     some (1:Int)
    else
     some (0:Int)
def ube8_:(Str×Str)×(Str×Str)→Option (Int):=fun (a_0,b_1) =>
 (udj_ (a_0.1,b_1.1)).bind fun r1 =>
 some r1
def ubta_:Unit→Option (List YY29):=fun _ =>
 some ([(([100,111,116,116,101,100]:Str),((2:Int),(true,(false,(1:Int))))),(([114,101,118,105,115,101,100]:Str),((3:Int),(true,(false,(2:Int))))),(([115,116,97,103,101,100]:Str),((1:Int),(true,(true,(3:Int))))),(([113,117,97,108,105,102,105,101,100]:Str),((3:Int),(false,(false,(4:Int))))),(([112,108,97,105,110]:Str),((2:Int),(false,(false,(5:Int)))))]:List YY29)
def ubxs_ (next:Str×(List YY29)×Int→Option YY26):Str×(List YY29)×Int→Option YY26:=fun (kind_0,t5,t6) =>
 bif (decide (t6<(5:Int))) then
  (at? t5 t6).bind fun y2 =>
  bif (eqS y2.1 kind_0) then
   some (.inr t6)
  else
   next (kind_0,t5,(IntKind.i64.wrap (t6+(1:Int))))
 else
  some (.inl ())
def ubkk_:Str×(List YY29)×Int→Option YY26:=loopN ubxs_ fuel
def ubtb_:Str→Option (Int):=fun kind_0 =>
 (ubta_ ()).bind fun r1 =>
 (ubkk_ (kind_0,r1,(0:Int))).bind fun r3 =>
 match r3 with
 | .inl y4 =>
   some (-1:Int)
 | .inr y4' =>
   some y4'
def ubtc_:Str→Option (YY29×Int):=fun kind_0 =>
 (ubtb_ kind_0).bind fun r1 =>
 bif (decide (r1<(0:Int))) then
  some ((([]:Str),((0:Int),(false,(false,(0:Int))))),(7:Int))
 else
  (ubta_ ()).bind fun r3 =>
  (at? r3 r1).bind fun y4 =>
  some (y4,(0:Int))
def ub0i_ (next:(List Str)×Int×Int→Option YY20):(List Str)×Int×Int→Option YY20:=fun (t15,t16,t17) =>
 bif (decide (t17<t16)) then
  (at? t15 t17).bind fun y2 =>
  bif (decide ((200:Int)<(y2.length:Int))) then
   some (.inr true)
  else
   next (t15,t16,(IntKind.i64.wrap (t17+(1:Int))))
 else
  some (.inl ())
def ubqt_:(List Str)×Int×Int→Option YY20:=loopN ub0i_ fuel
def ub0j_ (next:YY6×Int×Int→Option YY20):YY6×Int×Int→Option YY20:=fun (t26,t27,t28) =>
 bif (decide (t28<t27)) then
  (at? t26 t28).bind fun y5 =>
  bif ((decide ((200:Int)<(y5.1.length:Int)))||(decide ((200:Int)<(y5.2.length:Int)))) then
   some (.inr true)
  else
   next (t26,t27,(IntKind.i64.wrap (t28+(1:Int))))
 else
  some (.inl ())
def ubqu_:YY6×Int×Int→Option YY20:=loopN ub0j_ fuel
def ubzp_:Str×Str×Str×Str×YY6×Str→Option (Bool):=fun p_0 =>
 let v1:=([p_0.2.1,p_0.2.2.1,p_0.2.2.2.1,p_0.2.2.2.2.2]:List Str)
 (ubqt_ (v1,(v1.length:Int),(0:Int))).bind fun r3 =>
 match r3 with
 | .inl y4 =>
   (ubqu_ (p_0.2.2.2.2.1,(p_0.2.2.2.2.1.length:Int),(0:Int))).bind fun r7 =>
   match r7 with
   | .inl y8 =>
     some (decide ((10:Int)<(p_0.2.2.2.2.1.length:Int)))
   | .inr y8' =>
     some y8'
 | .inr y4' =>
   some y4'
def uv7_:Str→Option (List Str):=fun s_0 =>
 bif (eqS s_0 ([]:Str)) then
  some ([]:List Str)
 else
  (strings_Split (s_0,([47]:Str))).bind fun r1 =>
  some r1
def ubho_ (next:Bool×(List Str)×Int×Int→Option YY20):Bool×(List Str)×Int×Int→Option YY20:=fun (dots_1,t7,t8,t9) =>
 bif (decide (t9<t8)) then
  (at? t7 t9).bind fun y1 =>
  bif ((eqS y1 ([]:Str))||(dots_1&&((eqS y1 ([46]:Str))||(eqS y1 ([46,46]:Str))))) then
   some (.inr true)
  else
   next (dots_1,t7,t8,(IntKind.i64.wrap (t9+(1:Int))))
 else
  some (.inl ())
def u3s_:Bool×(List Str)×Int×Int→Option YY20:=loopN ubho_ fuel
def uw9_:(List Str)×Bool→Option (Bool):=fun (l_0,dots_1) =>
 (u3s_ (dots_1,l_0,(l_0.length:Int),(0:Int))).bind fun r3 =>
 match r3 with
 | .inl y4 =>
   some (decide ((10:Int)<(l_0.length:Int)))
 | .inr y4' =>
   some y4'
def u4o_ (next:Str×Int×Int→Option YY20):Str×Int×Int→Option YY20:=fun (s_0,t5,t6) =>
 bif (decide (t6<t5)) then
  (at? s_0 t6).bind fun b1 =>
  (u19_ ((b1.toNat:Int),(eqI t6 (0:Int)))).bind fun r2 =>
  bif (!r2) then
   some (.inr false)
  else
   next (s_0,t5,(IntKind.i64.wrap (t6+(1:Int))))
 else
  some (.inl ())
def uta_:Str×Int×Int→Option YY20:=loopN u4o_ fuel
def ur4_:Str→Option (Bool):=fun s_0 =>
 (uta_ (s_0,(s_0.length:Int),(0:Int))).bind fun r3 =>
 match r3 with
 | .inl y4 =>
   some (!(eqS s_0 ([]:Str)))
 | .inr y4' =>
   some y4'
def uzs_ (next:YY6×YY6×Int×Int→Option YY26):YY6×YY6×Int×Int→Option YY26:=fun (l_0,t5,t6,t7) =>
 bif (decide (t7<t6)) then
  (at? t5 t7).bind fun y1 =>
  (ur4_ y1.1).bind fun r2 =>
  bif (!r2) then
   some (.inr (8:Int))
  else
   bif (eqS y1.2 ([]:Str)) then
    some (.inr (2:Int))
   else
    (bif (decide ((0:Int)<t7)) then at? l_0 (IntKind.i64.wrap (t7-(1:Int))) else some (([]:Str),([]:Str))).bind fun y3 =>
    bif ((decide ((0:Int)<t7))&&(Op.bytesLess y1.1 y3.1||eqS y1.1 y3.1)) then
     some (.inr (10:Int))
    else
     next (l_0,t5,t6,(IntKind.i64.wrap (t7+(1:Int))))
 else
  some (.inl ())
def upq_:YY6×YY6×Int×Int→Option YY26:=loopN uzs_ fuel
def uny_:List (Str×Str)→Option (Int):=fun l_0 =>
 (upq_ (l_0,l_0,(l_0.length:Int),(0:Int))).bind fun r5 =>
 match r5 with
 | .inl y6 =>
   some (0:Int)
 | .inr y6' =>
   some y6'
def ubpx_ (next:Str×Int×Int→Option YY20):Str×Int×Int→Option YY20:=fun (s_0,t5,t6) =>
 bif (decide (t6<t5)) then
  (at? s_0 t6).bind fun b1 =>
  (bif (!(decide ((b1.toNat:Int)<(32:Int)))) then at? s_0 t6 else some 0).bind fun b2 =>
  bif ((decide ((b1.toNat:Int)<(32:Int)))||(eqI (b2.toNat:Int) (127:Int))) then
   some (.inr true)
  else
   next (s_0,t5,(IntKind.i64.wrap (t6+(1:Int))))
 else
  some (.inl ())
def ubbf_:Str×Int×Int→Option YY20:=loopN ubpx_ fuel
def u6u_:Str→Option (Bool):=fun s_0 =>
 (ubbf_ (s_0,(s_0.length:Int),(0:Int))).bind fun r4 =>
 match r4 with
 | .inl y5 =>
   some false
 | .inr y5' =>
   some y5'
def ubxt_ (next:(List Str)×Int×Int→Option YY26):(List Str)×Int×Int→Option YY26:=fun (t75,t76,t77) =>
 bif (decide (t77<t76)) then
  (at? t75 t77).bind fun y13 =>
  (u6u_ y13).bind fun r14 =>
  bif r14 then
   some (.inr (8:Int))
  else
   next (t75,t76,(IntKind.i64.wrap (t77+(1:Int))))
 else
  some (.inl ())
def ubkl_:(List Str)×Int×Int→Option YY26:=loopN ubxt_ fuel
def ubtd_ (next:YY6×Int×Int→Option YY26):YY6×Int×Int→Option YY26:=fun (t85,t86,t87) =>
 bif (decide (t87<t86)) then
  (at? t85 t87).bind fun y17 =>
  (u6u_ y17.2).bind fun r18 =>
  bif r18 then
   some (.inr (8:Int))
  else
   next (t85,t86,(IntKind.i64.wrap (t87+(1:Int))))
 else
  some (.inl ())
def ube9_:YY6×Int×Int→Option YY26:=loopN ubtd_ fuel
def ubkm_:Str×Str×Str×Str×YY6×Str→Option (Int):=fun p_0 =>
 (ubtc_ p_0.1).bind fun r1 =>
 bif (!(eqI r1.2 (0:Int))) then
  some r1.2
 else
  (ubzp_ p_0).bind fun r2 =>
  bif r2 then
   some (3:Int)
  else
   bif (((!(eqS p_0.2.1 ([]:Str)))&&(eqI r1.1.2.1 (1:Int)))||((eqS p_0.2.1 ([]:Str))&&(eqI r1.1.2.1 (3:Int)))) then
    some (2:Int)
   else
    (uv7_ p_0.2.1).bind fun r5 =>
    (uw9_ (r5,false)).bind fun r6 =>
    bif r6 then
     some (2:Int)
    else
     (bif (!(eqS p_0.2.2.1 ([]:Str))) then strings_IndexByte (p_0.2.2.1,(47:Int)) else some (0:Int)).bind fun r7 =>
     bif ((eqS p_0.2.2.1 ([]:Str))||(decide ((0:Int)≤r7))) then
      some (8:Int)
     else
      (uny_ p_0.2.2.2.2.1).bind fun r9 =>
      bif (!(eqI r9 (0:Int))) then
       some r9
      else
       (uv7_ p_0.2.2.2.2.2).bind fun r10 =>
       (uw9_ (r10,true)).bind fun r11 =>
       bif r11 then
        some (2:Int)
       else
        let v12:=([p_0.2.1,p_0.2.2.1,p_0.2.2.2.1,p_0.2.2.2.2.2]:List Str)
        (ubkl_ (v12,(v12.length:Int),(0:Int))).bind fun r15 =>
        match r15 with
        | .inl y16 =>
          (ube9_ (p_0.2.2.2.2.1,(p_0.2.2.2.2.1.length:Int),(0:Int))).bind fun r19 =>
          match r19 with
          | .inl y20 =>
            some (0:Int)
          | .inr y20' =>
            some y20'
        | .inr y16' =>
          some y16'
def ubcw_:Int→Option (Bool):=fun c_0 =>
 some (((eqI c_0 (45:Int))||(eqI c_0 (95:Int)))||(eqI c_0 (46:Int)))
def ubn_:(List Int)×Int→Option (Unit×(List Int)):=fun (b_0,c_1) =>
 (uhu_ b_0).bind fun r1 =>
 (app? 24 r1 ([c_1]:List Int)).bind fun l2 =>
 some ((),l2)
def ubte_ (next:Str×(List Int)×Int×Int→Option (List Int)):Str×(List Int)×Int×Int→Option (List Int):=fun (s_0,b_3,t6,t7) =>
 bif (decide (t7<t6)) then
  (at? s_0 t7).bind fun b1 =>
  (ubcw_ (b1.toNat:Int)).bind fun r2 =>
  bif (!r2) then
   (at? s_0 t7).bind fun b3 =>
   (ubn_ (b_3,(b3.toNat:Int))).bind fun r4 =>
   next (s_0,r4.2,t6,(IntKind.i64.wrap (t7+(1:Int))))
  else
   (bif (!(eqI t7 (0:Int))) then at? s_0 (IntKind.i64.wrap (t7-(1:Int))) else some 0).bind fun b5 =>
   (bif (!(eqI t7 (0:Int))) then ubcw_ (b5.toNat:Int) else some false).bind fun r6 =>
   bif ((eqI t7 (0:Int))||(!r6)) then
    (ubn_ (b_3,(45:Int))).bind fun r7 =>
    next (s_0,r7.2,t6,(IntKind.i64.wrap (t7+(1:Int))))
   else
    next (s_0,b_3,t6,(IntKind.i64.wrap (t7+(1:Int))))
 else
  some b_3
def ubfa_:Str×(List Int)×Int×Int→Option (List Int):=loopN ubte_ fuel
def ubnj_:Str→Option Str:=fun s_0 =>
 (ubfa_ (s_0,([]:List Int),(s_0.length:Int),(0:Int))).bind fun r8 =>
 (ucd_ r8).bind fun r9 =>
 some r9
def uu0_:YY16×Bool→Option YY16:=fun (p_1,t12) =>
 bif t12 then
  (u6r_ p_1.2.1).bind fun r2 =>
  (u6r_ p_1.2.2.1).bind fun r3 =>
  some (p_1.1,(r2,(r3,p_1.2.2.2)))
 else
  some p_1
def uxa_:Str×Str×Str×Str×YY6×Str→Option YY16:=fun p_0 =>
 (ubtc_ p_0.1).bind fun r1 =>
 (uu0_ (p_0,r1.1.2.2.1)).bind fun r4 =>
 bif r1.1.2.2.2.1 then
  (ubnj_ r4.2.2.1).bind fun r5 =>
  (app? 48 [] r4.2.2.2.2.1).bind fun l6 =>
  some (r4.1,(r4.2.1,(r5,(r4.2.2.2.1,(l6,r4.2.2.2.2.2)))))
 else
  (app? 48 [] r4.2.2.2.2.1).bind fun l7 =>
  some (r4.1,(r4.2.1,(r4.2.2.1,(r4.2.2.2.1,(l7,r4.2.2.2.2.2)))))
def ub0k_ (next:YY16×YY13×Int→Option (Sum (YY16×YY13) (YY16×Int×Int))):YY16×YY13×Int→Option (Sum (YY16×YY13) (YY16×Int×Int)):=fun (t2,p_6,i_7) =>
 bif (decide (i_7<(p_6.2.2.2.2.1.length:Int))) then
  (in? p_6.2.2.2.2.1.length i_7).bind fun _ =>
  (in? p_6.2.2.2.2.1.length (IntKind.i64.wrap (i_7-(1:Int)))).bind fun _ =>
  bif (eqS ((p_6.2.2.2.2.1.getD i_7.toNat (([]:Str),([]:Str))).1) ((p_6.2.2.2.2.1.getD ((IntKind.i64.wrap (i_7-(1:Int))).toNat) (([]:Str),([]:Str))).1)) then
   some (.inr ((([]:Str),(([]:Str),(([]:Str),(([]:Str),(([]:List (Str×Str)),([]:Str)))))),(0:Int),(5:Int)))
  else
   next (t2,(p_6.1,(p_6.2.1,(p_6.2.2.1,(p_6.2.2.2.1,(p_6.2.2.2.2.1,p_6.2.2.2.2.2))))),(IntKind.i64.wrap (i_7+(1:Int))))
 else
  some (.inl (t2,(p_6.1,(p_6.2.1,(p_6.2.2.1,(p_6.2.2.2.1,(p_6.2.2.2.2.1,p_6.2.2.2.2.2)))))))
def ubqv_:YY16×YY13×Int→Option (Sum (YY16×YY13) (YY16×Int×Int)):=loopN ub0k_ fuel
def ubzq_:Str→Option (YY16×Int×Int):=fun s_0 =>
 bif (decide ((3000:Int)<(s_0.length:Int))) then
  some ((([]:Str),(([]:Str),(([]:Str),(([]:Str),(([]:List (Str×Str)),([]:Str)))))),(0:Int),(3:Int))
 else
  (uw8_ (s_0,((0:Int),(-1:Int)))).bind fun r2 =>
  bif (decide ((0:Int)≤r2.2.2.2)) then
   some ((([]:Str),(([]:Str),(([]:Str),(([]:Str),(([]:List (Str×Str)),([]:Str)))))),r2.2.2.2,(6:Int))
  else
   (uer_ (r2.1.2.2.2.2.1,(fun x=>(ube8_ x).bind fun r=>some r))).bind fun r4 =>
   (ubqv_ ((([]:Str),(([]:Str),(([]:Str),(([]:Str),(([]:List (Str×Str)),([]:Str)))))),(r2.1.1,(r2.1.2.1,(r2.1.2.2.1,(r2.1.2.2.2.1,(r4,r2.1.2.2.2.2.2))))),(1:Int))).bind fun r8 =>
   match r8 with
   | .inl y9 =>
     (ubkm_ (y9.2.1,(y9.2.2.1,(y9.2.2.2.1,(y9.2.2.2.2.1,(y9.2.2.2.2.2.1,y9.2.2.2.2.2.2)))))).bind fun r11 =>
     bif (!(eqI r11 (0:Int))) then
      some ((([]:Str),(([]:Str),(([]:Str),(([]:Str),(([]:List (Str×Str)),([]:Str)))))),(0:Int),r11)
     else
      (uxa_ (y9.2.1,(y9.2.2.1,(y9.2.2.2.1,(y9.2.2.2.2.1,(y9.2.2.2.2.2.1,y9.2.2.2.2.2.2)))))).bind fun r14 =>
      some (r14,(0:Int),(0:Int))
   | .inr y9' =>
     some (y9'.1,y9'.2.1,y9'.2.2)
def ubs_:(List Int)×Str→Option (Int×Unit×(List Int)):=fun (b_0,s_1) =>
 (uhu_ b_0).bind fun r1 =>
 (app? 24 r1 (ue8_ s_1)).bind fun l2 =>
 some ((s_1.length:Int),(),l2)
def ubpy_ (next:Str×(List Int)×Int×Int→Option (List Int)):Str×(List Int)×Int×Int→Option (List Int):=fun (s_0,b_3,t7,t8) =>
 bif (decide (t8<t7)) then
  (at? s_0 t8).bind fun b1 =>
  (u18_ (b1.toNat:Int)).bind fun r2 =>
  let v3:=((decide ((48:Int)≤(b1.toNat:Int)))&&(decide ((b1.toNat:Int)≤(57:Int))))
  (bif (!(r2||v3)) then strings_IndexByte (([46,45,95,126]:Str),(b1.toNat:Int)) else some (0:Int)).bind fun r4 =>
  bif ((r2||v3)||(decide ((0:Int)≤r4))) then
   (ubn_ (b_3,(b1.toNat:Int))).bind fun r5 =>
   next (s_0,r5.2,t7,(IntKind.i64.wrap (t8+(1:Int))))
  else
   (div? IntKind.u8 (b1.toNat:Int) (16:Int)).bind fun q6 =>
   (div? IntKind.u8 (b1.toNat:Int) (16:Int)).bind fun q7 =>
   (cut? ([48,49,50,51,52,53,54,55,56,57,65,66,67,68,69,70]:Str) q6 (IntKind.u8.wrap (q7+(1:Int)))).bind fun s8 =>
   (cat? ([37]:Str) s8).bind fun s9 =>
   (mod? (b1.toNat:Int) (16:Int)).bind fun q10 =>
   (mod? (b1.toNat:Int) (16:Int)).bind fun q11 =>
   (cut? ([48,49,50,51,52,53,54,55,56,57,65,66,67,68,69,70]:Str) q10 (IntKind.u8.wrap (q11+(1:Int)))).bind fun s12 =>
   (cat? s9 s12).bind fun s13 =>
   (ubs_ (b_3,s13)).bind fun r14 =>
   next (s_0,r14.2.2,t7,(IntKind.i64.wrap (t8+(1:Int))))
 else
  some b_3
def ubbg_:Str×(List Int)×Int×Int→Option (List Int):=loopN ubpy_ fuel
def u0s_:Str→Option Str:=fun s_0 =>
 (ubbg_ (s_0,([]:List Int),(s_0.length:Int),(0:Int))).bind fun r15 =>
 (ucd_ r15).bind fun r16 =>
 some r16
def ub0l_ (next:(List Str)×(List Str)×Int×Int→Option (List Str)):(List Str)×(List Str)×Int×Int→Option (List Str):=fun (l_3,t7,t8,t9) =>
 bif (decide (t9<t8)) then
  (at? t7 t9).bind fun y2 =>
  (u0s_ y2).bind fun r3 =>
  (app? 24 l_3 ([r3]:List Str)).bind fun l4 =>
  next (l4,t7,t8,(IntKind.i64.wrap (t9+(1:Int))))
 else
  some l_3
def ubqw_:(List Str)×(List Str)×Int×Int→Option (List Str):=loopN ub0l_ fuel
def ubzr_:Str→Option Str:=fun s_0 =>
 (uv7_ s_0).bind fun r1 =>
 (ubqw_ (([]:List Str),r1,(r1.length:Int),(0:Int))).bind fun r5 =>
 (strings_Join (r5,([47]:Str))).bind fun r6 =>
 some r6
def ubfb_:Str×Str×Str×Str×YY6×Str→Option Str:=fun p_0 =>
 (cat? ([112,107,103,58]:Str) p_0.1).bind fun s1 =>
 (cat? s1 ([47]:Str)).bind fun s2 =>
 bif (!(eqS p_0.2.1 ([]:Str))) then
  (ubzr_ p_0.2.1).bind fun r3 =>
  (cat? r3 ([47]:Str)).bind fun s4 =>
  (cat? s2 s4).bind fun s5 =>
  (u0s_ p_0.2.2.1).bind fun r6 =>
  (cat? s5 r6).bind fun s7 =>
  some s7
 else
  (u0s_ p_0.2.2.1).bind fun r8 =>
  (cat? s2 r8).bind fun s9 =>
  some s9
def ub42_:Str×Str×Str×Str×YY6×Str→Option (Str×Int):=fun p_0 =>
 (ubkm_ p_0).bind fun r1 =>
 bif (!(eqI r1 (0:Int))) then
  some (([]:Str),r1)
 else
  (uxa_ p_0).bind fun r2 =>
  (ubfb_ r2).bind fun r3 =>
  some (r3,(0:Int))
def u5z_:Str→Option (Bool):=fun s_0 =>
 (ubzq_ s_0).bind fun r1 =>
 bif (!(eqI r1.2.2 (0:Int))) then
  some false
 else
  (ub42_ r1.1).bind fun r2 =>
  some ((eqI r2.2 (0:Int))&&(eqS r2.1 s_0))
def ubtf_ (next:Str×Int×YY37×Int→Option (Int)):Str×Int×YY37×Int→Option (Int):=fun (s_0,at_1,is_2,n_7) =>
 let v1:=(decide ((IntKind.i64.wrap (at_1+n_7))<(s_0.length:Int)))
 (bif v1 then at? s_0 (IntKind.i64.wrap (at_1+n_7)) else some 0).bind fun b2 =>
 (bif v1 then is_2 (b2.toNat:Int) else some false).bind fun r3 =>
 bif (v1&&r3) then
  next (s_0,at_1,is_2,(IntKind.i64.wrap (n_7+(1:Int))))
 else
  some n_7
def ubfc_:Str×Int×YY37×Int→Option (Int):=loopN ubtf_ fuel
def udk_:Str×Int×YY37→Option (Int):=fun (s_0,at_1,is_2) =>
 (ubfc_ (s_0,at_1,is_2,(0:Int))).bind fun r4 =>
 some r4
def u9_:Int→Option (Bool):=fun c_0 =>
 some ((decide ((48:Int)≤c_0))&&(decide (c_0≤(57:Int))))
def uc0_:Str→Option (Int×Bool):=fun s_0 =>
 let v1:=((eqS s_0 ([]:Str))||(decide ((18:Int)<(s_0.length:Int))))
 (bif (!v1) then udk_ (s_0,(0:Int),(fun x=>(u9_ x).bind fun r=>some r)) else some (0:Int)).bind fun r2 =>
 bif (v1||(!(eqI r2 (s_0.length:Int)))) then
  some ((0:Int),false)
 else
  (ube7_ s_0).bind fun r3 =>
  some (r3.1,true)
def uf2_:Str→Option (Int×Bool):=fun s_0 =>
 (bif (decide ((1:Int)<(s_0.length:Int))) then at? s_0 (0:Int) else some 0).bind fun b1 =>
 bif ((decide ((1:Int)<(s_0.length:Int)))&&(eqI (b1.toNat:Int) (48:Int))) then
  some ((0:Int),false)
 else
  (uc0_ s_0).bind fun r3 =>
  some (r3.1,r3.2)
def uf3_:Int→Option (Bool):=fun c_0 =>
 some (((decide ((65:Int)≤c_0))&&(decide (c_0≤(90:Int))))||((decide ((97:Int)≤c_0))&&(decide (c_0≤(122:Int)))))
def ukk_:Int→Option (Bool):=fun c_0 =>
 (u9_ c_0).bind fun r1 =>
 (bif (!r1) then uf3_ c_0 else some false).bind fun r2 =>
 some ((r1||r2)||(eqI c_0 (45:Int)))
def u2a_ (next:(List Str)×Int×Int→Option (Sum (Unit) YY30)):(List Str)×Int×Int→Option (Sum (Unit) YY30):=fun (t9,t10,t11) =>
 bif (decide (t11<t10)) then
  (at? t9 t11).bind fun y2 =>
  (bif (!(eqS y2 ([]:Str))) then udk_ (y2,(0:Int),(fun x=>(ukk_ x).bind fun r=>some r)) else some (0:Int)).bind fun r3 =>
  bif ((eqS y2 ([]:Str))||(!(eqI r3 (y2.length:Int)))) then
   some (.inr (([]:List Str),false))
  else
   next (t9,t10,(IntKind.i64.wrap (t11+(1:Int))))
 else
  some (.inl ())
def uq1_:(List Str)×Int×Int→Option (Sum (Unit) YY30):=loopN u2a_ fuel
def ukl_:Str→Option YY30:=fun s_0 =>
 (strings_Split (s_0,([46]:Str))).bind fun r1 =>
 (uq1_ (r1,(r1.length:Int),(0:Int))).bind fun r5 =>
 match r5 with
 | .inl y6 =>
   some (r1,true)
 | .inr y6' =>
   some (y6'.1,y6'.2)
def u98_ (next:(List Str)×Int×Int→Option (Sum (Unit) YY30)):(List Str)×Int×Int→Option (Sum (Unit) YY30):=fun (t15,t16,t17) =>
 bif (decide (t17<t16)) then
  (at? t15 t17).bind fun y2 =>
  (udk_ (y2,(0:Int),(fun x=>(u9_ x).bind fun r=>some r))).bind fun r3 =>
  bif (eqI r3 (y2.length:Int)) then
   (uf2_ y2).bind fun r4 =>
   bif (!r4.2) then
    some (.inr (([]:List Str),false))
   else
    next (t15,t16,(IntKind.i64.wrap (t17+(1:Int))))
  else
   next (t15,t16,(IntKind.i64.wrap (t17+(1:Int))))
 else
  some (.inl ())
def uxb_:(List Str)×Int×Int→Option (Sum (Unit) YY30):=loopN u98_ fuel
def uxc_:Str→Option YY30:=fun s_0 =>
 (ukl_ s_0).bind fun r1 =>
 (uxb_ (r1.1,(r1.1.length:Int),(0:Int))).bind fun r5 =>
 match r5 with
 | .inl y6 =>
   some (r1.1,r1.2)
 | .inr y6' =>
   some (y6'.1,y6'.2)
def ubfd_:Str→Option YY30:=fun s_0 =>
 (strings_Cut (s_0,([43]:Str))).bind fun r1 =>
 (ukl_ r1.2.1).bind fun r2 =>
 bif (r1.2.2&&(!r2.2)) then
  some (([]:List Str),false)
 else
  bif (eqS r1.1 ([]:Str)) then
   some (([]:List Str),true)
  else
   (at? r1.1 (0:Int)).bind fun b3 =>
   bif (!(eqI (b3.toNat:Int) (45:Int))) then
    some (([]:List Str),false)
   else
    (cut? r1.1 (1:Int) (r1.1.length:Int)).bind fun s4 =>
    (uxc_ s4).bind fun r5 =>
    some (r5.1,r5.2)
def uly_:Str×Int×Bool→Option (Sum (Int) (YY3×Bool)):=fun (s_0,at_5,t16) =>
 bif t16 then
  (bif (!(decide ((s_0.length:Int)≤at_5))) then at? s_0 at_5 else some 0).bind fun b1 =>
  bif ((decide ((s_0.length:Int)≤at_5))||(!(eqI (b1.toNat:Int) (46:Int)))) then
   some (.inr ((Sum.inr (Sum.inr (Sum.inr (Sum.inr (Sum.inr ()))))),false))
  else
   some (.inl (IntKind.i64.wrap (at_5+(1:Int))))
 else
  some (.inl at_5)
def u4p_ (next:Str×YY28×Int×Int→Option (Sum (YY28×Int) (YY3×Bool))):Str×YY28×Int×Int→Option (Sum (YY28×Int) (YY3×Bool)):=fun (s_0,v_4,at_5,t12) =>
 bif (decide (t12<(3:Int))) then
  (uly_ (s_0,at_5,(decide ((0:Int)<t12)))).bind fun r3 =>
  match r3 with
  | .inl y4 =>
    (udk_ (s_0,y4,(fun x=>(u9_ x).bind fun r=>some r))).bind fun r5 =>
    (cut? s_0 y4 (IntKind.i64.wrap (y4+r5))).bind fun s6 =>
    (uf2_ s6).bind fun r7 =>
    bif (!r7.2) then
     some (.inr ((Sum.inr (Sum.inr (Sum.inr (Sum.inr (Sum.inr ()))))),false))
    else
     (in? 3 t12).bind fun _ =>
     next (s_0,((v_4.1.set t12.toNat r7.1),v_4.2),(IntKind.i64.wrap (y4+r5)),(IntKind.i64.wrap (t12+(1:Int))))
  | .inr y4' =>
    some (.inr (y4'.1,y4'.2))
 else
  some (.inl ((v_4.1,v_4.2),at_5))
def utb_:Str×YY28×Int×Int→Option (Sum (YY28×Int) (YY3×Bool)):=loopN u4p_ fuel
def ur5_:Str→Option (YY3×Bool):=fun s_0 =>
 (utb_ (s_0,((List.replicate 3 (0:Int)),([]:List Str)),(0:Int),(0:Int))).bind fun r8 =>
 match r8 with
 | .inl y9 =>
   (cut? s_0 y9.2 (s_0.length:Int)).bind fun s10 =>
   (ubfd_ s10).bind fun r11 =>
   some ((Sum.inl (y9.1.1,r11.1)),r11.2)
 | .inr y9' =>
   some (y9'.1,y9'.2)
def ukm_:Int→Option (Bool):=fun c_0 =>
 (u9_ c_0).bind fun r1 =>
 (bif (!r1) then uf3_ c_0 else some false).bind fun r2 =>
 (bif (!(r1||r2)) then strings_IndexByte (([46,43,126,45]:Str),c_0) else some (0:Int)).bind fun r3 =>
 some ((r1||r2)||(decide ((0:Int)≤r3)))
def u6v_ (next:Str×Int→Option YY20):Str×Int→Option YY20:=fun (s_0,at_3) =>
 bif (decide (at_3<(s_0.length:Int))) then
  (udk_ (s_0,at_3,(fun x=>(u9_ x).bind fun r=>some r))).bind fun r1 =>
  bif (decide ((18:Int)<r1)) then
   some (.inr false)
  else
   next (s_0,(IntKind.i64.wrap (at_3+(maxI r1 (1:Int)))))
 else
  some (.inl ())
def uvg_:Str×Int→Option YY20:=loopN u6v_ fuel
def uu1_:Str→Option (Bool):=fun s_0 =>
 (uvg_ (s_0,(0:Int))).bind fun r2 =>
 match r2 with
 | .inl y3 =>
   some true
 | .inr y3' =>
   some y3'
def ukn_:Str×YY33×Str×Str×Bool→Option (Sum (Str×YY33) (YY3×Bool)):=fun (s_0,v_4,epoch_5,rest_6,t18) =>
 bif t18 then
  (uf2_ epoch_5).bind fun r2 =>
  bif (!r2.2) then
   some (.inr ((Sum.inr (Sum.inr (Sum.inr (Sum.inr (Sum.inr ()))))),false))
  else
   some (.inl (rest_6,(r2.1,v_4.2)))
 else
  some (.inl (s_0,v_4))
def uqg_:Str→Option (YY3×Bool):=fun s_0 =>
 (strings_Cut (s_0,([58]:Str))).bind fun r1 =>
 (ukn_ (s_0,((0:Int),(([]:Str),(([]:Str),false))),r1.1,r1.2.1,r1.2.2)).bind fun r3 =>
 match r3 with
 | .inl y4 =>
   (bif (!(eqS y4.1 ([]:Str))) then at? y4.1 (0:Int) else some 0).bind fun b5 =>
   (bif (!(eqS y4.1 ([]:Str))) then u9_ (b5.toNat:Int) else some false).bind fun r6 =>
   (bif (!((eqS y4.1 ([]:Str))||(!r6))) then udk_ (y4.1,(0:Int),(fun x=>(ukm_ x).bind fun r=>some r)) else some (0:Int)).bind fun r7 =>
   let v8:=(((eqS y4.1 ([]:Str))||(!r6))||(!(eqI r7 (y4.1.length:Int))))
   (bif (!v8) then uu1_ y4.1 else some false).bind fun r9 =>
   bif (v8||(!r9)) then
    some ((Sum.inr (Sum.inr (Sum.inr (Sum.inr (Sum.inr ()))))),false)
   else
    (strings_LastIndexByte (y4.1,(45:Int))).bind fun r10 =>
    bif (decide ((0:Int)≤r10)) then
     (cut? y4.1 (0:Int) r10).bind fun s11 =>
     (cut? y4.1 (IntKind.i64.wrap (r10+(1:Int))) (y4.1.length:Int)).bind fun s12 =>
     bif (eqS s12 ([]:Str)) then
      some ((Sum.inr (Sum.inr (Sum.inr (Sum.inr (Sum.inr ()))))),false)
     else
      (strings_IndexByte (s11,(45:Int))).bind fun r13 =>
      some ((Sum.inr (Sum.inl (y4.2.1,(s11,(s12,(decide ((0:Int)≤r13))))))),true)
    else
     (strings_IndexByte (y4.1,(45:Int))).bind fun r15 =>
     some ((Sum.inr (Sum.inl (y4.2.1,(y4.1,(y4.2.2.2.1,(decide ((0:Int)≤r15))))))),true)
 | .inr y4' =>
   some (y4'.1,y4'.2)
def u6w_ (next:Str×(List Int)→Option ((List Int)×Str×Bool)):Str×(List Int)→Option ((List Int)×Str×Bool):=fun (s_0,out_5) =>
 (udk_ (s_0,(0:Int),(fun x=>(u9_ x).bind fun r=>some r))).bind fun r1 =>
 (cut? s_0 (0:Int) r1).bind fun s2 =>
 (uc0_ s2).bind fun r3 =>
 bif (!r3.2) then
  some (([]:List Int),([]:Str),false)
 else
  (app? 24 out_5 ([r3.1]:List Int)).bind fun l4 =>
  (cut? s_0 r1 (s_0.length:Int)).bind fun s5 =>
  (bif (!(decide ((s5.length:Int)<(2:Int)))) then at? s5 (0:Int) else some 0).bind fun b6 =>
  let v7:=((decide ((s5.length:Int)<(2:Int)))||(!(eqI (b6.toNat:Int) (46:Int))))
  (bif (!v7) then at? s5 (1:Int) else some 0).bind fun b8 =>
  (bif (!v7) then u9_ (b8.toNat:Int) else some false).bind fun r9 =>
  bif (v7||(!r9)) then
   some (l4,s5,true)
  else
   (cut? s5 (1:Int) (s5.length:Int)).bind fun s10 =>
   next (s10,l4)
def uvh_:Str×(List Int)→Option ((List Int)×Str×Bool):=loopN u6w_ fuel
def uu2_:Str→Option ((List Int)×Str×Bool):=fun s_0 =>
 (uvh_ (s_0,([]:List Int))).bind fun r11 =>
 some (r11.1,r11.2.1,r11.2.2)
def ubfe_:Int→Option (Bool):=fun c_0 =>
 some (((eqI c_0 (46:Int))||(eqI c_0 (45:Int)))||(eqI c_0 (95:Int)))
def uxd_:Str×YY37→Option (Int):=fun (s_0,is_1) =>
 (bif (decide ((1:Int)<(s_0.length:Int))) then at? s_0 (0:Int) else some 0).bind fun b1 =>
 (bif (decide ((1:Int)<(s_0.length:Int))) then ubfe_ (b1.toNat:Int) else some false).bind fun r2 =>
 (bif ((decide ((1:Int)<(s_0.length:Int)))&&r2) then at? s_0 (1:Int) else some 0).bind fun b3 =>
 (bif ((decide ((1:Int)<(s_0.length:Int)))&&r2) then is_1 (b3.toNat:Int) else some false).bind fun r4 =>
 bif (((decide ((1:Int)<(s_0.length:Int)))&&r2)&&r4) then
  some (1:Int)
 else
  some (0:Int)
def u6x_ (next:Str×Str×(List Str)×Int×Int→Option Str):Str×Str×(List Str)×Int×Int→Option Str:=fun (s_0,word_2,t7,t8,t9) =>
 bif (decide (t9<t8)) then
  (at? t7 t9).bind fun y2 =>
  (strings_HasPrefix (s_0,y2)).bind fun r3 =>
  bif r3 then
   some y2
  else
   next (s_0,word_2,t7,t8,(IntKind.i64.wrap (t9+(1:Int))))
 else
  some word_2
def uvi_:Str×Str×(List Str)×Int×Int→Option Str:=loopN u6x_ fuel
def unz_:Str×Bool→Option (Bool):=fun (t18,t21) =>
 bif t21 then
  some t21
 else
  some (eqS t18 ([97,108,112,104,97]:Str))
def un0_:Str×Bool→Option (Bool):=fun (t18,t25) =>
 bif t25 then
  some t25
 else
  some (eqS t18 ([98,101,116,97]:Str))
def un1_:Str×Bool→Option (Bool):=fun (t18,t29) =>
 bif t29 then
  some t29
 else
  bif (eqS t18 ([114,99]:Str)) then
   some (eqS t18 ([114,99]:Str))
  else
   bif (eqS t18 ([112,114,101]:Str)) then
    some (eqS t18 ([112,114,101]:Str))
   else
    some (eqS t18 ([112,114,101,118,105,101,119]:Str))
def uu3_:Str→Option YY10:=fun s_0 =>
 let v1:=([([112,114,101,118,105,101,119]:Str),([97,108,112,104,97]:Str),([98,101,116,97]:Str),([112,111,115,116]:Str),([112,114,101]:Str),([114,101,118]:Str),([100,101,118]:Str),([114,99]:Str),([97]:Str),([98]:Str),([99]:Str),([114]:Str)]:List Str)
 (uvi_ (s_0,([]:Str),v1,(v1.length:Int),(0:Int))).bind fun r4 =>
 bif (eqS r4 ([]:Str)) then
  some (([]:Str),(0:Int),(0:Int))
 else
  (unz_ (r4,(eqS r4 ([97]:Str)))).bind fun r5 =>
  bif r5 then
   some (r4,(1:Int),(1:Int))
  else
   (un0_ (r4,(eqS r4 ([98]:Str)))).bind fun r6 =>
   bif r6 then
    some (r4,(1:Int),(2:Int))
   else
    (un1_ (r4,(eqS r4 ([99]:Str)))).bind fun r7 =>
    bif r7 then
     some (r4,(1:Int),(3:Int))
    else
     bif (eqS r4 ([112,111,115,116]:Str)) then
      bif (eqS r4 ([112,111,115,116]:Str)) then
       some (r4,(2:Int),(0:Int))
      else
       some (r4,(3:Int),(0:Int))
     else
      bif (eqS r4 ([114,101,118]:Str)) then
       bif (eqS r4 ([114,101,118]:Str)) then
        some (r4,(2:Int),(0:Int))
       else
        some (r4,(3:Int),(0:Int))
      else
       bif (eqS r4 ([114]:Str)) then
        some (r4,(2:Int),(0:Int))
       else
        some (r4,(3:Int),(0:Int))
def uji_:Str×Int×Int×Bool→Option (Sum (Str×Int) (Str×Bool)):=fun (rest_7,n_11,k_12,t49) =>
 bif t49 then
  (udk_ (rest_7,k_12,(fun x=>(u9_ x).bind fun r=>some r))).bind fun r9 =>
  (cut? rest_7 k_12 (IntKind.i64.wrap (k_12+r9))).bind fun s10 =>
  (uc0_ s10).bind fun r11 =>
  bif (!r11.2) then
   some (.inr (([]:Str),false))
  else
   (cut? rest_7 (IntKind.i64.wrap (k_12+r9)) (rest_7.length:Int)).bind fun s12 =>
   some (.inl (s12,r11.1))
 else
  some (.inl (rest_7,n_11))
def uzt_ (next:YY9×Str×Int→Option (YY9×Str×Bool)):YY9×Str×Int→Option (YY9×Str×Bool):=fun (v_0,s_1,last_6) =>
 (uxd_ (s_1,(fun x=>(uf3_ x).bind fun r=>some r))).bind fun r1 =>
 (cut? s_1 r1 (s_1.length:Int)).bind fun s2 =>
 (uu3_ s2).bind fun r3 =>
 bif (eqS r3.1 ([]:Str)) then
  some (v_0,s_1,true)
 else
  bif (decide (r3.2.1≤last_6)) then
   some (v_0,([]:Str),false)
  else
   (cut? s2 (r3.1.length:Int) (s2.length:Int)).bind fun s4 =>
   (uxd_ (s4,(fun x=>(u9_ x).bind fun r=>some r))).bind fun r5 =>
   (bif ((!(decide ((0:Int)<r5)))&&(!(eqS s4 ([]:Str)))) then at? s4 (0:Int) else some 0).bind fun b6 =>
   (bif ((!(decide ((0:Int)<r5)))&&(!(eqS s4 ([]:Str)))) then u9_ (b6.toNat:Int) else some false).bind fun r7 =>
   (uji_ (s4,(0:Int),r5,((decide ((0:Int)<r5))||((!(eqS s4 ([]:Str)))&&r7)))).bind fun r13 =>
   match r13 with
   | .inl y14 =>
     bif (eqI r3.2.1 (1:Int)) then
      next ((v_0.1,(v_0.2.1,(r3.2.2,(y14.2,v_0.2.2.2.2)))),y14.1,r3.2.1)
     else
      bif (eqI r3.2.1 (2:Int)) then
       next ((v_0.1,(v_0.2.1,(v_0.2.2.1,(v_0.2.2.2.1,(y14.2,v_0.2.2.2.2.2))))),y14.1,r3.2.1)
      else
       bif (eqI r3.2.1 (3:Int)) then
        next ((v_0.1,(v_0.2.1,(v_0.2.2.1,(v_0.2.2.2.1,(v_0.2.2.2.2.1,(y14.2,v_0.2.2.2.2.2.2)))))),y14.1,r3.2.1)
       else
        next (v_0,y14.1,r3.2.1)
   | .inr y14' =>
     some (v_0,y14'.1,y14'.2)
def upr_:YY9×Str×Int→Option (YY9×Str×Bool):=loopN uzt_ fuel
def un2_:YY9×Str→Option (Str×Bool×YY9):=fun (v_0,s_1) =>
 (upr_ (v_0,s_1,(0:Int))).bind fun r15 =>
 some (r15.2.1,r15.2.2,r15.1)
def u0t_:Int→Option (Bool):=fun c_0 =>
 some (((eqI c_0 (46:Int))||(eqI c_0 (45:Int)))||(eqI c_0 (95:Int)))
def ur6_:Int→Option (Bool):=fun c_0 =>
 (u9_ c_0).bind fun r1 =>
 (bif (!r1) then uf3_ c_0 else some false).bind fun r2 =>
 some (r1||r2)
def ubcx_ (next:Int×(List Str)×Int×Int→Option (Sum (Int) YY30)):Int×(List Str)×Int×Int→Option (Sum (Int) YY30):=fun (n_5,t13,t14,t15) =>
 bif (decide (t15<t14)) then
  (at? t13 t15).bind fun y2 =>
  (udk_ (y2,(0:Int),(fun x=>(u9_ x).bind fun r=>some r))).bind fun r3 =>
  (udk_ (y2,(0:Int),(fun x=>(ur6_ x).bind fun r=>some r))).bind fun r4 =>
  bif ((!(eqI r4 (y2.length:Int)))||((eqI r3 (y2.length:Int))&&(decide ((18:Int)<r3)))) then
   some (.inr (([]:List Str),false))
  else
   next ((IntKind.i64.wrap (n_5+(y2.length:Int))),t13,t14,(IntKind.i64.wrap (t15+(1:Int))))
 else
  some (.inl n_5)
def u0u_:Int×(List Str)×Int×Int→Option (Sum (Int) YY30):=loopN ubcx_ fuel
def u1s_:Str→Option YY30:=fun s_0 =>
 (ui3_ (s_0,(fun x=>(u0t_ x).bind fun r=>some r))).bind fun r1 =>
 (u0u_ ((r1.length:Int),r1,(r1.length:Int),(0:Int))).bind fun r6 =>
 match r6 with
 | .inl y7 =>
   some (r1,((decide ((0:Int)<(r1.length:Int)))&&(eqI (IntKind.i64.wrap (y7-(1:Int))) (s_0.length:Int))))
 | .inr y7' =>
   some (y7'.1,y7'.2)
def ulz_:Str×YY9×Int×Bool→Option (Sum (Str×YY9) (YY3×Bool)):=fun (s_0,v_4,n_5,t29) =>
 bif t29 then
  (cut? s_0 (0:Int) n_5).bind fun s6 =>
  (uc0_ s6).bind fun r7 =>
  bif (!r7.2) then
   some (.inr ((Sum.inr (Sum.inr (Sum.inr (Sum.inr (Sum.inr ()))))),false))
  else
   (cut? s_0 (IntKind.i64.wrap (n_5+(1:Int))) (s_0.length:Int)).bind fun s8 =>
   some (.inl (s8,(r7.1,v_4.2)))
 else
  some (.inl (s_0,v_4))
def ur7_:Str→Option (YY3×Bool):=fun s_0 =>
 (strings_TrimPrefix (s_0,([118]:Str))).bind fun r2 =>
 (udk_ (r2,(0:Int),(fun x=>(u9_ x).bind fun r=>some r))).bind fun r3 =>
 (bif (decide (r3<(r2.length:Int))) then at? r2 r3 else some 0).bind fun b4 =>
 (ulz_ (r2,((0:Int),(([]:List Int),((0:Int),((0:Int),((-1:Int),((-1:Int),([]:List Str))))))),r3,((decide (r3<(r2.length:Int)))&&(eqI (b4.toNat:Int) (33:Int))))).bind fun r9 =>
 match r9 with
 | .inl y10 =>
   (uu2_ y10.1).bind fun r11 =>
   bif (!r11.2.2) then
    some ((Sum.inr (Sum.inr (Sum.inr (Sum.inr (Sum.inr ()))))),false)
   else
    (un2_ ((y10.2.1,(r11.1,y10.2.2.2)),r11.2.1)).bind fun r12 =>
    bif (!r12.2.1) then
     some ((Sum.inr (Sum.inr (Sum.inr (Sum.inr (Sum.inr ()))))),false)
    else
     (strings_CutPrefix (r12.1,([43]:Str))).bind fun r13 =>
     bif r13.2 then
      (u1s_ r13.1).bind fun r14 =>
      some ((Sum.inr (Sum.inr (Sum.inl (r12.2.2.1,(r12.2.2.2.1,(r12.2.2.2.2.1,(r12.2.2.2.2.2.1,(r12.2.2.2.2.2.2.1,(r12.2.2.2.2.2.2.2.1,r14.1))))))))),r14.2)
     else
      some ((Sum.inr (Sum.inr (Sum.inl r12.2.2))),(eqS r12.1 ([]:Str)))
 | .inr y10' =>
   some (y10'.1,y10'.2)
def u99_:Str×Bool→Option Str:=fun (w_0,followed_1) =>
 (ut9_ w_0).bind fun r1 =>
 bif ((eqS r1 ([97]:Str))&&followed_1) then
  some ([97,108,112,104,97]:Str)
 else
  bif ((eqS r1 ([98]:Str))&&followed_1) then
   some ([98,101,116,97]:Str)
  else
   bif ((eqS r1 ([109]:Str))&&followed_1) then
    some ([109,105,108,101,115,116,111,110,101]:Str)
   else
    bif (eqS r1 ([99,114]:Str)) then
     some ([114,99]:Str)
    else
     bif (((eqS r1 ([102,105,110,97,108]:Str))||(eqS r1 ([103,97]:Str)))||(eqS r1 ([114,101,108,101,97,115,101]:Str))) then
      some ([]:Str)
     else
      some r1
def uhx_:Bool×Str×Int→Option (Bool):=fun t_0 =>
 some ((t_0.1&&(eqS t_0.2.1 ([]:Str)))||((!t_0.1)&&(eqI t_0.2.2 (0:Int))))
def uiq_:Str×Int×Bool→Option (Sum (Int) (YY3×Bool)):=fun (s_0,at_5,t24) =>
 bif t24 then
  let v4:=(eqI at_5 (IntKind.i64.wrap ((s_0.length:Int)-(1:Int))))
  (bif (!((eqI at_5 (0:Int))||v4)) then at? s_0 (IntKind.i64.wrap (at_5+(1:Int))) else some 0).bind fun b5 =>
  (bif (!((eqI at_5 (0:Int))||v4)) then u9_ (b5.toNat:Int) else some false).bind fun r6 =>
  (bif ((!((eqI at_5 (0:Int))||v4))&&(!r6)) then at? s_0 (IntKind.i64.wrap (at_5+(1:Int))) else some 0).bind fun b7 =>
  (bif ((!((eqI at_5 (0:Int))||v4))&&(!r6)) then uf3_ (b7.toNat:Int) else some false).bind fun r8 =>
  bif (((eqI at_5 (0:Int))||v4)||((!r6)&&(!r8))) then
   some (.inr ((Sum.inr (Sum.inr (Sum.inr (Sum.inr (Sum.inr ()))))),false))
  else
   some (.inl (IntKind.i64.wrap (at_5+(1:Int))))
 else
  some (.inl at_5)
def uxe_ (next:Str×(List YY19)×Int→Option (Sum (List YY19) (YY3×Bool))):Str×(List YY19)×Int→Option (Sum (List YY19) (YY3×Bool)):=fun (s_0,v_4,at_5) =>
 bif (decide (at_5<(s_0.length:Int))) then
  (at? s_0 at_5).bind fun b1 =>
  (bif (!(eqI (b1.toNat:Int) (46:Int))) then at? s_0 at_5 else some 0).bind fun b2 =>
  (uiq_ (s_0,at_5,((eqI (b1.toNat:Int) (46:Int))||(eqI (b2.toNat:Int) (45:Int))))).bind fun r9 =>
  match r9 with
  | .inl y10 =>
    (udk_ (s_0,y10,(fun x=>(u9_ x).bind fun r=>some r))).bind fun r11 =>
    bif (decide ((0:Int)<r11)) then
     (cut? s_0 y10 (IntKind.i64.wrap (y10+r11))).bind fun s12 =>
     (uc0_ s12).bind fun r13 =>
     bif (!r13.2) then
      some (.inr ((Sum.inr (Sum.inr (Sum.inr (Sum.inr (Sum.inr ()))))),false))
     else
      (app? 72 v_4 ([(false,(([]:Str),r13.1))]:List YY19)).bind fun l15 =>
      next (s_0,l15,(IntKind.i64.wrap (y10+r11)))
    else
     (udk_ (s_0,y10,(fun x=>(uf3_ x).bind fun r=>some r))).bind fun r16 =>
     bif (eqI r16 (0:Int)) then
      some (.inr ((Sum.inr (Sum.inr (Sum.inr (Sum.inr (Sum.inr ()))))),false))
     else
      let v17:=(decide ((IntKind.i64.wrap (y10+r16))<(s_0.length:Int)))
      (bif v17 then at? s_0 (IntKind.i64.wrap (y10+r16)) else some 0).bind fun b18 =>
      (bif v17 then u9_ (b18.toNat:Int) else some false).bind fun r19 =>
      (cut? s_0 y10 (IntKind.i64.wrap (y10+r16))).bind fun s20 =>
      (u99_ (s20,(v17&&r19))).bind fun r21 =>
      (app? 72 v_4 ([(true,(r21,(0:Int)))]:List YY19)).bind fun l23 =>
      next (s_0,l23,(IntKind.i64.wrap (y10+r16)))
  | .inr y10' =>
    some (.inr (y10'.1,y10'.2))
 else
  some (.inl v_4)
def un3_:Str×(List YY19)×Int→Option (Sum (List YY19) (YY3×Bool)):=loopN uxe_ fuel
def uxf_ (next:List YY19→Option (List YY19)):List YY19→Option (List YY19):=fun v_4 =>
 (bif (decide ((0:Int)<(v_4.length:Int))) then at? v_4 (IntKind.i64.wrap ((v_4.length:Int)-(1:Int))) else some (false,(([]:Str),(0:Int)))).bind fun y29 =>
 (bif (decide ((0:Int)<(v_4.length:Int))) then uhx_ y29 else some false).bind fun r30 =>
 bif ((decide ((0:Int)<(v_4.length:Int)))&&r30) then
  (cut? v_4 (0:Int) (IntKind.i64.wrap ((v_4.length:Int)-(1:Int)))).bind fun s31 =>
  next s31
 else
  some v_4
def un4_:List YY19→Option (List YY19):=loopN uxf_ fuel
def ul0_:Str→Option (YY3×Bool):=fun s_0 =>
 (un3_ (s_0,([]:List YY19),(0:Int))).bind fun r24 =>
 match r24 with
 | .inl y25 =>
   (un4_ y25).bind fun r32 =>
   some ((Sum.inr (Sum.inr (Sum.inr (Sum.inl r32)))),true)
 | .inr y25' =>
   some (y25'.1,y25'.2)
def uu4_:Str→Option (YY3×Bool):=fun s_0 =>
 (uf2_ s_0).bind fun r1 =>
 some ((Sum.inr (Sum.inr (Sum.inr (Sum.inr (Sum.inl r1.1))))),r1.2)
def u0v_:Int×Str→Option (YY3×Int):=fun (kind_0,s_1) =>
 bif ((decide (kind_0<(1:Int)))||(decide ((5:Int)<kind_0))) then
  some ((Sum.inr (Sum.inr (Sum.inr (Sum.inr (Sum.inr ()))))),(7:Int))
 else
  bif ((eqS s_1 ([]:Str))||(decide ((100:Int)<(s_1.length:Int)))) then
   some ((Sum.inr (Sum.inr (Sum.inr (Sum.inr (Sum.inr ()))))),(3:Int))
  else
   bif (eqI kind_0 (1:Int)) then
    (ur5_ s_1).bind fun r3 =>
    bif (!r3.2) then
     some ((Sum.inr (Sum.inr (Sum.inr (Sum.inr (Sum.inr ()))))),(6:Int))
    else
     some (r3.1,(0:Int))
   else
    bif (eqI kind_0 (2:Int)) then
     (uqg_ s_1).bind fun r4 =>
     bif (!r4.2) then
      some ((Sum.inr (Sum.inr (Sum.inr (Sum.inr (Sum.inr ()))))),(6:Int))
     else
      some (r4.1,(0:Int))
    else
     bif (eqI kind_0 (3:Int)) then
      (ut9_ s_1).bind fun r5 =>
      (ur7_ r5).bind fun r6 =>
      bif (!r6.2) then
       some ((Sum.inr (Sum.inr (Sum.inr (Sum.inr (Sum.inr ()))))),(6:Int))
      else
       some (r6.1,(0:Int))
     else
      bif (eqI kind_0 (4:Int)) then
       (ul0_ s_1).bind fun r7 =>
       bif (!r7.2) then
        some ((Sum.inr (Sum.inr (Sum.inr (Sum.inr (Sum.inr ()))))),(6:Int))
       else
        some (r7.1,(0:Int))
      else
       bif (eqI kind_0 (5:Int)) then
        (uu4_ s_1).bind fun r8 =>
        bif (!r8.2) then
         some ((Sum.inr (Sum.inr (Sum.inr (Sum.inr (Sum.inr ()))))),(6:Int))
        else
         some (r8.1,(0:Int))
       else
        bif (!false) then
         some ((Sum.inr (Sum.inr (Sum.inr (Sum.inr (Sum.inr ()))))),(6:Int))
        else
         some ((Sum.inr (Sum.inr (Sum.inr (Sum.inr (Sum.inr ()))))),(0:Int))
def u2b_ (next:(List Str)×(List Int)×Int×Int→Option (List Str)):(List Str)×(List Int)×Int×Int→Option (List Str):=fun (parts_3,t6,t7,t8) =>
 bif (decide (t8<t7)) then
  (at? t6 t8).bind fun y1 =>
  (strconv_Itoa y1).bind fun r2 =>
  (app? 24 parts_3 ([r2]:List Str)).bind fun l3 =>
  next (l3,t6,t7,(IntKind.i64.wrap (t8+(1:Int))))
 else
  some parts_3
def uq2_:(List Str)×(List Int)×Int×Int→Option (List Str):=loopN u2b_ fuel
def uko_:List Int→Option Str:=fun l_0 =>
 (uq2_ (([]:List Str),l_0,(l_0.length:Int),(0:Int))).bind fun r4 =>
 (strings_Join (r4,([46]:Str))).bind fun r5 =>
 some r5
def ui7_:(List Int)×(List Str)→Option Str:=fun v_0 =>
 (cut? v_0.1 (0:Int) (v_0.1.length:Int)).bind fun s1 =>
 (uko_ s1).bind fun r2 =>
 bif (decide ((0:Int)<(v_0.2.length:Int))) then
  (strings_Join (v_0.2,([46]:Str))).bind fun r3 =>
  (cat? ([45]:Str) r3).bind fun s4 =>
  (cat? r2 s4).bind fun s5 =>
  some s5
 else
  some r2
def u2c_ (next:Str×(List Int)×Int→Option (List Int)):Str×(List Int)×Int→Option (List Int):=fun (s_0,b_3,at_4) =>
 bif (decide (at_4<(s_0.length:Int))) then
  (udk_ (s_0,at_4,(fun x=>(u9_ x).bind fun r=>some r))).bind fun r1 =>
  bif (eqI r1 (0:Int)) then
   (at? s_0 at_4).bind fun b2 =>
   (ubn_ (b_3,(b2.toNat:Int))).bind fun r3 =>
   next (s_0,r3.2,(IntKind.i64.wrap (at_4+(1:Int))))
  else
   (cut? s_0 at_4 (IntKind.i64.wrap (at_4+r1))).bind fun s4 =>
   (uc0_ s4).bind fun r5 =>
   bif (((!(eqI r5.1 (0:Int)))||(decide ((IntKind.i64.wrap (at_4+r1))<(s_0.length:Int))))||(eqI r1 (s_0.length:Int))) then
    (strconv_Itoa r5.1).bind fun r8 =>
    (ubs_ (b_3,r8)).bind fun r9 =>
    next (s_0,r9.2.2,(IntKind.i64.wrap (at_4+r1)))
   else
    next (s_0,b_3,(IntKind.i64.wrap (at_4+r1)))
 else
  some b_3
def uq3_:Str×(List Int)×Int→Option (List Int):=loopN u2c_ fuel
def ukp_:Str→Option Str:=fun s_0 =>
 (uq3_ (s_0,([]:List Int),(0:Int))).bind fun r10 =>
 (ucd_ r10).bind fun r11 =>
 some r11
def ui8_:Int×Str×Str×Bool→Option Str:=fun v_0 =>
 bif (eqS v_0.2.2.1 ([]:Str)) then
  some ([48]:Str)
 else
  some v_0.2.2.1
def ul1_:Int→Option (Bool):=fun c_0 =>
 (u9_ c_0).bind fun r1 =>
 some (!r1)
def ubcy_ (next:Str×(List Int)×Int×Int→Option (List Int)):Str×(List Int)×Int×Int→Option (List Int):=fun (s_0,b_3,t6,t7) =>
 bif (decide (t7<t6)) then
  (at? s_0 t7).bind fun b1 =>
  bif (eqI (b1.toNat:Int) (126:Int)) then
   (ubn_ (b_3,(1:Int))).bind fun r2 =>
   next (s_0,r2.2,t6,(IntKind.i64.wrap (t7+(1:Int))))
  else
   (at? s_0 t7).bind fun b3 =>
   (uf3_ (b3.toNat:Int)).bind fun r4 =>
   bif r4 then
    (at? s_0 t7).bind fun b5 =>
    (ubn_ (b_3,(b5.toNat:Int))).bind fun r6 =>
    next (s_0,r6.2,t6,(IntKind.i64.wrap (t7+(1:Int))))
   else
    (at? s_0 t7).bind fun b7 =>
    (ubn_ (b_3,(IntKind.u8.wrap ((b7.toNat:Int)+(128:Int))))).bind fun r8 =>
    next (s_0,r8.2,t6,(IntKind.i64.wrap (t7+(1:Int))))
 else
  some b_3
def u0w_:Str×(List Int)×Int×Int→Option (List Int):=loopN ubcy_ fuel
def u1t_:Str→Option Str:=fun s_0 =>
 (u0w_ (s_0,([]:List Int),(s_0.length:Int),(0:Int))).bind fun r9 =>
 (ucd_ r9).bind fun r10 =>
 (cat? r10 ([2]:Str)).bind fun s11 =>
 some s11
def ud2_:Int→Option Str:=fun n_0 =>
 (strconv_Itoa n_0).bind fun r1 =>
 (strings_Repeat (([48]:Str),(IntKind.i64.wrap ((18:Int)-(r1.length:Int))))).bind fun r2 =>
 (cat? r2 r1).bind fun s3 =>
 some s3
def u4q_ (next:Str×(List Int)→Option (List Int)):Str×(List Int)→Option (List Int):=fun (s_0,b_3) =>
 bif (!(eqS s_0 ([]:Str))) then
  (udk_ (s_0,(0:Int),(fun x=>(ul1_ x).bind fun r=>some r))).bind fun r1 =>
  (udk_ (s_0,r1,(fun x=>(u9_ x).bind fun r=>some r))).bind fun r2 =>
  (cut? s_0 r1 (IntKind.i64.wrap (r1+r2))).bind fun s3 =>
  (uc0_ s3).bind fun r4 =>
  (cut? s_0 (0:Int) r1).bind fun s5 =>
  (u1t_ s5).bind fun r6 =>
  (ud2_ r4.1).bind fun r7 =>
  (cat? r6 r7).bind fun s8 =>
  (ubs_ (b_3,s8)).bind fun r9 =>
  (cut? s_0 (IntKind.i64.wrap (r1+r2)) (s_0.length:Int)).bind fun s10 =>
  next (s10,r9.2.2)
 else
  some b_3
def utc_:Str×(List Int)→Option (List Int):=loopN u4q_ fuel
def ugv_:Str→Option Str:=fun s_0 =>
 (utc_ (s_0,([]:List Int))).bind fun r11 =>
 (ucd_ r11).bind fun r12 =>
 (cat? r12 ([2]:Str)).bind fun s13 =>
 some s13
def uir_:YY33×Str×Bool→Option (YY33×Str):=fun (v_1,s_3,t9) =>
 bif t9 then
  (strconv_Itoa v_1.1).bind fun r2 =>
  (cat? r2 ([58]:Str)).bind fun s3 =>
  (cat? s3 s_3).bind fun s4 =>
  some (v_1,s4)
 else
  some (v_1,s_3)
def uik_:Int×Str×Str×Bool→Option Str:=fun v_0 =>
 (ukp_ v_0.2.1).bind fun r1 =>
 (uir_ (v_0,r1,(!(eqI v_0.1 (0:Int))))).bind fun r5 =>
 (ui8_ r5.1).bind fun r6 =>
 (ugv_ r6).bind fun r7 =>
 (ugv_ ([48]:Str)).bind fun r8 =>
 bif (!(eqS r7 r8)) then
  (cat? r5.2 ([45]:Str)).bind fun s9 =>
  (ukp_ r5.1.2.2.1).bind fun r10 =>
  (cat? s9 r10).bind fun s11 =>
  some s11
 else
  bif r5.1.2.2.2 then
   (cat? r5.2 ([45,48]:Str)).bind fun s12 =>
   some s12
  else
   some r5.2
def ubcz_ (next:List Int→Option (List Int)):List Int→Option (List Int):=fun l_0 =>
 (bif (decide ((0:Int)<(l_0.length:Int))) then at? l_0 (IntKind.i64.wrap ((l_0.length:Int)-(1:Int))) else some (0:Int)).bind fun y1 =>
 bif ((decide ((0:Int)<(l_0.length:Int)))&&(eqI y1 (0:Int))) then
  (cut? l_0 (0:Int) (IntKind.i64.wrap ((l_0.length:Int)-(1:Int)))).bind fun s3 =>
  next s3
 else
  some l_0
def u0x_:List Int→Option (List Int):=loopN ubcz_ fuel
def uua_:List Int→Option (List Int):=fun l_0 =>
 (u0x_ l_0).bind fun r4 =>
 some r4
def ujj_:YY9×Str×Bool→Option (YY9×Str):=fun (v_1,s_3,t11) =>
 bif t11 then
  (strconv_Itoa v_1.1).bind fun r1 =>
  (cat? r1 ([33]:Str)).bind fun s2 =>
  some (v_1,s2)
 else
  some (v_1,s_3)
def ujk_:Str×(List Int)×Bool→Option Str:=fun (s_3,l_4,t21) =>
 bif t21 then
  (uko_ l_4).bind fun r5 =>
  (cat? s_3 r5).bind fun s6 =>
  some s6
 else
  (cat? s_3 ([48]:Str)).bind fun s7 =>
  some s7
def ujl_:YY9×Str×Bool→Option (YY9×Str):=fun (v_1,s_3,t30) =>
 bif t30 then
  (at? ([([]:Str),([97]:Str),([98]:Str),([114,99]:Str)]:List Str) v_1.2.2.1).bind fun y10 =>
  (strconv_Itoa v_1.2.2.2.1).bind fun r11 =>
  (cat? y10 r11).bind fun s12 =>
  (cat? s_3 s12).bind fun s13 =>
  some (v_1,s13)
 else
  some (v_1,s_3)
def ujm_:YY9×Str×Bool→Option (YY9×Str):=fun (v_1,s_3,t44) =>
 bif t44 then
  (strconv_Itoa v_1.2.2.2.2.1).bind fun r15 =>
  (cat? ([46,112,111,115,116]:Str) r15).bind fun s16 =>
  (cat? s_3 s16).bind fun s17 =>
  some (v_1,s17)
 else
  some (v_1,s_3)
def ujn_:YY9×Str×Bool→Option (YY9×Str):=fun (v_1,s_3,t53) =>
 bif t53 then
  (strconv_Itoa v_1.2.2.2.2.2.1).bind fun r19 =>
  (cat? ([46,100,101,118]:Str) r19).bind fun s20 =>
  (cat? s_3 s20).bind fun s21 =>
  some (v_1,s21)
 else
  some (v_1,s_3)
def ujo_:Str×Int×Bool→Option Str:=fun (p_6,n_7,t73) =>
 bif t73 then
  (strconv_Itoa n_7).bind fun r25 =>
  some r25
 else
  some p_6
def uzu_ (next:Str×(List Str)×Int×Int→Option Str):Str×(List Str)×Int×Int→Option Str:=fun (s_3,t61,t62,t63) =>
 bif (decide (t63<t62)) then
  (at? t61 t63).bind fun y23 =>
  (uc0_ y23).bind fun r24 =>
  (ujo_ (y23,r24.1,r24.2)).bind fun r26 =>
  bif (eqI t63 (0:Int)) then
   (cat? ([43]:Str) r26).bind fun s27 =>
   (cat? s_3 s27).bind fun s28 =>
   next (s28,t61,t62,(IntKind.i64.wrap (t63+(1:Int))))
  else
   (cat? ([46]:Str) r26).bind fun s29 =>
   (cat? s_3 s29).bind fun s30 =>
   next (s30,t61,t62,(IntKind.i64.wrap (t63+(1:Int))))
 else
  some s_3
def ups_:Str×(List Str)×Int×Int→Option Str:=loopN uzu_ fuel
def ui9_:Int×(List Int)×Int×Int×Int×Int×(List Str)→Option Str:=fun v_0 =>
 (ujj_ (v_0,([]:Str),(!(eqI v_0.1 (0:Int))))).bind fun r3 =>
 (uua_ r3.1.2.1).bind fun r4 =>
 (ujk_ (r3.2,r4,(decide ((0:Int)<(r4.length:Int))))).bind fun r8 =>
 (ujl_ (r3.1,r8,(decide ((0:Int)<r3.1.2.2.1)))).bind fun r14 =>
 (ujm_ (r14.1,r14.2,(decide ((0:Int)≤r14.1.2.2.2.2.1)))).bind fun r18 =>
 (ujn_ (r18.1,r18.2,(decide ((0:Int)≤r18.1.2.2.2.2.2.1)))).bind fun r22 =>
 (ups_ (r22.2,r22.1.2.2.2.2.2.2,(r22.1.2.2.2.2.2.2.length:Int),(0:Int))).bind fun r31 =>
 some r31
def uub_ (next:(List Str)×(List YY19)×Int×Int→Option (List Str)):(List Str)×(List YY19)×Int×Int→Option (List Str):=fun (l_3,t7,t8,t9) =>
 bif (decide (t9<t8)) then
  (at? t7 t9).bind fun y1 =>
  (uhx_ y1).bind fun r2 =>
  bif r2 then
   (app? 24 l_3 ([([48]:Str)]:List Str)).bind fun l3 =>
   next (l3,t7,t8,(IntKind.i64.wrap (t9+(1:Int))))
  else
   bif y1.1 then
    (app? 24 l_3 ([y1.2.1]:List Str)).bind fun l4 =>
    next (l4,t7,t8,(IntKind.i64.wrap (t9+(1:Int))))
   else
    (strconv_Itoa y1.2.2).bind fun r5 =>
    (app? 24 l_3 ([r5]:List Str)).bind fun l6 =>
    next (l6,t7,t8,(IntKind.i64.wrap (t9+(1:Int))))
 else
  some l_3
def ulf_:(List Str)×(List YY19)×Int×Int→Option (List Str):=loopN uub_ fuel
def ugj_:List YY19→Option Str:=fun v_0 =>
 (ulf_ (([]:List Str),v_0,(v_0.length:Int),(0:Int))).bind fun r7 =>
 bif (eqI (r7.length:Int) (0:Int)) then
  some ([48]:Str)
 else
  (strings_Join (r7,([45]:Str))).bind fun r8 =>
  some r8
def ukq_:Int→Option Str:=fun v_0 =>
 (strconv_Itoa v_0).bind fun r1 =>
 some r1
def u1u_:Sum YY28 (Sum YY33 (Sum YY9 (Sum (List YY19) (Sum Int Unit))))→Option (Str×Int):=fun v_0 =>
 ((fun z=>Sum.casesOn (motive:=fun _=>Option Str) z (fun x=>(ui7_ x).bind fun r=>some r) (fun z=>Sum.casesOn (motive:=fun _=>Option Str) z (fun x=>(uik_ x).bind fun r=>some r) (fun z=>Sum.casesOn (motive:=fun _=>Option Str) z (fun x=>(ui9_ x).bind fun r=>some r) (fun z=>Sum.casesOn (motive:=fun _=>Option Str) z (fun x=>(ugj_ x).bind fun r=>some r) (fun z=>Sum.casesOn (motive:=fun _=>Option Str) z (fun x=>(ukq_ x).bind fun r=>some r) (fun _=>none)))))) v_0).bind fun r1 =>
 bif (decide ((100:Int)<(r1.length:Int))) then
  some (([]:Str),(3:Int))
 else
  some (r1,(0:Int))
def uq4_:Int×Str→Option (Str×Int):=fun (kind_0,s_1) =>
 (u0v_ (kind_0,s_1)).bind fun r1 =>
 bif (!(eqI r1.2 (0:Int))) then
  some (([]:Str),r1.2)
 else
  (u1u_ r1.1).bind fun r2 =>
  some (r2.1,r2.2)
def uzv_ (next:YY5×YY25×Int×Int→Option YY26):YY5×YY25×Int×Int→Option YY26:=fun (a_1,t12,t13,t14) =>
 bif (decide (t14<t13)) then
  (at? t12 t14).bind fun y1 =>
  bif ((decide (y1.1<(1:Int)))||(decide ((3:Int)<y1.1))) then
   some (.inr (7:Int))
  else
   bif (eqS y1.2 ([]:Str)) then
    bif (!(eqI y1.1 (1:Int))) then
     some (.inr (2:Int))
    else
     next (a_1,t12,t13,(IntKind.i64.wrap (t14+(1:Int))))
   else
    (uq4_ (a_1.2.1,y1.2)).bind fun r2 =>
    bif (!(eqI r2.2 (0:Int))) then
     some (.inr r2.2)
    else
     next (a_1,t12,t13,(IntKind.i64.wrap (t14+(1:Int))))
 else
  some (.inl ())
def upt_:YY5×YY25×Int×Int→Option YY26:=loopN uzv_ fuel
def un5_:Str×Int×YY25×(List Str)×(List Str)→Option (Int):=fun a_0 =>
 bif (decide ((100:Int)<(a_0.2.2.1.length:Int))) then
  some (3:Int)
 else
  (upt_ (a_0,a_0.2.2.1,(a_0.2.2.1.length:Int),(0:Int))).bind fun r3 =>
  match r3 with
  | .inl y4 =>
    some (0:Int)
  | .inr y4' =>
    some y4'
def uuc_ (next:Str×Bool×Int×Int→Option (Bool)):Str×Bool×Int×Int→Option (Bool):=fun (s_4,bad_5,t25,t26) =>
 bif (decide (t26<t25)) then
  (bif (!bad_5) then at? s_4 t26 else some 0).bind fun b3 =>
  (bif (!(bad_5||(decide ((b3.toNat:Int)<(33:Int))))) then at? s_4 t26 else some 0).bind fun b4 =>
  next (s_4,((bad_5||(decide ((b3.toNat:Int)<(33:Int))))||(decide ((126:Int)<(b4.toNat:Int)))),t25,(IntKind.i64.wrap (t26+(1:Int))))
 else
  some bad_5
def ulg_:Str×Bool×Int×Int→Option (Bool):=loopN uuc_ fuel
def uud_ (next:(List Str)×(List Str)×Int×Int→Option YY26):(List Str)×(List Str)×Int×Int→Option YY26:=fun (l_0,t10,t11,t12) =>
 bif (decide (t12<t11)) then
  (at? t10 t12).bind fun y1 =>
  (ulg_ (y1,((eqS y1 ([]:Str))||(decide ((200:Int)<(y1.length:Int)))),(y1.length:Int),(0:Int))).bind fun r6 =>
  bif r6 then
   some (.inr (8:Int))
  else
   (bif (decide ((0:Int)<t12)) then at? l_0 (IntKind.i64.wrap (t12-(1:Int))) else some ([]:Str)).bind fun y7 =>
   bif ((decide ((0:Int)<t12))&&(Op.bytesLess y1 y7||eqS y1 y7)) then
    some (.inr (10:Int))
   else
    next (l_0,t10,t11,(IntKind.i64.wrap (t12+(1:Int))))
 else
  some (.inl ())
def ulh_:(List Str)×(List Str)×Int×Int→Option YY26:=loopN uud_ fuel
def ujp_:List Str→Option (Int):=fun l_0 =>
 bif (decide ((200:Int)<(l_0.length:Int))) then
  some (3:Int)
 else
  (ulh_ (l_0,l_0,(l_0.length:Int),(0:Int))).bind fun r9 =>
  match r9 with
  | .inl y10 =>
    some (0:Int)
  | .inr y10' =>
    some y10'
def uv8_ (next:YY5×(List Str)×Int×Int→Option (Sum YY5 (Int))):YY5×(List Str)×Int×Int→Option (Sum YY5 (Int)):=fun (a_1,t32,t33,t34) =>
 bif (decide (t34<t33)) then
  (at? t32 t34).bind fun y4 =>
  (uq4_ (a_1.2.1,y4)).bind fun r5 =>
  bif (!(eqI r5.2 (0:Int))) then
   some (.inr r5.2)
  else
   next (a_1,t32,t33,(IntKind.i64.wrap (t34+(1:Int))))
 else
  some (.inl a_1)
def umi_:YY5×(List Str)×Int×Int→Option (Sum YY5 (Int)):=loopN uv8_ fuel
def ukr_:Str×Int×YY25×(List Str)×(List Str)→Option (Int):=fun a_0 =>
 (u5z_ a_0.1).bind fun r1 =>
 bif (!r1) then
  some (8:Int)
 else
  bif ((decide (a_0.2.1<(1:Int)))||(decide ((5:Int)<a_0.2.1))) then
   some (7:Int)
  else
   (un5_ a_0).bind fun r3 =>
   bif (!(eqI r3 (0:Int))) then
    some r3
   else
    bif (decide ((500:Int)<(a_0.2.2.2.1.length:Int))) then
     some (3:Int)
    else
     (umi_ (a_0,a_0.2.2.2.1,(a_0.2.2.2.1.length:Int),(0:Int))).bind fun r6 =>
     match r6 with
     | .inl y7 =>
       (ujp_ y7.2.2.2.2).bind fun r8 =>
       some r8
     | .inr y7' =>
       some y7'
def u50_:Unit→Option (List Int):=fun _ =>
 some ([(0:Int),(1:Int),(0:Int),(2:Int)]:List Int)
def u2d_ (next:(Int→Option Str)×(List Int)×(List Int)×Int×Int→Option (List Int)):(Int→Option Str)×(List Int)×(List Int)×Int×Int→Option (List Int):=fun (one_2,b_7,t10,t11,t12) =>
 bif (decide (t12<t11)) then
  (at? t10 t12).bind fun y1 =>
  (one_2 y1).bind fun r2 =>
  (ubs_ (b_7,r2)).bind fun r3 =>
  next (one_2,r3.2.2,t10,t11,(IntKind.i64.wrap (t12+(1:Int))))
 else
  some b_7
def uq5_:(Int→Option Str)×(List Int)×(List Int)×Int×Int→Option (List Int):=loopN u2d_ fuel
def uks_:(List Int)×Str×(Int→Option Str)→Option Str:=fun (l_0,end_1,one_2) =>
 (uq5_ (one_2,([]:List Int),l_0,(l_0.length:Int),(0:Int))).bind fun r4 =>
 (ucd_ r4).bind fun r5 =>
 (cat? r5 end_1).bind fun s6 =>
 some s6
def uv9_ (next:(Str→Option Str)×(List Int)×(List Str)×Int×Int→Option (List Int)):(Str→Option Str)×(List Int)×(List Str)×Int×Int→Option (List Int):=fun (one_2,b_7,t10,t11,t12) =>
 bif (decide (t12<t11)) then
  (at? t10 t12).bind fun y1 =>
  (one_2 y1).bind fun r2 =>
  (ubs_ (b_7,r2)).bind fun r3 =>
  next (one_2,r3.2.2,t10,t11,(IntKind.i64.wrap (t12+(1:Int))))
 else
  some b_7
def umj_:(Str→Option Str)×(List Int)×(List Str)×Int×Int→Option (List Int):=loopN uv9_ fuel
def uhe_:(List Str)×Str×(Str→Option Str)→Option Str:=fun (l_0,end_1,one_2) =>
 (umj_ (one_2,([]:List Int),l_0,(l_0.length:Int),(0:Int))).bind fun r4 =>
 (ucd_ r4).bind fun r5 =>
 (cat? r5 end_1).bind fun s6 =>
 some s6
def u1v_:Str→Option Str:=fun p_0 =>
 (uc0_ p_0).bind fun r1 =>
 bif r1.2 then
  (ud2_ r1.1).bind fun r2 =>
  (cat? ([48]:Str) r2).bind fun s3 =>
  some s3
 else
  (cat? ([49]:Str) p_0).bind fun s4 =>
  (cat? s4 ([32]:Str)).bind fun s5 =>
  some s5
def umk_:(List Int)×(List Str)→Option Str:=fun v_0 =>
 (cut? v_0.1 (0:Int) (v_0.1.length:Int)).bind fun s1 =>
 (uks_ (s1,([]:Str),(fun x=>(ud2_ x).bind fun r=>some r))).bind fun r2 =>
 bif (eqI (v_0.2.length:Int) (0:Int)) then
  (cat? r2 ([126]:Str)).bind fun s3 =>
  some s3
 else
  (cat? r2 ([33]:Str)).bind fun s4 =>
  (uhe_ (v_0.2,([33]:Str),(fun x=>(u1v_ x).bind fun r=>some r))).bind fun r5 =>
  (cat? s4 r5).bind fun s6 =>
  some s6
def ukt_:Int×Str×Str×Bool→Option Str:=fun v_0 =>
 (ud2_ v_0.1).bind fun r1 =>
 (ugv_ v_0.2.1).bind fun r2 =>
 (cat? r1 r2).bind fun s3 =>
 (ui8_ v_0).bind fun r4 =>
 (ugv_ r4).bind fun r5 =>
 (cat? s3 r5).bind fun s6 =>
 some s6
def ul2_:Int→Option Str:=fun n_0 =>
 (ud2_ n_0).bind fun r1 =>
 (cat? ([49]:Str) r1).bind fun s2 =>
 some s2
def un6_:Int×(List Int)×Int×Int×Int×Int×(List Str)→Option (Int):=fun v_0 =>
 bif (decide ((0:Int)<v_0.2.2.1)) then
  some v_0.2.2.1
 else
  bif ((decide ((0:Int)≤v_0.2.2.2.2.2.1))&&(decide (v_0.2.2.2.2.1<(0:Int)))) then
   some (0:Int)
  else
   some (4:Int)
def ubaa_:Int→Option Str:=fun n_0 =>
 bif (decide (n_0<(0:Int))) then
  some ([48]:Str)
 else
  (ud2_ n_0).bind fun r1 =>
  (cat? ([49]:Str) r1).bind fun s2 =>
  some s2
def uxg_:Str→Option Str:=fun p_0 =>
 (uc0_ p_0).bind fun r1 =>
 bif r1.2 then
  (ud2_ r1.1).bind fun r2 =>
  (cat? ([50]:Str) r2).bind fun s3 =>
  some s3
 else
  (cat? ([49]:Str) p_0).bind fun s4 =>
  (cat? s4 ([32]:Str)).bind fun s5 =>
  some s5
def ul3_:YY9×Str×Bool→Option (YY9×Str):=fun (v_1,s_3,t27) =>
 bif t27 then
  (ud2_ v_1.2.2.2.2.2.1).bind fun r12 =>
  (cat? ([48]:Str) r12).bind fun s13 =>
  (cat? s_3 s13).bind fun s14 =>
  some (v_1,s14)
 else
  (cat? s_3 ([49]:Str)).bind fun s15 =>
  some (v_1,s15)
def uml_:Int×(List Int)×Int×Int×Int×Int×(List Str)→Option Str:=fun v_0 =>
 (ud2_ v_0.1).bind fun r1 =>
 (uua_ v_0.2.1).bind fun r2 =>
 (uks_ (r2,([48]:Str),(fun x=>(ul2_ x).bind fun r=>some r))).bind fun r3 =>
 (cat? r1 r3).bind fun s4 =>
 (un6_ v_0).bind fun r5 =>
 (strconv_Itoa r5).bind fun r6 =>
 (ud2_ v_0.2.2.2.1).bind fun r7 =>
 (cat? r6 r7).bind fun s8 =>
 (ubaa_ v_0.2.2.2.2.1).bind fun r9 =>
 (cat? s8 r9).bind fun s10 =>
 (cat? s4 s10).bind fun s11 =>
 (ul3_ (v_0,s11,(decide ((0:Int)≤v_0.2.2.2.2.2.1)))).bind fun r16 =>
 bif (eqI (r16.1.2.2.2.2.2.2.length:Int) (0:Int)) then
  (cat? r16.2 ([48]:Str)).bind fun s17 =>
  some s17
 else
  (cat? r16.2 ([49]:Str)).bind fun s18 =>
  (uhe_ (r16.1.2.2.2.2.2.2,([48]:Str),(fun x=>(uxg_ x).bind fun r=>some r))).bind fun r19 =>
  (cat? s18 r19).bind fun s20 =>
  some s20
def u2e_:Unit→Option (List Str):=fun _ =>
 some ([([97,108,112,104,97]:Str),([98,101,116,97]:Str),([109,105,108,101,115,116,111,110,101]:Str),([114,99]:Str),([115,110,97,112,115,104,111,116]:Str)]:List Str)
def uq6_ (next:(List Str)×Str×Int×Int→Option YY26):(List Str)×Str×Int×Int→Option YY26:=fun (s_0,v_1,t7,t8) =>
 bif (decide (t8<t7)) then
  (at? s_0 t8).bind fun y1 =>
  bif (eqS v_1 y1) then
   some (.inr t8)
  else
   next (s_0,v_1,t7,(IntKind.i64.wrap (t8+(1:Int))))
 else
  some (.inl ())
def uq7_:(List Str)×Str×Int×Int→Option YY26:=loopN uq6_ fuel
def uf4_:(List Str)×Str→Option (Int):=fun (s_0,v_1) =>
 (uq7_ (s_0,v_1,(s_0.length:Int),(0:Int))).bind fun r2 =>
 match r2 with
 | .inl y3 =>
   some (-1:Int)
 | .inr y3' =>
   some y3'
def ud3_:(List Str)×Str→Option (Bool):=fun (s_0,v_1) =>
 (uf4_ (s_0,v_1)).bind fun r1 =>
 some (decide ((0:Int)≤r1))
def uja_:Bool×Str×Int→Option (Bool):=fun t_0 =>
 (bif t_0.1 then u2e_ () else some ([]:List Str)).bind fun r1 =>
 (bif t_0.1 then ud3_ (r1,t_0.2.1) else some false).bind fun r2 =>
 some (t_0.1&&r2)
def uq8_:Bool×Str×Int→Option Str:=fun t_0 =>
 bif (!t_0.1) then
  (ud2_ t_0.2.2).bind fun r1 =>
  (cat? ([56]:Str) r1).bind fun s2 =>
  some s2
 else
  (uja_ t_0).bind fun r3 =>
  bif r3 then
   (u2e_ ()).bind fun r4 =>
   (uf4_ (r4,t_0.2.1)).bind fun r5 =>
   (strconv_Itoa r5).bind fun r6 =>
   some r6
  else
   bif (eqS t_0.2.1 ([115,112]:Str)) then
    some ([54]:Str)
   else
    (cat? ([55]:Str) t_0.2.1).bind fun s7 =>
    (cat? s7 ([32]:Str)).bind fun s8 =>
    some s8
def uxh_ (next:Str×Int×(List YY19)×Int×Int→Option Str):Str×Int×(List YY19)×Int×Int→Option Str:=fun (s_3,blanks_4,t8,t9,t10) =>
 bif (decide (t10<t9)) then
  (at? t8 t10).bind fun y1 =>
  (uhx_ y1).bind fun r2 =>
  bif r2 then
   next (s_3,(IntKind.i64.wrap (blanks_4+(1:Int))),t8,t9,(IntKind.i64.wrap (t10+(1:Int))))
  else
   (uja_ y1).bind fun r3 =>
   bif r3 then
    (strconv_Itoa (IntKind.i64.wrap ((100:Int)+blanks_4))).bind fun r4 =>
    (cat? ([49]:Str) r4).bind fun s5 =>
    (uq8_ y1).bind fun r6 =>
    (cat? s5 r6).bind fun s7 =>
    (cat? s_3 s7).bind fun s8 =>
    next (s8,(0:Int),t8,t9,(IntKind.i64.wrap (t10+(1:Int))))
   else
    (strconv_Itoa (IntKind.i64.wrap ((900:Int)-blanks_4))).bind fun r9 =>
    (cat? ([51]:Str) r9).bind fun s10 =>
    (uq8_ y1).bind fun r11 =>
    (cat? s10 r11).bind fun s12 =>
    (cat? s_3 s12).bind fun s13 =>
    next (s13,(0:Int),t8,t9,(IntKind.i64.wrap (t10+(1:Int))))
 else
  some s_3
def un7_:Str×Int×(List YY19)×Int×Int→Option Str:=loopN uxh_ fuel
def uil_:List YY19→Option Str:=fun v_0 =>
 (un7_ (([]:Str),(0:Int),v_0,(v_0.length:Int),(0:Int))).bind fun r14 =>
 (cat? r14 ([50]:Str)).bind fun s15 =>
 some s15
def uo1_:Int→Option Str:=fun v_0 =>
 (ud2_ v_0).bind fun r1 =>
 some r1
def ubnk_:Int×Str→Option (Str×Int):=fun (kind_0,s_1) =>
 (u0v_ (kind_0,s_1)).bind fun r1 =>
 bif (!(eqI r1.2 (0:Int))) then
  some (([]:Str),r1.2)
 else
  ((fun z=>Sum.casesOn (motive:=fun _=>Option Str) z (fun x=>(umk_ x).bind fun r=>some r) (fun z=>Sum.casesOn (motive:=fun _=>Option Str) z (fun x=>(ukt_ x).bind fun r=>some r) (fun z=>Sum.casesOn (motive:=fun _=>Option Str) z (fun x=>(uml_ x).bind fun r=>some r) (fun z=>Sum.casesOn (motive:=fun _=>Option Str) z (fun x=>(uil_ x).bind fun r=>some r) (fun z=>Sum.casesOn (motive:=fun _=>Option Str) z (fun x=>(uo1_ x).bind fun r=>some r) (fun _=>none)))))) r1.1).bind fun r2 =>
  some (r2,(0:Int))
def ue9_ (next:(List YY2)×Int×YY11×Int→Option (List YY2)):(List YY2)×Int×YY11×Int→Option (List YY2):=fun (data_0,a_1,cmp_3,j_9) =>
 (bif (decide (a_1<j_9)) then in? data_0.length j_9 else some ()).bind fun _ =>
 (bif (decide (a_1<j_9)) then in? data_0.length (IntKind.i64.wrap (j_9-(1:Int))) else some ()).bind fun _ =>
 (bif (decide (a_1<j_9)) then cmp_3 ((data_0.getD j_9.toNat ((0:Int),(([]:Str),(([]:Str),(0:Int))))),(data_0.getD ((IntKind.i64.wrap (j_9-(1:Int))).toNat) ((0:Int),(([]:Str),(([]:Str),(0:Int)))))) else some (0:Int)).bind fun r3 =>
 bif ((decide (a_1<j_9))&&(decide (r3<(0:Int)))) then
  (in? data_0.length (IntKind.i64.wrap (j_9-(1:Int)))).bind fun _ =>
  let v4:=(data_0.getD ((IntKind.i64.wrap (j_9-(1:Int))).toNat) ((0:Int),(([]:Str),(([]:Str),(0:Int)))))
  (in? data_0.length j_9).bind fun _ =>
  (in? data_0.length j_9).bind fun _ =>
  (in? (data_0.set j_9.toNat v4).length (IntKind.i64.wrap (j_9-(1:Int)))).bind fun _ =>
  next (((data_0.set j_9.toNat v4).set ((IntKind.i64.wrap (j_9-(1:Int))).toNat) (data_0.getD j_9.toNat ((0:Int),(([]:Str),(([]:Str),(0:Int)))))),a_1,cmp_3,(IntKind.i64.wrap (j_9-(1:Int))))
 else
  some data_0
def ucm_:(List YY2)×Int×YY11×Int→Option (List YY2):=loopN ue9_ fuel
def ufa_ (next:(List YY2)×Int×Int×YY11×Int→Option (List YY2)):(List YY2)×Int×Int×YY11×Int→Option (List YY2):=fun (data_0,a_1,b_2,cmp_3,i_8) =>
 bif (decide (i_8<b_2)) then
  (ucm_ (data_0,a_1,cmp_3,i_8)).bind fun r7 =>
  next (r7,a_1,b_2,cmp_3,(IntKind.i64.wrap (i_8+(1:Int))))
 else
  some data_0
def ucn_:(List YY2)×Int×Int×YY11×Int→Option (List YY2):=loopN ufa_ fuel
def ubl_:(List YY2)×Int×Int×YY11→Option (List YY2):=fun (data_0,a_1,b_2,cmp_3) =>
 (ucn_ (data_0,a_1,b_2,cmp_3,(IntKind.i64.wrap (a_1+(1:Int))))).bind fun r8 =>
 some r8
def ugk_ (next:(List YY2)×Int×Int×Int×Int→Option (List YY2)):(List YY2)×Int×Int×Int×Int→Option (List YY2):=fun (data_0,a_1,b_2,n_3,i_10) =>
 bif (decide (i_10<n_3)) then
  (in? data_0.length (IntKind.i64.wrap (b_2+i_10))).bind fun _ =>
  let v1:=(data_0.getD ((IntKind.i64.wrap (b_2+i_10)).toNat) ((0:Int),(([]:Str),(([]:Str),(0:Int)))))
  (in? data_0.length (IntKind.i64.wrap (a_1+i_10))).bind fun _ =>
  (in? data_0.length (IntKind.i64.wrap (a_1+i_10))).bind fun _ =>
  (in? (data_0.set ((IntKind.i64.wrap (a_1+i_10)).toNat) v1).length (IntKind.i64.wrap (b_2+i_10))).bind fun _ =>
  next (((data_0.set ((IntKind.i64.wrap (a_1+i_10)).toNat) v1).set ((IntKind.i64.wrap (b_2+i_10)).toNat) (data_0.getD ((IntKind.i64.wrap (a_1+i_10)).toNat) ((0:Int),(([]:Str),(([]:Str),(0:Int)))))),a_1,b_2,n_3,(IntKind.i64.wrap (i_10+(1:Int))))
 else
  some data_0
def udm_:(List YY2)×Int×Int×Int×Int→Option (List YY2):=loopN ugk_ fuel
def ubh_:(List YY2)×Int×Int×Int×YY11→Option (List YY2):=fun (data_0,a_1,b_2,n_3,cmp_4) =>
 (udm_ (data_0,a_1,b_2,n_3,(0:Int))).bind fun r4 =>
 some r4
def uhy_ (next:(List YY2)×Int×YY11×Int×Int→Option YY31):(List YY2)×Int×YY11×Int×Int→Option YY31:=fun (data_0,m_2,cmp_4,i_10,j_11) =>
 bif (!(eqI i_10 j_11)) then
  bif (decide (j_11<i_10)) then
   (ubh_ (data_0,(IntKind.i64.wrap (m_2-i_10)),m_2,j_11,cmp_4)).bind fun r1 =>
   next (r1,m_2,cmp_4,(IntKind.i64.wrap (i_10-j_11)),j_11)
  else
   (ubh_ (data_0,(IntKind.i64.wrap (m_2-i_10)),(IntKind.i64.wrap ((IntKind.i64.wrap (m_2+j_11))-i_10)),i_10,cmp_4)).bind fun r2 =>
   next (r2,m_2,cmp_4,i_10,(IntKind.i64.wrap (j_11-i_10)))
 else
  some (data_0,i_10)
def uef_:(List YY2)×Int×YY11×Int×Int→Option YY31:=loopN uhy_ fuel
def uc1_:(List YY2)×Int×Int×Int×YY11→Option (List YY2):=fun (data_0,a_1,m_2,b_3,cmp_4) =>
 (uef_ (data_0,m_2,cmp_4,(IntKind.i64.wrap (m_2-a_1)),(IntKind.i64.wrap (b_3-m_2)))).bind fun r3 =>
 (ubh_ (r3.1,(IntKind.i64.wrap (m_2-r3.2)),m_2,r3.2,cmp_4)).bind fun r4 =>
 some r4
def ug4_ (slf:(List YY2)×Int×Int×Int×YY11→Option (List YY2)) (next:(List YY2)×Int×YY11×Int×Int→Option YY31):(List YY2)×Int×YY11×Int×Int→Option YY31:=fun (data_0,a_1,cmp_4,i_10,j_11) =>
 bif (decide (i_10<j_11)) then
  (shr? IntKind.u64 (IntKind.u64.wrap (IntKind.i64.wrap (i_10+j_11))) (1:Int)).bind fun n1 =>
  (in? data_0.length (IntKind.i64.wrap n1)).bind fun _ =>
  (in? data_0.length a_1).bind fun _ =>
  (cmp_4 ((data_0.getD ((IntKind.i64.wrap n1).toNat) ((0:Int),(([]:Str),(([]:Str),(0:Int))))),(data_0.getD a_1.toNat ((0:Int),(([]:Str),(([]:Str),(0:Int))))))).bind fun r4 =>
  bif (decide (r4<(0:Int))) then
   next (data_0,a_1,cmp_4,(IntKind.i64.wrap ((IntKind.i64.wrap n1)+(1:Int))),j_11)
  else
   next (data_0,a_1,cmp_4,i_10,(IntKind.i64.wrap n1))
 else
  some (data_0,i_10)
def udy_ (slf:(List YY2)×Int×Int×Int×YY11→Option (List YY2)):(List YY2)×Int×YY11×Int×Int→Option YY31:=loopN (ug4_ slf) fuel
def ug5_ (slf:(List YY2)×Int×Int×Int×YY11→Option (List YY2)) (next:(List YY2)×Int×Int→Option (List YY2)):(List YY2)×Int×Int→Option (List YY2):=fun (data_0,i_10,k_13) =>
 bif (decide (k_13<(IntKind.i64.wrap (i_10-(1:Int))))) then
  (in? data_0.length (IntKind.i64.wrap (k_13+(1:Int)))).bind fun _ =>
  let v6:=(data_0.getD ((IntKind.i64.wrap (k_13+(1:Int))).toNat) ((0:Int),(([]:Str),(([]:Str),(0:Int)))))
  (in? data_0.length k_13).bind fun _ =>
  (in? data_0.length k_13).bind fun _ =>
  (in? (data_0.set k_13.toNat v6).length (IntKind.i64.wrap (k_13+(1:Int)))).bind fun _ =>
  next (((data_0.set k_13.toNat v6).set ((IntKind.i64.wrap (k_13+(1:Int))).toNat) (data_0.getD k_13.toNat ((0:Int),(([]:Str),(([]:Str),(0:Int)))))),i_10,(IntKind.i64.wrap (k_13+(1:Int))))
 else
  some data_0
def udz_ (slf:(List YY2)×Int×Int×Int×YY11→Option (List YY2)):(List YY2)×Int×Int→Option (List YY2):=loopN (ug5_ slf) fuel
def ug6_ (slf:(List YY2)×Int×Int×Int×YY11→Option (List YY2)) (next:(List YY2)×Int×YY11×Int×Int→Option YY31):(List YY2)×Int×YY11×Int×Int→Option YY31:=fun (data_0,m_2,cmp_4,i_14,j_15) =>
 bif (decide (i_14<j_15)) then
  (shr? IntKind.u64 (IntKind.u64.wrap (IntKind.i64.wrap (i_14+j_15))) (1:Int)).bind fun n10 =>
  (in? data_0.length m_2).bind fun _ =>
  (in? data_0.length (IntKind.i64.wrap n10)).bind fun _ =>
  (cmp_4 ((data_0.getD m_2.toNat ((0:Int),(([]:Str),(([]:Str),(0:Int))))),(data_0.getD ((IntKind.i64.wrap n10).toNat) ((0:Int),(([]:Str),(([]:Str),(0:Int))))))).bind fun r13 =>
  bif (!(decide (r13<(0:Int)))) then
   next (data_0,m_2,cmp_4,(IntKind.i64.wrap ((IntKind.i64.wrap n10)+(1:Int))),j_15)
  else
   next (data_0,m_2,cmp_4,i_14,(IntKind.i64.wrap n10))
 else
  some (data_0,i_14)
def ud0_ (slf:(List YY2)×Int×Int×Int×YY11→Option (List YY2)):(List YY2)×Int×YY11×Int×Int→Option YY31:=loopN (ug6_ slf) fuel
def ugl_ (slf:(List YY2)×Int×Int×Int×YY11→Option (List YY2)) (next:(List YY2)×Int×Int→Option (List YY2)):(List YY2)×Int×Int→Option (List YY2):=fun (data_0,i_14,k_17) =>
 bif (decide (i_14<k_17)) then
  (in? data_0.length (IntKind.i64.wrap (k_17-(1:Int)))).bind fun _ =>
  let v15:=(data_0.getD ((IntKind.i64.wrap (k_17-(1:Int))).toNat) ((0:Int),(([]:Str),(([]:Str),(0:Int)))))
  (in? data_0.length k_17).bind fun _ =>
  (in? data_0.length k_17).bind fun _ =>
  (in? (data_0.set k_17.toNat v15).length (IntKind.i64.wrap (k_17-(1:Int)))).bind fun _ =>
  next (((data_0.set k_17.toNat v15).set ((IntKind.i64.wrap (k_17-(1:Int))).toNat) (data_0.getD k_17.toNat ((0:Int),(([]:Str),(([]:Str),(0:Int)))))),i_14,(IntKind.i64.wrap (k_17-(1:Int))))
 else
  some data_0
def udn_ (slf:(List YY2)×Int×Int×Int×YY11→Option (List YY2)):(List YY2)×Int×Int→Option (List YY2):=loopN (ugl_ slf) fuel
def ub0_ (slf:(List YY2)×Int×Int×Int×YY11→Option (List YY2)):Int×Int×Int×Int×Int×Bool→Option (Int×Int):=fun (a_1,m_2,b_3,mid_18,n_19,t140) =>
 bif t140 then
  some ((IntKind.i64.wrap (n_19-b_3)),mid_18)
 else
  some (a_1,m_2)
def ugm_ (slf:(List YY2)×Int×Int×Int×YY11→Option (List YY2)) (next:(List YY2)×YY11×Int×Int×Int→Option YY31):(List YY2)×YY11×Int×Int×Int→Option YY31:=fun (data_0,cmp_4,start_20,r_21,p_22) =>
 bif (decide (start_20<r_21)) then
  (shr? IntKind.u64 (IntKind.u64.wrap (IntKind.i64.wrap (start_20+r_21))) (1:Int)).bind fun n22 =>
  (in? data_0.length (IntKind.i64.wrap (p_22-(IntKind.i64.wrap n22)))).bind fun _ =>
  (in? data_0.length (IntKind.i64.wrap n22)).bind fun _ =>
  (cmp_4 ((data_0.getD ((IntKind.i64.wrap (p_22-(IntKind.i64.wrap n22))).toNat) ((0:Int),(([]:Str),(([]:Str),(0:Int))))),(data_0.getD ((IntKind.i64.wrap n22).toNat) ((0:Int),(([]:Str),(([]:Str),(0:Int))))))).bind fun r25 =>
  bif (!(decide (r25<(0:Int)))) then
   next (data_0,cmp_4,(IntKind.i64.wrap ((IntKind.i64.wrap n22)+(1:Int))),r_21,p_22)
  else
   next (data_0,cmp_4,start_20,(IntKind.i64.wrap n22),p_22)
 else
  some (data_0,start_20)
def udo_ (slf:(List YY2)×Int×Int×Int×YY11→Option (List YY2)):(List YY2)×YY11×Int×Int×Int→Option YY31:=loopN (ugm_ slf) fuel
def ub1_ (slf:(List YY2)×Int×Int×Int×YY11→Option (List YY2)):(List YY2)×Int×YY11×Int×Int×Bool→Option (List YY2):=fun (data_0,m_2,cmp_4,start_20,end_24,t185) =>
 bif t185 then
  (uc1_ (data_0,start_20,m_2,end_24,cmp_4)).bind fun r28 =>
  some r28
 else
  some data_0
def ub2_ (slf:(List YY2)×Int×Int×Int×YY11→Option (List YY2)):(List YY2)×Int×YY11×Int×Int×Bool→Option (List YY2):=fun (data_0,a_1,cmp_4,mid_18,start_20,t199) =>
 bif t199 then
  (slf (data_0,a_1,start_20,mid_18,cmp_4)).bind fun r31 =>
  some r31
 else
  some data_0
def uc4_ (slf:(List YY2)×Int×Int×Int×YY11→Option (List YY2)):(List YY2)×Int×Int×Int×YY11→Option (List YY2):=fun (data_0,a_1,m_2,b_3,cmp_4) =>
 bif (eqI (IntKind.i64.wrap (m_2-a_1)) (1:Int)) then
  ((udy_ slf) (data_0,a_1,cmp_4,m_2,b_3)).bind fun r5 =>
  ((udz_ slf) (r5.1,r5.2,a_1)).bind fun r9 =>
  some r9
 else
  bif (eqI (IntKind.i64.wrap (b_3-m_2)) (1:Int)) then
   ((ud0_ slf) (data_0,m_2,cmp_4,a_1,m_2)).bind fun r14 =>
   ((udn_ slf) (r14.1,r14.2,m_2)).bind fun r18 =>
   some r18
  else
   (shr? IntKind.u64 (IntKind.u64.wrap (IntKind.i64.wrap (a_1+b_3))) (1:Int)).bind fun n19 =>
   ((ub0_ slf) (a_1,m_2,b_3,(IntKind.i64.wrap n19),(IntKind.i64.wrap ((IntKind.i64.wrap n19)+m_2)),(decide ((IntKind.i64.wrap n19)<m_2)))).bind fun r20 =>
   ((udo_ slf) (data_0,cmp_4,r20.1,r20.2,(IntKind.i64.wrap ((IntKind.i64.wrap ((IntKind.i64.wrap n19)+m_2))-(1:Int))))).bind fun r26 =>
   let v27:=(IntKind.i64.wrap ((IntKind.i64.wrap ((IntKind.i64.wrap n19)+m_2))-r26.2))
   ((ub1_ slf) (r26.1,m_2,cmp_4,r26.2,v27,((decide (r26.2<m_2))&&(decide (m_2<v27))))).bind fun r29 =>
   ((ub2_ slf) (r29,a_1,cmp_4,(IntKind.i64.wrap n19),r26.2,((decide (a_1<r26.2))&&(decide (r26.2<(IntKind.i64.wrap n19)))))).bind fun r32 =>
   bif ((decide ((IntKind.i64.wrap n19)<v27))&&(decide (v27<b_3))) then
    (slf (r32,(IntKind.i64.wrap n19),v27,b_3,cmp_4)).bind fun r34 =>
    some r34
   else
    some r32
def uo_:Nat→(List YY2)×Int×Int×Int×YY11→Option (List YY2)
 | 0=>fun _=>none
 | n+1=>uc4_ (uo_ n)
def ubt_:(List YY2)×Int×Int×Int×YY11→Option (List YY2):=uo_ 100
def uhz_ (next:(List YY2)×Int×YY11×Int×Int×Int→Option YY31):(List YY2)×Int×YY11×Int×Int×Int→Option YY31:=fun (data_0,n_1,cmp_2,blockSize_6,a_7,b_8) =>
 bif (decide (b_8≤n_1)) then
  (ubl_ (data_0,a_7,b_8,cmp_2)).bind fun r1 =>
  next (r1,n_1,cmp_2,blockSize_6,b_8,(IntKind.i64.wrap (b_8+blockSize_6)))
 else
  some (data_0,a_7)
def ueg_:(List YY2)×Int×YY11×Int×Int×Int→Option YY31:=loopN uhz_ fuel
def uh0_ (next:(List YY2)×Int×YY11×Int×Int×Int→Option YY31):(List YY2)×Int×YY11×Int×Int×Int→Option YY31:=fun (data_0,n_1,cmp_2,blockSize_6,a_7,b_8) =>
 bif (decide (b_8≤n_1)) then
  (ubt_ (data_0,a_7,(IntKind.i64.wrap (a_7+blockSize_6)),b_8,cmp_2)).bind fun r4 =>
  next (r4,n_1,cmp_2,blockSize_6,b_8,(IntKind.i64.wrap (b_8+(IntKind.i64.wrap ((2:Int)*blockSize_6)))))
 else
  some (data_0,a_7)
def ueh_:(List YY2)×Int×YY11×Int×Int×Int→Option YY31:=loopN uh0_ fuel
def uh1_ (next:(List YY2)×Int×YY11×Int→Option (List YY2)):(List YY2)×Int×YY11×Int→Option (List YY2):=fun (data_0,n_1,cmp_2,blockSize_6) =>
 bif (decide (blockSize_6<n_1)) then
  (ueh_ (data_0,n_1,cmp_2,blockSize_6,(0:Int),(IntKind.i64.wrap ((2:Int)*blockSize_6)))).bind fun r6 =>
  bif (decide ((IntKind.i64.wrap (r6.2+blockSize_6))<n_1)) then
   (ubt_ (r6.1,r6.2,(IntKind.i64.wrap (r6.2+blockSize_6)),n_1,cmp_2)).bind fun r7 =>
   next (r7,n_1,cmp_2,(IntKind.i64.wrap (blockSize_6*(2:Int))))
  else
   next (r6.1,n_1,cmp_2,(IntKind.i64.wrap (blockSize_6*(2:Int))))
 else
  some data_0
def uei_:(List YY2)×Int×YY11×Int→Option (List YY2):=loopN uh1_ fuel
def uc2_:(List YY2)×Int×YY11→Option (List YY2):=fun (data_0,n_1,cmp_2) =>
 (ueg_ (data_0,n_1,cmp_2,(20:Int),(0:Int),(20:Int))).bind fun r2 =>
 (ubl_ (r2.1,r2.2,n_1,cmp_2)).bind fun r3 =>
 (uei_ (r3,n_1,cmp_2,(20:Int))).bind fun r8 =>
 some r8
def ucs_:(List YY2)×YY11→Option (List YY2):=fun (x_0,cmp_1) =>
 (uc2_ (x_0,(x_0.length:Int),cmp_1)).bind fun r1 =>
 some r1
def ubab_:Int→Option (Bool):=fun x_0 =>
 some (!(eqI x_0 x_0))
def ui1_:Int×Int→Option (Int):=fun (x_0,y_1) =>
 (ubab_ x_0).bind fun r1 =>
 (ubab_ y_1).bind fun r2 =>
 bif r1 then
  bif r2 then
   some (0:Int)
  else
   some (-1:Int)
 else
  bif r2 then
   some (1:Int)
  else
   bif (decide (x_0<y_1)) then
    some (-1:Int)
   else
    bif (decide (y_1<x_0)) then
     some (1:Int)
    else
     some (0:Int)
def ubxu_ (next:Int×(List Int)×Int×Int→Option YY26):Int×(List Int)×Int×Int→Option YY26:=fun (zero_3,t6,t7,t8) =>
 bif (decide (t8<t7)) then
  (at? t6 t8).bind fun y1 =>
  bif (!(eqI y1 zero_3)) then
   some (.inr y1)
  else
   next (zero_3,t6,t7,(IntKind.i64.wrap (t8+(1:Int))))
 else
  some (.inl ())
def ubkn_:Int×(List Int)×Int×Int→Option YY26:=loopN ubxu_ fuel
def ubko_:List Int→Option (Int):=fun vals_0 =>
 (ubkn_ ((0:Int),vals_0,(vals_0.length:Int),(0:Int))).bind fun r2 =>
 match r2 with
 | .inl y3 =>
   some (0:Int)
 | .inr y3' =>
   some y3'
def uqh_:YY2×YY2→Option (Int):=fun (x_0,y_1) =>
 (udj_ (x_0.2.1,y_1.2.1)).bind fun r1 =>
 (ui1_ (x_0.1,y_1.1)).bind fun r2 =>
 (ubko_ ([r1,r2]:List Int)).bind fun r3 =>
 some r3
def ubac_ (next:YY5×(List YY2)×YY25×Int×Int→Option (List YY2)):YY5×(List YY2)×YY25×Int×Int→Option (List YY2):=fun (a_1,out_3,t8,t9,t10) =>
 bif (decide (t10<t9)) then
  (at? t8 t10).bind fun y1 =>
  (u50_ ()).bind fun r2 =>
  (at? r2 y1.1).bind fun y3 =>
  bif (!(eqS y1.2 ([]:Str))) then
   (ubnk_ (a_1.2.1,y1.2)).bind fun r4 =>
   (uq4_ (a_1.2.1,y1.2)).bind fun r5 =>
   (app? 96 out_3 ([(y3,(r4.1,(r5.1,y1.1)))]:List YY2)).bind fun l7 =>
   next (a_1,l7,t8,t9,(IntKind.i64.wrap (t10+(1:Int))))
  else
   (app? 96 out_3 ([(y3,(([]:Str),(([]:Str),y1.1)))]:List YY2)).bind fun l9 =>
   next (a_1,l9,t8,t9,(IntKind.i64.wrap (t10+(1:Int))))
 else
  some out_3
def uxi_:YY5×(List YY2)×YY25×Int×Int→Option (List YY2):=loopN ubac_ fuel
def uxj_:Str×Int×YY25×(List Str)×(List Str)→Option (List YY2):=fun a_0 =>
 (uxi_ (a_0,([]:List YY2),a_0.2.2.1,(a_0.2.2.1.length:Int),(0:Int))).bind fun r10 =>
 (ucs_ (r10,(fun x=>(uqh_ x).bind fun r=>some r))).bind fun r11 =>
 some r11
def ubhp_ (next:(List YY4)×Bool×YY27×(List YY2)×Int×Int→Option ((List YY4)×Bool×YY27)):(List YY4)×Bool×YY27×(List YY2)×Int×Int→Option ((List YY4)×Bool×YY27):=fun (out_3,on_4,low_5,t15,t16,t17) =>
 bif (decide (t17<t16)) then
  (at? t15 t17).bind fun y2 =>
  bif ((eqI y2.2.2.2 (1:Int))&&(!on_4)) then
   bif (!(eqS y2.2.2.1 ([]:Str))) then
    next (out_3,true,(true,(true,y2.2.2.1)),t15,t16,(IntKind.i64.wrap (t17+(1:Int))))
   else
    next (out_3,true,(false,(false,([]:Str))),t15,t16,(IntKind.i64.wrap (t17+(1:Int))))
  else
   bif ((!(eqI y2.2.2.2 (1:Int)))&&on_4) then
    (app? 144 out_3 ([(low_5,(true,((eqI y2.2.2.2 (3:Int)),y2.2.2.1)))]:List YY4)).bind fun l4 =>
    next (l4,false,low_5,t15,t16,(IntKind.i64.wrap (t17+(1:Int))))
   else
    next (out_3,on_4,low_5,t15,t16,(IntKind.i64.wrap (t17+(1:Int))))
 else
  some (out_3,on_4,low_5)
def u3t_:(List YY4)×Bool×YY27×(List YY2)×Int×Int→Option ((List YY4)×Bool×YY27):=loopN ubhp_ fuel
def uu5_:(List YY4)×YY27×Bool→Option (List YY4):=fun (out_3,low_5,t56) =>
 bif t56 then
  (app? 144 out_3 ([(low_5,(false,(false,([]:Str))))]:List YY4)).bind fun l7 =>
  some l7
 else
  some out_3
def ubhq_ (next:YY5×(List YY4)×(List Str)×Int×Int→Option (List YY4)):YY5×(List YY4)×(List Str)×Int×Int→Option (List YY4):=fun (a_1,out_3,t63,t64,t65) =>
 bif (decide (t65<t64)) then
  (at? t63 t65).bind fun y9 =>
  (uq4_ (a_1.2.1,y9)).bind fun r10 =>
  (app? 144 out_3 ([((true,(true,r10.1)),(true,(true,r10.1)))]:List YY4)).bind fun l12 =>
  next (a_1,l12,t63,t64,(IntKind.i64.wrap (t65+(1:Int))))
 else
  some out_3
def u3u_:YY5×(List YY4)×(List Str)×Int×Int→Option (List YY4):=loopN ubhq_ fuel
def u51_:Str×Int×YY25×(List Str)×(List Str)→Option (List YY4):=fun a_0 =>
 (uxj_ a_0).bind fun r1 =>
 (u3t_ (([]:List YY4),false,(false,(false,([]:Str))),r1,(r1.length:Int),(0:Int))).bind fun r5 =>
 (uu5_ (r5.1,r5.2.2,r5.2.1)).bind fun r8 =>
 (u3u_ (a_0,r8,a_0.2.2.2.1,(a_0.2.2.2.1.length:Int),(0:Int))).bind fun r13 =>
 some r13
def umm_:Int×YY27→Option (Str×Int):=fun (kind_0,b_1) =>
 bif (!b_1.1) then
  bif (b_1.2.1||(!(eqS b_1.2.2 ([]:Str)))) then
   some (([]:Str),(2:Int))
  else
   some (([]:Str),(0:Int))
 else
  (u0v_ (kind_0,b_1.2.2)).bind fun r1 =>
  bif (!(eqI r1.2 (0:Int))) then
   some (([]:Str),r1.2)
  else
   ((fun z=>Sum.casesOn (motive:=fun _=>Option Str) z (fun x=>(ui7_ x).bind fun r=>some r) (fun z=>Sum.casesOn (motive:=fun _=>Option Str) z (fun x=>(uik_ x).bind fun r=>some r) (fun z=>Sum.casesOn (motive:=fun _=>Option Str) z (fun x=>(ui9_ x).bind fun r=>some r) (fun z=>Sum.casesOn (motive:=fun _=>Option Str) z (fun x=>(ugj_ x).bind fun r=>some r) (fun z=>Sum.casesOn (motive:=fun _=>Option Str) z (fun x=>(ukq_ x).bind fun r=>some r) (fun _=>none)))))) r1.1).bind fun r2 =>
   bif (!(eqS r2 b_1.2.2)) then
    some (([]:Str),(2:Int))
   else
    ((fun z=>Sum.casesOn (motive:=fun _=>Option Str) z (fun x=>(umk_ x).bind fun r=>some r) (fun z=>Sum.casesOn (motive:=fun _=>Option Str) z (fun x=>(ukt_ x).bind fun r=>some r) (fun z=>Sum.casesOn (motive:=fun _=>Option Str) z (fun x=>(uml_ x).bind fun r=>some r) (fun z=>Sum.casesOn (motive:=fun _=>Option Str) z (fun x=>(uil_ x).bind fun r=>some r) (fun z=>Sum.casesOn (motive:=fun _=>Option Str) z (fun x=>(uo1_ x).bind fun r=>some r) (fun _=>none)))))) r1.1).bind fun r3 =>
    some (r3,(0:Int))
def u1w_:YY27×Str→Option YY34:=fun (b_0,key_1) =>
 bif (!b_0.1) then
  some ((-1:Int),(([]:Str),(false,([]:Str))))
 else
  some ((0:Int),(key_1,((!b_0.2.1),b_0.2.2)))
def uxk_:YY27×Str→Option YY34:=fun (b_0,key_1) =>
 bif (!b_0.1) then
  some ((1:Int),(([]:Str),(false,([]:Str))))
 else
  some ((0:Int),(key_1,(b_0.2.1,b_0.2.2)))
def ufb_:YY34×YY34→Option (Int):=fun (a_0,b_1) =>
 bif ((!(eqI a_0.1 b_1.1))||(!(eqI a_0.1 (0:Int)))) then
  (ui1_ (a_0.1,b_1.1)).bind fun r1 =>
  some r1
 else
  (udj_ (a_0.2.1,b_1.2.1)).bind fun r2 =>
  bif ((!(eqI r2 (0:Int)))||(eqB a_0.2.2.1 b_1.2.2.1)) then
   some r2
  else
   bif a_0.2.2.1 then
    some (1:Int)
   else
    some (-1:Int)
def uf5_:YY7×YY7→Option (Int):=fun (a_0,b_1) =>
 (ufb_ (a_0.1,b_1.1)).bind fun r1 =>
 some r1
def ujq_:YY7×Int×Bool→Option (YY7×Int):=fun (s_1,first_5,t10) =>
 bif t10 then
  (uc0_ s_1.1.2.2.2).bind fun r1 =>
  bif s_1.1.2.2.1 then
   some (s_1,(IntKind.i64.wrap (r1.1+(1:Int))))
  else
   some (s_1,r1.1)
 else
  some (s_1,first_5)
def un8_:YY34×YY34→Option (Int×Int×Bool):=fun s_0 =>
 (ujq_ (s_0,(0:Int),(eqI s_0.1.1 (0:Int)))).bind fun r2 =>
 bif (eqI r2.1.2.1 (0:Int)) then
  (uc0_ r2.1.2.2.2.2).bind fun r3 =>
  bif (!r2.1.2.2.2.1) then
   some (r2.2,(IntKind.i64.wrap (r3.1-(1:Int))),(decide (r2.2≤(IntKind.i64.wrap (r3.1-(1:Int))))))
  else
   some (r2.2,r3.1,(decide (r2.2≤r3.1)))
 else
  some (r2.2,(999999999999999999:Int),(decide (r2.2≤(999999999999999999:Int))))
def uu6_:Int×YY34×Bool→Option YY34:=fun (last_8,high_10,t27) =>
 bif t27 then
  (ud2_ last_8).bind fun r3 =>
  (strconv_Itoa last_8).bind fun r4 =>
  some ((0:Int),(r3,(true,r4)))
 else
  some high_10
def ubhr_ (next:(List YY7)×Int×(List YY7)×Int×Int→Option (List YY7)):(List YY7)×Int×(List YY7)×Int×Int→Option (List YY7):=fun (out_3,end_4,t11,t12,t13) =>
 bif (decide (t13<t12)) then
  (at? t11 t13).bind fun y1 =>
  (un8_ y1).bind fun r2 =>
  bif (!r2.2.2) then
   next (out_3,end_4,t11,t12,(IntKind.i64.wrap (t13+(1:Int))))
  else
   (uu6_ (r2.2.1,((1:Int),(([]:Str),(false,([]:Str)))),(decide (r2.2.1<(999999999999999999:Int))))).bind fun r5 =>
   bif ((decide ((0:Int)<(out_3.length:Int)))&&(eqI r2.1 (IntKind.i64.wrap (end_4+(1:Int))))) then
    (in? out_3.length (IntKind.i64.wrap ((out_3.length:Int)-(1:Int)))).bind fun _ =>
    next ((out_3.set ((IntKind.i64.wrap ((out_3.length:Int)-(1:Int))).toNat) ((out_3.getD ((IntKind.i64.wrap ((out_3.length:Int)-(1:Int))).toNat) (((0:Int),(([]:Str),(false,([]:Str)))),((0:Int),(([]:Str),(false,([]:Str)))))).1,r5)),r2.2.1,t11,t12,(IntKind.i64.wrap (t13+(1:Int))))
   else
    (ud2_ r2.1).bind fun r8 =>
    (strconv_Itoa r2.1).bind fun r9 =>
    (app? 192 out_3 ([(((0:Int),(r8,(false,r9))),r5)]:List YY7)).bind fun l11 =>
    next (l11,r2.2.1,t11,t12,(IntKind.i64.wrap (t13+(1:Int))))
 else
  some out_3
def u3v_:(List YY7)×Int×(List YY7)×Int×Int→Option (List YY7):=loopN ubhr_ fuel
def u52_:List YY7→Option (List YY7):=fun l_0 =>
 (u3v_ (([]:List YY7),(-2:Int),l_0,(l_0.length:Int),(0:Int))).bind fun r12 =>
 some r12
def u1x_:(List YY7)×Bool→Option (List YY7):=fun (l_1,t11) =>
 bif t11 then
  (u52_ l_1).bind fun r1 =>
  some r1
 else
  some l_1
def u1y_:YY7×YY4×Bool→Option (YY7×YY4):=fun (s_8,x_9,t29) =>
 bif t29 then
  some (s_8,((true,((!s_8.1.2.2.1),s_8.1.2.2.2)),x_9.2))
 else
  some (s_8,x_9)
def ubpz_ (next:YY15×(List YY7)×Int×Int→Option YY15):YY15×(List YY7)×Int×Int→Option YY15:=fun (r_6,t20,t21,t22) =>
 bif (decide (t22<t21)) then
  (at? t20 t22).bind fun y4 =>
  (u1y_ (y4,((false,(false,([]:Str))),(false,(false,([]:Str)))),(eqI y4.1.1 (0:Int)))).bind fun r5 =>
  bif (eqI r5.1.2.1 (0:Int)) then
   (app? 144 r_6.2 ([(r5.2.1,(true,(r5.1.2.2.2.1,r5.1.2.2.2.2)))]:List YY4)).bind fun l7 =>
   next ((r_6.1,l7),t20,t21,(IntKind.i64.wrap (t22+(1:Int))))
  else
   (app? 144 r_6.2 ([r5.2]:List YY4)).bind fun l9 =>
   next ((r_6.1,l9),t20,t21,(IntKind.i64.wrap (t22+(1:Int))))
 else
  some (r_6.1,r_6.2)
def ubbh_:YY15×(List YY7)×Int×Int→Option YY15:=loopN ubpz_ fuel
def ubff_:Int×(List YY7)→Option (YY15×Int):=fun (kind_0,l_1) =>
 (u1x_ (l_1,(eqI kind_0 (5:Int)))).bind fun r2 =>
 bif (decide ((200:Int)<(r2.length:Int))) then
  some (((0:Int),([]:List YY4)),(3:Int))
 else
  (ubbh_ ((kind_0,([]:List YY4)),r2,(r2.length:Int),(0:Int))).bind fun r10 =>
  some ((r10.1,r10.2),(0:Int))
def ubkp_ (next:Int×YY15×(List YY7)×(List YY4)×Int×Int→Option (Sum (YY15×(List YY7)) (YY15×Int))):Int×YY15×(List YY7)×(List YY4)×Int×Int→Option (Sum (YY15×(List YY7)) (YY15×Int)):=fun (kind_0,t4,all_6,t17,t18,t19) =>
 bif (decide (t19<t18)) then
  (at? t17 t19).bind fun y1 =>
  (umm_ (kind_0,y1.1)).bind fun r2 =>
  bif (!(eqI r2.2 (0:Int))) then
   some (.inr (((0:Int),([]:List YY4)),r2.2))
  else
   (umm_ (kind_0,y1.2)).bind fun r4 =>
   bif (!(eqI r4.2 (0:Int))) then
    some (.inr (((0:Int),([]:List YY4)),r4.2))
   else
    (u1w_ (y1.1,r2.1)).bind fun r6 =>
    (uxk_ (y1.2,r4.1)).bind fun r7 =>
    (ufb_ (r6,r7)).bind fun r8 =>
    bif (decide (r8<(0:Int))) then
     (app? 192 all_6 ([(r6,r7)]:List YY7)).bind fun l10 =>
     next (kind_0,t4,l10,t17,t18,(IntKind.i64.wrap (t19+(1:Int))))
    else
     next (kind_0,t4,all_6,t17,t18,(IntKind.i64.wrap (t19+(1:Int))))
 else
  some (.inl (t4,all_6))
def u6y_:Int×YY15×(List YY7)×(List YY4)×Int×Int→Option (Sum (YY15×(List YY7)) (YY15×Int)):=loopN ubkp_ fuel
def ubkq_ (next:(List YY7)×(List YY7)×Int×Int→Option (List YY7)):(List YY7)×(List YY7)×Int×Int→Option (List YY7):=fun (out_13,t67,t68,t69) =>
 bif (decide (t69<t68)) then
  (in? t67.length t69).bind fun _ =>
  let v14:=(t67.getD t69.toNat (((0:Int),(([]:Str),(false,([]:Str)))),((0:Int),(([]:Str),(false,([]:Str))))))
  (bif (!(eqI (out_13.length:Int) (0:Int))) then in? out_13.length (IntKind.i64.wrap ((out_13.length:Int)-(1:Int))) else some ()).bind fun _ =>
  (bif (!(eqI (out_13.length:Int) (0:Int))) then ufb_ (((out_13.getD ((IntKind.i64.wrap ((out_13.length:Int)-(1:Int))).toNat) (((0:Int),(([]:Str),(false,([]:Str)))),((0:Int),(([]:Str),(false,([]:Str)))))).2),v14.1) else some (0:Int)).bind fun r16 =>
  bif ((eqI (out_13.length:Int) (0:Int))||(decide (r16<(0:Int)))) then
   (app? 192 out_13 ([v14]:List YY7)).bind fun l19 =>
   next (l19,t67,t68,(IntKind.i64.wrap (t69+(1:Int))))
  else
   (in? out_13.length (IntKind.i64.wrap ((out_13.length:Int)-(1:Int)))).bind fun _ =>
   (ufb_ (((out_13.getD ((IntKind.i64.wrap ((out_13.length:Int)-(1:Int))).toNat) (((0:Int),(([]:Str),(false,([]:Str)))),((0:Int),(([]:Str),(false,([]:Str)))))).2),v14.2)).bind fun r21 =>
   bif (decide (r21<(0:Int))) then
    (in? out_13.length (IntKind.i64.wrap ((out_13.length:Int)-(1:Int)))).bind fun _ =>
    next ((out_13.set ((IntKind.i64.wrap ((out_13.length:Int)-(1:Int))).toNat) ((out_13.getD ((IntKind.i64.wrap ((out_13.length:Int)-(1:Int))).toNat) (((0:Int),(([]:Str),(false,([]:Str)))),((0:Int),(([]:Str),(false,([]:Str)))))).1,v14.2)),t67,t68,(IntKind.i64.wrap (t69+(1:Int))))
   else
    next (out_13,t67,t68,(IntKind.i64.wrap (t69+(1:Int))))
 else
  some out_13
def u6z_:(List YY7)×(List YY7)×Int×Int→Option (List YY7):=loopN ubkq_ fuel
def ubad_:Int×(List YY4)→Option (YY15×Int):=fun (kind_0,l_1) =>
 (u6y_ (kind_0,((0:Int),([]:List YY4)),([]:List YY7),l_1,(l_1.length:Int),(0:Int))).bind fun r11 =>
 match r11 with
 | .inl y12 =>
   (uhd_ (y12.2,(fun x=>(uf5_ x).bind fun r=>some r))).bind fun r13 =>
   (u6z_ (([]:List YY7),r13,(r13.length:Int),(0:Int))).bind fun r23 =>
   (ubff_ (kind_0,r23)).bind fun r24 =>
   some (r24.1,r24.2)
 | .inr y12' =>
   some (y12'.1,y12'.2)
def uxl_:Str×Int×YY25×(List Str)×(List Str)→Option (YY15×Int):=fun a_0 =>
 (ukr_ a_0).bind fun r1 =>
 bif (!(eqI r1 (0:Int))) then
  some (((0:Int),([]:List YY4)),r1)
 else
  (u51_ a_0).bind fun r3 =>
  (ubad_ (a_0.2.1,r3)).bind fun r4 =>
  some (r4.1,r4.2)
def ugw_:YY1×Bool→Option (Sum YY1 ((List YY15)×Int)):=fun (a_1,t37) =>
 bif t37 then
  (ur3_ a_1.2.2.2.2.2.1).bind fun r5 =>
  bif (!(eqI r5.2 (0:Int))) then
   some (.inr (([]:List YY15),r5.2))
  else
   some (.inl a_1)
 else
  some (.inl a_1)
def ui4_ (next:(List YY15)×(List YY5)×Int×Int→Option (Sum (List YY15) ((List YY15)×Int))):(List YY15)×(List YY5)×Int×Int→Option (Sum (List YY15) ((List YY15)×Int)):=fun (out_7,t52,t53,t54) =>
 bif (decide (t54<t53)) then
  (at? t52 t54).bind fun y8 =>
  (uxl_ y8).bind fun r9 =>
  bif (!(eqI r9.2 (0:Int))) then
   some (.inr (([]:List YY15),r9.2))
  else
   (app? 48 out_7 ([r9.1]:List YY15)).bind fun l11 =>
   next (l11,t52,t53,(IntKind.i64.wrap (t54+(1:Int))))
 else
  some (.inl out_7)
def ur8_:(List YY15)×(List YY5)×Int×Int→Option (Sum (List YY15) ((List YY15)×Int)):=loopN ui4_ fuel
def uli_:Str×(List Str)×Str×Int×Bool×Str×(List YY5)→Option ((List YY15)×Int):=fun a_0 =>
 (ui0_ a_0.1).bind fun r1 =>
 bif (!r1) then
  some (([]:List YY15),(8:Int))
 else
  (udl_ a_0).bind fun r2 =>
  bif (!(eqI r2 (0:Int))) then
   some (([]:List YY15),r2)
  else
   (ui0_ a_0.2.2.1).bind fun r3 =>
   bif (!r3) then
    some (([]:List YY15),(8:Int))
   else
    bif ((decide (a_0.2.2.2.1<(0:Int)))||(decide ((1000000:Int)<a_0.2.2.2.1))) then
     some (([]:List YY15),(9:Int))
    else
     (ugw_ (a_0,(!(eqS a_0.2.2.2.2.2.1 ([]:Str))))).bind fun r6 =>
     match r6 with
     | .inl y7 =>
       bif (decide ((50:Int)<(y7.2.2.2.2.2.2.length:Int))) then
        some (([]:List YY15),(3:Int))
       else
        (ur8_ (([]:List YY15),y7.2.2.2.2.2.2,(y7.2.2.2.2.2.2.length:Int),(0:Int))).bind fun r12 =>
        match r12 with
        | .inl y13 =>
          some (y13,(0:Int))
        | .inr y13' =>
          some (y13'.1,y13'.2)
     | .inr y7' =>
       some (y7'.1,y7'.2)
def uha_:Str×(List Str)×Str×Int×Bool×Str×(List YY5)→Option (Int):=fun a_0 =>
 (uli_ a_0).bind fun r1 =>
 some r1.2
def ubno_:Unit→Option (List Str):=fun s_0 =>
 some ([]:List Str)
def utd_:List Str→Option (List Str):=fun s_0 =>
 (app? 24 ([]:List Str) s_0).bind fun l1 =>
 some l1
def uh2_:List Str→Option (List Str):=utd_
def ubfg_:Unit→Option YY25:=fun s_0 =>
 some ([]:List (Int×Str))
def un9_:List (Int×Str)→Option YY25:=fun s_0 =>
 (app? 48 ([]:List (Int×Str)) s_0).bind fun l1 =>
 some l1
def uku_:List (Int×Str)→Option YY25:=un9_
def ubc0_ (next:(List YY5)×(List YY5)×Int×Int→Option (List YY5)):(List YY5)×(List YY5)×Int×Int→Option (List YY5):=fun (l_3,t11,t12,t13) =>
 bif (decide (t13<t12)) then
  (at? t11 t13).bind fun y2 =>
  (uku_ y2.2.2.1).bind fun r3 =>
  (uh2_ y2.2.2.2.1).bind fun r4 =>
  (uh2_ y2.2.2.2.2).bind fun r5 =>
  (app? 120 l_3 ([(y2.1,(y2.2.1,(r3,(r4,r5))))]:List YY5)).bind fun l7 =>
  next (l7,t11,t12,(IntKind.i64.wrap (t13+(1:Int))))
 else
  some l_3
def u0y_:(List YY5)×(List YY5)×Int×Int→Option (List YY5):=loopN ubc0_ fuel
def uue_:Str×(List Str)×Str×Int×Bool×Str×(List YY5)→Option YY1:=fun a_0 =>
 (uh2_ a_0.2.1).bind fun r1 =>
 (u0y_ (([]:List YY5),a_0.2.2.2.2.2.2,(a_0.2.2.2.2.2.2.length:Int),(0:Int))).bind fun r8 =>
 some (a_0.1,(r1,(a_0.2.2.1,(a_0.2.2.2.1,(a_0.2.2.2.2.1,(a_0.2.2.2.2.2.1,r8))))))
def u2f_:YY1×YY1→Option (Int):=fun (a_0,b_1) =>
 (udj_ (a_0.1,b_1.1)).bind fun r1 =>
 some r1
def u4r_ (next:(List YY1)×Int×Int→Option YY26):(List YY1)×Int×Int→Option YY26:=fun (t9,t10,t11) =>
 bif (decide (t11<t10)) then
  (at? t9 t11).bind fun y1 =>
  (uha_ y1).bind fun r2 =>
  bif (!(eqI r2 (0:Int))) then
   some (.inr r2)
  else
   next (t9,t10,(IntKind.i64.wrap (t11+(1:Int))))
 else
  some (.inl ())
def ute_:(List YY1)×Int×Int→Option YY26:=loopN u4r_ fuel
def umn_:List YY1→Option (Int):=fun l_0 =>
 bif (decide ((2000:Int)<(l_0.length:Int))) then
  some (3:Int)
 else
  (ute_ (l_0,(l_0.length:Int),(0:Int))).bind fun r3 =>
  match r3 with
  | .inl y4 =>
    some (0:Int)
  | .inr y4' =>
    some y4'
def ub2c_ (next:YY24×(List YY1)×Int×Int→Option YY24):YY24×(List YY1)×Int×Int→Option YY24:=fun (b_5,t15,t16,t17) =>
 bif (decide (t17<t16)) then
  (at? t15 t17).bind fun y3 =>
  (uue_ y3).bind fun r4 =>
  (app? 168 b_5.2.1 ([r4]:List YY1)).bind fun l6 =>
  (app? 24 b_5.2.2 ([(0:Int)]:List Int)).bind fun l7 =>
  next ((b_5.1,(l6,l7)),t15,t16,(IntKind.i64.wrap (t17+(1:Int))))
 else
  some (b_5.1,(b_5.2.1,b_5.2.2))
def ubp0_:YY24×(List YY1)×Int×Int→Option YY24:=loopN ub2c_ fuel
def ub2d_ (next:YY17×YY24×Int→Option (Sum (YY17×YY24) (YY17×Int))):YY17×YY24×Int→Option (Sum (YY17×YY24) (YY17×Int)):=fun (t2,b_5,i_8) =>
 bif (decide (i_8<(b_5.2.1.length:Int))) then
  (in? b_5.2.1.length i_8).bind fun _ =>
  (in? b_5.2.1.length (IntKind.i64.wrap (i_8-(1:Int)))).bind fun _ =>
  bif (eqS ((b_5.2.1.getD i_8.toNat (([]:Str),(([]:List Str),(([]:Str),((0:Int),(false,(([]:Str),([]:List YY5)))))))).1) ((b_5.2.1.getD ((IntKind.i64.wrap (i_8-(1:Int))).toNat) (([]:Str),(([]:List Str),(([]:Str),((0:Int),(false,(([]:Str),([]:List YY5)))))))).1)) then
   some (.inr (((0:Int),(([]:List YY1),([]:List Int))),(5:Int)))
  else
   next (t2,(b_5.1,(b_5.2.1,b_5.2.2)),(IntKind.i64.wrap (i_8+(1:Int))))
 else
  some (.inl (t2,(b_5.1,(b_5.2.1,b_5.2.2))))
def ubp1_:YY17×YY24×Int→Option (Sum (YY17×YY24) (YY17×Int)):=loopN ub2d_ fuel
def ub0m_:List YY1→Option (YY17×Int):=fun l_0 =>
 (umn_ l_0).bind fun r1 =>
 bif (!(eqI r1 (0:Int))) then
  some (((0:Int),(([]:List YY1),([]:List Int))),r1)
 else
  (ubp0_ (((0:Int),(([]:List YY1),([]:List Int))),l_0,(l_0.length:Int),(0:Int))).bind fun r8 =>
  (ufx_ (r8.2.1,(fun x=>(u2f_ x).bind fun r=>some r))).bind fun r9 =>
  (ubp1_ (((0:Int),(([]:List YY1),([]:List Int))),(r8.1,(r9,r8.2.2)),(1:Int))).bind fun r13 =>
  match r13 with
  | .inl y14 =>
    some ((y14.2.1,(y14.2.2.1,y14.2.2.2)),(0:Int))
  | .inr y14' =>
    some (y14'.1,y14'.2)
def ub92_:Unit→Option (Bool):=fun _ =>
 (ur3_ ([78,72,76,76,78,78]:Str)).bind fun r1 =>
 (ub0m_ ([(([65]:Str),(([]:List Str),(([120]:Str),((0:Int),(false,(([]:Str),([]:List YY5)))))))]:List YY1)).bind fun r4 =>
 some ((((eqI r1.1 (34:Int))&&(eqI r1.2 (0:Int)))&&(eqI r4.2 (0:Int)))&&(eqI (r4.1.2.1.length:Int) (1:Int)))
def ufr_ (next:(List YY1)×((YY1×YY1)→Option Bool)×(List YY1)×Int×Int→Option YY20):(List YY1)×((YY1×YY1)→Option Bool)×(List YY1)×Int×Int→Option YY20:=fun (s2_1,eq_2,t15,t16,t17) =>
 bif (decide (t17<t16)) then
  (at? t15 t17).bind fun y1 =>
  (at? s2_1 t17).bind fun y2 =>
  (eq_2 (y1,y2)).bind fun r3 =>
  bif (!r3) then
   some (.inr false)
  else
   next (s2_1,eq_2,t15,t16,(IntKind.i64.wrap (t17+(1:Int))))
 else
  some (.inl ())
def uct_:(List YY1)×((YY1×YY1)→Option Bool)×(List YY1)×Int×Int→Option YY20:=loopN ufr_ fuel
def ub3_:(List YY1)×(List YY1)×((YY1×YY1)→Option Bool)→Option (Bool):=fun (s1_0,s2_1,eq_2) =>
 bif (!(eqI (s1_0.length:Int) (s2_1.length:Int))) then
  some false
 else
  (uct_ (s2_1,eq_2,s1_0,(s1_0.length:Int),(0:Int))).bind fun r4 =>
  match r4 with
  | .inl y5 =>
    some true
  | .inr y5' =>
    some y5'
def u2g_ (next:(List Str)×(List Str)×Int×Int→Option YY20):(List Str)×(List Str)×Int×Int→Option YY20:=fun (s1_0,s2_1,t12,t13) =>
 bif (decide (t13<t12)) then
  (at? s1_0 t13).bind fun y1 =>
  (at? s2_1 t13).bind fun y2 =>
  bif (!(eqS y1 y2)) then
   some (.inr false)
  else
   next (s1_0,s2_1,t12,(IntKind.i64.wrap (t13+(1:Int))))
 else
  some (.inl ())
def uq9_:(List Str)×(List Str)×Int×Int→Option YY20:=loopN u2g_ fuel
def uh3_:(List Str)×(List Str)→Option (Bool):=fun (s1_0,s2_1) =>
 bif (!(eqI (s1_0.length:Int) (s2_1.length:Int))) then
  some false
 else
  (uq9_ (s1_0,s2_1,(s1_0.length:Int),(0:Int))).bind fun r3 =>
  match r3 with
  | .inl y4 =>
    some true
  | .inr y4' =>
    some y4'
def ufs_ (next:(List YY5)×((YY5×YY5)→Option Bool)×(List YY5)×Int×Int→Option YY20):(List YY5)×((YY5×YY5)→Option Bool)×(List YY5)×Int×Int→Option YY20:=fun (s2_1,eq_2,t15,t16,t17) =>
 bif (decide (t17<t16)) then
  (at? t15 t17).bind fun y1 =>
  (at? s2_1 t17).bind fun y2 =>
  (eq_2 (y1,y2)).bind fun r3 =>
  bif (!r3) then
   some (.inr false)
  else
   next (s2_1,eq_2,t15,t16,(IntKind.i64.wrap (t17+(1:Int))))
 else
  some (.inl ())
def ucu_:(List YY5)×((YY5×YY5)→Option Bool)×(List YY5)×Int×Int→Option YY20:=loopN ufs_ fuel
def ub4_:(List YY5)×(List YY5)×((YY5×YY5)→Option Bool)→Option (Bool):=fun (s1_0,s2_1,eq_2) =>
 bif (!(eqI (s1_0.length:Int) (s2_1.length:Int))) then
  some false
 else
  (ucu_ (s2_1,eq_2,s1_0,(s1_0.length:Int),(0:Int))).bind fun r4 =>
  match r4 with
  | .inl y5 =>
    some true
  | .inr y5' =>
    some y5'
def uwa_ (next:YY25×YY25×Int×Int→Option YY20):YY25×YY25×Int×Int→Option YY20:=fun (s1_0,s2_1,t12,t13) =>
 bif (decide (t13<t12)) then
  (at? s1_0 t13).bind fun y1 =>
  (at? s2_1 t13).bind fun y2 =>
  bif (!((eqI y1.1 y2.1)&&(eqS y1.2 y2.2))) then
   some (.inr false)
  else
   next (s1_0,s2_1,t12,(IntKind.i64.wrap (t13+(1:Int))))
 else
  some (.inl ())
def umo_:YY25×YY25×Int×Int→Option YY20:=loopN uwa_ fuel
def ukv_:YY25×YY25→Option (Bool):=fun (s1_0,s2_1) =>
 bif (!(eqI (s1_0.length:Int) (s2_1.length:Int))) then
  some false
 else
  (umo_ (s1_0,s2_1,(s1_0.length:Int),(0:Int))).bind fun r3 =>
  match r3 with
  | .inl y4 =>
    some true
  | .inr y4' =>
    some y4'
def ulj_:YY5×YY5→Option (Bool):=fun (a_0,b_1) =>
 (bif ((eqS a_0.1 b_1.1)&&(eqI a_0.2.1 b_1.2.1)) then ukv_ (a_0.2.2.1,b_1.2.2.1) else some false).bind fun r1 =>
 (bif (((eqS a_0.1 b_1.1)&&(eqI a_0.2.1 b_1.2.1))&&r1) then uh3_ (a_0.2.2.2.1,b_1.2.2.2.1) else some false).bind fun r2 =>
 (bif ((((eqS a_0.1 b_1.1)&&(eqI a_0.2.1 b_1.2.1))&&r1)&&r2) then uh3_ (a_0.2.2.2.2,b_1.2.2.2.2) else some false).bind fun r3 =>
 some (((((eqS a_0.1 b_1.1)&&(eqI a_0.2.1 b_1.2.1))&&r1)&&r2)&&r3)
def ub0n_:YY1×YY1→Option (Bool):=fun (a_0,b_1) =>
 (bif (eqS a_0.1 b_1.1) then uh3_ (a_0.2.1,b_1.2.1) else some false).bind fun r1 =>
 let v3:=((((((eqS a_0.1 b_1.1)&&r1)&&(eqS a_0.2.2.1 b_1.2.2.1))&&(eqI a_0.2.2.2.1 b_1.2.2.2.1))&&(eqB a_0.2.2.2.2.1 b_1.2.2.2.2.1))&&(eqS a_0.2.2.2.2.2.1 b_1.2.2.2.2.2.1))
 (bif v3 then ub4_ (a_0.2.2.2.2.2.2,b_1.2.2.2.2.2.2,(fun x=>(ulj_ x).bind fun r=>some r)) else some false).bind fun r4 =>
 some (v3&&r4)
def u4s_ (next:Int×(List Int)→Option (Int×(List Int))):Int×(List Int)→Option (Int×(List Int)):=fun (i_0,t1) =>
 (in? t1.length i_0).bind fun _ =>
 bif (!(eqI (t1.getD i_0.toNat (0:Int)) i_0)) then
  (in? t1.length i_0).bind fun _ =>
  (in? t1.length (t1.getD i_0.toNat (0:Int))).bind fun _ =>
  (in? t1.length i_0).bind fun _ =>
  let v1:=(t1.set i_0.toNat (t1.getD ((t1.getD i_0.toNat (0:Int)).toNat) (0:Int)))
  (in? v1.length i_0).bind fun _ =>
  next ((v1.getD i_0.toNat (0:Int)),v1)
 else
  some (i_0,t1)
def u4t_:Int×(List Int)→Option (Int×(List Int)):=loopN u4s_ fuel
def ugx_:Int×(List Int)→Option (Int×(List Int)):=fun (i_0,t1) =>
 (u4t_ (i_0,t1)).bind fun r2 =>
 some (r2.1,r2.2)
def ubc1_ (next:(List Int)×Int×Int→Option (List Int)):(List Int)×Int×Int→Option (List Int):=fun (first_3,t24,t25) =>
 bif (decide (t25<t24)) then
  (in? first_3.length t25).bind fun _ =>
  next ((first_3.set t25.toNat t25),t24,(IntKind.i64.wrap (t25+(1:Int))))
 else
  some first_3
def u0z_:(List Int)×Int×Int→Option (List Int):=loopN ubc1_ fuel
def ubc2_ (next:(List Int)×YY40×Int×(List Str)×Int×Int→Option ((List Int)×YY40)):(List Int)×YY40×Int×(List Str)×Int×Int→Option ((List Int)×YY40):=fun (first_3,seen_6,i_7,t47,t48,t49) =>
 bif (decide (t49<t48)) then
  (at? t47 t49).bind fun y5 =>
  bif (!(ui5_ eqS y5 seen_6).isSome) then
   next (first_3,(putKV eqS y5 i_7 seen_6),i_7,t47,t48,(IntKind.i64.wrap (t49+(1:Int))))
  else
   (ugx_ (i_7,first_3)).bind fun r6 =>
   (ugx_ (((ui5_ eqS y5 seen_6).getD (0:Int)),r6.2)).bind fun r7 =>
   (in? r7.2.length (maxI r6.1 r7.1)).bind fun _ =>
   next ((r7.2.set ((maxI r6.1 r7.1).toNat) (minI r6.1 r7.1)),seen_6,i_7,t47,t48,(IntKind.i64.wrap (t49+(1:Int))))
 else
  some (first_3,seen_6)
def u00_:(List Int)×YY40×Int×(List Str)×Int×Int→Option ((List Int)×YY40):=loopN ubc2_ fuel
def ubc3_ (next:(List Int)×YY40×(List YY1)×Int×Int→Option (List Int)):(List Int)×YY40×(List YY1)×Int×Int→Option (List Int):=fun (first_3,seen_6,t35,t36,t37) =>
 bif (decide (t37<t36)) then
  (at? t35 t37).bind fun y3 =>
  (app? 24 ([y3.1]:List Str) y3.2.1).bind fun l4 =>
  (u00_ (first_3,seen_6,t37,l4,(l4.length:Int),(0:Int))).bind fun r8 =>
  next (r8.1,r8.2,t35,t36,(IntKind.i64.wrap (t37+(1:Int))))
 else
  some first_3
def u01_:(List Int)×YY40×(List YY1)×Int×Int→Option (List Int):=loopN ubc3_ fuel
def ubc4_ (next:(List Int)×(List YY38)×Int×Int→Option (List YY38)):(List Int)×(List YY38)×Int×Int→Option (List YY38):=fun (first_3,all_15,t82,t83) =>
 bif (decide (t83<t82)) then
  (ugx_ (t83,first_3)).bind fun r10 =>
  (ugx_ (t83,r10.2)).bind fun r11 =>
  (app? 24 ((ui5_ eqI r11.1 all_15).getD ([]:List Int)) ([t83]:List Int)).bind fun l12 =>
  (bif eqI r11.1 r10.1 then some () else none).bind fun _ =>
  next (r11.2,(putKV eqI r10.1 l12 all_15),t82,(IntKind.i64.wrap (t83+(1:Int))))
 else
  some all_15
def u02_:(List Int)×(List YY38)×Int×Int→Option (List YY38):=loopN ubc4_ fuel
def ubc5_ (next:(List YY38)×(List (List Int))×Int×Int→Option (List (List Int))):(List YY38)×(List (List Int))×Int×Int→Option (List (List Int)):=fun (all_15,out_17,t100,t101) =>
 bif (decide (t101<t100)) then
  bif (decide ((0:Int)<(((ui5_ eqI t101 all_15).getD ([]:List Int)).length:Int))) then
   (app? 24 out_17 ([((ui5_ eqI t101 all_15).getD ([]:List Int))]:List (List Int))).bind fun l16 =>
   next (all_15,l16,t100,(IntKind.i64.wrap (t101+(1:Int))))
  else
   next (all_15,out_17,t100,(IntKind.i64.wrap (t101+(1:Int))))
 else
  some out_17
def u03_:(List YY38)×(List (List Int))×Int×Int→Option (List (List Int)):=loopN ubc5_ fuel
def u1z_:List YY1→Option (List (List Int)):=fun l_0 =>
 (mks? 24 (l_0.length:Int) (l_0.length:Int) (0:Int)).bind fun z1 =>
 (u0z_ (z1,(z1.length:Int),(0:Int))).bind fun r2 =>
 (u01_ (r2,([]:List (Str×Int)),l_0,(l_0.length:Int),(0:Int))).bind fun r9 =>
 (u02_ (r9,([]:List YY38),(l_0.length:Int),(0:Int))).bind fun r13 =>
 (u03_ (r13,([]:List (List Int)),(l_0.length:Int),(0:Int))).bind fun r17 =>
 some r17
def ump_:Int×(Option (List Str))×(Option (List YY1))→Option (Int):=fun (i_0,t1,t2) =>
 (t1).bind fun p1 =>
 (t2).bind fun p2 =>
 (at? p2 i_0).bind fun y3 =>
 (uf4_ (p1,y3.2.2.1)).bind fun r4 =>
 bif (decide ((0:Int)≤r4)) then
  some r4
 else
  (t1).bind fun p5 =>
  some (p5.length:Int)
def ubvs_:Unit→Option (List Int):=fun s_0 =>
 some ([]:List Int)
def u04_:List Int→Option (List Int):=fun s_0 =>
 (app? 24 ([]:List Int) s_0).bind fun l1 =>
 some l1
def uxm_:List Int→Option (List Int):=u04_
def ur9_:Int×Int×(Option (Option (Int→Option Int)))×(Option (List YY1))→Option (Int):=fun (i_0,j_1,t2,t3) =>
 (t2).bind fun p1 =>
 (p1.bind (fun F=>F i_0)).bind fun r2 =>
 (t2).bind fun p3 =>
 (p3.bind (fun F=>F j_1)).bind fun r4 =>
 (ui1_ (r2,r4)).bind fun r5 =>
 (t3).bind fun p6 =>
 (at? p6 j_1).bind fun y7 =>
 (t3).bind fun p8 =>
 (at? p8 i_0).bind fun y9 =>
 (ui1_ (y7.2.2.2.1,y9.2.2.2.1)).bind fun r10 =>
 (t3).bind fun p11 =>
 (at? p11 i_0).bind fun y12 =>
 (t3).bind fun p13 =>
 (at? p13 j_1).bind fun y14 =>
 (udj_ (y12.1,y14.1)).bind fun r15 =>
 (ubko_ ([r5,r10,r15]:List Int)).bind fun r16 =>
 some r16
def ukw_ (next:(List Int)×Int×YY12×Int→Option (List Int)):(List Int)×Int×YY12×Int→Option (List Int):=fun (data_0,a_1,cmp_3,j_9) =>
 (bif (decide (a_1<j_9)) then in? data_0.length j_9 else some ()).bind fun _ =>
 (bif (decide (a_1<j_9)) then in? data_0.length (IntKind.i64.wrap (j_9-(1:Int))) else some ()).bind fun _ =>
 (bif (decide (a_1<j_9)) then cmp_3 ((data_0.getD j_9.toNat (0:Int)),(data_0.getD ((IntKind.i64.wrap (j_9-(1:Int))).toNat) (0:Int))) else some (0:Int)).bind fun r2 =>
 bif ((decide (a_1<j_9))&&(decide (r2<(0:Int)))) then
  (in? data_0.length (IntKind.i64.wrap (j_9-(1:Int)))).bind fun _ =>
  let v3:=(data_0.getD ((IntKind.i64.wrap (j_9-(1:Int))).toNat) (0:Int))
  (in? data_0.length j_9).bind fun _ =>
  (in? data_0.length j_9).bind fun _ =>
  (in? (data_0.set j_9.toNat v3).length (IntKind.i64.wrap (j_9-(1:Int)))).bind fun _ =>
  next (((data_0.set j_9.toNat v3).set ((IntKind.i64.wrap (j_9-(1:Int))).toNat) (data_0.getD j_9.toNat (0:Int))),a_1,cmp_3,(IntKind.i64.wrap (j_9-(1:Int))))
 else
  some data_0
def uf6_:(List Int)×Int×YY12×Int→Option (List Int):=loopN ukw_ fuel
def ukx_ (next:(List Int)×Int×Int×YY12×Int→Option (List Int)):(List Int)×Int×Int×YY12×Int→Option (List Int):=fun (data_0,a_1,b_2,cmp_3,i_8) =>
 bif (decide (i_8<b_2)) then
  (uf6_ (data_0,a_1,cmp_3,i_8)).bind fun r5 =>
  next (r5,a_1,b_2,cmp_3,(IntKind.i64.wrap (i_8+(1:Int))))
 else
  some data_0
def uf7_:(List Int)×Int×Int×YY12×Int→Option (List Int):=loopN ukx_ fuel
def ucx_:(List Int)×Int×Int×YY12→Option (List Int):=fun (data_0,a_1,b_2,cmp_3) =>
 (uf7_ (data_0,a_1,b_2,cmp_3,(IntKind.i64.wrap (a_1+(1:Int))))).bind fun r6 =>
 some r6
def uo2_ (next:(List Int)×Int×Int×Int×Int→Option (List Int)):(List Int)×Int×Int×Int×Int→Option (List Int):=fun (data_0,a_1,b_2,n_3,i_10) =>
 bif (decide (i_10<n_3)) then
  (in? data_0.length (IntKind.i64.wrap (b_2+i_10))).bind fun _ =>
  let v1:=(data_0.getD ((IntKind.i64.wrap (b_2+i_10)).toNat) (0:Int))
  (in? data_0.length (IntKind.i64.wrap (a_1+i_10))).bind fun _ =>
  (in? data_0.length (IntKind.i64.wrap (a_1+i_10))).bind fun _ =>
  (in? (data_0.set ((IntKind.i64.wrap (a_1+i_10)).toNat) v1).length (IntKind.i64.wrap (b_2+i_10))).bind fun _ =>
  next (((data_0.set ((IntKind.i64.wrap (a_1+i_10)).toNat) v1).set ((IntKind.i64.wrap (b_2+i_10)).toNat) (data_0.getD ((IntKind.i64.wrap (a_1+i_10)).toNat) (0:Int))),a_1,b_2,n_3,(IntKind.i64.wrap (i_10+(1:Int))))
 else
  some data_0
def uie_:(List Int)×Int×Int×Int×Int→Option (List Int):=loopN uo2_ fuel
def ucz_:(List Int)×Int×Int×Int×YY12→Option (List Int):=fun (data_0,a_1,b_2,n_3,cmp_4) =>
 (uie_ (data_0,a_1,b_2,n_3,(0:Int))).bind fun r4 =>
 some r4
def usu_ (next:(List Int)×Int×YY12×Int×Int→Option YY32):(List Int)×Int×YY12×Int×Int→Option YY32:=fun (data_0,m_2,cmp_4,i_10,j_11) =>
 bif (!(eqI i_10 j_11)) then
  bif (decide (j_11<i_10)) then
   (ucz_ (data_0,(IntKind.i64.wrap (m_2-i_10)),m_2,j_11,cmp_4)).bind fun r1 =>
   next (r1,m_2,cmp_4,(IntKind.i64.wrap (i_10-j_11)),j_11)
  else
   (ucz_ (data_0,(IntKind.i64.wrap (m_2-i_10)),(IntKind.i64.wrap ((IntKind.i64.wrap (m_2+j_11))-i_10)),i_10,cmp_4)).bind fun r2 =>
   next (r2,m_2,cmp_4,i_10,(IntKind.i64.wrap (j_11-i_10)))
 else
  some (data_0,i_10)
def uj3_:(List Int)×Int×YY12×Int×Int→Option YY32:=loopN usu_ fuel
def uis_:(List Int)×Int×Int×Int×YY12→Option (List Int):=fun (data_0,a_1,m_2,b_3,cmp_4) =>
 (uj3_ (data_0,m_2,cmp_4,(IntKind.i64.wrap (m_2-a_1)),(IntKind.i64.wrap (b_3-m_2)))).bind fun r3 =>
 (ucz_ (r3.1,(IntKind.i64.wrap (m_2-r3.2)),m_2,r3.2,cmp_4)).bind fun r4 =>
 some r4
def uqi_ (slf:(List Int)×Int×Int×Int×YY12→Option (List Int)) (next:(List Int)×Int×YY12×Int×Int→Option YY32):(List Int)×Int×YY12×Int×Int→Option YY32:=fun (data_0,a_1,cmp_4,i_10,j_11) =>
 bif (decide (i_10<j_11)) then
  (shr? IntKind.u64 (IntKind.u64.wrap (IntKind.i64.wrap (i_10+j_11))) (1:Int)).bind fun n1 =>
  (in? data_0.length (IntKind.i64.wrap n1)).bind fun _ =>
  (in? data_0.length a_1).bind fun _ =>
  (cmp_4 ((data_0.getD ((IntKind.i64.wrap n1).toNat) (0:Int)),(data_0.getD a_1.toNat (0:Int)))).bind fun r2 =>
  bif (decide (r2<(0:Int))) then
   next (data_0,a_1,cmp_4,(IntKind.i64.wrap ((IntKind.i64.wrap n1)+(1:Int))),j_11)
  else
   next (data_0,a_1,cmp_4,i_10,(IntKind.i64.wrap n1))
 else
  some (data_0,i_10)
def uit_ (slf:(List Int)×Int×Int×Int×YY12→Option (List Int)):(List Int)×Int×YY12×Int×Int→Option YY32:=loopN (uqi_ slf) fuel
def uqj_ (slf:(List Int)×Int×Int×Int×YY12→Option (List Int)) (next:(List Int)×Int×Int→Option (List Int)):(List Int)×Int×Int→Option (List Int):=fun (data_0,i_10,k_13) =>
 bif (decide (k_13<(IntKind.i64.wrap (i_10-(1:Int))))) then
  (in? data_0.length (IntKind.i64.wrap (k_13+(1:Int)))).bind fun _ =>
  let v4:=(data_0.getD ((IntKind.i64.wrap (k_13+(1:Int))).toNat) (0:Int))
  (in? data_0.length k_13).bind fun _ =>
  (in? data_0.length k_13).bind fun _ =>
  (in? (data_0.set k_13.toNat v4).length (IntKind.i64.wrap (k_13+(1:Int)))).bind fun _ =>
  next (((data_0.set k_13.toNat v4).set ((IntKind.i64.wrap (k_13+(1:Int))).toNat) (data_0.getD k_13.toNat (0:Int))),i_10,(IntKind.i64.wrap (k_13+(1:Int))))
 else
  some data_0
def uiu_ (slf:(List Int)×Int×Int×Int×YY12→Option (List Int)):(List Int)×Int×Int→Option (List Int):=loopN (uqj_ slf) fuel
def uqk_ (slf:(List Int)×Int×Int×Int×YY12→Option (List Int)) (next:(List Int)×Int×YY12×Int×Int→Option YY32):(List Int)×Int×YY12×Int×Int→Option YY32:=fun (data_0,m_2,cmp_4,i_14,j_15) =>
 bif (decide (i_14<j_15)) then
  (shr? IntKind.u64 (IntKind.u64.wrap (IntKind.i64.wrap (i_14+j_15))) (1:Int)).bind fun n7 =>
  (in? data_0.length m_2).bind fun _ =>
  (in? data_0.length (IntKind.i64.wrap n7)).bind fun _ =>
  (cmp_4 ((data_0.getD m_2.toNat (0:Int)),(data_0.getD ((IntKind.i64.wrap n7).toNat) (0:Int)))).bind fun r8 =>
  bif (!(decide (r8<(0:Int)))) then
   next (data_0,m_2,cmp_4,(IntKind.i64.wrap ((IntKind.i64.wrap n7)+(1:Int))),j_15)
  else
   next (data_0,m_2,cmp_4,i_14,(IntKind.i64.wrap n7))
 else
  some (data_0,i_14)
def uiv_ (slf:(List Int)×Int×Int×Int×YY12→Option (List Int)):(List Int)×Int×YY12×Int×Int→Option YY32:=loopN (uqk_ slf) fuel
def uo3_ (slf:(List Int)×Int×Int×Int×YY12→Option (List Int)) (next:(List Int)×Int×Int→Option (List Int)):(List Int)×Int×Int→Option (List Int):=fun (data_0,i_14,k_17) =>
 bif (decide (i_14<k_17)) then
  (in? data_0.length (IntKind.i64.wrap (k_17-(1:Int)))).bind fun _ =>
  let v10:=(data_0.getD ((IntKind.i64.wrap (k_17-(1:Int))).toNat) (0:Int))
  (in? data_0.length k_17).bind fun _ =>
  (in? data_0.length k_17).bind fun _ =>
  (in? (data_0.set k_17.toNat v10).length (IntKind.i64.wrap (k_17-(1:Int)))).bind fun _ =>
  next (((data_0.set k_17.toNat v10).set ((IntKind.i64.wrap (k_17-(1:Int))).toNat) (data_0.getD k_17.toNat (0:Int))),i_14,(IntKind.i64.wrap (k_17-(1:Int))))
 else
  some data_0
def uif_ (slf:(List Int)×Int×Int×Int×YY12→Option (List Int)):(List Int)×Int×Int→Option (List Int):=loopN (uo3_ slf) fuel
def ues_ (slf:(List Int)×Int×Int×Int×YY12→Option (List Int)):Int×Int×Int×Int×Int×Bool→Option (Int×Int):=fun (a_1,m_2,b_3,mid_18,n_19,t140) =>
 bif t140 then
  some ((IntKind.i64.wrap (n_19-b_3)),mid_18)
 else
  some (a_1,m_2)
def uo4_ (slf:(List Int)×Int×Int×Int×YY12→Option (List Int)) (next:(List Int)×YY12×Int×Int×Int→Option YY32):(List Int)×YY12×Int×Int×Int→Option YY32:=fun (data_0,cmp_4,start_20,r_21,p_22) =>
 bif (decide (start_20<r_21)) then
  (shr? IntKind.u64 (IntKind.u64.wrap (IntKind.i64.wrap (start_20+r_21))) (1:Int)).bind fun n16 =>
  (in? data_0.length (IntKind.i64.wrap (p_22-(IntKind.i64.wrap n16)))).bind fun _ =>
  (in? data_0.length (IntKind.i64.wrap n16)).bind fun _ =>
  (cmp_4 ((data_0.getD ((IntKind.i64.wrap (p_22-(IntKind.i64.wrap n16))).toNat) (0:Int)),(data_0.getD ((IntKind.i64.wrap n16).toNat) (0:Int)))).bind fun r18 =>
  bif (!(decide (r18<(0:Int)))) then
   next (data_0,cmp_4,(IntKind.i64.wrap ((IntKind.i64.wrap n16)+(1:Int))),r_21,p_22)
  else
   next (data_0,cmp_4,start_20,(IntKind.i64.wrap n16),p_22)
 else
  some (data_0,start_20)
def uig_ (slf:(List Int)×Int×Int×Int×YY12→Option (List Int)):(List Int)×YY12×Int×Int×Int→Option YY32:=loopN (uo4_ slf) fuel
def uet_ (slf:(List Int)×Int×Int×Int×YY12→Option (List Int)):(List Int)×Int×YY12×Int×Int×Bool→Option (List Int):=fun (data_0,m_2,cmp_4,start_20,end_24,t185) =>
 bif t185 then
  (uis_ (data_0,start_20,m_2,end_24,cmp_4)).bind fun r21 =>
  some r21
 else
  some data_0
def ueu_ (slf:(List Int)×Int×Int×Int×YY12→Option (List Int)):(List Int)×Int×YY12×Int×Int×Bool→Option (List Int):=fun (data_0,a_1,cmp_4,mid_18,start_20,t199) =>
 bif t199 then
  (slf (data_0,a_1,start_20,mid_18,cmp_4)).bind fun r24 =>
  some r24
 else
  some data_0
def uhf_ (slf:(List Int)×Int×Int×Int×YY12→Option (List Int)):(List Int)×Int×Int×Int×YY12→Option (List Int):=fun (data_0,a_1,m_2,b_3,cmp_4) =>
 bif (eqI (IntKind.i64.wrap (m_2-a_1)) (1:Int)) then
  ((uit_ slf) (data_0,a_1,cmp_4,m_2,b_3)).bind fun r3 =>
  ((uiu_ slf) (r3.1,r3.2,a_1)).bind fun r6 =>
  some r6
 else
  bif (eqI (IntKind.i64.wrap (b_3-m_2)) (1:Int)) then
   ((uiv_ slf) (data_0,m_2,cmp_4,a_1,m_2)).bind fun r9 =>
   ((uif_ slf) (r9.1,r9.2,m_2)).bind fun r12 =>
   some r12
  else
   (shr? IntKind.u64 (IntKind.u64.wrap (IntKind.i64.wrap (a_1+b_3))) (1:Int)).bind fun n13 =>
   ((ues_ slf) (a_1,m_2,b_3,(IntKind.i64.wrap n13),(IntKind.i64.wrap ((IntKind.i64.wrap n13)+m_2)),(decide ((IntKind.i64.wrap n13)<m_2)))).bind fun r14 =>
   ((uig_ slf) (data_0,cmp_4,r14.1,r14.2,(IntKind.i64.wrap ((IntKind.i64.wrap ((IntKind.i64.wrap n13)+m_2))-(1:Int))))).bind fun r19 =>
   let v20:=(IntKind.i64.wrap ((IntKind.i64.wrap ((IntKind.i64.wrap n13)+m_2))-r19.2))
   ((uet_ slf) (r19.1,m_2,cmp_4,r19.2,v20,((decide (r19.2<m_2))&&(decide (m_2<v20))))).bind fun r22 =>
   ((ueu_ slf) (r22,a_1,cmp_4,(IntKind.i64.wrap n13),r19.2,((decide (a_1<r19.2))&&(decide (r19.2<(IntKind.i64.wrap n13)))))).bind fun r25 =>
   bif ((decide ((IntKind.i64.wrap n13)<v20))&&(decide (v20<b_3))) then
    (slf (r25,(IntKind.i64.wrap n13),v20,b_3,cmp_4)).bind fun r27 =>
    some r27
   else
    some r25
def u5_:Nat→(List Int)×Int×Int×Int×YY12→Option (List Int)
 | 0=>fun _=>none
 | n+1=>uhf_ (u5_ n)
def ueo_:(List Int)×Int×Int×Int×YY12→Option (List Int):=u5_ 100
def usv_ (next:(List Int)×Int×YY12×Int×Int×Int→Option YY32):(List Int)×Int×YY12×Int×Int×Int→Option YY32:=fun (data_0,n_1,cmp_2,blockSize_6,a_7,b_8) =>
 bif (decide (b_8≤n_1)) then
  (ucx_ (data_0,a_7,b_8,cmp_2)).bind fun r1 =>
  next (r1,n_1,cmp_2,blockSize_6,b_8,(IntKind.i64.wrap (b_8+blockSize_6)))
 else
  some (data_0,a_7)
def uj4_:(List Int)×Int×YY12×Int×Int×Int→Option YY32:=loopN usv_ fuel
def usw_ (next:(List Int)×Int×YY12×Int×Int×Int→Option YY32):(List Int)×Int×YY12×Int×Int×Int→Option YY32:=fun (data_0,n_1,cmp_2,blockSize_6,a_7,b_8) =>
 bif (decide (b_8≤n_1)) then
  (ueo_ (data_0,a_7,(IntKind.i64.wrap (a_7+blockSize_6)),b_8,cmp_2)).bind fun r4 =>
  next (r4,n_1,cmp_2,blockSize_6,b_8,(IntKind.i64.wrap (b_8+(IntKind.i64.wrap ((2:Int)*blockSize_6)))))
 else
  some (data_0,a_7)
def uj5_:(List Int)×Int×YY12×Int×Int×Int→Option YY32:=loopN usw_ fuel
def usx_ (next:(List Int)×Int×YY12×Int→Option (List Int)):(List Int)×Int×YY12×Int→Option (List Int):=fun (data_0,n_1,cmp_2,blockSize_6) =>
 bif (decide (blockSize_6<n_1)) then
  (uj5_ (data_0,n_1,cmp_2,blockSize_6,(0:Int),(IntKind.i64.wrap ((2:Int)*blockSize_6)))).bind fun r6 =>
  bif (decide ((IntKind.i64.wrap (r6.2+blockSize_6))<n_1)) then
   (ueo_ (r6.1,r6.2,(IntKind.i64.wrap (r6.2+blockSize_6)),n_1,cmp_2)).bind fun r7 =>
   next (r7,n_1,cmp_2,(IntKind.i64.wrap (blockSize_6*(2:Int))))
  else
   next (r6.1,n_1,cmp_2,(IntKind.i64.wrap (blockSize_6*(2:Int))))
 else
  some data_0
def uj6_:(List Int)×Int×YY12×Int→Option (List Int):=loopN usx_ fuel
def uiw_:(List Int)×Int×YY12→Option (List Int):=fun (data_0,n_1,cmp_2) =>
 (uj4_ (data_0,n_1,cmp_2,(20:Int),(0:Int),(20:Int))).bind fun r2 =>
 (ucx_ (r2.1,r2.2,n_1,cmp_2)).bind fun r3 =>
 (uj6_ (r3,n_1,cmp_2,(20:Int))).bind fun r8 =>
 some r8
def uh4_:(List Int)×YY12→Option (List Int):=fun (x_0,cmp_1) =>
 (uiw_ (x_0,(x_0.length:Int),cmp_1)).bind fun r1 =>
 some r1
def u10_:(List YY1)×(List Int)×(List Str)→Option (List Int):=fun (l_0,group_1,sources_2) =>
 (uxm_ group_1).bind fun r2 =>
 (uh4_ (r2,(fun x=>(ur9_ (x.1,x.2,(some (some (fun x=>(ump_ (x,(some sources_2),(some l_0))).bind fun r=>some r))),(some l_0))).bind fun r=>some r))).bind fun r3 =>
 some r3
def uhg_ (next:Str×(List Str)×Int×Int→Option (Sum (Unit) Str)):Str×(List Str)×Int×Int→Option (Sum (Unit) Str):=fun (zero_3,t6,t7,t8) =>
 bif (decide (t8<t7)) then
  (at? t6 t8).bind fun y1 =>
  bif (!(eqS y1 zero_3)) then
   some (.inr y1)
  else
   next (zero_3,t6,t7,(IntKind.i64.wrap (t8+(1:Int))))
 else
  some (.inl ())
def u60_:Str×(List Str)×Int×Int→Option (Sum (Unit) Str):=loopN uhg_ fuel
def ubae_:List Str→Option Str:=fun vals_0 =>
 (u60_ (([]:Str),vals_0,(vals_0.length:Int),(0:Int))).bind fun r2 =>
 match r2 with
 | .inl y3 =>
   some ([]:Str)
 | .inr y3' =>
   some y3'
def ubp2_ (next:(List YY1)×YY1×(List Str)×(List Int)×Int×Int→Option (YY1×(List Str))):(List YY1)×YY1×(List Str)×(List Int)×Int×Int→Option (YY1×(List Str)):=fun (l_0,out_9,names_10,t25,t26,t27) =>
 bif (decide (t27<t26)) then
  (at? t25 t27).bind fun y5 =>
  (at? l_0 y5).bind fun y6 =>
  (ubae_ ([out_9.2.2.2.2.2.1,y6.2.2.2.2.2.1]:List Str)).bind fun r7 =>
  (at? l_0 y5).bind fun y8 =>
  (app? 24 names_10 ([y8.1]:List Str)).bind fun l9 =>
  (at? l_0 y5).bind fun y10 =>
  (app? 24 l9 y10.2.1).bind fun l11 =>
  next (l_0,(out_9.1,(out_9.2.1,(out_9.2.2.1,(out_9.2.2.2.1,(out_9.2.2.2.2.1,(r7,out_9.2.2.2.2.2.2)))))),l11,t25,t26,(IntKind.i64.wrap (t27+(1:Int))))
 else
  some (out_9,names_10)
def ubbi_:(List YY1)×YY1×(List Str)×(List Int)×Int×Int→Option (YY1×(List Str)):=loopN ubp2_ fuel
def ubfh_:(List YY1)×(List Int)×(List Str)→Option (YY1×Bool):=fun (l_0,group_1,sources_2) =>
 (u10_ (l_0,group_1,sources_2)).bind fun r1 =>
 (at? r1 (0:Int)).bind fun y2 =>
 (at? l_0 y2).bind fun y3 =>
 (uue_ y3).bind fun r4 =>
 (ubbi_ (l_0,(r4.1,(r4.2.1,(r4.2.2.1,(r4.2.2.2.1,(r4.2.2.2.2.1,(([]:Str),r4.2.2.2.2.2.2)))))),([]:List Str),r1,(r1.length:Int),(0:Int))).bind fun r12 =>
 (slices_Sort_string r12.2).bind fun r13 =>
 (slices_Compact_string r13).bind fun r14 =>
 (unu_ (r14,r12.1)).bind fun r15 =>
 some ((r12.1.1,(r15,r12.1.2.2)),(decide ((r15.length:Int)≤(20:Int))))
def ubhs_ (next:(List YY1)×(List Str)×(List YY1)×(List (List Int))×Int×Int→Option (Sum (List YY1) ((List YY1)×Int))):(List YY1)×(List Str)×(List YY1)×(List (List Int))×Int×Int→Option (Sum (List YY1) ((List YY1)×Int)):=fun (l_0,sources_1,out_7,t18,t19,t20) =>
 bif (decide (t20<t19)) then
  (at? t18 t20).bind fun y3 =>
  (ubfh_ (l_0,y3,sources_1)).bind fun r4 =>
  bif (!r4.2) then
   some (.inr (([]:List YY1),(3:Int)))
  else
   (app? 168 out_7 ([r4.1]:List YY1)).bind fun l6 =>
   next (l_0,sources_1,l6,t18,t19,(IntKind.i64.wrap (t20+(1:Int))))
 else
  some (.inl out_7)
def u3w_:(List YY1)×(List Str)×(List YY1)×(List (List Int))×Int×Int→Option (Sum (List YY1) ((List YY1)×Int)):=loopN ubhs_ fuel
def uxn_:(List YY1)×(List Str)→Option ((List YY1)×Int):=fun (l_0,sources_1) =>
 (umn_ l_0).bind fun r1 =>
 bif (!(eqI r1 (0:Int))) then
  some (([]:List YY1),r1)
 else
  (u1z_ l_0).bind fun r2 =>
  (u3w_ (l_0,sources_1,([]:List YY1),r2,(r2.length:Int),(0:Int))).bind fun r7 =>
  match r7 with
  | .inl y8 =>
    (ufx_ (y8,(fun x=>(u2f_ x).bind fun r=>some r))).bind fun r9 =>
    some (r9,(0:Int))
  | .inr y8' =>
    some (y8'.1,y8'.2)
def uuf_ (next:Str×Int×(List YY1)×Int×Int→Option (Int)):Str×Int×(List YY1)×Int×Int→Option (Int):=fun (n_12,many_13,t56,t57,t58) =>
 bif (decide (t58<t57)) then
  (at? t56 t58).bind fun y8 =>
  (bif (!(eqS y8.1 n_12)) then ud3_ (y8.2.1,n_12) else some false).bind fun r9 =>
  bif ((eqS y8.1 n_12)||r9) then
   next (n_12,(IntKind.i64.wrap (many_13+(1:Int))),t56,t57,(IntKind.i64.wrap (t58+(1:Int))))
  else
   next (n_12,many_13,t56,t57,(IntKind.i64.wrap (t58+(1:Int))))
 else
  some many_13
def ulk_:Str×Int×(List YY1)×Int×Int→Option (Int):=loopN uuf_ fuel
def uug_ (next:(List YY1)×(List Str)×Int×Int→Option YY20):(List YY1)×(List Str)×Int×Int→Option YY20:=fun (x_5,t50,t51,t52) =>
 bif (decide (t52<t51)) then
  (at? t50 t52).bind fun y7 =>
  (ulk_ (y7,(0:Int),x_5,(x_5.length:Int),(0:Int))).bind fun r10 =>
  bif (!(eqI r10 (1:Int))) then
   some (.inr false)
  else
   next (x_5,t50,t51,(IntKind.i64.wrap (t52+(1:Int))))
 else
  some (.inl ())
def ull_:(List YY1)×(List Str)×Int×Int→Option YY20:=loopN uug_ fuel
def uuh_ (next:(List YY1)×(List YY1)×Int×Int→Option YY20):(List YY1)×(List YY1)×Int×Int→Option YY20:=fun (x_5,t39,t40,t41) =>
 bif (decide (t41<t40)) then
  (at? t39 t41).bind fun y5 =>
  (app? 24 ([y5.1]:List Str) y5.2.1).bind fun l6 =>
  (ull_ (x_5,l6,(l6.length:Int),(0:Int))).bind fun r11 =>
  match r11 with
  | .inl y12 =>
    next (x_5,t39,t40,(IntKind.i64.wrap (t41+(1:Int))))
  | .inr y12' =>
    some (.inr y12')
 else
  some (.inl ())
def ulm_:(List YY1)×(List YY1)×Int×Int→Option YY20:=loopN uuh_ fuel
def ujr_:(List YY1)×(List Str)→Option (Bool):=fun (l_0,sources_1) =>
 (uxn_ (l_0,sources_1)).bind fun r1 =>
 bif (!(eqI r1.2 (0:Int))) then
  (ub92_ ()).bind fun r2 =>
  some r2
 else
  (uxn_ (r1.1,sources_1)).bind fun r3 =>
  (bif (!(!(eqI r3.2 (0:Int)))) then ub3_ (r1.1,r3.1,(fun x=>(ub0n_ x).bind fun r=>some r)) else some false).bind fun r4 =>
  bif ((!(eqI r3.2 (0:Int)))||(!r4)) then
   some false
  else
   (ulm_ (r1.1,l_0,(l_0.length:Int),(0:Int))).bind fun r13 =>
   match r13 with
   | .inl y14 =>
     (ub92_ ()).bind fun r15 =>
     some r15
   | .inr y14' =>
     some y14'
end
end Go.Ev.Pv
