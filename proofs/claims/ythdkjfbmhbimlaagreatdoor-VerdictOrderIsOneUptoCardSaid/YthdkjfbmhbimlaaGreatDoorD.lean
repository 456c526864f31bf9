/-
  The program's functions as plain Lean functions (printed by a program of the author's from the translation).
-/
import Derived.Test.YthdkjfbmhbimlaaGreatDoorE4
import Derived.Lib.AtoiAll
import Derived.Lib.ItoaNum
import Derived.Lib.Strings
import Derived.Lib.Join
import Derived.Lib.Split
import Derived.Lib.Repeat
import Derived.Lib.FieldsP
import Derived.Lib.MapU
import Derived.Lib.LastIndexByte
import Derived.Lib.Bytealg
import Derived.Lib.IndexMore
import Derived.Lib.CountLaws
import Derived.Lib.BitFns
import Derived.Sort.Defs
set_option linter.unusedVariables false
set_option linter.unusedSimpArgs false
set_option linter.unusedSectionVars false
set_option maxRecDepth 100000
namespace Go.Ev.Pv
def fuel:Nat:=18446744073709551616
end Go.Ev.Pv
namespace Go.Ev.Pv
def str? (s:Str):Option Str:=bif decide (s.length≤281474976710656) then some s else none
theorem str?_some {s r:Str} (h:str? s=some r):r=s∧s.length≤281474976710656:=by
 unfold str? at h
 cases hd:decide (s.length≤281474976710656) with
 | false=>rw [hd] at h; cases h
 | true=>rw [hd] at h; cases h; exact ⟨rfl,of_decide_eq_true hd⟩
def ifB {α:Type} (c:Prop) [Decidable c] (x:Option α):Option α:=bif decide c then x else none
theorem u5l_ {α:Type} {c:Prop} {_:Decidable c} {x:Option α} {r:α} (h:ifB c x=some r):c∧x=some r:=by
 unfold ifB at h
 cases hd:decide c with
 | false=>rw [hd] at h; cases h
 | true=>rw [hd] at h; exact ⟨of_decide_eq_true hd,h⟩
def decS:Nat→Nat→Str
 | 0,_=>[]
 | k+1,u=>if u<10 then [UInt8.ofNat (48+u)] else decS k (u / 10)++[UInt8.ofNat (48+u % 10)]
theorem ucai_:∀ (k u:Nat),u<10 ^ k→1≤k→decS k u=Lib.decDigits u:=by
 intro k
 induction k with
 | zero=>intro u _ h; omega
 | succ k ih =>
   intro u hu _
   rw [Lib.decDigits]
   simp only [decS]
   by_cases h:u<10
   · rw [if_pos h,dif_pos h]
   · rw [if_neg h,dif_neg h]
     have hk:1≤k:=by
      rcases k with _ | k
      · simp at hu; omega
      · omega
     rw [ih (u / 10) (by rw [Nat.pow_succ] at hu; omega) hk]
def itoaS (n:Int):Str:=if n<0 then 45::decS 20 n.natAbs else decS 20 n.toNat
theorem ucbz_ {n:Int} (h0:-9223372036854775808≤n) (h1:n≤9223372036854775807):itoaS n=Lib.itoa n:=by
 unfold itoaS Lib.itoa
 rw [ucai_ 20 n.natAbs (by omega) (by decide),ucai_ 20 n.toNat (by omega) (by decide)]
theorem ub6r_:∀ (k u:Nat),(decS k u).length≤k:=by
 intro k
 induction k with
 | zero=>intro u; exact Nat.le_refl _
 | succ k ih =>
   intro u
   simp only [decS]
   split
   · simp
   · have:=ih (u / 10); simp only [List.length_append,List.length_cons,List.length_nil]; omega
theorem ub89_ (n:Int):(itoaS n).length≤21:=by
 unfold itoaS
 split
 · have:=ub6r_ 20 n.natAbs; simp only [List.length_cons]; omega
 · have:=ub6r_ 20 n.toNat; omega
def strings_Join:(List (List UInt8))×(List UInt8)→Option (List UInt8):=fun x=>ifB (x.1.length≤140737488355328∧(Lib.join x.1 x.2).length≤140737488355328) (some (Lib.join x.1 x.2))
def u5m_:List UInt8→Option (List UInt8):=fun s=>ifB (s.length<35184372088832) (str? (Lib.toLowerD s))
def strconv_Itoa:Int→Option (List UInt8):=fun n=>some (itoaS n)
def strings_IndexByte:(List UInt8)×Int→Option (Int):=fun x=>ifB (x.1.length<4611686018427387904) (some (Lib.indexByte x.1 x.2.toNat.toUInt8))
def strings_LastIndexByte:(List UInt8)×Int→Option (Int):=fun x=>ifB (x.1.length<4611686018427387904) (some (Lib.lastIndexByte ⟨x.1.toArray⟩ x.2))
def strings_Cut:(List UInt8)×(List UInt8)→Option ((List UInt8)×(List UInt8)×Bool):=fun x=>ifB (x.1.length<4294967281) (some (Lib.cut x.1 x.2))
def strings_Repeat:(List UInt8)×Int→Option (List UInt8):=fun x=>ifB (0≤x.2∧x.1.length*x.2.toNat≤140737488355328) (some (Lib.repeatL x.1 x.2.toNat))
def strings_Split:(List UInt8)×(List UInt8)→Option (List (List UInt8)):=fun x =>
 ifB (x.1.length<4294967281∧1≤x.2.length) (some ((Lib.splitB ⟨x.2.toArray⟩ 0 (Lib.countB ⟨x.1.toArray⟩ ⟨x.2.toArray⟩) ⟨x.1.toArray⟩).map fun b=>b.data.toList))
def ubsp_:List UInt8→Option (Int×Unit):=fun s=>ifB (s.length≤281474976710656) (match Lib.atoiAll s with
 | .ok v=>some (v,())
 | .range=>some (Lib.atoiSat s,())
 | _=>some (0,()))
noncomputable def uof_:(List UInt8)×(Int→Option Bool)→Option (List (List UInt8)):=fun x =>
 @ifB _ (x.1.length≤4294967296∧(∀ r:Nat,r≤1114111→∃ b,x.2 (r:Int)=some b)∧(Lib.goFieldsP (fun r=>(x.2 (r:Int)).getD false) ⟨x.1.toArray⟩).length≤281474976710656) (Classical.propDecidable _) (some ((Lib.goFieldsP (fun r=>(x.2 (r:Int)).getD false) ⟨x.1.toArray⟩).map fun b=>b.data.toList))
def strings_HasPrefix:(List UInt8)×(List UInt8)→Option (Bool):=fun x=>some (Lib.hasPrefix x.1 x.2)
def strings_TrimPrefix:(List UInt8)×(List UInt8)→Option (List UInt8):=fun x=>some (Lib.trimPrefix x.1 x.2)
def strings_CutPrefix:(List UInt8)×(List UInt8)→Option ((List UInt8)×Bool):=fun x=>some (Lib.trimPrefix x.1 x.2,Lib.hasPrefix x.1 x.2)
def ujm_:List Int→Option (List Int):=fun xs=>some xs
def ub0_:List Int→Option (List UInt8):=fun xs=>some (strOf xs)
section
variable {T:Type}
def cfAt (xs:List T) (F:T×T→Option Int) (i j:Fin xs.length):Int:=(F (xs.get i,xs.get j)).getD 0
def ltAt (xs:List T) (F:T×T→Option Int) (i j:Fin xs.length):Bool:=decide (cfAt xs F i j<0)
def ubsq_ (xs:List T) (F:T×T→Option Int):Prop :=
 (∀ i j:Fin xs.length,(F (xs.get i,xs.get j)).isSome=true)∧(∀ i:Fin xs.length,ltAt xs F i i=false) ∧
 (∀ i j k:Fin xs.length,ltAt xs F i j=true→ltAt xs F j k=true→ltAt xs F i k=true)∧(∀ i j k:Fin xs.length,ltAt xs F i j=false→ltAt xs F j k=false→ltAt xs F i k=false)
instance {xs:List T} {F:T×T→Option Int}:Decidable (ubsq_ xs F):=by unfold ubsq_; infer_instance
def insS {α:Type} [Inhabited α] (lt:α→α→Bool):Nat→Nat→Array α→Array α
 | 0,_,d=>d
 | n+1,i,d=>insS lt n (i+1) (Sort.insInner lt 0 i d)
theorem ucdn_ {α:Type} [Inhabited α] (lt:α→α→Bool):∀ (n i:Nat) (d:Array α),Sort.insOuter lt 0 (i+n) i d=insS lt n i d:=by
 intro n
 induction n with
 | zero=>intro i d; rw [Sort.insOuter,if_neg (by omega)]; rfl
 | succ n ih=>intro i d; rw [Sort.insOuter,if_pos (by omega),show i+(n+1)=(i+1)+n by omega,ih]; rfl
def ubiy_ (xs:List T) (F:T×T→Option Int) (h:0<xs.length):Array (Fin xs.length) :=
 haveI:Inhabited (Fin xs.length):=⟨⟨0,h⟩⟩
 if xs.length≤12 then insS (ltAt xs F) (xs.length-1) 1 (Array.ofFn id) else Sort.pdq (ltAt xs F) (Array.ofFn id) 0 xs.length (Lib.bitLen xs.length) true true
theorem ub9a_ {α:Type} [Inhabited α] (lt:α→α→Bool) (d:Array α) (n lim:Nat) (h:0<n) (h12:n≤12):Sort.pdq lt d 0 n lim true true=insS lt (n-1) 1 d:=by
 rw [Sort.pdq,if_pos (by omega),Sort.insertionSort]
 have:=ucdn_ lt (n-1) 1 d
 rw [show 1+(n-1)=n by omega] at this
 exact this
theorem ub21_ (xs:List T) (F:T×T→Option Int) (h:0<xs.length) :
 ubiy_ xs F h = @Sort.pdq _ ⟨⟨0,h⟩⟩ (ltAt xs F) (Array.ofFn id) 0 xs.length (Lib.bitLen xs.length) true true:=by
 unfold ubiy_
 split
 · rename_i h12
   exact (@ub9a_ _ ⟨⟨0,h⟩⟩ (ltAt xs F) (Array.ofFn id) xs.length _ h h12).symm
 · rfl
def ubuo_ (xs:List T) (F:T×T→Option Int):Option (List T) :=
 if h:0<xs.length then ifB (ubsq_ xs F) (some ((ubiy_ xs F h).toList.map xs.get)) else some []
end
def uku_:(List ((Int×(List UInt8)×Bool×(List UInt8))×(Int×(List UInt8)×Bool×(List UInt8))))×((((Int×(List UInt8)×Bool×(List UInt8))×(Int×(List UInt8)×Bool×(List UInt8)))×((Int×(List UInt8)×Bool×(List UInt8))×(Int×(List UInt8)×Bool×(List UInt8))))→Option Int)→Option (List ((Int×(List UInt8)×Bool×(List UInt8))×(Int×(List UInt8)×Bool×(List UInt8)))):=fun v=>ubuo_ v.1 v.2
end Go.Ev.Pv
namespace Go.Ev.Pv
def ums_:(List (Int×Int))×(((Int×Int)×(Int×Int))→Option Int)→Option (List (Int×Int)):=fun x=>ubuo_ x.1 x.2
end Go.Ev.Pv
namespace Go.Ev.Pv
def uda_:(List ((List UInt8)×(List UInt8)×Int))×((((List UInt8)×(List UInt8)×Int)×((List UInt8)×(List UInt8)×Int))→Option Int)→Option (List ((List UInt8)×(List UInt8)×Int)):=fun x=>ubuo_ x.1 x.2
end Go.Ev.Pv
namespace Go.Ev.Pv
noncomputable section
abbrev YY10:=(List (Str×Str))
abbrev YY31:=(Str×Str×Str×Str×YY10×Str)
abbrev YY2:=(Str×YY31×YY10×Str×(List Str))
abbrev YY12:=(Str×Str×Int)
abbrev YY9:=(Str×Str×Str×(List YY2)×(List YY12))
abbrev YY44:=(List (Int×Str))
abbrev YY14:=(Str×Int×YY44×(List Str)×(List Str))
abbrev YY3:=(Str×(List Str)×Str×Int×Bool×Str×(List YY14))
abbrev YY41:=(Int×(List YY3)×(List Int))
abbrev YY48:=(List (Str×Str×(List (Int×Str×Str×Str))×(List Str)))
abbrev YY17:=((List (Str×(List Str)))×(List (Str×YY10))×YY48×(List Str))
abbrev YY29:=(Str×Str×Str×Int×Int×Int×Int)
abbrev YY4:=(YY9×Int×YY41×(List YY17)×Int×(List Str)×(List YY29))
abbrev YY1:=(YY4×(List (Str×YY3))×(List (Str×YY2))×(List (Str×Bool))×(List (YY12×Bool)))
abbrev YY30:=(Str×(List ((Str×Int)×Str))×YY10)
abbrev YY5:=(Str×Str×Int×Int×Int×(List Str)×Str×(List YY30)×Int)
abbrev YY6:=(Int×Str×Str×Int)
abbrev YY43:=(Int×Str×Bool×Str)
abbrev YY7:=(YY43×YY43)
abbrev YY46:=(Bool×Bool×Str)
abbrev YY8:=(YY46×YY46)
abbrev YY50:=((List Int)×(List Str))
abbrev YY19:=(Int×(List Int)×Int×Int×Int×Int×(List Str))
abbrev YY34:=(Bool×Str×Int)
abbrev YY11:=(Sum YY50 (Sum (Int×Str×Str×Bool) (Sum YY19 (Sum (List YY34) (Sum Int Unit)))))
abbrev YY13:=(((Str×Str)×(Str×Str))→Option Int)
abbrev YY15:=(YY4×((List (Str×YY3))×((List (Str×YY2))×((List (Str×Bool))×(List (YY12×Bool))))))
abbrev YY16:=((Int×Int)→Option Int)
abbrev YY18:=((YY6×YY6)→Option Int)
abbrev YY20:=(Str×Int×Int)
abbrev YY21:=((Option YY1)×(YY12×(YY3×(YY2×((List Str)×(Int×(List Str)))))))
abbrev YY22:=(Int×Int→Option Int)
abbrev YY23:=((Option YY1)×YY12×YY3×YY2×(List Str)×Int×(List Str))
abbrev YY24:=(Sum (Unit) (Int))
abbrev YY25:=(Str×(Str×(Str×(Str×(YY10×Str)))))
abbrev YY26:=(Int×(List YY8))
abbrev YY27:=(List (List Int))
abbrev YY28:=(Sum (Unit) (Bool))
abbrev YY32:=(Bool×(List (Str×Bool)))
abbrev YY33:=(Str×Str×Int×Int×Int)
abbrev YY35:=(List (YY12×Int))
abbrev YY36:=(YY9×(Int×(YY27×YY27)))
abbrev YY37:=((List Int)×Int)
abbrev YY38:=(List (Int×Int))
abbrev YY39:=((List YY6)×Int)
abbrev YY40:=(YY9×Int×YY27×YY27)
abbrev YY42:=((List Str)×Bool)
abbrev YY45:=(Str×Int×Bool×Bool×Int)
abbrev YY47:=(Int×(Option (YY23→Option Bool)))
abbrev YY49:=(Int→Option Bool)
abbrev YY51:=(List (Str×(List Int)))
abbrev YY52:=(List (Str×Int))
def ukw_:Str×Str×Int×Int×Int×(List Str)×Str×(List YY30)×Int→Option (Int):=fun f_0 =>
 bif ((decide (f_0.2.2.2.1<(1:Int)))||(decide ((6:Int)<f_0.2.2.2.1))) then
  some (7:Int)
 else
  bif ((decide (f_0.2.2.2.2.1<(0:Int)))||(decide ((100:Int)<f_0.2.2.2.2.1))) then
   some (9:Int)
  else
   some (0:Int)
def uc5_ (next:(List YY5)×Int×Int→Option YY24):(List YY5)×Int×Int→Option YY24:=fun (t9,t10,t11) =>
 bif (decide (t11<t10)) then
  (at? t9 t11).bind fun y1 =>
  (ukw_ y1).bind fun r2 =>
  bif (!(eqI r2 (0:Int))) then
   some (.inr r2)
  else
   next (t9,t10,(IntKind.i64.wrap (t11+(1:Int))))
 else
  some (.inl ())
def ukx_:(List YY5)×Int×Int→Option YY24:=loopN uc5_ fuel
def uet_:List YY5→Option (Int):=fun l_0 =>
 bif (decide ((100000:Int)<(l_0.length:Int))) then
  some (3:Int)
 else
  (ukx_ (l_0,(l_0.length:Int),(0:Int))).bind fun r3 =>
  match r3 with
  | .inl y4 =>
    some (0:Int)
  | .inr y4' =>
    some y4'
def ubk6_:Unit→Option (List Int):=fun _ =>
 some ([(0:Int),(0:Int),(0:Int),(10:Int),(60:Int),(90:Int),(100:Int)]:List Int)
def u04_:Str×Str×Int×Int×Int×(List Str)×Str×(List YY30)×Int→Option (Int):=fun f_0 =>
 (ubk6_ ()).bind fun r1 =>
 (at? r1 f_0.2.2.2.1).bind fun y2 =>
 some (IntKind.i64.wrap (f_0.2.2.2.2.1*y2))
def u38_:Int→Option (Bool):=fun x_0 =>
 some (!(eqI x_0 x_0))
def udg_:Int×Int→Option (Int):=fun (x_0,y_1) =>
 (u38_ x_0).bind fun r1 =>
 (u38_ y_1).bind fun r2 =>
 bif r1 then
  bif r2 then
   some (0:Int)
  else
   some (-1:Int)
 else
  bif r2 then
   some (1:Int)
  else
   bif (decide (x_0<y_1)) then
    some (-1:Int)
   else
    bif (decide (y_1<x_0)) then
     some (1:Int)
    else
     some (0:Int)
def unk_:Str×Str×Int×Int×Int×(List Str)×Str×(List YY30)×Int→Option YY12:=fun f_0 =>
 some (f_0.1,(f_0.2.1,f_0.2.2.1))
def uss_:Str→Option (Bool):=fun x_0 =>
 some (!(eqS x_0 x_0))
def ubx_:Str×Str→Option (Int):=fun (x_0,y_1) =>
 (uss_ x_0).bind fun r1 =>
 (uss_ y_1).bind fun r2 =>
 bif r1 then
  bif r2 then
   some (0:Int)
  else
   some (-1:Int)
 else
  bif r2 then
   some (1:Int)
  else
   bif (Op.bytesLess x_0 y_1) then
    some (-1:Int)
   else
    bif (!(Op.bytesLess x_0 y_1||eqS x_0 y_1)) then
     some (1:Int)
    else
     some (0:Int)
def ug3_ (next:Int×(List Int)×Int×Int→Option YY24):Int×(List Int)×Int×Int→Option YY24:=fun (zero_3,t6,t7,t8) =>
 bif (decide (t8<t7)) then
  (at? t6 t8).bind fun y1 =>
  bif (!(eqI y1 zero_3)) then
   some (.inr y1)
  else
   next (zero_3,t6,t7,(IntKind.i64.wrap (t8+(1:Int))))
 else
  some (.inl ())
def ubdg_:Int×(List Int)×Int×Int→Option YY24:=loopN ug3_ fuel
def uxj_:List Int→Option (Int):=fun vals_0 =>
 (ubdg_ ((0:Int),vals_0,(vals_0.length:Int),(0:Int))).bind fun r2 =>
 match r2 with
 | .inl y3 =>
   some (0:Int)
 | .inr y3' =>
   some y3'
def uew_:YY12×YY12→Option (Int):=fun (a_0,b_1) =>
 (ubx_ (a_0.1,b_1.1)).bind fun r1 =>
 (ubx_ (a_0.2.1,b_1.2.1)).bind fun r2 =>
 (udg_ (a_0.2.2,b_1.2.2)).bind fun r3 =>
 (uxj_ ([r1,r2,r3]:List Int)).bind fun r4 =>
 some r4
def ujn_:Int×Int×(Option (List YY5))→Option (Int):=fun (i_0,j_1,t2) =>
 (t2).bind fun p1 =>
 (at? p1 i_0).bind fun y2 =>
 (t2).bind fun p3 =>
 (at? p3 j_1).bind fun y4 =>
 (u04_ y4).bind fun r5 =>
 (u04_ y2).bind fun r6 =>
 (udg_ (r5,r6)).bind fun r7 =>
 (udg_ ((y2.2.2.2.2.2.1.length:Int),(y4.2.2.2.2.2.1.length:Int))).bind fun r8 =>
 (unk_ y2).bind fun r9 =>
 (unk_ y4).bind fun r10 =>
 (uew_ (r9,r10)).bind fun r11 =>
 (uxj_ ([r7,r8,r11]:List Int)).bind fun r12 =>
 some r12
def uej_ (next:(List Int)×Int×YY16×Int→Option (List Int)):(List Int)×Int×YY16×Int→Option (List Int):=fun (data_0,a_1,cmp_3,j_9) =>
 (bif (decide (a_1<j_9)) then in? data_0.length j_9 else some ()).bind fun _ =>
 (bif (decide (a_1<j_9)) then in? data_0.length (IntKind.i64.wrap (j_9-(1:Int))) else some ()).bind fun _ =>
 (bif (decide (a_1<j_9)) then cmp_3 ((data_0.getD j_9.toNat (0:Int)),(data_0.getD ((IntKind.i64.wrap (j_9-(1:Int))).toNat) (0:Int))) else some (0:Int)).bind fun r2 =>
 bif ((decide (a_1<j_9))&&(decide (r2<(0:Int)))) then
  (in? data_0.length (IntKind.i64.wrap (j_9-(1:Int)))).bind fun _ =>
  let v3:=(data_0.getD ((IntKind.i64.wrap (j_9-(1:Int))).toNat) (0:Int))
  (in? data_0.length j_9).bind fun _ =>
  (in? data_0.length j_9).bind fun _ =>
  (in? (data_0.set j_9.toNat v3).length (IntKind.i64.wrap (j_9-(1:Int)))).bind fun _ =>
  next (((data_0.set j_9.toNat v3).set ((IntKind.i64.wrap (j_9-(1:Int))).toNat) (data_0.getD j_9.toNat (0:Int))),a_1,cmp_3,(IntKind.i64.wrap (j_9-(1:Int))))
 else
  some data_0
def ucl_:(List Int)×Int×YY16×Int→Option (List Int):=loopN uej_ fuel
def uek_ (next:(List Int)×Int×Int×YY16×Int→Option (List Int)):(List Int)×Int×Int×YY16×Int→Option (List Int):=fun (data_0,a_1,b_2,cmp_3,i_8) =>
 bif (decide (i_8<b_2)) then
  (ucl_ (data_0,a_1,cmp_3,i_8)).bind fun r5 =>
  next (r5,a_1,b_2,cmp_3,(IntKind.i64.wrap (i_8+(1:Int))))
 else
  some data_0
def uel_:(List Int)×Int×Int×YY16×Int→Option (List Int):=loopN uek_ fuel
def u5_:(List Int)×Int×Int×YY16→Option (List Int):=fun (data_0,a_1,b_2,cmp_3) =>
 (uel_ (data_0,a_1,b_2,cmp_3,(IntKind.i64.wrap (a_1+(1:Int))))).bind fun r6 =>
 some r6
def ugj_ (next:(List Int)×Int×Int×Int×Int→Option (List Int)):(List Int)×Int×Int×Int×Int→Option (List Int):=fun (data_0,a_1,b_2,n_3,i_10) =>
 bif (decide (i_10<n_3)) then
  (in? data_0.length (IntKind.i64.wrap (b_2+i_10))).bind fun _ =>
  let v1:=(data_0.getD ((IntKind.i64.wrap (b_2+i_10)).toNat) (0:Int))
  (in? data_0.length (IntKind.i64.wrap (a_1+i_10))).bind fun _ =>
  (in? data_0.length (IntKind.i64.wrap (a_1+i_10))).bind fun _ =>
  (in? (data_0.set ((IntKind.i64.wrap (a_1+i_10)).toNat) v1).length (IntKind.i64.wrap (b_2+i_10))).bind fun _ =>
  next (((data_0.set ((IntKind.i64.wrap (a_1+i_10)).toNat) v1).set ((IntKind.i64.wrap (b_2+i_10)).toNat) (data_0.getD ((IntKind.i64.wrap (a_1+i_10)).toNat) (0:Int))),a_1,b_2,n_3,(IntKind.i64.wrap (i_10+(1:Int))))
 else
  some data_0
def ugk_:(List Int)×Int×Int×Int×Int→Option (List Int):=loopN ugj_ fuel
def u9_:(List Int)×Int×Int×Int×YY16→Option (List Int):=fun (data_0,a_1,b_2,n_3,cmp_4) =>
 (ugk_ (data_0,a_1,b_2,n_3,(0:Int))).bind fun r4 =>
 some r4
def uh2_ (next:(List Int)×Int×YY16×Int×Int→Option YY37):(List Int)×Int×YY16×Int×Int→Option YY37:=fun (data_0,m_2,cmp_4,i_10,j_11) =>
 bif (!(eqI i_10 j_11)) then
  bif (decide (j_11<i_10)) then
   (u9_ (data_0,(IntKind.i64.wrap (m_2-i_10)),m_2,j_11,cmp_4)).bind fun r1 =>
   next (r1,m_2,cmp_4,(IntKind.i64.wrap (i_10-j_11)),j_11)
  else
   (u9_ (data_0,(IntKind.i64.wrap (m_2-i_10)),(IntKind.i64.wrap ((IntKind.i64.wrap (m_2+j_11))-i_10)),i_10,cmp_4)).bind fun r2 =>
   next (r2,m_2,cmp_4,i_10,(IntKind.i64.wrap (j_11-i_10)))
 else
  some (data_0,i_10)
def uh3_:(List Int)×Int×YY16×Int×Int→Option YY37:=loopN uh2_ fuel
def uc6_:(List Int)×Int×Int×Int×YY16→Option (List Int):=fun (data_0,a_1,m_2,b_3,cmp_4) =>
 (uh3_ (data_0,m_2,cmp_4,(IntKind.i64.wrap (m_2-a_1)),(IntKind.i64.wrap (b_3-m_2)))).bind fun r3 =>
 (u9_ (r3.1,(IntKind.i64.wrap (m_2-r3.2)),m_2,r3.2,cmp_4)).bind fun r4 =>
 some r4
def ugt_ (slf:(List Int)×Int×Int×Int×YY16→Option (List Int)) (next:(List Int)×Int×YY16×Int×Int→Option YY37):(List Int)×Int×YY16×Int×Int→Option YY37:=fun (data_0,a_1,cmp_4,i_10,j_11) =>
 bif (decide (i_10<j_11)) then
  (shr? IntKind.u64 (IntKind.u64.wrap (IntKind.i64.wrap (i_10+j_11))) (1:Int)).bind fun n1 =>
  (in? data_0.length (IntKind.i64.wrap n1)).bind fun _ =>
  (in? data_0.length a_1).bind fun _ =>
  (cmp_4 ((data_0.getD ((IntKind.i64.wrap n1).toNat) (0:Int)),(data_0.getD a_1.toNat (0:Int)))).bind fun r2 =>
  bif (decide (r2<(0:Int))) then
   next (data_0,a_1,cmp_4,(IntKind.i64.wrap ((IntKind.i64.wrap n1)+(1:Int))),j_11)
  else
   next (data_0,a_1,cmp_4,i_10,(IntKind.i64.wrap n1))
 else
  some (data_0,i_10)
def ud6_ (slf:(List Int)×Int×Int×Int×YY16→Option (List Int)):(List Int)×Int×YY16×Int×Int→Option YY37:=loopN (ugt_ slf) fuel
def ugu_ (slf:(List Int)×Int×Int×Int×YY16→Option (List Int)) (next:(List Int)×Int×Int→Option (List Int)):(List Int)×Int×Int→Option (List Int):=fun (data_0,i_10,k_13) =>
 bif (decide (k_13<(IntKind.i64.wrap (i_10-(1:Int))))) then
  (in? data_0.length (IntKind.i64.wrap (k_13+(1:Int)))).bind fun _ =>
  let v4:=(data_0.getD ((IntKind.i64.wrap (k_13+(1:Int))).toNat) (0:Int))
  (in? data_0.length k_13).bind fun _ =>
  (in? data_0.length k_13).bind fun _ =>
  (in? (data_0.set k_13.toNat v4).length (IntKind.i64.wrap (k_13+(1:Int)))).bind fun _ =>
  next (((data_0.set k_13.toNat v4).set ((IntKind.i64.wrap (k_13+(1:Int))).toNat) (data_0.getD k_13.toNat (0:Int))),i_10,(IntKind.i64.wrap (k_13+(1:Int))))
 else
  some data_0
def ud7_ (slf:(List Int)×Int×Int×Int×YY16→Option (List Int)):(List Int)×Int×Int→Option (List Int):=loopN (ugu_ slf) fuel
def ugv_ (slf:(List Int)×Int×Int×Int×YY16→Option (List Int)) (next:(List Int)×Int×YY16×Int×Int→Option YY37):(List Int)×Int×YY16×Int×Int→Option YY37:=fun (data_0,m_2,cmp_4,i_14,j_15) =>
 bif (decide (i_14<j_15)) then
  (shr? IntKind.u64 (IntKind.u64.wrap (IntKind.i64.wrap (i_14+j_15))) (1:Int)).bind fun n7 =>
  (in? data_0.length m_2).bind fun _ =>
  (in? data_0.length (IntKind.i64.wrap n7)).bind fun _ =>
  (cmp_4 ((data_0.getD m_2.toNat (0:Int)),(data_0.getD ((IntKind.i64.wrap n7).toNat) (0:Int)))).bind fun r8 =>
  bif (!(decide (r8<(0:Int)))) then
   next (data_0,m_2,cmp_4,(IntKind.i64.wrap ((IntKind.i64.wrap n7)+(1:Int))),j_15)
  else
   next (data_0,m_2,cmp_4,i_14,(IntKind.i64.wrap n7))
 else
  some (data_0,i_14)
def ud8_ (slf:(List Int)×Int×Int×Int×YY16→Option (List Int)):(List Int)×Int×YY16×Int×Int→Option YY37:=loopN (ugv_ slf) fuel
def ugl_ (slf:(List Int)×Int×Int×Int×YY16→Option (List Int)) (next:(List Int)×Int×Int→Option (List Int)):(List Int)×Int×Int→Option (List Int):=fun (data_0,i_14,k_17) =>
 bif (decide (i_14<k_17)) then
  (in? data_0.length (IntKind.i64.wrap (k_17-(1:Int)))).bind fun _ =>
  let v10:=(data_0.getD ((IntKind.i64.wrap (k_17-(1:Int))).toNat) (0:Int))
  (in? data_0.length k_17).bind fun _ =>
  (in? data_0.length k_17).bind fun _ =>
  (in? (data_0.set k_17.toNat v10).length (IntKind.i64.wrap (k_17-(1:Int)))).bind fun _ =>
  next (((data_0.set k_17.toNat v10).set ((IntKind.i64.wrap (k_17-(1:Int))).toNat) (data_0.getD k_17.toNat (0:Int))),i_14,(IntKind.i64.wrap (k_17-(1:Int))))
 else
  some data_0
def udk_ (slf:(List Int)×Int×Int×Int×YY16→Option (List Int)):(List Int)×Int×Int→Option (List Int):=loopN (ugl_ slf) fuel
def ubi_ (slf:(List Int)×Int×Int×Int×YY16→Option (List Int)):Int×Int×Int×Int×Int×Bool→Option (Int×Int):=fun (a_1,m_2,b_3,mid_18,n_19,t140) =>
 bif t140 then
  some ((IntKind.i64.wrap (n_19-b_3)),mid_18)
 else
  some (a_1,m_2)
def ugm_ (slf:(List Int)×Int×Int×Int×YY16→Option (List Int)) (next:(List Int)×YY16×Int×Int×Int→Option YY37):(List Int)×YY16×Int×Int×Int→Option YY37:=fun (data_0,cmp_4,start_20,r_21,p_22) =>
 bif (decide (start_20<r_21)) then
  (shr? IntKind.u64 (IntKind.u64.wrap (IntKind.i64.wrap (start_20+r_21))) (1:Int)).bind fun n16 =>
  (in? data_0.length (IntKind.i64.wrap (p_22-(IntKind.i64.wrap n16)))).bind fun _ =>
  (in? data_0.length (IntKind.i64.wrap n16)).bind fun _ =>
  (cmp_4 ((data_0.getD ((IntKind.i64.wrap (p_22-(IntKind.i64.wrap n16))).toNat) (0:Int)),(data_0.getD ((IntKind.i64.wrap n16).toNat) (0:Int)))).bind fun r18 =>
  bif (!(decide (r18<(0:Int)))) then
   next (data_0,cmp_4,(IntKind.i64.wrap ((IntKind.i64.wrap n16)+(1:Int))),r_21,p_22)
  else
   next (data_0,cmp_4,start_20,(IntKind.i64.wrap n16),p_22)
 else
  some (data_0,start_20)
def udl_ (slf:(List Int)×Int×Int×Int×YY16→Option (List Int)):(List Int)×YY16×Int×Int×Int→Option YY37:=loopN (ugm_ slf) fuel
def ubj_ (slf:(List Int)×Int×Int×Int×YY16→Option (List Int)):(List Int)×Int×YY16×Int×Int×Bool→Option (List Int):=fun (data_0,m_2,cmp_4,start_20,end_24,t185) =>
 bif t185 then
  (uc6_ (data_0,start_20,m_2,end_24,cmp_4)).bind fun r21 =>
  some r21
 else
  some data_0
def ubk_ (slf:(List Int)×Int×Int×Int×YY16→Option (List Int)):(List Int)×Int×YY16×Int×Int×Bool→Option (List Int):=fun (data_0,a_1,cmp_4,mid_18,start_20,t199) =>
 bif t199 then
  (slf (data_0,a_1,start_20,mid_18,cmp_4)).bind fun r24 =>
  some r24
 else
  some data_0
def ub1_ (slf:(List Int)×Int×Int×Int×YY16→Option (List Int)):(List Int)×Int×Int×Int×YY16→Option (List Int):=fun (data_0,a_1,m_2,b_3,cmp_4) =>
 bif (eqI (IntKind.i64.wrap (m_2-a_1)) (1:Int)) then
  ((ud6_ slf) (data_0,a_1,cmp_4,m_2,b_3)).bind fun r3 =>
  ((ud7_ slf) (r3.1,r3.2,a_1)).bind fun r6 =>
  some r6
 else
  bif (eqI (IntKind.i64.wrap (b_3-m_2)) (1:Int)) then
   ((ud8_ slf) (data_0,m_2,cmp_4,a_1,m_2)).bind fun r9 =>
   ((udk_ slf) (r9.1,r9.2,m_2)).bind fun r12 =>
   some r12
  else
   (shr? IntKind.u64 (IntKind.u64.wrap (IntKind.i64.wrap (a_1+b_3))) (1:Int)).bind fun n13 =>
   ((ubi_ slf) (a_1,m_2,b_3,(IntKind.i64.wrap n13),(IntKind.i64.wrap ((IntKind.i64.wrap n13)+m_2)),(decide ((IntKind.i64.wrap n13)<m_2)))).bind fun r14 =>
   ((udl_ slf) (data_0,cmp_4,r14.1,r14.2,(IntKind.i64.wrap ((IntKind.i64.wrap ((IntKind.i64.wrap n13)+m_2))-(1:Int))))).bind fun r19 =>
   let v20:=(IntKind.i64.wrap ((IntKind.i64.wrap ((IntKind.i64.wrap n13)+m_2))-r19.2))
   ((ubj_ slf) (r19.1,m_2,cmp_4,r19.2,v20,((decide (r19.2<m_2))&&(decide (m_2<v20))))).bind fun r22 =>
   ((ubk_ slf) (r22,a_1,cmp_4,(IntKind.i64.wrap n13),r19.2,((decide (a_1<r19.2))&&(decide (r19.2<(IntKind.i64.wrap n13)))))).bind fun r25 =>
   bif ((decide ((IntKind.i64.wrap n13)<v20))&&(decide (v20<b_3))) then
    (slf (r25,(IntKind.i64.wrap n13),v20,b_3,cmp_4)).bind fun r27 =>
    some r27
   else
    some r25
def um_:Nat→(List Int)×Int×Int×Int×YY16→Option (List Int)
 | 0=>fun _=>none
 | n+1=>ub1_ (um_ n)
def ubc_:(List Int)×Int×Int×Int×YY16→Option (List Int):=um_ 100
def uh4_ (next:(List Int)×Int×YY16×Int×Int×Int→Option YY37):(List Int)×Int×YY16×Int×Int×Int→Option YY37:=fun (data_0,n_1,cmp_2,blockSize_6,a_7,b_8) =>
 bif (decide (b_8≤n_1)) then
  (u5_ (data_0,a_7,b_8,cmp_2)).bind fun r1 =>
  next (r1,n_1,cmp_2,blockSize_6,b_8,(IntKind.i64.wrap (b_8+blockSize_6)))
 else
  some (data_0,a_7)
def ue1_:(List Int)×Int×YY16×Int×Int×Int→Option YY37:=loopN uh4_ fuel
def uh5_ (next:(List Int)×Int×YY16×Int×Int×Int→Option YY37):(List Int)×Int×YY16×Int×Int×Int→Option YY37:=fun (data_0,n_1,cmp_2,blockSize_6,a_7,b_8) =>
 bif (decide (b_8≤n_1)) then
  (ubc_ (data_0,a_7,(IntKind.i64.wrap (a_7+blockSize_6)),b_8,cmp_2)).bind fun r4 =>
  next (r4,n_1,cmp_2,blockSize_6,b_8,(IntKind.i64.wrap (b_8+(IntKind.i64.wrap ((2:Int)*blockSize_6)))))
 else
  some (data_0,a_7)
def ue2_:(List Int)×Int×YY16×Int×Int×Int→Option YY37:=loopN uh5_ fuel
def uh6_ (next:(List Int)×Int×YY16×Int→Option (List Int)):(List Int)×Int×YY16×Int→Option (List Int):=fun (data_0,n_1,cmp_2,blockSize_6) =>
 bif (decide (blockSize_6<n_1)) then
  (ue2_ (data_0,n_1,cmp_2,blockSize_6,(0:Int),(IntKind.i64.wrap ((2:Int)*blockSize_6)))).bind fun r6 =>
  bif (decide ((IntKind.i64.wrap (r6.2+blockSize_6))<n_1)) then
   (ubc_ (r6.1,r6.2,(IntKind.i64.wrap (r6.2+blockSize_6)),n_1,cmp_2)).bind fun r7 =>
   next (r7,n_1,cmp_2,(IntKind.i64.wrap (blockSize_6*(2:Int))))
  else
   next (r6.1,n_1,cmp_2,(IntKind.i64.wrap (blockSize_6*(2:Int))))
 else
  some data_0
def ue3_:(List Int)×Int×YY16×Int→Option (List Int):=loopN uh6_ fuel
def uem_:(List Int)×Int×YY16→Option (List Int):=fun (data_0,n_1,cmp_2) =>
 (ue1_ (data_0,n_1,cmp_2,(20:Int),(0:Int),(20:Int))).bind fun r2 =>
 (u5_ (r2.1,r2.2,n_1,cmp_2)).bind fun r3 =>
 (ue3_ (r3,n_1,cmp_2,(20:Int))).bind fun r8 =>
 some r8
def u6_:(List Int)×YY16→Option (List Int):=fun (x_0,cmp_1) =>
 (uem_ (x_0,(x_0.length:Int),cmp_1)).bind fun r1 =>
 some r1
def ubdh_ (next:(List Int)×Int×Int→Option (List Int)):(List Int)×Int×Int→Option (List Int):=fun (out_5,t13,t14) =>
 bif (decide (t14<t13)) then
  (app? 24 out_5 ([t14]:List Int)).bind fun l2 =>
  next (l2,t13,(IntKind.i64.wrap (t14+(1:Int))))
 else
  some out_5
def ust_:(List Int)×Int×Int→Option (List Int):=loopN ubdh_ fuel
def unl_:List YY5→Option YY37:=fun l_0 =>
 (uet_ l_0).bind fun r1 =>
 bif (!(eqI r1 (0:Int))) then
  some (([]:List Int),r1)
 else
  (ust_ (([]:List Int),(l_0.length:Int),(0:Int))).bind fun r3 =>
  (u6_ (r3,(fun x=>(ujn_ (x.1,x.2,(some l_0))).bind fun r=>some r))).bind fun r4 =>
  some (r4,(0:Int))
def ub6s_:Unit→Option YY4:=fun _ =>
 some ((([97,112,112]:Str),(([]:Str),(([114]:Str),(([(([99]:Str),((([112,108,97,105,110]:Str),(([]:Str),(([99]:Str),(([49]:Str),(([]:List (Str×Str)),([]:Str)))))),(([]:List (Str×Str)),(([]:Str),([]:List Str))))),(([114]:Str),((([112,108,97,105,110]:Str),(([]:Str),(([97,112,112]:Str),(([]:Str),(([]:List (Str×Str)),([]:Str)))))),(([]:List (Str×Str)),(([]:Str),([]:List Str)))))]:List YY2),([(([114]:Str),(([99]:Str),(1:Int)))]:List YY12))))),((1:Int),(((0:Int),(([(([65]:Str),(([]:List Str),(([120]:Str),((0:Int),(false,(([78,72,76,76,78,78]:Str),([(([112,107,103,58,112,108,97,105,110,47,99]:Str),((5:Int),(([((1:Int),([]:Str))]:List (Int×Str)),(([]:List Str),([]:List Str)))))]:List YY14)))))))]:List YY3),([(0:Int)]:List Int))),(([]:List YY17),((0:Int),(([]:List Str),([]:List YY29)))))))
def ubzo_ (next:Str×Int×Int→Option YY28):Str×Int×Int→Option YY28:=fun (s_0,t5,t6) =>
 bif (decide (t6<t5)) then
  (at? s_0 t6).bind fun b1 =>
  (bif (!(decide ((b1.toNat:Int)<(32:Int)))) then at? s_0 t6 else some 0).bind fun b2 =>
  bif ((decide ((b1.toNat:Int)<(32:Int)))||(eqI (b2.toNat:Int) (127:Int))) then
   some (.inr false)
  else
   next (s_0,t5,(IntKind.i64.wrap (t6+(1:Int))))
 else
  some (.inl ())
def ubpp_:Str×Int×Int→Option YY28:=loopN ubzo_ fuel
def ubsr_:Str→Option (Bool):=fun s_0 =>
 (ubpp_ (s_0,(s_0.length:Int),(0:Int))).bind fun r4 =>
 match r4 with
 | .inl y5 =>
   some (decide ((s_0.length:Int)≤(100:Int)))
 | .inr y5' =>
   some y5'
def ubss_ (next:Str×Int×Int→Option YY28):Str×Int×Int→Option YY28:=fun (s_0,t7,t8) =>
 bif (decide (t8<t7)) then
  (at? s_0 t8).bind fun b1 =>
  (bif (!(decide ((b1.toNat:Int)<(33:Int)))) then at? s_0 t8 else some 0).bind fun b2 =>
  bif ((decide ((b1.toNat:Int)<(33:Int)))||(decide ((126:Int)<(b2.toNat:Int)))) then
   some (.inr false)
  else
   next (s_0,t7,(IntKind.i64.wrap (t8+(1:Int))))
 else
  some (.inl ())
def ubdi_:Str×Int×Int→Option YY28:=loopN ubss_ fuel
def ubdj_:Str×Int→Option (Bool):=fun (s_0,most_1) =>
 (ubdi_ (s_0,(s_0.length:Int),(0:Int))).bind fun r4 =>
 match r4 with
 | .inl y5 =>
   some ((!(eqS s_0 ([]:Str)))&&(decide ((s_0.length:Int)≤most_1)))
 | .inr y5' =>
   some y5'
def ubst_:Unit→Option (List YY45):=fun _ =>
 some ([(([100,111,116,116,101,100]:Str),((2:Int),(true,(false,(1:Int))))),(([114,101,118,105,115,101,100]:Str),((3:Int),(true,(false,(2:Int))))),(([115,116,97,103,101,100]:Str),((1:Int),(true,(true,(3:Int))))),(([113,117,97,108,105,102,105,101,100]:Str),((3:Int),(false,(false,(4:Int))))),(([112,108,97,105,110]:Str),((2:Int),(false,(false,(5:Int)))))]:List YY45)
def ubzp_ (next:Str×(List YY45)×Int→Option YY24):Str×(List YY45)×Int→Option YY24:=fun (kind_0,t5,t6) =>
 bif (decide (t6<(5:Int))) then
  (at? t5 t6).bind fun y2 =>
  bif (eqS y2.1 kind_0) then
   some (.inr t6)
  else
   next (kind_0,t5,(IntKind.i64.wrap (t6+(1:Int))))
 else
  some (.inl ())
def ubpq_:Str×(List YY45)×Int→Option YY24:=loopN ubzp_ fuel
def ubzq_:Str→Option (Int):=fun kind_0 =>
 (ubst_ ()).bind fun r1 =>
 (ubpq_ (kind_0,r1,(0:Int))).bind fun r3 =>
 match r3 with
 | .inl y4 =>
   some (-1:Int)
 | .inr y4' =>
   some y4'
def ubxd_:Str→Option (YY45×Int):=fun kind_0 =>
 (ubzq_ kind_0).bind fun r1 =>
 bif (decide (r1<(0:Int))) then
  some ((([]:Str),((0:Int),(false,(false,(0:Int))))),(7:Int))
 else
  (ubst_ ()).bind fun r3 =>
  (at? r3 r1).bind fun y4 =>
  some (y4,(0:Int))
def ub1f_ (next:(List Str)×Int×Int→Option YY28):(List Str)×Int×Int→Option YY28:=fun (t15,t16,t17) =>
 bif (decide (t17<t16)) then
  (at? t15 t17).bind fun y2 =>
  bif (decide ((200:Int)<(y2.length:Int))) then
   some (.inr true)
  else
   next (t15,t16,(IntKind.i64.wrap (t17+(1:Int))))
 else
  some (.inl ())
def ubsu_:(List Str)×Int×Int→Option YY28:=loopN ub1f_ fuel
def ub1g_ (next:YY10×Int×Int→Option YY28):YY10×Int×Int→Option YY28:=fun (t26,t27,t28) =>
 bif (decide (t28<t27)) then
  (at? t26 t28).bind fun y5 =>
  bif ((decide ((200:Int)<(y5.1.length:Int)))||(decide ((200:Int)<(y5.2.length:Int)))) then
   some (.inr true)
  else
   next (t26,t27,(IntKind.i64.wrap (t28+(1:Int))))
 else
  some (.inl ())
def ubsv_:YY10×Int×Int→Option YY28:=loopN ub1g_ fuel
def ub22_:Str×Str×Str×Str×YY10×Str→Option (Bool):=fun p_0 =>
 let v1:=([p_0.2.1,p_0.2.2.1,p_0.2.2.2.1,p_0.2.2.2.2.2]:List Str)
 (ubsu_ (v1,(v1.length:Int),(0:Int))).bind fun r3 =>
 match r3 with
 | .inl y4 =>
   (ubsv_ (p_0.2.2.2.2.1,(p_0.2.2.2.2.1.length:Int),(0:Int))).bind fun r7 =>
   match r7 with
   | .inl y8 =>
     some (decide ((10:Int)<(p_0.2.2.2.2.1.length:Int)))
   | .inr y8' =>
     some y8'
 | .inr y4' =>
   some y4'
def u39_:Str→Option (List Str):=fun s_0 =>
 bif (eqS s_0 ([]:Str)) then
  some ([]:List Str)
 else
  (strings_Split (s_0,([47]:Str))).bind fun r1 =>
  some r1
def ubp8_ (next:Bool×(List Str)×Int×Int→Option YY28):Bool×(List Str)×Int×Int→Option YY28:=fun (dots_1,t7,t8,t9) =>
 bif (decide (t9<t8)) then
  (at? t7 t9).bind fun y1 =>
  bif ((eqS y1 ([]:Str))||(dots_1&&((eqS y1 ([46]:Str))||(eqS y1 ([46,46]:Str))))) then
   some (.inr true)
  else
   next (dots_1,t7,t8,(IntKind.i64.wrap (t9+(1:Int))))
 else
  some (.inl ())
def ubae_:Bool×(List Str)×Int×Int→Option YY28:=loopN ubp8_ fuel
def u8f_:(List Str)×Bool→Option (Bool):=fun (l_0,dots_1) =>
 (ubae_ (dots_1,l_0,(l_0.length:Int),(0:Int))).bind fun r3 =>
 match r3 with
 | .inl y4 =>
   some (decide ((10:Int)<(l_0.length:Int)))
 | .inr y4' =>
   some y4'
def ubdk_:Int×Bool→Option (Bool):=fun (c_0,first_1) =>
 bif ((decide ((97:Int)≤c_0))&&(decide (c_0≤(122:Int)))) then
  some true
 else
  some ((!first_1)&&(((((decide ((48:Int)≤c_0))&&(decide (c_0≤(57:Int))))||(eqI c_0 (46:Int)))||(eqI c_0 (45:Int)))||(eqI c_0 (95:Int))))
def ubgi_ (next:Str×Int×Int→Option YY28):Str×Int×Int→Option YY28:=fun (s_0,t5,t6) =>
 bif (decide (t6<t5)) then
  (at? s_0 t6).bind fun b1 =>
  (ubdk_ ((b1.toNat:Int),(eqI t6 (0:Int)))).bind fun r2 =>
  bif (!r2) then
   some (.inr false)
  else
   next (s_0,t5,(IntKind.i64.wrap (t6+(1:Int))))
 else
  some (.inl ())
def uzg_:Str×Int×Int→Option YY28:=loopN ubgi_ fuel
def u6n_:Str→Option (Bool):=fun s_0 =>
 (uzg_ (s_0,(s_0.length:Int),(0:Int))).bind fun r3 =>
 match r3 with
 | .inl y4 =>
   some (!(eqS s_0 ([]:Str)))
 | .inr y4' =>
   some y4'
def ubbw_ (next:YY10×YY10×Int×Int→Option YY24):YY10×YY10×Int×Int→Option YY24:=fun (l_0,t5,t6,t7) =>
 bif (decide (t7<t6)) then
  (at? t5 t7).bind fun y1 =>
  (u6n_ y1.1).bind fun r2 =>
  bif (!r2) then
   some (.inr (8:Int))
  else
   bif (eqS y1.2 ([]:Str)) then
    some (.inr (2:Int))
   else
    (bif (decide ((0:Int)<t7)) then at? l_0 (IntKind.i64.wrap (t7-(1:Int))) else some (([]:Str),([]:Str))).bind fun y3 =>
    bif ((decide ((0:Int)<t7))&&(Op.bytesLess y1.1 y3.1||eqS y1.1 y3.1)) then
     some (.inr (10:Int))
    else
     next (l_0,t5,t6,(IntKind.i64.wrap (t7+(1:Int))))
 else
  some (.inl ())
def uu6_:YY10×YY10×Int×Int→Option YY24:=loopN ubbw_ fuel
def u05_:List (Str×Str)→Option (Int):=fun l_0 =>
 (uu6_ (l_0,l_0,(l_0.length:Int),(0:Int))).bind fun r5 =>
 match r5 with
 | .inl y6 =>
   some (0:Int)
 | .inr y6' =>
   some y6'
def ubup_ (next:Str×Int×Int→Option YY28):Str×Int×Int→Option YY28:=fun (s_0,t5,t6) =>
 bif (decide (t6<t5)) then
  (at? s_0 t6).bind fun b1 =>
  (bif (!(decide ((b1.toNat:Int)<(32:Int)))) then at? s_0 t6 else some 0).bind fun b2 =>
  bif ((decide ((b1.toNat:Int)<(32:Int)))||(eqI (b2.toNat:Int) (127:Int))) then
   some (.inr true)
  else
   next (s_0,t5,(IntKind.i64.wrap (t6+(1:Int))))
 else
  some (.inl ())
def ubh4_:Str×Int×Int→Option YY28:=loopN ubup_ fuel
def ubiz_:Str→Option (Bool):=fun s_0 =>
 (ubh4_ (s_0,(s_0.length:Int),(0:Int))).bind fun r4 =>
 match r4 with
 | .inl y5 =>
   some false
 | .inr y5' =>
   some y5'
def ubzr_ (next:(List Str)×Int×Int→Option YY24):(List Str)×Int×Int→Option YY24:=fun (t75,t76,t77) =>
 bif (decide (t77<t76)) then
  (at? t75 t77).bind fun y13 =>
  (ubiz_ y13).bind fun r14 =>
  bif r14 then
   some (.inr (8:Int))
  else
   next (t75,t76,(IntKind.i64.wrap (t77+(1:Int))))
 else
  some (.inl ())
def ubpr_:(List Str)×Int×Int→Option YY24:=loopN ubzr_ fuel
def ubxe_ (next:YY10×Int×Int→Option YY24):YY10×Int×Int→Option YY24:=fun (t85,t86,t87) =>
 bif (decide (t87<t86)) then
  (at? t85 t87).bind fun y17 =>
  (ubiz_ y17.2).bind fun r18 =>
  bif r18 then
   some (.inr (8:Int))
  else
   next (t85,t86,(IntKind.i64.wrap (t87+(1:Int))))
 else
  some (.inl ())
def ubk7_:YY10×Int×Int→Option YY24:=loopN ubxe_ fuel
def ubk8_:Str×Str×Str×Str×YY10×Str→Option (Int):=fun p_0 =>
 (ubxd_ p_0.1).bind fun r1 =>
 bif (!(eqI r1.2 (0:Int))) then
  some r1.2
 else
  (ub22_ p_0).bind fun r2 =>
  bif r2 then
   some (3:Int)
  else
   bif (((!(eqS p_0.2.1 ([]:Str)))&&(eqI r1.1.2.1 (1:Int)))||((eqS p_0.2.1 ([]:Str))&&(eqI r1.1.2.1 (3:Int)))) then
    some (2:Int)
   else
    (u39_ p_0.2.1).bind fun r5 =>
    (u8f_ (r5,false)).bind fun r6 =>
    bif r6 then
     some (2:Int)
    else
     (bif (!(eqS p_0.2.2.1 ([]:Str))) then strings_IndexByte (p_0.2.2.1,(47:Int)) else some (0:Int)).bind fun r7 =>
     bif ((eqS p_0.2.2.1 ([]:Str))||(decide ((0:Int)≤r7))) then
      some (8:Int)
     else
      (u05_ p_0.2.2.2.2.1).bind fun r9 =>
      bif (!(eqI r9 (0:Int))) then
       some r9
      else
       (u39_ p_0.2.2.2.2.2).bind fun r10 =>
       (u8f_ (r10,true)).bind fun r11 =>
       bif r11 then
        some (2:Int)
       else
        let v12:=([p_0.2.1,p_0.2.2.1,p_0.2.2.2.1,p_0.2.2.2.2.2]:List Str)
        (ubpr_ (v12,(v12.length:Int),(0:Int))).bind fun r15 =>
        match r15 with
        | .inl y16 =>
          (ubk7_ (p_0.2.2.2.2.1,(p_0.2.2.2.2.1.length:Int),(0:Int))).bind fun r19 =>
          match r19 with
          | .inl y20 =>
            some (0:Int)
          | .inr y20' =>
            some y20'
        | .inr y16' =>
          some y16'
def ub1h_:Int→Option (Int):=fun c_0 =>
 bif ((decide ((48:Int)≤c_0))&&(decide (c_0≤(57:Int)))) then
  some (IntKind.i64.wrap (IntKind.u8.wrap (c_0-(48:Int))))
 else
  bif ((decide ((97:Int)≤c_0))&&(decide (c_0≤(102:Int)))) then
   some (IntKind.i64.wrap ((IntKind.i64.wrap (IntKind.u8.wrap (c_0-(97:Int))))+(10:Int)))
  else
   bif ((decide ((65:Int)≤c_0))&&(decide (c_0≤(70:Int)))) then
    some (IntKind.i64.wrap ((IntKind.i64.wrap (IntKind.u8.wrap (c_0-(65:Int))))+(10:Int)))
   else
    some (-1:Int)
def ubzs_ (next:Str×Int×Int→Option YY28):Str×Int×Int→Option YY28:=fun (s_0,t7,t8) =>
 bif (decide (t8<t7)) then
  (at? s_0 t8).bind fun b1 =>
  (ub1h_ (b1.toNat:Int)).bind fun r2 =>
  (bif (!(decide (r2<(0:Int)))) then at? s_0 t8 else some 0).bind fun b3 =>
  (bif ((!(decide (r2<(0:Int))))&&(decide ((65:Int)≤(b3.toNat:Int)))) then at? s_0 t8 else some 0).bind fun b4 =>
  bif ((decide (r2<(0:Int)))||((decide ((65:Int)≤(b3.toNat:Int)))&&(decide ((b4.toNat:Int)≤(70:Int))))) then
   some (.inr false)
  else
   next (s_0,t7,(IntKind.i64.wrap (t8+(1:Int))))
 else
  some (.inl ())
def ubps_:Str×Int×Int→Option YY28:=loopN ubzs_ fuel
def ubzt_:Str×Int→Option (Bool):=fun (s_0,n_1) =>
 (ubps_ (s_0,(s_0.length:Int),(0:Int))).bind fun r6 =>
 match r6 with
 | .inl y7 =>
   some (eqI (s_0.length:Int) n_1)
 | .inr y7' =>
   some y7'
def u06_:Int×Bool→Option (Int):=fun (n_5,t18) =>
 bif t18 then
  some (16:Int)
 else
  some n_5
def ubi0_ (next:YY10×YY10×Int×Int→Option YY24):YY10×YY10×Int×Int→Option YY24:=fun (l_0,t9,t10,t11) =>
 bif (decide (t11<t10)) then
  (at? t9 t11).bind fun y1 =>
  (u06_ ((64:Int),(eqS y1.1 ([115,117,109,54,52]:Str)))).bind fun r2 =>
  bif ((!(eqS y1.1 ([115,104,97,50,53,54]:Str)))&&(!(eqS y1.1 ([115,117,109,54,52]:Str)))) then
   some (.inr (7:Int))
  else
   (ubzt_ (y1.2,r2)).bind fun r4 =>
   bif (!r4) then
    some (.inr (2:Int))
   else
    (bif (decide ((0:Int)<t11)) then at? l_0 (IntKind.i64.wrap (t11-(1:Int))) else some (([]:Str),([]:Str))).bind fun y5 =>
    bif ((decide ((0:Int)<t11))&&(Op.bytesLess y1.1 y5.1||eqS y1.1 y5.1)) then
     some (.inr (10:Int))
    else
     next (l_0,t9,t10,(IntKind.i64.wrap (t11+(1:Int))))
 else
  some (.inl ())
def u07_:YY10×YY10×Int×Int→Option YY24:=loopN ubi0_ fuel
def ubaf_:List (Str×Str)→Option (Int):=fun l_0 =>
 bif (decide ((4:Int)<(l_0.length:Int))) then
  some (3:Int)
 else
  (u07_ (l_0,l_0,(l_0.length:Int),(0:Int))).bind fun r7 =>
  match r7 with
  | .inl y8 =>
    some (0:Int)
  | .inr y8' =>
    some y8'
def ubi1_ (next:(List Str)×YY32×(List Str)×Int×Int→Option YY24):(List Str)×YY32×(List Str)×Int×Int→Option YY24:=fun (l_1,k_2,t10,t11,t12) =>
 bif (decide (t12<t11)) then
  (at? t10 t12).bind fun y1 =>
  (ubdj_ (y1,(200:Int))).bind fun r2 =>
  bif (!r2) then
   some (.inr (8:Int))
  else
   (bif ((!k_2.1)&&(decide ((0:Int)<t12))) then at? l_1 (IntKind.i64.wrap (t12-(1:Int))) else some ([]:Str)).bind fun y3 =>
   bif (((!k_2.1)&&(decide ((0:Int)<t12)))&&(Op.bytesLess y1 y3||eqS y1 y3)) then
    some (.inr (10:Int))
   else
    next (l_1,k_2,t10,t11,(IntKind.i64.wrap (t12+(1:Int))))
 else
  some (.inl ())
def u08_:(List Str)×YY32×(List Str)×Int×Int→Option YY24:=loopN ubi1_ fuel
def ubag_:YY32×(List Str)→Option (Int):=fun (k_0,l_1) =>
 bif (decide ((100:Int)<(l_1.length:Int))) then
  some (3:Int)
 else
  (u08_ (l_1,k_0,l_1,(l_1.length:Int),(0:Int))).bind fun r5 =>
  match r5 with
  | .inl y6 =>
    some (0:Int)
  | .inr y6' =>
    some y6'
def u8g_ (next:YY2×Int×Int→Option (Sum YY2 (Int))):YY2×Int×Int→Option (Sum YY2 (Int)):=fun (c_3,t29,t30) =>
 bif (decide (t30<t29)) then
  (at? c_3.2.2.2.1 t30).bind fun b4 =>
  (bif (!(decide ((b4.toNat:Int)<(32:Int)))) then at? c_3.2.2.2.1 t30 else some 0).bind fun b5 =>
  bif ((decide ((b4.toNat:Int)<(32:Int)))||(decide ((126:Int)<(b5.toNat:Int)))) then
   some (.inr (2:Int))
  else
   next (c_3,t29,(IntKind.i64.wrap (t30+(1:Int))))
 else
  some (.inl c_3)
def usu_:YY2×Int×Int→Option (Sum YY2 (Int)):=loopN u8g_ fuel
def uzh_:YY32×YY2→Option (Int):=fun (k_0,c_1) =>
 (ubdj_ (c_1.1,(100:Int))).bind fun r1 =>
 bif (!r1) then
  some (8:Int)
 else
  (ubk8_ c_1.2.1).bind fun r2 =>
  bif (!(eqI r2 (0:Int))) then
   some r2
  else
   (ubaf_ c_1.2.2.1).bind fun r3 =>
   bif (!(eqI r3 (0:Int))) then
    some r3
   else
    (usu_ (c_1,(c_1.2.2.2.1.length:Int),(0:Int))).bind fun r7 =>
    match r7 with
    | .inl y8 =>
      bif (!(eqS y8.2.2.2.1 ([]:Str))) then
       none
      else
       (ubag_ (k_0,y8.2.2.2.2)).bind fun r9 =>
       some r9
    | .inr y8' =>
      some y8'
def ubk9_:YY12×YY12→Option (Int):=fun (a_0,b_1) =>
 (ubx_ (a_0.1,b_1.1)).bind fun r1 =>
 (ubx_ (a_0.2.1,b_1.2.1)).bind fun r2 =>
 (udg_ (a_0.2.2,b_1.2.2)).bind fun r3 =>
 (uxj_ ([r1,r2,r3]:List Int)).bind fun r4 =>
 some r4
def ubi2_ (next:(List YY12)×YY32×(List YY12)×Int×Int→Option YY24):(List YY12)×YY32×(List YY12)×Int×Int→Option YY24:=fun (l_1,k_2,t7,t8,t9) =>
 bif (decide (t9<t8)) then
  (at? t7 t9).bind fun y1 =>
  bif ((decide (y1.2.2<(1:Int)))||(decide ((4:Int)<y1.2.2))) then
   some (.inr (9:Int))
  else
   bif ((!((uck_ eqS y1.1 k_2.2).getD false))||(!((uck_ eqS y1.2.1 k_2.2).getD false))) then
    some (.inr (4:Int))
   else
    bif (eqS y1.1 y1.2.1) then
     some (.inr (2:Int))
    else
     (bif ((!k_2.1)&&(decide ((0:Int)<t9))) then at? l_1 (IntKind.i64.wrap (t9-(1:Int))) else some (([]:Str),(([]:Str),(0:Int)))).bind fun y4 =>
     (bif ((!k_2.1)&&(decide ((0:Int)<t9))) then ubk9_ (y4,y1) else some (0:Int)).bind fun r5 =>
     bif (((!k_2.1)&&(decide ((0:Int)<t9)))&&(decide ((0:Int)≤r5))) then
      some (.inr (10:Int))
     else
      next (l_1,k_2,t7,t8,(IntKind.i64.wrap (t9+(1:Int))))
 else
  some (.inl ())
def u09_:(List YY12)×YY32×(List YY12)×Int×Int→Option YY24:=loopN ubi2_ fuel
def ubah_:YY32×(List YY12)→Option (Int):=fun (k_0,l_1) =>
 (u09_ (l_1,k_0,l_1,(l_1.length:Int),(0:Int))).bind fun r7 =>
 match r7 with
 | .inl y8 =>
   some (0:Int)
 | .inr y8' =>
   some y8'
def ubla_ (next:YY32×YY9×(List YY2)×Int×Int→Option (Sum (YY32×YY9) (Int))):YY32×YY9×(List YY2)×Int×Int→Option (Sum (YY32×YY9) (Int)):=fun (k_2,b_3,t36,t37,t38) =>
 bif (decide (t38<t37)) then
  (at? t36 t38).bind fun y4 =>
  (uzh_ ((k_2.1,k_2.2),y4)).bind fun r5 =>
  bif (!(eqI r5 (0:Int))) then
   some (.inr r5)
  else
   (bif ((!k_2.1)&&(decide ((0:Int)<t38))) then at? b_3.2.2.2.1 (IntKind.i64.wrap (t38-(1:Int))) else some (([]:Str),((([]:Str),(([]:Str),(([]:Str),(([]:Str),(([]:List (Str×Str)),([]:Str)))))),(([]:List (Str×Str)),(([]:Str),([]:List Str)))))).bind fun y6 =>
   bif (((!k_2.1)&&(decide ((0:Int)<t38)))&&(Op.bytesLess y4.1 y6.1||eqS y4.1 y6.1)) then
    some (.inr (10:Int))
   else
    next ((k_2.1,(putKV eqS y4.1 true k_2.2)),b_3,t36,t37,(IntKind.i64.wrap (t38+(1:Int))))
 else
  some (.inl ((k_2.1,k_2.2),b_3))
def u4a_:YY32×YY9×(List YY2)×Int×Int→Option (Sum (YY32×YY9) (Int)):=loopN ubla_ fuel
def ubdl_:YY32×YY9→Option (Int):=fun (k_0,b_1) =>
 (bif (!(eqS b_1.1 ([]:Str))) then ubsr_ b_1.1 else some false).bind fun r1 =>
 (bif (!((eqS b_1.1 ([]:Str))||(!r1))) then ubsr_ b_1.2.1 else some false).bind fun r2 =>
 bif (((eqS b_1.1 ([]:Str))||(!r1))||(!r2)) then
  some (8:Int)
 else
  bif ((decide ((3000:Int)<(b_1.2.2.2.1.length:Int)))||(decide ((20000:Int)<(b_1.2.2.2.2.length:Int)))) then
   some (3:Int)
  else
   (u4a_ ((k_0.1,k_0.2),b_1,b_1.2.2.2.1,(b_1.2.2.2.1.length:Int),(0:Int))).bind fun r8 =>
   match r8 with
   | .inl y9 =>
     bif (!((uck_ eqS y9.2.2.2.1 y9.1.2).getD false)) then
      some (4:Int)
     else
      (ubah_ ((y9.1.1,y9.1.2),y9.2.2.2.2.2)).bind fun r10 =>
      some r10
   | .inr y9' =>
     some y9'
def ubrv_:Str×Str×Str×(List YY2)×(List YY12)→Option (Int):=fun b_0 =>
 (ubdl_ ((false,([]:List (Str×Bool))),b_0)).bind fun r1 =>
 some r1
def ubsw_ (next:Str×Int×Int→Option YY28):Str×Int×Int→Option YY28:=fun (s_0,t6,t7) =>
 bif (decide (t7<t6)) then
  (at? s_0 t7).bind fun b1 =>
  bif (!(((((((decide ((97:Int)≤(b1.toNat:Int)))&&(decide ((b1.toNat:Int)≤(122:Int))))||((decide ((65:Int)≤(b1.toNat:Int)))&&(decide ((b1.toNat:Int)≤(90:Int)))))||((decide ((48:Int)≤(b1.toNat:Int)))&&(decide ((b1.toNat:Int)≤(57:Int)))))||(eqI (b1.toNat:Int) (46:Int)))||(eqI (b1.toNat:Int) (45:Int)))||(eqI (b1.toNat:Int) (95:Int)))) then
   some (.inr false)
  else
   next (s_0,t6,(IntKind.i64.wrap (t7+(1:Int))))
 else
  some (.inl ())
def ubdm_:Str×Int×Int→Option YY28:=loopN ubsw_ fuel
def u4b_:Str→Option (Bool):=fun s_0 =>
 (ubdm_ (s_0,(s_0.length:Int),(0:Int))).bind fun r6 =>
 match r6 with
 | .inl y7 =>
   some ((!(eqS s_0 ([]:Str)))&&(decide ((s_0.length:Int)≤(60:Int))))
 | .inr y7' =>
   some y7'
def u8h_ (next:YY3×(List Str)×Int×Int→Option YY24):YY3×(List Str)×Int×Int→Option YY24:=fun (a_1,t10,t11,t12) =>
 bif (decide (t12<t11)) then
  (at? t10 t12).bind fun y1 =>
  (u4b_ y1).bind fun r2 =>
  bif (!r2) then
   some (.inr (8:Int))
  else
   bif (eqS y1 a_1.1) then
    some (.inr (5:Int))
   else
    (bif (decide ((0:Int)<t12)) then at? a_1.2.1 (IntKind.i64.wrap (t12-(1:Int))) else some ([]:Str)).bind fun y3 =>
    bif ((decide ((0:Int)<t12))&&(Op.bytesLess y1 y3||eqS y1 y3)) then
     some (.inr (10:Int))
    else
     next (a_1,t10,t11,(IntKind.i64.wrap (t12+(1:Int))))
 else
  some (.inl ())
def usv_:YY3×(List Str)×Int×Int→Option YY24:=loopN u8h_ fuel
def uzi_:Str×(List Str)×Str×Int×Bool×Str×(List YY14)→Option (Int):=fun a_0 =>
 bif (decide ((20:Int)<(a_0.2.1.length:Int))) then
  some (3:Int)
 else
  (usv_ (a_0,a_0.2.1,(a_0.2.1.length:Int),(0:Int))).bind fun r5 =>
  match r5 with
  | .inl y6 =>
    some (0:Int)
  | .inr y6' =>
    some y6'
def ubdn_:Unit→Option (List YY38):=fun _ =>
 let v1:=(putKV eqI (76:Int) (22:Int) (putKV eqI (72:Int) (56:Int) ([]:List (Int×Int))))
 some ([(putKV eqI (80:Int) (20:Int) (putKV eqI (76:Int) (55:Int) (putKV eqI (65:Int) (62:Int) (putKV eqI (78:Int) (85:Int) ([]:List (Int×Int)))))),(putKV eqI (72:Int) (44:Int) (putKV eqI (76:Int) (77:Int) ([]:List (Int×Int)))),(putKV eqI (72:Int) (27:Int) (putKV eqI (76:Int) (62:Int) (putKV eqI (78:Int) (85:Int) ([]:List (Int×Int))))),(putKV eqI (78:Int) (0:Int) v1),(putKV eqI (78:Int) (0:Int) v1),(putKV eqI (78:Int) (0:Int) v1)]:List YY38)
def ubp9_ (next:Str×(List Int)×(List YY38)×Int→Option (Sum (List Int) (Int×Int))):Str×(List Int)×(List YY38)×Int→Option (Sum (List Int) (Int×Int)):=fun (vector_0,w_5,t16,t17) =>
 bif (decide (t17<(6:Int))) then
  (at? t16 t17).bind fun y2 =>
  (at? vector_0 t17).bind fun b3 =>
  bif (!(uck_ eqI (b3.toNat:Int) y2).isSome) then
   some (.inr ((0:Int),(7:Int)))
  else
   (in? 6 t17).bind fun _ =>
   next (vector_0,(w_5.set t17.toNat ((uck_ eqI (b3.toNat:Int) y2).getD (0:Int))),t16,(IntKind.i64.wrap (t17+(1:Int))))
 else
  some (.inl w_5)
def ubai_:Str×(List Int)×(List YY38)×Int→Option (Sum (List Int) (Int×Int)):=loopN ubp9_ fuel
def u8i_:Str→Option (Int×Int):=fun vector_0 =>
 (ubdn_ ()).bind fun r1 =>
 bif (!(eqI (vector_0.length:Int) (6:Int))) then
  some ((0:Int),(2:Int))
 else
  (ubai_ (vector_0,(List.replicate 6 (0:Int)),r1,(0:Int))).bind fun r4 =>
  match r4 with
  | .inl y5 =>
    let v7:=(IntKind.i64.wrap ((IntKind.i64.wrap ((IntKind.i64.wrap ((100:Int)-(y5.getD 3 (0:Int))))*(IntKind.i64.wrap ((100:Int)-(y5.getD 4 (0:Int))))))*(IntKind.i64.wrap ((100:Int)-(y5.getD 5 (0:Int))))))
    bif (eqI (IntKind.i64.wrap ((1000000:Int)-v7)) (0:Int)) then
     some ((0:Int),(0:Int))
    else
     (div? IntKind.i64 (IntKind.i64.wrap ((IntKind.i64.wrap ((IntKind.i64.wrap ((10:Int)*(IntKind.i64.wrap ((IntKind.i64.wrap ((642:Int)*(IntKind.i64.wrap ((1000000:Int)-v7))))+(IntKind.i64.wrap ((IntKind.i64.wrap ((IntKind.i64.wrap ((822:Int)*(y5.getD 0 (0:Int))))*(y5.getD 1 (0:Int))))*(y5.getD 2 (0:Int))))))))+(100000000:Int)))-(1:Int))) (100000000:Int)).bind fun q12 =>
     some ((minI (100:Int) q12),(0:Int))
  | .inr y5' =>
    some (y5'.1,y5'.2)
def ubzu_ (next:(List Int)×Int×Int→Option (List Int)):(List Int)×Int×Int→Option (List Int):=fun (b_3,t9,t10) =>
 bif (decide (t10<t9)) then
  (in? b_3.length t10).bind fun _ =>
  bif ((decide ((65:Int)≤(b_3.getD t10.toNat (0:Int))))&&(decide ((b_3.getD t10.toNat (0:Int))≤(90:Int)))) then
   (in? b_3.length t10).bind fun _ =>
   next ((b_3.set t10.toNat (IntKind.u8.wrap ((IntKind.u8.wrap ((b_3.getD t10.toNat (0:Int))+(97:Int)))-(65:Int)))),t9,(IntKind.i64.wrap (t10+(1:Int))))
  else
   next (b_3,t9,(IntKind.i64.wrap (t10+(1:Int))))
 else
  some b_3
def ubpt_:(List Int)×Int×Int→Option (List Int):=loopN ubzu_ fuel
def ubdo_:Str→Option Str:=fun s_0 =>
 (ubpt_ ((ud0_ s_0),((ud0_ s_0).length:Int),(0:Int))).bind fun r3 =>
 (cat? [] (strOf r3)).bind fun s4 =>
 some s4
def ug9_:YY20×Int→Option YY20:=fun (r_0,at_1) =>
 bif (decide (r_0.2.2<(0:Int))) then
  some (r_0.1,(r_0.2.1,at_1))
 else
  some r_0
def ufs_:Option YY20→Option (Int):=fun r_0 =>
 (r_0).bind fun p1 =>
 (r_0).bind fun p2 =>
 bif (decide (p1.2.1<(p2.1.length:Int))) then
  (r_0).bind fun p3 =>
  (r_0).bind fun p4 =>
  (at? p3.1 p4.2.1).bind fun b5 =>
  some (b5.toNat:Int)
 else
  some (0:Int)
def ubdp_:Int→Option (Bool):=fun c_0 =>
 some (((decide ((97:Int)≤c_0))&&(decide (c_0≤(122:Int))))||((decide ((65:Int)≤c_0))&&(decide (c_0≤(90:Int)))))
def ublb_ (next:YY20×Int→Option (Sum YY20 (YY20×Str))):YY20×Int→Option (Sum YY20 (YY20×Str)):=fun (r_0,t7) =>
 bif (decide (t7<(4:Int))) then
  (bif (!(decide ((r_0.1.length:Int)≤t7))) then cut? r_0.1 t7 (IntKind.i64.wrap (t7+(1:Int))) else some ([]:Str)).bind fun s1 =>
  (bif (!(decide ((r_0.1.length:Int)≤t7))) then ubdo_ s1 else some ([]:Str)).bind fun r2 =>
  (bif (!(decide ((r_0.1.length:Int)≤t7))) then cut? ([112,107,103,58]:Str) t7 (IntKind.i64.wrap (t7+(1:Int))) else some ([]:Str)).bind fun s3 =>
  bif ((decide ((r_0.1.length:Int)≤t7))||(!(eqS r2 s3))) then
   (ug9_ (r_0,t7)).bind fun r4 =>
   some (.inr (r4,([]:Str)))
  else
   next (r_0,(IntKind.i64.wrap (t7+(1:Int))))
 else
  some (.inl r_0)
def u4c_:YY20×Int→Option (Sum YY20 (YY20×Str)):=loopN ublb_ fuel
def ublc_ (next:Str×Int×Int→Option YY20):Str×Int×Int→Option YY20:=fun r_0 =>
 (bif (decide (r_0.2.1<(r_0.1.length:Int))) then at? r_0.1 r_0.2.1 else some 0).bind fun b8 =>
 (bif (decide (r_0.2.1<(r_0.1.length:Int))) then ubdp_ (b8.toNat:Int) else some false).bind fun r9 =>
 bif ((decide (r_0.2.1<(r_0.1.length:Int)))&&r9) then
  next (r_0.1,((IntKind.i64.wrap (r_0.2.1+(1:Int))),r_0.2.2))
 else
  some r_0
def u4d_:Str×Int×Int→Option YY20:=loopN ublc_ fuel
def u4e_:YY20×Bool→Option YY20:=fun (r_0,t45) =>
 bif t45 then
  some (r_0.1,((IntKind.i64.wrap (r_0.2.1+(1:Int))),r_0.2.2))
 else
  (u4d_ r_0).bind fun r10 =>
  some r10
def ubdq_:YY20×Bool→Option (Str×YY20):=fun (r_0,star_1) =>
 (u4c_ (r_0,(0:Int))).bind fun r5 =>
 match r5 with
 | .inl y6 =>
   (bif star_1 then ufs_ (some (y6.1,((4:Int),y6.2.2))) else some (0:Int)).bind fun r7 =>
   (u4e_ ((y6.1,((4:Int),y6.2.2)),(star_1&&(eqI r7 (42:Int))))).bind fun r11 =>
   (cut? r11.1 (4:Int) r11.2.1).bind fun s12 =>
   (bif (!(eqS s12 ([]:Str))) then ufs_ (some r11) else some (0:Int)).bind fun r13 =>
   bif ((eqS s12 ([]:Str))||(!(eqI r13 (47:Int)))) then
    (ug9_ (r11,r11.2.1)).bind fun r14 =>
    some (([]:Str),r14)
   else
    (ubdo_ s12).bind fun r15 =>
    some (r15,(r11.1,((IntKind.i64.wrap (r11.2.1+(1:Int))),r11.2.2)))
 | .inr y6' =>
   some (y6'.2,y6'.1)
def u1a_:YY20×Int×Int×Bool→Option (YY20×Int):=fun (r_0,i_6,d_7,t63) =>
 bif t63 then
  (at? r_0.1 (IntKind.i64.wrap (r_0.2.1+i_6))).bind fun b5 =>
  (ub1h_ (b5.toNat:Int)).bind fun r6 =>
  some (r_0,r6)
 else
  some (r_0,d_7)
def ubi3_ (next:YY20×Int×Int→Option (Sum (YY20×Int) (YY20×Int×Bool))):YY20×Int×Int→Option (Sum (YY20×Int) (YY20×Int×Bool)):=fun (r_0,n_5,i_6) =>
 bif (decide (i_6≤(2:Int))) then
  (u1a_ (r_0,i_6,(-1:Int),(decide ((IntKind.i64.wrap (r_0.2.1+i_6))<(r_0.1.length:Int))))).bind fun r7 =>
  bif (decide (r7.2<(0:Int))) then
   (ug9_ (r7.1,(IntKind.i64.wrap (r7.1.2.1+i_6)))).bind fun r8 =>
   some (.inr (r8,(0:Int),false))
  else
   next (r7.1,(IntKind.i64.wrap ((IntKind.i64.wrap ((16:Int)*n_5))+r7.2)),(IntKind.i64.wrap (i_6+(1:Int))))
 else
  some (.inl (r_0,n_5))
def u1b_:YY20×Int×Int→Option (Sum (YY20×Int) (YY20×Int×Bool)):=loopN ubi3_ fuel
def ubaj_:Str×Int×Int→Option (Int×Bool×YY20):=fun r_0 =>
 bif (decide ((r_0.1.length:Int)≤r_0.2.1)) then
  some ((0:Int),false,r_0)
 else
  (at? r_0.1 r_0.2.1).bind fun b1 =>
  bif (!(eqI (b1.toNat:Int) (37:Int))) then
   let v2:=((decide ((b1.toNat:Int)<(33:Int)))||(decide ((126:Int)<(b1.toNat:Int))))
   (bif (!v2) then strings_IndexByte (([47,64,63,35,38,61]:Str),(b1.toNat:Int)) else some (0:Int)).bind fun r3 =>
   bif (v2||(decide ((0:Int)≤r3))) then
    some ((0:Int),false,r_0)
   else
    some ((b1.toNat:Int),true,(r_0.1,((IntKind.i64.wrap (r_0.2.1+(1:Int))),r_0.2.2)))
  else
   (u1b_ (r_0,(0:Int),(1:Int))).bind fun r10 =>
   match r10 with
   | .inl y11 =>
     some ((IntKind.u8.wrap y11.2),true,(y11.1.1,((IntKind.i64.wrap (y11.1.2.1+(3:Int))),y11.1.2.2)))
   | .inr y11' =>
     some (y11'.2.1,y11'.2.2,y11'.1)
def ubld_ (next:YY20×(List Int)→Option (YY20×(List Int))):YY20×(List Int)→Option (YY20×(List Int)):=fun (r_0,b_3) =>
 bif (decide (r_0.2.2<(0:Int))) then
  (ubaj_ r_0).bind fun r1 =>
  bif (!r1.2.1) then
   some (r1.2.2,b_3)
  else
   (app? 24 b_3 ([r1.1]:List Int)).bind fun l2 =>
   next (r1.2.2,l2)
 else
  some (r_0,b_3)
def u4f_:YY20×(List Int)→Option (YY20×(List Int)):=loopN ubld_ fuel
def unm_:Str×Int×Int→Option (Str×YY20):=fun r_0 =>
 (u4f_ (r_0,([]:List Int))).bind fun r3 =>
 bif (eqI (r3.2.length:Int) (0:Int)) then
  (ug9_ (r3.1,r3.1.2.1)).bind fun r4 =>
  (cat? [] (strOf r3.2)).bind fun s5 =>
  some (s5,r4)
 else
  (cat? [] (strOf r3.2)).bind fun s6 =>
  some (s6,r3.1)
def ubi4_ (next:YY20×(List Str)→Option (YY20×(List Str))):YY20×(List Str)→Option (YY20×(List Str)):=fun (r_0,l_3) =>
 (bif (decide (r_0.2.2<(0:Int))) then ufs_ (some r_0) else some (0:Int)).bind fun r2 =>
 bif ((decide (r_0.2.2<(0:Int)))&&(eqI r2 (47:Int))) then
  (unm_ (r_0.1,((IntKind.i64.wrap (r_0.2.1+(1:Int))),r_0.2.2))).bind fun r3 =>
  (app? 24 l_3 ([r3.1]:List Str)).bind fun l4 =>
  next (r3.2,l4)
 else
  some (r_0,l_3)
def u1c_:YY20×(List Str)→Option (YY20×(List Str)):=loopN ubi4_ fuel
def uyu_:Str×Int×Int→Option ((List Str)×YY20):=fun r_0 =>
 (unm_ r_0).bind fun r1 =>
 (u1c_ (r1.2,([r1.1]:List Str))).bind fun r5 =>
 some (r5.2,r5.1)
def u8j_ (next:YY20×Int→Option YY20):YY20×Int→Option YY20:=fun (r_0,from_3) =>
 (bif (decide (r_0.2.1<(r_0.1.length:Int))) then at? r_0.1 r_0.2.1 else some 0).bind fun b1 =>
 (bif (decide (r_0.2.1<(r_0.1.length:Int))) then ubdk_ ((b1.toNat:Int),(eqI r_0.2.1 from_3)) else some false).bind fun r2 =>
 bif ((decide (r_0.2.1<(r_0.1.length:Int)))&&r2) then
  next ((r_0.1,((IntKind.i64.wrap (r_0.2.1+(1:Int))),r_0.2.2)),from_3)
 else
  some r_0
def usw_:YY20×Int→Option YY20:=loopN u8j_ fuel
def uzj_:Str×Int×Int→Option ((Str×Str)×YY20):=fun r_0 =>
 (usw_ (r_0,r_0.2.1)).bind fun r3 =>
 (cut? r3.1 r_0.2.1 r3.2.1).bind fun s4 =>
 (bif (!(eqS s4 ([]:Str))) then ufs_ (some r3) else some (0:Int)).bind fun r5 =>
 bif ((eqS s4 ([]:Str))||(!(eqI r5 (61:Int)))) then
  (ug9_ (r3,r3.2.1)).bind fun r6 =>
  some ((([]:Str),([]:Str)),r6)
 else
  (unm_ (r3.1,((IntKind.i64.wrap (r3.2.1+(1:Int))),r3.2.2))).bind fun r7 =>
  some ((s4,r7.1),r7.2)
def u4g_:YY20×YY25×Bool→Option (YY20×YY25):=fun (r_0,p_3,t40) =>
 bif t40 then
  (unm_ (r_0.1,((IntKind.i64.wrap (r_0.2.1+(1:Int))),r_0.2.2))).bind fun r7 =>
  some (r7.2,(p_3.1,(p_3.2.1,(p_3.2.2.1,(r7.1,(p_3.2.2.2.2.1,p_3.2.2.2.2.2))))))
 else
  some (r_0,(p_3.1,(p_3.2.1,(p_3.2.2.1,(p_3.2.2.2.1,(p_3.2.2.2.2.1,p_3.2.2.2.2.2))))))
def uble_ (next:YY20×YY25×Int→Option (YY20×YY25)):YY20×YY25×Int→Option (YY20×YY25):=fun (r_0,p_3,sign_5) =>
 let v9:=((decide (r_0.2.2<(0:Int)))&&(decide (r_0.2.1<(r_0.1.length:Int))))
 (bif v9 then ufs_ (some r_0) else some (0:Int)).bind fun r10 =>
 bif (v9&&(eqI r10 sign_5)) then
  (uzj_ (r_0.1,((IntKind.i64.wrap (r_0.2.1+(1:Int))),r_0.2.2))).bind fun r11 =>
  (app? 48 p_3.2.2.2.2.1 ([r11.1]:List (Str×Str))).bind fun l12 =>
  next (r11.2,(p_3.1,(p_3.2.1,(p_3.2.2.1,(p_3.2.2.2.1,(l12,p_3.2.2.2.2.2))))),(38:Int))
 else
  some (r_0,(p_3.1,(p_3.2.1,(p_3.2.2.1,(p_3.2.2.2.1,(p_3.2.2.2.2.1,p_3.2.2.2.2.2))))))
def u4h_:YY20×YY25×Int→Option (YY20×YY25):=loopN uble_ fuel
def u4i_:YY20×YY25×Bool→Option (YY20×YY25):=fun (r_0,p_3,t97) =>
 bif t97 then
  (uyu_ (r_0.1,((IntKind.i64.wrap (r_0.2.1+(1:Int))),r_0.2.2))).bind fun r15 =>
  (strings_Join (r15.1,([47]:Str))).bind fun r16 =>
  some (r15.2,(p_3.1,(p_3.2.1,(p_3.2.2.1,(p_3.2.2.2.1,(p_3.2.2.2.2.1,r16))))))
 else
  some (r_0,(p_3.1,(p_3.2.1,(p_3.2.2.1,(p_3.2.2.2.1,(p_3.2.2.2.2.1,p_3.2.2.2.2.2))))))
def ubdr_:Str×Int×Int→Option (YY25×YY20):=fun r_0 =>
 (ubdq_ (r_0,false)).bind fun r1 =>
 bif (decide ((0:Int)≤r1.2.2.2)) then
  some ((r1.1,(([]:Str),(([]:Str),(([]:Str),(([]:List (Str×Str)),([]:Str)))))),r1.2)
 else
  (uyu_ r1.2).bind fun r2 =>
  (cut? r2.1 (0:Int) (IntKind.i64.wrap ((r2.1.length:Int)-(1:Int)))).bind fun s3 =>
  (strings_Join (s3,([47]:Str))).bind fun r4 =>
  (at? r2.1 (IntKind.i64.wrap ((r2.1.length:Int)-(1:Int)))).bind fun y5 =>
  (bif (decide (r2.2.2.2<(0:Int))) then ufs_ (some r2.2) else some (0:Int)).bind fun r6 =>
  (u4g_ (r2.2,(r1.1,(r4,(y5,(([]:Str),(([]:List (Str×Str)),([]:Str)))))),((decide (r2.2.2.2<(0:Int)))&&(eqI r6 (64:Int))))).bind fun r8 =>
  (u4h_ (r8.1,(r8.2.1,(r8.2.2.1,(r8.2.2.2.1,(r8.2.2.2.2.1,(r8.2.2.2.2.2.1,r8.2.2.2.2.2.2))))),(63:Int))).bind fun r13 =>
  (bif (decide (r13.1.2.2<(0:Int))) then ufs_ (some r13.1) else some (0:Int)).bind fun r14 =>
  (u4i_ (r13.1,(r13.2.1,(r13.2.2.1,(r13.2.2.2.1,(r13.2.2.2.2.1,(r13.2.2.2.2.2.1,r13.2.2.2.2.2.2))))),((decide (r13.1.2.2<(0:Int)))&&(eqI r14 (35:Int))))).bind fun r17 =>
  bif ((decide (r17.1.2.2<(0:Int)))&&(decide (r17.1.2.1<(r17.1.1.length:Int)))) then
   (ug9_ (r17.1,r17.1.2.1)).bind fun r19 =>
   some ((r17.2.1,(r17.2.2.1,(r17.2.2.2.1,(r17.2.2.2.2.1,(r17.2.2.2.2.2.1,r17.2.2.2.2.2.2))))),r19)
  else
   some ((r17.2.1,(r17.2.2.1,(r17.2.2.2.1,(r17.2.2.2.2.1,(r17.2.2.2.2.2.1,r17.2.2.2.2.2.2))))),r17.1)
def uog_ (next:YY10×Int×YY13×Int→Option YY10):YY10×Int×YY13×Int→Option YY10:=fun (data_0,a_1,cmp_3,j_9) =>
 (bif (decide (a_1<j_9)) then in? data_0.length j_9 else some ()).bind fun _ =>
 (bif (decide (a_1<j_9)) then in? data_0.length (IntKind.i64.wrap (j_9-(1:Int))) else some ()).bind fun _ =>
 (bif (decide (a_1<j_9)) then cmp_3 ((data_0.getD j_9.toNat (([]:Str),([]:Str))),(data_0.getD ((IntKind.i64.wrap (j_9-(1:Int))).toNat) (([]:Str),([]:Str)))) else some (0:Int)).bind fun r3 =>
 bif ((decide (a_1<j_9))&&(decide (r3<(0:Int)))) then
  (in? data_0.length (IntKind.i64.wrap (j_9-(1:Int)))).bind fun _ =>
  let v4:=(data_0.getD ((IntKind.i64.wrap (j_9-(1:Int))).toNat) (([]:Str),([]:Str)))
  (in? data_0.length j_9).bind fun _ =>
  (in? data_0.length j_9).bind fun _ =>
  (in? (data_0.set j_9.toNat v4).length (IntKind.i64.wrap (j_9-(1:Int)))).bind fun _ =>
  next (((data_0.set j_9.toNat v4).set ((IntKind.i64.wrap (j_9-(1:Int))).toNat) (data_0.getD j_9.toNat (([]:Str),([]:Str)))),a_1,cmp_3,(IntKind.i64.wrap (j_9-(1:Int))))
 else
  some data_0
def uf5_:YY10×Int×YY13×Int→Option YY10:=loopN uog_ fuel
def uoh_ (next:YY10×Int×Int×YY13×Int→Option YY10):YY10×Int×Int×YY13×Int→Option YY10:=fun (data_0,a_1,b_2,cmp_3,i_8) =>
 bif (decide (i_8<b_2)) then
  (uf5_ (data_0,a_1,cmp_3,i_8)).bind fun r7 =>
  next (r7,a_1,b_2,cmp_3,(IntKind.i64.wrap (i_8+(1:Int))))
 else
  some data_0
def uf6_:YY10×Int×Int×YY13×Int→Option YY10:=loopN uoh_ fuel
def udp_:YY10×Int×Int×YY13→Option YY10:=fun (data_0,a_1,b_2,cmp_3) =>
 (uf6_ (data_0,a_1,b_2,cmp_3,(IntKind.i64.wrap (a_1+(1:Int))))).bind fun r8 =>
 some r8
def usf_ (next:YY10×Int×Int×Int×Int→Option YY10):YY10×Int×Int×Int×Int→Option YY10:=fun (data_0,a_1,b_2,n_3,i_10) =>
 bif (decide (i_10<n_3)) then
  (in? data_0.length (IntKind.i64.wrap (b_2+i_10))).bind fun _ =>
  let v1:=(data_0.getD ((IntKind.i64.wrap (b_2+i_10)).toNat) (([]:Str),([]:Str)))
  (in? data_0.length (IntKind.i64.wrap (a_1+i_10))).bind fun _ =>
  (in? data_0.length (IntKind.i64.wrap (a_1+i_10))).bind fun _ =>
  (in? (data_0.set ((IntKind.i64.wrap (a_1+i_10)).toNat) v1).length (IntKind.i64.wrap (b_2+i_10))).bind fun _ =>
  next (((data_0.set ((IntKind.i64.wrap (a_1+i_10)).toNat) v1).set ((IntKind.i64.wrap (b_2+i_10)).toNat) (data_0.getD ((IntKind.i64.wrap (a_1+i_10)).toNat) (([]:Str),([]:Str)))),a_1,b_2,n_3,(IntKind.i64.wrap (i_10+(1:Int))))
 else
  some data_0
def uhr_:YY10×Int×Int×Int×Int→Option YY10:=loopN usf_ fuel
def uc7_:YY10×Int×Int×Int×YY13→Option YY10:=fun (data_0,a_1,b_2,n_3,cmp_4) =>
 (uhr_ (data_0,a_1,b_2,n_3,(0:Int))).bind fun r4 =>
 some r4
def uwc_ (next:YY10×Int×YY13×Int×Int→Option (YY10×Int)):YY10×Int×YY13×Int×Int→Option (YY10×Int):=fun (data_0,m_2,cmp_4,i_10,j_11) =>
 bif (!(eqI i_10 j_11)) then
  bif (decide (j_11<i_10)) then
   (uc7_ (data_0,(IntKind.i64.wrap (m_2-i_10)),m_2,j_11,cmp_4)).bind fun r1 =>
   next (r1,m_2,cmp_4,(IntKind.i64.wrap (i_10-j_11)),j_11)
  else
   (uc7_ (data_0,(IntKind.i64.wrap (m_2-i_10)),(IntKind.i64.wrap ((IntKind.i64.wrap (m_2+j_11))-i_10)),i_10,cmp_4)).bind fun r2 =>
   next (r2,m_2,cmp_4,i_10,(IntKind.i64.wrap (j_11-i_10)))
 else
  some (data_0,i_10)
def ujo_:YY10×Int×YY13×Int×Int→Option (YY10×Int):=loopN uwc_ fuel
def umt_:YY10×Int×Int×Int×YY13→Option YY10:=fun (data_0,a_1,m_2,b_3,cmp_4) =>
 (ujo_ (data_0,m_2,cmp_4,(IntKind.i64.wrap (m_2-a_1)),(IntKind.i64.wrap (b_3-m_2)))).bind fun r3 =>
 (uc7_ (r3.1,(IntKind.i64.wrap (m_2-r3.2)),m_2,r3.2,cmp_4)).bind fun r4 =>
 some r4
def usx_ (slf:YY10×Int×Int×Int×YY13→Option YY10) (next:YY10×Int×YY13×Int×Int→Option (YY10×Int)):YY10×Int×YY13×Int×Int→Option (YY10×Int):=fun (data_0,a_1,cmp_4,i_10,j_11) =>
 bif (decide (i_10<j_11)) then
  (shr? IntKind.u64 (IntKind.u64.wrap (IntKind.i64.wrap (i_10+j_11))) (1:Int)).bind fun n1 =>
  (in? data_0.length (IntKind.i64.wrap n1)).bind fun _ =>
  (in? data_0.length a_1).bind fun _ =>
  (cmp_4 ((data_0.getD ((IntKind.i64.wrap n1).toNat) (([]:Str),([]:Str))),(data_0.getD a_1.toNat (([]:Str),([]:Str))))).bind fun r4 =>
  bif (decide (r4<(0:Int))) then
   next (data_0,a_1,cmp_4,(IntKind.i64.wrap ((IntKind.i64.wrap n1)+(1:Int))),j_11)
  else
   next (data_0,a_1,cmp_4,i_10,(IntKind.i64.wrap n1))
 else
  some (data_0,i_10)
def uie_ (slf:YY10×Int×Int×Int×YY13→Option YY10):YY10×Int×YY13×Int×Int→Option (YY10×Int):=loopN (usx_ slf) fuel
def usy_ (slf:YY10×Int×Int×Int×YY13→Option YY10) (next:YY10×Int×Int→Option YY10):YY10×Int×Int→Option YY10:=fun (data_0,i_10,k_13) =>
 bif (decide (k_13<(IntKind.i64.wrap (i_10-(1:Int))))) then
  (in? data_0.length (IntKind.i64.wrap (k_13+(1:Int)))).bind fun _ =>
  let v6:=(data_0.getD ((IntKind.i64.wrap (k_13+(1:Int))).toNat) (([]:Str),([]:Str)))
  (in? data_0.length k_13).bind fun _ =>
  (in? data_0.length k_13).bind fun _ =>
  (in? (data_0.set k_13.toNat v6).length (IntKind.i64.wrap (k_13+(1:Int)))).bind fun _ =>
  next (((data_0.set k_13.toNat v6).set ((IntKind.i64.wrap (k_13+(1:Int))).toNat) (data_0.getD k_13.toNat (([]:Str),([]:Str)))),i_10,(IntKind.i64.wrap (k_13+(1:Int))))
 else
  some data_0
def uif_ (slf:YY10×Int×Int×Int×YY13→Option YY10):YY10×Int×Int→Option YY10:=loopN (usy_ slf) fuel
def usz_ (slf:YY10×Int×Int×Int×YY13→Option YY10) (next:YY10×Int×YY13×Int×Int→Option (YY10×Int)):YY10×Int×YY13×Int×Int→Option (YY10×Int):=fun (data_0,m_2,cmp_4,i_14,j_15) =>
 bif (decide (i_14<j_15)) then
  (shr? IntKind.u64 (IntKind.u64.wrap (IntKind.i64.wrap (i_14+j_15))) (1:Int)).bind fun n10 =>
  (in? data_0.length m_2).bind fun _ =>
  (in? data_0.length (IntKind.i64.wrap n10)).bind fun _ =>
  (cmp_4 ((data_0.getD m_2.toNat (([]:Str),([]:Str))),(data_0.getD ((IntKind.i64.wrap n10).toNat) (([]:Str),([]:Str))))).bind fun r13 =>
  bif (!(decide (r13<(0:Int)))) then
   next (data_0,m_2,cmp_4,(IntKind.i64.wrap ((IntKind.i64.wrap n10)+(1:Int))),j_15)
  else
   next (data_0,m_2,cmp_4,i_14,(IntKind.i64.wrap n10))
 else
  some (data_0,i_14)
def uig_ (slf:YY10×Int×Int×Int×YY13→Option YY10):YY10×Int×YY13×Int×Int→Option (YY10×Int):=loopN (usz_ slf) fuel
def usg_ (slf:YY10×Int×Int×Int×YY13→Option YY10) (next:YY10×Int×Int→Option YY10):YY10×Int×Int→Option YY10:=fun (data_0,i_14,k_17) =>
 bif (decide (i_14<k_17)) then
  (in? data_0.length (IntKind.i64.wrap (k_17-(1:Int)))).bind fun _ =>
  let v15:=(data_0.getD ((IntKind.i64.wrap (k_17-(1:Int))).toNat) (([]:Str),([]:Str)))
  (in? data_0.length k_17).bind fun _ =>
  (in? data_0.length k_17).bind fun _ =>
  (in? (data_0.set k_17.toNat v15).length (IntKind.i64.wrap (k_17-(1:Int)))).bind fun _ =>
  next (((data_0.set k_17.toNat v15).set ((IntKind.i64.wrap (k_17-(1:Int))).toNat) (data_0.getD k_17.toNat (([]:Str),([]:Str)))),i_14,(IntKind.i64.wrap (k_17-(1:Int))))
 else
  some data_0
def uhs_ (slf:YY10×Int×Int×Int×YY13→Option YY10):YY10×Int×Int→Option YY10:=loopN (usg_ slf) fuel
def uht_ (slf:YY10×Int×Int×Int×YY13→Option YY10):Int×Int×Int×Int×Int×Bool→Option (Int×Int):=fun (a_1,m_2,b_3,mid_18,n_19,t140) =>
 bif t140 then
  some ((IntKind.i64.wrap (n_19-b_3)),mid_18)
 else
  some (a_1,m_2)
def ush_ (slf:YY10×Int×Int×Int×YY13→Option YY10) (next:YY10×YY13×Int×Int×Int→Option (YY10×Int)):YY10×YY13×Int×Int×Int→Option (YY10×Int):=fun (data_0,cmp_4,start_20,r_21,p_22) =>
 bif (decide (start_20<r_21)) then
  (shr? IntKind.u64 (IntKind.u64.wrap (IntKind.i64.wrap (start_20+r_21))) (1:Int)).bind fun n22 =>
  (in? data_0.length (IntKind.i64.wrap (p_22-(IntKind.i64.wrap n22)))).bind fun _ =>
  (in? data_0.length (IntKind.i64.wrap n22)).bind fun _ =>
  (cmp_4 ((data_0.getD ((IntKind.i64.wrap (p_22-(IntKind.i64.wrap n22))).toNat) (([]:Str),([]:Str))),(data_0.getD ((IntKind.i64.wrap n22).toNat) (([]:Str),([]:Str))))).bind fun r25 =>
  bif (!(decide (r25<(0:Int)))) then
   next (data_0,cmp_4,(IntKind.i64.wrap ((IntKind.i64.wrap n22)+(1:Int))),r_21,p_22)
  else
   next (data_0,cmp_4,start_20,(IntKind.i64.wrap n22),p_22)
 else
  some (data_0,start_20)
def uhu_ (slf:YY10×Int×Int×Int×YY13→Option YY10):YY10×YY13×Int×Int×Int→Option (YY10×Int):=loopN (ush_ slf) fuel
def uhv_ (slf:YY10×Int×Int×Int×YY13→Option YY10):YY10×Int×YY13×Int×Int×Bool→Option YY10:=fun (data_0,m_2,cmp_4,start_20,end_24,t185) =>
 bif t185 then
  (umt_ (data_0,start_20,m_2,end_24,cmp_4)).bind fun r28 =>
  some r28
 else
  some data_0
def uhw_ (slf:YY10×Int×Int×Int×YY13→Option YY10):YY10×Int×YY13×Int×Int×Bool→Option YY10:=fun (data_0,a_1,cmp_4,mid_18,start_20,t199) =>
 bif t199 then
  (slf (data_0,a_1,start_20,mid_18,cmp_4)).bind fun r31 =>
  some r31
 else
  some data_0
def uqz_ (slf:YY10×Int×Int×Int×YY13→Option YY10):YY10×Int×Int×Int×YY13→Option YY10:=fun (data_0,a_1,m_2,b_3,cmp_4) =>
 bif (eqI (IntKind.i64.wrap (m_2-a_1)) (1:Int)) then
  ((uie_ slf) (data_0,a_1,cmp_4,m_2,b_3)).bind fun r5 =>
  ((uif_ slf) (r5.1,r5.2,a_1)).bind fun r9 =>
  some r9
 else
  bif (eqI (IntKind.i64.wrap (b_3-m_2)) (1:Int)) then
   ((uig_ slf) (data_0,m_2,cmp_4,a_1,m_2)).bind fun r14 =>
   ((uhs_ slf) (r14.1,r14.2,m_2)).bind fun r18 =>
   some r18
  else
   (shr? IntKind.u64 (IntKind.u64.wrap (IntKind.i64.wrap (a_1+b_3))) (1:Int)).bind fun n19 =>
   ((uht_ slf) (a_1,m_2,b_3,(IntKind.i64.wrap n19),(IntKind.i64.wrap ((IntKind.i64.wrap n19)+m_2)),(decide ((IntKind.i64.wrap n19)<m_2)))).bind fun r20 =>
   ((uhu_ slf) (data_0,cmp_4,r20.1,r20.2,(IntKind.i64.wrap ((IntKind.i64.wrap ((IntKind.i64.wrap n19)+m_2))-(1:Int))))).bind fun r26 =>
   let v27:=(IntKind.i64.wrap ((IntKind.i64.wrap ((IntKind.i64.wrap n19)+m_2))-r26.2))
   ((uhv_ slf) (r26.1,m_2,cmp_4,r26.2,v27,((decide (r26.2<m_2))&&(decide (m_2<v27))))).bind fun r29 =>
   ((uhw_ slf) (r29,a_1,cmp_4,(IntKind.i64.wrap n19),r26.2,((decide (a_1<r26.2))&&(decide (r26.2<(IntKind.i64.wrap n19)))))).bind fun r32 =>
   bif ((decide ((IntKind.i64.wrap n19)<v27))&&(decide (v27<b_3))) then
    (slf (r32,(IntKind.i64.wrap n19),v27,b_3,cmp_4)).bind fun r34 =>
    some r34
   else
    some r32
def up_:Nat→YY10×Int×Int×Int×YY13→Option YY10
 | 0=>fun _=>none
 | n+1=>uqz_ (up_ n)
def uft_:YY10×Int×Int×Int×YY13→Option YY10:=up_ 100
def uwd_ (next:YY10×Int×YY13×Int×Int×Int→Option (YY10×Int)):YY10×Int×YY13×Int×Int×Int→Option (YY10×Int):=fun (data_0,n_1,cmp_2,blockSize_6,a_7,b_8) =>
 bif (decide (b_8≤n_1)) then
  (udp_ (data_0,a_7,b_8,cmp_2)).bind fun r1 =>
  next (r1,n_1,cmp_2,blockSize_6,b_8,(IntKind.i64.wrap (b_8+blockSize_6)))
 else
  some (data_0,a_7)
def ujp_:YY10×Int×YY13×Int×Int×Int→Option (YY10×Int):=loopN uwd_ fuel
def uwe_ (next:YY10×Int×YY13×Int×Int×Int→Option (YY10×Int)):YY10×Int×YY13×Int×Int×Int→Option (YY10×Int):=fun (data_0,n_1,cmp_2,blockSize_6,a_7,b_8) =>
 bif (decide (b_8≤n_1)) then
  (uft_ (data_0,a_7,(IntKind.i64.wrap (a_7+blockSize_6)),b_8,cmp_2)).bind fun r4 =>
  next (r4,n_1,cmp_2,blockSize_6,b_8,(IntKind.i64.wrap (b_8+(IntKind.i64.wrap ((2:Int)*blockSize_6)))))
 else
  some (data_0,a_7)
def ujq_:YY10×Int×YY13×Int×Int×Int→Option (YY10×Int):=loopN uwe_ fuel
def uwf_ (next:YY10×Int×YY13×Int→Option YY10):YY10×Int×YY13×Int→Option YY10:=fun (data_0,n_1,cmp_2,blockSize_6) =>
 bif (decide (blockSize_6<n_1)) then
  (ujq_ (data_0,n_1,cmp_2,blockSize_6,(0:Int),(IntKind.i64.wrap ((2:Int)*blockSize_6)))).bind fun r6 =>
  bif (decide ((IntKind.i64.wrap (r6.2+blockSize_6))<n_1)) then
   (uft_ (r6.1,r6.2,(IntKind.i64.wrap (r6.2+blockSize_6)),n_1,cmp_2)).bind fun r7 =>
   next (r7,n_1,cmp_2,(IntKind.i64.wrap (blockSize_6*(2:Int))))
  else
   next (r6.1,n_1,cmp_2,(IntKind.i64.wrap (blockSize_6*(2:Int))))
 else
  some data_0
def ujr_:YY10×Int×YY13×Int→Option YY10:=loopN uwf_ fuel
def umu_:YY10×Int×YY13→Option YY10:=fun (data_0,n_1,cmp_2) =>
 (ujp_ (data_0,n_1,cmp_2,(20:Int),(0:Int),(20:Int))).bind fun r2 =>
 (udp_ (r2.1,r2.2,n_1,cmp_2)).bind fun r3 =>
 (ujr_ (r3,n_1,cmp_2,(20:Int))).bind fun r8 =>
 some r8
def uls_:YY10×YY13→Option YY10:=fun (x_0,cmp_1) =>
 (umu_ (x_0,(x_0.length:Int),cmp_1)).bind fun r1 =>
 some r1
def ubsx_:(Str×Str)×(Str×Str)→Option (Int):=fun (a_0,b_1) =>
 (ubx_ (a_0.1,b_1.1)).bind fun r1 =>
 some r1
def ubn3_:Int→Option (Bool):=fun c_0 =>
 some (((eqI c_0 (45:Int))||(eqI c_0 (95:Int)))||(eqI c_0 (46:Int)))
def ubd_:(List Int)×Int→Option (Unit×(List Int)):=fun (b_0,c_1) =>
 (ujm_ b_0).bind fun r1 =>
 (app? 24 r1 ([c_1]:List Int)).bind fun l2 =>
 some ((),l2)
def ubxf_ (next:Str×(List Int)×Int×Int→Option (List Int)):Str×(List Int)×Int×Int→Option (List Int):=fun (s_0,b_3,t6,t7) =>
 bif (decide (t7<t6)) then
  (at? s_0 t7).bind fun b1 =>
  (ubn3_ (b1.toNat:Int)).bind fun r2 =>
  bif (!r2) then
   (at? s_0 t7).bind fun b3 =>
   (ubd_ (b_3,(b3.toNat:Int))).bind fun r4 =>
   next (s_0,r4.2,t6,(IntKind.i64.wrap (t7+(1:Int))))
  else
   (bif (!(eqI t7 (0:Int))) then at? s_0 (IntKind.i64.wrap (t7-(1:Int))) else some 0).bind fun b5 =>
   (bif (!(eqI t7 (0:Int))) then ubn3_ (b5.toNat:Int) else some false).bind fun r6 =>
   bif ((eqI t7 (0:Int))||(!r6)) then
    (ubd_ (b_3,(45:Int))).bind fun r7 =>
    next (s_0,r7.2,t6,(IntKind.i64.wrap (t7+(1:Int))))
   else
    next (s_0,b_3,t6,(IntKind.i64.wrap (t7+(1:Int))))
 else
  some b_3
def ublf_:Str×(List Int)×Int×Int→Option (List Int):=loopN ubxf_ fuel
def ubv0_:Str→Option Str:=fun s_0 =>
 (ublf_ (s_0,([]:List Int),(s_0.length:Int),(0:Int))).bind fun r8 =>
 (ub0_ r8).bind fun r9 =>
 some r9
def ubak_:YY31×Bool→Option YY31:=fun (p_1,t12) =>
 bif t12 then
  (ubdo_ p_1.2.1).bind fun r2 =>
  (ubdo_ p_1.2.2.1).bind fun r3 =>
  some (p_1.1,(r2,(r3,p_1.2.2.2)))
 else
  some p_1
def u8k_:Str×Str×Str×Str×YY10×Str→Option YY31:=fun p_0 =>
 (ubxd_ p_0.1).bind fun r1 =>
 (ubak_ (p_0,r1.1.2.2.1)).bind fun r4 =>
 bif r1.1.2.2.2.1 then
  (ubv0_ r4.2.2.1).bind fun r5 =>
  (app? 48 [] r4.2.2.2.2.1).bind fun l6 =>
  some (r4.1,(r4.2.1,(r5,(r4.2.2.2.1,(l6,r4.2.2.2.2.2)))))
 else
  (app? 48 [] r4.2.2.2.2.1).bind fun l7 =>
  some (r4.1,(r4.2.1,(r4.2.2.1,(r4.2.2.2.1,(l7,r4.2.2.2.2.2)))))
def ub1i_ (next:YY31×YY25×Int→Option (Sum (YY31×YY25) (YY31×Int×Int))):YY31×YY25×Int→Option (Sum (YY31×YY25) (YY31×Int×Int)):=fun (t2,p_6,i_7) =>
 bif (decide (i_7<(p_6.2.2.2.2.1.length:Int))) then
  (in? p_6.2.2.2.2.1.length i_7).bind fun _ =>
  (in? p_6.2.2.2.2.1.length (IntKind.i64.wrap (i_7-(1:Int)))).bind fun _ =>
  bif (eqS ((p_6.2.2.2.2.1.getD i_7.toNat (([]:Str),([]:Str))).1) ((p_6.2.2.2.2.1.getD ((IntKind.i64.wrap (i_7-(1:Int))).toNat) (([]:Str),([]:Str))).1)) then
   some (.inr ((([]:Str),(([]:Str),(([]:Str),(([]:Str),(([]:List (Str×Str)),([]:Str)))))),(0:Int),(5:Int)))
  else
   next (t2,(p_6.1,(p_6.2.1,(p_6.2.2.1,(p_6.2.2.2.1,(p_6.2.2.2.2.1,p_6.2.2.2.2.2))))),(IntKind.i64.wrap (i_7+(1:Int))))
 else
  some (.inl (t2,(p_6.1,(p_6.2.1,(p_6.2.2.1,(p_6.2.2.2.1,(p_6.2.2.2.2.1,p_6.2.2.2.2.2)))))))
def ubsy_:YY31×YY25×Int→Option (Sum (YY31×YY25) (YY31×Int×Int)):=loopN ub1i_ fuel
def ub23_:Str→Option (YY31×Int×Int):=fun s_0 =>
 bif (decide ((3000:Int)<(s_0.length:Int))) then
  some ((([]:Str),(([]:Str),(([]:Str),(([]:Str),(([]:List (Str×Str)),([]:Str)))))),(0:Int),(3:Int))
 else
  (ubdr_ (s_0,((0:Int),(-1:Int)))).bind fun r2 =>
  bif (decide ((0:Int)≤r2.2.2.2)) then
   some ((([]:Str),(([]:Str),(([]:Str),(([]:Str),(([]:List (Str×Str)),([]:Str)))))),r2.2.2.2,(6:Int))
  else
   (uls_ (r2.1.2.2.2.2.1,(fun x=>(ubsx_ x).bind fun r=>some r))).bind fun r4 =>
   (ubsy_ ((([]:Str),(([]:Str),(([]:Str),(([]:Str),(([]:List (Str×Str)),([]:Str)))))),(r2.1.1,(r2.1.2.1,(r2.1.2.2.1,(r2.1.2.2.2.1,(r4,r2.1.2.2.2.2.2))))),(1:Int))).bind fun r8 =>
   match r8 with
   | .inl y9 =>
     (ubk8_ (y9.2.1,(y9.2.2.1,(y9.2.2.2.1,(y9.2.2.2.2.1,(y9.2.2.2.2.2.1,y9.2.2.2.2.2.2)))))).bind fun r11 =>
     bif (!(eqI r11 (0:Int))) then
      some ((([]:Str),(([]:Str),(([]:Str),(([]:Str),(([]:List (Str×Str)),([]:Str)))))),(0:Int),r11)
     else
      (u8k_ (y9.2.1,(y9.2.2.1,(y9.2.2.2.1,(y9.2.2.2.2.1,(y9.2.2.2.2.2.1,y9.2.2.2.2.2.2)))))).bind fun r14 =>
      some (r14,(0:Int),(0:Int))
   | .inr y9' =>
     some (y9'.1,y9'.2.1,y9'.2.2)
def ub2_:(List Int)×Str→Option (Int×Unit×(List Int)):=fun (b_0,s_1) =>
 (ujm_ b_0).bind fun r1 =>
 (app? 24 r1 (ud0_ s_1)).bind fun l2 =>
 some ((s_1.length:Int),(),l2)
def ubuq_ (next:Str×(List Int)×Int×Int→Option (List Int)):Str×(List Int)×Int×Int→Option (List Int):=fun (s_0,b_3,t7,t8) =>
 bif (decide (t8<t7)) then
  (at? s_0 t8).bind fun b1 =>
  (ubdp_ (b1.toNat:Int)).bind fun r2 =>
  let v3:=((decide ((48:Int)≤(b1.toNat:Int)))&&(decide ((b1.toNat:Int)≤(57:Int))))
  (bif (!(r2||v3)) then strings_IndexByte (([46,45,95,126]:Str),(b1.toNat:Int)) else some (0:Int)).bind fun r4 =>
  bif ((r2||v3)||(decide ((0:Int)≤r4))) then
   (ubd_ (b_3,(b1.toNat:Int))).bind fun r5 =>
   next (s_0,r5.2,t7,(IntKind.i64.wrap (t8+(1:Int))))
  else
   (div? IntKind.u8 (b1.toNat:Int) (16:Int)).bind fun q6 =>
   (div? IntKind.u8 (b1.toNat:Int) (16:Int)).bind fun q7 =>
   (cut? ([48,49,50,51,52,53,54,55,56,57,65,66,67,68,69,70]:Str) q6 (IntKind.u8.wrap (q7+(1:Int)))).bind fun s8 =>
   (cat? ([37]:Str) s8).bind fun s9 =>
   (mod? (b1.toNat:Int) (16:Int)).bind fun q10 =>
   (mod? (b1.toNat:Int) (16:Int)).bind fun q11 =>
   (cut? ([48,49,50,51,52,53,54,55,56,57,65,66,67,68,69,70]:Str) q10 (IntKind.u8.wrap (q11+(1:Int)))).bind fun s12 =>
   (cat? s9 s12).bind fun s13 =>
   (ub2_ (b_3,s13)).bind fun r14 =>
   next (s_0,r14.2.2,t7,(IntKind.i64.wrap (t8+(1:Int))))
 else
  some b_3
def ubh5_:Str×(List Int)×Int×Int→Option (List Int):=loopN ubuq_ fuel
def u8l_:Str→Option Str:=fun s_0 =>
 (ubh5_ (s_0,([]:List Int),(s_0.length:Int),(0:Int))).bind fun r15 =>
 (ub0_ r15).bind fun r16 =>
 some r16
def ub1j_ (next:(List Str)×(List Str)×Int×Int→Option (List Str)):(List Str)×(List Str)×Int×Int→Option (List Str):=fun (l_3,t7,t8,t9) =>
 bif (decide (t9<t8)) then
  (at? t7 t9).bind fun y2 =>
  (u8l_ y2).bind fun r3 =>
  (app? 24 l_3 ([r3]:List Str)).bind fun l4 =>
  next (l4,t7,t8,(IntKind.i64.wrap (t9+(1:Int))))
 else
  some l_3
def ubsz_:(List Str)×(List Str)×Int×Int→Option (List Str):=loopN ub1j_ fuel
def ub24_:Str→Option Str:=fun s_0 =>
 (u39_ s_0).bind fun r1 =>
 (ubsz_ (([]:List Str),r1,(r1.length:Int),(0:Int))).bind fun r5 =>
 (strings_Join (r5,([47]:Str))).bind fun r6 =>
 some r6
def ubs0_:Str×Str×Str×Str×YY10×Str→Option Str:=fun p_0 =>
 (cat? ([112,107,103,58]:Str) p_0.1).bind fun s1 =>
 (cat? s1 ([47]:Str)).bind fun s2 =>
 bif (!(eqS p_0.2.1 ([]:Str))) then
  (ub24_ p_0.2.1).bind fun r3 =>
  (cat? r3 ([47]:Str)).bind fun s4 =>
  (cat? s2 s4).bind fun s5 =>
  (u8l_ p_0.2.2.1).bind fun r6 =>
  (cat? s5 r6).bind fun s7 =>
  some s7
 else
  (u8l_ p_0.2.2.1).bind fun r8 =>
  (cat? s2 r8).bind fun s9 =>
  some s9
def ub1k_:Str×Str×Str×Str×YY10×Str→Option (Str×Int):=fun p_0 =>
 (ubk8_ p_0).bind fun r1 =>
 bif (!(eqI r1 (0:Int))) then
  some (([]:Str),r1)
 else
  (u8k_ p_0).bind fun r2 =>
  (ubs0_ r2).bind fun r3 =>
  some (r3,(0:Int))
def ublg_:Str→Option (Bool):=fun s_0 =>
 (ub23_ s_0).bind fun r1 =>
 bif (!(eqI r1.2.2 (0:Int))) then
  some false
 else
  (ub1k_ r1.1).bind fun r2 =>
  some ((eqI r2.2 (0:Int))&&(eqS r2.1 s_0))
def ubxg_ (next:Str×Int×YY49×Int→Option (Int)):Str×Int×YY49×Int→Option (Int):=fun (s_0,at_1,is_2,n_7) =>
 let v1:=(decide ((IntKind.i64.wrap (at_1+n_7))<(s_0.length:Int)))
 (bif v1 then at? s_0 (IntKind.i64.wrap (at_1+n_7)) else some 0).bind fun b2 =>
 (bif v1 then is_2 (b2.toNat:Int) else some false).bind fun r3 =>
 bif (v1&&r3) then
  next (s_0,at_1,is_2,(IntKind.i64.wrap (n_7+(1:Int))))
 else
  some n_7
def ublh_:Str×Int×YY49×Int→Option (Int):=loopN ubxg_ fuel
def ud1_:Str×Int×YY49→Option (Int):=fun (s_0,at_1,is_2) =>
 (ublh_ (s_0,at_1,is_2,(0:Int))).bind fun r4 =>
 some r4
def ux_:Int→Option (Bool):=fun c_0 =>
 some ((decide ((48:Int)≤c_0))&&(decide (c_0≤(57:Int))))
def ub3_:Str→Option (Int×Bool):=fun s_0 =>
 let v1:=((eqS s_0 ([]:Str))||(decide ((18:Int)<(s_0.length:Int))))
 (bif (!v1) then ud1_ (s_0,(0:Int),(fun x=>(ux_ x).bind fun r=>some r)) else some (0:Int)).bind fun r2 =>
 bif (v1||(!(eqI r2 (s_0.length:Int)))) then
  some ((0:Int),false)
 else
  (ubsp_ s_0).bind fun r3 =>
  some (r3.1,true)
def uih_:Str→Option (Int×Bool):=fun s_0 =>
 (bif (decide ((1:Int)<(s_0.length:Int))) then at? s_0 (0:Int) else some 0).bind fun b1 =>
 bif ((decide ((1:Int)<(s_0.length:Int)))&&(eqI (b1.toNat:Int) (48:Int))) then
  some ((0:Int),false)
 else
  (ub3_ s_0).bind fun r3 =>
  some (r3.1,r3.2)
def ufu_:Int→Option (Bool):=fun c_0 =>
 some (((decide ((65:Int)≤c_0))&&(decide (c_0≤(90:Int))))||((decide ((97:Int)≤c_0))&&(decide (c_0≤(122:Int)))))
def uxk_:Int→Option (Bool):=fun c_0 =>
 (ux_ c_0).bind fun r1 =>
 (bif (!r1) then ufu_ c_0 else some false).bind fun r2 =>
 some ((r1||r2)||(eqI c_0 (45:Int)))
def ubds_ (next:(List Str)×Int×Int→Option (Sum (Unit) YY42)):(List Str)×Int×Int→Option (Sum (Unit) YY42):=fun (t9,t10,t11) =>
 bif (decide (t11<t10)) then
  (at? t9 t11).bind fun y2 =>
  (bif (!(eqS y2 ([]:Str))) then ud1_ (y2,(0:Int),(fun x=>(uxk_ x).bind fun r=>some r)) else some (0:Int)).bind fun r3 =>
  bif ((eqS y2 ([]:Str))||(!(eqI r3 (y2.length:Int)))) then
   some (.inr (([]:List Str),false))
  else
   next (t9,t10,(IntKind.i64.wrap (t11+(1:Int))))
 else
  some (.inl ())
def uxl_:(List Str)×Int×Int→Option (Sum (Unit) YY42):=loopN ubds_ fuel
def us0_:Str→Option YY42:=fun s_0 =>
 (strings_Split (s_0,([46]:Str))).bind fun r1 =>
 (uxl_ (r1,(r1.length:Int),(0:Int))).bind fun r5 =>
 match r5 with
 | .inl y6 =>
   some (r1,true)
 | .inr y6' =>
   some (y6'.1,y6'.2)
def ubli_ (next:(List Str)×Int×Int→Option (Sum (Unit) YY42)):(List Str)×Int×Int→Option (Sum (Unit) YY42):=fun (t15,t16,t17) =>
 bif (decide (t17<t16)) then
  (at? t15 t17).bind fun y2 =>
  (ud1_ (y2,(0:Int),(fun x=>(ux_ x).bind fun r=>some r))).bind fun r3 =>
  bif (eqI r3 (y2.length:Int)) then
   (uih_ y2).bind fun r4 =>
   bif (!r4.2) then
    some (.inr (([]:List Str),false))
   else
    next (t15,t16,(IntKind.i64.wrap (t17+(1:Int))))
  else
   next (t15,t16,(IntKind.i64.wrap (t17+(1:Int))))
 else
  some (.inl ())
def u4j_:(List Str)×Int×Int→Option (Sum (Unit) YY42):=loopN ubli_ fuel
def ubdt_:Str→Option YY42:=fun s_0 =>
 (us0_ s_0).bind fun r1 =>
 (u4j_ (r1.1,(r1.1.length:Int),(0:Int))).bind fun r5 =>
 match r5 with
 | .inl y6 =>
   some (r1.1,r1.2)
 | .inr y6' =>
   some (y6'.1,y6'.2)
def ubs1_:Str→Option YY42:=fun s_0 =>
 (strings_Cut (s_0,([43]:Str))).bind fun r1 =>
 (us0_ r1.2.1).bind fun r2 =>
 bif (r1.2.2&&(!r2.2)) then
  some (([]:List Str),false)
 else
  bif (eqS r1.1 ([]:Str)) then
   some (([]:List Str),true)
  else
   (at? r1.1 (0:Int)).bind fun b3 =>
   bif (!(eqI (b3.toNat:Int) (45:Int))) then
    some (([]:List Str),false)
   else
    (cut? r1.1 (1:Int) (r1.1.length:Int)).bind fun s4 =>
    (ubdt_ s4).bind fun r5 =>
    some (r5.1,r5.2)
def uzk_:Str×Int×Bool→Option (Sum (Int) (YY11×Bool)):=fun (s_0,at_5,t16) =>
 bif t16 then
  (bif (!(decide ((s_0.length:Int)≤at_5))) then at? s_0 at_5 else some 0).bind fun b1 =>
  bif ((decide ((s_0.length:Int)≤at_5))||(!(eqI (b1.toNat:Int) (46:Int)))) then
   some (.inr ((Sum.inr (Sum.inr (Sum.inr (Sum.inr (Sum.inr ()))))),false))
  else
   some (.inl (IntKind.i64.wrap (at_5+(1:Int))))
 else
  some (.inl at_5)
def ubgj_ (next:Str×YY50×Int×Int→Option (Sum (YY50×Int) (YY11×Bool))):Str×YY50×Int×Int→Option (Sum (YY50×Int) (YY11×Bool)):=fun (s_0,v_4,at_5,t12) =>
 bif (decide (t12<(3:Int))) then
  (uzk_ (s_0,at_5,(decide ((0:Int)<t12)))).bind fun r3 =>
  match r3 with
  | .inl y4 =>
    (ud1_ (s_0,y4,(fun x=>(ux_ x).bind fun r=>some r))).bind fun r5 =>
    (cut? s_0 y4 (IntKind.i64.wrap (y4+r5))).bind fun s6 =>
    (uih_ s6).bind fun r7 =>
    bif (!r7.2) then
     some (.inr ((Sum.inr (Sum.inr (Sum.inr (Sum.inr (Sum.inr ()))))),false))
    else
     (in? 3 t12).bind fun _ =>
     next (s_0,((v_4.1.set t12.toNat r7.1),v_4.2),(IntKind.i64.wrap (y4+r5)),(IntKind.i64.wrap (t12+(1:Int))))
  | .inr y4' =>
    some (.inr (y4'.1,y4'.2))
 else
  some (.inl ((v_4.1,v_4.2),at_5))
def uzl_:Str×YY50×Int×Int→Option (Sum (YY50×Int) (YY11×Bool)):=loopN ubgj_ fuel
def u6o_:Str→Option (YY11×Bool):=fun s_0 =>
 (uzl_ (s_0,((List.replicate 3 (0:Int)),([]:List Str)),(0:Int),(0:Int))).bind fun r8 =>
 match r8 with
 | .inl y9 =>
   (cut? s_0 y9.2 (s_0.length:Int)).bind fun s10 =>
   (ubs1_ s10).bind fun r11 =>
   some ((Sum.inl (y9.1.1,r11.1)),r11.2)
 | .inr y9' =>
   some (y9'.1,y9'.2)
def uxm_:Int→Option (Bool):=fun c_0 =>
 (ux_ c_0).bind fun r1 =>
 (bif (!r1) then ufu_ c_0 else some false).bind fun r2 =>
 (bif (!(r1||r2)) then strings_IndexByte (([46,43,126,45]:Str),c_0) else some (0:Int)).bind fun r3 =>
 some ((r1||r2)||(decide ((0:Int)≤r3)))
def ubi5_ (next:Str×Int→Option YY28):Str×Int→Option YY28:=fun (s_0,at_3) =>
 bif (decide (at_3<(s_0.length:Int))) then
  (ud1_ (s_0,at_3,(fun x=>(ux_ x).bind fun r=>some r))).bind fun r1 =>
  bif (decide ((18:Int)<r1)) then
   some (.inr false)
  else
   next (s_0,(IntKind.i64.wrap (at_3+(maxI r1 (1:Int)))))
 else
  some (.inl ())
def u1d_:Str×Int→Option YY28:=loopN ubi5_ fuel
def ubal_:Str→Option (Bool):=fun s_0 =>
 (u1d_ (s_0,(0:Int))).bind fun r2 =>
 match r2 with
 | .inl y3 =>
   some true
 | .inr y3' =>
   some y3'
def uxn_:Str×(Int×Str×Str×Bool)×Str×Str×Bool→Option (Sum (Str×(Int×Str×Str×Bool)) (YY11×Bool)):=fun (s_0,v_4,epoch_5,rest_6,t18) =>
 bif t18 then
  (uih_ epoch_5).bind fun r2 =>
  bif (!r2.2) then
   some (.inr ((Sum.inr (Sum.inr (Sum.inr (Sum.inr (Sum.inr ()))))),false))
  else
   some (.inl (rest_6,(r2.1,v_4.2)))
 else
  some (.inl (s_0,v_4))
def u4k_:Str→Option (YY11×Bool):=fun s_0 =>
 (strings_Cut (s_0,([58]:Str))).bind fun r1 =>
 (uxn_ (s_0,((0:Int),(([]:Str),(([]:Str),false))),r1.1,r1.2.1,r1.2.2)).bind fun r3 =>
 match r3 with
 | .inl y4 =>
   (bif (!(eqS y4.1 ([]:Str))) then at? y4.1 (0:Int) else some 0).bind fun b5 =>
   (bif (!(eqS y4.1 ([]:Str))) then ux_ (b5.toNat:Int) else some false).bind fun r6 =>
   (bif (!((eqS y4.1 ([]:Str))||(!r6))) then ud1_ (y4.1,(0:Int),(fun x=>(uxm_ x).bind fun r=>some r)) else some (0:Int)).bind fun r7 =>
   let v8:=(((eqS y4.1 ([]:Str))||(!r6))||(!(eqI r7 (y4.1.length:Int))))
   (bif (!v8) then ubal_ y4.1 else some false).bind fun r9 =>
   bif (v8||(!r9)) then
    some ((Sum.inr (Sum.inr (Sum.inr (Sum.inr (Sum.inr ()))))),false)
   else
    (strings_LastIndexByte (y4.1,(45:Int))).bind fun r10 =>
    bif (decide ((0:Int)≤r10)) then
     (cut? y4.1 (0:Int) r10).bind fun s11 =>
     (cut? y4.1 (IntKind.i64.wrap (r10+(1:Int))) (y4.1.length:Int)).bind fun s12 =>
     bif (eqS s12 ([]:Str)) then
      some ((Sum.inr (Sum.inr (Sum.inr (Sum.inr (Sum.inr ()))))),false)
     else
      (strings_IndexByte (s11,(45:Int))).bind fun r13 =>
      some ((Sum.inr (Sum.inl (y4.2.1,(s11,(s12,(decide ((0:Int)≤r13))))))),true)
    else
     (strings_IndexByte (y4.1,(45:Int))).bind fun r15 =>
     some ((Sum.inr (Sum.inl (y4.2.1,(y4.1,(y4.2.2.2.1,(decide ((0:Int)≤r15))))))),true)
 | .inr y4' =>
   some (y4'.1,y4'.2)
def ubi6_ (next:Str×(List Int)→Option ((List Int)×Str×Bool)):Str×(List Int)→Option ((List Int)×Str×Bool):=fun (s_0,out_5) =>
 (ud1_ (s_0,(0:Int),(fun x=>(ux_ x).bind fun r=>some r))).bind fun r1 =>
 (cut? s_0 (0:Int) r1).bind fun s2 =>
 (ub3_ s2).bind fun r3 =>
 bif (!r3.2) then
  some (([]:List Int),([]:Str),false)
 else
  (app? 24 out_5 ([r3.1]:List Int)).bind fun l4 =>
  (cut? s_0 r1 (s_0.length:Int)).bind fun s5 =>
  (bif (!(decide ((s5.length:Int)<(2:Int)))) then at? s5 (0:Int) else some 0).bind fun b6 =>
  let v7:=((decide ((s5.length:Int)<(2:Int)))||(!(eqI (b6.toNat:Int) (46:Int))))
  (bif (!v7) then at? s5 (1:Int) else some 0).bind fun b8 =>
  (bif (!v7) then ux_ (b8.toNat:Int) else some false).bind fun r9 =>
  bif (v7||(!r9)) then
   some (l4,s5,true)
  else
   (cut? s5 (1:Int) (s5.length:Int)).bind fun s10 =>
   next (s10,l4)
def u1e_:Str×(List Int)→Option ((List Int)×Str×Bool):=loopN ubi6_ fuel
def ubam_:Str→Option ((List Int)×Str×Bool):=fun s_0 =>
 (u1e_ (s_0,([]:List Int))).bind fun r11 =>
 some (r11.1,r11.2.1,r11.2.2)
def ublj_:Int→Option (Bool):=fun c_0 =>
 some (((eqI c_0 (46:Int))||(eqI c_0 (45:Int)))||(eqI c_0 (95:Int)))
def u8m_:Str×YY49→Option (Int):=fun (s_0,is_1) =>
 (bif (decide ((1:Int)<(s_0.length:Int))) then at? s_0 (0:Int) else some 0).bind fun b1 =>
 (bif (decide ((1:Int)<(s_0.length:Int))) then ublj_ (b1.toNat:Int) else some false).bind fun r2 =>
 (bif ((decide ((1:Int)<(s_0.length:Int)))&&r2) then at? s_0 (1:Int) else some 0).bind fun b3 =>
 (bif ((decide ((1:Int)<(s_0.length:Int)))&&r2) then is_1 (b3.toNat:Int) else some false).bind fun r4 =>
 bif (((decide ((1:Int)<(s_0.length:Int)))&&r2)&&r4) then
  some (1:Int)
 else
  some (0:Int)
def ubi7_ (next:Str×Str×(List Str)×Int×Int→Option Str):Str×Str×(List Str)×Int×Int→Option Str:=fun (s_0,word_2,t7,t8,t9) =>
 bif (decide (t9<t8)) then
  (at? t7 t9).bind fun y2 =>
  (strings_HasPrefix (s_0,y2)).bind fun r3 =>
  bif r3 then
   some y2
  else
   next (s_0,word_2,t7,t8,(IntKind.i64.wrap (t9+(1:Int))))
 else
  some word_2
def u1f_:Str×Str×(List Str)×Int×Int→Option Str:=loopN ubi7_ fuel
def u1g_:Str×Bool→Option (Bool):=fun (t18,t21) =>
 bif t21 then
  some t21
 else
  some (eqS t18 ([97,108,112,104,97]:Str))
def u1h_:Str×Bool→Option (Bool):=fun (t18,t25) =>
 bif t25 then
  some t25
 else
  some (eqS t18 ([98,101,116,97]:Str))
def u1i_:Str×Bool→Option (Bool):=fun (t18,t29) =>
 bif t29 then
  some t29
 else
  bif (eqS t18 ([114,99]:Str)) then
   some (eqS t18 ([114,99]:Str))
  else
   bif (eqS t18 ([112,114,101]:Str)) then
    some (eqS t18 ([112,114,101]:Str))
   else
    some (eqS t18 ([112,114,101,118,105,101,119]:Str))
def uban_:Str→Option YY20:=fun s_0 =>
 let v1:=([([112,114,101,118,105,101,119]:Str),([97,108,112,104,97]:Str),([98,101,116,97]:Str),([112,111,115,116]:Str),([112,114,101]:Str),([114,101,118]:Str),([100,101,118]:Str),([114,99]:Str),([97]:Str),([98]:Str),([99]:Str),([114]:Str)]:List Str)
 (u1f_ (s_0,([]:Str),v1,(v1.length:Int),(0:Int))).bind fun r4 =>
 bif (eqS r4 ([]:Str)) then
  some (([]:Str),(0:Int),(0:Int))
 else
  (u1g_ (r4,(eqS r4 ([97]:Str)))).bind fun r5 =>
  bif r5 then
   some (r4,(1:Int),(1:Int))
  else
   (u1h_ (r4,(eqS r4 ([98]:Str)))).bind fun r6 =>
   bif r6 then
    some (r4,(1:Int),(2:Int))
   else
    (u1i_ (r4,(eqS r4 ([99]:Str)))).bind fun r7 =>
    bif r7 then
     some (r4,(1:Int),(3:Int))
    else
     bif (eqS r4 ([112,111,115,116]:Str)) then
      bif (eqS r4 ([112,111,115,116]:Str)) then
       some (r4,(2:Int),(0:Int))
      else
       some (r4,(3:Int),(0:Int))
     else
      bif (eqS r4 ([114,101,118]:Str)) then
       bif (eqS r4 ([114,101,118]:Str)) then
        some (r4,(2:Int),(0:Int))
       else
        some (r4,(3:Int),(0:Int))
      else
       bif (eqS r4 ([114]:Str)) then
        some (r4,(2:Int),(0:Int))
       else
        some (r4,(3:Int),(0:Int))
def uu7_:Str×Int×Int×Bool→Option (Sum (Str×Int) (Str×Bool)):=fun (rest_7,n_11,k_12,t49) =>
 bif t49 then
  (ud1_ (rest_7,k_12,(fun x=>(ux_ x).bind fun r=>some r))).bind fun r9 =>
  (cut? rest_7 k_12 (IntKind.i64.wrap (k_12+r9))).bind fun s10 =>
  (ub3_ s10).bind fun r11 =>
  bif (!r11.2) then
   some (.inr (([]:Str),false))
  else
   (cut? rest_7 (IntKind.i64.wrap (k_12+r9)) (rest_7.length:Int)).bind fun s12 =>
   some (.inl (s12,r11.1))
 else
  some (.inl (rest_7,n_11))
def ubbx_ (next:YY19×Str×Int→Option (YY19×Str×Bool)):YY19×Str×Int→Option (YY19×Str×Bool):=fun (v_0,s_1,last_6) =>
 (u8m_ (s_1,(fun x=>(ufu_ x).bind fun r=>some r))).bind fun r1 =>
 (cut? s_1 r1 (s_1.length:Int)).bind fun s2 =>
 (uban_ s2).bind fun r3 =>
 bif (eqS r3.1 ([]:Str)) then
  some (v_0,s_1,true)
 else
  bif (decide (r3.2.1≤last_6)) then
   some (v_0,([]:Str),false)
  else
   (cut? s2 (r3.1.length:Int) (s2.length:Int)).bind fun s4 =>
   (u8m_ (s4,(fun x=>(ux_ x).bind fun r=>some r))).bind fun r5 =>
   (bif ((!(decide ((0:Int)<r5)))&&(!(eqS s4 ([]:Str)))) then at? s4 (0:Int) else some 0).bind fun b6 =>
   (bif ((!(decide ((0:Int)<r5)))&&(!(eqS s4 ([]:Str)))) then ux_ (b6.toNat:Int) else some false).bind fun r7 =>
   (uu7_ (s4,(0:Int),r5,((decide ((0:Int)<r5))||((!(eqS s4 ([]:Str)))&&r7)))).bind fun r13 =>
   match r13 with
   | .inl y14 =>
     bif (eqI r3.2.1 (1:Int)) then
      next ((v_0.1,(v_0.2.1,(r3.2.2,(y14.2,v_0.2.2.2.2)))),y14.1,r3.2.1)
     else
      bif (eqI r3.2.1 (2:Int)) then
       next ((v_0.1,(v_0.2.1,(v_0.2.2.1,(v_0.2.2.2.1,(y14.2,v_0.2.2.2.2.2))))),y14.1,r3.2.1)
      else
       bif (eqI r3.2.1 (3:Int)) then
        next ((v_0.1,(v_0.2.1,(v_0.2.2.1,(v_0.2.2.2.1,(v_0.2.2.2.2.1,(y14.2,v_0.2.2.2.2.2.2)))))),y14.1,r3.2.1)
       else
        next (v_0,y14.1,r3.2.1)
   | .inr y14' =>
     some (v_0,y14'.1,y14'.2)
def uu8_:YY19×Str×Int→Option (YY19×Str×Bool):=loopN ubbx_ fuel
def u1j_:YY19×Str→Option (Str×Bool×YY19):=fun (v_0,s_1) =>
 (uu8_ (v_0,s_1,(0:Int))).bind fun r15 =>
 some (r15.2.1,r15.2.2,r15.1)
def u6p_:Int→Option (Bool):=fun c_0 =>
 some (((eqI c_0 (46:Int))||(eqI c_0 (45:Int)))||(eqI c_0 (95:Int)))
def u6q_:Int→Option (Bool):=fun c_0 =>
 (ux_ c_0).bind fun r1 =>
 (bif (!r1) then ufu_ c_0 else some false).bind fun r2 =>
 some (r1||r2)
def ubn4_ (next:Int×(List Str)×Int×Int→Option (Sum (Int) YY42)):Int×(List Str)×Int×Int→Option (Sum (Int) YY42):=fun (n_5,t13,t14,t15) =>
 bif (decide (t15<t14)) then
  (at? t13 t15).bind fun y2 =>
  (ud1_ (y2,(0:Int),(fun x=>(ux_ x).bind fun r=>some r))).bind fun r3 =>
  (ud1_ (y2,(0:Int),(fun x=>(u6q_ x).bind fun r=>some r))).bind fun r4 =>
  bif ((!(eqI r4 (y2.length:Int)))||((eqI r3 (y2.length:Int))&&(decide ((18:Int)<r3)))) then
   some (.inr (([]:List Str),false))
  else
   next ((IntKind.i64.wrap (n_5+(y2.length:Int))),t13,t14,(IntKind.i64.wrap (t15+(1:Int))))
 else
  some (.inl n_5)
def u6r_:Int×(List Str)×Int×Int→Option (Sum (Int) YY42):=loopN ubn4_ fuel
def ubh6_:Str→Option YY42:=fun s_0 =>
 (uof_ (s_0,(fun x=>(u6p_ x).bind fun r=>some r))).bind fun r1 =>
 (u6r_ ((r1.length:Int),r1,(r1.length:Int),(0:Int))).bind fun r6 =>
 match r6 with
 | .inl y7 =>
   some (r1,((decide ((0:Int)<(r1.length:Int)))&&(eqI (IntKind.i64.wrap (y7-(1:Int))) (s_0.length:Int))))
 | .inr y7' =>
   some (y7'.1,y7'.2)
def uzm_:Str×YY19×Int×Bool→Option (Sum (Str×YY19) (YY11×Bool)):=fun (s_0,v_4,n_5,t29) =>
 bif t29 then
  (cut? s_0 (0:Int) n_5).bind fun s6 =>
  (ub3_ s6).bind fun r7 =>
  bif (!r7.2) then
   some (.inr ((Sum.inr (Sum.inr (Sum.inr (Sum.inr (Sum.inr ()))))),false))
  else
   (cut? s_0 (IntKind.i64.wrap (n_5+(1:Int))) (s_0.length:Int)).bind fun s8 =>
   some (.inl (s8,(r7.1,v_4.2)))
 else
  some (.inl (s_0,v_4))
def u6s_:Str→Option (YY11×Bool):=fun s_0 =>
 (strings_TrimPrefix (s_0,([118]:Str))).bind fun r2 =>
 (ud1_ (r2,(0:Int),(fun x=>(ux_ x).bind fun r=>some r))).bind fun r3 =>
 (bif (decide (r3<(r2.length:Int))) then at? r2 r3 else some 0).bind fun b4 =>
 (uzm_ (r2,((0:Int),(([]:List Int),((0:Int),((0:Int),((-1:Int),((-1:Int),([]:List Str))))))),r3,((decide (r3<(r2.length:Int)))&&(eqI (b4.toNat:Int) (33:Int))))).bind fun r9 =>
 match r9 with
 | .inl y10 =>
   (ubam_ y10.1).bind fun r11 =>
   bif (!r11.2.2) then
    some ((Sum.inr (Sum.inr (Sum.inr (Sum.inr (Sum.inr ()))))),false)
   else
    (u1j_ ((y10.2.1,(r11.1,y10.2.2.2)),r11.2.1)).bind fun r12 =>
    bif (!r12.2.1) then
     some ((Sum.inr (Sum.inr (Sum.inr (Sum.inr (Sum.inr ()))))),false)
    else
     (strings_CutPrefix (r12.1,([43]:Str))).bind fun r13 =>
     bif r13.2 then
      (ubh6_ r13.1).bind fun r14 =>
      some ((Sum.inr (Sum.inr (Sum.inl (r12.2.2.1,(r12.2.2.2.1,(r12.2.2.2.2.1,(r12.2.2.2.2.2.1,(r12.2.2.2.2.2.2.1,(r12.2.2.2.2.2.2.2.1,r14.1))))))))),r14.2)
     else
      some ((Sum.inr (Sum.inr (Sum.inl r12.2.2))),(eqS r12.1 ([]:Str)))
 | .inr y10' =>
   some (y10'.1,y10'.2)
def ubpu_:Str×Bool→Option Str:=fun (w_0,followed_1) =>
 (u5m_ w_0).bind fun r1 =>
 bif ((eqS r1 ([97]:Str))&&followed_1) then
  some ([97,108,112,104,97]:Str)
 else
  bif ((eqS r1 ([98]:Str))&&followed_1) then
   some ([98,101,116,97]:Str)
  else
   bif ((eqS r1 ([109]:Str))&&followed_1) then
    some ([109,105,108,101,115,116,111,110,101]:Str)
   else
    bif (eqS r1 ([99,114]:Str)) then
     some ([114,99]:Str)
    else
     bif (((eqS r1 ([102,105,110,97,108]:Str))||(eqS r1 ([103,97]:Str)))||(eqS r1 ([114,101,108,101,97,115,101]:Str))) then
      some ([]:Str)
     else
      some r1
def umv_:Bool×Str×Int→Option (Bool):=fun t_0 =>
 some ((t_0.1&&(eqS t_0.2.1 ([]:Str)))||((!t_0.1)&&(eqI t_0.2.2 (0:Int))))
def us1_:Str×Int×Bool→Option (Sum (Int) (YY11×Bool)):=fun (s_0,at_5,t24) =>
 bif t24 then
  let v4:=(eqI at_5 (IntKind.i64.wrap ((s_0.length:Int)-(1:Int))))
  (bif (!((eqI at_5 (0:Int))||v4)) then at? s_0 (IntKind.i64.wrap (at_5+(1:Int))) else some 0).bind fun b5 =>
  (bif (!((eqI at_5 (0:Int))||v4)) then ux_ (b5.toNat:Int) else some false).bind fun r6 =>
  (bif ((!((eqI at_5 (0:Int))||v4))&&(!r6)) then at? s_0 (IntKind.i64.wrap (at_5+(1:Int))) else some 0).bind fun b7 =>
  (bif ((!((eqI at_5 (0:Int))||v4))&&(!r6)) then ufu_ (b7.toNat:Int) else some false).bind fun r8 =>
  bif (((eqI at_5 (0:Int))||v4)||((!r6)&&(!r8))) then
   some (.inr ((Sum.inr (Sum.inr (Sum.inr (Sum.inr (Sum.inr ()))))),false))
  else
   some (.inl (IntKind.i64.wrap (at_5+(1:Int))))
 else
  some (.inl at_5)
def u8n_ (next:Str×(List YY34)×Int→Option (Sum (List YY34) (YY11×Bool))):Str×(List YY34)×Int→Option (Sum (List YY34) (YY11×Bool)):=fun (s_0,v_4,at_5) =>
 bif (decide (at_5<(s_0.length:Int))) then
  (at? s_0 at_5).bind fun b1 =>
  (bif (!(eqI (b1.toNat:Int) (46:Int))) then at? s_0 at_5 else some 0).bind fun b2 =>
  (us1_ (s_0,at_5,((eqI (b1.toNat:Int) (46:Int))||(eqI (b2.toNat:Int) (45:Int))))).bind fun r9 =>
  match r9 with
  | .inl y10 =>
    (ud1_ (s_0,y10,(fun x=>(ux_ x).bind fun r=>some r))).bind fun r11 =>
    bif (decide ((0:Int)<r11)) then
     (cut? s_0 y10 (IntKind.i64.wrap (y10+r11))).bind fun s12 =>
     (ub3_ s12).bind fun r13 =>
     bif (!r13.2) then
      some (.inr ((Sum.inr (Sum.inr (Sum.inr (Sum.inr (Sum.inr ()))))),false))
     else
      (app? 72 v_4 ([(false,(([]:Str),r13.1))]:List YY34)).bind fun l15 =>
      next (s_0,l15,(IntKind.i64.wrap (y10+r11)))
    else
     (ud1_ (s_0,y10,(fun x=>(ufu_ x).bind fun r=>some r))).bind fun r16 =>
     bif (eqI r16 (0:Int)) then
      some (.inr ((Sum.inr (Sum.inr (Sum.inr (Sum.inr (Sum.inr ()))))),false))
     else
      let v17:=(decide ((IntKind.i64.wrap (y10+r16))<(s_0.length:Int)))
      (bif v17 then at? s_0 (IntKind.i64.wrap (y10+r16)) else some 0).bind fun b18 =>
      (bif v17 then ux_ (b18.toNat:Int) else some false).bind fun r19 =>
      (cut? s_0 y10 (IntKind.i64.wrap (y10+r16))).bind fun s20 =>
      (ubpu_ (s20,(v17&&r19))).bind fun r21 =>
      (app? 72 v_4 ([(true,(r21,(0:Int)))]:List YY34)).bind fun l23 =>
      next (s_0,l23,(IntKind.i64.wrap (y10+r16)))
  | .inr y10' =>
    some (.inr (y10'.1,y10'.2))
 else
  some (.inl v_4)
def us2_:Str×(List YY34)×Int→Option (Sum (List YY34) (YY11×Bool)):=loopN u8n_ fuel
def u8o_ (next:List YY34→Option (List YY34)):List YY34→Option (List YY34):=fun v_4 =>
 (bif (decide ((0:Int)<(v_4.length:Int))) then at? v_4 (IntKind.i64.wrap ((v_4.length:Int)-(1:Int))) else some (false,(([]:Str),(0:Int)))).bind fun y29 =>
 (bif (decide ((0:Int)<(v_4.length:Int))) then umv_ y29 else some false).bind fun r30 =>
 bif ((decide ((0:Int)<(v_4.length:Int)))&&r30) then
  (cut? v_4 (0:Int) (IntKind.i64.wrap ((v_4.length:Int)-(1:Int)))).bind fun s31 =>
  next s31
 else
  some v_4
def us3_:List YY34→Option (List YY34):=loopN u8o_ fuel
def uzn_:Str→Option (YY11×Bool):=fun s_0 =>
 (us2_ (s_0,([]:List YY34),(0:Int))).bind fun r24 =>
 match r24 with
 | .inl y25 =>
   (us3_ y25).bind fun r32 =>
   some ((Sum.inr (Sum.inr (Sum.inr (Sum.inl r32)))),true)
 | .inr y25' =>
   some (y25'.1,y25'.2)
def ubao_:Str→Option (YY11×Bool):=fun s_0 =>
 (uih_ s_0).bind fun r1 =>
 some ((Sum.inr (Sum.inr (Sum.inr (Sum.inr (Sum.inl r1.1))))),r1.2)
def uwg_:Int×Str→Option (YY11×Int):=fun (kind_0,s_1) =>
 bif ((decide (kind_0<(1:Int)))||(decide ((5:Int)<kind_0))) then
  some ((Sum.inr (Sum.inr (Sum.inr (Sum.inr (Sum.inr ()))))),(7:Int))
 else
  bif ((eqS s_1 ([]:Str))||(decide ((100:Int)<(s_1.length:Int)))) then
   some ((Sum.inr (Sum.inr (Sum.inr (Sum.inr (Sum.inr ()))))),(3:Int))
  else
   bif (eqI kind_0 (1:Int)) then
    (u6o_ s_1).bind fun r3 =>
    bif (!r3.2) then
     some ((Sum.inr (Sum.inr (Sum.inr (Sum.inr (Sum.inr ()))))),(6:Int))
    else
     some (r3.1,(0:Int))
   else
    bif (eqI kind_0 (2:Int)) then
     (u4k_ s_1).bind fun r4 =>
     bif (!r4.2) then
      some ((Sum.inr (Sum.inr (Sum.inr (Sum.inr (Sum.inr ()))))),(6:Int))
     else
      some (r4.1,(0:Int))
    else
     bif (eqI kind_0 (3:Int)) then
      (u5m_ s_1).bind fun r5 =>
      (u6s_ r5).bind fun r6 =>
      bif (!r6.2) then
       some ((Sum.inr (Sum.inr (Sum.inr (Sum.inr (Sum.inr ()))))),(6:Int))
      else
       some (r6.1,(0:Int))
     else
      bif (eqI kind_0 (4:Int)) then
       (uzn_ s_1).bind fun r7 =>
       bif (!r7.2) then
        some ((Sum.inr (Sum.inr (Sum.inr (Sum.inr (Sum.inr ()))))),(6:Int))
       else
        some (r7.1,(0:Int))
      else
       bif (eqI kind_0 (5:Int)) then
        (ubao_ s_1).bind fun r8 =>
        bif (!r8.2) then
         some ((Sum.inr (Sum.inr (Sum.inr (Sum.inr (Sum.inr ()))))),(6:Int))
        else
         some (r8.1,(0:Int))
       else
        bif (!false) then
         some ((Sum.inr (Sum.inr (Sum.inr (Sum.inr (Sum.inr ()))))),(6:Int))
        else
         some ((Sum.inr (Sum.inr (Sum.inr (Sum.inr (Sum.inr ()))))),(0:Int))
def ubdu_ (next:(List Str)×(List Int)×Int×Int→Option (List Str)):(List Str)×(List Int)×Int×Int→Option (List Str):=fun (parts_3,t6,t7,t8) =>
 bif (decide (t8<t7)) then
  (at? t6 t8).bind fun y1 =>
  (strconv_Itoa y1).bind fun r2 =>
  (app? 24 parts_3 ([r2]:List Str)).bind fun l3 =>
  next (l3,t6,t7,(IntKind.i64.wrap (t8+(1:Int))))
 else
  some parts_3
def uxo_:(List Str)×(List Int)×Int×Int→Option (List Str):=loopN ubdu_ fuel
def us4_:List Int→Option Str:=fun l_0 =>
 (uxo_ (([]:List Str),l_0,(l_0.length:Int),(0:Int))).bind fun r4 =>
 (strings_Join (r4,([46]:Str))).bind fun r5 =>
 some r5
def uq0_:(List Int)×(List Str)→Option Str:=fun v_0 =>
 (cut? v_0.1 (0:Int) (v_0.1.length:Int)).bind fun s1 =>
 (us4_ s1).bind fun r2 =>
 bif (decide ((0:Int)<(v_0.2.length:Int))) then
  (strings_Join (v_0.2,([46]:Str))).bind fun r3 =>
  (cat? ([45]:Str) r3).bind fun s4 =>
  (cat? r2 s4).bind fun s5 =>
  some s5
 else
  some r2
def ubdv_ (next:Str×(List Int)×Int→Option (List Int)):Str×(List Int)×Int→Option (List Int):=fun (s_0,b_3,at_4) =>
 bif (decide (at_4<(s_0.length:Int))) then
  (ud1_ (s_0,at_4,(fun x=>(ux_ x).bind fun r=>some r))).bind fun r1 =>
  bif (eqI r1 (0:Int)) then
   (at? s_0 at_4).bind fun b2 =>
   (ubd_ (b_3,(b2.toNat:Int))).bind fun r3 =>
   next (s_0,r3.2,(IntKind.i64.wrap (at_4+(1:Int))))
  else
   (cut? s_0 at_4 (IntKind.i64.wrap (at_4+r1))).bind fun s4 =>
   (ub3_ s4).bind fun r5 =>
   bif (((!(eqI r5.1 (0:Int)))||(decide ((IntKind.i64.wrap (at_4+r1))<(s_0.length:Int))))||(eqI r1 (s_0.length:Int))) then
    (strconv_Itoa r5.1).bind fun r8 =>
    (ub2_ (b_3,r8)).bind fun r9 =>
    next (s_0,r9.2.2,(IntKind.i64.wrap (at_4+r1)))
   else
    next (s_0,b_3,(IntKind.i64.wrap (at_4+r1)))
 else
  some b_3
def uxp_:Str×(List Int)×Int→Option (List Int):=loopN ubdv_ fuel
def us5_:Str→Option Str:=fun s_0 =>
 (uxp_ (s_0,([]:List Int),(0:Int))).bind fun r10 =>
 (ub0_ r10).bind fun r11 =>
 some r11
def uq1_:Int×Str×Str×Bool→Option Str:=fun v_0 =>
 bif (eqS v_0.2.2.1 ([]:Str)) then
  some ([48]:Str)
 else
  some v_0.2.2.1
def uzo_:Int→Option (Bool):=fun c_0 =>
 (ux_ c_0).bind fun r1 =>
 some (!r1)
def ubn5_ (next:Str×(List Int)×Int×Int→Option (List Int)):Str×(List Int)×Int×Int→Option (List Int):=fun (s_0,b_3,t6,t7) =>
 bif (decide (t7<t6)) then
  (at? s_0 t7).bind fun b1 =>
  bif (eqI (b1.toNat:Int) (126:Int)) then
   (ubd_ (b_3,(1:Int))).bind fun r2 =>
   next (s_0,r2.2,t6,(IntKind.i64.wrap (t7+(1:Int))))
  else
   (at? s_0 t7).bind fun b3 =>
   (ufu_ (b3.toNat:Int)).bind fun r4 =>
   bif r4 then
    (at? s_0 t7).bind fun b5 =>
    (ubd_ (b_3,(b5.toNat:Int))).bind fun r6 =>
    next (s_0,r6.2,t6,(IntKind.i64.wrap (t7+(1:Int))))
   else
    (at? s_0 t7).bind fun b7 =>
    (ubd_ (b_3,(IntKind.u8.wrap ((b7.toNat:Int)+(128:Int))))).bind fun r8 =>
    next (s_0,r8.2,t6,(IntKind.i64.wrap (t7+(1:Int))))
 else
  some b_3
def u6t_:Str×(List Int)×Int×Int→Option (List Int):=loopN ubn5_ fuel
def ubh7_:Str→Option Str:=fun s_0 =>
 (u6t_ (s_0,([]:List Int),(s_0.length:Int),(0:Int))).bind fun r9 =>
 (ub0_ r9).bind fun r10 =>
 (cat? r10 ([2]:Str)).bind fun s11 =>
 some s11
def udq_:Int→Option Str:=fun n_0 =>
 (strconv_Itoa n_0).bind fun r1 =>
 (strings_Repeat (([48]:Str),(IntKind.i64.wrap ((18:Int)-(r1.length:Int))))).bind fun r2 =>
 (cat? r2 r1).bind fun s3 =>
 some s3
def ubgk_ (next:Str×(List Int)→Option (List Int)):Str×(List Int)→Option (List Int):=fun (s_0,b_3) =>
 bif (!(eqS s_0 ([]:Str))) then
  (ud1_ (s_0,(0:Int),(fun x=>(uzo_ x).bind fun r=>some r))).bind fun r1 =>
  (ud1_ (s_0,r1,(fun x=>(ux_ x).bind fun r=>some r))).bind fun r2 =>
  (cut? s_0 r1 (IntKind.i64.wrap (r1+r2))).bind fun s3 =>
  (ub3_ s3).bind fun r4 =>
  (cut? s_0 (0:Int) r1).bind fun s5 =>
  (ubh7_ s5).bind fun r6 =>
  (udq_ r4.1).bind fun r7 =>
  (cat? r6 r7).bind fun s8 =>
  (ub2_ (b_3,s8)).bind fun r9 =>
  (cut? s_0 (IntKind.i64.wrap (r1+r2)) (s_0.length:Int)).bind fun s10 =>
  next (s10,r9.2.2)
 else
  some b_3
def uzp_:Str×(List Int)→Option (List Int):=loopN ubgk_ fuel
def ujs_:Str→Option Str:=fun s_0 =>
 (uzp_ (s_0,([]:List Int))).bind fun r11 =>
 (ub0_ r11).bind fun r12 =>
 (cat? r12 ([2]:Str)).bind fun s13 =>
 some s13
def us6_:(Int×Str×Str×Bool)×Str×Bool→Option ((Int×Str×Str×Bool)×Str):=fun (v_1,s_3,t9) =>
 bif t9 then
  (strconv_Itoa v_1.1).bind fun r2 =>
  (cat? r2 ([58]:Str)).bind fun s3 =>
  (cat? s3 s_3).bind fun s4 =>
  some (v_1,s4)
 else
  some (v_1,s_3)
def upg_:Int×Str×Str×Bool→Option Str:=fun v_0 =>
 (us5_ v_0.2.1).bind fun r1 =>
 (us6_ (v_0,r1,(!(eqI v_0.1 (0:Int))))).bind fun r5 =>
 (uq1_ r5.1).bind fun r6 =>
 (ujs_ r6).bind fun r7 =>
 (ujs_ ([48]:Str)).bind fun r8 =>
 bif (!(eqS r7 r8)) then
  (cat? r5.2 ([45]:Str)).bind fun s9 =>
  (us5_ r5.1.2.2.1).bind fun r10 =>
  (cat? s9 r10).bind fun s11 =>
  some s11
 else
  bif r5.1.2.2.2 then
   (cat? r5.2 ([45,48]:Str)).bind fun s12 =>
   some s12
  else
   some r5.2
def ubn6_ (next:List Int→Option (List Int)):List Int→Option (List Int):=fun l_0 =>
 (bif (decide ((0:Int)<(l_0.length:Int))) then at? l_0 (IntKind.i64.wrap ((l_0.length:Int)-(1:Int))) else some (0:Int)).bind fun y1 =>
 bif ((decide ((0:Int)<(l_0.length:Int)))&&(eqI y1 (0:Int))) then
  (cut? l_0 (0:Int) (IntKind.i64.wrap ((l_0.length:Int)-(1:Int)))).bind fun s3 =>
  next s3
 else
  some l_0
def u6u_:List Int→Option (List Int):=loopN ubn6_ fuel
def u5n_:List Int→Option (List Int):=fun l_0 =>
 (u6u_ l_0).bind fun r4 =>
 some r4
def uu9_:YY19×Str×Bool→Option (YY19×Str):=fun (v_1,s_3,t11) =>
 bif t11 then
  (strconv_Itoa v_1.1).bind fun r1 =>
  (cat? r1 ([33]:Str)).bind fun s2 =>
  some (v_1,s2)
 else
  some (v_1,s_3)
def uva_:Str×(List Int)×Bool→Option Str:=fun (s_3,l_4,t21) =>
 bif t21 then
  (us4_ l_4).bind fun r5 =>
  (cat? s_3 r5).bind fun s6 =>
  some s6
 else
  (cat? s_3 ([48]:Str)).bind fun s7 =>
  some s7
def uvb_:YY19×Str×Bool→Option (YY19×Str):=fun (v_1,s_3,t30) =>
 bif t30 then
  (at? ([([]:Str),([97]:Str),([98]:Str),([114,99]:Str)]:List Str) v_1.2.2.1).bind fun y10 =>
  (strconv_Itoa v_1.2.2.2.1).bind fun r11 =>
  (cat? y10 r11).bind fun s12 =>
  (cat? s_3 s12).bind fun s13 =>
  some (v_1,s13)
 else
  some (v_1,s_3)
def uvc_:YY19×Str×Bool→Option (YY19×Str):=fun (v_1,s_3,t44) =>
 bif t44 then
  (strconv_Itoa v_1.2.2.2.2.1).bind fun r15 =>
  (cat? ([46,112,111,115,116]:Str) r15).bind fun s16 =>
  (cat? s_3 s16).bind fun s17 =>
  some (v_1,s17)
 else
  some (v_1,s_3)
def uvd_:YY19×Str×Bool→Option (YY19×Str):=fun (v_1,s_3,t53) =>
 bif t53 then
  (strconv_Itoa v_1.2.2.2.2.2.1).bind fun r19 =>
  (cat? ([46,100,101,118]:Str) r19).bind fun s20 =>
  (cat? s_3 s20).bind fun s21 =>
  some (v_1,s21)
 else
  some (v_1,s_3)
def uve_:Str×Int×Bool→Option Str:=fun (p_6,n_7,t73) =>
 bif t73 then
  (strconv_Itoa n_7).bind fun r25 =>
  some r25
 else
  some p_6
def ubby_ (next:Str×(List Str)×Int×Int→Option Str):Str×(List Str)×Int×Int→Option Str:=fun (s_3,t61,t62,t63) =>
 bif (decide (t63<t62)) then
  (at? t61 t63).bind fun y23 =>
  (ub3_ y23).bind fun r24 =>
  (uve_ (y23,r24.1,r24.2)).bind fun r26 =>
  bif (eqI t63 (0:Int)) then
   (cat? ([43]:Str) r26).bind fun s27 =>
   (cat? s_3 s27).bind fun s28 =>
   next (s28,t61,t62,(IntKind.i64.wrap (t63+(1:Int))))
  else
   (cat? ([46]:Str) r26).bind fun s29 =>
   (cat? s_3 s29).bind fun s30 =>
   next (s30,t61,t62,(IntKind.i64.wrap (t63+(1:Int))))
 else
  some s_3
def uvf_:Str×(List Str)×Int×Int→Option Str:=loopN ubby_ fuel
def uq2_:Int×(List Int)×Int×Int×Int×Int×(List Str)→Option Str:=fun v_0 =>
 (uu9_ (v_0,([]:Str),(!(eqI v_0.1 (0:Int))))).bind fun r3 =>
 (u5n_ r3.1.2.1).bind fun r4 =>
 (uva_ (r3.2,r4,(decide ((0:Int)<(r4.length:Int))))).bind fun r8 =>
 (uvb_ (r3.1,r8,(decide ((0:Int)<r3.1.2.2.1)))).bind fun r14 =>
 (uvc_ (r14.1,r14.2,(decide ((0:Int)≤r14.1.2.2.2.2.1)))).bind fun r18 =>
 (uvd_ (r18.1,r18.2,(decide ((0:Int)≤r18.1.2.2.2.2.2.1)))).bind fun r22 =>
 (uvf_ (r22.2,r22.1.2.2.2.2.2.2,(r22.1.2.2.2.2.2.2.length:Int),(0:Int))).bind fun r31 =>
 some r31
def u5o_ (next:(List Str)×(List YY34)×Int×Int→Option (List Str)):(List Str)×(List YY34)×Int×Int→Option (List Str):=fun (l_3,t7,t8,t9) =>
 bif (decide (t9<t8)) then
  (at? t7 t9).bind fun y1 =>
  (umv_ y1).bind fun r2 =>
  bif r2 then
   (app? 24 l_3 ([([48]:Str)]:List Str)).bind fun l3 =>
   next (l3,t7,t8,(IntKind.i64.wrap (t9+(1:Int))))
  else
   bif y1.1 then
    (app? 24 l_3 ([y1.2.1]:List Str)).bind fun l4 =>
    next (l4,t7,t8,(IntKind.i64.wrap (t9+(1:Int))))
   else
    (strconv_Itoa y1.2.2).bind fun r5 =>
    (app? 24 l_3 ([r5]:List Str)).bind fun l6 =>
    next (l6,t7,t8,(IntKind.i64.wrap (t9+(1:Int))))
 else
  some l_3
def uqe_:(List Str)×(List YY34)×Int×Int→Option (List Str):=loopN u5o_ fuel
def ul9_:List YY34→Option Str:=fun v_0 =>
 (uqe_ (([]:List Str),v_0,(v_0.length:Int),(0:Int))).bind fun r7 =>
 bif (eqI (r7.length:Int) (0:Int)) then
  some ([48]:Str)
 else
  (strings_Join (r7,([45]:Str))).bind fun r8 =>
  some r8
def us7_:Int→Option Str:=fun v_0 =>
 (strconv_Itoa v_0).bind fun r1 =>
 some r1
def ubh8_:Sum YY50 (Sum (Int×Str×Str×Bool) (Sum YY19 (Sum (List YY34) (Sum Int Unit))))→Option (Str×Int):=fun v_0 =>
 ((fun z=>Sum.casesOn (motive:=fun _=>Option Str) z (fun x=>(uq0_ x).bind fun r=>some r) (fun z=>Sum.casesOn (motive:=fun _=>Option Str) z (fun x=>(upg_ x).bind fun r=>some r) (fun z=>Sum.casesOn (motive:=fun _=>Option Str) z (fun x=>(uq2_ x).bind fun r=>some r) (fun z=>Sum.casesOn (motive:=fun _=>Option Str) z (fun x=>(ul9_ x).bind fun r=>some r) (fun z=>Sum.casesOn (motive:=fun _=>Option Str) z (fun x=>(us7_ x).bind fun r=>some r) (fun _=>none)))))) v_0).bind fun r1 =>
 bif (decide ((100:Int)<(r1.length:Int))) then
  some (([]:Str),(3:Int))
 else
  some (r1,(0:Int))
def uxq_:Int×Str→Option (Str×Int):=fun (kind_0,s_1) =>
 (uwg_ (kind_0,s_1)).bind fun r1 =>
 bif (!(eqI r1.2 (0:Int))) then
  some (([]:Str),r1.2)
 else
  (ubh8_ r1.1).bind fun r2 =>
  some (r2.1,r2.2)
def ubbz_ (next:YY14×YY44×Int×Int→Option YY24):YY14×YY44×Int×Int→Option YY24:=fun (a_1,t12,t13,t14) =>
 bif (decide (t14<t13)) then
  (at? t12 t14).bind fun y1 =>
  bif ((decide (y1.1<(1:Int)))||(decide ((3:Int)<y1.1))) then
   some (.inr (7:Int))
  else
   bif (eqS y1.2 ([]:Str)) then
    bif (!(eqI y1.1 (1:Int))) then
     some (.inr (2:Int))
    else
     next (a_1,t12,t13,(IntKind.i64.wrap (t14+(1:Int))))
   else
    (uxq_ (a_1.2.1,y1.2)).bind fun r2 =>
    bif (!(eqI r2.2 (0:Int))) then
     some (.inr r2.2)
    else
     next (a_1,t12,t13,(IntKind.i64.wrap (t14+(1:Int))))
 else
  some (.inl ())
def uvg_:YY14×YY44×Int×Int→Option YY24:=loopN ubbz_ fuel
def u1k_:Str×Int×YY44×(List Str)×(List Str)→Option (Int):=fun a_0 =>
 bif (decide ((100:Int)<(a_0.2.2.1.length:Int))) then
  some (3:Int)
 else
  (uvg_ (a_0,a_0.2.2.1,(a_0.2.2.1.length:Int),(0:Int))).bind fun r3 =>
  match r3 with
  | .inl y4 =>
    some (0:Int)
  | .inr y4' =>
    some y4'
def u5p_ (next:Str×Bool×Int×Int→Option (Bool)):Str×Bool×Int×Int→Option (Bool):=fun (s_4,bad_5,t25,t26) =>
 bif (decide (t26<t25)) then
  (bif (!bad_5) then at? s_4 t26 else some 0).bind fun b3 =>
  (bif (!(bad_5||(decide ((b3.toNat:Int)<(33:Int))))) then at? s_4 t26 else some 0).bind fun b4 =>
  next (s_4,((bad_5||(decide ((b3.toNat:Int)<(33:Int))))||(decide ((126:Int)<(b4.toNat:Int)))),t25,(IntKind.i64.wrap (t26+(1:Int))))
 else
  some bad_5
def uqf_:Str×Bool×Int×Int→Option (Bool):=loopN u5p_ fuel
def u5q_ (next:(List Str)×(List Str)×Int×Int→Option YY24):(List Str)×(List Str)×Int×Int→Option YY24:=fun (l_0,t10,t11,t12) =>
 bif (decide (t12<t11)) then
  (at? t10 t12).bind fun y1 =>
  (uqf_ (y1,((eqS y1 ([]:Str))||(decide ((200:Int)<(y1.length:Int)))),(y1.length:Int),(0:Int))).bind fun r6 =>
  bif r6 then
   some (.inr (8:Int))
  else
   (bif (decide ((0:Int)<t12)) then at? l_0 (IntKind.i64.wrap (t12-(1:Int))) else some ([]:Str)).bind fun y7 =>
   bif ((decide ((0:Int)<t12))&&(Op.bytesLess y1 y7||eqS y1 y7)) then
    some (.inr (10:Int))
   else
    next (l_0,t10,t11,(IntKind.i64.wrap (t12+(1:Int))))
 else
  some (.inl ())
def uqg_:(List Str)×(List Str)×Int×Int→Option YY24:=loopN u5q_ fuel
def uvh_:List Str→Option (Int):=fun l_0 =>
 bif (decide ((200:Int)<(l_0.length:Int))) then
  some (3:Int)
 else
  (uqg_ (l_0,l_0,(l_0.length:Int),(0:Int))).bind fun r9 =>
  match r9 with
  | .inl y10 =>
    some (0:Int)
  | .inr y10' =>
    some y10'
def u6v_ (next:YY14×(List Str)×Int×Int→Option (Sum YY14 (Int))):YY14×(List Str)×Int×Int→Option (Sum YY14 (Int)):=fun (a_1,t32,t33,t34) =>
 bif (decide (t34<t33)) then
  (at? t32 t34).bind fun y4 =>
  (uxq_ (a_1.2.1,y4)).bind fun r5 =>
  bif (!(eqI r5.2 (0:Int))) then
   some (.inr r5.2)
  else
   next (a_1,t32,t33,(IntKind.i64.wrap (t34+(1:Int))))
 else
  some (.inl a_1)
def urv_:YY14×(List Str)×Int×Int→Option (Sum YY14 (Int)):=loopN u6v_ fuel
def uxr_:Str×Int×YY44×(List Str)×(List Str)→Option (Int):=fun a_0 =>
 (ublg_ a_0.1).bind fun r1 =>
 bif (!r1) then
  some (8:Int)
 else
  bif ((decide (a_0.2.1<(1:Int)))||(decide ((5:Int)<a_0.2.1))) then
   some (7:Int)
  else
   (u1k_ a_0).bind fun r3 =>
   bif (!(eqI r3 (0:Int))) then
    some r3
   else
    bif (decide ((500:Int)<(a_0.2.2.2.1.length:Int))) then
     some (3:Int)
    else
     (urv_ (a_0,a_0.2.2.2.1,(a_0.2.2.2.1.length:Int),(0:Int))).bind fun r6 =>
     match r6 with
     | .inl y7 =>
       (uvh_ y7.2.2.2.2).bind fun r8 =>
       some r8
     | .inr y7' =>
       some y7'
def ublk_:Unit→Option (List Int):=fun _ =>
 some ([(0:Int),(1:Int),(0:Int),(2:Int)]:List Int)
def ubdw_ (next:(Int→Option Str)×(List Int)×(List Int)×Int×Int→Option (List Int)):(Int→Option Str)×(List Int)×(List Int)×Int×Int→Option (List Int):=fun (one_2,b_7,t10,t11,t12) =>
 bif (decide (t12<t11)) then
  (at? t10 t12).bind fun y1 =>
  (one_2 y1).bind fun r2 =>
  (ub2_ (b_7,r2)).bind fun r3 =>
  next (one_2,r3.2.2,t10,t11,(IntKind.i64.wrap (t12+(1:Int))))
 else
  some b_7
def uxs_:(Int→Option Str)×(List Int)×(List Int)×Int×Int→Option (List Int):=loopN ubdw_ fuel
def us8_:(List Int)×Str×(Int→Option Str)→Option Str:=fun (l_0,end_1,one_2) =>
 (uxs_ (one_2,([]:List Int),l_0,(l_0.length:Int),(0:Int))).bind fun r4 =>
 (ub0_ r4).bind fun r5 =>
 (cat? r5 end_1).bind fun s6 =>
 some s6
def u6w_ (next:(Str→Option Str)×(List Int)×(List Str)×Int×Int→Option (List Int)):(Str→Option Str)×(List Int)×(List Str)×Int×Int→Option (List Int):=fun (one_2,b_7,t10,t11,t12) =>
 bif (decide (t12<t11)) then
  (at? t10 t12).bind fun y1 =>
  (one_2 y1).bind fun r2 =>
  (ub2_ (b_7,r2)).bind fun r3 =>
  next (one_2,r3.2.2,t10,t11,(IntKind.i64.wrap (t12+(1:Int))))
 else
  some b_7
def urw_:(Str→Option Str)×(List Int)×(List Str)×Int×Int→Option (List Int):=loopN u6w_ fuel
def unn_:(List Str)×Str×(Str→Option Str)→Option Str:=fun (l_0,end_1,one_2) =>
 (urw_ (one_2,([]:List Int),l_0,(l_0.length:Int),(0:Int))).bind fun r4 =>
 (ub0_ r4).bind fun r5 =>
 (cat? r5 end_1).bind fun s6 =>
 some s6
def ubh9_:Str→Option Str:=fun p_0 =>
 (ub3_ p_0).bind fun r1 =>
 bif r1.2 then
  (udq_ r1.1).bind fun r2 =>
  (cat? ([48]:Str) r2).bind fun s3 =>
  some s3
 else
  (cat? ([49]:Str) p_0).bind fun s4 =>
  (cat? s4 ([32]:Str)).bind fun s5 =>
  some s5
def uoi_:(List Int)×(List Str)→Option Str:=fun v_0 =>
 (cut? v_0.1 (0:Int) (v_0.1.length:Int)).bind fun s1 =>
 (us8_ (s1,([]:Str),(fun x=>(udq_ x).bind fun r=>some r))).bind fun r2 =>
 bif (eqI (v_0.2.length:Int) (0:Int)) then
  (cat? r2 ([126]:Str)).bind fun s3 =>
  some s3
 else
  (cat? r2 ([33]:Str)).bind fun s4 =>
  (unn_ (v_0.2,([33]:Str),(fun x=>(ubh9_ x).bind fun r=>some r))).bind fun r5 =>
  (cat? s4 r5).bind fun s6 =>
  some s6
def umw_:Int×Str×Str×Bool→Option Str:=fun v_0 =>
 (udq_ v_0.1).bind fun r1 =>
 (ujs_ v_0.2.1).bind fun r2 =>
 (cat? r1 r2).bind fun s3 =>
 (uq1_ v_0).bind fun r4 =>
 (ujs_ r4).bind fun r5 =>
 (cat? s3 r5).bind fun s6 =>
 some s6
def uzq_:Int→Option Str:=fun n_0 =>
 (udq_ n_0).bind fun r1 =>
 (cat? ([49]:Str) r1).bind fun s2 =>
 some s2
def u1l_:Int×(List Int)×Int×Int×Int×Int×(List Str)→Option (Int):=fun v_0 =>
 bif (decide ((0:Int)<v_0.2.2.1)) then
  some v_0.2.2.1
 else
  bif ((decide ((0:Int)≤v_0.2.2.2.2.2.1))&&(decide (v_0.2.2.2.2.1<(0:Int)))) then
   some (0:Int)
  else
   some (4:Int)
def ubpv_:Int→Option Str:=fun n_0 =>
 bif (decide (n_0<(0:Int))) then
  some ([48]:Str)
 else
  (udq_ n_0).bind fun r1 =>
  (cat? ([49]:Str) r1).bind fun s2 =>
  some s2
def ubdx_:Str→Option Str:=fun p_0 =>
 (ub3_ p_0).bind fun r1 =>
 bif r1.2 then
  (udq_ r1.1).bind fun r2 =>
  (cat? ([50]:Str) r2).bind fun s3 =>
  some s3
 else
  (cat? ([49]:Str) p_0).bind fun s4 =>
  (cat? s4 ([32]:Str)).bind fun s5 =>
  some s5
def uzr_:YY19×Str×Bool→Option (YY19×Str):=fun (v_1,s_3,t27) =>
 bif t27 then
  (udq_ v_1.2.2.2.2.2.1).bind fun r12 =>
  (cat? ([48]:Str) r12).bind fun s13 =>
  (cat? s_3 s13).bind fun s14 =>
  some (v_1,s14)
 else
  (cat? s_3 ([49]:Str)).bind fun s15 =>
  some (v_1,s15)
def uoj_:Int×(List Int)×Int×Int×Int×Int×(List Str)→Option Str:=fun v_0 =>
 (udq_ v_0.1).bind fun r1 =>
 (u5n_ v_0.2.1).bind fun r2 =>
 (us8_ (r2,([48]:Str),(fun x=>(uzq_ x).bind fun r=>some r))).bind fun r3 =>
 (cat? r1 r3).bind fun s4 =>
 (u1l_ v_0).bind fun r5 =>
 (strconv_Itoa r5).bind fun r6 =>
 (udq_ v_0.2.2.2.1).bind fun r7 =>
 (cat? r6 r7).bind fun s8 =>
 (ubpv_ v_0.2.2.2.2.1).bind fun r9 =>
 (cat? s8 r9).bind fun s10 =>
 (cat? s4 s10).bind fun s11 =>
 (uzr_ (v_0,s11,(decide ((0:Int)≤v_0.2.2.2.2.2.1)))).bind fun r16 =>
 bif (eqI (r16.1.2.2.2.2.2.2.length:Int) (0:Int)) then
  (cat? r16.2 ([48]:Str)).bind fun s17 =>
  some s17
 else
  (cat? r16.2 ([49]:Str)).bind fun s18 =>
  (unn_ (r16.1.2.2.2.2.2.2,([48]:Str),(fun x=>(ubdx_ x).bind fun r=>some r))).bind fun r19 =>
  (cat? s18 r19).bind fun s20 =>
  some s20
def ubdy_:Unit→Option (List Str):=fun _ =>
 some ([([97,108,112,104,97]:Str),([98,101,116,97]:Str),([109,105,108,101,115,116,111,110,101]:Str),([114,99]:Str),([115,110,97,112,115,104,111,116]:Str)]:List Str)
def ubdz_ (next:(List Str)×Str×Int×Int→Option YY24):(List Str)×Str×Int×Int→Option YY24:=fun (s_0,v_1,t7,t8) =>
 bif (decide (t8<t7)) then
  (at? s_0 t8).bind fun y1 =>
  bif (eqS v_1 y1) then
   some (.inr t8)
  else
   next (s_0,v_1,t7,(IntKind.i64.wrap (t8+(1:Int))))
 else
  some (.inl ())
def uxt_:(List Str)×Str×Int×Int→Option YY24:=loopN ubdz_ fuel
def us9_:(List Str)×Str→Option (Int):=fun (s_0,v_1) =>
 (uxt_ (s_0,v_1,(s_0.length:Int),(0:Int))).bind fun r2 =>
 match r2 with
 | .inl y3 =>
   some (-1:Int)
 | .inr y3' =>
   some y3'
def uii_:(List Str)×Str→Option (Bool):=fun (s_0,v_1) =>
 (us9_ (s_0,v_1)).bind fun r1 =>
 some (decide ((0:Int)≤r1))
def uq3_:Bool×Str×Int→Option (Bool):=fun t_0 =>
 (bif t_0.1 then ubdy_ () else some ([]:List Str)).bind fun r1 =>
 (bif t_0.1 then uii_ (r1,t_0.2.1) else some false).bind fun r2 =>
 some (t_0.1&&r2)
def u1m_:Bool×Str×Int→Option Str:=fun t_0 =>
 bif (!t_0.1) then
  (udq_ t_0.2.2).bind fun r1 =>
  (cat? ([56]:Str) r1).bind fun s2 =>
  some s2
 else
  (uq3_ t_0).bind fun r3 =>
  bif r3 then
   (ubdy_ ()).bind fun r4 =>
   (us9_ (r4,t_0.2.1)).bind fun r5 =>
   (strconv_Itoa r5).bind fun r6 =>
   some r6
  else
   bif (eqS t_0.2.1 ([115,112]:Str)) then
    some ([54]:Str)
   else
    (cat? ([55]:Str) t_0.2.1).bind fun s7 =>
    (cat? s7 ([32]:Str)).bind fun s8 =>
    some s8
def u8p_ (next:Str×Int×(List YY34)×Int×Int→Option Str):Str×Int×(List YY34)×Int×Int→Option Str:=fun (s_3,blanks_4,t8,t9,t10) =>
 bif (decide (t10<t9)) then
  (at? t8 t10).bind fun y1 =>
  (umv_ y1).bind fun r2 =>
  bif r2 then
   next (s_3,(IntKind.i64.wrap (blanks_4+(1:Int))),t8,t9,(IntKind.i64.wrap (t10+(1:Int))))
  else
   (uq3_ y1).bind fun r3 =>
   bif r3 then
    (strconv_Itoa (IntKind.i64.wrap ((100:Int)+blanks_4))).bind fun r4 =>
    (cat? ([49]:Str) r4).bind fun s5 =>
    (u1m_ y1).bind fun r6 =>
    (cat? s5 r6).bind fun s7 =>
    (cat? s_3 s7).bind fun s8 =>
    next (s8,(0:Int),t8,t9,(IntKind.i64.wrap (t10+(1:Int))))
   else
    (strconv_Itoa (IntKind.i64.wrap ((900:Int)-blanks_4))).bind fun r9 =>
    (cat? ([51]:Str) r9).bind fun s10 =>
    (u1m_ y1).bind fun r11 =>
    (cat? s10 r11).bind fun s12 =>
    (cat? s_3 s12).bind fun s13 =>
    next (s13,(0:Int),t8,t9,(IntKind.i64.wrap (t10+(1:Int))))
 else
  some s_3
def uta_:Str×Int×(List YY34)×Int×Int→Option Str:=loopN u8p_ fuel
def ui9_:List YY34→Option Str:=fun v_0 =>
 (uta_ (([]:Str),(0:Int),v_0,(v_0.length:Int),(0:Int))).bind fun r14 =>
 (cat? r14 ([50]:Str)).bind fun s15 =>
 some s15
def uqs_:Int→Option Str:=fun v_0 =>
 (udq_ v_0).bind fun r1 =>
 some r1
def ubv1_:Int×Str→Option (Str×Int):=fun (kind_0,s_1) =>
 (uwg_ (kind_0,s_1)).bind fun r1 =>
 bif (!(eqI r1.2 (0:Int))) then
  some (([]:Str),r1.2)
 else
  ((fun z=>Sum.casesOn (motive:=fun _=>Option Str) z (fun x=>(uoi_ x).bind fun r=>some r) (fun z=>Sum.casesOn (motive:=fun _=>Option Str) z (fun x=>(umw_ x).bind fun r=>some r) (fun z=>Sum.casesOn (motive:=fun _=>Option Str) z (fun x=>(uoj_ x).bind fun r=>some r) (fun z=>Sum.casesOn (motive:=fun _=>Option Str) z (fun x=>(ui9_ x).bind fun r=>some r) (fun z=>Sum.casesOn (motive:=fun _=>Option Str) z (fun x=>(uqs_ x).bind fun r=>some r) (fun _=>none)))))) r1.1).bind fun r2 =>
  some (r2,(0:Int))
def ujt_ (next:(List YY6)×Int×YY18×Int→Option (List YY6)):(List YY6)×Int×YY18×Int→Option (List YY6):=fun (data_0,a_1,cmp_3,j_9) =>
 (bif (decide (a_1<j_9)) then in? data_0.length j_9 else some ()).bind fun _ =>
 (bif (decide (a_1<j_9)) then in? data_0.length (IntKind.i64.wrap (j_9-(1:Int))) else some ()).bind fun _ =>
 (bif (decide (a_1<j_9)) then cmp_3 ((data_0.getD j_9.toNat ((0:Int),(([]:Str),(([]:Str),(0:Int))))),(data_0.getD ((IntKind.i64.wrap (j_9-(1:Int))).toNat) ((0:Int),(([]:Str),(([]:Str),(0:Int)))))) else some (0:Int)).bind fun r3 =>
 bif ((decide (a_1<j_9))&&(decide (r3<(0:Int)))) then
  (in? data_0.length (IntKind.i64.wrap (j_9-(1:Int)))).bind fun _ =>
  let v4:=(data_0.getD ((IntKind.i64.wrap (j_9-(1:Int))).toNat) ((0:Int),(([]:Str),(([]:Str),(0:Int)))))
  (in? data_0.length j_9).bind fun _ =>
  (in? data_0.length j_9).bind fun _ =>
  (in? (data_0.set j_9.toNat v4).length (IntKind.i64.wrap (j_9-(1:Int)))).bind fun _ =>
  next (((data_0.set j_9.toNat v4).set ((IntKind.i64.wrap (j_9-(1:Int))).toNat) (data_0.getD j_9.toNat ((0:Int),(([]:Str),(([]:Str),(0:Int)))))),a_1,cmp_3,(IntKind.i64.wrap (j_9-(1:Int))))
 else
  some data_0
def ud2_:(List YY6)×Int×YY18×Int→Option (List YY6):=loopN ujt_ fuel
def uju_ (next:(List YY6)×Int×Int×YY18×Int→Option (List YY6)):(List YY6)×Int×Int×YY18×Int→Option (List YY6):=fun (data_0,a_1,b_2,cmp_3,i_8) =>
 bif (decide (i_8<b_2)) then
  (ud2_ (data_0,a_1,cmp_3,i_8)).bind fun r7 =>
  next (r7,a_1,b_2,cmp_3,(IntKind.i64.wrap (i_8+(1:Int))))
 else
  some data_0
def ud3_:(List YY6)×Int×Int×YY18×Int→Option (List YY6):=loopN uju_ fuel
def ub6_:(List YY6)×Int×Int×YY18→Option (List YY6):=fun (data_0,a_1,b_2,cmp_3) =>
 (ud3_ (data_0,a_1,b_2,cmp_3,(IntKind.i64.wrap (a_1+(1:Int))))).bind fun r8 =>
 some r8
def uma_ (next:(List YY6)×Int×Int×Int×Int→Option (List YY6)):(List YY6)×Int×Int×Int×Int→Option (List YY6):=fun (data_0,a_1,b_2,n_3,i_10) =>
 bif (decide (i_10<n_3)) then
  (in? data_0.length (IntKind.i64.wrap (b_2+i_10))).bind fun _ =>
  let v1:=(data_0.getD ((IntKind.i64.wrap (b_2+i_10)).toNat) ((0:Int),(([]:Str),(([]:Str),(0:Int)))))
  (in? data_0.length (IntKind.i64.wrap (a_1+i_10))).bind fun _ =>
  (in? data_0.length (IntKind.i64.wrap (a_1+i_10))).bind fun _ =>
  (in? (data_0.set ((IntKind.i64.wrap (a_1+i_10)).toNat) v1).length (IntKind.i64.wrap (b_2+i_10))).bind fun _ =>
  next (((data_0.set ((IntKind.i64.wrap (a_1+i_10)).toNat) v1).set ((IntKind.i64.wrap (b_2+i_10)).toNat) (data_0.getD ((IntKind.i64.wrap (a_1+i_10)).toNat) ((0:Int),(([]:Str),(([]:Str),(0:Int)))))),a_1,b_2,n_3,(IntKind.i64.wrap (i_10+(1:Int))))
 else
  some data_0
def ue4_:(List YY6)×Int×Int×Int×Int→Option (List YY6):=loopN uma_ fuel
def ubs_:(List YY6)×Int×Int×Int×YY18→Option (List YY6):=fun (data_0,a_1,b_2,n_3,cmp_4) =>
 (ue4_ (data_0,a_1,b_2,n_3,(0:Int))).bind fun r4 =>
 some r4
def uok_ (next:(List YY6)×Int×YY18×Int×Int→Option YY39):(List YY6)×Int×YY18×Int×Int→Option YY39:=fun (data_0,m_2,cmp_4,i_10,j_11) =>
 bif (!(eqI i_10 j_11)) then
  bif (decide (j_11<i_10)) then
   (ubs_ (data_0,(IntKind.i64.wrap (m_2-i_10)),m_2,j_11,cmp_4)).bind fun r1 =>
   next (r1,m_2,cmp_4,(IntKind.i64.wrap (i_10-j_11)),j_11)
  else
   (ubs_ (data_0,(IntKind.i64.wrap (m_2-i_10)),(IntKind.i64.wrap ((IntKind.i64.wrap (m_2+j_11))-i_10)),i_10,cmp_4)).bind fun r2 =>
   next (r2,m_2,cmp_4,i_10,(IntKind.i64.wrap (j_11-i_10)))
 else
  some (data_0,i_10)
def uf7_:(List YY6)×Int×YY18×Int×Int→Option YY39:=loopN uok_ fuel
def uha_:(List YY6)×Int×Int×Int×YY18→Option (List YY6):=fun (data_0,a_1,m_2,b_3,cmp_4) =>
 (uf7_ (data_0,m_2,cmp_4,(IntKind.i64.wrap (m_2-a_1)),(IntKind.i64.wrap (b_3-m_2)))).bind fun r3 =>
 (ubs_ (r3.1,(IntKind.i64.wrap (m_2-r3.2)),m_2,r3.2,cmp_4)).bind fun r4 =>
 some r4
def une_ (slf:(List YY6)×Int×Int×Int×YY18→Option (List YY6)) (next:(List YY6)×Int×YY18×Int×Int→Option YY39):(List YY6)×Int×YY18×Int×Int→Option YY39:=fun (data_0,a_1,cmp_4,i_10,j_11) =>
 bif (decide (i_10<j_11)) then
  (shr? IntKind.u64 (IntKind.u64.wrap (IntKind.i64.wrap (i_10+j_11))) (1:Int)).bind fun n1 =>
  (in? data_0.length (IntKind.i64.wrap n1)).bind fun _ =>
  (in? data_0.length a_1).bind fun _ =>
  (cmp_4 ((data_0.getD ((IntKind.i64.wrap n1).toNat) ((0:Int),(([]:Str),(([]:Str),(0:Int))))),(data_0.getD a_1.toNat ((0:Int),(([]:Str),(([]:Str),(0:Int))))))).bind fun r4 =>
  bif (decide (r4<(0:Int))) then
   next (data_0,a_1,cmp_4,(IntKind.i64.wrap ((IntKind.i64.wrap n1)+(1:Int))),j_11)
  else
   next (data_0,a_1,cmp_4,i_10,(IntKind.i64.wrap n1))
 else
  some (data_0,i_10)
def ufi_ (slf:(List YY6)×Int×Int×Int×YY18→Option (List YY6)):(List YY6)×Int×YY18×Int×Int→Option YY39:=loopN (une_ slf) fuel
def unf_ (slf:(List YY6)×Int×Int×Int×YY18→Option (List YY6)) (next:(List YY6)×Int×Int→Option (List YY6)):(List YY6)×Int×Int→Option (List YY6):=fun (data_0,i_10,k_13) =>
 bif (decide (k_13<(IntKind.i64.wrap (i_10-(1:Int))))) then
  (in? data_0.length (IntKind.i64.wrap (k_13+(1:Int)))).bind fun _ =>
  let v6:=(data_0.getD ((IntKind.i64.wrap (k_13+(1:Int))).toNat) ((0:Int),(([]:Str),(([]:Str),(0:Int)))))
  (in? data_0.length k_13).bind fun _ =>
  (in? data_0.length k_13).bind fun _ =>
  (in? (data_0.set k_13.toNat v6).length (IntKind.i64.wrap (k_13+(1:Int)))).bind fun _ =>
  next (((data_0.set k_13.toNat v6).set ((IntKind.i64.wrap (k_13+(1:Int))).toNat) (data_0.getD k_13.toNat ((0:Int),(([]:Str),(([]:Str),(0:Int)))))),i_10,(IntKind.i64.wrap (k_13+(1:Int))))
 else
  some data_0
def ufj_ (slf:(List YY6)×Int×Int×Int×YY18→Option (List YY6)):(List YY6)×Int×Int→Option (List YY6):=loopN (unf_ slf) fuel
def ung_ (slf:(List YY6)×Int×Int×Int×YY18→Option (List YY6)) (next:(List YY6)×Int×YY18×Int×Int→Option YY39):(List YY6)×Int×YY18×Int×Int→Option YY39:=fun (data_0,m_2,cmp_4,i_14,j_15) =>
 bif (decide (i_14<j_15)) then
  (shr? IntKind.u64 (IntKind.u64.wrap (IntKind.i64.wrap (i_14+j_15))) (1:Int)).bind fun n10 =>
  (in? data_0.length m_2).bind fun _ =>
  (in? data_0.length (IntKind.i64.wrap n10)).bind fun _ =>
  (cmp_4 ((data_0.getD m_2.toNat ((0:Int),(([]:Str),(([]:Str),(0:Int))))),(data_0.getD ((IntKind.i64.wrap n10).toNat) ((0:Int),(([]:Str),(([]:Str),(0:Int))))))).bind fun r13 =>
  bif (!(decide (r13<(0:Int)))) then
   next (data_0,m_2,cmp_4,(IntKind.i64.wrap ((IntKind.i64.wrap n10)+(1:Int))),j_15)
  else
   next (data_0,m_2,cmp_4,i_14,(IntKind.i64.wrap n10))
 else
  some (data_0,i_14)
def ufk_ (slf:(List YY6)×Int×Int×Int×YY18→Option (List YY6)):(List YY6)×Int×YY18×Int×Int→Option YY39:=loopN (ung_ slf) fuel
def umb_ (slf:(List YY6)×Int×Int×Int×YY18→Option (List YY6)) (next:(List YY6)×Int×Int→Option (List YY6)):(List YY6)×Int×Int→Option (List YY6):=fun (data_0,i_14,k_17) =>
 bif (decide (i_14<k_17)) then
  (in? data_0.length (IntKind.i64.wrap (k_17-(1:Int)))).bind fun _ =>
  let v15:=(data_0.getD ((IntKind.i64.wrap (k_17-(1:Int))).toNat) ((0:Int),(([]:Str),(([]:Str),(0:Int)))))
  (in? data_0.length k_17).bind fun _ =>
  (in? data_0.length k_17).bind fun _ =>
  (in? (data_0.set k_17.toNat v15).length (IntKind.i64.wrap (k_17-(1:Int)))).bind fun _ =>
  next (((data_0.set k_17.toNat v15).set ((IntKind.i64.wrap (k_17-(1:Int))).toNat) (data_0.getD k_17.toNat ((0:Int),(([]:Str),(([]:Str),(0:Int)))))),i_14,(IntKind.i64.wrap (k_17-(1:Int))))
 else
  some data_0
def ue5_ (slf:(List YY6)×Int×Int×Int×YY18→Option (List YY6)):(List YY6)×Int×Int→Option (List YY6):=loopN (umb_ slf) fuel
def ue6_ (slf:(List YY6)×Int×Int×Int×YY18→Option (List YY6)):Int×Int×Int×Int×Int×Bool→Option (Int×Int):=fun (a_1,m_2,b_3,mid_18,n_19,t140) =>
 bif t140 then
  some ((IntKind.i64.wrap (n_19-b_3)),mid_18)
 else
  some (a_1,m_2)
def umc_ (slf:(List YY6)×Int×Int×Int×YY18→Option (List YY6)) (next:(List YY6)×YY18×Int×Int×Int→Option YY39):(List YY6)×YY18×Int×Int×Int→Option YY39:=fun (data_0,cmp_4,start_20,r_21,p_22) =>
 bif (decide (start_20<r_21)) then
  (shr? IntKind.u64 (IntKind.u64.wrap (IntKind.i64.wrap (start_20+r_21))) (1:Int)).bind fun n22 =>
  (in? data_0.length (IntKind.i64.wrap (p_22-(IntKind.i64.wrap n22)))).bind fun _ =>
  (in? data_0.length (IntKind.i64.wrap n22)).bind fun _ =>
  (cmp_4 ((data_0.getD ((IntKind.i64.wrap (p_22-(IntKind.i64.wrap n22))).toNat) ((0:Int),(([]:Str),(([]:Str),(0:Int))))),(data_0.getD ((IntKind.i64.wrap n22).toNat) ((0:Int),(([]:Str),(([]:Str),(0:Int))))))).bind fun r25 =>
  bif (!(decide (r25<(0:Int)))) then
   next (data_0,cmp_4,(IntKind.i64.wrap ((IntKind.i64.wrap n22)+(1:Int))),r_21,p_22)
  else
   next (data_0,cmp_4,start_20,(IntKind.i64.wrap n22),p_22)
 else
  some (data_0,start_20)
def ue7_ (slf:(List YY6)×Int×Int×Int×YY18→Option (List YY6)):(List YY6)×YY18×Int×Int×Int→Option YY39:=loopN (umc_ slf) fuel
def ue8_ (slf:(List YY6)×Int×Int×Int×YY18→Option (List YY6)):(List YY6)×Int×YY18×Int×Int×Bool→Option (List YY6):=fun (data_0,m_2,cmp_4,start_20,end_24,t185) =>
 bif t185 then
  (uha_ (data_0,start_20,m_2,end_24,cmp_4)).bind fun r28 =>
  some r28
 else
  some data_0
def ue9_ (slf:(List YY6)×Int×Int×Int×YY18→Option (List YY6)):(List YY6)×Int×YY18×Int×Int×Bool→Option (List YY6):=fun (data_0,a_1,cmp_4,mid_18,start_20,t199) =>
 bif t199 then
  (slf (data_0,a_1,start_20,mid_18,cmp_4)).bind fun r31 =>
  some r31
 else
  some data_0
def ult_ (slf:(List YY6)×Int×Int×Int×YY18→Option (List YY6)):(List YY6)×Int×Int×Int×YY18→Option (List YY6):=fun (data_0,a_1,m_2,b_3,cmp_4) =>
 bif (eqI (IntKind.i64.wrap (m_2-a_1)) (1:Int)) then
  ((ufi_ slf) (data_0,a_1,cmp_4,m_2,b_3)).bind fun r5 =>
  ((ufj_ slf) (r5.1,r5.2,a_1)).bind fun r9 =>
  some r9
 else
  bif (eqI (IntKind.i64.wrap (b_3-m_2)) (1:Int)) then
   ((ufk_ slf) (data_0,m_2,cmp_4,a_1,m_2)).bind fun r14 =>
   ((ue5_ slf) (r14.1,r14.2,m_2)).bind fun r18 =>
   some r18
  else
   (shr? IntKind.u64 (IntKind.u64.wrap (IntKind.i64.wrap (a_1+b_3))) (1:Int)).bind fun n19 =>
   ((ue6_ slf) (a_1,m_2,b_3,(IntKind.i64.wrap n19),(IntKind.i64.wrap ((IntKind.i64.wrap n19)+m_2)),(decide ((IntKind.i64.wrap n19)<m_2)))).bind fun r20 =>
   ((ue7_ slf) (data_0,cmp_4,r20.1,r20.2,(IntKind.i64.wrap ((IntKind.i64.wrap ((IntKind.i64.wrap n19)+m_2))-(1:Int))))).bind fun r26 =>
   let v27:=(IntKind.i64.wrap ((IntKind.i64.wrap ((IntKind.i64.wrap n19)+m_2))-r26.2))
   ((ue8_ slf) (r26.1,m_2,cmp_4,r26.2,v27,((decide (r26.2<m_2))&&(decide (m_2<v27))))).bind fun r29 =>
   ((ue9_ slf) (r29,a_1,cmp_4,(IntKind.i64.wrap n19),r26.2,((decide (a_1<r26.2))&&(decide (r26.2<(IntKind.i64.wrap n19)))))).bind fun r32 =>
   bif ((decide ((IntKind.i64.wrap n19)<v27))&&(decide (v27<b_3))) then
    (slf (r32,(IntKind.i64.wrap n19),v27,b_3,cmp_4)).bind fun r34 =>
    some r34
   else
    some r32
def uj_:Nat→(List YY6)×Int×Int×Int×YY18→Option (List YY6)
 | 0=>fun _=>none
 | n+1=>ult_ (uj_ n)
def udb_:(List YY6)×Int×Int×Int×YY18→Option (List YY6):=uj_ 100
def uol_ (next:(List YY6)×Int×YY18×Int×Int×Int→Option YY39):(List YY6)×Int×YY18×Int×Int×Int→Option YY39:=fun (data_0,n_1,cmp_2,blockSize_6,a_7,b_8) =>
 bif (decide (b_8≤n_1)) then
  (ub6_ (data_0,a_7,b_8,cmp_2)).bind fun r1 =>
  next (r1,n_1,cmp_2,blockSize_6,b_8,(IntKind.i64.wrap (b_8+blockSize_6)))
 else
  some (data_0,a_7)
def uf8_:(List YY6)×Int×YY18×Int×Int×Int→Option YY39:=loopN uol_ fuel
def uom_ (next:(List YY6)×Int×YY18×Int×Int×Int→Option YY39):(List YY6)×Int×YY18×Int×Int×Int→Option YY39:=fun (data_0,n_1,cmp_2,blockSize_6,a_7,b_8) =>
 bif (decide (b_8≤n_1)) then
  (udb_ (data_0,a_7,(IntKind.i64.wrap (a_7+blockSize_6)),b_8,cmp_2)).bind fun r4 =>
  next (r4,n_1,cmp_2,blockSize_6,b_8,(IntKind.i64.wrap (b_8+(IntKind.i64.wrap ((2:Int)*blockSize_6)))))
 else
  some (data_0,a_7)
def uf9_:(List YY6)×Int×YY18×Int×Int×Int→Option YY39:=loopN uom_ fuel
def uon_ (next:(List YY6)×Int×YY18×Int→Option (List YY6)):(List YY6)×Int×YY18×Int→Option (List YY6):=fun (data_0,n_1,cmp_2,blockSize_6) =>
 bif (decide (blockSize_6<n_1)) then
  (uf9_ (data_0,n_1,cmp_2,blockSize_6,(0:Int),(IntKind.i64.wrap ((2:Int)*blockSize_6)))).bind fun r6 =>
  bif (decide ((IntKind.i64.wrap (r6.2+blockSize_6))<n_1)) then
   (udb_ (r6.1,r6.2,(IntKind.i64.wrap (r6.2+blockSize_6)),n_1,cmp_2)).bind fun r7 =>
   next (r7,n_1,cmp_2,(IntKind.i64.wrap (blockSize_6*(2:Int))))
  else
   next (r6.1,n_1,cmp_2,(IntKind.i64.wrap (blockSize_6*(2:Int))))
 else
  some data_0
def uga_:(List YY6)×Int×YY18×Int→Option (List YY6):=loopN uon_ fuel
def uhb_:(List YY6)×Int×YY18→Option (List YY6):=fun (data_0,n_1,cmp_2) =>
 (uf8_ (data_0,n_1,cmp_2,(20:Int),(0:Int),(20:Int))).bind fun r2 =>
 (ub6_ (r2.1,r2.2,n_1,cmp_2)).bind fun r3 =>
 (uga_ (r3,n_1,cmp_2,(20:Int))).bind fun r8 =>
 some r8
def ug4_:(List YY6)×YY18→Option (List YY6):=fun (x_0,cmp_1) =>
 (uhb_ (x_0,(x_0.length:Int),cmp_1)).bind fun r1 =>
 some r1
def u4l_:YY6×YY6→Option (Int):=fun (x_0,y_1) =>
 (ubx_ (x_0.2.1,y_1.2.1)).bind fun r1 =>
 (udg_ (x_0.1,y_1.1)).bind fun r2 =>
 (uxj_ ([r1,r2]:List Int)).bind fun r3 =>
 some r3
def ubll_ (next:YY14×(List YY6)×YY44×Int×Int→Option (List YY6)):YY14×(List YY6)×YY44×Int×Int→Option (List YY6):=fun (a_1,out_3,t8,t9,t10) =>
 bif (decide (t10<t9)) then
  (at? t8 t10).bind fun y1 =>
  (ublk_ ()).bind fun r2 =>
  (at? r2 y1.1).bind fun y3 =>
  bif (!(eqS y1.2 ([]:Str))) then
   (ubv1_ (a_1.2.1,y1.2)).bind fun r4 =>
   (uxq_ (a_1.2.1,y1.2)).bind fun r5 =>
   (app? 96 out_3 ([(y3,(r4.1,(r5.1,y1.1)))]:List YY6)).bind fun l7 =>
   next (a_1,l7,t8,t9,(IntKind.i64.wrap (t10+(1:Int))))
  else
   (app? 96 out_3 ([(y3,(([]:Str),(([]:Str),y1.1)))]:List YY6)).bind fun l9 =>
   next (a_1,l9,t8,t9,(IntKind.i64.wrap (t10+(1:Int))))
 else
  some out_3
def u4m_:YY14×(List YY6)×YY44×Int×Int→Option (List YY6):=loopN ubll_ fuel
def ubd0_:Str×Int×YY44×(List Str)×(List Str)→Option (List YY6):=fun a_0 =>
 (u4m_ (a_0,([]:List YY6),a_0.2.2.1,(a_0.2.2.1.length:Int),(0:Int))).bind fun r10 =>
 (ug4_ (r10,(fun x=>(u4l_ x).bind fun r=>some r))).bind fun r11 =>
 some r11
def ubqa_ (next:(List YY8)×Bool×YY46×(List YY6)×Int×Int→Option ((List YY8)×Bool×YY46)):(List YY8)×Bool×YY46×(List YY6)×Int×Int→Option ((List YY8)×Bool×YY46):=fun (out_3,on_4,low_5,t15,t16,t17) =>
 bif (decide (t17<t16)) then
  (at? t15 t17).bind fun y2 =>
  bif ((eqI y2.2.2.2 (1:Int))&&(!on_4)) then
   bif (!(eqS y2.2.2.1 ([]:Str))) then
    next (out_3,true,(true,(true,y2.2.2.1)),t15,t16,(IntKind.i64.wrap (t17+(1:Int))))
   else
    next (out_3,true,(false,(false,([]:Str))),t15,t16,(IntKind.i64.wrap (t17+(1:Int))))
  else
   bif ((!(eqI y2.2.2.2 (1:Int)))&&on_4) then
    (app? 144 out_3 ([(low_5,(true,((eqI y2.2.2.2 (3:Int)),y2.2.2.1)))]:List YY8)).bind fun l4 =>
    next (l4,false,low_5,t15,t16,(IntKind.i64.wrap (t17+(1:Int))))
   else
    next (out_3,on_4,low_5,t15,t16,(IntKind.i64.wrap (t17+(1:Int))))
 else
  some (out_3,on_4,low_5)
def ubap_:(List YY8)×Bool×YY46×(List YY6)×Int×Int→Option ((List YY8)×Bool×YY46):=loopN ubqa_ fuel
def ubaq_:(List YY8)×YY46×Bool→Option (List YY8):=fun (out_3,low_5,t56) =>
 bif t56 then
  (app? 144 out_3 ([(low_5,(false,(false,([]:Str))))]:List YY8)).bind fun l7 =>
  some l7
 else
  some out_3
def ubqb_ (next:YY14×(List YY8)×(List Str)×Int×Int→Option (List YY8)):YY14×(List YY8)×(List Str)×Int×Int→Option (List YY8):=fun (a_1,out_3,t63,t64,t65) =>
 bif (decide (t65<t64)) then
  (at? t63 t65).bind fun y9 =>
  (uxq_ (a_1.2.1,y9)).bind fun r10 =>
  (app? 144 out_3 ([((true,(true,r10.1)),(true,(true,r10.1)))]:List YY8)).bind fun l12 =>
  next (a_1,l12,t63,t64,(IntKind.i64.wrap (t65+(1:Int))))
 else
  some out_3
def ubar_:YY14×(List YY8)×(List Str)×Int×Int→Option (List YY8):=loopN ubqb_ fuel
def ublm_:Str×Int×YY44×(List Str)×(List Str)→Option (List YY8):=fun a_0 =>
 (ubd0_ a_0).bind fun r1 =>
 (ubap_ (([]:List YY8),false,(false,(false,([]:Str))),r1,(r1.length:Int),(0:Int))).bind fun r5 =>
 (ubaq_ (r5.1,r5.2.2,r5.2.1)).bind fun r8 =>
 (ubar_ (a_0,r8,a_0.2.2.2.1,(a_0.2.2.2.1.length:Int),(0:Int))).bind fun r13 =>
 some r13
def ujv_:Int×YY46→Option (Str×Int):=fun (kind_0,b_1) =>
 bif (!b_1.1) then
  bif (b_1.2.1||(!(eqS b_1.2.2 ([]:Str)))) then
   some (([]:Str),(2:Int))
  else
   some (([]:Str),(0:Int))
 else
  (uwg_ (kind_0,b_1.2.2)).bind fun r1 =>
  bif (!(eqI r1.2 (0:Int))) then
   some (([]:Str),r1.2)
  else
   ((fun z=>Sum.casesOn (motive:=fun _=>Option Str) z (fun x=>(uq0_ x).bind fun r=>some r) (fun z=>Sum.casesOn (motive:=fun _=>Option Str) z (fun x=>(upg_ x).bind fun r=>some r) (fun z=>Sum.casesOn (motive:=fun _=>Option Str) z (fun x=>(uq2_ x).bind fun r=>some r) (fun z=>Sum.casesOn (motive:=fun _=>Option Str) z (fun x=>(ul9_ x).bind fun r=>some r) (fun z=>Sum.casesOn (motive:=fun _=>Option Str) z (fun x=>(us7_ x).bind fun r=>some r) (fun _=>none)))))) r1.1).bind fun r2 =>
   bif (!(eqS r2 b_1.2.2)) then
    some (([]:Str),(2:Int))
   else
    ((fun z=>Sum.casesOn (motive:=fun _=>Option Str) z (fun x=>(uoi_ x).bind fun r=>some r) (fun z=>Sum.casesOn (motive:=fun _=>Option Str) z (fun x=>(umw_ x).bind fun r=>some r) (fun z=>Sum.casesOn (motive:=fun _=>Option Str) z (fun x=>(uoj_ x).bind fun r=>some r) (fun z=>Sum.casesOn (motive:=fun _=>Option Str) z (fun x=>(ui9_ x).bind fun r=>some r) (fun z=>Sum.casesOn (motive:=fun _=>Option Str) z (fun x=>(uqs_ x).bind fun r=>some r) (fun _=>none)))))) r1.1).bind fun r3 =>
    some (r3,(0:Int))
def u5r_:YY46×Str→Option YY43:=fun (b_0,key_1) =>
 bif (!b_0.1) then
  some ((-1:Int),(([]:Str),(false,([]:Str))))
 else
  some ((0:Int),(key_1,((!b_0.2.1),b_0.2.2)))
def u1n_:YY46×Str→Option YY43:=fun (b_0,key_1) =>
 bif (!b_0.1) then
  some ((1:Int),(([]:Str),(false,([]:Str))))
 else
  some ((0:Int),(key_1,(b_0.2.1,b_0.2.2)))
def uc8_:YY43×YY43→Option (Int):=fun (a_0,b_1) =>
 bif ((!(eqI a_0.1 b_1.1))||(!(eqI a_0.1 (0:Int)))) then
  (udg_ (a_0.1,b_1.1)).bind fun r1 =>
  some r1
 else
  (ubx_ (a_0.2.1,b_1.2.1)).bind fun r2 =>
  bif ((!(eqI r2 (0:Int)))||(eqB a_0.2.2.1 b_1.2.2.1)) then
   some r2
  else
   bif a_0.2.2.1 then
    some (1:Int)
   else
    some (-1:Int)
def ubd1_:YY7×YY7→Option (Int):=fun (a_0,b_1) =>
 (uc8_ (a_0.1,b_1.1)).bind fun r1 =>
 some r1
def uvi_:YY7×Int×Bool→Option (YY7×Int):=fun (s_1,first_5,t10) =>
 bif t10 then
  (ub3_ s_1.1.2.2.2).bind fun r1 =>
  bif s_1.1.2.2.1 then
   some (s_1,(IntKind.i64.wrap (r1.1+(1:Int))))
  else
   some (s_1,r1.1)
 else
  some (s_1,first_5)
def u1o_:YY43×YY43→Option (Int×Int×Bool):=fun s_0 =>
 (uvi_ (s_0,(0:Int),(eqI s_0.1.1 (0:Int)))).bind fun r2 =>
 bif (eqI r2.1.2.1 (0:Int)) then
  (ub3_ r2.1.2.2.2.2).bind fun r3 =>
  bif (!r2.1.2.2.2.1) then
   some (r2.2,(IntKind.i64.wrap (r3.1-(1:Int))),(decide (r2.2≤(IntKind.i64.wrap (r3.1-(1:Int))))))
  else
   some (r2.2,r3.1,(decide (r2.2≤r3.1)))
 else
  some (r2.2,(999999999999999999:Int),(decide (r2.2≤(999999999999999999:Int))))
def ubas_:Int×YY43×Bool→Option YY43:=fun (last_8,high_10,t27) =>
 bif t27 then
  (udq_ last_8).bind fun r3 =>
  (strconv_Itoa last_8).bind fun r4 =>
  some ((0:Int),(r3,(true,r4)))
 else
  some high_10
def ubqc_ (next:(List YY7)×Int×(List YY7)×Int×Int→Option (List YY7)):(List YY7)×Int×(List YY7)×Int×Int→Option (List YY7):=fun (out_3,end_4,t11,t12,t13) =>
 bif (decide (t13<t12)) then
  (at? t11 t13).bind fun y1 =>
  (u1o_ y1).bind fun r2 =>
  bif (!r2.2.2) then
   next (out_3,end_4,t11,t12,(IntKind.i64.wrap (t13+(1:Int))))
  else
   (ubas_ (r2.2.1,((1:Int),(([]:Str),(false,([]:Str)))),(decide (r2.2.1<(999999999999999999:Int))))).bind fun r5 =>
   bif ((decide ((0:Int)<(out_3.length:Int)))&&(eqI r2.1 (IntKind.i64.wrap (end_4+(1:Int))))) then
    (in? out_3.length (IntKind.i64.wrap ((out_3.length:Int)-(1:Int)))).bind fun _ =>
    next ((out_3.set ((IntKind.i64.wrap ((out_3.length:Int)-(1:Int))).toNat) ((out_3.getD ((IntKind.i64.wrap ((out_3.length:Int)-(1:Int))).toNat) (((0:Int),(([]:Str),(false,([]:Str)))),((0:Int),(([]:Str),(false,([]:Str)))))).1,r5)),r2.2.1,t11,t12,(IntKind.i64.wrap (t13+(1:Int))))
   else
    (udq_ r2.1).bind fun r8 =>
    (strconv_Itoa r2.1).bind fun r9 =>
    (app? 192 out_3 ([(((0:Int),(r8,(false,r9))),r5)]:List YY7)).bind fun l11 =>
    next (l11,r2.2.1,t11,t12,(IntKind.i64.wrap (t13+(1:Int))))
 else
  some out_3
def ubat_:(List YY7)×Int×(List YY7)×Int×Int→Option (List YY7):=loopN ubqc_ fuel
def ubln_:List YY7→Option (List YY7):=fun l_0 =>
 (ubat_ (([]:List YY7),(-2:Int),l_0,(l_0.length:Int),(0:Int))).bind fun r12 =>
 some r12
def ubia_:(List YY7)×Bool→Option (List YY7):=fun (l_1,t11) =>
 bif t11 then
  (ubln_ l_1).bind fun r1 =>
  some r1
 else
  some l_1
def ubib_:YY7×YY8×Bool→Option (YY7×YY8):=fun (s_8,x_9,t29) =>
 bif t29 then
  some (s_8,((true,((!s_8.1.2.2.1),s_8.1.2.2.2)),x_9.2))
 else
  some (s_8,x_9)
def ubur_ (next:YY26×(List YY7)×Int×Int→Option YY26):YY26×(List YY7)×Int×Int→Option YY26:=fun (r_6,t20,t21,t22) =>
 bif (decide (t22<t21)) then
  (at? t20 t22).bind fun y4 =>
  (ubib_ (y4,((false,(false,([]:Str))),(false,(false,([]:Str)))),(eqI y4.1.1 (0:Int)))).bind fun r5 =>
  bif (eqI r5.1.2.1 (0:Int)) then
   (app? 144 r_6.2 ([(r5.2.1,(true,(r5.1.2.2.2.1,r5.1.2.2.2.2)))]:List YY8)).bind fun l7 =>
   next ((r_6.1,l7),t20,t21,(IntKind.i64.wrap (t22+(1:Int))))
  else
   (app? 144 r_6.2 ([r5.2]:List YY8)).bind fun l9 =>
   next ((r_6.1,l9),t20,t21,(IntKind.i64.wrap (t22+(1:Int))))
 else
  some (r_6.1,r_6.2)
def ubic_:YY26×(List YY7)×Int×Int→Option YY26:=loopN ubur_ fuel
def ubs2_:Int×(List YY7)→Option (YY26×Int):=fun (kind_0,l_1) =>
 (ubia_ (l_1,(eqI kind_0 (5:Int)))).bind fun r2 =>
 bif (decide ((200:Int)<(r2.length:Int))) then
  some (((0:Int),([]:List YY8)),(3:Int))
 else
  (ubic_ ((kind_0,([]:List YY8)),r2,(r2.length:Int),(0:Int))).bind fun r10 =>
  some ((r10.1,r10.2),(0:Int))
def ubs3_ (next:Int×YY26×(List YY7)×(List YY8)×Int×Int→Option (Sum (YY26×(List YY7)) (YY26×Int))):Int×YY26×(List YY7)×(List YY8)×Int×Int→Option (Sum (YY26×(List YY7)) (YY26×Int)):=fun (kind_0,t4,all_6,t17,t18,t19) =>
 bif (decide (t19<t18)) then
  (at? t17 t19).bind fun y1 =>
  (ujv_ (kind_0,y1.1)).bind fun r2 =>
  bif (!(eqI r2.2 (0:Int))) then
   some (.inr (((0:Int),([]:List YY8)),r2.2))
  else
   (ujv_ (kind_0,y1.2)).bind fun r4 =>
   bif (!(eqI r4.2 (0:Int))) then
    some (.inr (((0:Int),([]:List YY8)),r4.2))
   else
    (u5r_ (y1.1,r2.1)).bind fun r6 =>
    (u1n_ (y1.2,r4.1)).bind fun r7 =>
    (uc8_ (r6,r7)).bind fun r8 =>
    bif (decide (r8<(0:Int))) then
     (app? 192 all_6 ([(r6,r7)]:List YY7)).bind fun l10 =>
     next (kind_0,t4,l10,t17,t18,(IntKind.i64.wrap (t19+(1:Int))))
    else
     next (kind_0,t4,all_6,t17,t18,(IntKind.i64.wrap (t19+(1:Int))))
 else
  some (.inl (t4,all_6))
def ubd2_:Int×YY26×(List YY7)×(List YY8)×Int×Int→Option (Sum (YY26×(List YY7)) (YY26×Int)):=loopN ubs3_ fuel
def ubs4_ (next:(List YY7)×(List YY7)×Int×Int→Option (List YY7)):(List YY7)×(List YY7)×Int×Int→Option (List YY7):=fun (out_13,t67,t68,t69) =>
 bif (decide (t69<t68)) then
  (in? t67.length t69).bind fun _ =>
  let v14:=(t67.getD t69.toNat (((0:Int),(([]:Str),(false,([]:Str)))),((0:Int),(([]:Str),(false,([]:Str))))))
  (bif (!(eqI (out_13.length:Int) (0:Int))) then in? out_13.length (IntKind.i64.wrap ((out_13.length:Int)-(1:Int))) else some ()).bind fun _ =>
  (bif (!(eqI (out_13.length:Int) (0:Int))) then uc8_ (((out_13.getD ((IntKind.i64.wrap ((out_13.length:Int)-(1:Int))).toNat) (((0:Int),(([]:Str),(false,([]:Str)))),((0:Int),(([]:Str),(false,([]:Str)))))).2),v14.1) else some (0:Int)).bind fun r16 =>
  bif ((eqI (out_13.length:Int) (0:Int))||(decide (r16<(0:Int)))) then
   (app? 192 out_13 ([v14]:List YY7)).bind fun l19 =>
   next (l19,t67,t68,(IntKind.i64.wrap (t69+(1:Int))))
  else
   (in? out_13.length (IntKind.i64.wrap ((out_13.length:Int)-(1:Int)))).bind fun _ =>
   (uc8_ (((out_13.getD ((IntKind.i64.wrap ((out_13.length:Int)-(1:Int))).toNat) (((0:Int),(([]:Str),(false,([]:Str)))),((0:Int),(([]:Str),(false,([]:Str)))))).2),v14.2)).bind fun r21 =>
   bif (decide (r21<(0:Int))) then
    (in? out_13.length (IntKind.i64.wrap ((out_13.length:Int)-(1:Int)))).bind fun _ =>
    next ((out_13.set ((IntKind.i64.wrap ((out_13.length:Int)-(1:Int))).toNat) ((out_13.getD ((IntKind.i64.wrap ((out_13.length:Int)-(1:Int))).toNat) (((0:Int),(([]:Str),(false,([]:Str)))),((0:Int),(([]:Str),(false,([]:Str)))))).1,v14.2)),t67,t68,(IntKind.i64.wrap (t69+(1:Int))))
   else
    next (out_13,t67,t68,(IntKind.i64.wrap (t69+(1:Int))))
 else
  some out_13
def ubd3_:(List YY7)×(List YY7)×Int×Int→Option (List YY7):=loopN ubs4_ fuel
def ubpw_:Int×(List YY8)→Option (YY26×Int):=fun (kind_0,l_1) =>
 (ubd2_ (kind_0,((0:Int),([]:List YY8)),([]:List YY7),l_1,(l_1.length:Int),(0:Int))).bind fun r11 =>
 match r11 with
 | .inl y12 =>
   (uku_ (y12.2,(fun x=>(ubd1_ x).bind fun r=>some r))).bind fun r13 =>
   (ubd3_ (([]:List YY7),r13,(r13.length:Int),(0:Int))).bind fun r23 =>
   (ubs2_ (kind_0,r23)).bind fun r24 =>
   some (r24.1,r24.2)
 | .inr y12' =>
   some (y12'.1,y12'.2)
def ubd4_:Str×Int×YY44×(List Str)×(List Str)→Option (YY26×Int):=fun a_0 =>
 (uxr_ a_0).bind fun r1 =>
 bif (!(eqI r1 (0:Int))) then
  some (((0:Int),([]:List YY8)),r1)
 else
  (ublm_ a_0).bind fun r3 =>
  (ubpw_ (a_0.2.1,r3)).bind fun r4 =>
  some (r4.1,r4.2)
def u6x_:YY3×Bool→Option (Sum YY3 ((List YY26)×Int)):=fun (a_1,t37) =>
 bif t37 then
  (u8i_ a_1.2.2.2.2.2.1).bind fun r5 =>
  bif (!(eqI r5.2 (0:Int))) then
   some (.inr (([]:List YY26),r5.2))
  else
   some (.inl a_1)
 else
  some (.inl a_1)
def ubn7_ (next:(List YY26)×(List YY14)×Int×Int→Option (Sum (List YY26) ((List YY26)×Int))):(List YY26)×(List YY14)×Int×Int→Option (Sum (List YY26) ((List YY26)×Int)):=fun (out_7,t52,t53,t54) =>
 bif (decide (t54<t53)) then
  (at? t52 t54).bind fun y8 =>
  (ubd4_ y8).bind fun r9 =>
  bif (!(eqI r9.2 (0:Int))) then
   some (.inr (([]:List YY26),r9.2))
  else
   (app? 48 out_7 ([r9.1]:List YY26)).bind fun l11 =>
   next (l11,t52,t53,(IntKind.i64.wrap (t54+(1:Int))))
 else
  some (.inl out_7)
def u6y_:(List YY26)×(List YY14)×Int×Int→Option (Sum (List YY26) ((List YY26)×Int)):=loopN ubn7_ fuel
def u5s_:Str×(List Str)×Str×Int×Bool×Str×(List YY14)→Option ((List YY26)×Int):=fun a_0 =>
 (u4b_ a_0.1).bind fun r1 =>
 bif (!r1) then
  some (([]:List YY26),(8:Int))
 else
  (uzi_ a_0).bind fun r2 =>
  bif (!(eqI r2 (0:Int))) then
   some (([]:List YY26),r2)
  else
   (u4b_ a_0.2.2.1).bind fun r3 =>
   bif (!r3) then
    some (([]:List YY26),(8:Int))
   else
    bif ((decide (a_0.2.2.2.1<(0:Int)))||(decide ((1000000:Int)<a_0.2.2.2.1))) then
     some (([]:List YY26),(9:Int))
    else
     (u6x_ (a_0,(!(eqS a_0.2.2.2.2.2.1 ([]:Str))))).bind fun r6 =>
     match r6 with
     | .inl y7 =>
       bif (decide ((50:Int)<(y7.2.2.2.2.2.2.length:Int))) then
        some (([]:List YY26),(3:Int))
       else
        (u6y_ (([]:List YY26),y7.2.2.2.2.2.2,(y7.2.2.2.2.2.2.length:Int),(0:Int))).bind fun r12 =>
        match r12 with
        | .inl y13 =>
          some (y13,(0:Int))
        | .inr y13' =>
          some (y13'.1,y13'.2)
     | .inr y7' =>
       some (y7'.1,y7'.2)
def ublo_:Str×(List Str)×Str×Int×Bool×Str×(List YY14)→Option (Int):=fun a_0 =>
 (u5s_ a_0).bind fun r1 =>
 some r1.2
def ubgl_ (next:YY41×(List YY3)×Int×Int→Option YY24):YY41×(List YY3)×Int×Int→Option YY24:=fun (b_1,t29,t30,t31) =>
 bif (decide (t31<t30)) then
  (at? t29 t31).bind fun y2 =>
  (ublo_ y2).bind fun r3 =>
  bif (!(eqI r3 (0:Int))) then
   some (.inr r3)
  else
   (bif (decide ((0:Int)<t31)) then at? b_1.2.1 (IntKind.i64.wrap (t31-(1:Int))) else some (([]:Str),(([]:List Str),(([]:Str),((0:Int),(false,(([]:Str),([]:List YY14)))))))).bind fun y4 =>
   bif ((decide ((0:Int)<t31))&&(Op.bytesLess y2.1 y4.1||eqS y2.1 y4.1)) then
    some (.inr (10:Int))
   else
    (at? b_1.2.2 t31).bind fun y6 =>
    (bif (!(decide (y6<(0:Int)))) then at? b_1.2.2 t31 else some (0:Int)).bind fun y7 =>
    bif ((decide (y6<(0:Int)))||(decide (b_1.1<y7))) then
     some (.inr (9:Int))
    else
     next (b_1,t29,t30,(IntKind.i64.wrap (t31+(1:Int))))
 else
  some (.inl ())
def uzs_:YY41×(List YY3)×Int×Int→Option YY24:=loopN ubgl_ fuel
def uwh_:Int×(List YY3)×(List Int)→Option (Int):=fun b_0 =>
 bif ((decide (b_0.1<(0:Int)))||(decide ((1000000000:Int)<b_0.1))) then
  some (9:Int)
 else
  bif (decide ((2000:Int)<(b_0.2.1.length:Int))) then
   some (3:Int)
  else
   bif (!(eqI (b_0.2.2.length:Int) (b_0.2.1.length:Int))) then
    some (2:Int)
   else
    (uzs_ (b_0,b_0.2.1,(b_0.2.1.length:Int),(0:Int))).bind fun r8 =>
    match r8 with
    | .inl y9 =>
      some (0:Int)
    | .inr y9' =>
      some y9'
def u6z_:YY9×Int×YY41×(List YY17)×Int×(List Str)×(List YY29)→Option (Int):=fun p_0 =>
 bif (decide ((1:Int)<(p_0.2.2.2.1.length:Int))) then
  some (2:Int)
 else
  bif (eqI (p_0.2.2.2.1.length:Int) (0:Int)) then
   bif ((!(eqI p_0.2.2.2.2.1 (0:Int)))||(decide ((0:Int)<(p_0.2.2.2.2.2.1.length:Int)))) then
    some (2:Int)
   else
    some (0:Int)
  else
   (at? p_0.2.2.2.1 (0:Int)).bind fun y2 =>
   none
def ubus_ (next:Str×Int×Int→Option YY28):Str×Int×Int→Option YY28:=fun (s_0,t6,t7) =>
 bif (decide (t7<t6)) then
  (at? s_0 t7).bind fun b1 =>
  bif (!(((((((decide ((97:Int)≤(b1.toNat:Int)))&&(decide ((b1.toNat:Int)≤(122:Int))))||((decide ((65:Int)≤(b1.toNat:Int)))&&(decide ((b1.toNat:Int)≤(90:Int)))))||((decide ((48:Int)≤(b1.toNat:Int)))&&(decide ((b1.toNat:Int)≤(57:Int)))))||(eqI (b1.toNat:Int) (46:Int)))||(eqI (b1.toNat:Int) (45:Int)))||(eqI (b1.toNat:Int) (95:Int)))) then
   some (.inr false)
  else
   next (s_0,t6,(IntKind.i64.wrap (t7+(1:Int))))
 else
  some (.inl ())
def ubid_:Str×Int×Int→Option YY28:=loopN ubus_ fuel
def ubs5_:Str→Option (Bool):=fun s_0 =>
 (ubid_ (s_0,(s_0.length:Int),(0:Int))).bind fun r6 =>
 match r6 with
 | .inl y7 =>
   some ((!(eqS s_0 ([]:Str)))&&(decide ((s_0.length:Int)≤(60:Int))))
 | .inr y7' =>
   some y7'
def ubi8_ (next:Str×Int×Int→Option YY28):Str×Int×Int→Option YY28:=fun (s_0,t5,t6) =>
 bif (decide (t6<t5)) then
  (at? s_0 t6).bind fun b1 =>
  (bif (!(decide ((b1.toNat:Int)<(32:Int)))) then at? s_0 t6 else some 0).bind fun b2 =>
  bif ((decide ((b1.toNat:Int)<(32:Int)))||(eqI (b2.toNat:Int) (127:Int))) then
   some (.inr false)
  else
   next (s_0,t5,(IntKind.i64.wrap (t6+(1:Int))))
 else
  some (.inl ())
def u1p_:Str×Int×Int→Option YY28:=loopN ubi8_ fuel
def ubau_:Str→Option (Bool):=fun s_0 =>
 (u1p_ (s_0,(s_0.length:Int),(0:Int))).bind fun r4 =>
 match r4 with
 | .inl y5 =>
   some (decide ((s_0.length:Int)≤(100:Int)))
 | .inr y5' =>
   some y5'
def uxu_:Str×Str×Str×Int×Int×Int×Int→Option (Int):=fun s_0 =>
 (ubs5_ s_0.1).bind fun r1 =>
 (bif (!(!r1)) then ubau_ s_0.2.1 else some false).bind fun r2 =>
 bif ((!r1)||(!r2)) then
  some (8:Int)
 else
  none
def ubs6_ (next:(List YY29)×Int×Int→Option YY24):(List YY29)×Int×Int→Option YY24:=fun (t39,t40,t41) =>
 bif (decide (t41<t40)) then
  (at? t39 t41).bind fun y5 =>
  (uxu_ y5).bind fun r6 =>
  bif (!(eqI r6 (0:Int))) then
   some (.inr r6)
  else
   next (t39,t40,(IntKind.i64.wrap (t41+(1:Int))))
 else
  some (.inl ())
def ubd5_:(List YY29)×Int×Int→Option YY24:=loopN ubs6_ fuel
def ubpx_:YY9×Int×YY41×(List YY17)×Int×(List Str)×(List YY29)→Option (Int):=fun p_0 =>
 (ubrv_ p_0.1).bind fun r1 =>
 bif (!(eqI r1 (0:Int))) then
  some r1
 else
  bif ((decide (p_0.2.1<(1:Int)))||(decide ((4:Int)<p_0.2.1))) then
   some (9:Int)
  else
   (uwh_ p_0.2.2.1).bind fun r3 =>
   bif (!(eqI r3 (0:Int))) then
    some r3
   else
    (u6z_ p_0).bind fun r4 =>
    bif (!(eqI r4 (0:Int))) then
     some r4
    else
     bif (decide ((2000:Int)<(p_0.2.2.2.2.2.2.length:Int))) then
      some (3:Int)
     else
      (ubd5_ (p_0.2.2.2.2.2.2,(p_0.2.2.2.2.2.2.length:Int),(0:Int))).bind fun r7 =>
      match r7 with
      | .inl y8 =>
        some (0:Int)
      | .inr y8' =>
        some y8'
def ubpy_:Int×Str→Option (Int):=fun (kind_0,s_1) =>
 (uwg_ (kind_0,s_1)).bind fun r1 =>
 some r1.2
def u60_:YY8×(List YY7)→Option (Int):=fun (s_0,before_1) =>
 bif (((!s_0.1.1)||(!s_0.1.2.1))||(s_0.2.1&&((!s_0.2.2.1)||(eqS s_0.2.2.2 ([57,57,57,57,57,57,57,57,57,57,57,57,57,57,57,57,57,57]:Str))))) then
  some (2:Int)
 else
  bif (decide ((0:Int)<(before_1.length:Int))) then
   (ub3_ s_0.1.2.2).bind fun r3 =>
   (at? before_1 (IntKind.i64.wrap ((before_1.length:Int)-(1:Int)))).bind fun y4 =>
   (ub3_ y4.2.2.2.2).bind fun r5 =>
   bif (decide (r3.1<(IntKind.i64.wrap (r5.1+(2:Int))))) then
    some (10:Int)
   else
    some (0:Int)
  else
   some (0:Int)
def ubi9_ (next:YY26×(List YY7)×(List YY8)×Int×Int→Option (Sum (List YY7) ((List YY7)×Int))):YY26×(List YY7)×(List YY8)×Int×Int→Option (Sum (List YY7) ((List YY7)×Int)):=fun (r_1,out_4,t25,t26,t27) =>
 bif (decide (t27<t26)) then
  (at? t25 t27).bind fun y2 =>
  (ujv_ (r_1.1,y2.1)).bind fun r3 =>
  bif (!(eqI r3.2 (0:Int))) then
   some (.inr (([]:List YY7),r3.2))
  else
   (ujv_ (r_1.1,y2.2)).bind fun r4 =>
   bif (!(eqI r4.2 (0:Int))) then
    some (.inr (([]:List YY7),r4.2))
   else
    (u5r_ (y2.1,r3.1)).bind fun r5 =>
    (u1n_ (y2.2,r4.1)).bind fun r6 =>
    (uc8_ (r5,r6)).bind fun r7 =>
    (bif ((!(decide ((0:Int)≤r7)))&&(decide ((0:Int)<(out_4.length:Int)))) then at? out_4 (IntKind.i64.wrap ((out_4.length:Int)-(1:Int))) else some (((0:Int),(([]:Str),(false,([]:Str)))),((0:Int),(([]:Str),(false,([]:Str)))))).bind fun y8 =>
    (bif ((!(decide ((0:Int)≤r7)))&&(decide ((0:Int)<(out_4.length:Int)))) then uc8_ (r5,y8.2) else some (0:Int)).bind fun r9 =>
    bif ((decide ((0:Int)≤r7))||((decide ((0:Int)<(out_4.length:Int)))&&(decide (r9≤(0:Int))))) then
     some (.inr (([]:List YY7),(10:Int)))
    else
     bif (eqI r_1.1 (5:Int)) then
      (u60_ (y2,out_4)).bind fun r11 =>
      bif (!(eqI r11 (0:Int))) then
       some (.inr (([]:List YY7),r11))
      else
       (app? 192 out_4 ([(r5,r6)]:List YY7)).bind fun l13 =>
       next (r_1,l13,t25,t26,(IntKind.i64.wrap (t27+(1:Int))))
     else
      (app? 192 out_4 ([(r5,r6)]:List YY7)).bind fun l15 =>
      next (r_1,l15,t25,t26,(IntKind.i64.wrap (t27+(1:Int))))
 else
  some (.inl out_4)
def u1q_:YY26×(List YY7)×(List YY8)×Int×Int→Option (Sum (List YY7) ((List YY7)×Int)):=loopN ubi9_ fuel
def ubav_:Int×(List YY8)→Option ((List YY7)×Int):=fun r_0 =>
 bif ((decide (r_0.1<(1:Int)))||(decide ((5:Int)<r_0.1))) then
  some (([]:List YY7),(7:Int))
 else
  bif (decide ((200:Int)<(r_0.2.length:Int))) then
   some (([]:List YY7),(3:Int))
  else
   (u1q_ (r_0,([]:List YY7),r_0.2,(r_0.2.length:Int),(0:Int))).bind fun r16 =>
   match r16 with
   | .inl y17 =>
     some (y17,(0:Int))
   | .inr y17' =>
     some (y17'.1,y17'.2)
def ubaw_:YY7×(Option YY43)→Option (Bool):=fun (s_0,t1) =>
 (t1).bind fun p1 =>
 (uc8_ (s_0.1,p1)).bind fun r2 =>
 (bif (decide (r2≤(0:Int))) then t1 else some ((0:Int),(([]:Str),(false,([]:Str))))).bind fun p3 =>
 (bif (decide (r2≤(0:Int))) then uc8_ (p3,s_0.2) else some (0:Int)).bind fun r4 =>
 some ((decide (r2≤(0:Int)))&&(decide (r4<(0:Int))))
def usi_ (next:(List YY7)×(YY7→Option Bool)×Int×Int→Option YY24):(List YY7)×(YY7→Option Bool)×Int×Int→Option YY24:=fun (s_0,f_1,t7,t8) =>
 bif (decide (t8<t7)) then
  (at? s_0 t8).bind fun y1 =>
  (f_1 y1).bind fun r2 =>
  bif r2 then
   some (.inr t8)
  else
   next (s_0,f_1,t7,(IntKind.i64.wrap (t8+(1:Int))))
 else
  some (.inl ())
def uhx_:(List YY7)×(YY7→Option Bool)×Int×Int→Option YY24:=loopN usi_ fuel
def ujw_:(List YY7)×(YY7→Option Bool)→Option (Int):=fun (s_0,f_1) =>
 (uhx_ (s_0,f_1,(s_0.length:Int),(0:Int))).bind fun r3 =>
 match r3 with
 | .inl y4 =>
   some (-1:Int)
 | .inr y4' =>
   some y4'
def ublp_:(List YY7)×Str→Option (Int):=fun (l_0,key_1) =>
 (ujw_ (l_0,(fun x=>(ubaw_ (x,(some ((0:Int),(key_1,(false,([]:Str))))))).bind fun r=>some r))).bind fun r1 =>
 some r1
def ubd6_:YY26×Str→Option (Bool×Int):=fun (r_0,s_1) =>
 (ubav_ r_0).bind fun r1 =>
 bif (!(eqI r1.2 (0:Int))) then
  some (false,r1.2)
 else
  (uwg_ (r_0.1,s_1)).bind fun r2 =>
  bif (!(eqI r2.2 (0:Int))) then
   some (false,r2.2)
  else
   ((fun z=>Sum.casesOn (motive:=fun _=>Option Str) z (fun x=>(uoi_ x).bind fun r=>some r) (fun z=>Sum.casesOn (motive:=fun _=>Option Str) z (fun x=>(umw_ x).bind fun r=>some r) (fun z=>Sum.casesOn (motive:=fun _=>Option Str) z (fun x=>(uoj_ x).bind fun r=>some r) (fun z=>Sum.casesOn (motive:=fun _=>Option Str) z (fun x=>(ui9_ x).bind fun r=>some r) (fun z=>Sum.casesOn (motive:=fun _=>Option Str) z (fun x=>(uqs_ x).bind fun r=>some r) (fun _=>none)))))) r2.1).bind fun r3 =>
   (ublp_ (r1.1,r3)).bind fun r4 =>
   some ((decide ((0:Int)≤r4)),(0:Int))
def ubd7_:YY14×YY26×Str×Str→Option (Bool):=fun (a_0,r_1,key_2,v_3) =>
 (bif (!((!(eqS a_0.1 key_2))||(eqS v_3 ([]:Str)))) then ubpy_ (a_0.2.1,v_3) else some (0:Int)).bind fun r1 =>
 bif (((!(eqS a_0.1 key_2))||(eqS v_3 ([]:Str)))||(!(eqI r1 (0:Int)))) then
  some false
 else
  (ubd6_ (r_1,v_3)).bind fun r3 =>
  some ((eqI r3.2 (0:Int))&&r3.1)
def u4n_:(Int×Int)×(Int×Int)→Option (Int):=fun (x_0,y_1) =>
 (udg_ (x_0.1,y_1.1)).bind fun r1 =>
 (udg_ (x_0.2,y_1.2)).bind fun r2 =>
 (uxj_ ([r1,r2]:List Int)).bind fun r3 =>
 some r3
def ublq_ (next:YY9×(List YY26)×YY38×Int×YY14×(List Int)×Int×Int→Option (YY9×YY38)):YY9×(List YY26)×YY38×Int×YY14×(List Int)×Int×Int→Option (YY9×YY38):=fun (m_4,l_7,out_9,i_10,x_11,t30,t31,t32) =>
 bif (decide (t32<t31)) then
  (at? t30 t32).bind fun y4 =>
  (at? l_7 i_10).bind fun y5 =>
  (at? m_4.2.2.2.1 y4).bind fun y6 =>
  (ubd7_ (x_11,y5,x_11.1,y6.2.1.2.2.2.1)).bind fun r7 =>
  bif r7 then
   (app? 48 out_9 ([(y4,i_10)]:List (Int×Int))).bind fun l8 =>
   next (m_4,l_7,l8,i_10,x_11,t30,t31,(IntKind.i64.wrap (t32+(1:Int))))
  else
   next (m_4,l_7,out_9,i_10,x_11,t30,t31,(IntKind.i64.wrap (t32+(1:Int))))
 else
  some (m_4,out_9)
def u4o_:YY9×(List YY26)×YY38×Int×YY14×(List Int)×Int×Int→Option (YY9×YY38):=loopN ublq_ fuel
def ublr_ (next:YY51×YY9×(List YY26)×YY38×(List YY14)×Int×Int→Option YY38):YY51×YY9×(List YY26)×YY38×(List YY14)×Int×Int→Option YY38:=fun (byKey_2,m_4,l_7,out_9,t20,t21,t22) =>
 bif (decide (t22<t21)) then
  (at? t20 t22).bind fun y2 =>
  (u4o_ (m_4,l_7,out_9,t22,y2,((uck_ eqS y2.1 byKey_2).getD ([]:List Int)),(((uck_ eqS y2.1 byKey_2).getD ([]:List Int)).length:Int),(0:Int))).bind fun r9 =>
  next (byKey_2,r9.1,l_7,r9.2,t20,t21,(IntKind.i64.wrap (t22+(1:Int))))
 else
  some out_9
def u4p_:YY51×YY9×(List YY26)×YY38×(List YY14)×Int×Int→Option YY38:=loopN ublr_ fuel
def ubd8_:YY3×YY9×YY51→Option YY38:=fun (a_0,m_1,byKey_2) =>
 (u5s_ a_0).bind fun r1 =>
 (u4p_ (byKey_2,m_1,r1.1,([]:List (Int×Int)),a_0.2.2.2.2.2.2,(a_0.2.2.2.2.2.2.length:Int),(0:Int))).bind fun r10 =>
 (ums_ (r10,(fun x=>(u4n_ x).bind fun r=>some r))).bind fun r11 =>
 some r11
def ubqd_ (next:(List (Str×List Int))×(List YY2)×Int×Int→Option (List (Str×List Int))):(List (Str×List Int))×(List YY2)×Int×Int→Option (List (Str×List Int)):=fun (byKey_8,t30,t31,t32) =>
 bif (decide (t32<t31)) then
  (at? t30 t32).bind fun y3 =>
  (ub1k_ y3.2.1).bind fun r4 =>
  (app? 24 ((uck_ eqS r4.1 byKey_8).getD ([]:List Int)) ([t32]:List Int)).bind fun l5 =>
  (bif eqS r4.1 r4.1 then some () else none).bind fun _ =>
  next ((putKV eqS r4.1 l5 byKey_8),t30,t31,(IntKind.i64.wrap (t32+(1:Int))))
 else
  some byKey_8
def ubax_:(List (Str×List Int))×(List YY2)×Int×Int→Option (List (Str×List Int)):=loopN ubqd_ fuel
def ubqe_ (next:YY9×(List YY12)×YY3×YY38×Int×Int→Option (Sum (YY9×(List YY12)) ((List YY12)×Int))):YY9×(List YY12)×YY3×YY38×Int×Int→Option (Sum (YY9×(List YY12)) ((List YY12)×Int)):=fun (m_3,out_13,a_15,t64,t65,t66) =>
 bif (decide (t66<t65)) then
  (at? t64 t66).bind fun y9 =>
  bif (eqI (out_13.length:Int) (100000:Int)) then
   some (.inr (([]:List YY12),(3:Int)))
  else
   (at? m_3.2.2.2.1 y9.1).bind fun y10 =>
   (app? 72 out_13 ([(a_15.1,(y10.1,y9.2))]:List YY12)).bind fun l12 =>
   next (m_3,l12,a_15,t64,t65,(IntKind.i64.wrap (t66+(1:Int))))
 else
  some (.inl (m_3,out_13))
def ubay_:YY9×(List YY12)×YY3×YY38×Int×Int→Option (Sum (YY9×(List YY12)) ((List YY12)×Int)):=loopN ubqe_ fuel
def ubqf_ (next:YY9×YY51×(List YY12)×(List YY3)×Int×Int→Option (Sum (List YY12) ((List YY12)×Int))):YY9×YY51×(List YY12)×(List YY3)×Int×Int→Option (Sum (List YY12) ((List YY12)×Int)):=fun (m_3,byKey_8,out_13,t53,t54,t55) =>
 bif (decide (t55<t54)) then
  (at? t53 t55).bind fun y15 =>
  bif y15.2.2.2.2.1 then
   next (m_3,byKey_8,out_13,t53,t54,(IntKind.i64.wrap (t55+(1:Int))))
  else
   (ubd8_ (y15,m_3,byKey_8)).bind fun r16 =>
   (ubay_ (m_3,out_13,y15,r16,(r16.length:Int),(0:Int))).bind fun r17 =>
   match r17 with
   | .inl y18 =>
     next (y18.1,byKey_8,y18.2,t53,t54,(IntKind.i64.wrap (t55+(1:Int))))
   | .inr y18' =>
     some (.inr (y18'.1,y18'.2))
 else
  some (.inl out_13)
def ubaz_:YY9×YY51×(List YY12)×(List YY3)×Int×Int→Option (Sum (List YY12) ((List YY12)×Int)):=loopN ubqf_ fuel
def ubls_:YY41×YY9→Option ((List YY12)×Int):=fun (b_0,m_1) =>
 (uwh_ b_0).bind fun r1 =>
 bif (!(eqI r1 (0:Int))) then
  some (([]:List YY12),r1)
 else
  (ubrv_ m_1).bind fun r2 =>
  bif (!(eqI r2 (0:Int))) then
   some (([]:List YY12),r2)
  else
   (ubax_ (([]:List (Str×List Int)),m_1.2.2.2.1,(m_1.2.2.2.1.length:Int),(0:Int))).bind fun r6 =>
   (ubaz_ (m_1,r6,([]:List YY12),b_0.2.1,(b_0.2.1.length:Int),(0:Int))).bind fun r19 =>
   match r19 with
   | .inl y20 =>
     some (y20,(0:Int))
   | .inr y20' =>
     some (y20'.1,y20'.2)
def ubn8_ (next:YY15×(List YY3)×Int×Int→Option YY15):YY15×(List YY3)×Int×Int→Option YY15:=fun (s_3,t23,t24,t25) =>
 bif (decide (t25<t24)) then
  (at? t23 t25).bind fun y3 =>
  next ((s_3.1,((putKV eqS y3.1 y3 s_3.2.1),(s_3.2.2.1,(s_3.2.2.2.1,s_3.2.2.2.2)))),t23,t24,(IntKind.i64.wrap (t25+(1:Int))))
 else
  some (s_3.1,(s_3.2.1,(s_3.2.2.1,(s_3.2.2.2.1,s_3.2.2.2.2))))
def u61_:YY15×(List YY3)×Int×Int→Option YY15:=loopN ubn8_ fuel
def ubn9_ (next:YY15×(List YY2)×Int×Int→Option YY15):YY15×(List YY2)×Int×Int→Option YY15:=fun (s_3,t39,t40,t41) =>
 bif (decide (t41<t40)) then
  (at? t39 t41).bind fun y5 =>
  next ((s_3.1,(s_3.2.1,((putKV eqS y5.1 y5 s_3.2.2.1),(s_3.2.2.2.1,s_3.2.2.2.2)))),t39,t40,(IntKind.i64.wrap (t41+(1:Int))))
 else
  some (s_3.1,(s_3.2.1,(s_3.2.2.1,(s_3.2.2.2.1,s_3.2.2.2.2))))
def u62_:YY15×(List YY2)×Int×Int→Option YY15:=loopN ubn9_ fuel
def uboa_ (next:YY4×YY15×(List YY12)×Int×Int→Option (YY4×YY15)):YY4×YY15×(List YY12)×Int×Int→Option (YY4×YY15):=fun (p_1,s_3,t55,t56,t57) =>
 bif (decide (t57<t56)) then
  (at? t55 t57).bind fun y7 =>
  bif (decide (y7.2.2≤p_1.2.1)) then
   next (p_1,(s_3.1,(s_3.2.1,(s_3.2.2.1,(s_3.2.2.2.1,(putKV (fun (x y:Str×Str×Int)=>eqS x.1 y.1&&(fun (x y:Str×Int)=>eqS x.1 y.1&&eqI x.2 y.2) x.2 y.2) (y7.1,(y7.2.1,(0:Int))) true s_3.2.2.2.2))))),t55,t56,(IntKind.i64.wrap (t57+(1:Int))))
  else
   next (p_1,(s_3.1,(s_3.2.1,(s_3.2.2.1,(s_3.2.2.2.1,s_3.2.2.2.2)))),t55,t56,(IntKind.i64.wrap (t57+(1:Int))))
 else
  some (p_1,(s_3.1,(s_3.2.1,(s_3.2.2.1,(s_3.2.2.2.1,s_3.2.2.2.2)))))
def u63_:YY4×YY15×(List YY12)×Int×Int→Option (YY4×YY15):=loopN uboa_ fuel
def ubie_:YY9×Int×YY41×(List YY17)×Int×(List Str)×(List YY29)→Option (Option YY1):=fun p_0 =>
 (u61_ ((p_0,(([]:List (Str×YY3)),(([]:List (Str×YY2)),(([]:List (Str×Bool)),([]:List (YY12×Bool)))))),p_0.2.2.1.2.1,(p_0.2.2.1.2.1.length:Int),(0:Int))).bind fun r4 =>
 (u62_ ((r4.1,(r4.2.1,(r4.2.2.1,(r4.2.2.2.1,r4.2.2.2.2)))),p_0.1.2.2.2.1,(p_0.1.2.2.2.1.length:Int),(0:Int))).bind fun r6 =>
 (u63_ (p_0,(r6.1,(r6.2.1,(r6.2.2.1,(r6.2.2.2.1,r6.2.2.2.2)))),p_0.1.2.2.2.2,(p_0.1.2.2.2.2.length:Int),(0:Int))).bind fun r9 =>
 bif (eqI (r9.1.2.2.2.1.length:Int) (1:Int)) then
  (at? r9.1.2.2.2.1 (0:Int)).bind fun y10 =>
  none
 else
  some (some (r9.2.1,(r9.2.2.1,(r9.2.2.2.1,(r9.2.2.2.2.1,r9.2.2.2.2.2)))))
def ubgm_ (next:(List Int)×Int→Option (List Int)):(List Int)×Int→Option (List Int):=fun (s_0,k_3) =>
 bif (decide (k_3<(s_0.length:Int))) then
  (in? s_0.length k_3).bind fun _ =>
  (in? s_0.length (IntKind.i64.wrap (k_3-(1:Int)))).bind fun _ =>
  bif (eqI (s_0.getD k_3.toNat (0:Int)) (s_0.getD ((IntKind.i64.wrap (k_3-(1:Int))).toNat) (0:Int))) then
   none
  else
   next (s_0,(IntKind.i64.wrap (k_3+(1:Int))))
 else
  some s_0
def uzt_:(List Int)×Int→Option (List Int):=loopN ubgm_ fuel
def uwi_:List Int→Option (List Int):=fun s_0 =>
 bif (decide ((s_0.length:Int)<(2:Int))) then
  some s_0
 else
  (uzt_ (s_0,(1:Int))).bind fun r3 =>
  some r3
def ubxh_ (next:YY52×(List YY2)×Int×Int→Option YY52):YY52×(List YY2)×Int×Int→Option YY52:=fun (index_5,t17,t18,t19) =>
 bif (decide (t19<t18)) then
  (at? t17 t19).bind fun y1 =>
  next ((putKV eqS y1.1 t19 index_5),t17,t18,(IntKind.i64.wrap (t19+(1:Int))))
 else
  some index_5
def ublt_:YY52×(List YY2)×Int×Int→Option YY52:=loopN ubxh_ fuel
def ubxi_ (next:Int×YY52×YY36×(List YY12)×Int×Int→Option YY36):Int×YY52×YY36×(List YY12)×Int×Int→Option YY36:=fun (scope_1,index_5,g_9,t43,t44,t45) =>
 bif (decide (t45<t44)) then
  (at? t43 t45).bind fun y5 =>
  bif (decide (scope_1<y5.2.2)) then
   next (scope_1,index_5,(g_9.1,(g_9.2.1,(g_9.2.2.1,g_9.2.2.2))),t43,t44,(IntKind.i64.wrap (t45+(1:Int))))
  else
   (in? g_9.2.2.1.length ((uck_ eqS y5.1 index_5).getD (0:Int))).bind fun _ =>
   (app? 24 (g_9.2.2.1.getD (((uck_ eqS y5.1 index_5).getD (0:Int)).toNat) ([]:List Int)) ([((uck_ eqS y5.2.1 index_5).getD (0:Int))]:List Int)).bind fun l7 =>
   (in? g_9.2.2.2.length ((uck_ eqS y5.2.1 index_5).getD (0:Int))).bind fun _ =>
   (app? 24 (g_9.2.2.2.getD (((uck_ eqS y5.2.1 index_5).getD (0:Int)).toNat) ([]:List Int)) ([((uck_ eqS y5.1 index_5).getD (0:Int))]:List Int)).bind fun l9 =>
   (in? g_9.2.2.1.length ((uck_ eqS y5.1 index_5).getD (0:Int))).bind fun _ =>
   (bif Nat.beq (((uck_ eqS y5.1 index_5).getD (0:Int)).toNat) (((uck_ eqS y5.1 index_5).getD (0:Int)).toNat) then some () else none).bind fun _ =>
   (in? g_9.2.2.2.length ((uck_ eqS y5.2.1 index_5).getD (0:Int))).bind fun _ =>
   (bif Nat.beq (((uck_ eqS y5.2.1 index_5).getD (0:Int)).toNat) (((uck_ eqS y5.2.1 index_5).getD (0:Int)).toNat) then some () else none).bind fun _ =>
   next (scope_1,index_5,(g_9.1,(g_9.2.1,((g_9.2.2.1.set (((uck_ eqS y5.1 index_5).getD (0:Int)).toNat) l7),(g_9.2.2.2.set (((uck_ eqS y5.2.1 index_5).getD (0:Int)).toNat) l9)))),t43,t44,(IntKind.i64.wrap (t45+(1:Int))))
 else
  some (g_9.1,(g_9.2.1,(g_9.2.2.1,g_9.2.2.2)))
def ublu_:Int×YY52×YY36×(List YY12)×Int×Int→Option YY36:=loopN ubxi_ fuel
def ubxj_ (next:YY36×Int×Int→Option YY36):YY36×Int×Int→Option YY36:=fun (g_9,t86,t87) =>
 bif (decide (t87<t86)) then
  (in? g_9.2.2.1.length t87).bind fun _ =>
  (uwi_ (g_9.2.2.1.getD t87.toNat ([]:List Int))).bind fun r13 =>
  (in? g_9.2.2.2.length t87).bind fun _ =>
  (uwi_ (g_9.2.2.2.getD t87.toNat ([]:List Int))).bind fun r14 =>
  (in? g_9.2.2.1.length t87).bind fun _ =>
  (bif Nat.beq t87.toNat t87.toNat then some () else none).bind fun _ =>
  (in? g_9.2.2.2.length t87).bind fun _ =>
  (bif Nat.beq t87.toNat t87.toNat then some () else none).bind fun _ =>
  next ((g_9.1,(g_9.2.1,((g_9.2.2.1.set t87.toNat r13),(g_9.2.2.2.set t87.toNat r14)))),t86,(IntKind.i64.wrap (t87+(1:Int))))
 else
  some (g_9.1,(g_9.2.1,(g_9.2.2.1,g_9.2.2.2)))
def ublv_:YY36×Int×Int→Option YY36:=loopN ubxj_ fuel
def ubv2_:YY9×Int→Option YY40:=fun (b_0,scope_1) =>
 (ublt_ (([]:List (Str×Int)),b_0.2.2.2.1,(b_0.2.2.2.1.length:Int),(0:Int))).bind fun r2 =>
 (mks? 24 (b_0.2.2.2.1.length:Int) (b_0.2.2.2.1.length:Int) ([]:List Int)).bind fun z3 =>
 (mks? 24 (b_0.2.2.2.1.length:Int) (b_0.2.2.2.1.length:Int) ([]:List Int)).bind fun z4 =>
 (ublu_ (scope_1,r2,(b_0,(((uck_ eqS b_0.2.2.1 r2).getD (0:Int)),(z3,z4))),b_0.2.2.2.2,(b_0.2.2.2.2.length:Int),(0:Int))).bind fun r12 =>
 (ublv_ ((r12.1,(r12.2.1,(r12.2.2.1,r12.2.2.2))),(b_0.2.2.2.1.length:Int),(0:Int))).bind fun r15 =>
 some (r15.1,(r15.2.1,(r15.2.2.1,r15.2.2.2)))
def ub6t_:YY9×Int→Option (YY40×Int):=fun (b_0,scope_1) =>
 (ubrv_ b_0).bind fun r1 =>
 bif (!(eqI r1 (0:Int))) then
  some (((([]:Str),(([]:Str),(([]:Str),(([]:List YY2),([]:List YY12))))),((0:Int),(([]:List (List Int)),([]:List (List Int))))),r1)
 else
  bif ((decide (scope_1<(1:Int)))||(decide ((4:Int)<scope_1))) then
   some (((([]:Str),(([]:Str),(([]:Str),(([]:List YY2),([]:List YY12))))),((0:Int),(([]:List (List Int)),([]:List (List Int))))),(9:Int))
  else
   (ubv2_ (b_0,scope_1)).bind fun r5 =>
   some (r5,(0:Int))
def ui7_ (next:(List YY2)×Str×((YY2×Str)→Option Int)×Int×Int→Option (Int)):(List YY2)×Str×((YY2×Str)→Option Int)×Int×Int→Option (Int):=fun (x_0,target_1,cmp_2,i_9,j_10) =>
 bif (decide (i_9<j_10)) then
  (shr? IntKind.u64 (IntKind.u64.wrap (IntKind.i64.wrap (i_9+j_10))) (1:Int)).bind fun n1 =>
  (at? x_0 (IntKind.i64.wrap n1)).bind fun y2 =>
  (cmp_2 (y2,target_1)).bind fun r3 =>
  bif (decide (r3<(0:Int))) then
   next (x_0,target_1,cmp_2,(IntKind.i64.wrap ((IntKind.i64.wrap n1)+(1:Int))),j_10)
  else
   next (x_0,target_1,cmp_2,i_9,(IntKind.i64.wrap n1))
 else
  some i_9
def udn_:(List YY2)×Str×((YY2×Str)→Option Int)×Int×Int→Option (Int):=loopN ui7_ fuel
def uen_:(List YY2)×Str×((YY2×Str)→Option Int)→Option (Int×Bool):=fun (x_0,target_1,cmp_2) =>
 (udn_ (x_0,target_1,cmp_2,(0:Int),(x_0.length:Int))).bind fun r4 =>
 (bif (decide (r4<(x_0.length:Int))) then at? x_0 r4 else some (([]:Str),((([]:Str),(([]:Str),(([]:Str),(([]:Str),(([]:List (Str×Str)),([]:Str)))))),(([]:List (Str×Str)),(([]:Str),([]:List Str)))))).bind fun y5 =>
 (bif (decide (r4<(x_0.length:Int))) then cmp_2 (y5,target_1) else some (0:Int)).bind fun r6 =>
 some (r4,((decide (r4<(x_0.length:Int)))&&(eqI r6 (0:Int))))
def ubs7_:YY2×Str→Option (Int):=fun (c_0,s_1) =>
 (ubx_ (c_0.1,s_1)).bind fun r1 =>
 some r1
def ub25_:YY9×Str→Option (Int×Bool):=fun (b_0,ref_1) =>
 (uen_ (b_0.2.2.2.1,ref_1,(fun x=>(ubs7_ x).bind fun r=>some r))).bind fun r1 =>
 some (r1.1,r1.2)
def ubzv_:YY9×Str×Int→Option (YY40×Int×Int):=fun (b_0,ref_1,scope_2) =>
 (ub6t_ (b_0,scope_2)).bind fun r1 =>
 bif (!(eqI r1.2 (0:Int))) then
  some (((([]:Str),(([]:Str),(([]:Str),(([]:List YY2),([]:List YY12))))),((0:Int),(([]:List (List Int)),([]:List (List Int))))),(0:Int),r1.2)
 else
  (ub25_ (b_0,ref_1)).bind fun r3 =>
  bif (!r3.2) then
   some (((([]:Str),(([]:Str),(([]:Str),(([]:List YY2),([]:List YY12))))),((0:Int),(([]:List (List Int)),([]:List (List Int))))),(0:Int),(4:Int))
  else
   some (r1.1,r3.1,(0:Int))
def ubs8_ (next:(List Int)×Int×Int→Option (List Int)):(List Int)×Int×Int→Option (List Int):=fun (out_7,t17,t18) =>
 bif (decide (t18<t17)) then
  (in? out_7.length t18).bind fun _ =>
  next ((out_7.set t18.toNat (-1:Int)),t17,(IntKind.i64.wrap (t18+(1:Int))))
 else
  some out_7
def ubd9_:(List Int)×Int×Int→Option (List Int):=loopN ubs8_ fuel
def ubs9_ (next:Int×(List Int)×(List Int)×Int×(List Int)×Int×Int→Option ((List Int)×(List Int))):Int×(List Int)×(List Int)×Int×(List Int)×Int×Int→Option ((List Int)×(List Int)):=fun (without_2,out_7,queue_9,i_10,t45,t46,t47) =>
 bif (decide (t47<t46)) then
  (at? t45 t47).bind fun y5 =>
  (in? out_7.length y5).bind fun _ =>
  bif ((decide ((out_7.getD y5.toNat (0:Int))<(0:Int)))&&(!(eqI y5 without_2))) then
   (in? out_7.length i_10).bind fun _ =>
   (in? out_7.length y5).bind fun _ =>
   (app? 24 queue_9 ([y5]:List Int)).bind fun l8 =>
   next (without_2,(out_7.set y5.toNat (IntKind.i64.wrap ((out_7.getD i_10.toNat (0:Int))+(1:Int)))),l8,i_10,t45,t46,(IntKind.i64.wrap (t47+(1:Int))))
  else
   next (without_2,out_7,queue_9,i_10,t45,t46,(IntKind.i64.wrap (t47+(1:Int))))
 else
  some (out_7,queue_9)
def ubea_:Int×(List Int)×(List Int)×Int×(List Int)×Int×Int→Option ((List Int)×(List Int)):=loopN ubs9_ fuel
def ubta_ (next:YY27×Int×(List Int)×(List Int)→Option (List Int)):YY27×Int×(List Int)×(List Int)→Option (List Int):=fun (next_0,without_2,out_7,queue_9) =>
 bif (decide ((0:Int)<(queue_9.length:Int))) then
  (in? queue_9.length (0:Int)).bind fun _ =>
  (cut? queue_9 (1:Int) (queue_9.length:Int)).bind fun s10 =>
  (at? next_0 (queue_9.getD 0 (0:Int))).bind fun y11 =>
  (ubea_ (without_2,out_7,s10,(queue_9.getD 0 (0:Int)),y11,(y11.length:Int),(0:Int))).bind fun r12 =>
  next (next_0,without_2,r12.1,r12.2)
 else
  some out_7
def ubeb_:YY27×Int×(List Int)×(List Int)→Option (List Int):=loopN ubta_ fuel
def ubpz_:YY27×Int×Int→Option (List Int):=fun (next_0,from_1,without_2) =>
 (mks? 24 (next_0.length:Int) (next_0.length:Int) (0:Int)).bind fun z1 =>
 (ubd9_ (z1,(z1.length:Int),(0:Int))).bind fun r2 =>
 bif (eqI from_1 without_2) then
  some r2
 else
  (in? r2.length from_1).bind fun _ =>
  (ubeb_ (next_0,without_2,(r2.set from_1.toNat (0:Int)),([from_1]:List Int))).bind fun r13 =>
  some r13
def uba0_:Int×(Option (List Int))×(Option Int)→Option (Bool):=fun (j_0,t1,t2) =>
 (t1).bind fun p1 =>
 (at? p1 j_0).bind fun y2 =>
 (t1).bind fun p3 =>
 (t2).bind fun p4 =>
 (at? p3 p4).bind fun y5 =>
 some (eqI y2 (IntKind.i64.wrap (y5-(1:Int))))
def ubb0_ (next:(List Int)×YY49×Int×Int→Option YY24):(List Int)×YY49×Int×Int→Option YY24:=fun (s_0,f_1,t7,t8) =>
 bif (decide (t8<t7)) then
  (at? s_0 t8).bind fun y1 =>
  (f_1 y1).bind fun r2 =>
  bif r2 then
   some (.inr t8)
  else
   next (s_0,f_1,t7,(IntKind.i64.wrap (t8+(1:Int))))
 else
  some (.inl ())
def uvj_:(List Int)×YY49×Int×Int→Option YY24:=loopN ubb0_ fuel
def u1r_:(List Int)×YY49→Option (Int):=fun (s_0,f_1) =>
 (uvj_ (s_0,f_1,(s_0.length:Int),(0:Int))).bind fun r3 =>
 match r3 with
 | .inl y4 =>
   some (-1:Int)
 | .inr y4' =>
   some y4'
def ubqg_ (next:Int×YY40×(List Int)×(List Int)×Int→Option (List Int)):Int×YY40×(List Int)×(List Int)×Int→Option (List Int):=fun (to_1,g_2,d_5,out_6,i_7) =>
 bif (!(eqI i_7 to_1)) then
  (at? g_2.2.2.1 i_7).bind fun y3 =>
  (u1r_ (y3,(fun x=>(uba0_ (x,(some d_5),(some i_7))).bind fun r=>some r))).bind fun r4 =>
  (at? g_2.2.2.1 i_7).bind fun y5 =>
  (at? y5 r4).bind fun y6 =>
  (app? 24 out_6 ([y6]:List Int)).bind fun l7 =>
  next (to_1,g_2,d_5,l7,y6)
 else
  some out_6
def uba1_:Int×YY40×(List Int)×(List Int)×Int→Option (List Int):=loopN ubqg_ fuel
def ublw_:YY40×Int→Option (List Int):=fun (g_0,to_1) =>
 (ubpz_ (g_0.2.2.2,to_1,(-1:Int))).bind fun r1 =>
 (at? r1 g_0.2.1).bind fun y2 =>
 bif (decide (y2<(0:Int))) then
  some ([]:List Int)
 else
  (uba1_ (to_1,g_0,r1,([g_0.2.1]:List Int),g_0.2.1)).bind fun r8 =>
  some r8
def ubqh_ (next:YY40×(List Str)×(List Int)×Int×Int→Option (List Str)):YY40×(List Str)×(List Int)×Int×Int→Option (List Str):=fun (g_2,out_5,t8,t9,t10) =>
 bif (decide (t10<t9)) then
  (at? t8 t10).bind fun y1 =>
  (at? g_2.1.2.2.2.1 y1).bind fun y2 =>
  (app? 24 out_5 ([y2.1]:List Str)).bind fun l3 =>
  next (g_2,l3,t8,t9,(IntKind.i64.wrap (t10+(1:Int))))
 else
  some out_5
def uba2_:YY40×(List Str)×(List Int)×Int×Int→Option (List Str):=loopN ubqh_ fuel
def ublx_:YY40×(List Int)→Option (List Str):=fun (g_0,l_1) =>
 (uba2_ (g_0,([]:List Str),l_1,(l_1.length:Int),(0:Int))).bind fun r4 =>
 some r4
def ub6u_:YY9×Str×Int→Option ((List Str)×Bool×Int):=fun (b_0,to_1,scope_2) =>
 (ubzv_ (b_0,to_1,scope_2)).bind fun r1 =>
 bif (!(eqI r1.2.2 (0:Int))) then
  some (([]:List Str),false,r1.2.2)
 else
  (ublw_ (r1.1,r1.2.1)).bind fun r2 =>
  (ublx_ (r1.1,r2)).bind fun r3 =>
  some (r3,(decide ((0:Int)<(r3.length:Int))),(0:Int))
def u4q_:(Option YY1)×YY29×YY3×YY2→Option (Bool):=fun (s_0,x_1,a_2,c_3) =>
 (bif (!(eqS x_1.1 a_2.1)) then uii_ (a_2.2.1,x_1.1) else some false).bind fun r1 =>
 (bif ((!((!(eqS x_1.1 a_2.1))&&(!r1)))&&(!(eqS x_1.2.1 ([]:Str)))) then s_0 else some (((([]:Str),(([]:Str),(([]:Str),(([]:List YY2),([]:List YY12))))),((0:Int),(((0:Int),(([]:List YY3),([]:List Int))),(([]:List YY17),((0:Int),(([]:List Str),([]:List YY29))))))),(([]:List (Str×YY3)),(([]:List (Str×YY2)),(([]:List (Str×Bool)),([]:List (YY12×Bool))))))).bind fun p2 =>
 bif (((!(eqS x_1.1 a_2.1))&&(!r1))||((!(eqS x_1.2.1 ([]:Str)))&&(!(eqS x_1.2.1 p2.1.1.1)))) then
  some false
 else
  none
def ubb1_ (next:(Option YY1)×YY3×YY2×Int×(List YY29)×Int×Int→Option (Int)):(Option YY1)×YY3×YY2×Int×(List YY29)×Int×Int→Option (Int):=fun (s_0,a_4,c_5,best_7,t15,t16,t17) =>
 bif (decide (t17<t16)) then
  (at? t15 t17).bind fun y2 =>
  (u4q_ (s_0,y2,a_4,c_5)).bind fun r3 =>
  bif (!r3) then
   next (s_0,a_4,c_5,best_7,t15,t16,(IntKind.i64.wrap (t17+(1:Int))))
  else
   bif (decide (best_7<(0:Int))) then
    next (s_0,a_4,c_5,t17,t15,t16,(IntKind.i64.wrap (t17+(1:Int))))
   else
    (s_0).bind fun p4 =>
    (at? p4.1.2.2.2.2.2.2 best_7).bind fun y5 =>
    bif ((((eqS y2.1 y5.1)&&((eqS y2.2.1 y5.2.1)&&((eqS y2.2.2.1 y5.2.2.1)&&((eqI y2.2.2.2.1 y5.2.2.2.1)&&((eqI y2.2.2.2.2.1 y5.2.2.2.2.1)&&((eqI y2.2.2.2.2.2.1 y5.2.2.2.2.2.1)&&(eqI y2.2.2.2.2.2.2 y5.2.2.2.2.2.2)))))))||(decide (y5.2.2.2.2.2.2<y2.2.2.2.2.2.2)))||((eqI y2.2.2.2.2.2.2 y5.2.2.2.2.2.2)&&(decide (y5.2.2.2.2.2.1≤y2.2.2.2.2.2.1)))) then
     next (s_0,a_4,c_5,t17,t15,t16,(IntKind.i64.wrap (t17+(1:Int))))
    else
     next (s_0,a_4,c_5,best_7,t15,t16,(IntKind.i64.wrap (t17+(1:Int))))
 else
  some best_7
def uvk_:(Option YY1)×YY3×YY2×Int×(List YY29)×Int×Int→Option (Int):=loopN ubb1_ fuel
def u1s_:(Option YY1)×YY3×YY2→Option (Int):=fun (s_0,a_1,c_2) =>
 (s_0).bind fun p1 =>
 (uvk_ (s_0,a_1,c_2,(-1:Int),p1.1.2.2.2.2.2.2,(p1.1.2.2.2.2.2.2.length:Int),(0:Int))).bind fun r8 =>
 some r8
def ugw_:(Option YY1)×YY12×YY3×YY2×(List Str)×Int×(List Str)→Option (List Str):=fun m_0 =>
 (at? m_0.2.2.1.2.2.2.2.2.2 m_0.2.1.2.2).bind fun y1 =>
 some y1.2.2.2.2
def u64_ (next:YY12×YY21×YY48×Int×Int→Option (YY12×YY21)):YY12×YY21×YY48×Int×Int→Option (YY12×YY21):=fun (h_3,m_5,t63,t64,t65) =>
 bif (decide (t65<t64)) then
  (at? t63 t65).bind fun y11 =>
  (bif (eqS y11.2.1 h_3.2.1) then ugw_ (m_5.1,(m_5.2.1,(m_5.2.2.1,(m_5.2.2.2.1,(m_5.2.2.2.2.1,(m_5.2.2.2.2.2.1,m_5.2.2.2.2.2.2)))))) else some ([]:List Str)).bind fun r13 =>
  (bif ((eqS y11.2.1 h_3.2.1)&&(!(eqI (r13.length:Int) (0:Int)))) then ugw_ (m_5.1,(m_5.2.1,(m_5.2.2.1,(m_5.2.2.2.1,(m_5.2.2.2.2.1,(m_5.2.2.2.2.2.1,m_5.2.2.2.2.2.2)))))) else some ([]:List Str)).bind fun r15 =>
  (bif ((eqS y11.2.1 h_3.2.1)&&(!(eqI (r13.length:Int) (0:Int)))) then uii_ (r15,y11.1) else some false).bind fun r16 =>
  bif ((eqS y11.2.1 h_3.2.1)&&((eqI (r13.length:Int) (0:Int))||r16)) then
   (app? 24 m_5.2.2.2.2.2.2 ([y11.1]:List Str)).bind fun l18 =>
   next (h_3,(m_5.1,(m_5.2.1,(m_5.2.2.1,(m_5.2.2.2.1,(m_5.2.2.2.2.1,(m_5.2.2.2.2.2.1,l18)))))),t63,t64,(IntKind.i64.wrap (t65+(1:Int))))
  else
   next (h_3,(m_5.1,(m_5.2.1,(m_5.2.2.1,(m_5.2.2.2.1,(m_5.2.2.2.2.1,(m_5.2.2.2.2.2.1,m_5.2.2.2.2.2.2)))))),t63,t64,(IntKind.i64.wrap (t65+(1:Int))))
 else
  some (h_3,(m_5.1,(m_5.2.1,(m_5.2.2.1,(m_5.2.2.2.1,(m_5.2.2.2.2.1,(m_5.2.2.2.2.2.1,m_5.2.2.2.2.2.2)))))))
def urx_:YY12×YY21×YY48×Int×Int→Option (YY12×YY21):=loopN u64_ fuel
def u65_ (next:YY12×YY21×(List YY17)×Int×Int→Option YY21):YY12×YY21×(List YY17)×Int×Int→Option YY21:=fun (h_3,m_5,t56,t57,t58) =>
 bif (decide (t58<t57)) then
  (at? t56 t58).bind fun y10 =>
  (urx_ (h_3,(m_5.1,(m_5.2.1,(m_5.2.2.1,(m_5.2.2.2.1,(m_5.2.2.2.2.1,(m_5.2.2.2.2.2.1,m_5.2.2.2.2.2.2)))))),y10.2.2.1,(y10.2.2.1.length:Int),(0:Int))).bind fun r19 =>
  next (r19.1,(r19.2.1,(r19.2.2.1,(r19.2.2.2.1,(r19.2.2.2.2.1,(r19.2.2.2.2.2.1,(r19.2.2.2.2.2.2.1,r19.2.2.2.2.2.2.2)))))),t56,t57,(IntKind.i64.wrap (t58+(1:Int))))
 else
  some (m_5.1,(m_5.2.1,(m_5.2.2.1,(m_5.2.2.2.1,(m_5.2.2.2.2.1,(m_5.2.2.2.2.2.1,m_5.2.2.2.2.2.2))))))
def ury_:YY12×YY21×(List YY17)×Int×Int→Option YY21:=loopN u65_ fuel
def uxv_:(Option YY1)×YY12→Option YY23:=fun (s_0,h_1) =>
 (s_0).bind fun p1 =>
 let v2:=((uck_ eqS h_1.1 p1.2.1).getD (([]:Str),(([]:List Str),(([]:Str),((0:Int),(false,(([]:Str),([]:List YY14))))))))
 (s_0).bind fun p3 =>
 let v4:=((uck_ eqS h_1.2.1 p3.2.2.1).getD (([]:Str),((([]:Str),(([]:Str),(([]:Str),(([]:Str),(([]:List (Str×Str)),([]:Str)))))),(([]:List (Str×Str)),(([]:Str),([]:List Str))))))
 (s_0).bind fun p5 =>
 (s_0).bind fun p6 =>
 (ub6u_ (p5.1.1,h_1.2.1,p6.1.2.1)).bind fun r7 =>
 (u1s_ (s_0,v2,v4)).bind fun r8 =>
 (s_0).bind fun p9 =>
 (ury_ (h_1,(s_0,(h_1,(v2,(v4,(r7.1,(r8,([]:List Str))))))),p9.1.2.2.2.1,(p9.1.2.2.2.1.length:Int),(0:Int))).bind fun r20 =>
 some (r20.1,(r20.2.1,(r20.2.2.1,(r20.2.2.2.1,(r20.2.2.2.2.1,(r20.2.2.2.2.2.1,r20.2.2.2.2.2.2))))))
def uba3_:(Option YY1)×YY12×YY3×YY2×(List Str)×Int×(List Str)→Option (Bool):=fun m_0 =>
 some (eqI (m_0.2.2.2.2.1.length:Int) (0:Int))
def utb_:YY23×Int×Int→Option (Bool):=fun (m_0,a_1,b_2) =>
 bif (decide (m_0.2.2.2.2.2.1<(0:Int))) then
  some false
 else
  (m_0.1).bind fun p1 =>
  (at? p1.1.2.2.2.2.2.2 m_0.2.2.2.2.2.1).bind fun y2 =>
  some ((eqI y2.2.2.2.1 a_1)||(eqI y2.2.2.2.1 b_2))
def uba4_:(Option YY1)×YY12×YY3×YY2×(List Str)×Int×(List Str)→Option (Bool):=fun m_0 =>
 (utb_ (m_0,(3:Int),(4:Int))).bind fun r1 =>
 some r1
def u66_ (next:YY23×(List Str)×Int×Int→Option (Sum (Unit) Str)):YY23×(List Str)×Int×Int→Option (Sum (Unit) Str):=fun (m_1,t6,t7,t8) =>
 bif (decide (t8<t7)) then
  (at? t6 t8).bind fun y1 =>
  (m_1.1).bind fun p2 =>
  bif ((uck_ eqS y1 p2.2.2.2.1).getD false) then
   some (.inr y1)
  else
   next (m_1,t6,t7,(IntKind.i64.wrap (t8+(1:Int))))
 else
  some (.inl ())
def urz_:YY23×(List Str)×Int×Int→Option (Sum (Unit) Str):=loopN u66_ fuel
def uno_:(Option YY1)×YY12×YY3×YY2×(List Str)×Int×(List Str)→Option Str:=fun m_0 =>
 (urz_ (m_0,m_0.2.2.2.2.2.2,(m_0.2.2.2.2.2.2.length:Int),(0:Int))).bind fun r3 =>
 match r3 with
 | .inl y4 =>
   some ([]:Str)
 | .inr y4' =>
   some y4'
def uba5_:(Option YY1)×YY12×YY3×YY2×(List Str)×Int×(List Str)→Option (Bool):=fun m_0 =>
 (uno_ m_0).bind fun r1 =>
 some (!(eqS r1 ([]:Str)))
def uba6_:(Option YY1)×YY12×YY3×YY2×(List Str)×Int×(List Str)→Option (Bool):=fun m_0 =>
 (utb_ (m_0,(2:Int),(2:Int))).bind fun r1 =>
 some r1
def utc_:(Option YY1)×YY12×YY3×YY2×(List Str)×Int×(List Str)→Option (Bool):=fun m_0 =>
 (m_0.1).bind fun p1 =>
 let v2:=((eqI (p1.1.2.2.2.1.length:Int) (1:Int))&&(decide ((0:Int)<(m_0.2.2.2.2.2.2.length:Int))))
 (bif v2 then ugw_ m_0 else some ([]:List Str)).bind fun r3 =>
 some (v2&&(decide ((r3.length:Int)≤(m_0.2.2.2.2.2.2.length:Int))))
def ubly_:Unit→Option (List YY47):=fun _ =>
 some ([((1:Int),(some (fun x=>(uba3_ x).bind fun r=>some r))),((2:Int),(some (fun x=>(uba4_ x).bind fun r=>some r))),((6:Int),(some (fun x=>(uba5_ x).bind fun r=>some r))),((5:Int),(some (fun x=>(uba6_ x).bind fun r=>some r))),((3:Int),(some (fun x=>(utc_ x).bind fun r=>some r)))]:List YY47)
def ubb2_ (next:YY23×(List YY47)×Int×Int→Option YY24):YY23×(List YY47)×Int×Int→Option YY24:=fun (m_1,t5,t6,t7) =>
 bif (decide (t7<t6)) then
  (at? t5 t7).bind fun y2 =>
  (y2.2.bind (fun F=>F m_1)).bind fun r3 =>
  bif r3 then
   some (.inr y2.1)
  else
   next (m_1,t5,t6,(IntKind.i64.wrap (t7+(1:Int))))
 else
  some (.inl ())
def uvl_:YY23×(List YY47)×Int×Int→Option YY24:=loopN ubb2_ fuel
def u1t_:(Option YY1)×YY12×YY3×YY2×(List Str)×Int×(List Str)→Option (Int):=fun m_0 =>
 (ubly_ ()).bind fun r1 =>
 (uvl_ (m_0,r1,(r1.length:Int),(0:Int))).bind fun r4 =>
 match r4 with
 | .inl y5 =>
   some (4:Int)
 | .inr y5' =>
   some y5'
def u1u_:(Option YY1)×YY12×YY3×YY2×(List Str)×Int×(List Str)→Option (Int):=fun m_0 =>
 bif (eqS m_0.2.2.1.2.2.2.2.2.1 ([]:Str)) then
  some (100:Int)
 else
  (u8i_ m_0.2.2.1.2.2.2.2.2.1).bind fun r1 =>
  some r1.1
def uxw_:(Option YY1)×YY12×YY3×YY2×(List Str)×Int×(List Str)→Option YY5:=fun m_0 =>
 (u1t_ m_0).bind fun r1 =>
 (u1u_ m_0).bind fun r2 =>
 let v3:=(m_0.2.1.1,(m_0.2.1.2.1,(m_0.2.1.2.2,(r1,(r2,(m_0.2.2.2.2.1,(([]:Str),(([]:List YY30),m_0.2.2.2.2.2.1))))))))
 bif (eqI v3.2.2.2.1 (6:Int)) then
  (uno_ m_0).bind fun r4 =>
  (m_0.1).bind fun p5 =>
  (at? p5.1.2.2.2.1 (0:Int)).bind fun y6 =>
  (m_0.1).bind fun p7 =>
  (m_0.1).bind fun p8 =>
  none
 else
  some v3
def ubtb_ (next:(Option YY1)×(List YY5)×(List YY12)×Int×Int→Option (List YY5)):(Option YY1)×(List YY5)×(List YY12)×Int×Int→Option (List YY5):=fun (s_8,out_9,t30,t31,t32) =>
 bif (decide (t32<t31)) then
  (at? t30 t32).bind fun y4 =>
  (uxv_ (s_8,y4)).bind fun r5 =>
  (uxw_ r5).bind fun r6 =>
  (app? 216 out_9 ([r6]:List YY5)).bind fun l8 =>
  next (s_8,l8,t30,t31,(IntKind.i64.wrap (t32+(1:Int))))
 else
  some out_9
def ubec_:(Option YY1)×(List YY5)×(List YY12)×Int×Int→Option (List YY5):=loopN ubtb_ fuel
def ubp0_:YY9×Int×YY41×(List YY17)×Int×(List Str)×(List YY29)→Option ((Option YY1)×(List YY5)×Int):=fun p_0 =>
 (ubpx_ p_0).bind fun r1 =>
 bif (!(eqI r1 (0:Int))) then
  some ((none:Option YY1),([]:List YY5),r1)
 else
  (ubls_ (p_0.2.2.1,p_0.1)).bind fun r2 =>
  bif (!(eqI r2.2 (0:Int))) then
   some ((none:Option YY1),([]:List YY5),r2.2)
  else
   (ubie_ p_0).bind fun r3 =>
   (ubec_ (r3,([]:List YY5),r2.1,(r2.1.length:Int),(0:Int))).bind fun r9 =>
   some (r3,r9,(0:Int))
def ubed_:YY9×Int×YY41×(List YY17)×Int×(List Str)×(List YY29)→Option ((List YY5)×Int):=fun p_0 =>
 (ubp0_ p_0).bind fun r1 =>
 some (r1.2.1,r1.2.2)
def ubzw_:Unit→Option (Bool):=fun _ =>
 (ub6s_ ()).bind fun r1 =>
 (ubed_ r1).bind fun r2 =>
 let v3:=((eqI r2.2 (0:Int))&&(eqI (r2.1.length:Int) (1:Int)))
 (bif v3 then at? r2.1 (0:Int) else some (([]:Str),(([]:Str),((0:Int),((0:Int),((0:Int),(([]:List Str),(([]:Str),(([]:List YY30),(0:Int)))))))))).bind fun y4 =>
 (bif (v3&&(eqI y4.2.2.2.2.1 (34:Int))) then at? r2.1 (0:Int) else some (([]:Str),(([]:Str),((0:Int),((0:Int),((0:Int),(([]:List Str),(([]:Str),(([]:List YY30),(0:Int)))))))))).bind fun y5 =>
 some ((v3&&(eqI y4.2.2.2.2.1 (34:Int)))&&(eqI y5.2.2.2.1 (4:Int)))
def u8q_:Str×Str×Int×Int×Int×(List Str)×Str×(List YY30)×Int→Option (Int×Int):=fun f_0 =>
 (ukw_ f_0).bind fun r1 =>
 bif (!(eqI r1 (0:Int))) then
  some ((0:Int),r1)
 else
  (u04_ f_0).bind fun r2 =>
  some (r2,(0:Int))
def uba7_ (next:YY35×(List YY5)×Int×Int→Option (Sum YY35 (YY35×Bool))):YY35×(List YY5)×Int×Int→Option (Sum YY35 (YY35×Bool)):=fun (out_4,t8,t9,t10) =>
 bif (decide (t10<t9)) then
  (at? t8 t10).bind fun y1 =>
  (unk_ y1).bind fun r2 =>
  bif (!(eqI ((uck_ (fun (x y:Str×Str×Int)=>eqS x.1 y.1&&(fun (x y:Str×Int)=>eqS x.1 y.1&&eqI x.2 y.2) x.2 y.2) r2 out_4).getD (0:Int)) (0:Int))) then
   some (.inr (([]:List (YY12×Int)),false))
  else
   (unk_ y1).bind fun r4 =>
   next ((putKV (fun (x y:Str×Str×Int)=>eqS x.1 y.1&&(fun (x y:Str×Int)=>eqS x.1 y.1&&eqI x.2 y.2) x.2 y.2) r4 y1.2.2.2.1 out_4),t8,t9,(IntKind.i64.wrap (t10+(1:Int))))
 else
  some (.inl out_4)
def uyv_:YY35×(List YY5)×Int×Int→Option (Sum YY35 (YY35×Bool)):=loopN uba7_ fuel
def uoo_:List YY5→Option (YY35×Bool):=fun l_0 =>
 (uyv_ (([]:List (YY12×Int)),l_0,(l_0.length:Int),(0:Int))).bind fun r6 =>
 match r6 with
 | .inl y7 =>
   some (y7,true)
 | .inr y7' =>
   some (y7'.1,y7'.2)
def u67_ (next:(List (List YY5))×Int×Int→Option (Sum (Unit) ((List YY33)×Int))):(List (List YY5))×Int×Int→Option (Sum (Unit) ((List YY33)×Int)):=fun (t21,t22,t23) =>
 bif (decide (t23<t22)) then
  (at? t21 t23).bind fun y2 =>
  (uet_ y2).bind fun r3 =>
  bif (!(eqI r3 (0:Int))) then
   some (.inr (([]:List YY33),r3))
  else
   next (t21,t22,(IntKind.i64.wrap (t23+(1:Int))))
 else
  some (.inl ())
def uop_:(List (List YY5))×Int×Int→Option (Sum (Unit) ((List YY33)×Int)):=loopN u67_ fuel
def ugb_ (k8:YY12):YY35×(List YY12)→Option (YY35×(List YY12)):=fun (old_9,keys_13) =>
 (app? 72 keys_13 ([k8]:List YY12)).bind fun l9 =>
 some (old_9,l9)
def utd_ (k12:YY12):YY35×YY35×(List YY12)→Option (YY35×YY35×(List YY12)):=fun (new_11,old_9,keys_13) =>
 bif (eqI ((uck_ (fun (x y:Str×Str×Int)=>eqS x.1 y.1&&(fun (x y:Str×Int)=>eqS x.1 y.1&&eqI x.2 y.2) x.2 y.2) k12 old_9).getD (0:Int)) (0:Int)) then
  (app? 72 keys_13 ([k12]:List YY12)).bind fun l14 =>
  some (new_11,old_9,l14)
 else
  some (new_11,old_9,keys_13)
def u68_ (next:YY35×YY35×(List YY33)×(List YY12)×Int×Int→Option (List YY33)):YY35×YY35×(List YY33)×(List YY12)×Int×Int→Option (List YY33):=fun (old_9,new_11,out_16,t75,t76,t77) =>
 bif (decide (t77<t76)) then
  (in? t75.length t77).bind fun _ =>
  let v18:=(t75.getD t77.toNat (([]:Str),(([]:Str),(0:Int))))
  bif (!(eqI ((uck_ (fun (x y:Str×Str×Int)=>eqS x.1 y.1&&(fun (x y:Str×Int)=>eqS x.1 y.1&&eqI x.2 y.2) x.2 y.2) v18 old_9).getD (0:Int)) ((uck_ (fun (x y:Str×Str×Int)=>eqS x.1 y.1&&(fun (x y:Str×Int)=>eqS x.1 y.1&&eqI x.2 y.2) x.2 y.2) v18 new_11).getD (0:Int)))) then
   (app? 120 out_16 ([(v18.1,(v18.2.1,(v18.2.2,(((uck_ (fun (x y:Str×Str×Int)=>eqS x.1 y.1&&(fun (x y:Str×Int)=>eqS x.1 y.1&&eqI x.2 y.2) x.2 y.2) v18 old_9).getD (0:Int)),((uck_ (fun (x y:Str×Str×Int)=>eqS x.1 y.1&&(fun (x y:Str×Int)=>eqS x.1 y.1&&eqI x.2 y.2) x.2 y.2) v18 new_11).getD (0:Int))))))]:List YY33)).bind fun l24 =>
   next (old_9,new_11,l24,t75,t76,(IntKind.i64.wrap (t77+(1:Int))))
  else
   next (old_9,new_11,out_16,t75,t76,(IntKind.i64.wrap (t77+(1:Int))))
 else
  some out_16
def uwj_:YY35×YY35×(List YY33)×(List YY12)×Int×Int→Option (List YY33):=loopN u68_ fuel
def uxd_:(List YY5)×(List YY5)→Option ((List YY33)×Int):=fun (a_0,b_1) =>
 let v1:=([a_0,b_1]:List (List YY5))
 (uop_ (v1,(v1.length:Int),(0:Int))).bind fun r4 =>
 match r4 with
 | .inl y5 =>
   (uoo_ a_0).bind fun r6 =>
   (uoo_ b_1).bind fun r7 =>
   bif ((!r6.2)||(!r7.2)) then
    some (([]:List YY33),(5:Int))
   else
    anyOf (fun o11:List (YY12×Int)=>o11.Perm r6.1) fun o11 =>
    (foldO (fun kx u=>ugb_ kx.1 u) o11 (r6.1,([]:List YY12))).bind fun r10 =>
    anyOf (fun o16:List (YY12×Int)=>o16.Perm r7.1) fun o16 =>
    (foldO (fun kx u=>utd_ kx.1 u) o16 (r7.1,r10.1,r10.2)).bind fun r15 =>
    (uda_ (r15.2.2,(fun x=>(uew_ x).bind fun r=>some r))).bind fun r17 =>
    (uwj_ (r15.2.1,r15.1,([]:List YY33),r17,(r17.length:Int),(0:Int))).bind fun r25 =>
    some (r25,(0:Int))
 | .inr y5' =>
   some (y5'.1,y5'.2)
def u5t_:Unit→Option (List YY5):=fun s_0 =>
 some ([]:List YY5)
def uiy_:List YY5→Option (List YY5):=fun s_0 =>
 (app? 216 ([]:List YY5) s_0).bind fun l2 =>
 some l2
def ugx_:List YY5→Option (List YY5):=uiy_
def umx_ (next:(List YY5)×Int×Int→Option (List YY5)):(List YY5)×Int×Int→Option (List YY5):=fun (s_0,i_2,j_3) =>
 bif (decide (i_2<j_3)) then
  (in? s_0.length j_3).bind fun _ =>
  let v1:=(s_0.getD j_3.toNat (([]:Str),(([]:Str),((0:Int),((0:Int),((0:Int),(([]:List Str),(([]:Str),(([]:List YY30),(0:Int))))))))))
  (in? s_0.length i_2).bind fun _ =>
  (in? s_0.length i_2).bind fun _ =>
  (in? (s_0.set i_2.toNat v1).length j_3).bind fun _ =>
  next (((s_0.set i_2.toNat v1).set j_3.toNat (s_0.getD i_2.toNat (([]:Str),(([]:Str),((0:Int),((0:Int),((0:Int),(([]:List Str),(([]:Str),(([]:List YY30),(0:Int))))))))))),(IntKind.i64.wrap (i_2+(1:Int))),(IntKind.i64.wrap (j_3-(1:Int))))
 else
  some s_0
def ugy_:(List YY5)×Int×Int→Option (List YY5):=loopN umx_ fuel
def ufo_:List YY5→Option (List YY5):=fun s_0 =>
 (ugy_ (s_0,(0:Int),(IntKind.i64.wrap ((s_0.length:Int)-(1:Int))))).bind fun r3 =>
 some r3
def u4r_ (next:(List Int)×(List Int)×Int×Int→Option YY28):(List Int)×(List Int)×Int×Int→Option YY28:=fun (s1_0,s2_1,t12,t13) =>
 bif (decide (t13<t12)) then
  (at? s1_0 t13).bind fun y1 =>
  (at? s2_1 t13).bind fun y2 =>
  bif (!(eqI y1 y2)) then
   some (.inr false)
  else
   next (s1_0,s2_1,t12,(IntKind.i64.wrap (t13+(1:Int))))
 else
  some (.inl ())
def ute_:(List Int)×(List Int)×Int×Int→Option YY28:=loopN u4r_ fuel
def utf_:(List Int)×(List Int)→Option (Bool):=fun (s1_0,s2_1) =>
 bif (!(eqI (s1_0.length:Int) (s2_1.length:Int))) then
  some false
 else
  (ute_ (s1_0,s2_1,(s1_0.length:Int),(0:Int))).bind fun r3 =>
  match r3 with
  | .inl y4 =>
    some true
  | .inr y4' =>
    some y4'
def uvm_ (next:(List YY5)×(List Bool)×Int×(List Int)×Int×Int→Option YY28):(List YY5)×(List Bool)×Int×(List Int)×Int×Int→Option YY28:=fun (l_0,seen_5,last_6,t28,t29,t30) =>
 bif (decide (t30<t29)) then
  (at? t28 t30).bind fun y4 =>
  let v5:=((decide (y4<(0:Int)))||(decide ((l_0.length:Int)≤y4)))
  (bif (!v5) then in? seen_5.length y4 else some ()).bind fun _ =>
  bif (v5||(seen_5.getD y4.toNat false)) then
   some (.inr false)
  else
   (in? seen_5.length y4).bind fun _ =>
   (at? l_0 y4).bind fun y6 =>
   (u8q_ y6).bind fun r7 =>
   bif (decide (last_6<r7.1)) then
    some (.inr false)
   else
    next (l_0,(seen_5.set y4.toNat true),r7.1,t28,t29,(IntKind.i64.wrap (t30+(1:Int))))
 else
  some (.inl ())
def uhj_:(List YY5)×(List Bool)×Int×(List Int)×Int×Int→Option YY28:=loopN uvm_ fuel
def uvn_ (next:(List YY5)×(List Int)×Int×Int→Option (List Int)):(List YY5)×(List Int)×Int×Int→Option (List Int):=fun (l_0,p_14,t96,t97) =>
 bif (decide (t97<t96)) then
  (in? p_14.length t97).bind fun _ =>
  (in? p_14.length t97).bind fun _ =>
  next (l_0,(p_14.set t97.toNat (IntKind.i64.wrap ((IntKind.i64.wrap ((l_0.length:Int)-(1:Int)))-(p_14.getD t97.toNat (0:Int))))),t96,(IntKind.i64.wrap (t97+(1:Int))))
 else
  some p_14
def uhk_:(List YY5)×(List Int)×Int×Int→Option (List Int):=loopN uvn_ fuel
def uq4_:List YY5→Option (Bool):=fun l_0 =>
 (unl_ l_0).bind fun r1 =>
 bif (!(eqI r1.2 (0:Int))) then
  (ubzw_ ()).bind fun r2 =>
  some r2
 else
  (mks? 24 (l_0.length:Int) (l_0.length:Int) false).bind fun z3 =>
  (uhj_ (l_0,z3,(10000:Int),r1.1,(r1.1.length:Int),(0:Int))).bind fun r8 =>
  match r8 with
  | .inl y9 =>
    (uxd_ (l_0,([]:List YY5))).bind fun r10 =>
    bif ((!(eqI r10.2 (0:Int)))||(!(eqI (r10.1.length:Int) (l_0.length:Int)))) then
     (bif (eqI (r1.1.length:Int) (l_0.length:Int)) then ubzw_ () else some false).bind fun r12 =>
     some ((eqI (r1.1.length:Int) (l_0.length:Int))&&r12)
    else
     (ugx_ l_0).bind fun r13 =>
     (ufo_ r13).bind fun r14 =>
     (unl_ r14).bind fun r15 =>
     (uhk_ (l_0,r15.1,(r15.1.length:Int),(0:Int))).bind fun r17 =>
     let v18:=((eqI r15.2 (0:Int))&&(eqI (r1.1.length:Int) (l_0.length:Int)))
     (bif v18 then utf_ (r1.1,r17) else some false).bind fun r19 =>
     (bif (v18&&r19) then ubzw_ () else some false).bind fun r20 =>
     some ((v18&&r19)&&r20)
  | .inr y9' =>
    some y9'
def u69_:Int×Int×Int→Option (Bool):=fun (n_0,low_1,high_2) =>
 some ((decide (n_0<low_1))||(decide (high_2<n_0)))
def ueh_:Str×Str×Int×Int×Int×(List Str)×Str×(List YY30)×Int→Option (Int):=fun f_0 =>
 (u69_ (f_0.2.2.2.1,(1:Int),(6:Int))).bind fun r1 =>
 bif r1 then
  some (7:Int)
 else
  (u69_ (f_0.2.2.2.2.1,(0:Int),(100:Int))).bind fun r2 =>
  bif r2 then
   some (9:Int)
  else
   some (0:Int)
def ubtc_:Str×Str×Int×Int×Int×(List Str)×Str×(List YY30)×Int→Option (Int):=fun f_0 =>
 (at? ([(0:Int),(0:Int),(0:Int),(10:Int),(60:Int),(90:Int),(100:Int)]:List Int) f_0.2.2.2.1).bind fun y2 =>
 some (IntKind.i64.wrap (f_0.2.2.2.2.1*y2))
def ufp_ (next:(List YY5)×Int→Option YY24):(List YY5)×Int→Option YY24:=fun (l_0,i_3) =>
 bif (decide (i_3<(l_0.length:Int))) then
  (at? l_0 i_3).bind fun y1 =>
  (ueh_ y1).bind fun r2 =>
  bif (!(eqI r2 (0:Int))) then
   some (.inr r2)
  else
   next (l_0,(IntKind.i64.wrap (i_3+(1:Int))))
 else
  some (.inl ())
def u5u_:(List YY5)×Int→Option YY24:=loopN ufp_ fuel
def ufc_:List YY5→Option (Int):=fun l_0 =>
 bif (decide ((100000:Int)<(l_0.length:Int))) then
  some (3:Int)
 else
  (u5u_ (l_0,(0:Int))).bind fun r3 =>
  match r3 with
  | .inl y4 =>
    some (0:Int)
  | .inr y4' =>
    some y4'
def ublz_:YY5×YY5→Option (Bool):=fun (a_0,b_1) =>
 (ubtc_ a_0).bind fun r1 =>
 (ubtc_ b_1).bind fun r2 =>
 bif (!(eqI r1 r2)) then
  some (decide (r2<r1))
 else
  bif (!(eqI (a_0.2.2.2.2.2.1.length:Int) (b_1.2.2.2.2.2.1.length:Int))) then
   some (decide ((a_0.2.2.2.2.2.1.length:Int)<(b_1.2.2.2.2.2.1.length:Int)))
  else
   bif (!(eqS a_0.1 b_1.1)) then
    some (Op.bytesLess a_0.1 b_1.1)
   else
    bif (!(eqS a_0.2.1 b_1.2.1)) then
     some (Op.bytesLess a_0.2.1 b_1.2.1)
    else
     some (decide (a_0.2.2.1<b_1.2.2.1))
def ubv3_ (next:(List YY5)×(List Int)×Int×Int→Option YY37):(List YY5)×(List Int)×Int×Int→Option YY37:=fun (l_0,out_5,i_6,k_7) =>
 (bif (decide ((0:Int)<k_7)) then at? l_0 i_6 else some (([]:Str),(([]:Str),((0:Int),((0:Int),((0:Int),(([]:List Str),(([]:Str),(([]:List YY30),(0:Int)))))))))).bind fun y3 =>
 (bif (decide ((0:Int)<k_7)) then in? out_5.length (IntKind.i64.wrap (k_7-(1:Int))) else some ()).bind fun _ =>
 (bif (decide ((0:Int)<k_7)) then at? l_0 (out_5.getD ((IntKind.i64.wrap (k_7-(1:Int))).toNat) (0:Int)) else some (([]:Str),(([]:Str),((0:Int),((0:Int),((0:Int),(([]:List Str),(([]:Str),(([]:List YY30),(0:Int)))))))))).bind fun y5 =>
 (bif (decide ((0:Int)<k_7)) then ublz_ (y3,y5) else some false).bind fun r6 =>
 bif ((decide ((0:Int)<k_7))&&r6) then
  (in? out_5.length (IntKind.i64.wrap (k_7-(1:Int)))).bind fun _ =>
  (in? out_5.length k_7).bind fun _ =>
  next (l_0,(out_5.set k_7.toNat (out_5.getD ((IntKind.i64.wrap (k_7-(1:Int))).toNat) (0:Int))),i_6,(IntKind.i64.wrap (k_7-(1:Int))))
 else
  some (out_5,k_7)
def ubv4_:(List YY5)×(List Int)×Int×Int→Option YY37:=loopN ubv3_ fuel
def ubv5_ (next:(List YY5)×(List Int)×Int→Option (List Int)):(List YY5)×(List Int)×Int→Option (List Int):=fun (l_0,out_5,i_6) =>
 bif (decide (i_6<(l_0.length:Int))) then
  (app? 24 out_5 ([i_6]:List Int)).bind fun l2 =>
  (ubv4_ (l_0,l2,i_6,(out_5.length:Int))).bind fun r8 =>
  (in? r8.1.length r8.2).bind fun _ =>
  next (l_0,(r8.1.set r8.2.toNat i_6),(IntKind.i64.wrap (i_6+(1:Int))))
 else
  some out_5
def ubv6_:(List YY5)×(List Int)×Int→Option (List Int):=loopN ubv5_ fuel
end
end Go.Ev.Pv
