/-
  The program's functions as plain Lean functions (printed by a program of the author's from the translation).
-/
import Derived.Test.YthdkjfbmhbimlaaGreatDoorE4
import Derived.Lib.AtoiAll
import Derived.Lib.ItoaNum
import Derived.Lib.Strings
import Derived.Lib.Join
import Derived.Lib.Split
import Derived.Lib.Repeat
import Derived.Lib.FieldsP
import Derived.Lib.MapU
import Derived.Lib.LastIndexByte
import Derived.Lib.Bytealg
import Derived.Lib.IndexMore
import Derived.Lib.CountLaws
import Derived.Lib.BitFns
import Derived.Sort.Defs
set_option linter.unusedVariables false
set_option linter.unusedSimpArgs false
set_option linter.unusedSectionVars false
set_option maxRecDepth 100000
namespace Go.Ev.Pv
def fuel:Nat:=18446744073709551616
end Go.Ev.Pv
namespace Go.Ev.Pv
def str? (s:Str):Option Str:=bif decide (s.length≤281474976710656) then some s else none
theorem str?_some {s r:Str} (h:str? s=some r):r=s∧s.length≤281474976710656:=by
 unfold str? at h
 cases hd:decide (s.length≤281474976710656) with
 | false=>rw [hd] at h; cases h
 | true=>rw [hd] at h; cases h; exact ⟨rfl,of_decide_eq_true hd⟩
def ifB {α:Type} (c:Prop) [Decidable c] (x:Option α):Option α:=bif decide c then x else none
theorem u90_ {α:Type} {c:Prop} {_:Decidable c} {x:Option α} {r:α} (h:ifB c x=some r):c∧x=some r:=by
 unfold ifB at h
 cases hd:decide c with
 | false=>rw [hd] at h; cases h
 | true=>rw [hd] at h; exact ⟨of_decide_eq_true hd,h⟩
def decS:Nat→Nat→Str
 | 0,_=>[]
 | k+1,u=>if u<10 then [UInt8.ofNat (48+u)] else decS k (u / 10)++[UInt8.ofNat (48+u % 10)]
theorem ucqw_:∀ (k u:Nat),u<10 ^ k→1≤k→decS k u=Lib.decDigits u:=by
 intro k
 induction k with
 | zero=>intro u _ h; omega
 | succ k ih =>
   intro u hu _
   rw [Lib.decDigits]
   simp only [decS]
   by_cases h:u<10
   · rw [if_pos h,dif_pos h]
   · rw [if_neg h,dif_neg h]
     have hk:1≤k:=by
      rcases k with _ | k
      · simp at hu; omega
      · omega
     rw [ih (u / 10) (by rw [Nat.pow_succ] at hu; omega) hk]
def itoaS (n:Int):Str:=if n<0 then 45::decS 20 n.natAbs else decS 20 n.toNat
theorem ucsh_ {n:Int} (h0:-9223372036854775808≤n) (h1:n≤9223372036854775807):itoaS n=Lib.itoa n:=by
 unfold itoaS Lib.itoa
 rw [ucqw_ 20 n.natAbs (by omega) (by decide),ucqw_ 20 n.toNat (by omega) (by decide)]
theorem ucmo_:∀ (k u:Nat),(decS k u).length≤k:=by
 intro k
 induction k with
 | zero=>intro u; exact Nat.le_refl _
 | succ k ih =>
   intro u
   simp only [decS]
   split
   · simp
   · have:=ih (u / 10); simp only [List.length_append,List.length_cons,List.length_nil]; omega
theorem ucpe_ (n:Int):(itoaS n).length≤21:=by
 unfold itoaS
 split
 · have:=ucmo_ 20 n.natAbs; simp only [List.length_cons]; omega
 · have:=ucmo_ 20 n.toNat; omega
def strings_Join:(List (List UInt8))×(List UInt8)→Option (List UInt8):=fun x=>ifB (x.1.length≤140737488355328∧(Lib.join x.1 x.2).length≤140737488355328) (some (Lib.join x.1 x.2))
def u91_:List UInt8→Option (List UInt8):=fun s=>ifB (s.length<35184372088832) (str? (Lib.toLowerD s))
def strconv_Itoa:Int→Option (List UInt8):=fun n=>some (itoaS n)
def strings_IndexByte:(List UInt8)×Int→Option (Int):=fun x=>ifB (x.1.length<4611686018427387904) (some (Lib.indexByte x.1 x.2.toNat.toUInt8))
def strings_LastIndexByte:(List UInt8)×Int→Option (Int):=fun x=>ifB (x.1.length<4611686018427387904) (some (Lib.lastIndexByte ⟨x.1.toArray⟩ x.2))
def strings_Cut:(List UInt8)×(List UInt8)→Option ((List UInt8)×(List UInt8)×Bool):=fun x=>ifB (x.1.length<4294967281) (some (Lib.cut x.1 x.2))
def strings_Repeat:(List UInt8)×Int→Option (List UInt8):=fun x=>ifB (0≤x.2∧x.1.length*x.2.toNat≤140737488355328) (some (Lib.repeatL x.1 x.2.toNat))
def strings_Split:(List UInt8)×(List UInt8)→Option (List (List UInt8)):=fun x =>
 ifB (x.1.length<4294967281∧1≤x.2.length) (some ((Lib.splitB ⟨x.2.toArray⟩ 0 (Lib.countB ⟨x.1.toArray⟩ ⟨x.2.toArray⟩) ⟨x.1.toArray⟩).map fun b=>b.data.toList))
def ub5i_:List UInt8→Option (Int×Unit):=fun s=>ifB (s.length≤281474976710656) (match Lib.atoiAll s with
 | .ok v=>some (v,())
 | .range=>some (Lib.atoiSat s,())
 | _=>some (0,()))
noncomputable def uou_:(List UInt8)×(Int→Option Bool)→Option (List (List UInt8)):=fun x =>
 @ifB _ (x.1.length≤4294967296∧(∀ r:Nat,r≤1114111→∃ b,x.2 (r:Int)=some b)∧(Lib.goFieldsP (fun r=>(x.2 (r:Int)).getD false) ⟨x.1.toArray⟩).length≤281474976710656) (Classical.propDecidable _) (some ((Lib.goFieldsP (fun r=>(x.2 (r:Int)).getD false) ⟨x.1.toArray⟩).map fun b=>b.data.toList))
def strings_HasPrefix:(List UInt8)×(List UInt8)→Option (Bool):=fun x=>some (Lib.hasPrefix x.1 x.2)
def strings_TrimPrefix:(List UInt8)×(List UInt8)→Option (List UInt8):=fun x=>some (Lib.trimPrefix x.1 x.2)
def strings_CutPrefix:(List UInt8)×(List UInt8)→Option ((List UInt8)×Bool):=fun x=>some (Lib.trimPrefix x.1 x.2,Lib.hasPrefix x.1 x.2)
def ujr_:List Int→Option (List Int):=fun xs=>some xs
def ub0_:List Int→Option (List UInt8):=fun xs=>some (strOf xs)
section
variable {T:Type}
def cfAt (xs:List T) (F:T×T→Option Int) (i j:Fin xs.length):Int:=(F (xs.get i,xs.get j)).getD 0
def ltAt (xs:List T) (F:T×T→Option Int) (i j:Fin xs.length):Bool:=decide (cfAt xs F i j<0)
def ucgo_ (xs:List T) (F:T×T→Option Int):Prop :=
 (∀ i j:Fin xs.length,(F (xs.get i,xs.get j)).isSome=true)∧(∀ i:Fin xs.length,ltAt xs F i i=false) ∧
 (∀ i j k:Fin xs.length,ltAt xs F i j=true→ltAt xs F j k=true→ltAt xs F i k=true)∧(∀ i j k:Fin xs.length,ltAt xs F i j=false→ltAt xs F j k=false→ltAt xs F i k=false)
instance {xs:List T} {F:T×T→Option Int}:Decidable (ucgo_ xs F):=by unfold ucgo_; infer_instance
def insS {α:Type} [Inhabited α] (lt:α→α→Bool):Nat→Nat→Array α→Array α
 | 0,_,d=>d
 | n+1,i,d=>insS lt n (i+1) (Sort.insInner lt 0 i d)
theorem uct8_ {α:Type} [Inhabited α] (lt:α→α→Bool):∀ (n i:Nat) (d:Array α),Sort.insOuter lt 0 (i+n) i d=insS lt n i d:=by
 intro n
 induction n with
 | zero=>intro i d; rw [Sort.insOuter,if_neg (by omega)]; rfl
 | succ n ih=>intro i d; rw [Sort.insOuter,if_pos (by omega),show i+(n+1)=(i+1)+n by omega,ih]; rfl
def ubvp_ (xs:List T) (F:T×T→Option Int) (h:0<xs.length):Array (Fin xs.length) :=
 haveI:Inhabited (Fin xs.length):=⟨⟨0,h⟩⟩
 if xs.length≤12 then insS (ltAt xs F) (xs.length-1) 1 (Array.ofFn id) else Sort.pdq (ltAt xs F) (Array.ofFn id) 0 xs.length (Lib.bitLen xs.length) true true
theorem ucpf_ {α:Type} [Inhabited α] (lt:α→α→Bool) (d:Array α) (n lim:Nat) (h:0<n) (h12:n≤12):Sort.pdq lt d 0 n lim true true=insS lt (n-1) 1 d:=by
 rw [Sort.pdq,if_pos (by omega),Sort.insertionSort]
 have:=uct8_ lt (n-1) 1 d
 rw [show 1+(n-1)=n by omega] at this
 exact this
theorem ucpg_ (xs:List T) (F:T×T→Option Int) (h:0<xs.length) :
 ubvp_ xs F h = @Sort.pdq _ ⟨⟨0,h⟩⟩ (ltAt xs F) (Array.ofFn id) 0 xs.length (Lib.bitLen xs.length) true true:=by
 unfold ubvp_
 split
 · rename_i h12
   exact (@ucpf_ _ ⟨⟨0,h⟩⟩ (ltAt xs F) (Array.ofFn id) xs.length _ h h12).symm
 · rfl
def ucjo_ (xs:List T) (F:T×T→Option Int):Option (List T) :=
 if h:0<xs.length then ifB (ucgo_ xs F) (some ((ubvp_ xs F h).toList.map xs.get)) else some []
end
def uk0_:(List ((Int×(List UInt8)×Bool×(List UInt8))×(Int×(List UInt8)×Bool×(List UInt8))))×((((Int×(List UInt8)×Bool×(List UInt8))×(Int×(List UInt8)×Bool×(List UInt8)))×((Int×(List UInt8)×Bool×(List UInt8))×(Int×(List UInt8)×Bool×(List UInt8))))→Option Int)→Option (List ((Int×(List UInt8)×Bool×(List UInt8))×(Int×(List UInt8)×Bool×(List UInt8)))):=fun v=>ucjo_ v.1 v.2
end Go.Ev.Pv
namespace Go.Ev.Pv
def um1_:(List (Int×Int))×(((Int×Int)×(Int×Int))→Option Int)→Option (List (Int×Int)):=fun x=>ucjo_ x.1 x.2
end Go.Ev.Pv
namespace Go.Ev.Pv
noncomputable section
abbrev YY10:=(List (Str×Str))
abbrev YY31:=(Str×Str×Str×Str×YY10×Str)
abbrev YY2:=(Str×YY31×YY10×Str×(List Str))
abbrev YY16:=(Str×Str×Int)
abbrev YY9:=(Str×Str×Str×(List YY2)×(List YY16))
abbrev YY43:=(List (Int×Str))
abbrev YY14:=(Str×Int×YY43×(List Str)×(List Str))
abbrev YY3:=(Str×(List Str)×Str×Int×Bool×Str×(List YY14))
abbrev YY40:=(Int×(List YY3)×(List Int))
abbrev YY47:=(List (Str×Str×(List (Int×Str×Str×Str))×(List Str)))
abbrev YY17:=((List (Str×(List Str)))×(List (Str×YY10))×YY47×(List Str))
abbrev YY29:=(Str×Str×Str×Int×Int×Int×Int)
abbrev YY4:=(YY9×Int×YY40×(List YY17)×Int×(List Str)×(List YY29))
abbrev YY1:=(YY4×(List (Str×YY3))×(List (Str×YY2))×(List (Str×Bool))×(List (YY16×Bool)))
abbrev YY30:=(Str×(List ((Str×Int)×Str))×YY10)
abbrev YY5:=(Str×Str×Int×Int×Int×(List Str)×Str×(List YY30)×Int)
abbrev YY6:=(Int×Str×Str×Int)
abbrev YY42:=(Int×Str×Bool×Str)
abbrev YY7:=(YY42×YY42)
abbrev YY45:=(Bool×Bool×Str)
abbrev YY8:=(YY45×YY45)
abbrev YY49:=((List Int)×(List Str))
abbrev YY19:=(Int×(List Int)×Int×Int×Int×Int×(List Str))
abbrev YY33:=(Bool×Str×Int)
abbrev YY11:=(Sum YY49 (Sum (Int×Str×Str×Bool) (Sum YY19 (Sum (List YY33) (Sum Int Unit)))))
abbrev YY12:=(((Str×Str)×(Str×Str))→Option Int)
abbrev YY13:=(YY4×((List (Str×YY3))×((List (Str×YY2))×((List (Str×Bool))×(List (YY16×Bool))))))
abbrev YY15:=((Int×Int)→Option Int)
abbrev YY18:=((YY6×YY6)→Option Int)
abbrev YY20:=(Str×Int×Int)
abbrev YY21:=((Option YY1)×(YY16×(YY3×(YY2×((List Str)×(Int×(List Str)))))))
abbrev YY22:=(Int×Int→Option Int)
abbrev YY23:=((Option YY1)×YY16×YY3×YY2×(List Str)×Int×(List Str))
abbrev YY24:=(Sum (Unit) (Int))
abbrev YY25:=(Str×(Str×(Str×(Str×(YY10×Str)))))
abbrev YY26:=(Int×(List YY8))
abbrev YY27:=(List (List Int))
abbrev YY28:=(Sum (Unit) (Bool))
abbrev YY32:=(Bool×(List (Str×Bool)))
abbrev YY34:=((List Int)×Int)
abbrev YY35:=(YY9×(Int×(YY27×YY27)))
abbrev YY36:=(List (Int×Int))
abbrev YY37:=(List (Str×Int))
abbrev YY38:=((List YY6)×Int)
abbrev YY39:=(YY9×Int×YY27×YY27)
abbrev YY41:=((List Str)×Bool)
abbrev YY44:=(Str×Int×Bool×Bool×Int)
abbrev YY46:=(Int×(Option (YY23→Option Bool)))
abbrev YY48:=(Int→Option Bool)
abbrev YY50:=(List (Str×(List Int)))
def uk1_ (m:List (Str×Int)):Option (List Str):=bif decide (m.length≤8796093022208) then some ((m.map (·.1)).mergeSort fun x y=>decide (x≤y)) else none
def uk2_:Str×Str×Int×Int×Int×(List Str)×Str×(List YY30)×Int→Option (Int):=fun f_0 =>
 bif ((decide (f_0.2.2.2.1<(1:Int)))||(decide ((6:Int)<f_0.2.2.2.1))) then
  some (7:Int)
 else
  bif ((decide (f_0.2.2.2.2.1<(0:Int)))||(decide ((100:Int)<f_0.2.2.2.2.1))) then
   some (9:Int)
  else
   some (0:Int)
def ubvq_:Unit→Option (List Int):=fun _ =>
 some ([(0:Int),(0:Int),(0:Int),(10:Int),(60:Int),(90:Int),(100:Int)]:List Int)
def unt_:Str×Str×Int×Int×Int×(List Str)×Str×(List YY30)×Int→Option (Int):=fun f_0 =>
 (ubvq_ ()).bind fun r1 =>
 (at? r1 f_0.2.2.2.1).bind fun y2 =>
 some (IntKind.i64.wrap (f_0.2.2.2.2.1*y2))
def u3t_:Str×Str×Int×Int×Int×(List Str)×Str×(List YY30)×Int→Option (Int×Int):=fun f_0 =>
 (uk2_ f_0).bind fun r1 =>
 bif (!(eqI r1 (0:Int))) then
  some ((0:Int),r1)
 else
  (unt_ f_0).bind fun r2 =>
  some (r2,(0:Int))
def ubki_:Int×Int×Int→Option (Bool):=fun (n_0,low_1,high_2) =>
 some ((decide (n_0<low_1))||(decide (high_2<n_0)))
def ug0_:Str×Str×Int×Int×Int×(List Str)×Str×(List YY30)×Int→Option (Int):=fun f_0 =>
 (ubki_ (f_0.2.2.2.1,(1:Int),(6:Int))).bind fun r1 =>
 bif r1 then
  some (7:Int)
 else
  (ubki_ (f_0.2.2.2.2.1,(0:Int),(100:Int))).bind fun r2 =>
  bif r2 then
   some (9:Int)
  else
   some (0:Int)
def ubkj_:Str×Str×Int×Int×Int×(List Str)×Str×(List YY30)×Int→Option (Int):=fun f_0 =>
 (at? ([(0:Int),(0:Int),(0:Int),(10:Int),(60:Int),(90:Int),(100:Int)]:List Int) f_0.2.2.2.1).bind fun y2 =>
 some (IntKind.i64.wrap (f_0.2.2.2.2.1*y2))
def ucmp_:Str×Str×Int×Int×Int×(List Str)×Str×(List YY30)×Int→Option (Int×Int):=fun f_0 =>
 (ug0_ f_0).bind fun r1 =>
 bif (!(eqI r1 (0:Int))) then
  some ((0:Int),r1)
 else
  (ubkj_ f_0).bind fun r2 =>
  some (r2,(0:Int))
def uc4_ (next:(List YY5)×Int×Int→Option YY24):(List YY5)×Int×Int→Option YY24:=fun (t9,t10,t11) =>
 bif (decide (t11<t10)) then
  (at? t9 t11).bind fun y1 =>
  (uk2_ y1).bind fun r2 =>
  bif (!(eqI r2 (0:Int))) then
   some (.inr r2)
  else
   next (t9,t10,(IntKind.i64.wrap (t11+(1:Int))))
 else
  some (.inl ())
def uk3_:(List YY5)×Int×Int→Option YY24:=loopN uc4_ fuel
def ueq_:List YY5→Option (Int):=fun l_0 =>
 bif (decide ((100000:Int)<(l_0.length:Int))) then
  some (3:Int)
 else
  (uk3_ (l_0,(l_0.length:Int),(0:Int))).bind fun r3 =>
  match r3 with
  | .inl y4 =>
    some (0:Int)
  | .inr y4' =>
    some y4'
def ug7_ (next:Int×(List YY5)×Int×Int→Option (Int)):Int×(List YY5)×Int×Int→Option (Int):=fun (n_5,t13,t14,t15) =>
 bif (decide (t15<t14)) then
  (at? t13 t15).bind fun y2 =>
  (unt_ y2).bind fun r3 =>
  next ((IntKind.i64.wrap (n_5+r3)),t13,t14,(IntKind.i64.wrap (t15+(1:Int))))
 else
  some n_5
def u3u_:Int×(List YY5)×Int×Int→Option (Int):=loopN ug7_ fuel
def ush_:List YY5→Option (Int×Int):=fun l_0 =>
 (ueq_ l_0).bind fun r1 =>
 bif (!(eqI r1 (0:Int))) then
  some ((0:Int),r1)
 else
  (u3u_ ((0:Int),l_0,(l_0.length:Int),(0:Int))).bind fun r4 =>
  some (r4,(0:Int))
def ui0_ (next:(List YY5)×Int→Option YY24):(List YY5)×Int→Option YY24:=fun (l_0,i_3) =>
 bif (decide (i_3<(l_0.length:Int))) then
  (at? l_0 i_3).bind fun y1 =>
  (ug0_ y1).bind fun r2 =>
  bif (!(eqI r2 (0:Int))) then
   some (.inr r2)
  else
   next (l_0,(IntKind.i64.wrap (i_3+(1:Int))))
 else
  some (.inl ())
def u92_:(List YY5)×Int→Option YY24:=loopN ui0_ fuel
def unu_:List YY5→Option (Int):=fun l_0 =>
 bif (decide ((100000:Int)<(l_0.length:Int))) then
  some (3:Int)
 else
  (u92_ (l_0,(0:Int))).bind fun r3 =>
  match r3 with
  | .inl y4 =>
    some (0:Int)
  | .inr y4' =>
    some y4'
def u3q_ (next:(List YY5)×Int×Int→Option (Int)):(List YY5)×Int×Int→Option (Int):=fun (l_0,n_5,i_6) =>
 bif (decide (i_6<(l_0.length:Int))) then
  (at? l_0 i_6).bind fun y2 =>
  (ubkj_ y2).bind fun r3 =>
  next (l_0,(IntKind.i64.wrap (n_5+r3)),(IntKind.i64.wrap (i_6+(1:Int))))
 else
  some n_5
def ubzh_:(List YY5)×Int×Int→Option (Int):=loopN u3q_ fuel
def ucb0_:List YY5→Option (Int×Int):=fun l_0 =>
 (unu_ l_0).bind fun r1 =>
 bif (!(eqI r1 (0:Int))) then
  some ((0:Int),r1)
 else
  (ubzh_ (l_0,(0:Int),(0:Int))).bind fun r4 =>
  some (r4,(0:Int))
def uea_:List (Str×Int)→Option YY37:=fun m_0 =>
 some m_0
def ubkk_ (next:YY37×(List YY5)×Int×Int→Option YY37):YY37×(List YY5)×Int×Int→Option YY37:=fun (most_6,t19,t20,t21) =>
 bif (decide (t21<t20)) then
  (at? t19 t21).bind fun y2 =>
  (unt_ y2).bind fun r3 =>
  next ((putKV eqS y2.2.1 (maxI ((uck_ eqS y2.2.1 most_6).getD (0:Int)) r3) most_6),t19,t20,(IntKind.i64.wrap (t21+(1:Int))))
 else
  some most_6
def u3v_:YY37×(List YY5)×Int×Int→Option YY37:=loopN ubkk_ fuel
def ubkl_ (next:YY37×(List Int)×(List Str)×Int×Int→Option (List Int)):YY37×(List Int)×(List Str)×Int×Int→Option (List Int):=fun (most_6,out_10,t39,t40,t41) =>
 bif (decide (t41<t40)) then
  (at? t39 t41).bind fun y8 =>
  (app? 24 out_10 ([((uck_ eqS y8 most_6).getD (0:Int))]:List Int)).bind fun l9 =>
  next (most_6,l9,t39,t40,(IntKind.i64.wrap (t41+(1:Int))))
 else
  some out_10
def u3w_:YY37×(List Int)×(List Str)×Int×Int→Option (List Int):=loopN ubkl_ fuel
def u7z_:List YY5→Option ((List Str)×(List Int)×Int):=fun l_0 =>
 (ueq_ l_0).bind fun r1 =>
 bif (!(eqI r1 (0:Int))) then
  some (([]:List Str),([]:List Int),r1)
 else
  (u3v_ (([]:List (Str×Int)),l_0,(l_0.length:Int),(0:Int))).bind fun r5 =>
  (uea_ r5).bind fun r6 =>
  (uk1_ r6).bind fun r7 =>
  (u3w_ (r5,([]:List Int),r7,(r7.length:Int),(0:Int))).bind fun r10 =>
  some (r7,r10,(0:Int))
def ucik_ (next:(List Str)×Str×(List Str)×Int→Option (Sum (List Str) (List Str))):(List Str)×Str×(List Str)×Int→Option (Sum (List Str) (List Str)):=fun (l_0,s_1,out_5,i_6) =>
 bif (decide (i_6<(l_0.length:Int))) then
  (at? l_0 i_6).bind fun y1 =>
  bif (eqS y1 s_1) then
   some (.inr l_0)
  else
   (at? l_0 i_6).bind fun y2 =>
   bif (!(Op.bytesLess y2 s_1||eqS y2 s_1)) then
    (app? 24 out_5 ([s_1]:List Str)).bind fun l3 =>
    (cut? l_0 i_6 (l_0.length:Int)).bind fun s4 =>
    (app? 24 l3 s4).bind fun l5 =>
    some (.inr l5)
   else
    (at? l_0 i_6).bind fun y6 =>
    (app? 24 out_5 ([y6]:List Str)).bind fun l7 =>
    next (l_0,s_1,l7,(IntKind.i64.wrap (i_6+(1:Int))))
 else
  some (.inl out_5)
def ucil_:(List Str)×Str×(List Str)×Int→Option (Sum (List Str) (List Str)):=loopN ucik_ fuel
def ucph_:(List Str)×Str→Option (List Str):=fun (l_0,s_1) =>
 (ucil_ (l_0,s_1,([]:List Str),(0:Int))).bind fun r8 =>
 match r8 with
 | .inl y9 =>
   (app? 24 y9 ([s_1]:List Str)).bind fun l10 =>
   some l10
 | .inr y9' =>
   some y9'
def ucab_ (next:(List YY5)×(List Str)×Int→Option (List Str)):(List YY5)×(List Str)×Int→Option (List Str):=fun (l_0,refs_6,i_7) =>
 bif (decide (i_7<(l_0.length:Int))) then
  (at? l_0 i_7).bind fun y4 =>
  (ucph_ (refs_6,y4.2.1)).bind fun r5 =>
  next (l_0,r5,(IntKind.i64.wrap (i_7+(1:Int))))
 else
  some refs_6
def ubzi_:(List YY5)×(List Str)×Int→Option (List Str):=loopN ucab_ fuel
def ucac_ (next:(List YY5)×(List Str)×Int×Int×Int→Option (Int)):(List YY5)×(List Str)×Int×Int×Int→Option (Int):=fun (l_0,refs_6,i_9,n_10,k_11) =>
 bif (decide (k_11<(l_0.length:Int))) then
  (at? l_0 k_11).bind fun y7 =>
  (at? refs_6 i_9).bind fun y8 =>
  bif (eqS y7.2.1 y8) then
   (at? l_0 k_11).bind fun y9 =>
   (ubkj_ y9).bind fun r10 =>
   next (l_0,refs_6,i_9,(maxI n_10 r10),(IntKind.i64.wrap (k_11+(1:Int))))
  else
   next (l_0,refs_6,i_9,n_10,(IntKind.i64.wrap (k_11+(1:Int))))
 else
  some n_10
def ubzj_:(List YY5)×(List Str)×Int×Int×Int→Option (Int):=loopN ucac_ fuel
def ucad_ (next:(List YY5)×(List Str)×(List Int)×Int→Option (List Int)):(List YY5)×(List Str)×(List Int)×Int→Option (List Int):=fun (l_0,refs_6,out_8,i_9) =>
 bif (decide (i_9<(refs_6.length:Int))) then
  (ubzj_ (l_0,refs_6,i_9,(0:Int),(0:Int))).bind fun r11 =>
  (app? 24 out_8 ([r11]:List Int)).bind fun l12 =>
  next (l_0,refs_6,l12,(IntKind.i64.wrap (i_9+(1:Int))))
 else
  some out_8
def ubzk_:(List YY5)×(List Str)×(List Int)×Int→Option (List Int):=loopN ucad_ fuel
def ucb1_:List YY5→Option ((List Str)×(List Int)×Int):=fun l_0 =>
 (unu_ l_0).bind fun r1 =>
 bif (!(eqI r1 (0:Int))) then
  some (([]:List Str),([]:List Int),r1)
 else
  (ubzi_ (l_0,([]:List Str),(0:Int))).bind fun r6 =>
  (ubzk_ (l_0,r6,([]:List Int),(0:Int))).bind fun r13 =>
  some (r6,r13,(0:Int))
def u70_:Int→Option (Bool):=fun x_0 =>
 some (!(eqI x_0 x_0))
def ude_:Int×Int→Option (Int):=fun (x_0,y_1) =>
 (u70_ x_0).bind fun r1 =>
 (u70_ y_1).bind fun r2 =>
 bif r1 then
  bif r2 then
   some (0:Int)
  else
   some (-1:Int)
 else
  bif r2 then
   some (1:Int)
  else
   bif (decide (x_0<y_1)) then
    some (-1:Int)
   else
    bif (decide (y_1<x_0)) then
     some (1:Int)
    else
     some (0:Int)
def u71_:Str×Str×Int×Int×Int×(List Str)×Str×(List YY30)×Int→Option YY16:=fun f_0 =>
 some (f_0.1,(f_0.2.1,f_0.2.2.1))
def utq_:Str→Option (Bool):=fun x_0 =>
 some (!(eqS x_0 x_0))
def ubx_:Str×Str→Option (Int):=fun (x_0,y_1) =>
 (utq_ x_0).bind fun r1 =>
 (utq_ y_1).bind fun r2 =>
 bif r1 then
  bif r2 then
   some (0:Int)
  else
   some (-1:Int)
 else
  bif r2 then
   some (1:Int)
  else
   bif (Op.bytesLess x_0 y_1) then
    some (-1:Int)
   else
    bif (!(Op.bytesLess x_0 y_1||eqS x_0 y_1)) then
     some (1:Int)
    else
     some (0:Int)
def ug1_ (next:Int×(List Int)×Int×Int→Option YY24):Int×(List Int)×Int×Int→Option YY24:=fun (zero_3,t6,t7,t8) =>
 bif (decide (t8<t7)) then
  (at? t6 t8).bind fun y1 =>
  bif (!(eqI y1 zero_3)) then
   some (.inr y1)
  else
   next (zero_3,t6,t7,(IntKind.i64.wrap (t8+(1:Int))))
 else
  some (.inl ())
def ubkm_:Int×(List Int)×Int×Int→Option YY24:=loopN ug1_ fuel
def uy5_:List Int→Option (Int):=fun vals_0 =>
 (ubkm_ ((0:Int),vals_0,(vals_0.length:Int),(0:Int))).bind fun r2 =>
 match r2 with
 | .inl y3 =>
   some (0:Int)
 | .inr y3' =>
   some y3'
def u0z_:YY16×YY16→Option (Int):=fun (a_0,b_1) =>
 (ubx_ (a_0.1,b_1.1)).bind fun r1 =>
 (ubx_ (a_0.2.1,b_1.2.1)).bind fun r2 =>
 (ude_ (a_0.2.2,b_1.2.2)).bind fun r3 =>
 (uy5_ ([r1,r2,r3]:List Int)).bind fun r4 =>
 some r4
def ujs_:Int×Int×(Option (List YY5))→Option (Int):=fun (i_0,j_1,t2) =>
 (t2).bind fun p1 =>
 (at? p1 i_0).bind fun y2 =>
 (t2).bind fun p3 =>
 (at? p3 j_1).bind fun y4 =>
 (unt_ y4).bind fun r5 =>
 (unt_ y2).bind fun r6 =>
 (ude_ (r5,r6)).bind fun r7 =>
 (ude_ ((y2.2.2.2.2.2.1.length:Int),(y4.2.2.2.2.2.1.length:Int))).bind fun r8 =>
 (u71_ y2).bind fun r9 =>
 (u71_ y4).bind fun r10 =>
 (u0z_ (r9,r10)).bind fun r11 =>
 (uy5_ ([r7,r8,r11]:List Int)).bind fun r12 =>
 some r12
def ueh_ (next:(List Int)×Int×YY15×Int→Option (List Int)):(List Int)×Int×YY15×Int→Option (List Int):=fun (data_0,a_1,cmp_3,j_9) =>
 (bif (decide (a_1<j_9)) then in? data_0.length j_9 else some ()).bind fun _ =>
 (bif (decide (a_1<j_9)) then in? data_0.length (IntKind.i64.wrap (j_9-(1:Int))) else some ()).bind fun _ =>
 (bif (decide (a_1<j_9)) then cmp_3 ((data_0.getD j_9.toNat (0:Int)),(data_0.getD ((IntKind.i64.wrap (j_9-(1:Int))).toNat) (0:Int))) else some (0:Int)).bind fun r2 =>
 bif ((decide (a_1<j_9))&&(decide (r2<(0:Int)))) then
  (in? data_0.length (IntKind.i64.wrap (j_9-(1:Int)))).bind fun _ =>
  let v3:=(data_0.getD ((IntKind.i64.wrap (j_9-(1:Int))).toNat) (0:Int))
  (in? data_0.length j_9).bind fun _ =>
  (in? data_0.length j_9).bind fun _ =>
  (in? (data_0.set j_9.toNat v3).length (IntKind.i64.wrap (j_9-(1:Int)))).bind fun _ =>
  next (((data_0.set j_9.toNat v3).set ((IntKind.i64.wrap (j_9-(1:Int))).toNat) (data_0.getD j_9.toNat (0:Int))),a_1,cmp_3,(IntKind.i64.wrap (j_9-(1:Int))))
 else
  some data_0
def ucl_:(List Int)×Int×YY15×Int→Option (List Int):=loopN ueh_ fuel
def uei_ (next:(List Int)×Int×Int×YY15×Int→Option (List Int)):(List Int)×Int×Int×YY15×Int→Option (List Int):=fun (data_0,a_1,b_2,cmp_3,i_8) =>
 bif (decide (i_8<b_2)) then
  (ucl_ (data_0,a_1,cmp_3,i_8)).bind fun r5 =>
  next (r5,a_1,b_2,cmp_3,(IntKind.i64.wrap (i_8+(1:Int))))
 else
  some data_0
def uej_:(List Int)×Int×Int×YY15×Int→Option (List Int):=loopN uei_ fuel
def u4_:(List Int)×Int×Int×YY15→Option (List Int):=fun (data_0,a_1,b_2,cmp_3) =>
 (uej_ (data_0,a_1,b_2,cmp_3,(IntKind.i64.wrap (a_1+(1:Int))))).bind fun r6 =>
 some r6
def ugh_ (next:(List Int)×Int×Int×Int×Int→Option (List Int)):(List Int)×Int×Int×Int×Int→Option (List Int):=fun (data_0,a_1,b_2,n_3,i_10) =>
 bif (decide (i_10<n_3)) then
  (in? data_0.length (IntKind.i64.wrap (b_2+i_10))).bind fun _ =>
  let v1:=(data_0.getD ((IntKind.i64.wrap (b_2+i_10)).toNat) (0:Int))
  (in? data_0.length (IntKind.i64.wrap (a_1+i_10))).bind fun _ =>
  (in? data_0.length (IntKind.i64.wrap (a_1+i_10))).bind fun _ =>
  (in? (data_0.set ((IntKind.i64.wrap (a_1+i_10)).toNat) v1).length (IntKind.i64.wrap (b_2+i_10))).bind fun _ =>
  next (((data_0.set ((IntKind.i64.wrap (a_1+i_10)).toNat) v1).set ((IntKind.i64.wrap (b_2+i_10)).toNat) (data_0.getD ((IntKind.i64.wrap (a_1+i_10)).toNat) (0:Int))),a_1,b_2,n_3,(IntKind.i64.wrap (i_10+(1:Int))))
 else
  some data_0
def ugi_:(List Int)×Int×Int×Int×Int→Option (List Int):=loopN ugh_ fuel
def u9_:(List Int)×Int×Int×Int×YY15→Option (List Int):=fun (data_0,a_1,b_2,n_3,cmp_4) =>
 (ugi_ (data_0,a_1,b_2,n_3,(0:Int))).bind fun r4 =>
 some r4
def uh1_ (next:(List Int)×Int×YY15×Int×Int→Option YY34):(List Int)×Int×YY15×Int×Int→Option YY34:=fun (data_0,m_2,cmp_4,i_10,j_11) =>
 bif (!(eqI i_10 j_11)) then
  bif (decide (j_11<i_10)) then
   (u9_ (data_0,(IntKind.i64.wrap (m_2-i_10)),m_2,j_11,cmp_4)).bind fun r1 =>
   next (r1,m_2,cmp_4,(IntKind.i64.wrap (i_10-j_11)),j_11)
  else
   (u9_ (data_0,(IntKind.i64.wrap (m_2-i_10)),(IntKind.i64.wrap ((IntKind.i64.wrap (m_2+j_11))-i_10)),i_10,cmp_4)).bind fun r2 =>
   next (r2,m_2,cmp_4,i_10,(IntKind.i64.wrap (j_11-i_10)))
 else
  some (data_0,i_10)
def uh2_:(List Int)×Int×YY15×Int×Int→Option YY34:=loopN uh1_ fuel
def uc5_:(List Int)×Int×Int×Int×YY15→Option (List Int):=fun (data_0,a_1,m_2,b_3,cmp_4) =>
 (uh2_ (data_0,m_2,cmp_4,(IntKind.i64.wrap (m_2-a_1)),(IntKind.i64.wrap (b_3-m_2)))).bind fun r3 =>
 (u9_ (r3.1,(IntKind.i64.wrap (m_2-r3.2)),m_2,r3.2,cmp_4)).bind fun r4 =>
 some r4
def ugr_ (slf:(List Int)×Int×Int×Int×YY15→Option (List Int)) (next:(List Int)×Int×YY15×Int×Int→Option YY34):(List Int)×Int×YY15×Int×Int→Option YY34:=fun (data_0,a_1,cmp_4,i_10,j_11) =>
 bif (decide (i_10<j_11)) then
  (shr? IntKind.u64 (IntKind.u64.wrap (IntKind.i64.wrap (i_10+j_11))) (1:Int)).bind fun n1 =>
  (in? data_0.length (IntKind.i64.wrap n1)).bind fun _ =>
  (in? data_0.length a_1).bind fun _ =>
  (cmp_4 ((data_0.getD ((IntKind.i64.wrap n1).toNat) (0:Int)),(data_0.getD a_1.toNat (0:Int)))).bind fun r2 =>
  bif (decide (r2<(0:Int))) then
   next (data_0,a_1,cmp_4,(IntKind.i64.wrap ((IntKind.i64.wrap n1)+(1:Int))),j_11)
  else
   next (data_0,a_1,cmp_4,i_10,(IntKind.i64.wrap n1))
 else
  some (data_0,i_10)
def ud5_ (slf:(List Int)×Int×Int×Int×YY15→Option (List Int)):(List Int)×Int×YY15×Int×Int→Option YY34:=loopN (ugr_ slf) fuel
def ugs_ (slf:(List Int)×Int×Int×Int×YY15→Option (List Int)) (next:(List Int)×Int×Int→Option (List Int)):(List Int)×Int×Int→Option (List Int):=fun (data_0,i_10,k_13) =>
 bif (decide (k_13<(IntKind.i64.wrap (i_10-(1:Int))))) then
  (in? data_0.length (IntKind.i64.wrap (k_13+(1:Int)))).bind fun _ =>
  let v4:=(data_0.getD ((IntKind.i64.wrap (k_13+(1:Int))).toNat) (0:Int))
  (in? data_0.length k_13).bind fun _ =>
  (in? data_0.length k_13).bind fun _ =>
  (in? (data_0.set k_13.toNat v4).length (IntKind.i64.wrap (k_13+(1:Int)))).bind fun _ =>
  next (((data_0.set k_13.toNat v4).set ((IntKind.i64.wrap (k_13+(1:Int))).toNat) (data_0.getD k_13.toNat (0:Int))),i_10,(IntKind.i64.wrap (k_13+(1:Int))))
 else
  some data_0
def ud6_ (slf:(List Int)×Int×Int×Int×YY15→Option (List Int)):(List Int)×Int×Int→Option (List Int):=loopN (ugs_ slf) fuel
def ugt_ (slf:(List Int)×Int×Int×Int×YY15→Option (List Int)) (next:(List Int)×Int×YY15×Int×Int→Option YY34):(List Int)×Int×YY15×Int×Int→Option YY34:=fun (data_0,m_2,cmp_4,i_14,j_15) =>
 bif (decide (i_14<j_15)) then
  (shr? IntKind.u64 (IntKind.u64.wrap (IntKind.i64.wrap (i_14+j_15))) (1:Int)).bind fun n7 =>
  (in? data_0.length m_2).bind fun _ =>
  (in? data_0.length (IntKind.i64.wrap n7)).bind fun _ =>
  (cmp_4 ((data_0.getD m_2.toNat (0:Int)),(data_0.getD ((IntKind.i64.wrap n7).toNat) (0:Int)))).bind fun r8 =>
  bif (!(decide (r8<(0:Int)))) then
   next (data_0,m_2,cmp_4,(IntKind.i64.wrap ((IntKind.i64.wrap n7)+(1:Int))),j_15)
  else
   next (data_0,m_2,cmp_4,i_14,(IntKind.i64.wrap n7))
 else
  some (data_0,i_14)
def ud7_ (slf:(List Int)×Int×Int×Int×YY15→Option (List Int)):(List Int)×Int×YY15×Int×Int→Option YY34:=loopN (ugt_ slf) fuel
def ugj_ (slf:(List Int)×Int×Int×Int×YY15→Option (List Int)) (next:(List Int)×Int×Int→Option (List Int)):(List Int)×Int×Int→Option (List Int):=fun (data_0,i_14,k_17) =>
 bif (decide (i_14<k_17)) then
  (in? data_0.length (IntKind.i64.wrap (k_17-(1:Int)))).bind fun _ =>
  let v10:=(data_0.getD ((IntKind.i64.wrap (k_17-(1:Int))).toNat) (0:Int))
  (in? data_0.length k_17).bind fun _ =>
  (in? data_0.length k_17).bind fun _ =>
  (in? (data_0.set k_17.toNat v10).length (IntKind.i64.wrap (k_17-(1:Int)))).bind fun _ =>
  next (((data_0.set k_17.toNat v10).set ((IntKind.i64.wrap (k_17-(1:Int))).toNat) (data_0.getD k_17.toNat (0:Int))),i_14,(IntKind.i64.wrap (k_17-(1:Int))))
 else
  some data_0
def udi_ (slf:(List Int)×Int×Int×Int×YY15→Option (List Int)):(List Int)×Int×Int→Option (List Int):=loopN (ugj_ slf) fuel
def ubi_ (slf:(List Int)×Int×Int×Int×YY15→Option (List Int)):Int×Int×Int×Int×Int×Bool→Option (Int×Int):=fun (a_1,m_2,b_3,mid_18,n_19,t140) =>
 bif t140 then
  some ((IntKind.i64.wrap (n_19-b_3)),mid_18)
 else
  some (a_1,m_2)
def ugk_ (slf:(List Int)×Int×Int×Int×YY15→Option (List Int)) (next:(List Int)×YY15×Int×Int×Int→Option YY34):(List Int)×YY15×Int×Int×Int→Option YY34:=fun (data_0,cmp_4,start_20,r_21,p_22) =>
 bif (decide (start_20<r_21)) then
  (shr? IntKind.u64 (IntKind.u64.wrap (IntKind.i64.wrap (start_20+r_21))) (1:Int)).bind fun n16 =>
  (in? data_0.length (IntKind.i64.wrap (p_22-(IntKind.i64.wrap n16)))).bind fun _ =>
  (in? data_0.length (IntKind.i64.wrap n16)).bind fun _ =>
  (cmp_4 ((data_0.getD ((IntKind.i64.wrap (p_22-(IntKind.i64.wrap n16))).toNat) (0:Int)),(data_0.getD ((IntKind.i64.wrap n16).toNat) (0:Int)))).bind fun r18 =>
  bif (!(decide (r18<(0:Int)))) then
   next (data_0,cmp_4,(IntKind.i64.wrap ((IntKind.i64.wrap n16)+(1:Int))),r_21,p_22)
  else
   next (data_0,cmp_4,start_20,(IntKind.i64.wrap n16),p_22)
 else
  some (data_0,start_20)
def udj_ (slf:(List Int)×Int×Int×Int×YY15→Option (List Int)):(List Int)×YY15×Int×Int×Int→Option YY34:=loopN (ugk_ slf) fuel
def ubj_ (slf:(List Int)×Int×Int×Int×YY15→Option (List Int)):(List Int)×Int×YY15×Int×Int×Bool→Option (List Int):=fun (data_0,m_2,cmp_4,start_20,end_24,t185) =>
 bif t185 then
  (uc5_ (data_0,start_20,m_2,end_24,cmp_4)).bind fun r21 =>
  some r21
 else
  some data_0
def ubk_ (slf:(List Int)×Int×Int×Int×YY15→Option (List Int)):(List Int)×Int×YY15×Int×Int×Bool→Option (List Int):=fun (data_0,a_1,cmp_4,mid_18,start_20,t199) =>
 bif t199 then
  (slf (data_0,a_1,start_20,mid_18,cmp_4)).bind fun r24 =>
  some r24
 else
  some data_0
def ub1_ (slf:(List Int)×Int×Int×Int×YY15→Option (List Int)):(List Int)×Int×Int×Int×YY15→Option (List Int):=fun (data_0,a_1,m_2,b_3,cmp_4) =>
 bif (eqI (IntKind.i64.wrap (m_2-a_1)) (1:Int)) then
  ((ud5_ slf) (data_0,a_1,cmp_4,m_2,b_3)).bind fun r3 =>
  ((ud6_ slf) (r3.1,r3.2,a_1)).bind fun r6 =>
  some r6
 else
  bif (eqI (IntKind.i64.wrap (b_3-m_2)) (1:Int)) then
   ((ud7_ slf) (data_0,m_2,cmp_4,a_1,m_2)).bind fun r9 =>
   ((udi_ slf) (r9.1,r9.2,m_2)).bind fun r12 =>
   some r12
  else
   (shr? IntKind.u64 (IntKind.u64.wrap (IntKind.i64.wrap (a_1+b_3))) (1:Int)).bind fun n13 =>
   ((ubi_ slf) (a_1,m_2,b_3,(IntKind.i64.wrap n13),(IntKind.i64.wrap ((IntKind.i64.wrap n13)+m_2)),(decide ((IntKind.i64.wrap n13)<m_2)))).bind fun r14 =>
   ((udj_ slf) (data_0,cmp_4,r14.1,r14.2,(IntKind.i64.wrap ((IntKind.i64.wrap ((IntKind.i64.wrap n13)+m_2))-(1:Int))))).bind fun r19 =>
   let v20:=(IntKind.i64.wrap ((IntKind.i64.wrap ((IntKind.i64.wrap n13)+m_2))-r19.2))
   ((ubj_ slf) (r19.1,m_2,cmp_4,r19.2,v20,((decide (r19.2<m_2))&&(decide (m_2<v20))))).bind fun r22 =>
   ((ubk_ slf) (r22,a_1,cmp_4,(IntKind.i64.wrap n13),r19.2,((decide (a_1<r19.2))&&(decide (r19.2<(IntKind.i64.wrap n13)))))).bind fun r25 =>
   bif ((decide ((IntKind.i64.wrap n13)<v20))&&(decide (v20<b_3))) then
    (slf (r25,(IntKind.i64.wrap n13),v20,b_3,cmp_4)).bind fun r27 =>
    some r27
   else
    some r25
def un_:Nat→(List Int)×Int×Int×Int×YY15→Option (List Int)
 | 0=>fun _=>none
 | n+1=>ub1_ (un_ n)
def ubc_:(List Int)×Int×Int×Int×YY15→Option (List Int):=un_ 100
def uh3_ (next:(List Int)×Int×YY15×Int×Int×Int→Option YY34):(List Int)×Int×YY15×Int×Int×Int→Option YY34:=fun (data_0,n_1,cmp_2,blockSize_6,a_7,b_8) =>
 bif (decide (b_8≤n_1)) then
  (u4_ (data_0,a_7,b_8,cmp_2)).bind fun r1 =>
  next (r1,n_1,cmp_2,blockSize_6,b_8,(IntKind.i64.wrap (b_8+blockSize_6)))
 else
  some (data_0,a_7)
def uex_:(List Int)×Int×YY15×Int×Int×Int→Option YY34:=loopN uh3_ fuel
def uh4_ (next:(List Int)×Int×YY15×Int×Int×Int→Option YY34):(List Int)×Int×YY15×Int×Int×Int→Option YY34:=fun (data_0,n_1,cmp_2,blockSize_6,a_7,b_8) =>
 bif (decide (b_8≤n_1)) then
  (ubc_ (data_0,a_7,(IntKind.i64.wrap (a_7+blockSize_6)),b_8,cmp_2)).bind fun r4 =>
  next (r4,n_1,cmp_2,blockSize_6,b_8,(IntKind.i64.wrap (b_8+(IntKind.i64.wrap ((2:Int)*blockSize_6)))))
 else
  some (data_0,a_7)
def uey_:(List Int)×Int×YY15×Int×Int×Int→Option YY34:=loopN uh4_ fuel
def uh5_ (next:(List Int)×Int×YY15×Int→Option (List Int)):(List Int)×Int×YY15×Int→Option (List Int):=fun (data_0,n_1,cmp_2,blockSize_6) =>
 bif (decide (blockSize_6<n_1)) then
  (uey_ (data_0,n_1,cmp_2,blockSize_6,(0:Int),(IntKind.i64.wrap ((2:Int)*blockSize_6)))).bind fun r6 =>
  bif (decide ((IntKind.i64.wrap (r6.2+blockSize_6))<n_1)) then
   (ubc_ (r6.1,r6.2,(IntKind.i64.wrap (r6.2+blockSize_6)),n_1,cmp_2)).bind fun r7 =>
   next (r7,n_1,cmp_2,(IntKind.i64.wrap (blockSize_6*(2:Int))))
  else
   next (r6.1,n_1,cmp_2,(IntKind.i64.wrap (blockSize_6*(2:Int))))
 else
  some data_0
def uez_:(List Int)×Int×YY15×Int→Option (List Int):=loopN uh5_ fuel
def uek_:(List Int)×Int×YY15→Option (List Int):=fun (data_0,n_1,cmp_2) =>
 (uex_ (data_0,n_1,cmp_2,(20:Int),(0:Int),(20:Int))).bind fun r2 =>
 (u4_ (r2.1,r2.2,n_1,cmp_2)).bind fun r3 =>
 (uez_ (r3,n_1,cmp_2,(20:Int))).bind fun r8 =>
 some r8
def u5_:(List Int)×YY15→Option (List Int):=fun (x_0,cmp_1) =>
 (uek_ (x_0,(x_0.length:Int),cmp_1)).bind fun r1 =>
 some r1
def ubkn_ (next:(List Int)×Int×Int→Option (List Int)):(List Int)×Int×Int→Option (List Int):=fun (out_5,t13,t14) =>
 bif (decide (t14<t13)) then
  (app? 24 out_5 ([t14]:List Int)).bind fun l2 =>
  next (l2,t13,(IntKind.i64.wrap (t14+(1:Int))))
 else
  some out_5
def utr_:(List Int)×Int×Int→Option (List Int):=loopN ubkn_ fuel
def u72_:List YY5→Option YY34:=fun l_0 =>
 (ueq_ l_0).bind fun r1 =>
 bif (!(eqI r1 (0:Int))) then
  some (([]:List Int),r1)
 else
  (utr_ (([]:List Int),(l_0.length:Int),(0:Int))).bind fun r3 =>
  (u5_ (r3,(fun x=>(ujs_ (x.1,x.2,(some l_0))).bind fun r=>some r))).bind fun r4 =>
  some (r4,(0:Int))
def uboz_:YY5×YY5→Option (Bool):=fun (a_0,b_1) =>
 (ubkj_ a_0).bind fun r1 =>
 (ubkj_ b_1).bind fun r2 =>
 bif (!(eqI r1 r2)) then
  some (decide (r2<r1))
 else
  bif (!(eqI (a_0.2.2.2.2.2.1.length:Int) (b_1.2.2.2.2.2.1.length:Int))) then
   some (decide ((a_0.2.2.2.2.2.1.length:Int)<(b_1.2.2.2.2.2.1.length:Int)))
  else
   bif (!(eqS a_0.1 b_1.1)) then
    some (Op.bytesLess a_0.1 b_1.1)
   else
    bif (!(eqS a_0.2.1 b_1.2.1)) then
     some (Op.bytesLess a_0.2.1 b_1.2.1)
    else
     some (decide (a_0.2.2.1<b_1.2.2.1))
def ucae_ (next:(List YY5)×(List Int)×Int×Int→Option YY34):(List YY5)×(List Int)×Int×Int→Option YY34:=fun (l_0,out_5,i_6,k_7) =>
 (bif (decide ((0:Int)<k_7)) then at? l_0 i_6 else some (([]:Str),(([]:Str),((0:Int),((0:Int),((0:Int),(([]:List Str),(([]:Str),(([]:List YY30),(0:Int)))))))))).bind fun y3 =>
 (bif (decide ((0:Int)<k_7)) then in? out_5.length (IntKind.i64.wrap (k_7-(1:Int))) else some ()).bind fun _ =>
 (bif (decide ((0:Int)<k_7)) then at? l_0 (out_5.getD ((IntKind.i64.wrap (k_7-(1:Int))).toNat) (0:Int)) else some (([]:Str),(([]:Str),((0:Int),((0:Int),((0:Int),(([]:List Str),(([]:Str),(([]:List YY30),(0:Int)))))))))).bind fun y5 =>
 (bif (decide ((0:Int)<k_7)) then uboz_ (y3,y5) else some false).bind fun r6 =>
 bif ((decide ((0:Int)<k_7))&&r6) then
  (in? out_5.length (IntKind.i64.wrap (k_7-(1:Int)))).bind fun _ =>
  (in? out_5.length k_7).bind fun _ =>
  next (l_0,(out_5.set k_7.toNat (out_5.getD ((IntKind.i64.wrap (k_7-(1:Int))).toNat) (0:Int))),i_6,(IntKind.i64.wrap (k_7-(1:Int))))
 else
  some (out_5,k_7)
def ubzl_:(List YY5)×(List Int)×Int×Int→Option YY34:=loopN ucae_ fuel
def ucaf_ (next:(List YY5)×(List Int)×Int→Option (List Int)):(List YY5)×(List Int)×Int→Option (List Int):=fun (l_0,out_5,i_6) =>
 bif (decide (i_6<(l_0.length:Int))) then
  (app? 24 out_5 ([i_6]:List Int)).bind fun l2 =>
  (ubzl_ (l_0,l2,i_6,(out_5.length:Int))).bind fun r8 =>
  (in? r8.1.length r8.2).bind fun _ =>
  next (l_0,(r8.1.set r8.2.toNat i_6),(IntKind.i64.wrap (i_6+(1:Int))))
 else
  some out_5
def ubo0_:(List YY5)×(List Int)×Int→Option (List Int):=loopN ucaf_ fuel
def ucb2_:List YY5→Option YY34:=fun l_0 =>
 (unu_ l_0).bind fun r1 =>
 bif (!(eqI r1 (0:Int))) then
  some (([]:List Int),r1)
 else
  (ubo0_ (l_0,([]:List Int),(0:Int))).bind fun r9 =>
  some (r9,(0:Int))
def uy6_ (next:(List Str)×(List Str)×Int×Int→Option YY28):(List Str)×(List Str)×Int×Int→Option YY28:=fun (s1_0,s2_1,t12,t13) =>
 bif (decide (t13<t12)) then
  (at? s1_0 t13).bind fun y1 =>
  (at? s2_1 t13).bind fun y2 =>
  bif (!(eqS y1 y2)) then
   some (.inr false)
  else
   next (s1_0,s2_1,t12,(IntKind.i64.wrap (t13+(1:Int))))
 else
  some (.inl ())
def unv_:(List Str)×(List Str)×Int×Int→Option YY28:=loopN uy6_ fuel
def um2_:(List Str)×(List Str)→Option (Bool):=fun (s1_0,s2_1) =>
 bif (!(eqI (s1_0.length:Int) (s2_1.length:Int))) then
  some false
 else
  (unv_ (s1_0,s2_1,(s1_0.length:Int),(0:Int))).bind fun r3 =>
  match r3 with
  | .inl y4 =>
    some true
  | .inr y4' =>
    some y4'
def u73_ (next:(List Int)×(List Int)×Int×Int→Option YY28):(List Int)×(List Int)×Int×Int→Option YY28:=fun (s1_0,s2_1,t12,t13) =>
 bif (decide (t13<t12)) then
  (at? s1_0 t13).bind fun y1 =>
  (at? s2_1 t13).bind fun y2 =>
  bif (!(eqI y1 y2)) then
   some (.inr false)
  else
   next (s1_0,s2_1,t12,(IntKind.i64.wrap (t13+(1:Int))))
 else
  some (.inl ())
def uts_:(List Int)×(List Int)×Int×Int→Option YY28:=loopN u73_ fuel
def unw_:(List Int)×(List Int)→Option (Bool):=fun (s1_0,s2_1) =>
 bif (!(eqI (s1_0.length:Int) (s2_1.length:Int))) then
  some false
 else
  (uts_ (s1_0,s2_1,(s1_0.length:Int),(0:Int))).bind fun r3 =>
  match r3 with
  | .inl y4 =>
    some true
  | .inr y4' =>
    some y4'
def ucmq_:Unit→Option YY4:=fun _ =>
 some ((([97,112,112]:Str),(([]:Str),(([114]:Str),(([(([99]:Str),((([112,108,97,105,110]:Str),(([]:Str),(([99]:Str),(([49]:Str),(([]:List (Str×Str)),([]:Str)))))),(([]:List (Str×Str)),(([]:Str),([]:List Str))))),(([114]:Str),((([112,108,97,105,110]:Str),(([]:Str),(([97,112,112]:Str),(([]:Str),(([]:List (Str×Str)),([]:Str)))))),(([]:List (Str×Str)),(([]:Str),([]:List Str)))))]:List YY2),([(([114]:Str),(([99]:Str),(1:Int)))]:List YY16))))),((1:Int),(((0:Int),(([(([65]:Str),(([]:List Str),(([120]:Str),((0:Int),(false,(([78,72,76,76,78,78]:Str),([(([112,107,103,58,112,108,97,105,110,47,99]:Str),((5:Int),(([((1:Int),([]:Str))]:List (Int×Str)),(([]:List Str),([]:List Str)))))]:List YY14)))))))]:List YY3),([(0:Int)]:List Int))),(([]:List YY17),((0:Int),(([]:List Str),([]:List YY29)))))))
def ucer_ (next:Str×Int×Int→Option YY28):Str×Int×Int→Option YY28:=fun (s_0,t5,t6) =>
 bif (decide (t6<t5)) then
  (at? s_0 t6).bind fun b1 =>
  (bif (!(decide ((b1.toNat:Int)<(32:Int)))) then at? s_0 t6 else some 0).bind fun b2 =>
  bif ((decide ((b1.toNat:Int)<(32:Int)))||(eqI (b2.toNat:Int) (127:Int))) then
   some (.inr false)
  else
   next (s_0,t5,(IntKind.i64.wrap (t6+(1:Int))))
 else
  some (.inl ())
def ub1y_:Str×Int×Int→Option YY28:=loopN ucer_ fuel
def ub5j_:Str→Option (Bool):=fun s_0 =>
 (ub1y_ (s_0,(s_0.length:Int),(0:Int))).bind fun r4 =>
 match r4 with
 | .inl y5 =>
   some (decide ((s_0.length:Int)≤(100:Int)))
 | .inr y5' =>
   some y5'
def ub5k_ (next:Str×Int×Int→Option YY28):Str×Int×Int→Option YY28:=fun (s_0,t7,t8) =>
 bif (decide (t8<t7)) then
  (at? s_0 t8).bind fun b1 =>
  (bif (!(decide ((b1.toNat:Int)<(33:Int)))) then at? s_0 t8 else some 0).bind fun b2 =>
  bif ((decide ((b1.toNat:Int)<(33:Int)))||(decide ((126:Int)<(b2.toNat:Int)))) then
   some (.inr false)
  else
   next (s_0,t7,(IntKind.i64.wrap (t8+(1:Int))))
 else
  some (.inl ())
def ubko_:Str×Int×Int→Option YY28:=loopN ub5k_ fuel
def ubkp_:Str×Int→Option (Bool):=fun (s_0,most_1) =>
 (ubko_ (s_0,(s_0.length:Int),(0:Int))).bind fun r4 =>
 match r4 with
 | .inl y5 =>
   some ((!(eqS s_0 ([]:Str)))&&(decide ((s_0.length:Int)≤most_1)))
 | .inr y5' =>
   some y5'
def ub5l_:Unit→Option (List YY44):=fun _ =>
 some ([(([100,111,116,116,101,100]:Str),((2:Int),(true,(false,(1:Int))))),(([114,101,118,105,115,101,100]:Str),((3:Int),(true,(false,(2:Int))))),(([115,116,97,103,101,100]:Str),((1:Int),(true,(true,(3:Int))))),(([113,117,97,108,105,102,105,101,100]:Str),((3:Int),(false,(false,(4:Int))))),(([112,108,97,105,110]:Str),((2:Int),(false,(false,(5:Int)))))]:List YY44)
def uces_ (next:Str×(List YY44)×Int→Option YY24):Str×(List YY44)×Int→Option YY24:=fun (kind_0,t5,t6) =>
 bif (decide (t6<(5:Int))) then
  (at? t5 t6).bind fun y2 =>
  bif (eqS y2.1 kind_0) then
   some (.inr t6)
  else
   next (kind_0,t5,(IntKind.i64.wrap (t6+(1:Int))))
 else
  some (.inl ())
def ub1z_:Str×(List YY44)×Int→Option YY24:=loopN uces_ fuel
def ucet_:Str→Option (Int):=fun kind_0 =>
 (ub5l_ ()).bind fun r1 =>
 (ub1z_ (kind_0,r1,(0:Int))).bind fun r3 =>
 match r3 with
 | .inl y4 =>
   some (-1:Int)
 | .inr y4' =>
   some y4'
def ucb3_:Str→Option (YY44×Int):=fun kind_0 =>
 (ucet_ kind_0).bind fun r1 =>
 bif (decide (r1<(0:Int))) then
  some ((([]:Str),((0:Int),(false,(false,(0:Int))))),(7:Int))
 else
  (ub5l_ ()).bind fun r3 =>
  (at? r3 r1).bind fun y4 =>
  some (y4,(0:Int))
def ucgp_ (next:(List Str)×Int×Int→Option YY28):(List Str)×Int×Int→Option YY28:=fun (t15,t16,t17) =>
 bif (decide (t17<t16)) then
  (at? t15 t17).bind fun y2 =>
  bif (decide ((200:Int)<(y2.length:Int))) then
   some (.inr true)
  else
   next (t15,t16,(IntKind.i64.wrap (t17+(1:Int))))
 else
  some (.inl ())
def ub5m_:(List Str)×Int×Int→Option YY28:=loopN ucgp_ fuel
def ucgq_ (next:YY10×Int×Int→Option YY28):YY10×Int×Int→Option YY28:=fun (t26,t27,t28) =>
 bif (decide (t28<t27)) then
  (at? t26 t28).bind fun y5 =>
  bif ((decide ((200:Int)<(y5.1.length:Int)))||(decide ((200:Int)<(y5.2.length:Int)))) then
   some (.inr true)
  else
   next (t26,t27,(IntKind.i64.wrap (t28+(1:Int))))
 else
  some (.inl ())
def ub5n_:YY10×Int×Int→Option YY28:=loopN ucgq_ fuel
def ucim_:Str×Str×Str×Str×YY10×Str→Option (Bool):=fun p_0 =>
 let v1:=([p_0.2.1,p_0.2.2.1,p_0.2.2.2.1,p_0.2.2.2.2.2]:List Str)
 (ub5m_ (v1,(v1.length:Int),(0:Int))).bind fun r3 =>
 match r3 with
 | .inl y4 =>
   (ub5n_ (p_0.2.2.2.2.1,(p_0.2.2.2.2.1.length:Int),(0:Int))).bind fun r7 =>
   match r7 with
   | .inl y8 =>
     some (decide ((10:Int)<(p_0.2.2.2.2.1.length:Int)))
   | .inr y8' =>
     some y8'
 | .inr y4' =>
   some y4'
def u74_:Str→Option (List Str):=fun s_0 =>
 bif (eqS s_0 ([]:Str)) then
  some ([]:List Str)
 else
  (strings_Split (s_0,([47]:Str))).bind fun r1 =>
  some r1
def ub2t_ (next:Bool×(List Str)×Int×Int→Option YY28):Bool×(List Str)×Int×Int→Option YY28:=fun (dots_1,t7,t8,t9) =>
 bif (decide (t9<t8)) then
  (at? t7 t9).bind fun y1 =>
  bif ((eqS y1 ([]:Str))||(dots_1&&((eqS y1 ([46]:Str))||(eqS y1 ([46,46]:Str))))) then
   some (.inr true)
  else
   next (dots_1,t7,t8,(IntKind.i64.wrap (t9+(1:Int))))
 else
  some (.inl ())
def ubge_:Bool×(List Str)×Int×Int→Option YY28:=loopN ub2t_ fuel
def ubdy_:(List Str)×Bool→Option (Bool):=fun (l_0,dots_1) =>
 (ubge_ (dots_1,l_0,(l_0.length:Int),(0:Int))).bind fun r3 =>
 match r3 with
 | .inl y4 =>
   some (decide ((10:Int)<(l_0.length:Int)))
 | .inr y4' =>
   some y4'
def ubkq_:Int×Bool→Option (Bool):=fun (c_0,first_1) =>
 bif ((decide ((97:Int)≤c_0))&&(decide (c_0≤(122:Int)))) then
  some true
 else
  some ((!first_1)&&(((((decide ((48:Int)≤c_0))&&(decide (c_0≤(57:Int))))||(eqI c_0 (46:Int)))||(eqI c_0 (45:Int)))||(eqI c_0 (95:Int))))
def ubo4_ (next:Str×Int×Int→Option YY28):Str×Int×Int→Option YY28:=fun (s_0,t5,t6) =>
 bif (decide (t6<t5)) then
  (at? s_0 t6).bind fun b1 =>
  (ubkq_ ((b1.toNat:Int),(eqI t6 (0:Int)))).bind fun r2 =>
  bif (!r2) then
   some (.inr false)
  else
   next (s_0,t5,(IntKind.i64.wrap (t6+(1:Int))))
 else
  some (.inl ())
def u1s_:Str×Int×Int→Option YY28:=loopN ubo4_ fuel
def ubbj_:Str→Option (Bool):=fun s_0 =>
 (u1s_ (s_0,(s_0.length:Int),(0:Int))).bind fun r3 =>
 match r3 with
 | .inl y4 =>
   some (!(eqS s_0 ([]:Str)))
 | .inr y4' =>
   some y4'
def ubic_ (next:YY10×YY10×Int×Int→Option YY24):YY10×YY10×Int×Int→Option YY24:=fun (l_0,t5,t6,t7) =>
 bif (decide (t7<t6)) then
  (at? t5 t7).bind fun y1 =>
  (ubbj_ y1.1).bind fun r2 =>
  bif (!r2) then
   some (.inr (8:Int))
  else
   bif (eqS y1.2 ([]:Str)) then
    some (.inr (2:Int))
   else
    (bif (decide ((0:Int)<t7)) then at? l_0 (IntKind.i64.wrap (t7-(1:Int))) else some (([]:Str),([]:Str))).bind fun y3 =>
    bif ((decide ((0:Int)<t7))&&(Op.bytesLess y1.1 y3.1||eqS y1.1 y3.1)) then
     some (.inr (10:Int))
    else
     next (l_0,t5,t6,(IntKind.i64.wrap (t7+(1:Int))))
 else
  some (.inl ())
def uwa_:YY10×YY10×Int×Int→Option YY24:=loopN ubic_ fuel
def u3x_:List (Str×Str)→Option (Int):=fun l_0 =>
 (uwa_ (l_0,l_0,(l_0.length:Int),(0:Int))).bind fun r5 =>
 match r5 with
 | .inl y6 =>
   some (0:Int)
 | .inr y6' =>
   some y6'
def ub8a_ (next:Str×Int×Int→Option YY28):Str×Int×Int→Option YY28:=fun (s_0,t5,t6) =>
 bif (decide (t6<t5)) then
  (at? s_0 t6).bind fun b1 =>
  (bif (!(decide ((b1.toNat:Int)<(32:Int)))) then at? s_0 t6 else some 0).bind fun b2 =>
  bif ((decide ((b1.toNat:Int)<(32:Int)))||(eqI (b2.toNat:Int) (127:Int))) then
   some (.inr true)
  else
   next (s_0,t5,(IntKind.i64.wrap (t6+(1:Int))))
 else
  some (.inl ())
def ubra_:Str×Int×Int→Option YY28:=loopN ub8a_ fuel
def ubsg_:Str→Option (Bool):=fun s_0 =>
 (ubra_ (s_0,(s_0.length:Int),(0:Int))).bind fun r4 =>
 match r4 with
 | .inl y5 =>
   some false
 | .inr y5' =>
   some y5'
def uceu_ (next:(List Str)×Int×Int→Option YY24):(List Str)×Int×Int→Option YY24:=fun (t75,t76,t77) =>
 bif (decide (t77<t76)) then
  (at? t75 t77).bind fun y13 =>
  (ubsg_ y13).bind fun r14 =>
  bif r14 then
   some (.inr (8:Int))
  else
   next (t75,t76,(IntKind.i64.wrap (t77+(1:Int))))
 else
  some (.inl ())
def ub10_:(List Str)×Int×Int→Option YY24:=loopN uceu_ fuel
def ucb4_ (next:YY10×Int×Int→Option YY24):YY10×Int×Int→Option YY24:=fun (t85,t86,t87) =>
 bif (decide (t87<t86)) then
  (at? t85 t87).bind fun y17 =>
  (ubsg_ y17.2).bind fun r18 =>
  bif r18 then
   some (.inr (8:Int))
  else
   next (t85,t86,(IntKind.i64.wrap (t87+(1:Int))))
 else
  some (.inl ())
def ubvr_:YY10×Int×Int→Option YY24:=loopN ucb4_ fuel
def ubvs_:Str×Str×Str×Str×YY10×Str→Option (Int):=fun p_0 =>
 (ucb3_ p_0.1).bind fun r1 =>
 bif (!(eqI r1.2 (0:Int))) then
  some r1.2
 else
  (ucim_ p_0).bind fun r2 =>
  bif r2 then
   some (3:Int)
  else
   bif (((!(eqS p_0.2.1 ([]:Str)))&&(eqI r1.1.2.1 (1:Int)))||((eqS p_0.2.1 ([]:Str))&&(eqI r1.1.2.1 (3:Int)))) then
    some (2:Int)
   else
    (u74_ p_0.2.1).bind fun r5 =>
    (ubdy_ (r5,false)).bind fun r6 =>
    bif r6 then
     some (2:Int)
    else
     (bif (!(eqS p_0.2.2.1 ([]:Str))) then strings_IndexByte (p_0.2.2.1,(47:Int)) else some (0:Int)).bind fun r7 =>
     bif ((eqS p_0.2.2.1 ([]:Str))||(decide ((0:Int)≤r7))) then
      some (8:Int)
     else
      (u3x_ p_0.2.2.2.2.1).bind fun r9 =>
      bif (!(eqI r9 (0:Int))) then
       some r9
      else
       (u74_ p_0.2.2.2.2.2).bind fun r10 =>
       (ubdy_ (r10,true)).bind fun r11 =>
       bif r11 then
        some (2:Int)
       else
        let v12:=([p_0.2.1,p_0.2.2.1,p_0.2.2.2.1,p_0.2.2.2.2.2]:List Str)
        (ub10_ (v12,(v12.length:Int),(0:Int))).bind fun r15 =>
        match r15 with
        | .inl y16 =>
          (ubvr_ (p_0.2.2.2.2.1,(p_0.2.2.2.2.1.length:Int),(0:Int))).bind fun r19 =>
          match r19 with
          | .inl y20 =>
            some (0:Int)
          | .inr y20' =>
            some y20'
        | .inr y16' =>
          some y16'
def ucgr_:Int→Option (Int):=fun c_0 =>
 bif ((decide ((48:Int)≤c_0))&&(decide (c_0≤(57:Int)))) then
  some (IntKind.i64.wrap (IntKind.u8.wrap (c_0-(48:Int))))
 else
  bif ((decide ((97:Int)≤c_0))&&(decide (c_0≤(102:Int)))) then
   some (IntKind.i64.wrap ((IntKind.i64.wrap (IntKind.u8.wrap (c_0-(97:Int))))+(10:Int)))
  else
   bif ((decide ((65:Int)≤c_0))&&(decide (c_0≤(70:Int)))) then
    some (IntKind.i64.wrap ((IntKind.i64.wrap (IntKind.u8.wrap (c_0-(65:Int))))+(10:Int)))
   else
    some (-1:Int)
def ucev_ (next:Str×Int×Int→Option YY28):Str×Int×Int→Option YY28:=fun (s_0,t7,t8) =>
 bif (decide (t8<t7)) then
  (at? s_0 t8).bind fun b1 =>
  (ucgr_ (b1.toNat:Int)).bind fun r2 =>
  (bif (!(decide (r2<(0:Int)))) then at? s_0 t8 else some 0).bind fun b3 =>
  (bif ((!(decide (r2<(0:Int))))&&(decide ((65:Int)≤(b3.toNat:Int)))) then at? s_0 t8 else some 0).bind fun b4 =>
  bif ((decide (r2<(0:Int)))||((decide ((65:Int)≤(b3.toNat:Int)))&&(decide ((b4.toNat:Int)≤(70:Int))))) then
   some (.inr false)
  else
   next (s_0,t7,(IntKind.i64.wrap (t8+(1:Int))))
 else
  some (.inl ())
def ub11_:Str×Int×Int→Option YY28:=loopN ucev_ fuel
def ucew_:Str×Int→Option (Bool):=fun (s_0,n_1) =>
 (ub11_ (s_0,(s_0.length:Int),(0:Int))).bind fun r6 =>
 match r6 with
 | .inl y7 =>
   some (eqI (s_0.length:Int) n_1)
 | .inr y7' =>
   some y7'
def u3y_:Int×Bool→Option (Int):=fun (n_5,t18) =>
 bif t18 then
  some (16:Int)
 else
  some n_5
def ubsh_ (next:YY10×YY10×Int×Int→Option YY24):YY10×YY10×Int×Int→Option YY24:=fun (l_0,t9,t10,t11) =>
 bif (decide (t11<t10)) then
  (at? t9 t11).bind fun y1 =>
  (u3y_ ((64:Int),(eqS y1.1 ([115,117,109,54,52]:Str)))).bind fun r2 =>
  bif ((!(eqS y1.1 ([115,104,97,50,53,54]:Str)))&&(!(eqS y1.1 ([115,117,109,54,52]:Str)))) then
   some (.inr (7:Int))
  else
   (ucew_ (y1.2,r2)).bind fun r4 =>
   bif (!r4) then
    some (.inr (2:Int))
   else
    (bif (decide ((0:Int)<t11)) then at? l_0 (IntKind.i64.wrap (t11-(1:Int))) else some (([]:Str),([]:Str))).bind fun y5 =>
    bif ((decide ((0:Int)<t11))&&(Op.bytesLess y1.1 y5.1||eqS y1.1 y5.1)) then
     some (.inr (10:Int))
    else
     next (l_0,t9,t10,(IntKind.i64.wrap (t11+(1:Int))))
 else
  some (.inl ())
def u3z_:YY10×YY10×Int×Int→Option YY24:=loopN ubsh_ fuel
def ubgf_:List (Str×Str)→Option (Int):=fun l_0 =>
 bif (decide ((4:Int)<(l_0.length:Int))) then
  some (3:Int)
 else
  (u3z_ (l_0,l_0,(l_0.length:Int),(0:Int))).bind fun r7 =>
  match r7 with
  | .inl y8 =>
    some (0:Int)
  | .inr y8' =>
    some y8'
def ubsi_ (next:(List Str)×YY32×(List Str)×Int×Int→Option YY24):(List Str)×YY32×(List Str)×Int×Int→Option YY24:=fun (l_1,k_2,t10,t11,t12) =>
 bif (decide (t12<t11)) then
  (at? t10 t12).bind fun y1 =>
  (ubkp_ (y1,(200:Int))).bind fun r2 =>
  bif (!r2) then
   some (.inr (8:Int))
  else
   (bif ((!k_2.1)&&(decide ((0:Int)<t12))) then at? l_1 (IntKind.i64.wrap (t12-(1:Int))) else some ([]:Str)).bind fun y3 =>
   bif (((!k_2.1)&&(decide ((0:Int)<t12)))&&(Op.bytesLess y1 y3||eqS y1 y3)) then
    some (.inr (10:Int))
   else
    next (l_1,k_2,t10,t11,(IntKind.i64.wrap (t12+(1:Int))))
 else
  some (.inl ())
def u30_:(List Str)×YY32×(List Str)×Int×Int→Option YY24:=loopN ubsi_ fuel
def ubgg_:YY32×(List Str)→Option (Int):=fun (k_0,l_1) =>
 bif (decide ((100:Int)<(l_1.length:Int))) then
  some (3:Int)
 else
  (u30_ (l_1,k_0,l_1,(l_1.length:Int),(0:Int))).bind fun r5 =>
  match r5 with
  | .inl y6 =>
    some (0:Int)
  | .inr y6' =>
    some y6'
def ubdz_ (next:YY2×Int×Int→Option (Sum YY2 (Int))):YY2×Int×Int→Option (Sum YY2 (Int)):=fun (c_3,t29,t30) =>
 bif (decide (t30<t29)) then
  (at? c_3.2.2.2.1 t30).bind fun b4 =>
  (bif (!(decide ((b4.toNat:Int)<(32:Int)))) then at? c_3.2.2.2.1 t30 else some 0).bind fun b5 =>
  bif ((decide ((b4.toNat:Int)<(32:Int)))||(decide ((126:Int)<(b5.toNat:Int)))) then
   some (.inr (2:Int))
  else
   next (c_3,t29,(IntKind.i64.wrap (t30+(1:Int))))
 else
  some (.inl c_3)
def utt_:YY2×Int×Int→Option (Sum YY2 (Int)):=loopN ubdz_ fuel
def u1t_:YY32×YY2→Option (Int):=fun (k_0,c_1) =>
 (ubkp_ (c_1.1,(100:Int))).bind fun r1 =>
 bif (!r1) then
  some (8:Int)
 else
  (ubvs_ c_1.2.1).bind fun r2 =>
  bif (!(eqI r2 (0:Int))) then
   some r2
  else
   (ubgf_ c_1.2.2.1).bind fun r3 =>
   bif (!(eqI r3 (0:Int))) then
    some r3
   else
    (utt_ (c_1,(c_1.2.2.2.1.length:Int),(0:Int))).bind fun r7 =>
    match r7 with
    | .inl y8 =>
      bif (!(eqS y8.2.2.2.1 ([]:Str))) then
       none
      else
       (ubgg_ (k_0,y8.2.2.2.2)).bind fun r9 =>
       some r9
    | .inr y8' =>
      some y8'
def ubvt_:YY16×YY16→Option (Int):=fun (a_0,b_1) =>
 (ubx_ (a_0.1,b_1.1)).bind fun r1 =>
 (ubx_ (a_0.2.1,b_1.2.1)).bind fun r2 =>
 (ude_ (a_0.2.2,b_1.2.2)).bind fun r3 =>
 (uy5_ ([r1,r2,r3]:List Int)).bind fun r4 =>
 some r4
def ubsj_ (next:(List YY16)×YY32×(List YY16)×Int×Int→Option YY24):(List YY16)×YY32×(List YY16)×Int×Int→Option YY24:=fun (l_1,k_2,t7,t8,t9) =>
 bif (decide (t9<t8)) then
  (at? t7 t9).bind fun y1 =>
  bif ((decide (y1.2.2<(1:Int)))||(decide ((4:Int)<y1.2.2))) then
   some (.inr (9:Int))
  else
   bif ((!((uck_ eqS y1.1 k_2.2).getD false))||(!((uck_ eqS y1.2.1 k_2.2).getD false))) then
    some (.inr (4:Int))
   else
    bif (eqS y1.1 y1.2.1) then
     some (.inr (2:Int))
    else
     (bif ((!k_2.1)&&(decide ((0:Int)<t9))) then at? l_1 (IntKind.i64.wrap (t9-(1:Int))) else some (([]:Str),(([]:Str),(0:Int)))).bind fun y4 =>
     (bif ((!k_2.1)&&(decide ((0:Int)<t9))) then ubvt_ (y4,y1) else some (0:Int)).bind fun r5 =>
     bif (((!k_2.1)&&(decide ((0:Int)<t9)))&&(decide ((0:Int)≤r5))) then
      some (.inr (10:Int))
     else
      next (l_1,k_2,t7,t8,(IntKind.i64.wrap (t9+(1:Int))))
 else
  some (.inl ())
def u31_:(List YY16)×YY32×(List YY16)×Int×Int→Option YY24:=loopN ubsj_ fuel
def ubgh_:YY32×(List YY16)→Option (Int):=fun (k_0,l_1) =>
 (u31_ (l_1,k_0,l_1,(l_1.length:Int),(0:Int))).bind fun r7 =>
 match r7 with
 | .inl y8 =>
   some (0:Int)
 | .inr y8' =>
   some y8'
def ubvu_ (next:YY32×YY9×(List YY2)×Int×Int→Option (Sum (YY32×YY9) (Int))):YY32×YY9×(List YY2)×Int×Int→Option (Sum (YY32×YY9) (Int)):=fun (k_2,b_3,t36,t37,t38) =>
 bif (decide (t38<t37)) then
  (at? t36 t38).bind fun y4 =>
  (u1t_ ((k_2.1,k_2.2),y4)).bind fun r5 =>
  bif (!(eqI r5 (0:Int))) then
   some (.inr r5)
  else
   (bif ((!k_2.1)&&(decide ((0:Int)<t38))) then at? b_3.2.2.2.1 (IntKind.i64.wrap (t38-(1:Int))) else some (([]:Str),((([]:Str),(([]:Str),(([]:Str),(([]:Str),(([]:List (Str×Str)),([]:Str)))))),(([]:List (Str×Str)),(([]:Str),([]:List Str)))))).bind fun y6 =>
   bif (((!k_2.1)&&(decide ((0:Int)<t38)))&&(Op.bytesLess y4.1 y6.1||eqS y4.1 y6.1)) then
    some (.inr (10:Int))
   else
    next ((k_2.1,(putKV eqS y4.1 true k_2.2)),b_3,t36,t37,(IntKind.i64.wrap (t38+(1:Int))))
 else
  some (.inl ((k_2.1,k_2.2),b_3))
def u75_:YY32×YY9×(List YY2)×Int×Int→Option (Sum (YY32×YY9) (Int)):=loopN ubvu_ fuel
def ubkr_:YY32×YY9→Option (Int):=fun (k_0,b_1) =>
 (bif (!(eqS b_1.1 ([]:Str))) then ub5j_ b_1.1 else some false).bind fun r1 =>
 (bif (!((eqS b_1.1 ([]:Str))||(!r1))) then ub5j_ b_1.2.1 else some false).bind fun r2 =>
 bif (((eqS b_1.1 ([]:Str))||(!r1))||(!r2)) then
  some (8:Int)
 else
  bif ((decide ((3000:Int)<(b_1.2.2.2.1.length:Int)))||(decide ((20000:Int)<(b_1.2.2.2.2.length:Int)))) then
   some (3:Int)
  else
   (u75_ ((k_0.1,k_0.2),b_1,b_1.2.2.2.1,(b_1.2.2.2.1.length:Int),(0:Int))).bind fun r8 =>
   match r8 with
   | .inl y9 =>
     bif (!((uck_ eqS y9.2.2.2.1 y9.1.2).getD false)) then
      some (4:Int)
     else
      (ubgh_ ((y9.1.1,y9.1.2),y9.2.2.2.2.2)).bind fun r10 =>
      some r10
   | .inr y9' =>
     some y9'
def ub4q_:Str×Str×Str×(List YY2)×(List YY16)→Option (Int):=fun b_0 =>
 (ubkr_ ((false,([]:List (Str×Bool))),b_0)).bind fun r1 =>
 some r1
def ub5o_ (next:Str×Int×Int→Option YY28):Str×Int×Int→Option YY28:=fun (s_0,t6,t7) =>
 bif (decide (t7<t6)) then
  (at? s_0 t7).bind fun b1 =>
  bif (!(((((((decide ((97:Int)≤(b1.toNat:Int)))&&(decide ((b1.toNat:Int)≤(122:Int))))||((decide ((65:Int)≤(b1.toNat:Int)))&&(decide ((b1.toNat:Int)≤(90:Int)))))||((decide ((48:Int)≤(b1.toNat:Int)))&&(decide ((b1.toNat:Int)≤(57:Int)))))||(eqI (b1.toNat:Int) (46:Int)))||(eqI (b1.toNat:Int) (45:Int)))||(eqI (b1.toNat:Int) (95:Int)))) then
   some (.inr false)
  else
   next (s_0,t6,(IntKind.i64.wrap (t7+(1:Int))))
 else
  some (.inl ())
def ubks_:Str×Int×Int→Option YY28:=loopN ub5o_ fuel
def u76_:Str→Option (Bool):=fun s_0 =>
 (ubks_ (s_0,(s_0.length:Int),(0:Int))).bind fun r6 =>
 match r6 with
 | .inl y7 =>
   some ((!(eqS s_0 ([]:Str)))&&(decide ((s_0.length:Int)≤(60:Int))))
 | .inr y7' =>
   some y7'
def ubd0_ (next:YY3×(List Str)×Int×Int→Option YY24):YY3×(List Str)×Int×Int→Option YY24:=fun (a_1,t10,t11,t12) =>
 bif (decide (t12<t11)) then
  (at? t10 t12).bind fun y1 =>
  (u76_ y1).bind fun r2 =>
  bif (!r2) then
   some (.inr (8:Int))
  else
   bif (eqS y1 a_1.1) then
    some (.inr (5:Int))
   else
    (bif (decide ((0:Int)<t12)) then at? a_1.2.1 (IntKind.i64.wrap (t12-(1:Int))) else some ([]:Str)).bind fun y3 =>
    bif ((decide ((0:Int)<t12))&&(Op.bytesLess y1 y3||eqS y1 y3)) then
     some (.inr (10:Int))
    else
     next (a_1,t10,t11,(IntKind.i64.wrap (t12+(1:Int))))
 else
  some (.inl ())
def utu_:YY3×(List Str)×Int×Int→Option YY24:=loopN ubd0_ fuel
def u1u_:Str×(List Str)×Str×Int×Bool×Str×(List YY14)→Option (Int):=fun a_0 =>
 bif (decide ((20:Int)<(a_0.2.1.length:Int))) then
  some (3:Int)
 else
  (utu_ (a_0,a_0.2.1,(a_0.2.1.length:Int),(0:Int))).bind fun r5 =>
  match r5 with
  | .inl y6 =>
    some (0:Int)
  | .inr y6' =>
    some y6'
def ubkt_:Unit→Option (List YY36):=fun _ =>
 let v1:=(putKV eqI (76:Int) (22:Int) (putKV eqI (72:Int) (56:Int) ([]:List (Int×Int))))
 some ([(putKV eqI (80:Int) (20:Int) (putKV eqI (76:Int) (55:Int) (putKV eqI (65:Int) (62:Int) (putKV eqI (78:Int) (85:Int) ([]:List (Int×Int)))))),(putKV eqI (72:Int) (44:Int) (putKV eqI (76:Int) (77:Int) ([]:List (Int×Int)))),(putKV eqI (72:Int) (27:Int) (putKV eqI (76:Int) (62:Int) (putKV eqI (78:Int) (85:Int) ([]:List (Int×Int))))),(putKV eqI (78:Int) (0:Int) v1),(putKV eqI (78:Int) (0:Int) v1),(putKV eqI (78:Int) (0:Int) v1)]:List YY36)
def ub2u_ (next:Str×(List Int)×(List YY36)×Int→Option (Sum (List Int) (Int×Int))):Str×(List Int)×(List YY36)×Int→Option (Sum (List Int) (Int×Int)):=fun (vector_0,w_5,t16,t17) =>
 bif (decide (t17<(6:Int))) then
  (at? t16 t17).bind fun y2 =>
  (at? vector_0 t17).bind fun b3 =>
  bif (!(uck_ eqI (b3.toNat:Int) y2).isSome) then
   some (.inr ((0:Int),(7:Int)))
  else
   (in? 6 t17).bind fun _ =>
   next (vector_0,(w_5.set t17.toNat ((uck_ eqI (b3.toNat:Int) y2).getD (0:Int))),t16,(IntKind.i64.wrap (t17+(1:Int))))
 else
  some (.inl w_5)
def ubgi_:Str×(List Int)×(List YY36)×Int→Option (Sum (List Int) (Int×Int)):=loopN ub2u_ fuel
def ubd1_:Str→Option (Int×Int):=fun vector_0 =>
 (ubkt_ ()).bind fun r1 =>
 bif (!(eqI (vector_0.length:Int) (6:Int))) then
  some ((0:Int),(2:Int))
 else
  (ubgi_ (vector_0,(List.replicate 6 (0:Int)),r1,(0:Int))).bind fun r4 =>
  match r4 with
  | .inl y5 =>
    let v7:=(IntKind.i64.wrap ((IntKind.i64.wrap ((IntKind.i64.wrap ((100:Int)-(y5.getD 3 (0:Int))))*(IntKind.i64.wrap ((100:Int)-(y5.getD 4 (0:Int))))))*(IntKind.i64.wrap ((100:Int)-(y5.getD 5 (0:Int))))))
    bif (eqI (IntKind.i64.wrap ((1000000:Int)-v7)) (0:Int)) then
     some ((0:Int),(0:Int))
    else
     (div? IntKind.i64 (IntKind.i64.wrap ((IntKind.i64.wrap ((IntKind.i64.wrap ((10:Int)*(IntKind.i64.wrap ((IntKind.i64.wrap ((642:Int)*(IntKind.i64.wrap ((1000000:Int)-v7))))+(IntKind.i64.wrap ((IntKind.i64.wrap ((IntKind.i64.wrap ((822:Int)*(y5.getD 0 (0:Int))))*(y5.getD 1 (0:Int))))*(y5.getD 2 (0:Int))))))))+(100000000:Int)))-(1:Int))) (100000000:Int)).bind fun q12 =>
     some ((minI (100:Int) q12),(0:Int))
  | .inr y5' =>
    some (y5'.1,y5'.2)
def ucex_ (next:(List Int)×Int×Int→Option (List Int)):(List Int)×Int×Int→Option (List Int):=fun (b_3,t9,t10) =>
 bif (decide (t10<t9)) then
  (in? b_3.length t10).bind fun _ =>
  bif ((decide ((65:Int)≤(b_3.getD t10.toNat (0:Int))))&&(decide ((b_3.getD t10.toNat (0:Int))≤(90:Int)))) then
   (in? b_3.length t10).bind fun _ =>
   next ((b_3.set t10.toNat (IntKind.u8.wrap ((IntKind.u8.wrap ((b_3.getD t10.toNat (0:Int))+(97:Int)))-(65:Int)))),t9,(IntKind.i64.wrap (t10+(1:Int))))
  else
   next (b_3,t9,(IntKind.i64.wrap (t10+(1:Int))))
 else
  some b_3
def ub12_:(List Int)×Int×Int→Option (List Int):=loopN ucex_ fuel
def ubku_:Str→Option Str:=fun s_0 =>
 (ub12_ ((udy_ s_0),((udy_ s_0).length:Int),(0:Int))).bind fun r3 =>
 (cat? [] (strOf r3)).bind fun s4 =>
 some s4
def ug8_:YY20×Int→Option YY20:=fun (r_0,at_1) =>
 bif (decide (r_0.2.2<(0:Int))) then
  some (r_0.1,(r_0.2.1,at_1))
 else
  some r_0
def ufm_:Option YY20→Option (Int):=fun r_0 =>
 (r_0).bind fun p1 =>
 (r_0).bind fun p2 =>
 bif (decide (p1.2.1<(p2.1.length:Int))) then
  (r_0).bind fun p3 =>
  (r_0).bind fun p4 =>
  (at? p3.1 p4.2.1).bind fun b5 =>
  some (b5.toNat:Int)
 else
  some (0:Int)
def ubkv_:Int→Option (Bool):=fun c_0 =>
 some (((decide ((97:Int)≤c_0))&&(decide (c_0≤(122:Int))))||((decide ((65:Int)≤c_0))&&(decide (c_0≤(90:Int)))))
def ubvv_ (next:YY20×Int→Option (Sum YY20 (YY20×Str))):YY20×Int→Option (Sum YY20 (YY20×Str)):=fun (r_0,t7) =>
 bif (decide (t7<(4:Int))) then
  (bif (!(decide ((r_0.1.length:Int)≤t7))) then cut? r_0.1 t7 (IntKind.i64.wrap (t7+(1:Int))) else some ([]:Str)).bind fun s1 =>
  (bif (!(decide ((r_0.1.length:Int)≤t7))) then ubku_ s1 else some ([]:Str)).bind fun r2 =>
  (bif (!(decide ((r_0.1.length:Int)≤t7))) then cut? ([112,107,103,58]:Str) t7 (IntKind.i64.wrap (t7+(1:Int))) else some ([]:Str)).bind fun s3 =>
  bif ((decide ((r_0.1.length:Int)≤t7))||(!(eqS r2 s3))) then
   (ug8_ (r_0,t7)).bind fun r4 =>
   some (.inr (r4,([]:Str)))
  else
   next (r_0,(IntKind.i64.wrap (t7+(1:Int))))
 else
  some (.inl r_0)
def u77_:YY20×Int→Option (Sum YY20 (YY20×Str)):=loopN ubvv_ fuel
def ubvw_ (next:Str×Int×Int→Option YY20):Str×Int×Int→Option YY20:=fun r_0 =>
 (bif (decide (r_0.2.1<(r_0.1.length:Int))) then at? r_0.1 r_0.2.1 else some 0).bind fun b8 =>
 (bif (decide (r_0.2.1<(r_0.1.length:Int))) then ubkv_ (b8.toNat:Int) else some false).bind fun r9 =>
 bif ((decide (r_0.2.1<(r_0.1.length:Int)))&&r9) then
  next (r_0.1,((IntKind.i64.wrap (r_0.2.1+(1:Int))),r_0.2.2))
 else
  some r_0
def u78_:Str×Int×Int→Option YY20:=loopN ubvw_ fuel
def u79_:YY20×Bool→Option YY20:=fun (r_0,t45) =>
 bif t45 then
  some (r_0.1,((IntKind.i64.wrap (r_0.2.1+(1:Int))),r_0.2.2))
 else
  (u78_ r_0).bind fun r10 =>
  some r10
def ubkw_:YY20×Bool→Option (Str×YY20):=fun (r_0,star_1) =>
 (u77_ (r_0,(0:Int))).bind fun r5 =>
 match r5 with
 | .inl y6 =>
   (bif star_1 then ufm_ (some (y6.1,((4:Int),y6.2.2))) else some (0:Int)).bind fun r7 =>
   (u79_ ((y6.1,((4:Int),y6.2.2)),(star_1&&(eqI r7 (42:Int))))).bind fun r11 =>
   (cut? r11.1 (4:Int) r11.2.1).bind fun s12 =>
   (bif (!(eqS s12 ([]:Str))) then ufm_ (some r11) else some (0:Int)).bind fun r13 =>
   bif ((eqS s12 ([]:Str))||(!(eqI r13 (47:Int)))) then
    (ug8_ (r11,r11.2.1)).bind fun r14 =>
    some (([]:Str),r14)
   else
    (ubku_ s12).bind fun r15 =>
    some (r15,(r11.1,((IntKind.i64.wrap (r11.2.1+(1:Int))),r11.2.2)))
 | .inr y6' =>
   some (y6'.2,y6'.1)
def u32_:YY20×Int×Int×Bool→Option (YY20×Int):=fun (r_0,i_6,d_7,t63) =>
 bif t63 then
  (at? r_0.1 (IntKind.i64.wrap (r_0.2.1+i_6))).bind fun b5 =>
  (ucgr_ (b5.toNat:Int)).bind fun r6 =>
  some (r_0,r6)
 else
  some (r_0,d_7)
def ubsk_ (next:YY20×Int×Int→Option (Sum (YY20×Int) (YY20×Int×Bool))):YY20×Int×Int→Option (Sum (YY20×Int) (YY20×Int×Bool)):=fun (r_0,n_5,i_6) =>
 bif (decide (i_6≤(2:Int))) then
  (u32_ (r_0,i_6,(-1:Int),(decide ((IntKind.i64.wrap (r_0.2.1+i_6))<(r_0.1.length:Int))))).bind fun r7 =>
  bif (decide (r7.2<(0:Int))) then
   (ug8_ (r7.1,(IntKind.i64.wrap (r7.1.2.1+i_6)))).bind fun r8 =>
   some (.inr (r8,(0:Int),false))
  else
   next (r7.1,(IntKind.i64.wrap ((IntKind.i64.wrap ((16:Int)*n_5))+r7.2)),(IntKind.i64.wrap (i_6+(1:Int))))
 else
  some (.inl (r_0,n_5))
def u33_:YY20×Int×Int→Option (Sum (YY20×Int) (YY20×Int×Bool)):=loopN ubsk_ fuel
def ubgj_:Str×Int×Int→Option (Int×Bool×YY20):=fun r_0 =>
 bif (decide ((r_0.1.length:Int)≤r_0.2.1)) then
  some ((0:Int),false,r_0)
 else
  (at? r_0.1 r_0.2.1).bind fun b1 =>
  bif (!(eqI (b1.toNat:Int) (37:Int))) then
   let v2:=((decide ((b1.toNat:Int)<(33:Int)))||(decide ((126:Int)<(b1.toNat:Int))))
   (bif (!v2) then strings_IndexByte (([47,64,63,35,38,61]:Str),(b1.toNat:Int)) else some (0:Int)).bind fun r3 =>
   bif (v2||(decide ((0:Int)≤r3))) then
    some ((0:Int),false,r_0)
   else
    some ((b1.toNat:Int),true,(r_0.1,((IntKind.i64.wrap (r_0.2.1+(1:Int))),r_0.2.2)))
  else
   (u33_ (r_0,(0:Int),(1:Int))).bind fun r10 =>
   match r10 with
   | .inl y11 =>
     some ((IntKind.u8.wrap y11.2),true,(y11.1.1,((IntKind.i64.wrap (y11.1.2.1+(3:Int))),y11.1.2.2)))
   | .inr y11' =>
     some (y11'.2.1,y11'.2.2,y11'.1)
def ubvx_ (next:YY20×(List Int)→Option (YY20×(List Int))):YY20×(List Int)→Option (YY20×(List Int)):=fun (r_0,b_3) =>
 bif (decide (r_0.2.2<(0:Int))) then
  (ubgj_ r_0).bind fun r1 =>
  bif (!r1.2.1) then
   some (r1.2.2,b_3)
  else
   (app? 24 b_3 ([r1.1]:List Int)).bind fun l2 =>
   next (r1.2.2,l2)
 else
  some (r_0,b_3)
def u8a_:YY20×(List Int)→Option (YY20×(List Int)):=loopN ubvx_ fuel
def unx_:Str×Int×Int→Option (Str×YY20):=fun r_0 =>
 (u8a_ (r_0,([]:List Int))).bind fun r3 =>
 bif (eqI (r3.2.length:Int) (0:Int)) then
  (ug8_ (r3.1,r3.1.2.1)).bind fun r4 =>
  (cat? [] (strOf r3.2)).bind fun s5 =>
  some (s5,r4)
 else
  (cat? [] (strOf r3.2)).bind fun s6 =>
  some (s6,r3.1)
def ubsl_ (next:YY20×(List Str)→Option (YY20×(List Str))):YY20×(List Str)→Option (YY20×(List Str)):=fun (r_0,l_3) =>
 (bif (decide (r_0.2.2<(0:Int))) then ufm_ (some r_0) else some (0:Int)).bind fun r2 =>
 bif ((decide (r_0.2.2<(0:Int)))&&(eqI r2 (47:Int))) then
  (unx_ (r_0.1,((IntKind.i64.wrap (r_0.2.1+(1:Int))),r_0.2.2))).bind fun r3 =>
  (app? 24 l_3 ([r3.1]:List Str)).bind fun l4 =>
  next (r3.2,l4)
 else
  some (r_0,l_3)
def u34_:YY20×(List Str)→Option (YY20×(List Str)):=loopN ubsl_ fuel
def u00_:Str×Int×Int→Option ((List Str)×YY20):=fun r_0 =>
 (unx_ r_0).bind fun r1 =>
 (u34_ (r1.2,([r1.1]:List Str))).bind fun r5 =>
 some (r5.2,r5.1)
def ubd2_ (next:YY20×Int→Option YY20):YY20×Int→Option YY20:=fun (r_0,from_3) =>
 (bif (decide (r_0.2.1<(r_0.1.length:Int))) then at? r_0.1 r_0.2.1 else some 0).bind fun b1 =>
 (bif (decide (r_0.2.1<(r_0.1.length:Int))) then ubkq_ ((b1.toNat:Int),(eqI r_0.2.1 from_3)) else some false).bind fun r2 =>
 bif ((decide (r_0.2.1<(r_0.1.length:Int)))&&r2) then
  next ((r_0.1,((IntKind.i64.wrap (r_0.2.1+(1:Int))),r_0.2.2)),from_3)
 else
  some r_0
def utv_:YY20×Int→Option YY20:=loopN ubd2_ fuel
def u1v_:Str×Int×Int→Option ((Str×Str)×YY20):=fun r_0 =>
 (utv_ (r_0,r_0.2.1)).bind fun r3 =>
 (cut? r3.1 r_0.2.1 r3.2.1).bind fun s4 =>
 (bif (!(eqS s4 ([]:Str))) then ufm_ (some r3) else some (0:Int)).bind fun r5 =>
 bif ((eqS s4 ([]:Str))||(!(eqI r5 (61:Int)))) then
  (ug8_ (r3,r3.2.1)).bind fun r6 =>
  some ((([]:Str),([]:Str)),r6)
 else
  (unx_ (r3.1,((IntKind.i64.wrap (r3.2.1+(1:Int))),r3.2.2))).bind fun r7 =>
  some ((s4,r7.1),r7.2)
def u8b_:YY20×YY25×Bool→Option (YY20×YY25):=fun (r_0,p_3,t40) =>
 bif t40 then
  (unx_ (r_0.1,((IntKind.i64.wrap (r_0.2.1+(1:Int))),r_0.2.2))).bind fun r7 =>
  some (r7.2,(p_3.1,(p_3.2.1,(p_3.2.2.1,(r7.1,(p_3.2.2.2.2.1,p_3.2.2.2.2.2))))))
 else
  some (r_0,(p_3.1,(p_3.2.1,(p_3.2.2.1,(p_3.2.2.2.1,(p_3.2.2.2.2.1,p_3.2.2.2.2.2))))))
def ubvy_ (next:YY20×YY25×Int→Option (YY20×YY25)):YY20×YY25×Int→Option (YY20×YY25):=fun (r_0,p_3,sign_5) =>
 let v9:=((decide (r_0.2.2<(0:Int)))&&(decide (r_0.2.1<(r_0.1.length:Int))))
 (bif v9 then ufm_ (some r_0) else some (0:Int)).bind fun r10 =>
 bif (v9&&(eqI r10 sign_5)) then
  (u1v_ (r_0.1,((IntKind.i64.wrap (r_0.2.1+(1:Int))),r_0.2.2))).bind fun r11 =>
  (app? 48 p_3.2.2.2.2.1 ([r11.1]:List (Str×Str))).bind fun l12 =>
  next (r11.2,(p_3.1,(p_3.2.1,(p_3.2.2.1,(p_3.2.2.2.1,(l12,p_3.2.2.2.2.2))))),(38:Int))
 else
  some (r_0,(p_3.1,(p_3.2.1,(p_3.2.2.1,(p_3.2.2.2.1,(p_3.2.2.2.2.1,p_3.2.2.2.2.2))))))
def u8c_:YY20×YY25×Int→Option (YY20×YY25):=loopN ubvy_ fuel
def u8d_:YY20×YY25×Bool→Option (YY20×YY25):=fun (r_0,p_3,t97) =>
 bif t97 then
  (u00_ (r_0.1,((IntKind.i64.wrap (r_0.2.1+(1:Int))),r_0.2.2))).bind fun r15 =>
  (strings_Join (r15.1,([47]:Str))).bind fun r16 =>
  some (r15.2,(p_3.1,(p_3.2.1,(p_3.2.2.1,(p_3.2.2.2.1,(p_3.2.2.2.2.1,r16))))))
 else
  some (r_0,(p_3.1,(p_3.2.1,(p_3.2.2.1,(p_3.2.2.2.1,(p_3.2.2.2.2.1,p_3.2.2.2.2.2))))))
def ubkx_:Str×Int×Int→Option (YY25×YY20):=fun r_0 =>
 (ubkw_ (r_0,false)).bind fun r1 =>
 bif (decide ((0:Int)≤r1.2.2.2)) then
  some ((r1.1,(([]:Str),(([]:Str),(([]:Str),(([]:List (Str×Str)),([]:Str)))))),r1.2)
 else
  (u00_ r1.2).bind fun r2 =>
  (cut? r2.1 (0:Int) (IntKind.i64.wrap ((r2.1.length:Int)-(1:Int)))).bind fun s3 =>
  (strings_Join (s3,([47]:Str))).bind fun r4 =>
  (at? r2.1 (IntKind.i64.wrap ((r2.1.length:Int)-(1:Int)))).bind fun y5 =>
  (bif (decide (r2.2.2.2<(0:Int))) then ufm_ (some r2.2) else some (0:Int)).bind fun r6 =>
  (u8b_ (r2.2,(r1.1,(r4,(y5,(([]:Str),(([]:List (Str×Str)),([]:Str)))))),((decide (r2.2.2.2<(0:Int)))&&(eqI r6 (64:Int))))).bind fun r8 =>
  (u8c_ (r8.1,(r8.2.1,(r8.2.2.1,(r8.2.2.2.1,(r8.2.2.2.2.1,(r8.2.2.2.2.2.1,r8.2.2.2.2.2.2))))),(63:Int))).bind fun r13 =>
  (bif (decide (r13.1.2.2<(0:Int))) then ufm_ (some r13.1) else some (0:Int)).bind fun r14 =>
  (u8d_ (r13.1,(r13.2.1,(r13.2.2.1,(r13.2.2.2.1,(r13.2.2.2.2.1,(r13.2.2.2.2.2.1,r13.2.2.2.2.2.2))))),((decide (r13.1.2.2<(0:Int)))&&(eqI r14 (35:Int))))).bind fun r17 =>
  bif ((decide (r17.1.2.2<(0:Int)))&&(decide (r17.1.2.1<(r17.1.1.length:Int)))) then
   (ug8_ (r17.1,r17.1.2.1)).bind fun r19 =>
   some ((r17.2.1,(r17.2.2.1,(r17.2.2.2.1,(r17.2.2.2.2.1,(r17.2.2.2.2.2.1,r17.2.2.2.2.2.2))))),r19)
  else
   some ((r17.2.1,(r17.2.2.1,(r17.2.2.2.1,(r17.2.2.2.2.1,(r17.2.2.2.2.2.1,r17.2.2.2.2.2.2))))),r17.1)
def uov_ (next:YY10×Int×YY12×Int→Option YY10):YY10×Int×YY12×Int→Option YY10:=fun (data_0,a_1,cmp_3,j_9) =>
 (bif (decide (a_1<j_9)) then in? data_0.length j_9 else some ()).bind fun _ =>
 (bif (decide (a_1<j_9)) then in? data_0.length (IntKind.i64.wrap (j_9-(1:Int))) else some ()).bind fun _ =>
 (bif (decide (a_1<j_9)) then cmp_3 ((data_0.getD j_9.toNat (([]:Str),([]:Str))),(data_0.getD ((IntKind.i64.wrap (j_9-(1:Int))).toNat) (([]:Str),([]:Str)))) else some (0:Int)).bind fun r3 =>
 bif ((decide (a_1<j_9))&&(decide (r3<(0:Int)))) then
  (in? data_0.length (IntKind.i64.wrap (j_9-(1:Int)))).bind fun _ =>
  let v4:=(data_0.getD ((IntKind.i64.wrap (j_9-(1:Int))).toNat) (([]:Str),([]:Str)))
  (in? data_0.length j_9).bind fun _ =>
  (in? data_0.length j_9).bind fun _ =>
  (in? (data_0.set j_9.toNat v4).length (IntKind.i64.wrap (j_9-(1:Int)))).bind fun _ =>
  next (((data_0.set j_9.toNat v4).set ((IntKind.i64.wrap (j_9-(1:Int))).toNat) (data_0.getD j_9.toNat (([]:Str),([]:Str)))),a_1,cmp_3,(IntKind.i64.wrap (j_9-(1:Int))))
 else
  some data_0
def uf1_:YY10×Int×YY12×Int→Option YY10:=loopN uov_ fuel
def uow_ (next:YY10×Int×Int×YY12×Int→Option YY10):YY10×Int×Int×YY12×Int→Option YY10:=fun (data_0,a_1,b_2,cmp_3,i_8) =>
 bif (decide (i_8<b_2)) then
  (uf1_ (data_0,a_1,cmp_3,i_8)).bind fun r7 =>
  next (r7,a_1,b_2,cmp_3,(IntKind.i64.wrap (i_8+(1:Int))))
 else
  some data_0
def uf2_:YY10×Int×Int×YY12×Int→Option YY10:=loopN uow_ fuel
def udo_:YY10×Int×Int×YY12→Option YY10:=fun (data_0,a_1,b_2,cmp_3) =>
 (uf2_ (data_0,a_1,b_2,cmp_3,(IntKind.i64.wrap (a_1+(1:Int))))).bind fun r8 =>
 some r8
def utb_ (next:YY10×Int×Int×Int×Int→Option YY10):YY10×Int×Int×Int×Int→Option YY10:=fun (data_0,a_1,b_2,n_3,i_10) =>
 bif (decide (i_10<n_3)) then
  (in? data_0.length (IntKind.i64.wrap (b_2+i_10))).bind fun _ =>
  let v1:=(data_0.getD ((IntKind.i64.wrap (b_2+i_10)).toNat) (([]:Str),([]:Str)))
  (in? data_0.length (IntKind.i64.wrap (a_1+i_10))).bind fun _ =>
  (in? data_0.length (IntKind.i64.wrap (a_1+i_10))).bind fun _ =>
  (in? (data_0.set ((IntKind.i64.wrap (a_1+i_10)).toNat) v1).length (IntKind.i64.wrap (b_2+i_10))).bind fun _ =>
  next (((data_0.set ((IntKind.i64.wrap (a_1+i_10)).toNat) v1).set ((IntKind.i64.wrap (b_2+i_10)).toNat) (data_0.getD ((IntKind.i64.wrap (a_1+i_10)).toNat) (([]:Str),([]:Str)))),a_1,b_2,n_3,(IntKind.i64.wrap (i_10+(1:Int))))
 else
  some data_0
def uho_:YY10×Int×Int×Int×Int→Option YY10:=loopN utb_ fuel
def uc6_:YY10×Int×Int×Int×YY12→Option YY10:=fun (data_0,a_1,b_2,n_3,cmp_4) =>
 (uho_ (data_0,a_1,b_2,n_3,(0:Int))).bind fun r4 =>
 some r4
def uxu_ (next:YY10×Int×YY12×Int×Int→Option (YY10×Int)):YY10×Int×YY12×Int×Int→Option (YY10×Int):=fun (data_0,m_2,cmp_4,i_10,j_11) =>
 bif (!(eqI i_10 j_11)) then
  bif (decide (j_11<i_10)) then
   (uc6_ (data_0,(IntKind.i64.wrap (m_2-i_10)),m_2,j_11,cmp_4)).bind fun r1 =>
   next (r1,m_2,cmp_4,(IntKind.i64.wrap (i_10-j_11)),j_11)
  else
   (uc6_ (data_0,(IntKind.i64.wrap (m_2-i_10)),(IntKind.i64.wrap ((IntKind.i64.wrap (m_2+j_11))-i_10)),i_10,cmp_4)).bind fun r2 =>
   next (r2,m_2,cmp_4,i_10,(IntKind.i64.wrap (j_11-i_10)))
 else
  some (data_0,i_10)
def ujt_:YY10×Int×YY12×Int×Int→Option (YY10×Int):=loopN uxu_ fuel
def um3_:YY10×Int×Int×Int×YY12→Option YY10:=fun (data_0,a_1,m_2,b_3,cmp_4) =>
 (ujt_ (data_0,m_2,cmp_4,(IntKind.i64.wrap (m_2-a_1)),(IntKind.i64.wrap (b_3-m_2)))).bind fun r3 =>
 (uc6_ (r3.1,(IntKind.i64.wrap (m_2-r3.2)),m_2,r3.2,cmp_4)).bind fun r4 =>
 some r4
def utw_ (slf:YY10×Int×Int×Int×YY12→Option YY10) (next:YY10×Int×YY12×Int×Int→Option (YY10×Int)):YY10×Int×YY12×Int×Int→Option (YY10×Int):=fun (data_0,a_1,cmp_4,i_10,j_11) =>
 bif (decide (i_10<j_11)) then
  (shr? IntKind.u64 (IntKind.u64.wrap (IntKind.i64.wrap (i_10+j_11))) (1:Int)).bind fun n1 =>
  (in? data_0.length (IntKind.i64.wrap n1)).bind fun _ =>
  (in? data_0.length a_1).bind fun _ =>
  (cmp_4 ((data_0.getD ((IntKind.i64.wrap n1).toNat) (([]:Str),([]:Str))),(data_0.getD a_1.toNat (([]:Str),([]:Str))))).bind fun r4 =>
  bif (decide (r4<(0:Int))) then
   next (data_0,a_1,cmp_4,(IntKind.i64.wrap ((IntKind.i64.wrap n1)+(1:Int))),j_11)
  else
   next (data_0,a_1,cmp_4,i_10,(IntKind.i64.wrap n1))
 else
  some (data_0,i_10)
def uie_ (slf:YY10×Int×Int×Int×YY12→Option YY10):YY10×Int×YY12×Int×Int→Option (YY10×Int):=loopN (utw_ slf) fuel
def utx_ (slf:YY10×Int×Int×Int×YY12→Option YY10) (next:YY10×Int×Int→Option YY10):YY10×Int×Int→Option YY10:=fun (data_0,i_10,k_13) =>
 bif (decide (k_13<(IntKind.i64.wrap (i_10-(1:Int))))) then
  (in? data_0.length (IntKind.i64.wrap (k_13+(1:Int)))).bind fun _ =>
  let v6:=(data_0.getD ((IntKind.i64.wrap (k_13+(1:Int))).toNat) (([]:Str),([]:Str)))
  (in? data_0.length k_13).bind fun _ =>
  (in? data_0.length k_13).bind fun _ =>
  (in? (data_0.set k_13.toNat v6).length (IntKind.i64.wrap (k_13+(1:Int)))).bind fun _ =>
  next (((data_0.set k_13.toNat v6).set ((IntKind.i64.wrap (k_13+(1:Int))).toNat) (data_0.getD k_13.toNat (([]:Str),([]:Str)))),i_10,(IntKind.i64.wrap (k_13+(1:Int))))
 else
  some data_0
def uif_ (slf:YY10×Int×Int×Int×YY12→Option YY10):YY10×Int×Int→Option YY10:=loopN (utx_ slf) fuel
def uty_ (slf:YY10×Int×Int×Int×YY12→Option YY10) (next:YY10×Int×YY12×Int×Int→Option (YY10×Int)):YY10×Int×YY12×Int×Int→Option (YY10×Int):=fun (data_0,m_2,cmp_4,i_14,j_15) =>
 bif (decide (i_14<j_15)) then
  (shr? IntKind.u64 (IntKind.u64.wrap (IntKind.i64.wrap (i_14+j_15))) (1:Int)).bind fun n10 =>
  (in? data_0.length m_2).bind fun _ =>
  (in? data_0.length (IntKind.i64.wrap n10)).bind fun _ =>
  (cmp_4 ((data_0.getD m_2.toNat (([]:Str),([]:Str))),(data_0.getD ((IntKind.i64.wrap n10).toNat) (([]:Str),([]:Str))))).bind fun r13 =>
  bif (!(decide (r13<(0:Int)))) then
   next (data_0,m_2,cmp_4,(IntKind.i64.wrap ((IntKind.i64.wrap n10)+(1:Int))),j_15)
  else
   next (data_0,m_2,cmp_4,i_14,(IntKind.i64.wrap n10))
 else
  some (data_0,i_14)
def uig_ (slf:YY10×Int×Int×Int×YY12→Option YY10):YY10×Int×YY12×Int×Int→Option (YY10×Int):=loopN (uty_ slf) fuel
def utc_ (slf:YY10×Int×Int×Int×YY12→Option YY10) (next:YY10×Int×Int→Option YY10):YY10×Int×Int→Option YY10:=fun (data_0,i_14,k_17) =>
 bif (decide (i_14<k_17)) then
  (in? data_0.length (IntKind.i64.wrap (k_17-(1:Int)))).bind fun _ =>
  let v15:=(data_0.getD ((IntKind.i64.wrap (k_17-(1:Int))).toNat) (([]:Str),([]:Str)))
  (in? data_0.length k_17).bind fun _ =>
  (in? data_0.length k_17).bind fun _ =>
  (in? (data_0.set k_17.toNat v15).length (IntKind.i64.wrap (k_17-(1:Int)))).bind fun _ =>
  next (((data_0.set k_17.toNat v15).set ((IntKind.i64.wrap (k_17-(1:Int))).toNat) (data_0.getD k_17.toNat (([]:Str),([]:Str)))),i_14,(IntKind.i64.wrap (k_17-(1:Int))))
 else
  some data_0
def uhp_ (slf:YY10×Int×Int×Int×YY12→Option YY10):YY10×Int×Int→Option YY10:=loopN (utc_ slf) fuel
def uhq_ (slf:YY10×Int×Int×Int×YY12→Option YY10):Int×Int×Int×Int×Int×Bool→Option (Int×Int):=fun (a_1,m_2,b_3,mid_18,n_19,t140) =>
 bif t140 then
  some ((IntKind.i64.wrap (n_19-b_3)),mid_18)
 else
  some (a_1,m_2)
def utd_ (slf:YY10×Int×Int×Int×YY12→Option YY10) (next:YY10×YY12×Int×Int×Int→Option (YY10×Int)):YY10×YY12×Int×Int×Int→Option (YY10×Int):=fun (data_0,cmp_4,start_20,r_21,p_22) =>
 bif (decide (start_20<r_21)) then
  (shr? IntKind.u64 (IntKind.u64.wrap (IntKind.i64.wrap (start_20+r_21))) (1:Int)).bind fun n22 =>
  (in? data_0.length (IntKind.i64.wrap (p_22-(IntKind.i64.wrap n22)))).bind fun _ =>
  (in? data_0.length (IntKind.i64.wrap n22)).bind fun _ =>
  (cmp_4 ((data_0.getD ((IntKind.i64.wrap (p_22-(IntKind.i64.wrap n22))).toNat) (([]:Str),([]:Str))),(data_0.getD ((IntKind.i64.wrap n22).toNat) (([]:Str),([]:Str))))).bind fun r25 =>
  bif (!(decide (r25<(0:Int)))) then
   next (data_0,cmp_4,(IntKind.i64.wrap ((IntKind.i64.wrap n22)+(1:Int))),r_21,p_22)
  else
   next (data_0,cmp_4,start_20,(IntKind.i64.wrap n22),p_22)
 else
  some (data_0,start_20)
def uhr_ (slf:YY10×Int×Int×Int×YY12→Option YY10):YY10×YY12×Int×Int×Int→Option (YY10×Int):=loopN (utd_ slf) fuel
def uhs_ (slf:YY10×Int×Int×Int×YY12→Option YY10):YY10×Int×YY12×Int×Int×Bool→Option YY10:=fun (data_0,m_2,cmp_4,start_20,end_24,t185) =>
 bif t185 then
  (um3_ (data_0,start_20,m_2,end_24,cmp_4)).bind fun r28 =>
  some r28
 else
  some data_0
def uht_ (slf:YY10×Int×Int×Int×YY12→Option YY10):YY10×Int×YY12×Int×Int×Bool→Option YY10:=fun (data_0,a_1,cmp_4,mid_18,start_20,t199) =>
 bif t199 then
  (slf (data_0,a_1,start_20,mid_18,cmp_4)).bind fun r31 =>
  some r31
 else
  some data_0
def urn_ (slf:YY10×Int×Int×Int×YY12→Option YY10):YY10×Int×Int×Int×YY12→Option YY10:=fun (data_0,a_1,m_2,b_3,cmp_4) =>
 bif (eqI (IntKind.i64.wrap (m_2-a_1)) (1:Int)) then
  ((uie_ slf) (data_0,a_1,cmp_4,m_2,b_3)).bind fun r5 =>
  ((uif_ slf) (r5.1,r5.2,a_1)).bind fun r9 =>
  some r9
 else
  bif (eqI (IntKind.i64.wrap (b_3-m_2)) (1:Int)) then
   ((uig_ slf) (data_0,m_2,cmp_4,a_1,m_2)).bind fun r14 =>
   ((uhp_ slf) (r14.1,r14.2,m_2)).bind fun r18 =>
   some r18
  else
   (shr? IntKind.u64 (IntKind.u64.wrap (IntKind.i64.wrap (a_1+b_3))) (1:Int)).bind fun n19 =>
   ((uhq_ slf) (a_1,m_2,b_3,(IntKind.i64.wrap n19),(IntKind.i64.wrap ((IntKind.i64.wrap n19)+m_2)),(decide ((IntKind.i64.wrap n19)<m_2)))).bind fun r20 =>
   ((uhr_ slf) (data_0,cmp_4,r20.1,r20.2,(IntKind.i64.wrap ((IntKind.i64.wrap ((IntKind.i64.wrap n19)+m_2))-(1:Int))))).bind fun r26 =>
   let v27:=(IntKind.i64.wrap ((IntKind.i64.wrap ((IntKind.i64.wrap n19)+m_2))-r26.2))
   ((uhs_ slf) (r26.1,m_2,cmp_4,r26.2,v27,((decide (r26.2<m_2))&&(decide (m_2<v27))))).bind fun r29 =>
   ((uht_ slf) (r29,a_1,cmp_4,(IntKind.i64.wrap n19),r26.2,((decide (a_1<r26.2))&&(decide (r26.2<(IntKind.i64.wrap n19)))))).bind fun r32 =>
   bif ((decide ((IntKind.i64.wrap n19)<v27))&&(decide (v27<b_3))) then
    (slf (r32,(IntKind.i64.wrap n19),v27,b_3,cmp_4)).bind fun r34 =>
    some r34
   else
    some r32
def up_:Nat→YY10×Int×Int×Int×YY12→Option YY10
 | 0=>fun _=>none
 | n+1=>urn_ (up_ n)
def ufn_:YY10×Int×Int×Int×YY12→Option YY10:=up_ 100
def uxv_ (next:YY10×Int×YY12×Int×Int×Int→Option (YY10×Int)):YY10×Int×YY12×Int×Int×Int→Option (YY10×Int):=fun (data_0,n_1,cmp_2,blockSize_6,a_7,b_8) =>
 bif (decide (b_8≤n_1)) then
  (udo_ (data_0,a_7,b_8,cmp_2)).bind fun r1 =>
  next (r1,n_1,cmp_2,blockSize_6,b_8,(IntKind.i64.wrap (b_8+blockSize_6)))
 else
  some (data_0,a_7)
def uju_:YY10×Int×YY12×Int×Int×Int→Option (YY10×Int):=loopN uxv_ fuel
def uxw_ (next:YY10×Int×YY12×Int×Int×Int→Option (YY10×Int)):YY10×Int×YY12×Int×Int×Int→Option (YY10×Int):=fun (data_0,n_1,cmp_2,blockSize_6,a_7,b_8) =>
 bif (decide (b_8≤n_1)) then
  (ufn_ (data_0,a_7,(IntKind.i64.wrap (a_7+blockSize_6)),b_8,cmp_2)).bind fun r4 =>
  next (r4,n_1,cmp_2,blockSize_6,b_8,(IntKind.i64.wrap (b_8+(IntKind.i64.wrap ((2:Int)*blockSize_6)))))
 else
  some (data_0,a_7)
def ujv_:YY10×Int×YY12×Int×Int×Int→Option (YY10×Int):=loopN uxw_ fuel
def uxx_ (next:YY10×Int×YY12×Int→Option YY10):YY10×Int×YY12×Int→Option YY10:=fun (data_0,n_1,cmp_2,blockSize_6) =>
 bif (decide (blockSize_6<n_1)) then
  (ujv_ (data_0,n_1,cmp_2,blockSize_6,(0:Int),(IntKind.i64.wrap ((2:Int)*blockSize_6)))).bind fun r6 =>
  bif (decide ((IntKind.i64.wrap (r6.2+blockSize_6))<n_1)) then
   (ufn_ (r6.1,r6.2,(IntKind.i64.wrap (r6.2+blockSize_6)),n_1,cmp_2)).bind fun r7 =>
   next (r7,n_1,cmp_2,(IntKind.i64.wrap (blockSize_6*(2:Int))))
  else
   next (r6.1,n_1,cmp_2,(IntKind.i64.wrap (blockSize_6*(2:Int))))
 else
  some data_0
def ujw_:YY10×Int×YY12×Int→Option YY10:=loopN uxx_ fuel
def um4_:YY10×Int×YY12→Option YY10:=fun (data_0,n_1,cmp_2) =>
 (uju_ (data_0,n_1,cmp_2,(20:Int),(0:Int),(20:Int))).bind fun r2 =>
 (udo_ (r2.1,r2.2,n_1,cmp_2)).bind fun r3 =>
 (ujw_ (r3,n_1,cmp_2,(20:Int))).bind fun r8 =>
 some r8
def ulw_:YY10×YY12→Option YY10:=fun (x_0,cmp_1) =>
 (um4_ (x_0,(x_0.length:Int),cmp_1)).bind fun r1 =>
 some r1
def ub5p_:(Str×Str)×(Str×Str)→Option (Int):=fun (a_0,b_1) =>
 (ubx_ (a_0.1,b_1.1)).bind fun r1 =>
 some r1
def ubzm_:Int→Option (Bool):=fun c_0 =>
 some (((eqI c_0 (45:Int))||(eqI c_0 (95:Int)))||(eqI c_0 (46:Int)))
def ubd_:(List Int)×Int→Option (Unit×(List Int)):=fun (b_0,c_1) =>
 (ujr_ b_0).bind fun r1 =>
 (app? 24 r1 ([c_1]:List Int)).bind fun l2 =>
 some ((),l2)
def ucb5_ (next:Str×(List Int)×Int×Int→Option (List Int)):Str×(List Int)×Int×Int→Option (List Int):=fun (s_0,b_3,t6,t7) =>
 bif (decide (t7<t6)) then
  (at? s_0 t7).bind fun b1 =>
  (ubzm_ (b1.toNat:Int)).bind fun r2 =>
  bif (!r2) then
   (at? s_0 t7).bind fun b3 =>
   (ubd_ (b_3,(b3.toNat:Int))).bind fun r4 =>
   next (s_0,r4.2,t6,(IntKind.i64.wrap (t7+(1:Int))))
  else
   (bif (!(eqI t7 (0:Int))) then at? s_0 (IntKind.i64.wrap (t7-(1:Int))) else some 0).bind fun b5 =>
   (bif (!(eqI t7 (0:Int))) then ubzm_ (b5.toNat:Int) else some false).bind fun r6 =>
   bif ((eqI t7 (0:Int))||(!r6)) then
    (ubd_ (b_3,(45:Int))).bind fun r7 =>
    next (s_0,r7.2,t6,(IntKind.i64.wrap (t7+(1:Int))))
   else
    next (s_0,b_3,t6,(IntKind.i64.wrap (t7+(1:Int))))
 else
  some b_3
def ubvz_:Str×(List Int)×Int×Int→Option (List Int):=loopN ucb5_ fuel
def ucag_:Str→Option Str:=fun s_0 =>
 (ubvz_ (s_0,([]:List Int),(s_0.length:Int),(0:Int))).bind fun r8 =>
 (ub0_ r8).bind fun r9 =>
 some r9
def ubgk_:YY31×Bool→Option YY31:=fun (p_1,t12) =>
 bif t12 then
  (ubku_ p_1.2.1).bind fun r2 =>
  (ubku_ p_1.2.2.1).bind fun r3 =>
  some (p_1.1,(r2,(r3,p_1.2.2.2)))
 else
  some p_1
def ubd3_:Str×Str×Str×Str×YY10×Str→Option YY31:=fun p_0 =>
 (ucb3_ p_0.1).bind fun r1 =>
 (ubgk_ (p_0,r1.1.2.2.1)).bind fun r4 =>
 bif r1.1.2.2.2.1 then
  (ucag_ r4.2.2.1).bind fun r5 =>
  (app? 48 [] r4.2.2.2.2.1).bind fun l6 =>
  some (r4.1,(r4.2.1,(r5,(r4.2.2.2.1,(l6,r4.2.2.2.2.2)))))
 else
  (app? 48 [] r4.2.2.2.2.1).bind fun l7 =>
  some (r4.1,(r4.2.1,(r4.2.2.1,(r4.2.2.2.1,(l7,r4.2.2.2.2.2)))))
def ucgs_ (next:YY31×YY25×Int→Option (Sum (YY31×YY25) (YY31×Int×Int))):YY31×YY25×Int→Option (Sum (YY31×YY25) (YY31×Int×Int)):=fun (t2,p_6,i_7) =>
 bif (decide (i_7<(p_6.2.2.2.2.1.length:Int))) then
  (in? p_6.2.2.2.2.1.length i_7).bind fun _ =>
  (in? p_6.2.2.2.2.1.length (IntKind.i64.wrap (i_7-(1:Int)))).bind fun _ =>
  bif (eqS ((p_6.2.2.2.2.1.getD i_7.toNat (([]:Str),([]:Str))).1) ((p_6.2.2.2.2.1.getD ((IntKind.i64.wrap (i_7-(1:Int))).toNat) (([]:Str),([]:Str))).1)) then
   some (.inr ((([]:Str),(([]:Str),(([]:Str),(([]:Str),(([]:List (Str×Str)),([]:Str)))))),(0:Int),(5:Int)))
  else
   next (t2,(p_6.1,(p_6.2.1,(p_6.2.2.1,(p_6.2.2.2.1,(p_6.2.2.2.2.1,p_6.2.2.2.2.2))))),(IntKind.i64.wrap (i_7+(1:Int))))
 else
  some (.inl (t2,(p_6.1,(p_6.2.1,(p_6.2.2.1,(p_6.2.2.2.1,(p_6.2.2.2.2.1,p_6.2.2.2.2.2)))))))
def ub5q_:YY31×YY25×Int→Option (Sum (YY31×YY25) (YY31×Int×Int)):=loopN ucgs_ fuel
def ucin_:Str→Option (YY31×Int×Int):=fun s_0 =>
 bif (decide ((3000:Int)<(s_0.length:Int))) then
  some ((([]:Str),(([]:Str),(([]:Str),(([]:Str),(([]:List (Str×Str)),([]:Str)))))),(0:Int),(3:Int))
 else
  (ubkx_ (s_0,((0:Int),(-1:Int)))).bind fun r2 =>
  bif (decide ((0:Int)≤r2.2.2.2)) then
   some ((([]:Str),(([]:Str),(([]:Str),(([]:Str),(([]:List (Str×Str)),([]:Str)))))),r2.2.2.2,(6:Int))
  else
   (ulw_ (r2.1.2.2.2.2.1,(fun x=>(ub5p_ x).bind fun r=>some r))).bind fun r4 =>
   (ub5q_ ((([]:Str),(([]:Str),(([]:Str),(([]:Str),(([]:List (Str×Str)),([]:Str)))))),(r2.1.1,(r2.1.2.1,(r2.1.2.2.1,(r2.1.2.2.2.1,(r4,r2.1.2.2.2.2.2))))),(1:Int))).bind fun r8 =>
   match r8 with
   | .inl y9 =>
     (ubvs_ (y9.2.1,(y9.2.2.1,(y9.2.2.2.1,(y9.2.2.2.2.1,(y9.2.2.2.2.2.1,y9.2.2.2.2.2.2)))))).bind fun r11 =>
     bif (!(eqI r11 (0:Int))) then
      some ((([]:Str),(([]:Str),(([]:Str),(([]:Str),(([]:List (Str×Str)),([]:Str)))))),(0:Int),r11)
     else
      (ubd3_ (y9.2.1,(y9.2.2.1,(y9.2.2.2.1,(y9.2.2.2.2.1,(y9.2.2.2.2.2.1,y9.2.2.2.2.2.2)))))).bind fun r14 =>
      some (r14,(0:Int),(0:Int))
   | .inr y9' =>
     some (y9'.1,y9'.2.1,y9'.2.2)
def ub2_:(List Int)×Str→Option (Int×Unit×(List Int)):=fun (b_0,s_1) =>
 (ujr_ b_0).bind fun r1 =>
 (app? 24 r1 (udy_ s_1)).bind fun l2 =>
 some ((s_1.length:Int),(),l2)
def ub8b_ (next:Str×(List Int)×Int×Int→Option (List Int)):Str×(List Int)×Int×Int→Option (List Int):=fun (s_0,b_3,t7,t8) =>
 bif (decide (t8<t7)) then
  (at? s_0 t8).bind fun b1 =>
  (ubkv_ (b1.toNat:Int)).bind fun r2 =>
  let v3:=((decide ((48:Int)≤(b1.toNat:Int)))&&(decide ((b1.toNat:Int)≤(57:Int))))
  (bif (!(r2||v3)) then strings_IndexByte (([46,45,95,126]:Str),(b1.toNat:Int)) else some (0:Int)).bind fun r4 =>
  bif ((r2||v3)||(decide ((0:Int)≤r4))) then
   (ubd_ (b_3,(b1.toNat:Int))).bind fun r5 =>
   next (s_0,r5.2,t7,(IntKind.i64.wrap (t8+(1:Int))))
  else
   (div? IntKind.u8 (b1.toNat:Int) (16:Int)).bind fun q6 =>
   (div? IntKind.u8 (b1.toNat:Int) (16:Int)).bind fun q7 =>
   (cut? ([48,49,50,51,52,53,54,55,56,57,65,66,67,68,69,70]:Str) q6 (IntKind.u8.wrap (q7+(1:Int)))).bind fun s8 =>
   (cat? ([37]:Str) s8).bind fun s9 =>
   (mod? (b1.toNat:Int) (16:Int)).bind fun q10 =>
   (mod? (b1.toNat:Int) (16:Int)).bind fun q11 =>
   (cut? ([48,49,50,51,52,53,54,55,56,57,65,66,67,68,69,70]:Str) q10 (IntKind.u8.wrap (q11+(1:Int)))).bind fun s12 =>
   (cat? s9 s12).bind fun s13 =>
   (ub2_ (b_3,s13)).bind fun r14 =>
   next (s_0,r14.2.2,t7,(IntKind.i64.wrap (t8+(1:Int))))
 else
  some b_3
def ubrb_:Str×(List Int)×Int×Int→Option (List Int):=loopN ub8b_ fuel
def ubd4_:Str→Option Str:=fun s_0 =>
 (ubrb_ (s_0,([]:List Int),(s_0.length:Int),(0:Int))).bind fun r15 =>
 (ub0_ r15).bind fun r16 =>
 some r16
def ucgt_ (next:(List Str)×(List Str)×Int×Int→Option (List Str)):(List Str)×(List Str)×Int×Int→Option (List Str):=fun (l_3,t7,t8,t9) =>
 bif (decide (t9<t8)) then
  (at? t7 t9).bind fun y2 =>
  (ubd4_ y2).bind fun r3 =>
  (app? 24 l_3 ([r3]:List Str)).bind fun l4 =>
  next (l4,t7,t8,(IntKind.i64.wrap (t9+(1:Int))))
 else
  some l_3
def ub5r_:(List Str)×(List Str)×Int×Int→Option (List Str):=loopN ucgt_ fuel
def ucio_:Str→Option Str:=fun s_0 =>
 (u74_ s_0).bind fun r1 =>
 (ub5r_ (([]:List Str),r1,(r1.length:Int),(0:Int))).bind fun r5 =>
 (strings_Join (r5,([47]:Str))).bind fun r6 =>
 some r6
def ub5s_:Str×Str×Str×Str×YY10×Str→Option Str:=fun p_0 =>
 (cat? ([112,107,103,58]:Str) p_0.1).bind fun s1 =>
 (cat? s1 ([47]:Str)).bind fun s2 =>
 bif (!(eqS p_0.2.1 ([]:Str))) then
  (ucio_ p_0.2.1).bind fun r3 =>
  (cat? r3 ([47]:Str)).bind fun s4 =>
  (cat? s2 s4).bind fun s5 =>
  (ubd4_ p_0.2.2.1).bind fun r6 =>
  (cat? s5 r6).bind fun s7 =>
  some s7
 else
  (ubd4_ p_0.2.2.1).bind fun r8 =>
  (cat? s2 r8).bind fun s9 =>
  some s9
def ucgu_:Str×Str×Str×Str×YY10×Str→Option (Str×Int):=fun p_0 =>
 (ubvs_ p_0).bind fun r1 =>
 bif (!(eqI r1 (0:Int))) then
  some (([]:Str),r1)
 else
  (ubd3_ p_0).bind fun r2 =>
  (ub5s_ r2).bind fun r3 =>
  some (r3,(0:Int))
def ubv0_:Str→Option (Bool):=fun s_0 =>
 (ucin_ s_0).bind fun r1 =>
 bif (!(eqI r1.2.2 (0:Int))) then
  some false
 else
  (ucgu_ r1.1).bind fun r2 =>
  some ((eqI r2.2 (0:Int))&&(eqS r2.1 s_0))
def ucb6_ (next:Str×Int×YY48×Int→Option (Int)):Str×Int×YY48×Int→Option (Int):=fun (s_0,at_1,is_2,n_7) =>
 let v1:=(decide ((IntKind.i64.wrap (at_1+n_7))<(s_0.length:Int)))
 (bif v1 then at? s_0 (IntKind.i64.wrap (at_1+n_7)) else some 0).bind fun b2 =>
 (bif v1 then is_2 (b2.toNat:Int) else some false).bind fun r3 =>
 bif (v1&&r3) then
  next (s_0,at_1,is_2,(IntKind.i64.wrap (n_7+(1:Int))))
 else
  some n_7
def ubv1_:Str×Int×YY48×Int→Option (Int):=loopN ucb6_ fuel
def udz_:Str×Int×YY48→Option (Int):=fun (s_0,at_1,is_2) =>
 (ubv1_ (s_0,at_1,is_2,(0:Int))).bind fun r4 =>
 some r4
def ux_:Int→Option (Bool):=fun c_0 =>
 some ((decide ((48:Int)≤c_0))&&(decide (c_0≤(57:Int))))
def ub3_:Str→Option (Int×Bool):=fun s_0 =>
 let v1:=((eqS s_0 ([]:Str))||(decide ((18:Int)<(s_0.length:Int))))
 (bif (!v1) then udz_ (s_0,(0:Int),(fun x=>(ux_ x).bind fun r=>some r)) else some (0:Int)).bind fun r2 =>
 bif (v1||(!(eqI r2 (s_0.length:Int)))) then
  some ((0:Int),false)
 else
  (ub5i_ s_0).bind fun r3 =>
  some (r3.1,true)
def uih_:Str→Option (Int×Bool):=fun s_0 =>
 (bif (decide ((1:Int)<(s_0.length:Int))) then at? s_0 (0:Int) else some 0).bind fun b1 =>
 bif ((decide ((1:Int)<(s_0.length:Int)))&&(eqI (b1.toNat:Int) (48:Int))) then
  some ((0:Int),false)
 else
  (ub3_ s_0).bind fun r3 =>
  some (r3.1,r3.2)
def ufo_:Int→Option (Bool):=fun c_0 =>
 some (((decide ((65:Int)≤c_0))&&(decide (c_0≤(90:Int))))||((decide ((97:Int)≤c_0))&&(decide (c_0≤(122:Int)))))
def uy7_:Int→Option (Bool):=fun c_0 =>
 (ux_ c_0).bind fun r1 =>
 (bif (!r1) then ufo_ c_0 else some false).bind fun r2 =>
 some ((r1||r2)||(eqI c_0 (45:Int)))
def ubky_ (next:(List Str)×Int×Int→Option (Sum (Unit) YY41)):(List Str)×Int×Int→Option (Sum (Unit) YY41):=fun (t9,t10,t11) =>
 bif (decide (t11<t10)) then
  (at? t9 t11).bind fun y2 =>
  (bif (!(eqS y2 ([]:Str))) then udz_ (y2,(0:Int),(fun x=>(uy7_ x).bind fun r=>some r)) else some (0:Int)).bind fun r3 =>
  bif ((eqS y2 ([]:Str))||(!(eqI r3 (y2.length:Int)))) then
   some (.inr (([]:List Str),false))
  else
   next (t9,t10,(IntKind.i64.wrap (t11+(1:Int))))
 else
  some (.inl ())
def uy8_:(List Str)×Int×Int→Option (Sum (Unit) YY41):=loopN ubky_ fuel
def utz_:Str→Option YY41:=fun s_0 =>
 (strings_Split (s_0,([46]:Str))).bind fun r1 =>
 (uy8_ (r1,(r1.length:Int),(0:Int))).bind fun r5 =>
 match r5 with
 | .inl y6 =>
   some (r1,true)
 | .inr y6' =>
   some (y6'.1,y6'.2)
def ubv2_ (next:(List Str)×Int×Int→Option (Sum (Unit) YY41)):(List Str)×Int×Int→Option (Sum (Unit) YY41):=fun (t15,t16,t17) =>
 bif (decide (t17<t16)) then
  (at? t15 t17).bind fun y2 =>
  (udz_ (y2,(0:Int),(fun x=>(ux_ x).bind fun r=>some r))).bind fun r3 =>
  bif (eqI r3 (y2.length:Int)) then
   (uih_ y2).bind fun r4 =>
   bif (!r4.2) then
    some (.inr (([]:List Str),false))
   else
    next (t15,t16,(IntKind.i64.wrap (t17+(1:Int))))
  else
   next (t15,t16,(IntKind.i64.wrap (t17+(1:Int))))
 else
  some (.inl ())
def u8e_:(List Str)×Int×Int→Option (Sum (Unit) YY41):=loopN ubv2_ fuel
def ubkz_:Str→Option YY41:=fun s_0 =>
 (utz_ s_0).bind fun r1 =>
 (u8e_ (r1.1,(r1.1.length:Int),(0:Int))).bind fun r5 =>
 match r5 with
 | .inl y6 =>
   some (r1.1,r1.2)
 | .inr y6' =>
   some (y6'.1,y6'.2)
def ub5t_:Str→Option YY41:=fun s_0 =>
 (strings_Cut (s_0,([43]:Str))).bind fun r1 =>
 (utz_ r1.2.1).bind fun r2 =>
 bif (r1.2.2&&(!r2.2)) then
  some (([]:List Str),false)
 else
  bif (eqS r1.1 ([]:Str)) then
   some (([]:List Str),true)
  else
   (at? r1.1 (0:Int)).bind fun b3 =>
   bif (!(eqI (b3.toNat:Int) (45:Int))) then
    some (([]:List Str),false)
   else
    (cut? r1.1 (1:Int) (r1.1.length:Int)).bind fun s4 =>
    (ubkz_ s4).bind fun r5 =>
    some (r5.1,r5.2)
def u1w_:Str×Int×Bool→Option (Sum (Int) (YY11×Bool)):=fun (s_0,at_5,t16) =>
 bif t16 then
  (bif (!(decide ((s_0.length:Int)≤at_5))) then at? s_0 at_5 else some 0).bind fun b1 =>
  bif ((decide ((s_0.length:Int)≤at_5))||(!(eqI (b1.toNat:Int) (46:Int)))) then
   some (.inr ((Sum.inr (Sum.inr (Sum.inr (Sum.inr (Sum.inr ()))))),false))
  else
   some (.inl (IntKind.i64.wrap (at_5+(1:Int))))
 else
  some (.inl at_5)
def ubo5_ (next:Str×YY49×Int×Int→Option (Sum (YY49×Int) (YY11×Bool))):Str×YY49×Int×Int→Option (Sum (YY49×Int) (YY11×Bool)):=fun (s_0,v_4,at_5,t12) =>
 bif (decide (t12<(3:Int))) then
  (u1w_ (s_0,at_5,(decide ((0:Int)<t12)))).bind fun r3 =>
  match r3 with
  | .inl y4 =>
    (udz_ (s_0,y4,(fun x=>(ux_ x).bind fun r=>some r))).bind fun r5 =>
    (cut? s_0 y4 (IntKind.i64.wrap (y4+r5))).bind fun s6 =>
    (uih_ s6).bind fun r7 =>
    bif (!r7.2) then
     some (.inr ((Sum.inr (Sum.inr (Sum.inr (Sum.inr (Sum.inr ()))))),false))
    else
     (in? 3 t12).bind fun _ =>
     next (s_0,((v_4.1.set t12.toNat r7.1),v_4.2),(IntKind.i64.wrap (y4+r5)),(IntKind.i64.wrap (t12+(1:Int))))
  | .inr y4' =>
    some (.inr (y4'.1,y4'.2))
 else
  some (.inl ((v_4.1,v_4.2),at_5))
def u1x_:Str×YY49×Int×Int→Option (Sum (YY49×Int) (YY11×Bool)):=loopN ubo5_ fuel
def ubbk_:Str→Option (YY11×Bool):=fun s_0 =>
 (u1x_ (s_0,((List.replicate 3 (0:Int)),([]:List Str)),(0:Int),(0:Int))).bind fun r8 =>
 match r8 with
 | .inl y9 =>
   (cut? s_0 y9.2 (s_0.length:Int)).bind fun s10 =>
   (ub5t_ s10).bind fun r11 =>
   some ((Sum.inl (y9.1.1,r11.1)),r11.2)
 | .inr y9' =>
   some (y9'.1,y9'.2)
def uy9_:Int→Option (Bool):=fun c_0 =>
 (ux_ c_0).bind fun r1 =>
 (bif (!r1) then ufo_ c_0 else some false).bind fun r2 =>
 (bif (!(r1||r2)) then strings_IndexByte (([46,43,126,45]:Str),c_0) else some (0:Int)).bind fun r3 =>
 some ((r1||r2)||(decide ((0:Int)≤r3)))
def ubsm_ (next:Str×Int→Option YY28):Str×Int→Option YY28:=fun (s_0,at_3) =>
 bif (decide (at_3<(s_0.length:Int))) then
  (udz_ (s_0,at_3,(fun x=>(ux_ x).bind fun r=>some r))).bind fun r1 =>
  bif (decide ((18:Int)<r1)) then
   some (.inr false)
  else
   next (s_0,(IntKind.i64.wrap (at_3+(maxI r1 (1:Int)))))
 else
  some (.inl ())
def u35_:Str×Int→Option YY28:=loopN ubsm_ fuel
def ubgl_:Str→Option (Bool):=fun s_0 =>
 (u35_ (s_0,(0:Int))).bind fun r2 =>
 match r2 with
 | .inl y3 =>
   some true
 | .inr y3' =>
   some y3'
def uza_:Str×(Int×Str×Str×Bool)×Str×Str×Bool→Option (Sum (Str×(Int×Str×Str×Bool)) (YY11×Bool)):=fun (s_0,v_4,epoch_5,rest_6,t18) =>
 bif t18 then
  (uih_ epoch_5).bind fun r2 =>
  bif (!r2.2) then
   some (.inr ((Sum.inr (Sum.inr (Sum.inr (Sum.inr (Sum.inr ()))))),false))
  else
   some (.inl (rest_6,(r2.1,v_4.2)))
 else
  some (.inl (s_0,v_4))
def u8f_:Str→Option (YY11×Bool):=fun s_0 =>
 (strings_Cut (s_0,([58]:Str))).bind fun r1 =>
 (uza_ (s_0,((0:Int),(([]:Str),(([]:Str),false))),r1.1,r1.2.1,r1.2.2)).bind fun r3 =>
 match r3 with
 | .inl y4 =>
   (bif (!(eqS y4.1 ([]:Str))) then at? y4.1 (0:Int) else some 0).bind fun b5 =>
   (bif (!(eqS y4.1 ([]:Str))) then ux_ (b5.toNat:Int) else some false).bind fun r6 =>
   (bif (!((eqS y4.1 ([]:Str))||(!r6))) then udz_ (y4.1,(0:Int),(fun x=>(uy9_ x).bind fun r=>some r)) else some (0:Int)).bind fun r7 =>
   let v8:=(((eqS y4.1 ([]:Str))||(!r6))||(!(eqI r7 (y4.1.length:Int))))
   (bif (!v8) then ubgl_ y4.1 else some false).bind fun r9 =>
   bif (v8||(!r9)) then
    some ((Sum.inr (Sum.inr (Sum.inr (Sum.inr (Sum.inr ()))))),false)
   else
    (strings_LastIndexByte (y4.1,(45:Int))).bind fun r10 =>
    bif (decide ((0:Int)≤r10)) then
     (cut? y4.1 (0:Int) r10).bind fun s11 =>
     (cut? y4.1 (IntKind.i64.wrap (r10+(1:Int))) (y4.1.length:Int)).bind fun s12 =>
     bif (eqS s12 ([]:Str)) then
      some ((Sum.inr (Sum.inr (Sum.inr (Sum.inr (Sum.inr ()))))),false)
     else
      (strings_IndexByte (s11,(45:Int))).bind fun r13 =>
      some ((Sum.inr (Sum.inl (y4.2.1,(s11,(s12,(decide ((0:Int)≤r13))))))),true)
    else
     (strings_IndexByte (y4.1,(45:Int))).bind fun r15 =>
     some ((Sum.inr (Sum.inl (y4.2.1,(y4.1,(y4.2.2.2.1,(decide ((0:Int)≤r15))))))),true)
 | .inr y4' =>
   some (y4'.1,y4'.2)
def ubsn_ (next:Str×(List Int)→Option ((List Int)×Str×Bool)):Str×(List Int)→Option ((List Int)×Str×Bool):=fun (s_0,out_5) =>
 (udz_ (s_0,(0:Int),(fun x=>(ux_ x).bind fun r=>some r))).bind fun r1 =>
 (cut? s_0 (0:Int) r1).bind fun s2 =>
 (ub3_ s2).bind fun r3 =>
 bif (!r3.2) then
  some (([]:List Int),([]:Str),false)
 else
  (app? 24 out_5 ([r3.1]:List Int)).bind fun l4 =>
  (cut? s_0 r1 (s_0.length:Int)).bind fun s5 =>
  (bif (!(decide ((s5.length:Int)<(2:Int)))) then at? s5 (0:Int) else some 0).bind fun b6 =>
  let v7:=((decide ((s5.length:Int)<(2:Int)))||(!(eqI (b6.toNat:Int) (46:Int))))
  (bif (!v7) then at? s5 (1:Int) else some 0).bind fun b8 =>
  (bif (!v7) then ux_ (b8.toNat:Int) else some false).bind fun r9 =>
  bif (v7||(!r9)) then
   some (l4,s5,true)
  else
   (cut? s5 (1:Int) (s5.length:Int)).bind fun s10 =>
   next (s10,l4)
def u36_:Str×(List Int)→Option ((List Int)×Str×Bool):=loopN ubsn_ fuel
def ubgm_:Str→Option ((List Int)×Str×Bool):=fun s_0 =>
 (u36_ (s_0,([]:List Int))).bind fun r11 =>
 some (r11.1,r11.2.1,r11.2.2)
def ubv3_:Int→Option (Bool):=fun c_0 =>
 some (((eqI c_0 (46:Int))||(eqI c_0 (45:Int)))||(eqI c_0 (95:Int)))
def ubd5_:Str×YY48→Option (Int):=fun (s_0,is_1) =>
 (bif (decide ((1:Int)<(s_0.length:Int))) then at? s_0 (0:Int) else some 0).bind fun b1 =>
 (bif (decide ((1:Int)<(s_0.length:Int))) then ubv3_ (b1.toNat:Int) else some false).bind fun r2 =>
 (bif ((decide ((1:Int)<(s_0.length:Int)))&&r2) then at? s_0 (1:Int) else some 0).bind fun b3 =>
 (bif ((decide ((1:Int)<(s_0.length:Int)))&&r2) then is_1 (b3.toNat:Int) else some false).bind fun r4 =>
 bif (((decide ((1:Int)<(s_0.length:Int)))&&r2)&&r4) then
  some (1:Int)
 else
  some (0:Int)
def ubso_ (next:Str×Str×(List Str)×Int×Int→Option Str):Str×Str×(List Str)×Int×Int→Option Str:=fun (s_0,word_2,t7,t8,t9) =>
 bif (decide (t9<t8)) then
  (at? t7 t9).bind fun y2 =>
  (strings_HasPrefix (s_0,y2)).bind fun r3 =>
  bif r3 then
   some y2
  else
   next (s_0,word_2,t7,t8,(IntKind.i64.wrap (t9+(1:Int))))
 else
  some word_2
def u37_:Str×Str×(List Str)×Int×Int→Option Str:=loopN ubso_ fuel
def u38_:Str×Bool→Option (Bool):=fun (t18,t21) =>
 bif t21 then
  some t21
 else
  some (eqS t18 ([97,108,112,104,97]:Str))
def u39_:Str×Bool→Option (Bool):=fun (t18,t25) =>
 bif t25 then
  some t25
 else
  some (eqS t18 ([98,101,116,97]:Str))
def u4a_:Str×Bool→Option (Bool):=fun (t18,t29) =>
 bif t29 then
  some t29
 else
  bif (eqS t18 ([114,99]:Str)) then
   some (eqS t18 ([114,99]:Str))
  else
   bif (eqS t18 ([112,114,101]:Str)) then
    some (eqS t18 ([112,114,101]:Str))
   else
    some (eqS t18 ([112,114,101,118,105,101,119]:Str))
def ubgn_:Str→Option YY20:=fun s_0 =>
 let v1:=([([112,114,101,118,105,101,119]:Str),([97,108,112,104,97]:Str),([98,101,116,97]:Str),([112,111,115,116]:Str),([112,114,101]:Str),([114,101,118]:Str),([100,101,118]:Str),([114,99]:Str),([97]:Str),([98]:Str),([99]:Str),([114]:Str)]:List Str)
 (u37_ (s_0,([]:Str),v1,(v1.length:Int),(0:Int))).bind fun r4 =>
 bif (eqS r4 ([]:Str)) then
  some (([]:Str),(0:Int),(0:Int))
 else
  (u38_ (r4,(eqS r4 ([97]:Str)))).bind fun r5 =>
  bif r5 then
   some (r4,(1:Int),(1:Int))
  else
   (u39_ (r4,(eqS r4 ([98]:Str)))).bind fun r6 =>
   bif r6 then
    some (r4,(1:Int),(2:Int))
   else
    (u4a_ (r4,(eqS r4 ([99]:Str)))).bind fun r7 =>
    bif r7 then
     some (r4,(1:Int),(3:Int))
    else
     bif (eqS r4 ([112,111,115,116]:Str)) then
      bif (eqS r4 ([112,111,115,116]:Str)) then
       some (r4,(2:Int),(0:Int))
      else
       some (r4,(3:Int),(0:Int))
     else
      bif (eqS r4 ([114,101,118]:Str)) then
       bif (eqS r4 ([114,101,118]:Str)) then
        some (r4,(2:Int),(0:Int))
       else
        some (r4,(3:Int),(0:Int))
      else
       bif (eqS r4 ([114]:Str)) then
        some (r4,(2:Int),(0:Int))
       else
        some (r4,(3:Int),(0:Int))
def uwb_:Str×Int×Int×Bool→Option (Sum (Str×Int) (Str×Bool)):=fun (rest_7,n_11,k_12,t49) =>
 bif t49 then
  (udz_ (rest_7,k_12,(fun x=>(ux_ x).bind fun r=>some r))).bind fun r9 =>
  (cut? rest_7 k_12 (IntKind.i64.wrap (k_12+r9))).bind fun s10 =>
  (ub3_ s10).bind fun r11 =>
  bif (!r11.2) then
   some (.inr (([]:Str),false))
  else
   (cut? rest_7 (IntKind.i64.wrap (k_12+r9)) (rest_7.length:Int)).bind fun s12 =>
   some (.inl (s12,r11.1))
 else
  some (.inl (rest_7,n_11))
def ubid_ (next:YY19×Str×Int→Option (YY19×Str×Bool)):YY19×Str×Int→Option (YY19×Str×Bool):=fun (v_0,s_1,last_6) =>
 (ubd5_ (s_1,(fun x=>(ufo_ x).bind fun r=>some r))).bind fun r1 =>
 (cut? s_1 r1 (s_1.length:Int)).bind fun s2 =>
 (ubgn_ s2).bind fun r3 =>
 bif (eqS r3.1 ([]:Str)) then
  some (v_0,s_1,true)
 else
  bif (decide (r3.2.1≤last_6)) then
   some (v_0,([]:Str),false)
  else
   (cut? s2 (r3.1.length:Int) (s2.length:Int)).bind fun s4 =>
   (ubd5_ (s4,(fun x=>(ux_ x).bind fun r=>some r))).bind fun r5 =>
   (bif ((!(decide ((0:Int)<r5)))&&(!(eqS s4 ([]:Str)))) then at? s4 (0:Int) else some 0).bind fun b6 =>
   (bif ((!(decide ((0:Int)<r5)))&&(!(eqS s4 ([]:Str)))) then ux_ (b6.toNat:Int) else some false).bind fun r7 =>
   (uwb_ (s4,(0:Int),r5,((decide ((0:Int)<r5))||((!(eqS s4 ([]:Str)))&&r7)))).bind fun r13 =>
   match r13 with
   | .inl y14 =>
     bif (eqI r3.2.1 (1:Int)) then
      next ((v_0.1,(v_0.2.1,(r3.2.2,(y14.2,v_0.2.2.2.2)))),y14.1,r3.2.1)
     else
      bif (eqI r3.2.1 (2:Int)) then
       next ((v_0.1,(v_0.2.1,(v_0.2.2.1,(v_0.2.2.2.1,(y14.2,v_0.2.2.2.2.2))))),y14.1,r3.2.1)
      else
       bif (eqI r3.2.1 (3:Int)) then
        next ((v_0.1,(v_0.2.1,(v_0.2.2.1,(v_0.2.2.2.1,(v_0.2.2.2.2.1,(y14.2,v_0.2.2.2.2.2.2)))))),y14.1,r3.2.1)
       else
        next (v_0,y14.1,r3.2.1)
   | .inr y14' =>
     some (v_0,y14'.1,y14'.2)
def uwc_:YY19×Str×Int→Option (YY19×Str×Bool):=loopN ubid_ fuel
def u4b_:YY19×Str→Option (Str×Bool×YY19):=fun (v_0,s_1) =>
 (uwc_ (v_0,s_1,(0:Int))).bind fun r15 =>
 some (r15.2.1,r15.2.2,r15.1)
def ubbl_:Int→Option (Bool):=fun c_0 =>
 some (((eqI c_0 (46:Int))||(eqI c_0 (45:Int)))||(eqI c_0 (95:Int)))
def ubbm_:Int→Option (Bool):=fun c_0 =>
 (ux_ c_0).bind fun r1 =>
 (bif (!r1) then ufo_ c_0 else some false).bind fun r2 =>
 some (r1||r2)
def ubzn_ (next:Int×(List Str)×Int×Int→Option (Sum (Int) YY41)):Int×(List Str)×Int×Int→Option (Sum (Int) YY41):=fun (n_5,t13,t14,t15) =>
 bif (decide (t15<t14)) then
  (at? t13 t15).bind fun y2 =>
  (udz_ (y2,(0:Int),(fun x=>(ux_ x).bind fun r=>some r))).bind fun r3 =>
  (udz_ (y2,(0:Int),(fun x=>(ubbm_ x).bind fun r=>some r))).bind fun r4 =>
  bif ((!(eqI r4 (y2.length:Int)))||((eqI r3 (y2.length:Int))&&(decide ((18:Int)<r3)))) then
   some (.inr (([]:List Str),false))
  else
   next ((IntKind.i64.wrap (n_5+(y2.length:Int))),t13,t14,(IntKind.i64.wrap (t15+(1:Int))))
 else
  some (.inl n_5)
def ubbn_:Int×(List Str)×Int×Int→Option (Sum (Int) YY41):=loopN ubzn_ fuel
def ubrc_:Str→Option YY41:=fun s_0 =>
 (uou_ (s_0,(fun x=>(ubbl_ x).bind fun r=>some r))).bind fun r1 =>
 (ubbn_ ((r1.length:Int),r1,(r1.length:Int),(0:Int))).bind fun r6 =>
 match r6 with
 | .inl y7 =>
   some (r1,((decide ((0:Int)<(r1.length:Int)))&&(eqI (IntKind.i64.wrap (y7-(1:Int))) (s_0.length:Int))))
 | .inr y7' =>
   some (y7'.1,y7'.2)
def u1y_:Str×YY19×Int×Bool→Option (Sum (Str×YY19) (YY11×Bool)):=fun (s_0,v_4,n_5,t29) =>
 bif t29 then
  (cut? s_0 (0:Int) n_5).bind fun s6 =>
  (ub3_ s6).bind fun r7 =>
  bif (!r7.2) then
   some (.inr ((Sum.inr (Sum.inr (Sum.inr (Sum.inr (Sum.inr ()))))),false))
  else
   (cut? s_0 (IntKind.i64.wrap (n_5+(1:Int))) (s_0.length:Int)).bind fun s8 =>
   some (.inl (s8,(r7.1,v_4.2)))
 else
  some (.inl (s_0,v_4))
def ubbo_:Str→Option (YY11×Bool):=fun s_0 =>
 (strings_TrimPrefix (s_0,([118]:Str))).bind fun r2 =>
 (udz_ (r2,(0:Int),(fun x=>(ux_ x).bind fun r=>some r))).bind fun r3 =>
 (bif (decide (r3<(r2.length:Int))) then at? r2 r3 else some 0).bind fun b4 =>
 (u1y_ (r2,((0:Int),(([]:List Int),((0:Int),((0:Int),((-1:Int),((-1:Int),([]:List Str))))))),r3,((decide (r3<(r2.length:Int)))&&(eqI (b4.toNat:Int) (33:Int))))).bind fun r9 =>
 match r9 with
 | .inl y10 =>
   (ubgm_ y10.1).bind fun r11 =>
   bif (!r11.2.2) then
    some ((Sum.inr (Sum.inr (Sum.inr (Sum.inr (Sum.inr ()))))),false)
   else
    (u4b_ ((y10.2.1,(r11.1,y10.2.2.2)),r11.2.1)).bind fun r12 =>
    bif (!r12.2.1) then
     some ((Sum.inr (Sum.inr (Sum.inr (Sum.inr (Sum.inr ()))))),false)
    else
     (strings_CutPrefix (r12.1,([43]:Str))).bind fun r13 =>
     bif r13.2 then
      (ubrc_ r13.1).bind fun r14 =>
      some ((Sum.inr (Sum.inr (Sum.inl (r12.2.2.1,(r12.2.2.2.1,(r12.2.2.2.2.1,(r12.2.2.2.2.2.1,(r12.2.2.2.2.2.2.1,(r12.2.2.2.2.2.2.2.1,r14.1))))))))),r14.2)
     else
      some ((Sum.inr (Sum.inr (Sum.inl r12.2.2))),(eqS r12.1 ([]:Str)))
 | .inr y10' =>
   some (y10'.1,y10'.2)
def ub13_:Str×Bool→Option Str:=fun (w_0,followed_1) =>
 (u91_ w_0).bind fun r1 =>
 bif ((eqS r1 ([97]:Str))&&followed_1) then
  some ([97,108,112,104,97]:Str)
 else
  bif ((eqS r1 ([98]:Str))&&followed_1) then
   some ([98,101,116,97]:Str)
  else
   bif ((eqS r1 ([109]:Str))&&followed_1) then
    some ([109,105,108,101,115,116,111,110,101]:Str)
   else
    bif (eqS r1 ([99,114]:Str)) then
     some ([114,99]:Str)
    else
     bif (((eqS r1 ([102,105,110,97,108]:Str))||(eqS r1 ([103,97]:Str)))||(eqS r1 ([114,101,108,101,97,115,101]:Str))) then
      some ([]:Str)
     else
      some r1
def um5_:Bool×Str×Int→Option (Bool):=fun t_0 =>
 some ((t_0.1&&(eqS t_0.2.1 ([]:Str)))||((!t_0.1)&&(eqI t_0.2.2 (0:Int))))
def ut0_:Str×Int×Bool→Option (Sum (Int) (YY11×Bool)):=fun (s_0,at_5,t24) =>
 bif t24 then
  let v4:=(eqI at_5 (IntKind.i64.wrap ((s_0.length:Int)-(1:Int))))
  (bif (!((eqI at_5 (0:Int))||v4)) then at? s_0 (IntKind.i64.wrap (at_5+(1:Int))) else some 0).bind fun b5 =>
  (bif (!((eqI at_5 (0:Int))||v4)) then ux_ (b5.toNat:Int) else some false).bind fun r6 =>
  (bif ((!((eqI at_5 (0:Int))||v4))&&(!r6)) then at? s_0 (IntKind.i64.wrap (at_5+(1:Int))) else some 0).bind fun b7 =>
  (bif ((!((eqI at_5 (0:Int))||v4))&&(!r6)) then ufo_ (b7.toNat:Int) else some false).bind fun r8 =>
  bif (((eqI at_5 (0:Int))||v4)||((!r6)&&(!r8))) then
   some (.inr ((Sum.inr (Sum.inr (Sum.inr (Sum.inr (Sum.inr ()))))),false))
  else
   some (.inl (IntKind.i64.wrap (at_5+(1:Int))))
 else
  some (.inl at_5)
def ubd6_ (next:Str×(List YY33)×Int→Option (Sum (List YY33) (YY11×Bool))):Str×(List YY33)×Int→Option (Sum (List YY33) (YY11×Bool)):=fun (s_0,v_4,at_5) =>
 bif (decide (at_5<(s_0.length:Int))) then
  (at? s_0 at_5).bind fun b1 =>
  (bif (!(eqI (b1.toNat:Int) (46:Int))) then at? s_0 at_5 else some 0).bind fun b2 =>
  (ut0_ (s_0,at_5,((eqI (b1.toNat:Int) (46:Int))||(eqI (b2.toNat:Int) (45:Int))))).bind fun r9 =>
  match r9 with
  | .inl y10 =>
    (udz_ (s_0,y10,(fun x=>(ux_ x).bind fun r=>some r))).bind fun r11 =>
    bif (decide ((0:Int)<r11)) then
     (cut? s_0 y10 (IntKind.i64.wrap (y10+r11))).bind fun s12 =>
     (ub3_ s12).bind fun r13 =>
     bif (!r13.2) then
      some (.inr ((Sum.inr (Sum.inr (Sum.inr (Sum.inr (Sum.inr ()))))),false))
     else
      (app? 72 v_4 ([(false,(([]:Str),r13.1))]:List YY33)).bind fun l15 =>
      next (s_0,l15,(IntKind.i64.wrap (y10+r11)))
    else
     (udz_ (s_0,y10,(fun x=>(ufo_ x).bind fun r=>some r))).bind fun r16 =>
     bif (eqI r16 (0:Int)) then
      some (.inr ((Sum.inr (Sum.inr (Sum.inr (Sum.inr (Sum.inr ()))))),false))
     else
      let v17:=(decide ((IntKind.i64.wrap (y10+r16))<(s_0.length:Int)))
      (bif v17 then at? s_0 (IntKind.i64.wrap (y10+r16)) else some 0).bind fun b18 =>
      (bif v17 then ux_ (b18.toNat:Int) else some false).bind fun r19 =>
      (cut? s_0 y10 (IntKind.i64.wrap (y10+r16))).bind fun s20 =>
      (ub13_ (s20,(v17&&r19))).bind fun r21 =>
      (app? 72 v_4 ([(true,(r21,(0:Int)))]:List YY33)).bind fun l23 =>
      next (s_0,l23,(IntKind.i64.wrap (y10+r16)))
  | .inr y10' =>
    some (.inr (y10'.1,y10'.2))
 else
  some (.inl v_4)
def ut1_:Str×(List YY33)×Int→Option (Sum (List YY33) (YY11×Bool)):=loopN ubd6_ fuel
def ubd7_ (next:List YY33→Option (List YY33)):List YY33→Option (List YY33):=fun v_4 =>
 (bif (decide ((0:Int)<(v_4.length:Int))) then at? v_4 (IntKind.i64.wrap ((v_4.length:Int)-(1:Int))) else some (false,(([]:Str),(0:Int)))).bind fun y29 =>
 (bif (decide ((0:Int)<(v_4.length:Int))) then um5_ y29 else some false).bind fun r30 =>
 bif ((decide ((0:Int)<(v_4.length:Int)))&&r30) then
  (cut? v_4 (0:Int) (IntKind.i64.wrap ((v_4.length:Int)-(1:Int)))).bind fun s31 =>
  next s31
 else
  some v_4
def ut2_:List YY33→Option (List YY33):=loopN ubd7_ fuel
def u1z_:Str→Option (YY11×Bool):=fun s_0 =>
 (ut1_ (s_0,([]:List YY33),(0:Int))).bind fun r24 =>
 match r24 with
 | .inl y25 =>
   (ut2_ y25).bind fun r32 =>
   some ((Sum.inr (Sum.inr (Sum.inr (Sum.inl r32)))),true)
 | .inr y25' =>
   some (y25'.1,y25'.2)
def ubgo_:Str→Option (YY11×Bool):=fun s_0 =>
 (uih_ s_0).bind fun r1 =>
 some ((Sum.inr (Sum.inr (Sum.inr (Sum.inr (Sum.inl r1.1))))),r1.2)
def uxy_:Int×Str→Option (YY11×Int):=fun (kind_0,s_1) =>
 bif ((decide (kind_0<(1:Int)))||(decide ((5:Int)<kind_0))) then
  some ((Sum.inr (Sum.inr (Sum.inr (Sum.inr (Sum.inr ()))))),(7:Int))
 else
  bif ((eqS s_1 ([]:Str))||(decide ((100:Int)<(s_1.length:Int)))) then
   some ((Sum.inr (Sum.inr (Sum.inr (Sum.inr (Sum.inr ()))))),(3:Int))
  else
   bif (eqI kind_0 (1:Int)) then
    (ubbk_ s_1).bind fun r3 =>
    bif (!r3.2) then
     some ((Sum.inr (Sum.inr (Sum.inr (Sum.inr (Sum.inr ()))))),(6:Int))
    else
     some (r3.1,(0:Int))
   else
    bif (eqI kind_0 (2:Int)) then
     (u8f_ s_1).bind fun r4 =>
     bif (!r4.2) then
      some ((Sum.inr (Sum.inr (Sum.inr (Sum.inr (Sum.inr ()))))),(6:Int))
     else
      some (r4.1,(0:Int))
    else
     bif (eqI kind_0 (3:Int)) then
      (u91_ s_1).bind fun r5 =>
      (ubbo_ r5).bind fun r6 =>
      bif (!r6.2) then
       some ((Sum.inr (Sum.inr (Sum.inr (Sum.inr (Sum.inr ()))))),(6:Int))
      else
       some (r6.1,(0:Int))
     else
      bif (eqI kind_0 (4:Int)) then
       (u1z_ s_1).bind fun r7 =>
       bif (!r7.2) then
        some ((Sum.inr (Sum.inr (Sum.inr (Sum.inr (Sum.inr ()))))),(6:Int))
       else
        some (r7.1,(0:Int))
      else
       bif (eqI kind_0 (5:Int)) then
        (ubgo_ s_1).bind fun r8 =>
        bif (!r8.2) then
         some ((Sum.inr (Sum.inr (Sum.inr (Sum.inr (Sum.inr ()))))),(6:Int))
        else
         some (r8.1,(0:Int))
       else
        bif (!false) then
         some ((Sum.inr (Sum.inr (Sum.inr (Sum.inr (Sum.inr ()))))),(6:Int))
        else
         some ((Sum.inr (Sum.inr (Sum.inr (Sum.inr (Sum.inr ()))))),(0:Int))
def ubk0_ (next:(List Str)×(List Int)×Int×Int→Option (List Str)):(List Str)×(List Int)×Int×Int→Option (List Str):=fun (parts_3,t6,t7,t8) =>
 bif (decide (t8<t7)) then
  (at? t6 t8).bind fun y1 =>
  (strconv_Itoa y1).bind fun r2 =>
  (app? 24 parts_3 ([r2]:List Str)).bind fun l3 =>
  next (l3,t6,t7,(IntKind.i64.wrap (t8+(1:Int))))
 else
  some parts_3
def uzb_:(List Str)×(List Int)×Int×Int→Option (List Str):=loopN ubk0_ fuel
def ut3_:List Int→Option Str:=fun l_0 =>
 (uzb_ (([]:List Str),l_0,(l_0.length:Int),(0:Int))).bind fun r4 =>
 (strings_Join (r4,([46]:Str))).bind fun r5 =>
 some r5
def uro_:(List Int)×(List Str)→Option Str:=fun v_0 =>
 (cut? v_0.1 (0:Int) (v_0.1.length:Int)).bind fun s1 =>
 (ut3_ s1).bind fun r2 =>
 bif (decide ((0:Int)<(v_0.2.length:Int))) then
  (strings_Join (v_0.2,([46]:Str))).bind fun r3 =>
  (cat? ([45]:Str) r3).bind fun s4 =>
  (cat? r2 s4).bind fun s5 =>
  some s5
 else
  some r2
def ubk1_ (next:Str×(List Int)×Int→Option (List Int)):Str×(List Int)×Int→Option (List Int):=fun (s_0,b_3,at_4) =>
 bif (decide (at_4<(s_0.length:Int))) then
  (udz_ (s_0,at_4,(fun x=>(ux_ x).bind fun r=>some r))).bind fun r1 =>
  bif (eqI r1 (0:Int)) then
   (at? s_0 at_4).bind fun b2 =>
   (ubd_ (b_3,(b2.toNat:Int))).bind fun r3 =>
   next (s_0,r3.2,(IntKind.i64.wrap (at_4+(1:Int))))
  else
   (cut? s_0 at_4 (IntKind.i64.wrap (at_4+r1))).bind fun s4 =>
   (ub3_ s4).bind fun r5 =>
   bif (((!(eqI r5.1 (0:Int)))||(decide ((IntKind.i64.wrap (at_4+r1))<(s_0.length:Int))))||(eqI r1 (s_0.length:Int))) then
    (strconv_Itoa r5.1).bind fun r8 =>
    (ub2_ (b_3,r8)).bind fun r9 =>
    next (s_0,r9.2.2,(IntKind.i64.wrap (at_4+r1)))
   else
    next (s_0,b_3,(IntKind.i64.wrap (at_4+r1)))
 else
  some b_3
def uzc_:Str×(List Int)×Int→Option (List Int):=loopN ubk1_ fuel
def ut4_:Str→Option Str:=fun s_0 =>
 (uzc_ (s_0,([]:List Int),(0:Int))).bind fun r10 =>
 (ub0_ r10).bind fun r11 =>
 some r11
def urp_:Int×Str×Str×Bool→Option Str:=fun v_0 =>
 bif (eqS v_0.2.2.1 ([]:Str)) then
  some ([48]:Str)
 else
  some v_0.2.2.1
def u10_:Int→Option (Bool):=fun c_0 =>
 (ux_ c_0).bind fun r1 =>
 some (!r1)
def ubzo_ (next:Str×(List Int)×Int×Int→Option (List Int)):Str×(List Int)×Int×Int→Option (List Int):=fun (s_0,b_3,t6,t7) =>
 bif (decide (t7<t6)) then
  (at? s_0 t7).bind fun b1 =>
  bif (eqI (b1.toNat:Int) (126:Int)) then
   (ubd_ (b_3,(1:Int))).bind fun r2 =>
   next (s_0,r2.2,t6,(IntKind.i64.wrap (t7+(1:Int))))
  else
   (at? s_0 t7).bind fun b3 =>
   (ufo_ (b3.toNat:Int)).bind fun r4 =>
   bif r4 then
    (at? s_0 t7).bind fun b5 =>
    (ubd_ (b_3,(b5.toNat:Int))).bind fun r6 =>
    next (s_0,r6.2,t6,(IntKind.i64.wrap (t7+(1:Int))))
   else
    (at? s_0 t7).bind fun b7 =>
    (ubd_ (b_3,(IntKind.u8.wrap ((b7.toNat:Int)+(128:Int))))).bind fun r8 =>
    next (s_0,r8.2,t6,(IntKind.i64.wrap (t7+(1:Int))))
 else
  some b_3
def ubbp_:Str×(List Int)×Int×Int→Option (List Int):=loopN ubzo_ fuel
def ubrd_:Str→Option Str:=fun s_0 =>
 (ubbp_ (s_0,([]:List Int),(s_0.length:Int),(0:Int))).bind fun r9 =>
 (ub0_ r9).bind fun r10 =>
 (cat? r10 ([2]:Str)).bind fun s11 =>
 some s11
def udp_:Int→Option Str:=fun n_0 =>
 (strconv_Itoa n_0).bind fun r1 =>
 (strings_Repeat (([48]:Str),(IntKind.i64.wrap ((18:Int)-(r1.length:Int))))).bind fun r2 =>
 (cat? r2 r1).bind fun s3 =>
 some s3
def ubo6_ (next:Str×(List Int)→Option (List Int)):Str×(List Int)→Option (List Int):=fun (s_0,b_3) =>
 bif (!(eqS s_0 ([]:Str))) then
  (udz_ (s_0,(0:Int),(fun x=>(u10_ x).bind fun r=>some r))).bind fun r1 =>
  (udz_ (s_0,r1,(fun x=>(ux_ x).bind fun r=>some r))).bind fun r2 =>
  (cut? s_0 r1 (IntKind.i64.wrap (r1+r2))).bind fun s3 =>
  (ub3_ s3).bind fun r4 =>
  (cut? s_0 (0:Int) r1).bind fun s5 =>
  (ubrd_ s5).bind fun r6 =>
  (udp_ r4.1).bind fun r7 =>
  (cat? r6 r7).bind fun s8 =>
  (ub2_ (b_3,s8)).bind fun r9 =>
  (cut? s_0 (IntKind.i64.wrap (r1+r2)) (s_0.length:Int)).bind fun s10 =>
  next (s10,r9.2.2)
 else
  some b_3
def u11_:Str×(List Int)→Option (List Int):=loopN ubo6_ fuel
def ujx_:Str→Option Str:=fun s_0 =>
 (u11_ (s_0,([]:List Int))).bind fun r11 =>
 (ub0_ r11).bind fun r12 =>
 (cat? r12 ([2]:Str)).bind fun s13 =>
 some s13
def ut5_:(Int×Str×Str×Bool)×Str×Bool→Option ((Int×Str×Str×Bool)×Str):=fun (v_1,s_3,t9) =>
 bif t9 then
  (strconv_Itoa v_1.1).bind fun r2 =>
  (cat? r2 ([58]:Str)).bind fun s3 =>
  (cat? s3 s_3).bind fun s4 =>
  some (v_1,s4)
 else
  some (v_1,s_3)
def upx_:Int×Str×Str×Bool→Option Str:=fun v_0 =>
 (ut4_ v_0.2.1).bind fun r1 =>
 (ut5_ (v_0,r1,(!(eqI v_0.1 (0:Int))))).bind fun r5 =>
 (urp_ r5.1).bind fun r6 =>
 (ujx_ r6).bind fun r7 =>
 (ujx_ ([48]:Str)).bind fun r8 =>
 bif (!(eqS r7 r8)) then
  (cat? r5.2 ([45]:Str)).bind fun s9 =>
  (ut4_ r5.1.2.2.1).bind fun r10 =>
  (cat? s9 r10).bind fun s11 =>
  some s11
 else
  bif r5.1.2.2.2 then
   (cat? r5.2 ([45,48]:Str)).bind fun s12 =>
   some s12
  else
   some r5.2
def ubzp_ (next:List Int→Option (List Int)):List Int→Option (List Int):=fun l_0 =>
 (bif (decide ((0:Int)<(l_0.length:Int))) then at? l_0 (IntKind.i64.wrap ((l_0.length:Int)-(1:Int))) else some (0:Int)).bind fun y1 =>
 bif ((decide ((0:Int)<(l_0.length:Int)))&&(eqI y1 (0:Int))) then
  (cut? l_0 (0:Int) (IntKind.i64.wrap ((l_0.length:Int)-(1:Int)))).bind fun s3 =>
  next s3
 else
  some l_0
def ubbq_:List Int→Option (List Int):=loopN ubzp_ fuel
def u93_:List Int→Option (List Int):=fun l_0 =>
 (ubbq_ l_0).bind fun r4 =>
 some r4
def uwd_:YY19×Str×Bool→Option (YY19×Str):=fun (v_1,s_3,t11) =>
 bif t11 then
  (strconv_Itoa v_1.1).bind fun r1 =>
  (cat? r1 ([33]:Str)).bind fun s2 =>
  some (v_1,s2)
 else
  some (v_1,s_3)
def uwe_:Str×(List Int)×Bool→Option Str:=fun (s_3,l_4,t21) =>
 bif t21 then
  (ut3_ l_4).bind fun r5 =>
  (cat? s_3 r5).bind fun s6 =>
  some s6
 else
  (cat? s_3 ([48]:Str)).bind fun s7 =>
  some s7
def uwf_:YY19×Str×Bool→Option (YY19×Str):=fun (v_1,s_3,t30) =>
 bif t30 then
  (at? ([([]:Str),([97]:Str),([98]:Str),([114,99]:Str)]:List Str) v_1.2.2.1).bind fun y10 =>
  (strconv_Itoa v_1.2.2.2.1).bind fun r11 =>
  (cat? y10 r11).bind fun s12 =>
  (cat? s_3 s12).bind fun s13 =>
  some (v_1,s13)
 else
  some (v_1,s_3)
def uwg_:YY19×Str×Bool→Option (YY19×Str):=fun (v_1,s_3,t44) =>
 bif t44 then
  (strconv_Itoa v_1.2.2.2.2.1).bind fun r15 =>
  (cat? ([46,112,111,115,116]:Str) r15).bind fun s16 =>
  (cat? s_3 s16).bind fun s17 =>
  some (v_1,s17)
 else
  some (v_1,s_3)
def uwh_:YY19×Str×Bool→Option (YY19×Str):=fun (v_1,s_3,t53) =>
 bif t53 then
  (strconv_Itoa v_1.2.2.2.2.2.1).bind fun r19 =>
  (cat? ([46,100,101,118]:Str) r19).bind fun s20 =>
  (cat? s_3 s20).bind fun s21 =>
  some (v_1,s21)
 else
  some (v_1,s_3)
def uwi_:Str×Int×Bool→Option Str:=fun (p_6,n_7,t73) =>
 bif t73 then
  (strconv_Itoa n_7).bind fun r25 =>
  some r25
 else
  some p_6
def ubie_ (next:Str×(List Str)×Int×Int→Option Str):Str×(List Str)×Int×Int→Option Str:=fun (s_3,t61,t62,t63) =>
 bif (decide (t63<t62)) then
  (at? t61 t63).bind fun y23 =>
  (ub3_ y23).bind fun r24 =>
  (uwi_ (y23,r24.1,r24.2)).bind fun r26 =>
  bif (eqI t63 (0:Int)) then
   (cat? ([43]:Str) r26).bind fun s27 =>
   (cat? s_3 s27).bind fun s28 =>
   next (s28,t61,t62,(IntKind.i64.wrap (t63+(1:Int))))
  else
   (cat? ([46]:Str) r26).bind fun s29 =>
   (cat? s_3 s29).bind fun s30 =>
   next (s30,t61,t62,(IntKind.i64.wrap (t63+(1:Int))))
 else
  some s_3
def uwj_:Str×(List Str)×Int×Int→Option Str:=loopN ubie_ fuel
def urq_:Int×(List Int)×Int×Int×Int×Int×(List Str)→Option Str:=fun v_0 =>
 (uwd_ (v_0,([]:Str),(!(eqI v_0.1 (0:Int))))).bind fun r3 =>
 (u93_ r3.1.2.1).bind fun r4 =>
 (uwe_ (r3.2,r4,(decide ((0:Int)<(r4.length:Int))))).bind fun r8 =>
 (uwf_ (r3.1,r8,(decide ((0:Int)<r3.1.2.2.1)))).bind fun r14 =>
 (uwg_ (r14.1,r14.2,(decide ((0:Int)≤r14.1.2.2.2.2.1)))).bind fun r18 =>
 (uwh_ (r18.1,r18.2,(decide ((0:Int)≤r18.1.2.2.2.2.2.1)))).bind fun r22 =>
 (uwj_ (r22.2,r22.1.2.2.2.2.2.2,(r22.1.2.2.2.2.2.2.length:Int),(0:Int))).bind fun r31 =>
 some r31
def u94_ (next:(List Str)×(List YY33)×Int×Int→Option (List Str)):(List Str)×(List YY33)×Int×Int→Option (List Str):=fun (l_3,t7,t8,t9) =>
 bif (decide (t9<t8)) then
  (at? t7 t9).bind fun y1 =>
  (um5_ y1).bind fun r2 =>
  bif r2 then
   (app? 24 l_3 ([([48]:Str)]:List Str)).bind fun l3 =>
   next (l3,t7,t8,(IntKind.i64.wrap (t9+(1:Int))))
  else
   bif y1.1 then
    (app? 24 l_3 ([y1.2.1]:List Str)).bind fun l4 =>
    next (l4,t7,t8,(IntKind.i64.wrap (t9+(1:Int))))
   else
    (strconv_Itoa y1.2.2).bind fun r5 =>
    (app? 24 l_3 ([r5]:List Str)).bind fun l6 =>
    next (l6,t7,t8,(IntKind.i64.wrap (t9+(1:Int))))
 else
  some l_3
def uqw_:(List Str)×(List YY33)×Int×Int→Option (List Str):=loopN u94_ fuel
def ume_:List YY33→Option Str:=fun v_0 =>
 (uqw_ (([]:List Str),v_0,(v_0.length:Int),(0:Int))).bind fun r7 =>
 bif (eqI (r7.length:Int) (0:Int)) then
  some ([48]:Str)
 else
  (strings_Join (r7,([45]:Str))).bind fun r8 =>
  some r8
def ut6_:Int→Option Str:=fun v_0 =>
 (strconv_Itoa v_0).bind fun r1 =>
 some r1
def ubre_:Sum YY49 (Sum (Int×Str×Str×Bool) (Sum YY19 (Sum (List YY33) (Sum Int Unit))))→Option (Str×Int):=fun v_0 =>
 ((fun z=>Sum.casesOn (motive:=fun _=>Option Str) z (fun x=>(uro_ x).bind fun r=>some r) (fun z=>Sum.casesOn (motive:=fun _=>Option Str) z (fun x=>(upx_ x).bind fun r=>some r) (fun z=>Sum.casesOn (motive:=fun _=>Option Str) z (fun x=>(urq_ x).bind fun r=>some r) (fun z=>Sum.casesOn (motive:=fun _=>Option Str) z (fun x=>(ume_ x).bind fun r=>some r) (fun z=>Sum.casesOn (motive:=fun _=>Option Str) z (fun x=>(ut6_ x).bind fun r=>some r) (fun _=>none)))))) v_0).bind fun r1 =>
 bif (decide ((100:Int)<(r1.length:Int))) then
  some (([]:Str),(3:Int))
 else
  some (r1,(0:Int))
def uzd_:Int×Str→Option (Str×Int):=fun (kind_0,s_1) =>
 (uxy_ (kind_0,s_1)).bind fun r1 =>
 bif (!(eqI r1.2 (0:Int))) then
  some (([]:Str),r1.2)
 else
  (ubre_ r1.1).bind fun r2 =>
  some (r2.1,r2.2)
def ubif_ (next:YY14×YY43×Int×Int→Option YY24):YY14×YY43×Int×Int→Option YY24:=fun (a_1,t12,t13,t14) =>
 bif (decide (t14<t13)) then
  (at? t12 t14).bind fun y1 =>
  bif ((decide (y1.1<(1:Int)))||(decide ((3:Int)<y1.1))) then
   some (.inr (7:Int))
  else
   bif (eqS y1.2 ([]:Str)) then
    bif (!(eqI y1.1 (1:Int))) then
     some (.inr (2:Int))
    else
     next (a_1,t12,t13,(IntKind.i64.wrap (t14+(1:Int))))
   else
    (uzd_ (a_1.2.1,y1.2)).bind fun r2 =>
    bif (!(eqI r2.2 (0:Int))) then
     some (.inr r2.2)
    else
     next (a_1,t12,t13,(IntKind.i64.wrap (t14+(1:Int))))
 else
  some (.inl ())
def uwk_:YY14×YY43×Int×Int→Option YY24:=loopN ubif_ fuel
def u4c_:Str×Int×YY43×(List Str)×(List Str)→Option (Int):=fun a_0 =>
 bif (decide ((100:Int)<(a_0.2.2.1.length:Int))) then
  some (3:Int)
 else
  (uwk_ (a_0,a_0.2.2.1,(a_0.2.2.1.length:Int),(0:Int))).bind fun r3 =>
  match r3 with
  | .inl y4 =>
    some (0:Int)
  | .inr y4' =>
    some y4'
def u95_ (next:Str×Bool×Int×Int→Option (Bool)):Str×Bool×Int×Int→Option (Bool):=fun (s_4,bad_5,t25,t26) =>
 bif (decide (t26<t25)) then
  (bif (!bad_5) then at? s_4 t26 else some 0).bind fun b3 =>
  (bif (!(bad_5||(decide ((b3.toNat:Int)<(33:Int))))) then at? s_4 t26 else some 0).bind fun b4 =>
  next (s_4,((bad_5||(decide ((b3.toNat:Int)<(33:Int))))||(decide ((126:Int)<(b4.toNat:Int)))),t25,(IntKind.i64.wrap (t26+(1:Int))))
 else
  some bad_5
def uqx_:Str×Bool×Int×Int→Option (Bool):=loopN u95_ fuel
def u96_ (next:(List Str)×(List Str)×Int×Int→Option YY24):(List Str)×(List Str)×Int×Int→Option YY24:=fun (l_0,t10,t11,t12) =>
 bif (decide (t12<t11)) then
  (at? t10 t12).bind fun y1 =>
  (uqx_ (y1,((eqS y1 ([]:Str))||(decide ((200:Int)<(y1.length:Int)))),(y1.length:Int),(0:Int))).bind fun r6 =>
  bif r6 then
   some (.inr (8:Int))
  else
   (bif (decide ((0:Int)<t12)) then at? l_0 (IntKind.i64.wrap (t12-(1:Int))) else some ([]:Str)).bind fun y7 =>
   bif ((decide ((0:Int)<t12))&&(Op.bytesLess y1 y7||eqS y1 y7)) then
    some (.inr (10:Int))
   else
    next (l_0,t10,t11,(IntKind.i64.wrap (t12+(1:Int))))
 else
  some (.inl ())
def uqy_:(List Str)×(List Str)×Int×Int→Option YY24:=loopN u96_ fuel
def uwl_:List Str→Option (Int):=fun l_0 =>
 bif (decide ((200:Int)<(l_0.length:Int))) then
  some (3:Int)
 else
  (uqy_ (l_0,l_0,(l_0.length:Int),(0:Int))).bind fun r9 =>
  match r9 with
  | .inl y10 =>
    some (0:Int)
  | .inr y10' =>
    some y10'
def ubbr_ (next:YY14×(List Str)×Int×Int→Option (Sum YY14 (Int))):YY14×(List Str)×Int×Int→Option (Sum YY14 (Int)):=fun (a_1,t32,t33,t34) =>
 bif (decide (t34<t33)) then
  (at? t32 t34).bind fun y4 =>
  (uzd_ (a_1.2.1,y4)).bind fun r5 =>
  bif (!(eqI r5.2 (0:Int))) then
   some (.inr r5.2)
  else
   next (a_1,t32,t33,(IntKind.i64.wrap (t34+(1:Int))))
 else
  some (.inl a_1)
def usi_:YY14×(List Str)×Int×Int→Option (Sum YY14 (Int)):=loopN ubbr_ fuel
def uze_:Str×Int×YY43×(List Str)×(List Str)→Option (Int):=fun a_0 =>
 (ubv0_ a_0.1).bind fun r1 =>
 bif (!r1) then
  some (8:Int)
 else
  bif ((decide (a_0.2.1<(1:Int)))||(decide ((5:Int)<a_0.2.1))) then
   some (7:Int)
  else
   (u4c_ a_0).bind fun r3 =>
   bif (!(eqI r3 (0:Int))) then
    some r3
   else
    bif (decide ((500:Int)<(a_0.2.2.2.1.length:Int))) then
     some (3:Int)
    else
     (usi_ (a_0,a_0.2.2.2.1,(a_0.2.2.2.1.length:Int),(0:Int))).bind fun r6 =>
     match r6 with
     | .inl y7 =>
       (uwl_ y7.2.2.2.2).bind fun r8 =>
       some r8
     | .inr y7' =>
       some y7'
def ubv4_:Unit→Option (List Int):=fun _ =>
 some ([(0:Int),(1:Int),(0:Int),(2:Int)]:List Int)
def ubk2_ (next:(Int→Option Str)×(List Int)×(List Int)×Int×Int→Option (List Int)):(Int→Option Str)×(List Int)×(List Int)×Int×Int→Option (List Int):=fun (one_2,b_7,t10,t11,t12) =>
 bif (decide (t12<t11)) then
  (at? t10 t12).bind fun y1 =>
  (one_2 y1).bind fun r2 =>
  (ub2_ (b_7,r2)).bind fun r3 =>
  next (one_2,r3.2.2,t10,t11,(IntKind.i64.wrap (t12+(1:Int))))
 else
  some b_7
def uzf_:(Int→Option Str)×(List Int)×(List Int)×Int×Int→Option (List Int):=loopN ubk2_ fuel
def ut7_:(List Int)×Str×(Int→Option Str)→Option Str:=fun (l_0,end_1,one_2) =>
 (uzf_ (one_2,([]:List Int),l_0,(l_0.length:Int),(0:Int))).bind fun r4 =>
 (ub0_ r4).bind fun r5 =>
 (cat? r5 end_1).bind fun s6 =>
 some s6
def ubbs_ (next:(Str→Option Str)×(List Int)×(List Str)×Int×Int→Option (List Int)):(Str→Option Str)×(List Int)×(List Str)×Int×Int→Option (List Int):=fun (one_2,b_7,t10,t11,t12) =>
 bif (decide (t12<t11)) then
  (at? t10 t12).bind fun y1 =>
  (one_2 y1).bind fun r2 =>
  (ub2_ (b_7,r2)).bind fun r3 =>
  next (one_2,r3.2.2,t10,t11,(IntKind.i64.wrap (t12+(1:Int))))
 else
  some b_7
def usj_:(Str→Option Str)×(List Int)×(List Str)×Int×Int→Option (List Int):=loopN ubbs_ fuel
def uny_:(List Str)×Str×(Str→Option Str)→Option Str:=fun (l_0,end_1,one_2) =>
 (usj_ (one_2,([]:List Int),l_0,(l_0.length:Int),(0:Int))).bind fun r4 =>
 (ub0_ r4).bind fun r5 =>
 (cat? r5 end_1).bind fun s6 =>
 some s6
def ubrf_:Str→Option Str:=fun p_0 =>
 (ub3_ p_0).bind fun r1 =>
 bif r1.2 then
  (udp_ r1.1).bind fun r2 =>
  (cat? ([48]:Str) r2).bind fun s3 =>
  some s3
 else
  (cat? ([49]:Str) p_0).bind fun s4 =>
  (cat? s4 ([32]:Str)).bind fun s5 =>
  some s5
def uox_:(List Int)×(List Str)→Option Str:=fun v_0 =>
 (cut? v_0.1 (0:Int) (v_0.1.length:Int)).bind fun s1 =>
 (ut7_ (s1,([]:Str),(fun x=>(udp_ x).bind fun r=>some r))).bind fun r2 =>
 bif (eqI (v_0.2.length:Int) (0:Int)) then
  (cat? r2 ([126]:Str)).bind fun s3 =>
  some s3
 else
  (cat? r2 ([33]:Str)).bind fun s4 =>
  (uny_ (v_0.2,([33]:Str),(fun x=>(ubrf_ x).bind fun r=>some r))).bind fun r5 =>
  (cat? s4 r5).bind fun s6 =>
  some s6
def um6_:Int×Str×Str×Bool→Option Str:=fun v_0 =>
 (udp_ v_0.1).bind fun r1 =>
 (ujx_ v_0.2.1).bind fun r2 =>
 (cat? r1 r2).bind fun s3 =>
 (urp_ v_0).bind fun r4 =>
 (ujx_ r4).bind fun r5 =>
 (cat? s3 r5).bind fun s6 =>
 some s6
def u12_:Int→Option Str:=fun n_0 =>
 (udp_ n_0).bind fun r1 =>
 (cat? ([49]:Str) r1).bind fun s2 =>
 some s2
def u4d_:Int×(List Int)×Int×Int×Int×Int×(List Str)→Option (Int):=fun v_0 =>
 bif (decide ((0:Int)<v_0.2.2.1)) then
  some v_0.2.2.1
 else
  bif ((decide ((0:Int)≤v_0.2.2.2.2.2.1))&&(decide (v_0.2.2.2.2.1<(0:Int)))) then
   some (0:Int)
  else
   some (4:Int)
def ub14_:Int→Option Str:=fun n_0 =>
 bif (decide (n_0<(0:Int))) then
  some ([48]:Str)
 else
  (udp_ n_0).bind fun r1 =>
  (cat? ([49]:Str) r1).bind fun s2 =>
  some s2
def ubk3_:Str→Option Str:=fun p_0 =>
 (ub3_ p_0).bind fun r1 =>
 bif r1.2 then
  (udp_ r1.1).bind fun r2 =>
  (cat? ([50]:Str) r2).bind fun s3 =>
  some s3
 else
  (cat? ([49]:Str) p_0).bind fun s4 =>
  (cat? s4 ([32]:Str)).bind fun s5 =>
  some s5
def u13_:YY19×Str×Bool→Option (YY19×Str):=fun (v_1,s_3,t27) =>
 bif t27 then
  (udp_ v_1.2.2.2.2.2.1).bind fun r12 =>
  (cat? ([48]:Str) r12).bind fun s13 =>
  (cat? s_3 s13).bind fun s14 =>
  some (v_1,s14)
 else
  (cat? s_3 ([49]:Str)).bind fun s15 =>
  some (v_1,s15)
def uoy_:Int×(List Int)×Int×Int×Int×Int×(List Str)→Option Str:=fun v_0 =>
 (udp_ v_0.1).bind fun r1 =>
 (u93_ v_0.2.1).bind fun r2 =>
 (ut7_ (r2,([48]:Str),(fun x=>(u12_ x).bind fun r=>some r))).bind fun r3 =>
 (cat? r1 r3).bind fun s4 =>
 (u4d_ v_0).bind fun r5 =>
 (strconv_Itoa r5).bind fun r6 =>
 (udp_ v_0.2.2.2.1).bind fun r7 =>
 (cat? r6 r7).bind fun s8 =>
 (ub14_ v_0.2.2.2.2.1).bind fun r9 =>
 (cat? s8 r9).bind fun s10 =>
 (cat? s4 s10).bind fun s11 =>
 (u13_ (v_0,s11,(decide ((0:Int)≤v_0.2.2.2.2.2.1)))).bind fun r16 =>
 bif (eqI (r16.1.2.2.2.2.2.2.length:Int) (0:Int)) then
  (cat? r16.2 ([48]:Str)).bind fun s17 =>
  some s17
 else
  (cat? r16.2 ([49]:Str)).bind fun s18 =>
  (uny_ (r16.1.2.2.2.2.2.2,([48]:Str),(fun x=>(ubk3_ x).bind fun r=>some r))).bind fun r19 =>
  (cat? s18 r19).bind fun s20 =>
  some s20
def ubk4_:Unit→Option (List Str):=fun _ =>
 some ([([97,108,112,104,97]:Str),([98,101,116,97]:Str),([109,105,108,101,115,116,111,110,101]:Str),([114,99]:Str),([115,110,97,112,115,104,111,116]:Str)]:List Str)
def ubk5_ (next:(List Str)×Str×Int×Int→Option YY24):(List Str)×Str×Int×Int→Option YY24:=fun (s_0,v_1,t7,t8) =>
 bif (decide (t8<t7)) then
  (at? s_0 t8).bind fun y1 =>
  bif (eqS v_1 y1) then
   some (.inr t8)
  else
   next (s_0,v_1,t7,(IntKind.i64.wrap (t8+(1:Int))))
 else
  some (.inl ())
def uzg_:(List Str)×Str×Int×Int→Option YY24:=loopN ubk5_ fuel
def ut8_:(List Str)×Str→Option (Int):=fun (s_0,v_1) =>
 (uzg_ (s_0,v_1,(s_0.length:Int),(0:Int))).bind fun r2 =>
 match r2 with
 | .inl y3 =>
   some (-1:Int)
 | .inr y3' =>
   some y3'
def uii_:(List Str)×Str→Option (Bool):=fun (s_0,v_1) =>
 (ut8_ (s_0,v_1)).bind fun r1 =>
 some (decide ((0:Int)≤r1))
def urr_:Bool×Str×Int→Option (Bool):=fun t_0 =>
 (bif t_0.1 then ubk4_ () else some ([]:List Str)).bind fun r1 =>
 (bif t_0.1 then uii_ (r1,t_0.2.1) else some false).bind fun r2 =>
 some (t_0.1&&r2)
def u4e_:Bool×Str×Int→Option Str:=fun t_0 =>
 bif (!t_0.1) then
  (udp_ t_0.2.2).bind fun r1 =>
  (cat? ([56]:Str) r1).bind fun s2 =>
  some s2
 else
  (urr_ t_0).bind fun r3 =>
  bif r3 then
   (ubk4_ ()).bind fun r4 =>
   (ut8_ (r4,t_0.2.1)).bind fun r5 =>
   (strconv_Itoa r5).bind fun r6 =>
   some r6
  else
   bif (eqS t_0.2.1 ([115,112]:Str)) then
    some ([54]:Str)
   else
    (cat? ([55]:Str) t_0.2.1).bind fun s7 =>
    (cat? s7 ([32]:Str)).bind fun s8 =>
    some s8
def ubd8_ (next:Str×Int×(List YY33)×Int×Int→Option Str):Str×Int×(List YY33)×Int×Int→Option Str:=fun (s_3,blanks_4,t8,t9,t10) =>
 bif (decide (t10<t9)) then
  (at? t8 t10).bind fun y1 =>
  (um5_ y1).bind fun r2 =>
  bif r2 then
   next (s_3,(IntKind.i64.wrap (blanks_4+(1:Int))),t8,t9,(IntKind.i64.wrap (t10+(1:Int))))
  else
   (urr_ y1).bind fun r3 =>
   bif r3 then
    (strconv_Itoa (IntKind.i64.wrap ((100:Int)+blanks_4))).bind fun r4 =>
    (cat? ([49]:Str) r4).bind fun s5 =>
    (u4e_ y1).bind fun r6 =>
    (cat? s5 r6).bind fun s7 =>
    (cat? s_3 s7).bind fun s8 =>
    next (s8,(0:Int),t8,t9,(IntKind.i64.wrap (t10+(1:Int))))
   else
    (strconv_Itoa (IntKind.i64.wrap ((900:Int)-blanks_4))).bind fun r9 =>
    (cat? ([51]:Str) r9).bind fun s10 =>
    (u4e_ y1).bind fun r11 =>
    (cat? s10 r11).bind fun s12 =>
    (cat? s_3 s12).bind fun s13 =>
    next (s13,(0:Int),t8,t9,(IntKind.i64.wrap (t10+(1:Int))))
 else
  some s_3
def ut9_:Str×Int×(List YY33)×Int×Int→Option Str:=loopN ubd8_ fuel
def ujd_:List YY33→Option Str:=fun v_0 =>
 (ut9_ (([]:Str),(0:Int),v_0,(v_0.length:Int),(0:Int))).bind fun r14 =>
 (cat? r14 ([50]:Str)).bind fun s15 =>
 some s15
def urh_:Int→Option Str:=fun v_0 =>
 (udp_ v_0).bind fun r1 =>
 some r1
def ucah_:Int×Str→Option (Str×Int):=fun (kind_0,s_1) =>
 (uxy_ (kind_0,s_1)).bind fun r1 =>
 bif (!(eqI r1.2 (0:Int))) then
  some (([]:Str),r1.2)
 else
  ((fun z=>Sum.casesOn (motive:=fun _=>Option Str) z (fun x=>(uox_ x).bind fun r=>some r) (fun z=>Sum.casesOn (motive:=fun _=>Option Str) z (fun x=>(um6_ x).bind fun r=>some r) (fun z=>Sum.casesOn (motive:=fun _=>Option Str) z (fun x=>(uoy_ x).bind fun r=>some r) (fun z=>Sum.casesOn (motive:=fun _=>Option Str) z (fun x=>(ujd_ x).bind fun r=>some r) (fun z=>Sum.casesOn (motive:=fun _=>Option Str) z (fun x=>(urh_ x).bind fun r=>some r) (fun _=>none)))))) r1.1).bind fun r2 =>
  some (r2,(0:Int))
def ujy_ (next:(List YY6)×Int×YY18×Int→Option (List YY6)):(List YY6)×Int×YY18×Int→Option (List YY6):=fun (data_0,a_1,cmp_3,j_9) =>
 (bif (decide (a_1<j_9)) then in? data_0.length j_9 else some ()).bind fun _ =>
 (bif (decide (a_1<j_9)) then in? data_0.length (IntKind.i64.wrap (j_9-(1:Int))) else some ()).bind fun _ =>
 (bif (decide (a_1<j_9)) then cmp_3 ((data_0.getD j_9.toNat ((0:Int),(([]:Str),(([]:Str),(0:Int))))),(data_0.getD ((IntKind.i64.wrap (j_9-(1:Int))).toNat) ((0:Int),(([]:Str),(([]:Str),(0:Int)))))) else some (0:Int)).bind fun r3 =>
 bif ((decide (a_1<j_9))&&(decide (r3<(0:Int)))) then
  (in? data_0.length (IntKind.i64.wrap (j_9-(1:Int)))).bind fun _ =>
  let v4:=(data_0.getD ((IntKind.i64.wrap (j_9-(1:Int))).toNat) ((0:Int),(([]:Str),(([]:Str),(0:Int)))))
  (in? data_0.length j_9).bind fun _ =>
  (in? data_0.length j_9).bind fun _ =>
  (in? (data_0.set j_9.toNat v4).length (IntKind.i64.wrap (j_9-(1:Int)))).bind fun _ =>
  next (((data_0.set j_9.toNat v4).set ((IntKind.i64.wrap (j_9-(1:Int))).toNat) (data_0.getD j_9.toNat ((0:Int),(([]:Str),(([]:Str),(0:Int)))))),a_1,cmp_3,(IntKind.i64.wrap (j_9-(1:Int))))
 else
  some data_0
def ud0_:(List YY6)×Int×YY18×Int→Option (List YY6):=loopN ujy_ fuel
def ujz_ (next:(List YY6)×Int×Int×YY18×Int→Option (List YY6)):(List YY6)×Int×Int×YY18×Int→Option (List YY6):=fun (data_0,a_1,b_2,cmp_3,i_8) =>
 bif (decide (i_8<b_2)) then
  (ud0_ (data_0,a_1,cmp_3,i_8)).bind fun r7 =>
  next (r7,a_1,b_2,cmp_3,(IntKind.i64.wrap (i_8+(1:Int))))
 else
  some data_0
def ud1_:(List YY6)×Int×Int×YY18×Int→Option (List YY6):=loopN ujz_ fuel
def ub6_:(List YY6)×Int×Int×YY18→Option (List YY6):=fun (data_0,a_1,b_2,cmp_3) =>
 (ud1_ (data_0,a_1,b_2,cmp_3,(IntKind.i64.wrap (a_1+(1:Int))))).bind fun r8 =>
 some r8
def umf_ (next:(List YY6)×Int×Int×Int×Int→Option (List YY6)):(List YY6)×Int×Int×Int×Int→Option (List YY6):=fun (data_0,a_1,b_2,n_3,i_10) =>
 bif (decide (i_10<n_3)) then
  (in? data_0.length (IntKind.i64.wrap (b_2+i_10))).bind fun _ =>
  let v1:=(data_0.getD ((IntKind.i64.wrap (b_2+i_10)).toNat) ((0:Int),(([]:Str),(([]:Str),(0:Int)))))
  (in? data_0.length (IntKind.i64.wrap (a_1+i_10))).bind fun _ =>
  (in? data_0.length (IntKind.i64.wrap (a_1+i_10))).bind fun _ =>
  (in? (data_0.set ((IntKind.i64.wrap (a_1+i_10)).toNat) v1).length (IntKind.i64.wrap (b_2+i_10))).bind fun _ =>
  next (((data_0.set ((IntKind.i64.wrap (a_1+i_10)).toNat) v1).set ((IntKind.i64.wrap (b_2+i_10)).toNat) (data_0.getD ((IntKind.i64.wrap (a_1+i_10)).toNat) ((0:Int),(([]:Str),(([]:Str),(0:Int)))))),a_1,b_2,n_3,(IntKind.i64.wrap (i_10+(1:Int))))
 else
  some data_0
def ue0_:(List YY6)×Int×Int×Int×Int→Option (List YY6):=loopN umf_ fuel
def ubr_:(List YY6)×Int×Int×Int×YY18→Option (List YY6):=fun (data_0,a_1,b_2,n_3,cmp_4) =>
 (ue0_ (data_0,a_1,b_2,n_3,(0:Int))).bind fun r4 =>
 some r4
def uoz_ (next:(List YY6)×Int×YY18×Int×Int→Option YY38):(List YY6)×Int×YY18×Int×Int→Option YY38:=fun (data_0,m_2,cmp_4,i_10,j_11) =>
 bif (!(eqI i_10 j_11)) then
  bif (decide (j_11<i_10)) then
   (ubr_ (data_0,(IntKind.i64.wrap (m_2-i_10)),m_2,j_11,cmp_4)).bind fun r1 =>
   next (r1,m_2,cmp_4,(IntKind.i64.wrap (i_10-j_11)),j_11)
  else
   (ubr_ (data_0,(IntKind.i64.wrap (m_2-i_10)),(IntKind.i64.wrap ((IntKind.i64.wrap (m_2+j_11))-i_10)),i_10,cmp_4)).bind fun r2 =>
   next (r2,m_2,cmp_4,i_10,(IntKind.i64.wrap (j_11-i_10)))
 else
  some (data_0,i_10)
def uf3_:(List YY6)×Int×YY18×Int×Int→Option YY38:=loopN uoz_ fuel
def ug9_:(List YY6)×Int×Int×Int×YY18→Option (List YY6):=fun (data_0,a_1,m_2,b_3,cmp_4) =>
 (uf3_ (data_0,m_2,cmp_4,(IntKind.i64.wrap (m_2-a_1)),(IntKind.i64.wrap (b_3-m_2)))).bind fun r3 =>
 (ubr_ (r3.1,(IntKind.i64.wrap (m_2-r3.2)),m_2,r3.2,cmp_4)).bind fun r4 =>
 some r4
def unm_ (slf:(List YY6)×Int×Int×Int×YY18→Option (List YY6)) (next:(List YY6)×Int×YY18×Int×Int→Option YY38):(List YY6)×Int×YY18×Int×Int→Option YY38:=fun (data_0,a_1,cmp_4,i_10,j_11) =>
 bif (decide (i_10<j_11)) then
  (shr? IntKind.u64 (IntKind.u64.wrap (IntKind.i64.wrap (i_10+j_11))) (1:Int)).bind fun n1 =>
  (in? data_0.length (IntKind.i64.wrap n1)).bind fun _ =>
  (in? data_0.length a_1).bind fun _ =>
  (cmp_4 ((data_0.getD ((IntKind.i64.wrap n1).toNat) ((0:Int),(([]:Str),(([]:Str),(0:Int))))),(data_0.getD a_1.toNat ((0:Int),(([]:Str),(([]:Str),(0:Int))))))).bind fun r4 =>
  bif (decide (r4<(0:Int))) then
   next (data_0,a_1,cmp_4,(IntKind.i64.wrap ((IntKind.i64.wrap n1)+(1:Int))),j_11)
  else
   next (data_0,a_1,cmp_4,i_10,(IntKind.i64.wrap n1))
 else
  some (data_0,i_10)
def ufe_ (slf:(List YY6)×Int×Int×Int×YY18→Option (List YY6)):(List YY6)×Int×YY18×Int×Int→Option YY38:=loopN (unm_ slf) fuel
def unn_ (slf:(List YY6)×Int×Int×Int×YY18→Option (List YY6)) (next:(List YY6)×Int×Int→Option (List YY6)):(List YY6)×Int×Int→Option (List YY6):=fun (data_0,i_10,k_13) =>
 bif (decide (k_13<(IntKind.i64.wrap (i_10-(1:Int))))) then
  (in? data_0.length (IntKind.i64.wrap (k_13+(1:Int)))).bind fun _ =>
  let v6:=(data_0.getD ((IntKind.i64.wrap (k_13+(1:Int))).toNat) ((0:Int),(([]:Str),(([]:Str),(0:Int)))))
  (in? data_0.length k_13).bind fun _ =>
  (in? data_0.length k_13).bind fun _ =>
  (in? (data_0.set k_13.toNat v6).length (IntKind.i64.wrap (k_13+(1:Int)))).bind fun _ =>
  next (((data_0.set k_13.toNat v6).set ((IntKind.i64.wrap (k_13+(1:Int))).toNat) (data_0.getD k_13.toNat ((0:Int),(([]:Str),(([]:Str),(0:Int)))))),i_10,(IntKind.i64.wrap (k_13+(1:Int))))
 else
  some data_0
def uff_ (slf:(List YY6)×Int×Int×Int×YY18→Option (List YY6)):(List YY6)×Int×Int→Option (List YY6):=loopN (unn_ slf) fuel
def uno_ (slf:(List YY6)×Int×Int×Int×YY18→Option (List YY6)) (next:(List YY6)×Int×YY18×Int×Int→Option YY38):(List YY6)×Int×YY18×Int×Int→Option YY38:=fun (data_0,m_2,cmp_4,i_14,j_15) =>
 bif (decide (i_14<j_15)) then
  (shr? IntKind.u64 (IntKind.u64.wrap (IntKind.i64.wrap (i_14+j_15))) (1:Int)).bind fun n10 =>
  (in? data_0.length m_2).bind fun _ =>
  (in? data_0.length (IntKind.i64.wrap n10)).bind fun _ =>
  (cmp_4 ((data_0.getD m_2.toNat ((0:Int),(([]:Str),(([]:Str),(0:Int))))),(data_0.getD ((IntKind.i64.wrap n10).toNat) ((0:Int),(([]:Str),(([]:Str),(0:Int))))))).bind fun r13 =>
  bif (!(decide (r13<(0:Int)))) then
   next (data_0,m_2,cmp_4,(IntKind.i64.wrap ((IntKind.i64.wrap n10)+(1:Int))),j_15)
  else
   next (data_0,m_2,cmp_4,i_14,(IntKind.i64.wrap n10))
 else
  some (data_0,i_14)
def ufg_ (slf:(List YY6)×Int×Int×Int×YY18→Option (List YY6)):(List YY6)×Int×YY18×Int×Int→Option YY38:=loopN (uno_ slf) fuel
def umg_ (slf:(List YY6)×Int×Int×Int×YY18→Option (List YY6)) (next:(List YY6)×Int×Int→Option (List YY6)):(List YY6)×Int×Int→Option (List YY6):=fun (data_0,i_14,k_17) =>
 bif (decide (i_14<k_17)) then
  (in? data_0.length (IntKind.i64.wrap (k_17-(1:Int)))).bind fun _ =>
  let v15:=(data_0.getD ((IntKind.i64.wrap (k_17-(1:Int))).toNat) ((0:Int),(([]:Str),(([]:Str),(0:Int)))))
  (in? data_0.length k_17).bind fun _ =>
  (in? data_0.length k_17).bind fun _ =>
  (in? (data_0.set k_17.toNat v15).length (IntKind.i64.wrap (k_17-(1:Int)))).bind fun _ =>
  next (((data_0.set k_17.toNat v15).set ((IntKind.i64.wrap (k_17-(1:Int))).toNat) (data_0.getD k_17.toNat ((0:Int),(([]:Str),(([]:Str),(0:Int)))))),i_14,(IntKind.i64.wrap (k_17-(1:Int))))
 else
  some data_0
def ue1_ (slf:(List YY6)×Int×Int×Int×YY18→Option (List YY6)):(List YY6)×Int×Int→Option (List YY6):=loopN (umg_ slf) fuel
def ue2_ (slf:(List YY6)×Int×Int×Int×YY18→Option (List YY6)):Int×Int×Int×Int×Int×Bool→Option (Int×Int):=fun (a_1,m_2,b_3,mid_18,n_19,t140) =>
 bif t140 then
  some ((IntKind.i64.wrap (n_19-b_3)),mid_18)
 else
  some (a_1,m_2)
def umh_ (slf:(List YY6)×Int×Int×Int×YY18→Option (List YY6)) (next:(List YY6)×YY18×Int×Int×Int→Option YY38):(List YY6)×YY18×Int×Int×Int→Option YY38:=fun (data_0,cmp_4,start_20,r_21,p_22) =>
 bif (decide (start_20<r_21)) then
  (shr? IntKind.u64 (IntKind.u64.wrap (IntKind.i64.wrap (start_20+r_21))) (1:Int)).bind fun n22 =>
  (in? data_0.length (IntKind.i64.wrap (p_22-(IntKind.i64.wrap n22)))).bind fun _ =>
  (in? data_0.length (IntKind.i64.wrap n22)).bind fun _ =>
  (cmp_4 ((data_0.getD ((IntKind.i64.wrap (p_22-(IntKind.i64.wrap n22))).toNat) ((0:Int),(([]:Str),(([]:Str),(0:Int))))),(data_0.getD ((IntKind.i64.wrap n22).toNat) ((0:Int),(([]:Str),(([]:Str),(0:Int))))))).bind fun r25 =>
  bif (!(decide (r25<(0:Int)))) then
   next (data_0,cmp_4,(IntKind.i64.wrap ((IntKind.i64.wrap n22)+(1:Int))),r_21,p_22)
  else
   next (data_0,cmp_4,start_20,(IntKind.i64.wrap n22),p_22)
 else
  some (data_0,start_20)
def ue3_ (slf:(List YY6)×Int×Int×Int×YY18→Option (List YY6)):(List YY6)×YY18×Int×Int×Int→Option YY38:=loopN (umh_ slf) fuel
def ue4_ (slf:(List YY6)×Int×Int×Int×YY18→Option (List YY6)):(List YY6)×Int×YY18×Int×Int×Bool→Option (List YY6):=fun (data_0,m_2,cmp_4,start_20,end_24,t185) =>
 bif t185 then
  (ug9_ (data_0,start_20,m_2,end_24,cmp_4)).bind fun r28 =>
  some r28
 else
  some data_0
def ue5_ (slf:(List YY6)×Int×Int×Int×YY18→Option (List YY6)):(List YY6)×Int×YY18×Int×Int×Bool→Option (List YY6):=fun (data_0,a_1,cmp_4,mid_18,start_20,t199) =>
 bif t199 then
  (slf (data_0,a_1,start_20,mid_18,cmp_4)).bind fun r31 =>
  some r31
 else
  some data_0
def ulx_ (slf:(List YY6)×Int×Int×Int×YY18→Option (List YY6)):(List YY6)×Int×Int×Int×YY18→Option (List YY6):=fun (data_0,a_1,m_2,b_3,cmp_4) =>
 bif (eqI (IntKind.i64.wrap (m_2-a_1)) (1:Int)) then
  ((ufe_ slf) (data_0,a_1,cmp_4,m_2,b_3)).bind fun r5 =>
  ((uff_ slf) (r5.1,r5.2,a_1)).bind fun r9 =>
  some r9
 else
  bif (eqI (IntKind.i64.wrap (b_3-m_2)) (1:Int)) then
   ((ufg_ slf) (data_0,m_2,cmp_4,a_1,m_2)).bind fun r14 =>
   ((ue1_ slf) (r14.1,r14.2,m_2)).bind fun r18 =>
   some r18
  else
   (shr? IntKind.u64 (IntKind.u64.wrap (IntKind.i64.wrap (a_1+b_3))) (1:Int)).bind fun n19 =>
   ((ue2_ slf) (a_1,m_2,b_3,(IntKind.i64.wrap n19),(IntKind.i64.wrap ((IntKind.i64.wrap n19)+m_2)),(decide ((IntKind.i64.wrap n19)<m_2)))).bind fun r20 =>
   ((ue3_ slf) (data_0,cmp_4,r20.1,r20.2,(IntKind.i64.wrap ((IntKind.i64.wrap ((IntKind.i64.wrap n19)+m_2))-(1:Int))))).bind fun r26 =>
   let v27:=(IntKind.i64.wrap ((IntKind.i64.wrap ((IntKind.i64.wrap n19)+m_2))-r26.2))
   ((ue4_ slf) (r26.1,m_2,cmp_4,r26.2,v27,((decide (r26.2<m_2))&&(decide (m_2<v27))))).bind fun r29 =>
   ((ue5_ slf) (r29,a_1,cmp_4,(IntKind.i64.wrap n19),r26.2,((decide (a_1<r26.2))&&(decide (r26.2<(IntKind.i64.wrap n19)))))).bind fun r32 =>
   bif ((decide ((IntKind.i64.wrap n19)<v27))&&(decide (v27<b_3))) then
    (slf (r32,(IntKind.i64.wrap n19),v27,b_3,cmp_4)).bind fun r34 =>
    some r34
   else
    some r32
def uk_:Nat→(List YY6)×Int×Int×Int×YY18→Option (List YY6)
 | 0=>fun _=>none
 | n+1=>ulx_ (uk_ n)
def uc9_:(List YY6)×Int×Int×Int×YY18→Option (List YY6):=uk_ 100
def uo0_ (next:(List YY6)×Int×YY18×Int×Int×Int→Option YY38):(List YY6)×Int×YY18×Int×Int×Int→Option YY38:=fun (data_0,n_1,cmp_2,blockSize_6,a_7,b_8) =>
 bif (decide (b_8≤n_1)) then
  (ub6_ (data_0,a_7,b_8,cmp_2)).bind fun r1 =>
  next (r1,n_1,cmp_2,blockSize_6,b_8,(IntKind.i64.wrap (b_8+blockSize_6)))
 else
  some (data_0,a_7)
def uf4_:(List YY6)×Int×YY18×Int×Int×Int→Option YY38:=loopN uo0_ fuel
def uo1_ (next:(List YY6)×Int×YY18×Int×Int×Int→Option YY38):(List YY6)×Int×YY18×Int×Int×Int→Option YY38:=fun (data_0,n_1,cmp_2,blockSize_6,a_7,b_8) =>
 bif (decide (b_8≤n_1)) then
  (uc9_ (data_0,a_7,(IntKind.i64.wrap (a_7+blockSize_6)),b_8,cmp_2)).bind fun r4 =>
  next (r4,n_1,cmp_2,blockSize_6,b_8,(IntKind.i64.wrap (b_8+(IntKind.i64.wrap ((2:Int)*blockSize_6)))))
 else
  some (data_0,a_7)
def uf5_:(List YY6)×Int×YY18×Int×Int×Int→Option YY38:=loopN uo1_ fuel
def uo2_ (next:(List YY6)×Int×YY18×Int→Option (List YY6)):(List YY6)×Int×YY18×Int→Option (List YY6):=fun (data_0,n_1,cmp_2,blockSize_6) =>
 bif (decide (blockSize_6<n_1)) then
  (uf5_ (data_0,n_1,cmp_2,blockSize_6,(0:Int),(IntKind.i64.wrap ((2:Int)*blockSize_6)))).bind fun r6 =>
  bif (decide ((IntKind.i64.wrap (r6.2+blockSize_6))<n_1)) then
   (uc9_ (r6.1,r6.2,(IntKind.i64.wrap (r6.2+blockSize_6)),n_1,cmp_2)).bind fun r7 =>
   next (r7,n_1,cmp_2,(IntKind.i64.wrap (blockSize_6*(2:Int))))
  else
   next (r6.1,n_1,cmp_2,(IntKind.i64.wrap (blockSize_6*(2:Int))))
 else
  some data_0
def uf6_:(List YY6)×Int×YY18×Int→Option (List YY6):=loopN uo2_ fuel
def uha_:(List YY6)×Int×YY18→Option (List YY6):=fun (data_0,n_1,cmp_2) =>
 (uf4_ (data_0,n_1,cmp_2,(20:Int),(0:Int),(20:Int))).bind fun r2 =>
 (ub6_ (r2.1,r2.2,n_1,cmp_2)).bind fun r3 =>
 (uf6_ (r3,n_1,cmp_2,(20:Int))).bind fun r8 =>
 some r8
def ug2_:(List YY6)×YY18→Option (List YY6):=fun (x_0,cmp_1) =>
 (uha_ (x_0,(x_0.length:Int),cmp_1)).bind fun r1 =>
 some r1
def u8g_:YY6×YY6→Option (Int):=fun (x_0,y_1) =>
 (ubx_ (x_0.2.1,y_1.2.1)).bind fun r1 =>
 (ude_ (x_0.1,y_1.1)).bind fun r2 =>
 (uy5_ ([r1,r2]:List Int)).bind fun r3 =>
 some r3
def ubv5_ (next:YY14×(List YY6)×YY43×Int×Int→Option (List YY6)):YY14×(List YY6)×YY43×Int×Int→Option (List YY6):=fun (a_1,out_3,t8,t9,t10) =>
 bif (decide (t10<t9)) then
  (at? t8 t10).bind fun y1 =>
  (ubv4_ ()).bind fun r2 =>
  (at? r2 y1.1).bind fun y3 =>
  bif (!(eqS y1.2 ([]:Str))) then
   (ucah_ (a_1.2.1,y1.2)).bind fun r4 =>
   (uzd_ (a_1.2.1,y1.2)).bind fun r5 =>
   (app? 96 out_3 ([(y3,(r4.1,(r5.1,y1.1)))]:List YY6)).bind fun l7 =>
   next (a_1,l7,t8,t9,(IntKind.i64.wrap (t10+(1:Int))))
  else
   (app? 96 out_3 ([(y3,(([]:Str),(([]:Str),y1.1)))]:List YY6)).bind fun l9 =>
   next (a_1,l9,t8,t9,(IntKind.i64.wrap (t10+(1:Int))))
 else
  some out_3
def u8h_:YY14×(List YY6)×YY43×Int×Int→Option (List YY6):=loopN ubv5_ fuel
def ubk6_:Str×Int×YY43×(List Str)×(List Str)→Option (List YY6):=fun a_0 =>
 (u8h_ (a_0,([]:List YY6),a_0.2.2.1,(a_0.2.2.1.length:Int),(0:Int))).bind fun r10 =>
 (ug2_ (r10,(fun x=>(u8g_ x).bind fun r=>some r))).bind fun r11 =>
 some r11
def ub2v_ (next:(List YY8)×Bool×YY45×(List YY6)×Int×Int→Option ((List YY8)×Bool×YY45)):(List YY8)×Bool×YY45×(List YY6)×Int×Int→Option ((List YY8)×Bool×YY45):=fun (out_3,on_4,low_5,t15,t16,t17) =>
 bif (decide (t17<t16)) then
  (at? t15 t17).bind fun y2 =>
  bif ((eqI y2.2.2.2 (1:Int))&&(!on_4)) then
   bif (!(eqS y2.2.2.1 ([]:Str))) then
    next (out_3,true,(true,(true,y2.2.2.1)),t15,t16,(IntKind.i64.wrap (t17+(1:Int))))
   else
    next (out_3,true,(false,(false,([]:Str))),t15,t16,(IntKind.i64.wrap (t17+(1:Int))))
  else
   bif ((!(eqI y2.2.2.2 (1:Int)))&&on_4) then
    (app? 144 out_3 ([(low_5,(true,((eqI y2.2.2.2 (3:Int)),y2.2.2.1)))]:List YY8)).bind fun l4 =>
    next (l4,false,low_5,t15,t16,(IntKind.i64.wrap (t17+(1:Int))))
   else
    next (out_3,on_4,low_5,t15,t16,(IntKind.i64.wrap (t17+(1:Int))))
 else
  some (out_3,on_4,low_5)
def ubgp_:(List YY8)×Bool×YY45×(List YY6)×Int×Int→Option ((List YY8)×Bool×YY45):=loopN ub2v_ fuel
def ubgq_:(List YY8)×YY45×Bool→Option (List YY8):=fun (out_3,low_5,t56) =>
 bif t56 then
  (app? 144 out_3 ([(low_5,(false,(false,([]:Str))))]:List YY8)).bind fun l7 =>
  some l7
 else
  some out_3
def ub2w_ (next:YY14×(List YY8)×(List Str)×Int×Int→Option (List YY8)):YY14×(List YY8)×(List Str)×Int×Int→Option (List YY8):=fun (a_1,out_3,t63,t64,t65) =>
 bif (decide (t65<t64)) then
  (at? t63 t65).bind fun y9 =>
  (uzd_ (a_1.2.1,y9)).bind fun r10 =>
  (app? 144 out_3 ([((true,(true,r10.1)),(true,(true,r10.1)))]:List YY8)).bind fun l12 =>
  next (a_1,l12,t63,t64,(IntKind.i64.wrap (t65+(1:Int))))
 else
  some out_3
def ubgr_:YY14×(List YY8)×(List Str)×Int×Int→Option (List YY8):=loopN ub2w_ fuel
def ubv6_:Str×Int×YY43×(List Str)×(List Str)→Option (List YY8):=fun a_0 =>
 (ubk6_ a_0).bind fun r1 =>
 (ubgp_ (([]:List YY8),false,(false,(false,([]:Str))),r1,(r1.length:Int),(0:Int))).bind fun r5 =>
 (ubgq_ (r5.1,r5.2.2,r5.2.1)).bind fun r8 =>
 (ubgr_ (a_0,r8,a_0.2.2.2.1,(a_0.2.2.2.1.length:Int),(0:Int))).bind fun r13 =>
 some r13
def uj0_:Int×YY45→Option (Str×Int):=fun (kind_0,b_1) =>
 bif (!b_1.1) then
  bif (b_1.2.1||(!(eqS b_1.2.2 ([]:Str)))) then
   some (([]:Str),(2:Int))
  else
   some (([]:Str),(0:Int))
 else
  (uxy_ (kind_0,b_1.2.2)).bind fun r1 =>
  bif (!(eqI r1.2 (0:Int))) then
   some (([]:Str),r1.2)
  else
   ((fun z=>Sum.casesOn (motive:=fun _=>Option Str) z (fun x=>(uro_ x).bind fun r=>some r) (fun z=>Sum.casesOn (motive:=fun _=>Option Str) z (fun x=>(upx_ x).bind fun r=>some r) (fun z=>Sum.casesOn (motive:=fun _=>Option Str) z (fun x=>(urq_ x).bind fun r=>some r) (fun z=>Sum.casesOn (motive:=fun _=>Option Str) z (fun x=>(ume_ x).bind fun r=>some r) (fun z=>Sum.casesOn (motive:=fun _=>Option Str) z (fun x=>(ut6_ x).bind fun r=>some r) (fun _=>none)))))) r1.1).bind fun r2 =>
   bif (!(eqS r2 b_1.2.2)) then
    some (([]:Str),(2:Int))
   else
    ((fun z=>Sum.casesOn (motive:=fun _=>Option Str) z (fun x=>(uox_ x).bind fun r=>some r) (fun z=>Sum.casesOn (motive:=fun _=>Option Str) z (fun x=>(um6_ x).bind fun r=>some r) (fun z=>Sum.casesOn (motive:=fun _=>Option Str) z (fun x=>(uoy_ x).bind fun r=>some r) (fun z=>Sum.casesOn (motive:=fun _=>Option Str) z (fun x=>(ujd_ x).bind fun r=>some r) (fun z=>Sum.casesOn (motive:=fun _=>Option Str) z (fun x=>(urh_ x).bind fun r=>some r) (fun _=>none)))))) r1.1).bind fun r3 =>
    some (r3,(0:Int))
def u97_:YY45×Str→Option YY42:=fun (b_0,key_1) =>
 bif (!b_0.1) then
  some ((-1:Int),(([]:Str),(false,([]:Str))))
 else
  some ((0:Int),(key_1,((!b_0.2.1),b_0.2.2)))
def u4f_:YY45×Str→Option YY42:=fun (b_0,key_1) =>
 bif (!b_0.1) then
  some ((1:Int),(([]:Str),(false,([]:Str))))
 else
  some ((0:Int),(key_1,(b_0.2.1,b_0.2.2)))
def uc7_:YY42×YY42→Option (Int):=fun (a_0,b_1) =>
 bif ((!(eqI a_0.1 b_1.1))||(!(eqI a_0.1 (0:Int)))) then
  (ude_ (a_0.1,b_1.1)).bind fun r1 =>
  some r1
 else
  (ubx_ (a_0.2.1,b_1.2.1)).bind fun r2 =>
  bif ((!(eqI r2 (0:Int)))||(eqB a_0.2.2.1 b_1.2.2.1)) then
   some r2
  else
   bif a_0.2.2.1 then
    some (1:Int)
   else
    some (-1:Int)
def ubk7_:YY7×YY7→Option (Int):=fun (a_0,b_1) =>
 (uc7_ (a_0.1,b_1.1)).bind fun r1 =>
 some r1
def uwm_:YY7×Int×Bool→Option (YY7×Int):=fun (s_1,first_5,t10) =>
 bif t10 then
  (ub3_ s_1.1.2.2.2).bind fun r1 =>
  bif s_1.1.2.2.1 then
   some (s_1,(IntKind.i64.wrap (r1.1+(1:Int))))
  else
   some (s_1,r1.1)
 else
  some (s_1,first_5)
def u4g_:YY42×YY42→Option (Int×Int×Bool):=fun s_0 =>
 (uwm_ (s_0,(0:Int),(eqI s_0.1.1 (0:Int)))).bind fun r2 =>
 bif (eqI r2.1.2.1 (0:Int)) then
  (ub3_ r2.1.2.2.2.2).bind fun r3 =>
  bif (!r2.1.2.2.2.1) then
   some (r2.2,(IntKind.i64.wrap (r3.1-(1:Int))),(decide (r2.2≤(IntKind.i64.wrap (r3.1-(1:Int))))))
  else
   some (r2.2,r3.1,(decide (r2.2≤r3.1)))
 else
  some (r2.2,(999999999999999999:Int),(decide (r2.2≤(999999999999999999:Int))))
def ubgs_:Int×YY42×Bool→Option YY42:=fun (last_8,high_10,t27) =>
 bif t27 then
  (udp_ last_8).bind fun r3 =>
  (strconv_Itoa last_8).bind fun r4 =>
  some ((0:Int),(r3,(true,r4)))
 else
  some high_10
def ub2x_ (next:(List YY7)×Int×(List YY7)×Int×Int→Option (List YY7)):(List YY7)×Int×(List YY7)×Int×Int→Option (List YY7):=fun (out_3,end_4,t11,t12,t13) =>
 bif (decide (t13<t12)) then
  (at? t11 t13).bind fun y1 =>
  (u4g_ y1).bind fun r2 =>
  bif (!r2.2.2) then
   next (out_3,end_4,t11,t12,(IntKind.i64.wrap (t13+(1:Int))))
  else
   (ubgs_ (r2.2.1,((1:Int),(([]:Str),(false,([]:Str)))),(decide (r2.2.1<(999999999999999999:Int))))).bind fun r5 =>
   bif ((decide ((0:Int)<(out_3.length:Int)))&&(eqI r2.1 (IntKind.i64.wrap (end_4+(1:Int))))) then
    (in? out_3.length (IntKind.i64.wrap ((out_3.length:Int)-(1:Int)))).bind fun _ =>
    next ((out_3.set ((IntKind.i64.wrap ((out_3.length:Int)-(1:Int))).toNat) ((out_3.getD ((IntKind.i64.wrap ((out_3.length:Int)-(1:Int))).toNat) (((0:Int),(([]:Str),(false,([]:Str)))),((0:Int),(([]:Str),(false,([]:Str)))))).1,r5)),r2.2.1,t11,t12,(IntKind.i64.wrap (t13+(1:Int))))
   else
    (udp_ r2.1).bind fun r8 =>
    (strconv_Itoa r2.1).bind fun r9 =>
    (app? 192 out_3 ([(((0:Int),(r8,(false,r9))),r5)]:List YY7)).bind fun l11 =>
    next (l11,r2.2.1,t11,t12,(IntKind.i64.wrap (t13+(1:Int))))
 else
  some out_3
def ubgt_:(List YY7)×Int×(List YY7)×Int×Int→Option (List YY7):=loopN ub2x_ fuel
def ubv7_:List YY7→Option (List YY7):=fun l_0 =>
 (ubgt_ (([]:List YY7),(-2:Int),l_0,(l_0.length:Int),(0:Int))).bind fun r12 =>
 some r12
def ubrg_:(List YY7)×Bool→Option (List YY7):=fun (l_1,t11) =>
 bif t11 then
  (ubv7_ l_1).bind fun r1 =>
  some r1
 else
  some l_1
def ubrh_:YY7×YY8×Bool→Option (YY7×YY8):=fun (s_8,x_9,t29) =>
 bif t29 then
  some (s_8,((true,((!s_8.1.2.2.1),s_8.1.2.2.2)),x_9.2))
 else
  some (s_8,x_9)
def ub8c_ (next:YY26×(List YY7)×Int×Int→Option YY26):YY26×(List YY7)×Int×Int→Option YY26:=fun (r_6,t20,t21,t22) =>
 bif (decide (t22<t21)) then
  (at? t20 t22).bind fun y4 =>
  (ubrh_ (y4,((false,(false,([]:Str))),(false,(false,([]:Str)))),(eqI y4.1.1 (0:Int)))).bind fun r5 =>
  bif (eqI r5.1.2.1 (0:Int)) then
   (app? 144 r_6.2 ([(r5.2.1,(true,(r5.1.2.2.2.1,r5.1.2.2.2.2)))]:List YY8)).bind fun l7 =>
   next ((r_6.1,l7),t20,t21,(IntKind.i64.wrap (t22+(1:Int))))
  else
   (app? 144 r_6.2 ([r5.2]:List YY8)).bind fun l9 =>
   next ((r_6.1,l9),t20,t21,(IntKind.i64.wrap (t22+(1:Int))))
 else
  some (r_6.1,r_6.2)
def ubri_:YY26×(List YY7)×Int×Int→Option YY26:=loopN ub8c_ fuel
def ub5u_:Int×(List YY7)→Option (YY26×Int):=fun (kind_0,l_1) =>
 (ubrg_ (l_1,(eqI kind_0 (5:Int)))).bind fun r2 =>
 bif (decide ((200:Int)<(r2.length:Int))) then
  some (((0:Int),([]:List YY8)),(3:Int))
 else
  (ubri_ ((kind_0,([]:List YY8)),r2,(r2.length:Int),(0:Int))).bind fun r10 =>
  some ((r10.1,r10.2),(0:Int))
def ub5v_ (next:Int×YY26×(List YY7)×(List YY8)×Int×Int→Option (Sum (YY26×(List YY7)) (YY26×Int))):Int×YY26×(List YY7)×(List YY8)×Int×Int→Option (Sum (YY26×(List YY7)) (YY26×Int)):=fun (kind_0,t4,all_6,t17,t18,t19) =>
 bif (decide (t19<t18)) then
  (at? t17 t19).bind fun y1 =>
  (uj0_ (kind_0,y1.1)).bind fun r2 =>
  bif (!(eqI r2.2 (0:Int))) then
   some (.inr (((0:Int),([]:List YY8)),r2.2))
  else
   (uj0_ (kind_0,y1.2)).bind fun r4 =>
   bif (!(eqI r4.2 (0:Int))) then
    some (.inr (((0:Int),([]:List YY8)),r4.2))
   else
    (u97_ (y1.1,r2.1)).bind fun r6 =>
    (u4f_ (y1.2,r4.1)).bind fun r7 =>
    (uc7_ (r6,r7)).bind fun r8 =>
    bif (decide (r8<(0:Int))) then
     (app? 192 all_6 ([(r6,r7)]:List YY7)).bind fun l10 =>
     next (kind_0,t4,l10,t17,t18,(IntKind.i64.wrap (t19+(1:Int))))
    else
     next (kind_0,t4,all_6,t17,t18,(IntKind.i64.wrap (t19+(1:Int))))
 else
  some (.inl (t4,all_6))
def ubk8_:Int×YY26×(List YY7)×(List YY8)×Int×Int→Option (Sum (YY26×(List YY7)) (YY26×Int)):=loopN ub5v_ fuel
def ub5w_ (next:(List YY7)×(List YY7)×Int×Int→Option (List YY7)):(List YY7)×(List YY7)×Int×Int→Option (List YY7):=fun (out_13,t67,t68,t69) =>
 bif (decide (t69<t68)) then
  (in? t67.length t69).bind fun _ =>
  let v14:=(t67.getD t69.toNat (((0:Int),(([]:Str),(false,([]:Str)))),((0:Int),(([]:Str),(false,([]:Str))))))
  (bif (!(eqI (out_13.length:Int) (0:Int))) then in? out_13.length (IntKind.i64.wrap ((out_13.length:Int)-(1:Int))) else some ()).bind fun _ =>
  (bif (!(eqI (out_13.length:Int) (0:Int))) then uc7_ (((out_13.getD ((IntKind.i64.wrap ((out_13.length:Int)-(1:Int))).toNat) (((0:Int),(([]:Str),(false,([]:Str)))),((0:Int),(([]:Str),(false,([]:Str)))))).2),v14.1) else some (0:Int)).bind fun r16 =>
  bif ((eqI (out_13.length:Int) (0:Int))||(decide (r16<(0:Int)))) then
   (app? 192 out_13 ([v14]:List YY7)).bind fun l19 =>
   next (l19,t67,t68,(IntKind.i64.wrap (t69+(1:Int))))
  else
   (in? out_13.length (IntKind.i64.wrap ((out_13.length:Int)-(1:Int)))).bind fun _ =>
   (uc7_ (((out_13.getD ((IntKind.i64.wrap ((out_13.length:Int)-(1:Int))).toNat) (((0:Int),(([]:Str),(false,([]:Str)))),((0:Int),(([]:Str),(false,([]:Str)))))).2),v14.2)).bind fun r21 =>
   bif (decide (r21<(0:Int))) then
    (in? out_13.length (IntKind.i64.wrap ((out_13.length:Int)-(1:Int)))).bind fun _ =>
    next ((out_13.set ((IntKind.i64.wrap ((out_13.length:Int)-(1:Int))).toNat) ((out_13.getD ((IntKind.i64.wrap ((out_13.length:Int)-(1:Int))).toNat) (((0:Int),(([]:Str),(false,([]:Str)))),((0:Int),(([]:Str),(false,([]:Str)))))).1,v14.2)),t67,t68,(IntKind.i64.wrap (t69+(1:Int))))
   else
    next (out_13,t67,t68,(IntKind.i64.wrap (t69+(1:Int))))
 else
  some out_13
def ubk9_:(List YY7)×(List YY7)×Int×Int→Option (List YY7):=loopN ub5w_ fuel
def ub15_:Int×(List YY8)→Option (YY26×Int):=fun (kind_0,l_1) =>
 (ubk8_ (kind_0,((0:Int),([]:List YY8)),([]:List YY7),l_1,(l_1.length:Int),(0:Int))).bind fun r11 =>
 match r11 with
 | .inl y12 =>
   (uk0_ (y12.2,(fun x=>(ubk7_ x).bind fun r=>some r))).bind fun r13 =>
   (ubk9_ (([]:List YY7),r13,(r13.length:Int),(0:Int))).bind fun r23 =>
   (ub5u_ (kind_0,r23)).bind fun r24 =>
   some (r24.1,r24.2)
 | .inr y12' =>
   some (y12'.1,y12'.2)
def ubla_:Str×Int×YY43×(List Str)×(List Str)→Option (YY26×Int):=fun a_0 =>
 (uze_ a_0).bind fun r1 =>
 bif (!(eqI r1 (0:Int))) then
  some (((0:Int),([]:List YY8)),r1)
 else
  (ubv6_ a_0).bind fun r3 =>
  (ub15_ (a_0.2.1,r3)).bind fun r4 =>
  some (r4.1,r4.2)
def ubbt_:YY3×Bool→Option (Sum YY3 ((List YY26)×Int)):=fun (a_1,t37) =>
 bif t37 then
  (ubd1_ a_1.2.2.2.2.2.1).bind fun r5 =>
  bif (!(eqI r5.2 (0:Int))) then
   some (.inr (([]:List YY26),r5.2))
  else
   some (.inl a_1)
 else
  some (.inl a_1)
def ubzq_ (next:(List YY26)×(List YY14)×Int×Int→Option (Sum (List YY26) ((List YY26)×Int))):(List YY26)×(List YY14)×Int×Int→Option (Sum (List YY26) ((List YY26)×Int)):=fun (out_7,t52,t53,t54) =>
 bif (decide (t54<t53)) then
  (at? t52 t54).bind fun y8 =>
  (ubla_ y8).bind fun r9 =>
  bif (!(eqI r9.2 (0:Int))) then
   some (.inr (([]:List YY26),r9.2))
  else
   (app? 48 out_7 ([r9.1]:List YY26)).bind fun l11 =>
   next (l11,t52,t53,(IntKind.i64.wrap (t54+(1:Int))))
 else
  some (.inl out_7)
def ubbu_:(List YY26)×(List YY14)×Int×Int→Option (Sum (List YY26) ((List YY26)×Int)):=loopN ubzq_ fuel
def u98_:Str×(List Str)×Str×Int×Bool×Str×(List YY14)→Option ((List YY26)×Int):=fun a_0 =>
 (u76_ a_0.1).bind fun r1 =>
 bif (!r1) then
  some (([]:List YY26),(8:Int))
 else
  (u1u_ a_0).bind fun r2 =>
  bif (!(eqI r2 (0:Int))) then
   some (([]:List YY26),r2)
  else
   (u76_ a_0.2.2.1).bind fun r3 =>
   bif (!r3) then
    some (([]:List YY26),(8:Int))
   else
    bif ((decide (a_0.2.2.2.1<(0:Int)))||(decide ((1000000:Int)<a_0.2.2.2.1))) then
     some (([]:List YY26),(9:Int))
    else
     (ubbt_ (a_0,(!(eqS a_0.2.2.2.2.2.1 ([]:Str))))).bind fun r6 =>
     match r6 with
     | .inl y7 =>
       bif (decide ((50:Int)<(y7.2.2.2.2.2.2.length:Int))) then
        some (([]:List YY26),(3:Int))
       else
        (ubbu_ (([]:List YY26),y7.2.2.2.2.2.2,(y7.2.2.2.2.2.2.length:Int),(0:Int))).bind fun r12 =>
        match r12 with
        | .inl y13 =>
          some (y13,(0:Int))
        | .inr y13' =>
          some (y13'.1,y13'.2)
     | .inr y7' =>
       some (y7'.1,y7'.2)
def ubv8_:Str×(List Str)×Str×Int×Bool×Str×(List YY14)→Option (Int):=fun a_0 =>
 (u98_ a_0).bind fun r1 =>
 some r1.2
def ubo7_ (next:YY40×(List YY3)×Int×Int→Option YY24):YY40×(List YY3)×Int×Int→Option YY24:=fun (b_1,t29,t30,t31) =>
 bif (decide (t31<t30)) then
  (at? t29 t31).bind fun y2 =>
  (ubv8_ y2).bind fun r3 =>
  bif (!(eqI r3 (0:Int))) then
   some (.inr r3)
  else
   (bif (decide ((0:Int)<t31)) then at? b_1.2.1 (IntKind.i64.wrap (t31-(1:Int))) else some (([]:Str),(([]:List Str),(([]:Str),((0:Int),(false,(([]:Str),([]:List YY14)))))))).bind fun y4 =>
   bif ((decide ((0:Int)<t31))&&(Op.bytesLess y2.1 y4.1||eqS y2.1 y4.1)) then
    some (.inr (10:Int))
   else
    (at? b_1.2.2 t31).bind fun y6 =>
    (bif (!(decide (y6<(0:Int)))) then at? b_1.2.2 t31 else some (0:Int)).bind fun y7 =>
    bif ((decide (y6<(0:Int)))||(decide (b_1.1<y7))) then
     some (.inr (9:Int))
    else
     next (b_1,t29,t30,(IntKind.i64.wrap (t31+(1:Int))))
 else
  some (.inl ())
def u14_:YY40×(List YY3)×Int×Int→Option YY24:=loopN ubo7_ fuel
def uxz_:Int×(List YY3)×(List Int)→Option (Int):=fun b_0 =>
 bif ((decide (b_0.1<(0:Int)))||(decide ((1000000000:Int)<b_0.1))) then
  some (9:Int)
 else
  bif (decide ((2000:Int)<(b_0.2.1.length:Int))) then
   some (3:Int)
  else
   bif (!(eqI (b_0.2.2.length:Int) (b_0.2.1.length:Int))) then
    some (2:Int)
   else
    (u14_ (b_0,b_0.2.1,(b_0.2.1.length:Int),(0:Int))).bind fun r8 =>
    match r8 with
    | .inl y9 =>
      some (0:Int)
    | .inr y9' =>
      some y9'
def ubbv_:YY9×Int×YY40×(List YY17)×Int×(List Str)×(List YY29)→Option (Int):=fun p_0 =>
 bif (decide ((1:Int)<(p_0.2.2.2.1.length:Int))) then
  some (2:Int)
 else
  bif (eqI (p_0.2.2.2.1.length:Int) (0:Int)) then
   bif ((!(eqI p_0.2.2.2.2.1 (0:Int)))||(decide ((0:Int)<(p_0.2.2.2.2.2.1.length:Int)))) then
    some (2:Int)
   else
    some (0:Int)
  else
   (at? p_0.2.2.2.1 (0:Int)).bind fun y2 =>
   none
def ub8d_ (next:Str×Int×Int→Option YY28):Str×Int×Int→Option YY28:=fun (s_0,t6,t7) =>
 bif (decide (t7<t6)) then
  (at? s_0 t7).bind fun b1 =>
  bif (!(((((((decide ((97:Int)≤(b1.toNat:Int)))&&(decide ((b1.toNat:Int)≤(122:Int))))||((decide ((65:Int)≤(b1.toNat:Int)))&&(decide ((b1.toNat:Int)≤(90:Int)))))||((decide ((48:Int)≤(b1.toNat:Int)))&&(decide ((b1.toNat:Int)≤(57:Int)))))||(eqI (b1.toNat:Int) (46:Int)))||(eqI (b1.toNat:Int) (45:Int)))||(eqI (b1.toNat:Int) (95:Int)))) then
   some (.inr false)
  else
   next (s_0,t6,(IntKind.i64.wrap (t7+(1:Int))))
 else
  some (.inl ())
def ubrj_:Str×Int×Int→Option YY28:=loopN ub8d_ fuel
def ub5x_:Str→Option (Bool):=fun s_0 =>
 (ubrj_ (s_0,(s_0.length:Int),(0:Int))).bind fun r6 =>
 match r6 with
 | .inl y7 =>
   some ((!(eqS s_0 ([]:Str)))&&(decide ((s_0.length:Int)≤(60:Int))))
 | .inr y7' =>
   some y7'
def ubsp_ (next:Str×Int×Int→Option YY28):Str×Int×Int→Option YY28:=fun (s_0,t5,t6) =>
 bif (decide (t6<t5)) then
  (at? s_0 t6).bind fun b1 =>
  (bif (!(decide ((b1.toNat:Int)<(32:Int)))) then at? s_0 t6 else some 0).bind fun b2 =>
  bif ((decide ((b1.toNat:Int)<(32:Int)))||(eqI (b2.toNat:Int) (127:Int))) then
   some (.inr false)
  else
   next (s_0,t5,(IntKind.i64.wrap (t6+(1:Int))))
 else
  some (.inl ())
def u4h_:Str×Int×Int→Option YY28:=loopN ubsp_ fuel
def ubgu_:Str→Option (Bool):=fun s_0 =>
 (u4h_ (s_0,(s_0.length:Int),(0:Int))).bind fun r4 =>
 match r4 with
 | .inl y5 =>
   some (decide ((s_0.length:Int)≤(100:Int)))
 | .inr y5' =>
   some y5'
def uzh_:Str×Str×Str×Int×Int×Int×Int→Option (Int):=fun s_0 =>
 (ub5x_ s_0.1).bind fun r1 =>
 (bif (!(!r1)) then ubgu_ s_0.2.1 else some false).bind fun r2 =>
 bif ((!r1)||(!r2)) then
  some (8:Int)
 else
  none
def ub5y_ (next:(List YY29)×Int×Int→Option YY24):(List YY29)×Int×Int→Option YY24:=fun (t39,t40,t41) =>
 bif (decide (t41<t40)) then
  (at? t39 t41).bind fun y5 =>
  (uzh_ y5).bind fun r6 =>
  bif (!(eqI r6 (0:Int))) then
   some (.inr r6)
  else
   next (t39,t40,(IntKind.i64.wrap (t41+(1:Int))))
 else
  some (.inl ())
def ublb_:(List YY29)×Int×Int→Option YY24:=loopN ub5y_ fuel
def ub16_:YY9×Int×YY40×(List YY17)×Int×(List Str)×(List YY29)→Option (Int):=fun p_0 =>
 (ub4q_ p_0.1).bind fun r1 =>
 bif (!(eqI r1 (0:Int))) then
  some r1
 else
  bif ((decide (p_0.2.1<(1:Int)))||(decide ((4:Int)<p_0.2.1))) then
   some (9:Int)
  else
   (uxz_ p_0.2.2.1).bind fun r3 =>
   bif (!(eqI r3 (0:Int))) then
    some r3
   else
    (ubbv_ p_0).bind fun r4 =>
    bif (!(eqI r4 (0:Int))) then
     some r4
    else
     bif (decide ((2000:Int)<(p_0.2.2.2.2.2.2.length:Int))) then
      some (3:Int)
     else
      (ublb_ (p_0.2.2.2.2.2.2,(p_0.2.2.2.2.2.2.length:Int),(0:Int))).bind fun r7 =>
      match r7 with
      | .inl y8 =>
        some (0:Int)
      | .inr y8' =>
        some y8'
def ub17_:Int×Str→Option (Int):=fun (kind_0,s_1) =>
 (uxy_ (kind_0,s_1)).bind fun r1 =>
 some r1.2
def ubbw_:YY8×(List YY7)→Option (Int):=fun (s_0,before_1) =>
 bif (((!s_0.1.1)||(!s_0.1.2.1))||(s_0.2.1&&((!s_0.2.2.1)||(eqS s_0.2.2.2 ([57,57,57,57,57,57,57,57,57,57,57,57,57,57,57,57,57,57]:Str))))) then
  some (2:Int)
 else
  bif (decide ((0:Int)<(before_1.length:Int))) then
   (ub3_ s_0.1.2.2).bind fun r3 =>
   (at? before_1 (IntKind.i64.wrap ((before_1.length:Int)-(1:Int)))).bind fun y4 =>
   (ub3_ y4.2.2.2.2).bind fun r5 =>
   bif (decide (r3.1<(IntKind.i64.wrap (r5.1+(2:Int))))) then
    some (10:Int)
   else
    some (0:Int)
  else
   some (0:Int)
def ubsq_ (next:YY26×(List YY7)×(List YY8)×Int×Int→Option (Sum (List YY7) ((List YY7)×Int))):YY26×(List YY7)×(List YY8)×Int×Int→Option (Sum (List YY7) ((List YY7)×Int)):=fun (r_1,out_4,t25,t26,t27) =>
 bif (decide (t27<t26)) then
  (at? t25 t27).bind fun y2 =>
  (uj0_ (r_1.1,y2.1)).bind fun r3 =>
  bif (!(eqI r3.2 (0:Int))) then
   some (.inr (([]:List YY7),r3.2))
  else
   (uj0_ (r_1.1,y2.2)).bind fun r4 =>
   bif (!(eqI r4.2 (0:Int))) then
    some (.inr (([]:List YY7),r4.2))
   else
    (u97_ (y2.1,r3.1)).bind fun r5 =>
    (u4f_ (y2.2,r4.1)).bind fun r6 =>
    (uc7_ (r5,r6)).bind fun r7 =>
    (bif ((!(decide ((0:Int)≤r7)))&&(decide ((0:Int)<(out_4.length:Int)))) then at? out_4 (IntKind.i64.wrap ((out_4.length:Int)-(1:Int))) else some (((0:Int),(([]:Str),(false,([]:Str)))),((0:Int),(([]:Str),(false,([]:Str)))))).bind fun y8 =>
    (bif ((!(decide ((0:Int)≤r7)))&&(decide ((0:Int)<(out_4.length:Int)))) then uc7_ (r5,y8.2) else some (0:Int)).bind fun r9 =>
    bif ((decide ((0:Int)≤r7))||((decide ((0:Int)<(out_4.length:Int)))&&(decide (r9≤(0:Int))))) then
     some (.inr (([]:List YY7),(10:Int)))
    else
     bif (eqI r_1.1 (5:Int)) then
      (ubbw_ (y2,out_4)).bind fun r11 =>
      bif (!(eqI r11 (0:Int))) then
       some (.inr (([]:List YY7),r11))
      else
       (app? 192 out_4 ([(r5,r6)]:List YY7)).bind fun l13 =>
       next (r_1,l13,t25,t26,(IntKind.i64.wrap (t27+(1:Int))))
     else
      (app? 192 out_4 ([(r5,r6)]:List YY7)).bind fun l15 =>
      next (r_1,l15,t25,t26,(IntKind.i64.wrap (t27+(1:Int))))
 else
  some (.inl out_4)
def u4i_:YY26×(List YY7)×(List YY8)×Int×Int→Option (Sum (List YY7) ((List YY7)×Int)):=loopN ubsq_ fuel
def ubgv_:Int×(List YY8)→Option ((List YY7)×Int):=fun r_0 =>
 bif ((decide (r_0.1<(1:Int)))||(decide ((5:Int)<r_0.1))) then
  some (([]:List YY7),(7:Int))
 else
  bif (decide ((200:Int)<(r_0.2.length:Int))) then
   some (([]:List YY7),(3:Int))
  else
   (u4i_ (r_0,([]:List YY7),r_0.2,(r_0.2.length:Int),(0:Int))).bind fun r16 =>
   match r16 with
   | .inl y17 =>
     some (y17,(0:Int))
   | .inr y17' =>
     some (y17'.1,y17'.2)
def ubgw_:YY7×(Option YY42)→Option (Bool):=fun (s_0,t1) =>
 (t1).bind fun p1 =>
 (uc7_ (s_0.1,p1)).bind fun r2 =>
 (bif (decide (r2≤(0:Int))) then t1 else some ((0:Int),(([]:Str),(false,([]:Str))))).bind fun p3 =>
 (bif (decide (r2≤(0:Int))) then uc7_ (p3,s_0.2) else some (0:Int)).bind fun r4 =>
 some ((decide (r2≤(0:Int)))&&(decide (r4<(0:Int))))
def ute_ (next:(List YY7)×(YY7→Option Bool)×Int×Int→Option YY24):(List YY7)×(YY7→Option Bool)×Int×Int→Option YY24:=fun (s_0,f_1,t7,t8) =>
 bif (decide (t8<t7)) then
  (at? s_0 t8).bind fun y1 =>
  (f_1 y1).bind fun r2 =>
  bif r2 then
   some (.inr t8)
  else
   next (s_0,f_1,t7,(IntKind.i64.wrap (t8+(1:Int))))
 else
  some (.inl ())
def uhu_:(List YY7)×(YY7→Option Bool)×Int×Int→Option YY24:=loopN ute_ fuel
def uj1_:(List YY7)×(YY7→Option Bool)→Option (Int):=fun (s_0,f_1) =>
 (uhu_ (s_0,f_1,(s_0.length:Int),(0:Int))).bind fun r3 =>
 match r3 with
 | .inl y4 =>
   some (-1:Int)
 | .inr y4' =>
   some y4'
def ubv9_:(List YY7)×Str→Option (Int):=fun (l_0,key_1) =>
 (uj1_ (l_0,(fun x=>(ubgw_ (x,(some ((0:Int),(key_1,(false,([]:Str))))))).bind fun r=>some r))).bind fun r1 =>
 some r1
def ublc_:YY26×Str→Option (Bool×Int):=fun (r_0,s_1) =>
 (ubgv_ r_0).bind fun r1 =>
 bif (!(eqI r1.2 (0:Int))) then
  some (false,r1.2)
 else
  (uxy_ (r_0.1,s_1)).bind fun r2 =>
  bif (!(eqI r2.2 (0:Int))) then
   some (false,r2.2)
  else
   ((fun z=>Sum.casesOn (motive:=fun _=>Option Str) z (fun x=>(uox_ x).bind fun r=>some r) (fun z=>Sum.casesOn (motive:=fun _=>Option Str) z (fun x=>(um6_ x).bind fun r=>some r) (fun z=>Sum.casesOn (motive:=fun _=>Option Str) z (fun x=>(uoy_ x).bind fun r=>some r) (fun z=>Sum.casesOn (motive:=fun _=>Option Str) z (fun x=>(ujd_ x).bind fun r=>some r) (fun z=>Sum.casesOn (motive:=fun _=>Option Str) z (fun x=>(urh_ x).bind fun r=>some r) (fun _=>none)))))) r2.1).bind fun r3 =>
   (ubv9_ (r1.1,r3)).bind fun r4 =>
   some ((decide ((0:Int)≤r4)),(0:Int))
def ubld_:YY14×YY26×Str×Str→Option (Bool):=fun (a_0,r_1,key_2,v_3) =>
 (bif (!((!(eqS a_0.1 key_2))||(eqS v_3 ([]:Str)))) then ub17_ (a_0.2.1,v_3) else some (0:Int)).bind fun r1 =>
 bif (((!(eqS a_0.1 key_2))||(eqS v_3 ([]:Str)))||(!(eqI r1 (0:Int)))) then
  some false
 else
  (ublc_ (r_1,v_3)).bind fun r3 =>
  some ((eqI r3.2 (0:Int))&&r3.1)
def u8i_:(Int×Int)×(Int×Int)→Option (Int):=fun (x_0,y_1) =>
 (ude_ (x_0.1,y_1.1)).bind fun r1 =>
 (ude_ (x_0.2,y_1.2)).bind fun r2 =>
 (uy5_ ([r1,r2]:List Int)).bind fun r3 =>
 some r3
def ubwa_ (next:YY9×(List YY26)×YY36×Int×YY14×(List Int)×Int×Int→Option (YY9×YY36)):YY9×(List YY26)×YY36×Int×YY14×(List Int)×Int×Int→Option (YY9×YY36):=fun (m_4,l_7,out_9,i_10,x_11,t30,t31,t32) =>
 bif (decide (t32<t31)) then
  (at? t30 t32).bind fun y4 =>
  (at? l_7 i_10).bind fun y5 =>
  (at? m_4.2.2.2.1 y4).bind fun y6 =>
  (ubld_ (x_11,y5,x_11.1,y6.2.1.2.2.2.1)).bind fun r7 =>
  bif r7 then
   (app? 48 out_9 ([(y4,i_10)]:List (Int×Int))).bind fun l8 =>
   next (m_4,l_7,l8,i_10,x_11,t30,t31,(IntKind.i64.wrap (t32+(1:Int))))
  else
   next (m_4,l_7,out_9,i_10,x_11,t30,t31,(IntKind.i64.wrap (t32+(1:Int))))
 else
  some (m_4,out_9)
def u8j_:YY9×(List YY26)×YY36×Int×YY14×(List Int)×Int×Int→Option (YY9×YY36):=loopN ubwa_ fuel
def ubwb_ (next:YY50×YY9×(List YY26)×YY36×(List YY14)×Int×Int→Option YY36):YY50×YY9×(List YY26)×YY36×(List YY14)×Int×Int→Option YY36:=fun (byKey_2,m_4,l_7,out_9,t20,t21,t22) =>
 bif (decide (t22<t21)) then
  (at? t20 t22).bind fun y2 =>
  (u8j_ (m_4,l_7,out_9,t22,y2,((uck_ eqS y2.1 byKey_2).getD ([]:List Int)),(((uck_ eqS y2.1 byKey_2).getD ([]:List Int)).length:Int),(0:Int))).bind fun r9 =>
  next (byKey_2,r9.1,l_7,r9.2,t20,t21,(IntKind.i64.wrap (t22+(1:Int))))
 else
  some out_9
def u8k_:YY50×YY9×(List YY26)×YY36×(List YY14)×Int×Int→Option YY36:=loopN ubwb_ fuel
def uble_:YY3×YY9×YY50→Option YY36:=fun (a_0,m_1,byKey_2) =>
 (u98_ a_0).bind fun r1 =>
 (u8k_ (byKey_2,m_1,r1.1,([]:List (Int×Int)),a_0.2.2.2.2.2.2,(a_0.2.2.2.2.2.2.length:Int),(0:Int))).bind fun r10 =>
 (um1_ (r10,(fun x=>(u8i_ x).bind fun r=>some r))).bind fun r11 =>
 some r11
def ub2y_ (next:(List (Str×List Int))×(List YY2)×Int×Int→Option (List (Str×List Int))):(List (Str×List Int))×(List YY2)×Int×Int→Option (List (Str×List Int)):=fun (byKey_8,t30,t31,t32) =>
 bif (decide (t32<t31)) then
  (at? t30 t32).bind fun y3 =>
  (ucgu_ y3.2.1).bind fun r4 =>
  (app? 24 ((uck_ eqS r4.1 byKey_8).getD ([]:List Int)) ([t32]:List Int)).bind fun l5 =>
  (bif eqS r4.1 r4.1 then some () else none).bind fun _ =>
  next ((putKV eqS r4.1 l5 byKey_8),t30,t31,(IntKind.i64.wrap (t32+(1:Int))))
 else
  some byKey_8
def ubgx_:(List (Str×List Int))×(List YY2)×Int×Int→Option (List (Str×List Int)):=loopN ub2y_ fuel
def ub2z_ (next:YY9×(List YY16)×YY3×YY36×Int×Int→Option (Sum (YY9×(List YY16)) ((List YY16)×Int))):YY9×(List YY16)×YY3×YY36×Int×Int→Option (Sum (YY9×(List YY16)) ((List YY16)×Int)):=fun (m_3,out_13,a_15,t64,t65,t66) =>
 bif (decide (t66<t65)) then
  (at? t64 t66).bind fun y9 =>
  bif (eqI (out_13.length:Int) (100000:Int)) then
   some (.inr (([]:List YY16),(3:Int)))
  else
   (at? m_3.2.2.2.1 y9.1).bind fun y10 =>
   (app? 72 out_13 ([(a_15.1,(y10.1,y9.2))]:List YY16)).bind fun l12 =>
   next (m_3,l12,a_15,t64,t65,(IntKind.i64.wrap (t66+(1:Int))))
 else
  some (.inl (m_3,out_13))
def ubgy_:YY9×(List YY16)×YY3×YY36×Int×Int→Option (Sum (YY9×(List YY16)) ((List YY16)×Int)):=loopN ub2z_ fuel
def ub20_ (next:YY9×YY50×(List YY16)×(List YY3)×Int×Int→Option (Sum (List YY16) ((List YY16)×Int))):YY9×YY50×(List YY16)×(List YY3)×Int×Int→Option (Sum (List YY16) ((List YY16)×Int)):=fun (m_3,byKey_8,out_13,t53,t54,t55) =>
 bif (decide (t55<t54)) then
  (at? t53 t55).bind fun y15 =>
  bif y15.2.2.2.2.1 then
   next (m_3,byKey_8,out_13,t53,t54,(IntKind.i64.wrap (t55+(1:Int))))
  else
   (uble_ (y15,m_3,byKey_8)).bind fun r16 =>
   (ubgy_ (m_3,out_13,y15,r16,(r16.length:Int),(0:Int))).bind fun r17 =>
   match r17 with
   | .inl y18 =>
     next (y18.1,byKey_8,y18.2,t53,t54,(IntKind.i64.wrap (t55+(1:Int))))
   | .inr y18' =>
     some (.inr (y18'.1,y18'.2))
 else
  some (.inl out_13)
def ubgz_:YY9×YY50×(List YY16)×(List YY3)×Int×Int→Option (Sum (List YY16) ((List YY16)×Int)):=loopN ub20_ fuel
def ubwc_:YY40×YY9→Option ((List YY16)×Int):=fun (b_0,m_1) =>
 (uxz_ b_0).bind fun r1 =>
 bif (!(eqI r1 (0:Int))) then
  some (([]:List YY16),r1)
 else
  (ub4q_ m_1).bind fun r2 =>
  bif (!(eqI r2 (0:Int))) then
   some (([]:List YY16),r2)
  else
   (ubgx_ (([]:List (Str×List Int)),m_1.2.2.2.1,(m_1.2.2.2.1.length:Int),(0:Int))).bind fun r6 =>
   (ubgz_ (m_1,r6,([]:List YY16),b_0.2.1,(b_0.2.1.length:Int),(0:Int))).bind fun r19 =>
   match r19 with
   | .inl y20 =>
     some (y20,(0:Int))
   | .inr y20' =>
     some (y20'.1,y20'.2)
def ubzr_ (next:YY13×(List YY3)×Int×Int→Option YY13):YY13×(List YY3)×Int×Int→Option YY13:=fun (s_3,t23,t24,t25) =>
 bif (decide (t25<t24)) then
  (at? t23 t25).bind fun y3 =>
  next ((s_3.1,((putKV eqS y3.1 y3 s_3.2.1),(s_3.2.2.1,(s_3.2.2.2.1,s_3.2.2.2.2)))),t23,t24,(IntKind.i64.wrap (t25+(1:Int))))
 else
  some (s_3.1,(s_3.2.1,(s_3.2.2.1,(s_3.2.2.2.1,s_3.2.2.2.2))))
def ubbx_:YY13×(List YY3)×Int×Int→Option YY13:=loopN ubzr_ fuel
def ubzs_ (next:YY13×(List YY2)×Int×Int→Option YY13):YY13×(List YY2)×Int×Int→Option YY13:=fun (s_3,t39,t40,t41) =>
 bif (decide (t41<t40)) then
  (at? t39 t41).bind fun y5 =>
  next ((s_3.1,(s_3.2.1,((putKV eqS y5.1 y5 s_3.2.2.1),(s_3.2.2.2.1,s_3.2.2.2.2)))),t39,t40,(IntKind.i64.wrap (t41+(1:Int))))
 else
  some (s_3.1,(s_3.2.1,(s_3.2.2.1,(s_3.2.2.2.1,s_3.2.2.2.2))))
def ubby_:YY13×(List YY2)×Int×Int→Option YY13:=loopN ubzs_ fuel
def ubzt_ (next:YY4×YY13×(List YY16)×Int×Int→Option (YY4×YY13)):YY4×YY13×(List YY16)×Int×Int→Option (YY4×YY13):=fun (p_1,s_3,t55,t56,t57) =>
 bif (decide (t57<t56)) then
  (at? t55 t57).bind fun y7 =>
  bif (decide (y7.2.2≤p_1.2.1)) then
   next (p_1,(s_3.1,(s_3.2.1,(s_3.2.2.1,(s_3.2.2.2.1,(putKV (fun (x y:Str×Str×Int)=>eqS x.1 y.1&&(fun (x y:Str×Int)=>eqS x.1 y.1&&eqI x.2 y.2) x.2 y.2) (y7.1,(y7.2.1,(0:Int))) true s_3.2.2.2.2))))),t55,t56,(IntKind.i64.wrap (t57+(1:Int))))
  else
   next (p_1,(s_3.1,(s_3.2.1,(s_3.2.2.1,(s_3.2.2.2.1,s_3.2.2.2.2)))),t55,t56,(IntKind.i64.wrap (t57+(1:Int))))
 else
  some (p_1,(s_3.1,(s_3.2.1,(s_3.2.2.1,(s_3.2.2.2.1,s_3.2.2.2.2)))))
def ubbz_:YY4×YY13×(List YY16)×Int×Int→Option (YY4×YY13):=loopN ubzt_ fuel
def ubrk_:YY9×Int×YY40×(List YY17)×Int×(List Str)×(List YY29)→Option (Option YY1):=fun p_0 =>
 (ubbx_ ((p_0,(([]:List (Str×YY3)),(([]:List (Str×YY2)),(([]:List (Str×Bool)),([]:List (YY16×Bool)))))),p_0.2.2.1.2.1,(p_0.2.2.1.2.1.length:Int),(0:Int))).bind fun r4 =>
 (ubby_ ((r4.1,(r4.2.1,(r4.2.2.1,(r4.2.2.2.1,r4.2.2.2.2)))),p_0.1.2.2.2.1,(p_0.1.2.2.2.1.length:Int),(0:Int))).bind fun r6 =>
 (ubbz_ (p_0,(r6.1,(r6.2.1,(r6.2.2.1,(r6.2.2.2.1,r6.2.2.2.2)))),p_0.1.2.2.2.2,(p_0.1.2.2.2.2.length:Int),(0:Int))).bind fun r9 =>
 bif (eqI (r9.1.2.2.2.1.length:Int) (1:Int)) then
  (at? r9.1.2.2.2.1 (0:Int)).bind fun y10 =>
  none
 else
  some (some (r9.2.1,(r9.2.2.1,(r9.2.2.2.1,(r9.2.2.2.2.1,r9.2.2.2.2.2)))))
def ubo8_ (next:(List Int)×Int→Option (List Int)):(List Int)×Int→Option (List Int):=fun (s_0,k_3) =>
 bif (decide (k_3<(s_0.length:Int))) then
  (in? s_0.length k_3).bind fun _ =>
  (in? s_0.length (IntKind.i64.wrap (k_3-(1:Int)))).bind fun _ =>
  bif (eqI (s_0.getD k_3.toNat (0:Int)) (s_0.getD ((IntKind.i64.wrap (k_3-(1:Int))).toNat) (0:Int))) then
   none
  else
   next (s_0,(IntKind.i64.wrap (k_3+(1:Int))))
 else
  some s_0
def u15_:(List Int)×Int→Option (List Int):=loopN ubo8_ fuel
def ux0_:List Int→Option (List Int):=fun s_0 =>
 bif (decide ((s_0.length:Int)<(2:Int))) then
  some s_0
 else
  (u15_ (s_0,(1:Int))).bind fun r3 =>
  some r3
def ucb7_ (next:YY37×(List YY2)×Int×Int→Option YY37):YY37×(List YY2)×Int×Int→Option YY37:=fun (index_5,t17,t18,t19) =>
 bif (decide (t19<t18)) then
  (at? t17 t19).bind fun y1 =>
  next ((putKV eqS y1.1 t19 index_5),t17,t18,(IntKind.i64.wrap (t19+(1:Int))))
 else
  some index_5
def ubwd_:YY37×(List YY2)×Int×Int→Option YY37:=loopN ucb7_ fuel
def ucb8_ (next:Int×YY37×YY35×(List YY16)×Int×Int→Option YY35):Int×YY37×YY35×(List YY16)×Int×Int→Option YY35:=fun (scope_1,index_5,g_9,t43,t44,t45) =>
 bif (decide (t45<t44)) then
  (at? t43 t45).bind fun y5 =>
  bif (decide (scope_1<y5.2.2)) then
   next (scope_1,index_5,(g_9.1,(g_9.2.1,(g_9.2.2.1,g_9.2.2.2))),t43,t44,(IntKind.i64.wrap (t45+(1:Int))))
  else
   (in? g_9.2.2.1.length ((uck_ eqS y5.1 index_5).getD (0:Int))).bind fun _ =>
   (app? 24 (g_9.2.2.1.getD (((uck_ eqS y5.1 index_5).getD (0:Int)).toNat) ([]:List Int)) ([((uck_ eqS y5.2.1 index_5).getD (0:Int))]:List Int)).bind fun l7 =>
   (in? g_9.2.2.2.length ((uck_ eqS y5.2.1 index_5).getD (0:Int))).bind fun _ =>
   (app? 24 (g_9.2.2.2.getD (((uck_ eqS y5.2.1 index_5).getD (0:Int)).toNat) ([]:List Int)) ([((uck_ eqS y5.1 index_5).getD (0:Int))]:List Int)).bind fun l9 =>
   (in? g_9.2.2.1.length ((uck_ eqS y5.1 index_5).getD (0:Int))).bind fun _ =>
   (bif Nat.beq (((uck_ eqS y5.1 index_5).getD (0:Int)).toNat) (((uck_ eqS y5.1 index_5).getD (0:Int)).toNat) then some () else none).bind fun _ =>
   (in? g_9.2.2.2.length ((uck_ eqS y5.2.1 index_5).getD (0:Int))).bind fun _ =>
   (bif Nat.beq (((uck_ eqS y5.2.1 index_5).getD (0:Int)).toNat) (((uck_ eqS y5.2.1 index_5).getD (0:Int)).toNat) then some () else none).bind fun _ =>
   next (scope_1,index_5,(g_9.1,(g_9.2.1,((g_9.2.2.1.set (((uck_ eqS y5.1 index_5).getD (0:Int)).toNat) l7),(g_9.2.2.2.set (((uck_ eqS y5.2.1 index_5).getD (0:Int)).toNat) l9)))),t43,t44,(IntKind.i64.wrap (t45+(1:Int))))
 else
  some (g_9.1,(g_9.2.1,(g_9.2.2.1,g_9.2.2.2)))
def ubwe_:Int×YY37×YY35×(List YY16)×Int×Int→Option YY35:=loopN ucb8_ fuel
def ucb9_ (next:YY35×Int×Int→Option YY35):YY35×Int×Int→Option YY35:=fun (g_9,t86,t87) =>
 bif (decide (t87<t86)) then
  (in? g_9.2.2.1.length t87).bind fun _ =>
  (ux0_ (g_9.2.2.1.getD t87.toNat ([]:List Int))).bind fun r13 =>
  (in? g_9.2.2.2.length t87).bind fun _ =>
  (ux0_ (g_9.2.2.2.getD t87.toNat ([]:List Int))).bind fun r14 =>
  (in? g_9.2.2.1.length t87).bind fun _ =>
  (bif Nat.beq t87.toNat t87.toNat then some () else none).bind fun _ =>
  (in? g_9.2.2.2.length t87).bind fun _ =>
  (bif Nat.beq t87.toNat t87.toNat then some () else none).bind fun _ =>
  next ((g_9.1,(g_9.2.1,((g_9.2.2.1.set t87.toNat r13),(g_9.2.2.2.set t87.toNat r14)))),t86,(IntKind.i64.wrap (t87+(1:Int))))
 else
  some (g_9.1,(g_9.2.1,(g_9.2.2.1,g_9.2.2.2)))
def ubwf_:YY35×Int×Int→Option YY35:=loopN ucb9_ fuel
def ucai_:YY9×Int→Option YY39:=fun (b_0,scope_1) =>
 (ubwd_ (([]:List (Str×Int)),b_0.2.2.2.1,(b_0.2.2.2.1.length:Int),(0:Int))).bind fun r2 =>
 (mks? 24 (b_0.2.2.2.1.length:Int) (b_0.2.2.2.1.length:Int) ([]:List Int)).bind fun z3 =>
 (mks? 24 (b_0.2.2.2.1.length:Int) (b_0.2.2.2.1.length:Int) ([]:List Int)).bind fun z4 =>
 (ubwe_ (scope_1,r2,(b_0,(((uck_ eqS b_0.2.2.1 r2).getD (0:Int)),(z3,z4))),b_0.2.2.2.2,(b_0.2.2.2.2.length:Int),(0:Int))).bind fun r12 =>
 (ubwf_ ((r12.1,(r12.2.1,(r12.2.2.1,r12.2.2.2))),(b_0.2.2.2.1.length:Int),(0:Int))).bind fun r15 =>
 some (r15.1,(r15.2.1,(r15.2.2.1,r15.2.2.2)))
def ucmr_:YY9×Int→Option (YY39×Int):=fun (b_0,scope_1) =>
 (ub4q_ b_0).bind fun r1 =>
 bif (!(eqI r1 (0:Int))) then
  some (((([]:Str),(([]:Str),(([]:Str),(([]:List YY2),([]:List YY16))))),((0:Int),(([]:List (List Int)),([]:List (List Int))))),r1)
 else
  bif ((decide (scope_1<(1:Int)))||(decide ((4:Int)<scope_1))) then
   some (((([]:Str),(([]:Str),(([]:Str),(([]:List YY2),([]:List YY16))))),((0:Int),(([]:List (List Int)),([]:List (List Int))))),(9:Int))
  else
   (ucai_ (b_0,scope_1)).bind fun r5 =>
   some (r5,(0:Int))
def ujb_ (next:(List YY2)×Str×((YY2×Str)→Option Int)×Int×Int→Option (Int)):(List YY2)×Str×((YY2×Str)→Option Int)×Int×Int→Option (Int):=fun (x_0,target_1,cmp_2,i_9,j_10) =>
 bif (decide (i_9<j_10)) then
  (shr? IntKind.u64 (IntKind.u64.wrap (IntKind.i64.wrap (i_9+j_10))) (1:Int)).bind fun n1 =>
  (at? x_0 (IntKind.i64.wrap n1)).bind fun y2 =>
  (cmp_2 (y2,target_1)).bind fun r3 =>
  bif (decide (r3<(0:Int))) then
   next (x_0,target_1,cmp_2,(IntKind.i64.wrap ((IntKind.i64.wrap n1)+(1:Int))),j_10)
  else
   next (x_0,target_1,cmp_2,i_9,(IntKind.i64.wrap n1))
 else
  some i_9
def udl_:(List YY2)×Str×((YY2×Str)→Option Int)×Int×Int→Option (Int):=loopN ujb_ fuel
def uel_:(List YY2)×Str×((YY2×Str)→Option Int)→Option (Int×Bool):=fun (x_0,target_1,cmp_2) =>
 (udl_ (x_0,target_1,cmp_2,(0:Int),(x_0.length:Int))).bind fun r4 =>
 (bif (decide (r4<(x_0.length:Int))) then at? x_0 r4 else some (([]:Str),((([]:Str),(([]:Str),(([]:Str),(([]:Str),(([]:List (Str×Str)),([]:Str)))))),(([]:List (Str×Str)),(([]:Str),([]:List Str)))))).bind fun y5 =>
 (bif (decide (r4<(x_0.length:Int))) then cmp_2 (y5,target_1) else some (0:Int)).bind fun r6 =>
 some (r4,((decide (r4<(x_0.length:Int)))&&(eqI r6 (0:Int))))
def ub5z_:YY2×Str→Option (Int):=fun (c_0,s_1) =>
 (ubx_ (c_0.1,s_1)).bind fun r1 =>
 some r1
def ucip_:YY9×Str→Option (Int×Bool):=fun (b_0,ref_1) =>
 (uel_ (b_0.2.2.2.1,ref_1,(fun x=>(ub5z_ x).bind fun r=>some r))).bind fun r1 =>
 some (r1.1,r1.2)
def ucey_:YY9×Str×Int→Option (YY39×Int×Int):=fun (b_0,ref_1,scope_2) =>
 (ucmr_ (b_0,scope_2)).bind fun r1 =>
 bif (!(eqI r1.2 (0:Int))) then
  some (((([]:Str),(([]:Str),(([]:Str),(([]:List YY2),([]:List YY16))))),((0:Int),(([]:List (List Int)),([]:List (List Int))))),(0:Int),r1.2)
 else
  (ucip_ (b_0,ref_1)).bind fun r3 =>
  bif (!r3.2) then
   some (((([]:Str),(([]:Str),(([]:Str),(([]:List YY2),([]:List YY16))))),((0:Int),(([]:List (List Int)),([]:List (List Int))))),(0:Int),(4:Int))
  else
   some (r1.1,r3.1,(0:Int))
def ub50_ (next:(List Int)×Int×Int→Option (List Int)):(List Int)×Int×Int→Option (List Int):=fun (out_7,t17,t18) =>
 bif (decide (t18<t17)) then
  (in? out_7.length t18).bind fun _ =>
  next ((out_7.set t18.toNat (-1:Int)),t17,(IntKind.i64.wrap (t18+(1:Int))))
 else
  some out_7
def ublf_:(List Int)×Int×Int→Option (List Int):=loopN ub50_ fuel
def ub51_ (next:Int×(List Int)×(List Int)×Int×(List Int)×Int×Int→Option ((List Int)×(List Int))):Int×(List Int)×(List Int)×Int×(List Int)×Int×Int→Option ((List Int)×(List Int)):=fun (without_2,out_7,queue_9,i_10,t45,t46,t47) =>
 bif (decide (t47<t46)) then
  (at? t45 t47).bind fun y5 =>
  (in? out_7.length y5).bind fun _ =>
  bif ((decide ((out_7.getD y5.toNat (0:Int))<(0:Int)))&&(!(eqI y5 without_2))) then
   (in? out_7.length i_10).bind fun _ =>
   (in? out_7.length y5).bind fun _ =>
   (app? 24 queue_9 ([y5]:List Int)).bind fun l8 =>
   next (without_2,(out_7.set y5.toNat (IntKind.i64.wrap ((out_7.getD i_10.toNat (0:Int))+(1:Int)))),l8,i_10,t45,t46,(IntKind.i64.wrap (t47+(1:Int))))
  else
   next (without_2,out_7,queue_9,i_10,t45,t46,(IntKind.i64.wrap (t47+(1:Int))))
 else
  some (out_7,queue_9)
def ublg_:Int×(List Int)×(List Int)×Int×(List Int)×Int×Int→Option ((List Int)×(List Int)):=loopN ub51_ fuel
def ub52_ (next:YY27×Int×(List Int)×(List Int)→Option (List Int)):YY27×Int×(List Int)×(List Int)→Option (List Int):=fun (next_0,without_2,out_7,queue_9) =>
 bif (decide ((0:Int)<(queue_9.length:Int))) then
  (in? queue_9.length (0:Int)).bind fun _ =>
  (cut? queue_9 (1:Int) (queue_9.length:Int)).bind fun s10 =>
  (at? next_0 (queue_9.getD 0 (0:Int))).bind fun y11 =>
  (ublg_ (without_2,out_7,s10,(queue_9.getD 0 (0:Int)),y11,(y11.length:Int),(0:Int))).bind fun r12 =>
  next (next_0,without_2,r12.1,r12.2)
 else
  some out_7
def ublh_:YY27×Int×(List Int)×(List Int)→Option (List Int):=loopN ub52_ fuel
def ub18_:YY27×Int×Int→Option (List Int):=fun (next_0,from_1,without_2) =>
 (mks? 24 (next_0.length:Int) (next_0.length:Int) (0:Int)).bind fun z1 =>
 (ublf_ (z1,(z1.length:Int),(0:Int))).bind fun r2 =>
 bif (eqI from_1 without_2) then
  some r2
 else
  (in? r2.length from_1).bind fun _ =>
  (ublh_ (next_0,without_2,(r2.set from_1.toNat (0:Int)),([from_1]:List Int))).bind fun r13 =>
  some r13
def ubg0_:Int×(Option (List Int))×(Option Int)→Option (Bool):=fun (j_0,t1,t2) =>
 (t1).bind fun p1 =>
 (at? p1 j_0).bind fun y2 =>
 (t1).bind fun p3 =>
 (t2).bind fun p4 =>
 (at? p3 p4).bind fun y5 =>
 some (eqI y2 (IntKind.i64.wrap (y5-(1:Int))))
def ubig_ (next:(List Int)×YY48×Int×Int→Option YY24):(List Int)×YY48×Int×Int→Option YY24:=fun (s_0,f_1,t7,t8) =>
 bif (decide (t8<t7)) then
  (at? s_0 t8).bind fun y1 =>
  (f_1 y1).bind fun r2 =>
  bif r2 then
   some (.inr t8)
  else
   next (s_0,f_1,t7,(IntKind.i64.wrap (t8+(1:Int))))
 else
  some (.inl ())
def uwn_:(List Int)×YY48×Int×Int→Option YY24:=loopN ubig_ fuel
def u4j_:(List Int)×YY48→Option (Int):=fun (s_0,f_1) =>
 (uwn_ (s_0,f_1,(s_0.length:Int),(0:Int))).bind fun r3 =>
 match r3 with
 | .inl y4 =>
   some (-1:Int)
 | .inr y4' =>
   some y4'
def ub21_ (next:Int×YY39×(List Int)×(List Int)×Int→Option (List Int)):Int×YY39×(List Int)×(List Int)×Int→Option (List Int):=fun (to_1,g_2,d_5,out_6,i_7) =>
 bif (!(eqI i_7 to_1)) then
  (at? g_2.2.2.1 i_7).bind fun y3 =>
  (u4j_ (y3,(fun x=>(ubg0_ (x,(some d_5),(some i_7))).bind fun r=>some r))).bind fun r4 =>
  (at? g_2.2.2.1 i_7).bind fun y5 =>
  (at? y5 r4).bind fun y6 =>
  (app? 24 out_6 ([y6]:List Int)).bind fun l7 =>
  next (to_1,g_2,d_5,l7,y6)
 else
  some out_6
def ubg1_:Int×YY39×(List Int)×(List Int)×Int→Option (List Int):=loopN ub21_ fuel
def ubwg_:YY39×Int→Option (List Int):=fun (g_0,to_1) =>
 (ub18_ (g_0.2.2.2,to_1,(-1:Int))).bind fun r1 =>
 (at? r1 g_0.2.1).bind fun y2 =>
 bif (decide (y2<(0:Int))) then
  some ([]:List Int)
 else
  (ubg1_ (to_1,g_0,r1,([g_0.2.1]:List Int),g_0.2.1)).bind fun r8 =>
  some r8
def ub22_ (next:YY39×(List Str)×(List Int)×Int×Int→Option (List Str)):YY39×(List Str)×(List Int)×Int×Int→Option (List Str):=fun (g_2,out_5,t8,t9,t10) =>
 bif (decide (t10<t9)) then
  (at? t8 t10).bind fun y1 =>
  (at? g_2.1.2.2.2.1 y1).bind fun y2 =>
  (app? 24 out_5 ([y2.1]:List Str)).bind fun l3 =>
  next (g_2,l3,t8,t9,(IntKind.i64.wrap (t10+(1:Int))))
 else
  some out_5
def ubg2_:YY39×(List Str)×(List Int)×Int×Int→Option (List Str):=loopN ub22_ fuel
def ubwh_:YY39×(List Int)→Option (List Str):=fun (g_0,l_1) =>
 (ubg2_ (g_0,([]:List Str),l_1,(l_1.length:Int),(0:Int))).bind fun r4 =>
 some r4
def ucms_:YY9×Str×Int→Option ((List Str)×Bool×Int):=fun (b_0,to_1,scope_2) =>
 (ucey_ (b_0,to_1,scope_2)).bind fun r1 =>
 bif (!(eqI r1.2.2 (0:Int))) then
  some (([]:List Str),false,r1.2.2)
 else
  (ubwg_ (r1.1,r1.2.1)).bind fun r2 =>
  (ubwh_ (r1.1,r2)).bind fun r3 =>
  some (r3,(decide ((0:Int)<(r3.length:Int))),(0:Int))
def u8l_:(Option YY1)×YY29×YY3×YY2→Option (Bool):=fun (s_0,x_1,a_2,c_3) =>
 (bif (!(eqS x_1.1 a_2.1)) then uii_ (a_2.2.1,x_1.1) else some false).bind fun r1 =>
 (bif ((!((!(eqS x_1.1 a_2.1))&&(!r1)))&&(!(eqS x_1.2.1 ([]:Str)))) then s_0 else some (((([]:Str),(([]:Str),(([]:Str),(([]:List YY2),([]:List YY16))))),((0:Int),(((0:Int),(([]:List YY3),([]:List Int))),(([]:List YY17),((0:Int),(([]:List Str),([]:List YY29))))))),(([]:List (Str×YY3)),(([]:List (Str×YY2)),(([]:List (Str×Bool)),([]:List (YY16×Bool))))))).bind fun p2 =>
 bif (((!(eqS x_1.1 a_2.1))&&(!r1))||((!(eqS x_1.2.1 ([]:Str)))&&(!(eqS x_1.2.1 p2.1.1.1)))) then
  some false
 else
  none
def ubih_ (next:(Option YY1)×YY3×YY2×Int×(List YY29)×Int×Int→Option (Int)):(Option YY1)×YY3×YY2×Int×(List YY29)×Int×Int→Option (Int):=fun (s_0,a_4,c_5,best_7,t15,t16,t17) =>
 bif (decide (t17<t16)) then
  (at? t15 t17).bind fun y2 =>
  (u8l_ (s_0,y2,a_4,c_5)).bind fun r3 =>
  bif (!r3) then
   next (s_0,a_4,c_5,best_7,t15,t16,(IntKind.i64.wrap (t17+(1:Int))))
  else
   bif (decide (best_7<(0:Int))) then
    next (s_0,a_4,c_5,t17,t15,t16,(IntKind.i64.wrap (t17+(1:Int))))
   else
    (s_0).bind fun p4 =>
    (at? p4.1.2.2.2.2.2.2 best_7).bind fun y5 =>
    bif ((((eqS y2.1 y5.1)&&((eqS y2.2.1 y5.2.1)&&((eqS y2.2.2.1 y5.2.2.1)&&((eqI y2.2.2.2.1 y5.2.2.2.1)&&((eqI y2.2.2.2.2.1 y5.2.2.2.2.1)&&((eqI y2.2.2.2.2.2.1 y5.2.2.2.2.2.1)&&(eqI y2.2.2.2.2.2.2 y5.2.2.2.2.2.2)))))))||(decide (y5.2.2.2.2.2.2<y2.2.2.2.2.2.2)))||((eqI y2.2.2.2.2.2.2 y5.2.2.2.2.2.2)&&(decide (y5.2.2.2.2.2.1≤y2.2.2.2.2.2.1)))) then
     next (s_0,a_4,c_5,t17,t15,t16,(IntKind.i64.wrap (t17+(1:Int))))
    else
     next (s_0,a_4,c_5,best_7,t15,t16,(IntKind.i64.wrap (t17+(1:Int))))
 else
  some best_7
def uwo_:(Option YY1)×YY3×YY2×Int×(List YY29)×Int×Int→Option (Int):=loopN ubih_ fuel
def u4k_:(Option YY1)×YY3×YY2→Option (Int):=fun (s_0,a_1,c_2) =>
 (s_0).bind fun p1 =>
 (uwo_ (s_0,a_1,c_2,(-1:Int),p1.1.2.2.2.2.2.2,(p1.1.2.2.2.2.2.2.length:Int),(0:Int))).bind fun r8 =>
 some r8
def ugu_:(Option YY1)×YY16×YY3×YY2×(List Str)×Int×(List Str)→Option (List Str):=fun m_0 =>
 (at? m_0.2.2.1.2.2.2.2.2.2 m_0.2.1.2.2).bind fun y1 =>
 some y1.2.2.2.2
def ubb0_ (next:YY16×YY21×YY47×Int×Int→Option (YY16×YY21)):YY16×YY21×YY47×Int×Int→Option (YY16×YY21):=fun (h_3,m_5,t63,t64,t65) =>
 bif (decide (t65<t64)) then
  (at? t63 t65).bind fun y11 =>
  (bif (eqS y11.2.1 h_3.2.1) then ugu_ (m_5.1,(m_5.2.1,(m_5.2.2.1,(m_5.2.2.2.1,(m_5.2.2.2.2.1,(m_5.2.2.2.2.2.1,m_5.2.2.2.2.2.2)))))) else some ([]:List Str)).bind fun r13 =>
  (bif ((eqS y11.2.1 h_3.2.1)&&(!(eqI (r13.length:Int) (0:Int)))) then ugu_ (m_5.1,(m_5.2.1,(m_5.2.2.1,(m_5.2.2.2.1,(m_5.2.2.2.2.1,(m_5.2.2.2.2.2.1,m_5.2.2.2.2.2.2)))))) else some ([]:List Str)).bind fun r15 =>
  (bif ((eqS y11.2.1 h_3.2.1)&&(!(eqI (r13.length:Int) (0:Int)))) then uii_ (r15,y11.1) else some false).bind fun r16 =>
  bif ((eqS y11.2.1 h_3.2.1)&&((eqI (r13.length:Int) (0:Int))||r16)) then
   (app? 24 m_5.2.2.2.2.2.2 ([y11.1]:List Str)).bind fun l18 =>
   next (h_3,(m_5.1,(m_5.2.1,(m_5.2.2.1,(m_5.2.2.2.1,(m_5.2.2.2.2.1,(m_5.2.2.2.2.2.1,l18)))))),t63,t64,(IntKind.i64.wrap (t65+(1:Int))))
  else
   next (h_3,(m_5.1,(m_5.2.1,(m_5.2.2.1,(m_5.2.2.2.1,(m_5.2.2.2.2.1,(m_5.2.2.2.2.2.1,m_5.2.2.2.2.2.2)))))),t63,t64,(IntKind.i64.wrap (t65+(1:Int))))
 else
  some (h_3,(m_5.1,(m_5.2.1,(m_5.2.2.1,(m_5.2.2.2.1,(m_5.2.2.2.2.1,(m_5.2.2.2.2.2.1,m_5.2.2.2.2.2.2)))))))
def usk_:YY16×YY21×YY47×Int×Int→Option (YY16×YY21):=loopN ubb0_ fuel
def ubb1_ (next:YY16×YY21×(List YY17)×Int×Int→Option YY21):YY16×YY21×(List YY17)×Int×Int→Option YY21:=fun (h_3,m_5,t56,t57,t58) =>
 bif (decide (t58<t57)) then
  (at? t56 t58).bind fun y10 =>
  (usk_ (h_3,(m_5.1,(m_5.2.1,(m_5.2.2.1,(m_5.2.2.2.1,(m_5.2.2.2.2.1,(m_5.2.2.2.2.2.1,m_5.2.2.2.2.2.2)))))),y10.2.2.1,(y10.2.2.1.length:Int),(0:Int))).bind fun r19 =>
  next (r19.1,(r19.2.1,(r19.2.2.1,(r19.2.2.2.1,(r19.2.2.2.2.1,(r19.2.2.2.2.2.1,(r19.2.2.2.2.2.2.1,r19.2.2.2.2.2.2.2)))))),t56,t57,(IntKind.i64.wrap (t58+(1:Int))))
 else
  some (m_5.1,(m_5.2.1,(m_5.2.2.1,(m_5.2.2.2.1,(m_5.2.2.2.2.1,(m_5.2.2.2.2.2.1,m_5.2.2.2.2.2.2))))))
def usl_:YY16×YY21×(List YY17)×Int×Int→Option YY21:=loopN ubb1_ fuel
def uzi_:(Option YY1)×YY16→Option YY23:=fun (s_0,h_1) =>
 (s_0).bind fun p1 =>
 let v2:=((uck_ eqS h_1.1 p1.2.1).getD (([]:Str),(([]:List Str),(([]:Str),((0:Int),(false,(([]:Str),([]:List YY14))))))))
 (s_0).bind fun p3 =>
 let v4:=((uck_ eqS h_1.2.1 p3.2.2.1).getD (([]:Str),((([]:Str),(([]:Str),(([]:Str),(([]:Str),(([]:List (Str×Str)),([]:Str)))))),(([]:List (Str×Str)),(([]:Str),([]:List Str))))))
 (s_0).bind fun p5 =>
 (s_0).bind fun p6 =>
 (ucms_ (p5.1.1,h_1.2.1,p6.1.2.1)).bind fun r7 =>
 (u4k_ (s_0,v2,v4)).bind fun r8 =>
 (s_0).bind fun p9 =>
 (usl_ (h_1,(s_0,(h_1,(v2,(v4,(r7.1,(r8,([]:List Str))))))),p9.1.2.2.2.1,(p9.1.2.2.2.1.length:Int),(0:Int))).bind fun r20 =>
 some (r20.1,(r20.2.1,(r20.2.2.1,(r20.2.2.2.1,(r20.2.2.2.2.1,(r20.2.2.2.2.2.1,r20.2.2.2.2.2.2))))))
def ubg3_:(Option YY1)×YY16×YY3×YY2×(List Str)×Int×(List Str)→Option (Bool):=fun m_0 =>
 some (eqI (m_0.2.2.2.2.1.length:Int) (0:Int))
def uua_:YY23×Int×Int→Option (Bool):=fun (m_0,a_1,b_2) =>
 bif (decide (m_0.2.2.2.2.2.1<(0:Int))) then
  some false
 else
  (m_0.1).bind fun p1 =>
  (at? p1.1.2.2.2.2.2.2 m_0.2.2.2.2.2.1).bind fun y2 =>
  some ((eqI y2.2.2.2.1 a_1)||(eqI y2.2.2.2.1 b_2))
def ubg4_:(Option YY1)×YY16×YY3×YY2×(List Str)×Int×(List Str)→Option (Bool):=fun m_0 =>
 (uua_ (m_0,(3:Int),(4:Int))).bind fun r1 =>
 some r1
def ubb2_ (next:YY23×(List Str)×Int×Int→Option (Sum (Unit) Str)):YY23×(List Str)×Int×Int→Option (Sum (Unit) Str):=fun (m_1,t6,t7,t8) =>
 bif (decide (t8<t7)) then
  (at? t6 t8).bind fun y1 =>
  (m_1.1).bind fun p2 =>
  bif ((uck_ eqS y1 p2.2.2.2.1).getD false) then
   some (.inr y1)
  else
   next (m_1,t6,t7,(IntKind.i64.wrap (t8+(1:Int))))
 else
  some (.inl ())
def usm_:YY23×(List Str)×Int×Int→Option (Sum (Unit) Str):=loopN ubb2_ fuel
def unz_:(Option YY1)×YY16×YY3×YY2×(List Str)×Int×(List Str)→Option Str:=fun m_0 =>
 (usm_ (m_0,m_0.2.2.2.2.2.2,(m_0.2.2.2.2.2.2.length:Int),(0:Int))).bind fun r3 =>
 match r3 with
 | .inl y4 =>
   some ([]:Str)
 | .inr y4' =>
   some y4'
def ubg5_:(Option YY1)×YY16×YY3×YY2×(List Str)×Int×(List Str)→Option (Bool):=fun m_0 =>
 (unz_ m_0).bind fun r1 =>
 some (!(eqS r1 ([]:Str)))
def ubg6_:(Option YY1)×YY16×YY3×YY2×(List Str)×Int×(List Str)→Option (Bool):=fun m_0 =>
 (uua_ (m_0,(2:Int),(2:Int))).bind fun r1 =>
 some r1
def uub_:(Option YY1)×YY16×YY3×YY2×(List Str)×Int×(List Str)→Option (Bool):=fun m_0 =>
 (m_0.1).bind fun p1 =>
 let v2:=((eqI (p1.1.2.2.2.1.length:Int) (1:Int))&&(decide ((0:Int)<(m_0.2.2.2.2.2.2.length:Int))))
 (bif v2 then ugu_ m_0 else some ([]:List Str)).bind fun r3 =>
 some (v2&&(decide ((r3.length:Int)≤(m_0.2.2.2.2.2.2.length:Int))))
def ubwi_:Unit→Option (List YY46):=fun _ =>
 some ([((1:Int),(some (fun x=>(ubg3_ x).bind fun r=>some r))),((2:Int),(some (fun x=>(ubg4_ x).bind fun r=>some r))),((6:Int),(some (fun x=>(ubg5_ x).bind fun r=>some r))),((5:Int),(some (fun x=>(ubg6_ x).bind fun r=>some r))),((3:Int),(some (fun x=>(uub_ x).bind fun r=>some r)))]:List YY46)
def ubii_ (next:YY23×(List YY46)×Int×Int→Option YY24):YY23×(List YY46)×Int×Int→Option YY24:=fun (m_1,t5,t6,t7) =>
 bif (decide (t7<t6)) then
  (at? t5 t7).bind fun y2 =>
  (y2.2.bind (fun F=>F m_1)).bind fun r3 =>
  bif r3 then
   some (.inr y2.1)
  else
   next (m_1,t5,t6,(IntKind.i64.wrap (t7+(1:Int))))
 else
  some (.inl ())
def uwp_:YY23×(List YY46)×Int×Int→Option YY24:=loopN ubii_ fuel
def u4l_:(Option YY1)×YY16×YY3×YY2×(List Str)×Int×(List Str)→Option (Int):=fun m_0 =>
 (ubwi_ ()).bind fun r1 =>
 (uwp_ (m_0,r1,(r1.length:Int),(0:Int))).bind fun r4 =>
 match r4 with
 | .inl y5 =>
   some (4:Int)
 | .inr y5' =>
   some y5'
def u4m_:(Option YY1)×YY16×YY3×YY2×(List Str)×Int×(List Str)→Option (Int):=fun m_0 =>
 bif (eqS m_0.2.2.1.2.2.2.2.2.1 ([]:Str)) then
  some (100:Int)
 else
  (ubd1_ m_0.2.2.1.2.2.2.2.2.1).bind fun r1 =>
  some r1.1
def uzj_:(Option YY1)×YY16×YY3×YY2×(List Str)×Int×(List Str)→Option YY5:=fun m_0 =>
 (u4l_ m_0).bind fun r1 =>
 (u4m_ m_0).bind fun r2 =>
 let v3:=(m_0.2.1.1,(m_0.2.1.2.1,(m_0.2.1.2.2,(r1,(r2,(m_0.2.2.2.2.1,(([]:Str),(([]:List YY30),m_0.2.2.2.2.2.1))))))))
 bif (eqI v3.2.2.2.1 (6:Int)) then
  (unz_ m_0).bind fun r4 =>
  (m_0.1).bind fun p5 =>
  (at? p5.1.2.2.2.1 (0:Int)).bind fun y6 =>
  (m_0.1).bind fun p7 =>
  (m_0.1).bind fun p8 =>
  none
 else
  some v3
def ub53_ (next:(Option YY1)×(List YY5)×(List YY16)×Int×Int→Option (List YY5)):(Option YY1)×(List YY5)×(List YY16)×Int×Int→Option (List YY5):=fun (s_8,out_9,t30,t31,t32) =>
 bif (decide (t32<t31)) then
  (at? t30 t32).bind fun y4 =>
  (uzi_ (s_8,y4)).bind fun r5 =>
  (uzj_ r5).bind fun r6 =>
  (app? 216 out_9 ([r6]:List YY5)).bind fun l8 =>
  next (s_8,l8,t30,t31,(IntKind.i64.wrap (t32+(1:Int))))
 else
  some out_9
def ubli_:(Option YY1)×(List YY5)×(List YY16)×Int×Int→Option (List YY5):=loopN ub53_ fuel
def ub19_:YY9×Int×YY40×(List YY17)×Int×(List Str)×(List YY29)→Option ((Option YY1)×(List YY5)×Int):=fun p_0 =>
 (ub16_ p_0).bind fun r1 =>
 bif (!(eqI r1 (0:Int))) then
  some ((none:Option YY1),([]:List YY5),r1)
 else
  (ubwc_ (p_0.2.2.1,p_0.1)).bind fun r2 =>
  bif (!(eqI r2.2 (0:Int))) then
   some ((none:Option YY1),([]:List YY5),r2.2)
  else
   (ubrk_ p_0).bind fun r3 =>
   (ubli_ (r3,([]:List YY5),r2.1,(r2.1.length:Int),(0:Int))).bind fun r9 =>
   some (r3,r9,(0:Int))
def ublj_:YY9×Int×YY40×(List YY17)×Int×(List Str)×(List YY29)→Option ((List YY5)×Int):=fun p_0 =>
 (ub19_ p_0).bind fun r1 =>
 some (r1.2.1,r1.2.2)
def ucmt_:Unit→Option (Bool):=fun _ =>
 (ucmq_ ()).bind fun r1 =>
 (ublj_ r1).bind fun r2 =>
 let v3:=((eqI r2.2 (0:Int))&&(eqI (r2.1.length:Int) (1:Int)))
 (bif v3 then at? r2.1 (0:Int) else some (([]:Str),(([]:Str),((0:Int),((0:Int),((0:Int),(([]:List Str),(([]:Str),(([]:List YY30),(0:Int)))))))))).bind fun y4 =>
 (bif (v3&&(eqI y4.2.2.2.2.1 (34:Int))) then at? r2.1 (0:Int) else some (([]:Str),(([]:Str),((0:Int),((0:Int),((0:Int),(([]:List Str),(([]:Str),(([]:List YY30),(0:Int)))))))))).bind fun y5 =>
 some ((v3&&(eqI y4.2.2.2.2.1 (34:Int)))&&(eqI y5.2.2.2.1 (4:Int)))
def uj2_:(List YY5)×YY5→Option (Bool):=fun (l_0,x_1) =>
 (u3t_ x_1).bind fun r1 =>
 (ucmp_ x_1).bind fun r2 =>
 (ush_ l_0).bind fun r3 =>
 (ucb0_ l_0).bind fun r4 =>
 (u7z_ l_0).bind fun r5 =>
 (ucb1_ l_0).bind fun r6 =>
 (u72_ l_0).bind fun r7 =>
 (ucb2_ l_0).bind fun r8 =>
 let v9:=((((eqI r1.1 r2.1)&&(eqI r1.2 r2.2))&&(eqI r3.1 r4.1))&&(eqI r3.2 r4.2))
 (bif v9 then um2_ (r5.1,r6.1) else some false).bind fun r10 =>
 (bif (v9&&r10) then unw_ (r5.2.1,r6.2.1) else some false).bind fun r11 =>
 (bif (((v9&&r10)&&r11)&&(eqI r5.2.2 r6.2.2)) then unw_ (r7.1,r8.1) else some false).bind fun r12 =>
 let v13:=(((((v9&&r10)&&r11)&&(eqI r5.2.2 r6.2.2))&&r12)&&(eqI r7.2 r8.2))
 (bif v13 then ucmt_ () else some false).bind fun r14 =>
 some (v13&&r14)
end
end Go.Ev.Pv
