/-
  The program's functions as plain Lean functions (printed by a program of the author's from the translation).
-/
import Derived.Test.YthmppjbjlbaahaaGreatDoorE3
import Derived.Lib.AtoiAll
import Derived.Lib.ItoaNum
import Derived.Lib.Strings
import Derived.Lib.Join
import Derived.Lib.Split
import Derived.Lib.Repeat
import Derived.Lib.FieldsP
import Derived.Lib.MapU
import Derived.Lib.LastIndexByte
import Derived.Lib.Bytealg
import Derived.Lib.IndexMore
import Derived.Lib.CountLaws
import Derived.Lib.BitFns
import Derived.Sort.Defs
set_option linter.unusedVariables false
set_option linter.unusedSimpArgs false
set_option linter.unusedSectionVars false
set_option maxRecDepth 100000
namespace Go.Ev.Pv
def fuel : Nat := 18446744073709551616
end Go.Ev.Pv
namespace Go.Ev.Pv
def str? (s : Str) : Option Str := bif decide (s.length ≤ 281474976710656) then some s else none
theorem str?_some {s r : Str} (h : str? s = some r) : r = s ∧ s.length ≤ 281474976710656 := by
 unfold str? at h
 cases hd : decide (s.length ≤ 281474976710656) with
 | false => rw [hd] at h; cases h
 | true => rw [hd] at h; cases h; exact ⟨rfl, of_decide_eq_true hd⟩
def ifB {α : Type} (c : Prop) [Decidable c] (x : Option α) : Option α := bif decide c then x else none
theorem u68_ {α : Type} {c : Prop} {_ : Decidable c} {x : Option α} {r : α} (h : ifB c x = some r) : c ∧ x = some r := by
 unfold ifB at h
 cases hd : decide c with
 | false => rw [hd] at h; cases h
 | true => rw [hd] at h; exact ⟨of_decide_eq_true hd, h⟩
def decS : Nat → Nat → Str
 | 0, _ => []
 | k + 1, u => if u < 10 then [UInt8.ofNat (48 + u)] else decS k (u / 10) ++ [UInt8.ofNat (48 + u % 10)]
theorem ub96_ : ∀ (k u : Nat), u < 10 ^ k → 1 ≤ k → decS k u = Lib.decDigits u := by
 intro k
 induction k with
 | zero => intro u _ h; omega
 | succ k ih =>
   intro u hu _
   rw [Lib.decDigits]
   simp only [decS]
   by_cases h : u < 10
   · rw [if_pos h, dif_pos h]
   · rw [if_neg h, dif_neg h]
     have hk : 1 ≤ k := by
      rcases k with _ | k
      · simp at hu; omega
      · omega
     rw [ih (u / 10) (by rw [Nat.pow_succ] at hu; omega) hk]
def itoaS (n : Int) : Str := if n < 0 then 45 :: decS 20 n.natAbs else decS 20 n.toNat
theorem ucbh_ {n : Int} (h0 : -9223372036854775808 ≤ n) (h1 : n ≤ 9223372036854775807) : itoaS n = Lib.itoa n := by
 unfold itoaS Lib.itoa
 rw [ub96_ 20 n.natAbs (by omega) (by decide), ub96_ 20 n.toNat (by omega) (by decide)]
theorem ub7c_ : ∀ (k u : Nat), (decS k u).length ≤ k := by
 intro k
 induction k with
 | zero => intro u; exact Nat.le_refl _
 | succ k ih =>
   intro u
   simp only [decS]
   split
   · simp
   · have := ih (u / 10); simp only [List.length_append, List.length_cons, List.length_nil]; omega
theorem ub4i_ (n : Int) : (itoaS n).length ≤ 21 := by
 unfold itoaS
 split
 · have := ub7c_ 20 n.natAbs; simp only [List.length_cons]; omega
 · have := ub7c_ 20 n.toNat; omega
def strings_Join : (List (List UInt8)) × (List UInt8) → Option (List UInt8) := fun x => ifB (x.1.length ≤ 140737488355328 ∧ (Lib.join x.1 x.2).length ≤ 140737488355328) (some (Lib.join x.1 x.2))
def url_ : List UInt8 → Option (List UInt8) := fun s => ifB (s.length < 35184372088832) (str? (Lib.toLowerD s))
def strconv_Itoa : Int → Option (List UInt8) := fun n => some (itoaS n)
def strings_IndexByte : (List UInt8) × Int → Option (Int) := fun x => ifB (x.1.length < 4611686018427387904) (some (Lib.indexByte x.1 x.2.toNat.toUInt8))
def strings_LastIndexByte : (List UInt8) × Int → Option (Int) := fun x => ifB (x.1.length < 4611686018427387904) (some (Lib.lastIndexByte ⟨x.1.toArray⟩ x.2))
def strings_Cut : (List UInt8) × (List UInt8) → Option ((List UInt8) × (List UInt8) × Bool) := fun x => ifB (x.1.length < 4294967281) (some (Lib.cut x.1 x.2))
def strings_Repeat : (List UInt8) × Int → Option (List UInt8) := fun x => ifB (0 ≤ x.2 ∧ x.1.length * x.2.toNat ≤ 140737488355328) (some (Lib.repeatL x.1 x.2.toNat))
def strings_Split : (List UInt8) × (List UInt8) → Option (List (List UInt8)) := fun x =>
 ifB (x.1.length < 4294967281 ∧ 1 ≤ x.2.length) (some ((Lib.splitB ⟨x.2.toArray⟩ 0 (Lib.countB ⟨x.1.toArray⟩ ⟨x.2.toArray⟩) ⟨x.1.toArray⟩).map fun b => b.data.toList))
def ubax_ : List UInt8 → Option (Int × Unit) := fun s => ifB (s.length ≤ 281474976710656) (match Lib.atoiAll s with
 | .ok v => some (v, ())
 | .range => some (Lib.atoiSat s, ())
 | _ => some (0, ()))
noncomputable def uhl_ : (List UInt8) × (Int → Option Bool) → Option (List (List UInt8)) := fun x =>
 @ifB _ (x.1.length ≤ 4294967296 ∧ (∀ r : Nat, r ≤ 1114111 → ∃ b, x.2 (r : Int) = some b) ∧ (Lib.goFieldsP (fun r => (x.2 (r : Int)).getD false) ⟨x.1.toArray⟩).length ≤ 281474976710656) (Classical.propDecidable _) (some ((Lib.goFieldsP (fun r => (x.2 (r : Int)).getD false) ⟨x.1.toArray⟩).map fun b => b.data.toList))
def strings_HasPrefix : (List UInt8) × (List UInt8) → Option (Bool) := fun x => some (Lib.hasPrefix x.1 x.2)
def strings_TrimPrefix : (List UInt8) × (List UInt8) → Option (List UInt8) := fun x => some (Lib.trimPrefix x.1 x.2)
def strings_CutPrefix : (List UInt8) × (List UInt8) → Option ((List UInt8) × Bool) := fun x => some (Lib.trimPrefix x.1 x.2, Lib.hasPrefix x.1 x.2)
def strings_Contains : (List UInt8) × (List UInt8) → Option (Bool) := fun x => ifB (x.1.length < 4294967281) (some (Lib.contains x.1 x.2))
def ugr_ : List Int → Option (List Int) := fun xs => some xs
def ub4_ : List Int → Option (List UInt8) := fun xs => some (strOf xs)
section
variable {T : Type}
def cfAt (xs : List T) (F : T × T → Option Int) (i j : Fin xs.length) : Int := (F (xs.get i, xs.get j)).getD 0
def ltAt (xs : List T) (F : T × T → Option Int) (i j : Fin xs.length) : Bool := decide (cfAt xs F i j < 0)
def ubqs_ (xs : List T) (F : T × T → Option Int) : Prop :=
 (∀ i j : Fin xs.length, (F (xs.get i, xs.get j)).isSome = true) ∧ (∀ i : Fin xs.length, ltAt xs F i i = false) ∧
 (∀ i j k : Fin xs.length, ltAt xs F i j = true → ltAt xs F j k = true → ltAt xs F i k = true) ∧ (∀ i j k : Fin xs.length, ltAt xs F i j = false → ltAt xs F j k = false → ltAt xs F i k = false)
instance {xs : List T} {F : T × T → Option Int} : Decidable (ubqs_ xs F) := by unfold ubqs_; infer_instance
def insS {α : Type} [Inhabited α] (lt : α → α → Bool) : Nat → Nat → Array α → Array α
 | 0, _, d => d
 | n + 1, i, d => insS lt n (i + 1) (Sort.insInner lt 0 i d)
theorem uccm_ {α : Type} [Inhabited α] (lt : α → α → Bool) : ∀ (n i : Nat) (d : Array α), Sort.insOuter lt 0 (i + n) i d = insS lt n i d := by
 intro n
 induction n with
 | zero => intro i d; rw [Sort.insOuter, if_neg (by omega)]; rfl
 | succ n ih => intro i d; rw [Sort.insOuter, if_pos (by omega), show i + (n + 1) = (i + 1) + n by omega, ih]; rfl
def ubl0_ (xs : List T) (F : T × T → Option Int) (h : 0 < xs.length) : Array (Fin xs.length) :=
 haveI : Inhabited (Fin xs.length) := ⟨⟨0, h⟩⟩
 if xs.length ≤ 12 then insS (ltAt xs F) (xs.length - 1) 1 (Array.ofFn id) else Sort.pdq (ltAt xs F) (Array.ofFn id) 0 xs.length (Lib.bitLen xs.length) true true
theorem ub88_ {α : Type} [Inhabited α] (lt : α → α → Bool) (d : Array α) (n lim : Nat) (h : 0 < n) (h12 : n ≤ 12) : Sort.pdq lt d 0 n lim true true = insS lt (n - 1) 1 d := by
 rw [Sort.pdq, if_pos (by omega), Sort.insertionSort]
 have := uccm_ lt (n - 1) 1 d
 rw [show 1 + (n - 1) = n by omega] at this
 exact this
theorem ub4j_ (xs : List T) (F : T × T → Option Int) (h : 0 < xs.length) :
 ubl0_ xs F h = @Sort.pdq _ ⟨⟨0, h⟩⟩ (ltAt xs F) (Array.ofFn id) 0 xs.length (Lib.bitLen xs.length) true true := by
 unfold ubl0_
 split
 · rename_i h12
   exact (@ub88_ _ ⟨⟨0, h⟩⟩ (ltAt xs F) (Array.ofFn id) xs.length _ h h12).symm
 · rfl
def ubxa_ (xs : List T) (F : T × T → Option Int) : Option (List T) :=
 if h : 0 < xs.length then ifB (ubqs_ xs F) (some ((ubl0_ xs F h).toList.map xs.get)) else some []
end
def umx_ : (List (((List UInt8) × (List (List UInt8)) × (List UInt8) × Int × Bool × (List UInt8) × (List ((List UInt8) × Int × (List (Int × (List UInt8))) × (List (List UInt8)) × (List (List UInt8))))) × Int)) × (((((List UInt8) × (List (List UInt8)) × (List UInt8) × Int × Bool × (List UInt8) × (List ((List UInt8) × Int × (List (Int × (List UInt8))) × (List (List UInt8)) × (List (List UInt8))))) × Int) × (((List UInt8) × (List (List UInt8)) × (List UInt8) × Int × Bool × (List UInt8) × (List ((List UInt8) × Int × (List (Int × (List UInt8))) × (List (List UInt8)) × (List (List UInt8))))) × Int)) → Option Int) → Option (List (((List UInt8) × (List (List UInt8)) × (List UInt8) × Int × Bool × (List UInt8) × (List ((List UInt8) × Int × (List (Int × (List UInt8))) × (List (List UInt8)) × (List (List UInt8))))) × Int)) := fun v => ubxa_ v.1 v.2
def ugk_ : (List ((Int × (List UInt8) × Bool × (List UInt8)) × (Int × (List UInt8) × Bool × (List UInt8)))) × ((((Int × (List UInt8) × Bool × (List UInt8)) × (Int × (List UInt8) × Bool × (List UInt8))) × ((Int × (List UInt8) × Bool × (List UInt8)) × (Int × (List UInt8) × Bool × (List UInt8)))) → Option Int) → Option (List ((Int × (List UInt8) × Bool × (List UInt8)) × (Int × (List UInt8) × Bool × (List UInt8)))) := fun v => ubxa_ v.1 v.2
def uor_ : (List ((List UInt8) × (List (List UInt8)) × (List UInt8) × Int × Bool × (List UInt8) × (List ((List UInt8) × Int × (List (Int × (List UInt8))) × (List (List UInt8)) × (List (List UInt8)))))) × ((((List UInt8) × (List (List UInt8)) × (List UInt8) × Int × Bool × (List UInt8) × (List ((List UInt8) × Int × (List (Int × (List UInt8))) × (List (List UInt8)) × (List (List UInt8))))) × ((List UInt8) × (List (List UInt8)) × (List UInt8) × Int × Bool × (List UInt8) × (List ((List UInt8) × Int × (List (Int × (List UInt8))) × (List (List UInt8)) × (List (List UInt8)))))) → Option Int) → Option (List ((List UInt8) × (List (List UInt8)) × (List UInt8) × Int × Bool × (List UInt8) × (List ((List UInt8) × Int × (List (Int × (List UInt8))) × (List (List UInt8)) × (List (List UInt8)))))) := fun v => ubxa_ v.1 v.2
end Go.Ev.Pv
namespace Go.Ev.Pv
abbrev YY23 := (List (Int × Str))
abbrev YY5 := (Str × Int × YY23 × (List Str) × (List Str))
abbrev YY1 := (Str × (List Str) × Str × Int × Bool × Str × (List YY5))
abbrev YY2 := (Int × Str × Str × Int)
abbrev YY26 := ((List Int) × (List Str))
abbrev YY30 := (Int × Str × Str × Bool)
abbrev YY9 := (Int × (List Int) × Int × Int × Int × Int × (List Str))
abbrev YY18 := (Bool × Str × Int)
abbrev YY3 := (Sum YY26 (Sum YY30 (Sum YY9 (Sum (List YY18) (Sum Int Unit)))))
abbrev YY25 := (Bool × Bool × Str)
abbrev YY4 := (YY25 × YY25)
abbrev YY6 := (List (Str × Str))
abbrev YY31 := (Int × Str × Bool × Str)
abbrev YY7 := (YY31 × YY31)
abbrev YY8 := (((Str × Str) × (Str × Str)) → Option Int)
abbrev YY10 := (Str × Int × Int)
abbrev YY11 := ((YY2 × YY2) → Option Int)
abbrev YY12 := (Str × (Str × (Str × (Str × (YY6 × Str)))))
abbrev YY13 := ((Str × Str) × (Str × Str) → Option Int)
abbrev YY14 := (Int × (List YY4))
abbrev YY15 := (Str × Str × Str × Str × YY6 × Str)
abbrev YY16 := (Int × (List YY1) × (List Int))
abbrev YY17 := (Int × Int × (List YY1) × (List Str))
abbrev YY19 := (YY2 × YY2 → Option Int)
abbrev YY20 := (List (Str × Bool))
abbrev YY21 := (Int × ((List YY1) × (List Int)))
abbrev YY22 := (Sum (Unit) (Bool))
abbrev YY24 := (Sum (Unit) (Int))
abbrev YY27 := (Str × Int × Bool × Bool × Int)
abbrev YY28 := ((List Str) × Bool)
abbrev YY29 := ((List YY2) × Int)
abbrev YY32 := (List (YY1 × Int))
abbrev YY33 := (Int × (Int × ((List YY1) × (List Str))))
abbrev YY34 := (Int → Option Bool)
abbrev YY35 := (List (List (Int × Int)))
noncomputable def ubfz_ (next : Str × Int × Int → Option YY22) : Str × Int × Int → Option YY22 := fun (s_0, t6, t7) =>
 bif (decide (t7 < t6)) then
  (at? s_0 t7).bind fun b1 =>
  bif (!(((((((decide ((97 : Int) ≤ (b1.toNat : Int))) && (decide ((b1.toNat : Int) ≤ (122 : Int)))) || ((decide ((65 : Int) ≤ (b1.toNat : Int))) && (decide ((b1.toNat : Int) ≤ (90 : Int))))) || ((decide ((48 : Int) ≤ (b1.toNat : Int))) && (decide ((b1.toNat : Int) ≤ (57 : Int))))) || (eqI (b1.toNat : Int) (46 : Int))) || (eqI (b1.toNat : Int) (45 : Int))) || (eqI (b1.toNat : Int) (95 : Int)))) then
   some (.inr false)
  else
   next (s_0, t6, (IntKind.i64.wrap (t7 + (1 : Int))))
 else
  some (.inl ())
noncomputable def u2m_ : Str × Int × Int → Option YY22 := loopN ubfz_ fuel
noncomputable def utd_ : Str → Option (Bool) := fun s_0 =>
 (u2m_ (s_0, (s_0.length : Int), (0 : Int))).bind fun r6 =>
 match r6 with
 | .inl y7 =>
   some ((!(eqS s_0 ([] : Str))) && (decide ((s_0.length : Int) ≤ (60 : Int))))
 | .inr y7' =>
   some y7'
noncomputable def ut7_ (next : YY1 × (List Str) × Int × Int → Option YY24) : YY1 × (List Str) × Int × Int → Option YY24 := fun (a_1, t10, t11, t12) =>
 bif (decide (t12 < t11)) then
  (at? t10 t12).bind fun y1 =>
  (utd_ y1).bind fun r2 =>
  bif (!r2) then
   some (.inr (8 : Int))
  else
   bif (eqS y1 a_1.1) then
    some (.inr (5 : Int))
   else
    (bif (decide ((0 : Int) < t12)) then at? a_1.2.1 (IntKind.i64.wrap (t12 - (1 : Int))) else some ([] : Str)).bind fun y3 =>
    bif ((decide ((0 : Int) < t12)) && (Op.bytesLess y1 y3 || eqS y1 y3)) then
     some (.inr (10 : Int))
    else
     next (a_1, t10, t11, (IntKind.i64.wrap (t12 + (1 : Int))))
 else
  some (.inl ())
noncomputable def uls_ : YY1 × (List Str) × Int × Int → Option YY24 := loopN ut7_ fuel
noncomputable def ujx_ : Str × (List Str) × Str × Int × Bool × Str × (List YY5) → Option (Int) := fun a_0 =>
 bif (decide ((20 : Int) < (a_0.2.1.length : Int))) then
  some (3 : Int)
 else
  (uls_ (a_0, a_0.2.1, (a_0.2.1.length : Int), (0 : Int))).bind fun r5 =>
  match r5 with
  | .inl y6 =>
    some (0 : Int)
  | .inr y6' =>
    some y6'
noncomputable def ut8_ : Unit → Option YY35 := fun _ =>
 let v1 := (putKV eqI (76 : Int) (22 : Int) (putKV eqI (72 : Int) (56 : Int) ([] : List (Int × Int))))
 some ([(putKV eqI (80 : Int) (20 : Int) (putKV eqI (76 : Int) (55 : Int) (putKV eqI (65 : Int) (62 : Int) (putKV eqI (78 : Int) (85 : Int) ([] : List (Int × Int)))))), (putKV eqI (72 : Int) (44 : Int) (putKV eqI (76 : Int) (77 : Int) ([] : List (Int × Int)))), (putKV eqI (72 : Int) (27 : Int) (putKV eqI (76 : Int) (62 : Int) (putKV eqI (78 : Int) (85 : Int) ([] : List (Int × Int))))), (putKV eqI (78 : Int) (0 : Int) v1), (putKV eqI (78 : Int) (0 : Int) v1), (putKV eqI (78 : Int) (0 : Int) v1)] : List (List (Int × Int)))
noncomputable def ubc7_ (next : Str × (List Int) × YY35 × Int → Option (Sum (List Int) (Int × Int))) : Str × (List Int) × YY35 × Int → Option (Sum (List Int) (Int × Int)) := fun (vector_0, w_5, t16, t17) =>
 bif (decide (t17 < (6 : Int))) then
  (at? t16 t17).bind fun y2 =>
  (at? vector_0 t17).bind fun b3 =>
  bif (!(uyn_ eqI (b3.toNat : Int) y2).isSome) then
   some (.inr ((0 : Int), (7 : Int)))
  else
   (in? 6 t17).bind fun _ =>
   next (vector_0, (w_5.set t17.toNat ((uyn_ eqI (b3.toNat : Int) y2).getD (0 : Int))), t16, (IntKind.i64.wrap (t17 + (1 : Int))))
 else
  some (.inl w_5)
noncomputable def uz5_ : Str × (List Int) × YY35 × Int → Option (Sum (List Int) (Int × Int)) := loopN ubc7_ fuel
noncomputable def ut9_ : Str → Option (Int × Int) := fun vector_0 =>
 (ut8_ ()).bind fun r1 =>
 bif (!(eqI (vector_0.length : Int) (6 : Int))) then
  some ((0 : Int), (2 : Int))
 else
  (uz5_ (vector_0, (List.replicate 6 (0 : Int)), r1, (0 : Int))).bind fun r4 =>
  match r4 with
  | .inl y5 =>
    let v7 := (IntKind.i64.wrap ((IntKind.i64.wrap ((IntKind.i64.wrap ((100 : Int) - (y5.getD 3 (0 : Int)))) * (IntKind.i64.wrap ((100 : Int) - (y5.getD 4 (0 : Int)))))) * (IntKind.i64.wrap ((100 : Int) - (y5.getD 5 (0 : Int))))))
    bif (eqI (IntKind.i64.wrap ((1000000 : Int) - v7)) (0 : Int)) then
     some ((0 : Int), (0 : Int))
    else
     (div? IntKind.i64 (IntKind.i64.wrap ((IntKind.i64.wrap ((IntKind.i64.wrap ((10 : Int) * (IntKind.i64.wrap ((IntKind.i64.wrap ((642 : Int) * (IntKind.i64.wrap ((1000000 : Int) - v7)))) + (IntKind.i64.wrap ((IntKind.i64.wrap ((IntKind.i64.wrap ((822 : Int) * (y5.getD 0 (0 : Int)))) * (y5.getD 1 (0 : Int)))) * (y5.getD 2 (0 : Int)))))))) + (100000000 : Int))) - (1 : Int))) (100000000 : Int)).bind fun q12 =>
     some ((minI (100 : Int) q12), (0 : Int))
  | .inr y5' =>
    some (y5'.1, y5'.2)
noncomputable def ubsp_ (next : (List Int) × Int × Int → Option (List Int)) : (List Int) × Int × Int → Option (List Int) := fun (b_3, t9, t10) =>
 bif (decide (t10 < t9)) then
  (in? b_3.length t10).bind fun _ =>
  bif ((decide ((65 : Int) ≤ (b_3.getD t10.toNat (0 : Int)))) && (decide ((b_3.getD t10.toNat (0 : Int)) ≤ (90 : Int)))) then
   (in? b_3.length t10).bind fun _ =>
   next ((b_3.set t10.toNat (IntKind.u8.wrap ((IntKind.u8.wrap ((b_3.getD t10.toNat (0 : Int)) + (97 : Int))) - (65 : Int)))), t9, (IntKind.i64.wrap (t10 + (1 : Int))))
  else
   next (b_3, t9, (IntKind.i64.wrap (t10 + (1 : Int))))
 else
  some b_3
noncomputable def ubf0_ : (List Int) × Int × Int → Option (List Int) := loopN ubsp_ fuel
noncomputable def u2n_ : Str → Option Str := fun s_0 =>
 (ubf0_ ((ues_ s_0), ((ues_ s_0).length : Int), (0 : Int))).bind fun r3 =>
 (cat? [] (strOf r3)).bind fun s4 =>
 some s4
noncomputable def ufe_ : YY10 × Int → Option YY10 := fun (r_0, at_1) =>
 bif (decide (r_0.2.2 < (0 : Int))) then
  some (r_0.1, (r_0.2.1, at_1))
 else
  some r_0
noncomputable def uec_ : Option YY10 → Option (Int) := fun r_0 =>
 (r_0).bind fun p1 =>
 (r_0).bind fun p2 =>
 bif (decide (p1.2.1 < (p2.1.length : Int))) then
  (r_0).bind fun p3 =>
  (r_0).bind fun p4 =>
  (at? p3.1 p4.2.1).bind fun b5 =>
  some (b5.toNat : Int)
 else
  some (0 : Int)
noncomputable def uyp_ : Int → Option (Bool) := fun c_0 =>
 some (((decide ((97 : Int) ≤ c_0)) && (decide (c_0 ≤ (122 : Int)))) || ((decide ((65 : Int) ≤ c_0)) && (decide (c_0 ≤ (90 : Int)))))
noncomputable def u5t_ (next : YY10 × Int → Option (Sum YY10 (YY10 × Str))) : YY10 × Int → Option (Sum YY10 (YY10 × Str)) := fun (r_0, t7) =>
 bif (decide (t7 < (4 : Int))) then
  (bif (!(decide ((r_0.1.length : Int) ≤ t7))) then cut? r_0.1 t7 (IntKind.i64.wrap (t7 + (1 : Int))) else some ([] : Str)).bind fun s1 =>
  (bif (!(decide ((r_0.1.length : Int) ≤ t7))) then u2n_ s1 else some ([] : Str)).bind fun r2 =>
  (bif (!(decide ((r_0.1.length : Int) ≤ t7))) then cut? ([112, 107, 103, 58] : Str) t7 (IntKind.i64.wrap (t7 + (1 : Int))) else some ([] : Str)).bind fun s3 =>
  bif ((decide ((r_0.1.length : Int) ≤ t7)) || (!(eqS r2 s3))) then
   (ufe_ (r_0, t7)).bind fun r4 =>
   some (.inr (r4, ([] : Str)))
  else
   next (r_0, (IntKind.i64.wrap (t7 + (1 : Int))))
 else
  some (.inl r_0)
noncomputable def uua_ : YY10 × Int → Option (Sum YY10 (YY10 × Str)) := loopN u5t_ fuel
noncomputable def u5u_ (next : Str × Int × Int → Option YY10) : Str × Int × Int → Option YY10 := fun r_0 =>
 (bif (decide (r_0.2.1 < (r_0.1.length : Int))) then at? r_0.1 r_0.2.1 else some 0).bind fun b8 =>
 (bif (decide (r_0.2.1 < (r_0.1.length : Int))) then uyp_ (b8.toNat : Int) else some false).bind fun r9 =>
 bif ((decide (r_0.2.1 < (r_0.1.length : Int))) && r9) then
  next (r_0.1, ((IntKind.i64.wrap (r_0.2.1 + (1 : Int))), r_0.2.2))
 else
  some r_0
noncomputable def uub_ : Str × Int × Int → Option YY10 := loopN u5u_ fuel
noncomputable def un8_ : YY10 × Bool → Option YY10 := fun (r_0, t45) =>
 bif t45 then
  some (r_0.1, ((IntKind.i64.wrap (r_0.2.1 + (1 : Int))), r_0.2.2))
 else
  (uub_ r_0).bind fun r10 =>
  some r10
noncomputable def uuc_ : YY10 × Bool → Option (Str × YY10) := fun (r_0, star_1) =>
 (uua_ (r_0, (0 : Int))).bind fun r5 =>
 match r5 with
 | .inl y6 =>
   (bif star_1 then uec_ (some (y6.1, ((4 : Int), y6.2.2))) else some (0 : Int)).bind fun r7 =>
   (un8_ ((y6.1, ((4 : Int), y6.2.2)), (star_1 && (eqI r7 (42 : Int))))).bind fun r11 =>
   (cut? r11.1 (4 : Int) r11.2.1).bind fun s12 =>
   (bif (!(eqS s12 ([] : Str))) then uec_ (some r11) else some (0 : Int)).bind fun r13 =>
   bif ((eqS s12 ([] : Str)) || (!(eqI r13 (47 : Int)))) then
    (ufe_ (r11, r11.2.1)).bind fun r14 =>
    some (([] : Str), r14)
   else
    (u2n_ s12).bind fun r15 =>
    some (r15, (r11.1, ((IntKind.i64.wrap (r11.2.1 + (1 : Int))), r11.2.2)))
 | .inr y6' =>
   some (y6'.2, y6'.1)
noncomputable def ubzm_ : Int → Option (Int) := fun c_0 =>
 bif ((decide ((48 : Int) ≤ c_0)) && (decide (c_0 ≤ (57 : Int)))) then
  some (IntKind.i64.wrap (IntKind.u8.wrap (c_0 - (48 : Int))))
 else
  bif ((decide ((97 : Int) ≤ c_0)) && (decide (c_0 ≤ (102 : Int)))) then
   some (IntKind.i64.wrap ((IntKind.i64.wrap (IntKind.u8.wrap (c_0 - (97 : Int)))) + (10 : Int)))
  else
   bif ((decide ((65 : Int) ≤ c_0)) && (decide (c_0 ≤ (70 : Int)))) then
    some (IntKind.i64.wrap ((IntKind.i64.wrap (IntKind.u8.wrap (c_0 - (65 : Int)))) + (10 : Int)))
   else
    some (-1 : Int)
noncomputable def ult_ : YY10 × Int × Int × Bool → Option (YY10 × Int) := fun (r_0, i_6, d_7, t63) =>
 bif t63 then
  (at? r_0.1 (IntKind.i64.wrap (r_0.2.1 + i_6))).bind fun b5 =>
  (ubzm_ (b5.toNat : Int)).bind fun r6 =>
  some (r_0, r6)
 else
  some (r_0, d_7)
noncomputable def u2o_ (next : YY10 × Int × Int → Option (Sum (YY10 × Int) (YY10 × Int × Bool))) : YY10 × Int × Int → Option (Sum (YY10 × Int) (YY10 × Int × Bool)) := fun (r_0, n_5, i_6) =>
 bif (decide (i_6 ≤ (2 : Int))) then
  (ult_ (r_0, i_6, (-1 : Int), (decide ((IntKind.i64.wrap (r_0.2.1 + i_6)) < (r_0.1.length : Int))))).bind fun r7 =>
  bif (decide (r7.2 < (0 : Int))) then
   (ufe_ (r7.1, (IntKind.i64.wrap (r7.1.2.1 + i_6)))).bind fun r8 =>
   some (.inr (r8, (0 : Int), false))
  else
   next (r7.1, (IntKind.i64.wrap ((IntKind.i64.wrap ((16 : Int) * n_5)) + r7.2)), (IntKind.i64.wrap (i_6 + (1 : Int))))
 else
  some (.inl (r_0, n_5))
noncomputable def usk_ : YY10 × Int × Int → Option (Sum (YY10 × Int) (YY10 × Int × Bool)) := loopN u2o_ fuel
noncomputable def ur4_ : Str × Int × Int → Option (Int × Bool × YY10) := fun r_0 =>
 bif (decide ((r_0.1.length : Int) ≤ r_0.2.1)) then
  some ((0 : Int), false, r_0)
 else
  (at? r_0.1 r_0.2.1).bind fun b1 =>
  bif (!(eqI (b1.toNat : Int) (37 : Int))) then
   let v2 := ((decide ((b1.toNat : Int) < (33 : Int))) || (decide ((126 : Int) < (b1.toNat : Int))))
   (bif (!v2) then strings_IndexByte (([47, 64, 63, 35, 38, 61] : Str), (b1.toNat : Int)) else some (0 : Int)).bind fun r3 =>
   bif (v2 || (decide ((0 : Int) ≤ r3))) then
    some ((0 : Int), false, r_0)
   else
    some ((b1.toNat : Int), true, (r_0.1, ((IntKind.i64.wrap (r_0.2.1 + (1 : Int))), r_0.2.2)))
  else
   (usk_ (r_0, (0 : Int), (1 : Int))).bind fun r10 =>
   match r10 with
   | .inl y11 =>
     some ((IntKind.u8.wrap y11.2), true, (y11.1.1, ((IntKind.i64.wrap (y11.1.2.1 + (3 : Int))), y11.1.2.2)))
   | .inr y11' =>
     some (y11'.2.1, y11'.2.2, y11'.1)
noncomputable def u5v_ (next : YY10 × (List Int) → Option (YY10 × (List Int))) : YY10 × (List Int) → Option (YY10 × (List Int)) := fun (r_0, b_3) =>
 bif (decide (r_0.2.2 < (0 : Int))) then
  (ur4_ r_0).bind fun r1 =>
  bif (!r1.2.1) then
   some (r1.2.2, b_3)
  else
   (app? 24 b_3 ([r1.1] : List Int)).bind fun l2 =>
   next (r1.2.2, l2)
 else
  some (r_0, b_3)
noncomputable def uud_ : YY10 × (List Int) → Option (YY10 × (List Int)) := loopN u5v_ fuel
noncomputable def uhm_ : Str × Int × Int → Option (Str × YY10) := fun r_0 =>
 (uud_ (r_0, ([] : List Int))).bind fun r3 =>
 bif (eqI (r3.2.length : Int) (0 : Int)) then
  (ufe_ (r3.1, r3.1.2.1)).bind fun r4 =>
  (cat? [] (strOf r3.2)).bind fun s5 =>
  some (s5, r4)
 else
  (cat? [] (strOf r3.2)).bind fun s6 =>
  some (s6, r3.1)
noncomputable def u2p_ (next : YY10 × (List Str) → Option (YY10 × (List Str))) : YY10 × (List Str) → Option (YY10 × (List Str)) := fun (r_0, l_3) =>
 (bif (decide (r_0.2.2 < (0 : Int))) then uec_ (some r_0) else some (0 : Int)).bind fun r2 =>
 bif ((decide (r_0.2.2 < (0 : Int))) && (eqI r2 (47 : Int))) then
  (uhm_ (r_0.1, ((IntKind.i64.wrap (r_0.2.1 + (1 : Int))), r_0.2.2))).bind fun r3 =>
  (app? 24 l_3 ([r3.1] : List Str)).bind fun l4 =>
  next (r3.2, l4)
 else
  some (r_0, l_3)
noncomputable def usl_ : YY10 × (List Str) → Option (YY10 × (List Str)) := loopN u2p_ fuel
noncomputable def umy_ : Str × Int × Int → Option ((List Str) × YY10) := fun r_0 =>
 (uhm_ r_0).bind fun r1 =>
 (usl_ (r1.2, ([r1.1] : List Str))).bind fun r5 =>
 some (r5.2, r5.1)
noncomputable def uyq_ : Int × Bool → Option (Bool) := fun (c_0, first_1) =>
 bif ((decide ((97 : Int) ≤ c_0)) && (decide (c_0 ≤ (122 : Int)))) then
  some true
 else
  some ((!first_1) && (((((decide ((48 : Int) ≤ c_0)) && (decide (c_0 ≤ (57 : Int)))) || (eqI c_0 (46 : Int))) || (eqI c_0 (45 : Int))) || (eqI c_0 (95 : Int))))
noncomputable def uue_ (next : YY10 × Int → Option YY10) : YY10 × Int → Option YY10 := fun (r_0, from_3) =>
 (bif (decide (r_0.2.1 < (r_0.1.length : Int))) then at? r_0.1 r_0.2.1 else some 0).bind fun b1 =>
 (bif (decide (r_0.2.1 < (r_0.1.length : Int))) then uyq_ ((b1.toNat : Int), (eqI r_0.2.1 from_3)) else some false).bind fun r2 =>
 bif ((decide (r_0.2.1 < (r_0.1.length : Int))) && r2) then
  next ((r_0.1, ((IntKind.i64.wrap (r_0.2.1 + (1 : Int))), r_0.2.2)), from_3)
 else
  some r_0
noncomputable def ulu_ : YY10 × Int → Option YY10 := loopN uue_ fuel
noncomputable def ujy_ : Str × Int × Int → Option ((Str × Str) × YY10) := fun r_0 =>
 (ulu_ (r_0, r_0.2.1)).bind fun r3 =>
 (cut? r3.1 r_0.2.1 r3.2.1).bind fun s4 =>
 (bif (!(eqS s4 ([] : Str))) then uec_ (some r3) else some (0 : Int)).bind fun r5 =>
 bif ((eqS s4 ([] : Str)) || (!(eqI r5 (61 : Int)))) then
  (ufe_ (r3, r3.2.1)).bind fun r6 =>
  some ((([] : Str), ([] : Str)), r6)
 else
  (uhm_ (r3.1, ((IntKind.i64.wrap (r3.2.1 + (1 : Int))), r3.2.2))).bind fun r7 =>
  some ((s4, r7.1), r7.2)
noncomputable def un9_ : YY10 × YY12 × Bool → Option (YY10 × YY12) := fun (r_0, p_3, t40) =>
 bif t40 then
  (uhm_ (r_0.1, ((IntKind.i64.wrap (r_0.2.1 + (1 : Int))), r_0.2.2))).bind fun r7 =>
  some (r7.2, (p_3.1, (p_3.2.1, (p_3.2.2.1, (r7.1, (p_3.2.2.2.2.1, p_3.2.2.2.2.2))))))
 else
  some (r_0, (p_3.1, (p_3.2.1, (p_3.2.2.1, (p_3.2.2.2.1, (p_3.2.2.2.2.1, p_3.2.2.2.2.2))))))
noncomputable def u5w_ (next : YY10 × YY12 × Int → Option (YY10 × YY12)) : YY10 × YY12 × Int → Option (YY10 × YY12) := fun (r_0, p_3, sign_5) =>
 let v9 := ((decide (r_0.2.2 < (0 : Int))) && (decide (r_0.2.1 < (r_0.1.length : Int))))
 (bif v9 then uec_ (some r_0) else some (0 : Int)).bind fun r10 =>
 bif (v9 && (eqI r10 sign_5)) then
  (ujy_ (r_0.1, ((IntKind.i64.wrap (r_0.2.1 + (1 : Int))), r_0.2.2))).bind fun r11 =>
  (app? 48 p_3.2.2.2.2.1 ([r11.1] : List (Str × Str))).bind fun l12 =>
  next (r11.2, (p_3.1, (p_3.2.1, (p_3.2.2.1, (p_3.2.2.2.1, (l12, p_3.2.2.2.2.2))))), (38 : Int))
 else
  some (r_0, (p_3.1, (p_3.2.1, (p_3.2.2.1, (p_3.2.2.2.1, (p_3.2.2.2.2.1, p_3.2.2.2.2.2))))))
noncomputable def uuf_ : YY10 × YY12 × Int → Option (YY10 × YY12) := loopN u5w_ fuel
noncomputable def uoa_ : YY10 × YY12 × Bool → Option (YY10 × YY12) := fun (r_0, p_3, t97) =>
 bif t97 then
  (umy_ (r_0.1, ((IntKind.i64.wrap (r_0.2.1 + (1 : Int))), r_0.2.2))).bind fun r15 =>
  (strings_Join (r15.1, ([47] : Str))).bind fun r16 =>
  some (r15.2, (p_3.1, (p_3.2.1, (p_3.2.2.1, (p_3.2.2.2.1, (p_3.2.2.2.2.1, r16))))))
 else
  some (r_0, (p_3.1, (p_3.2.1, (p_3.2.2.1, (p_3.2.2.2.1, (p_3.2.2.2.2.1, p_3.2.2.2.2.2))))))
noncomputable def uug_ : Str × Int × Int → Option (YY12 × YY10) := fun r_0 =>
 (uuc_ (r_0, false)).bind fun r1 =>
 bif (decide ((0 : Int) ≤ r1.2.2.2)) then
  some ((r1.1, (([] : Str), (([] : Str), (([] : Str), (([] : List (Str × Str)), ([] : Str)))))), r1.2)
 else
  (umy_ r1.2).bind fun r2 =>
  (cut? r2.1 (0 : Int) (IntKind.i64.wrap ((r2.1.length : Int) - (1 : Int)))).bind fun s3 =>
  (strings_Join (s3, ([47] : Str))).bind fun r4 =>
  (at? r2.1 (IntKind.i64.wrap ((r2.1.length : Int) - (1 : Int)))).bind fun y5 =>
  (bif (decide (r2.2.2.2 < (0 : Int))) then uec_ (some r2.2) else some (0 : Int)).bind fun r6 =>
  (un9_ (r2.2, (r1.1, (r4, (y5, (([] : Str), (([] : List (Str × Str)), ([] : Str)))))), ((decide (r2.2.2.2 < (0 : Int))) && (eqI r6 (64 : Int))))).bind fun r8 =>
  (uuf_ (r8.1, (r8.2.1, (r8.2.2.1, (r8.2.2.2.1, (r8.2.2.2.2.1, (r8.2.2.2.2.2.1, r8.2.2.2.2.2.2))))), (63 : Int))).bind fun r13 =>
  (bif (decide (r13.1.2.2 < (0 : Int))) then uec_ (some r13.1) else some (0 : Int)).bind fun r14 =>
  (uoa_ (r13.1, (r13.2.1, (r13.2.2.1, (r13.2.2.2.1, (r13.2.2.2.2.1, (r13.2.2.2.2.2.1, r13.2.2.2.2.2.2))))), ((decide (r13.1.2.2 < (0 : Int))) && (eqI r14 (35 : Int))))).bind fun r17 =>
  bif ((decide (r17.1.2.2 < (0 : Int))) && (decide (r17.1.2.1 < (r17.1.1.length : Int)))) then
   (ufe_ (r17.1, r17.1.2.1)).bind fun r19 =>
   some ((r17.2.1, (r17.2.2.1, (r17.2.2.2.1, (r17.2.2.2.2.1, (r17.2.2.2.2.2.1, r17.2.2.2.2.2.2))))), r19)
  else
   some ((r17.2.1, (r17.2.2.1, (r17.2.2.2.1, (r17.2.2.2.2.1, (r17.2.2.2.2.2.1, r17.2.2.2.2.2.2))))), r17.1)
noncomputable def ugs_ (next : YY6 × Int × YY8 × Int → Option YY6) : YY6 × Int × YY8 × Int → Option YY6 := fun (data_0, a_1, cmp_3, j_9) =>
 (bif (decide (a_1 < j_9)) then in? data_0.length j_9 else some ()).bind fun _ =>
 (bif (decide (a_1 < j_9)) then in? data_0.length (IntKind.i64.wrap (j_9 - (1 : Int))) else some ()).bind fun _ =>
 (bif (decide (a_1 < j_9)) then cmp_3 ((data_0.getD j_9.toNat (([] : Str), ([] : Str))), (data_0.getD ((IntKind.i64.wrap (j_9 - (1 : Int))).toNat) (([] : Str), ([] : Str)))) else some (0 : Int)).bind fun r3 =>
 bif ((decide (a_1 < j_9)) && (decide (r3 < (0 : Int)))) then
  (in? data_0.length (IntKind.i64.wrap (j_9 - (1 : Int)))).bind fun _ =>
  let v4 := (data_0.getD ((IntKind.i64.wrap (j_9 - (1 : Int))).toNat) (([] : Str), ([] : Str)))
  (in? data_0.length j_9).bind fun _ =>
  (in? data_0.length j_9).bind fun _ =>
  (in? (data_0.set j_9.toNat v4).length (IntKind.i64.wrap (j_9 - (1 : Int)))).bind fun _ =>
  next (((data_0.set j_9.toNat v4).set ((IntKind.i64.wrap (j_9 - (1 : Int))).toNat) (data_0.getD j_9.toNat (([] : Str), ([] : Str)))), a_1, cmp_3, (IntKind.i64.wrap (j_9 - (1 : Int))))
 else
  some data_0
noncomputable def ud1_ : YY6 × Int × YY8 × Int → Option YY6 := loopN ugs_ fuel
noncomputable def ugt_ (next : YY6 × Int × Int × YY8 × Int → Option YY6) : YY6 × Int × Int × YY8 × Int → Option YY6 := fun (data_0, a_1, b_2, cmp_3, i_8) =>
 bif (decide (i_8 < b_2)) then
  (ud1_ (data_0, a_1, cmp_3, i_8)).bind fun r7 =>
  next (r7, a_1, b_2, cmp_3, (IntKind.i64.wrap (i_8 + (1 : Int))))
 else
  some data_0
noncomputable def ud2_ : YY6 × Int × Int × YY8 × Int → Option YY6 := loopN ugt_ fuel
noncomputable def ubq_ : YY6 × Int × Int × YY8 → Option YY6 := fun (data_0, a_1, b_2, cmp_3) =>
 (ud2_ (data_0, a_1, b_2, cmp_3, (IntKind.i64.wrap (a_1 + (1 : Int))))).bind fun r8 =>
 some r8
noncomputable def uh7_ (next : YY6 × Int × Int × Int × Int → Option YY6) : YY6 × Int × Int × Int × Int → Option YY6 := fun (data_0, a_1, b_2, n_3, i_10) =>
 bif (decide (i_10 < n_3)) then
  (in? data_0.length (IntKind.i64.wrap (b_2 + i_10))).bind fun _ =>
  let v1 := (data_0.getD ((IntKind.i64.wrap (b_2 + i_10)).toNat) (([] : Str), ([] : Str)))
  (in? data_0.length (IntKind.i64.wrap (a_1 + i_10))).bind fun _ =>
  (in? data_0.length (IntKind.i64.wrap (a_1 + i_10))).bind fun _ =>
  (in? (data_0.set ((IntKind.i64.wrap (a_1 + i_10)).toNat) v1).length (IntKind.i64.wrap (b_2 + i_10))).bind fun _ =>
  next (((data_0.set ((IntKind.i64.wrap (a_1 + i_10)).toNat) v1).set ((IntKind.i64.wrap (b_2 + i_10)).toNat) (data_0.getD ((IntKind.i64.wrap (a_1 + i_10)).toNat) (([] : Str), ([] : Str)))), a_1, b_2, n_3, (IntKind.i64.wrap (i_10 + (1 : Int))))
 else
  some data_0
noncomputable def ue1_ : YY6 × Int × Int × Int × Int → Option YY6 := loopN uh7_ fuel
noncomputable def ubp_ : YY6 × Int × Int × Int × YY8 → Option YY6 := fun (data_0, a_1, b_2, n_3, cmp_4) =>
 (ue1_ (data_0, a_1, b_2, n_3, (0 : Int))).bind fun r4 =>
 some r4
noncomputable def uke_ (next : YY6 × Int × YY8 × Int × Int → Option (YY6 × Int)) : YY6 × Int × YY8 × Int × Int → Option (YY6 × Int) := fun (data_0, m_2, cmp_4, i_10, j_11) =>
 bif (!(eqI i_10 j_11)) then
  bif (decide (j_11 < i_10)) then
   (ubp_ (data_0, (IntKind.i64.wrap (m_2 - i_10)), m_2, j_11, cmp_4)).bind fun r1 =>
   next (r1, m_2, cmp_4, (IntKind.i64.wrap (i_10 - j_11)), j_11)
  else
   (ubp_ (data_0, (IntKind.i64.wrap (m_2 - i_10)), (IntKind.i64.wrap ((IntKind.i64.wrap (m_2 + j_11)) - i_10)), i_10, cmp_4)).bind fun r2 =>
   next (r2, m_2, cmp_4, i_10, (IntKind.i64.wrap (j_11 - i_10)))
 else
  some (data_0, i_10)
noncomputable def uf3_ : YY6 × Int × YY8 × Int × Int → Option (YY6 × Int) := loopN uke_ fuel
noncomputable def uez_ : YY6 × Int × Int × Int × YY8 → Option YY6 := fun (data_0, a_1, m_2, b_3, cmp_4) =>
 (uf3_ (data_0, m_2, cmp_4, (IntKind.i64.wrap (m_2 - a_1)), (IntKind.i64.wrap (b_3 - m_2)))).bind fun r3 =>
 (ubp_ (r3.1, (IntKind.i64.wrap (m_2 - r3.2)), m_2, r3.2, cmp_4)).bind fun r4 =>
 some r4
noncomputable def uik_ (slf : YY6 × Int × Int × Int × YY8 → Option YY6) (next : YY6 × Int × YY8 × Int × Int → Option (YY6 × Int)) : YY6 × Int × YY8 × Int × Int → Option (YY6 × Int) := fun (data_0, a_1, cmp_4, i_10, j_11) =>
 bif (decide (i_10 < j_11)) then
  (shr? IntKind.u64 (IntKind.u64.wrap (IntKind.i64.wrap (i_10 + j_11))) (1 : Int)).bind fun n1 =>
  (in? data_0.length (IntKind.i64.wrap n1)).bind fun _ =>
  (in? data_0.length a_1).bind fun _ =>
  (cmp_4 ((data_0.getD ((IntKind.i64.wrap n1).toNat) (([] : Str), ([] : Str))), (data_0.getD a_1.toNat (([] : Str), ([] : Str))))).bind fun r4 =>
  bif (decide (r4 < (0 : Int))) then
   next (data_0, a_1, cmp_4, (IntKind.i64.wrap ((IntKind.i64.wrap n1) + (1 : Int))), j_11)
  else
   next (data_0, a_1, cmp_4, i_10, (IntKind.i64.wrap n1))
 else
  some (data_0, i_10)
noncomputable def uff_ (slf : YY6 × Int × Int × Int × YY8 → Option YY6) : YY6 × Int × YY8 × Int × Int → Option (YY6 × Int) := loopN (uik_ slf) fuel
noncomputable def uil_ (slf : YY6 × Int × Int × Int × YY8 → Option YY6) (next : YY6 × Int × Int → Option YY6) : YY6 × Int × Int → Option YY6 := fun (data_0, i_10, k_13) =>
 bif (decide (k_13 < (IntKind.i64.wrap (i_10 - (1 : Int))))) then
  (in? data_0.length (IntKind.i64.wrap (k_13 + (1 : Int)))).bind fun _ =>
  let v6 := (data_0.getD ((IntKind.i64.wrap (k_13 + (1 : Int))).toNat) (([] : Str), ([] : Str)))
  (in? data_0.length k_13).bind fun _ =>
  (in? data_0.length k_13).bind fun _ =>
  (in? (data_0.set k_13.toNat v6).length (IntKind.i64.wrap (k_13 + (1 : Int)))).bind fun _ =>
  next (((data_0.set k_13.toNat v6).set ((IntKind.i64.wrap (k_13 + (1 : Int))).toNat) (data_0.getD k_13.toNat (([] : Str), ([] : Str)))), i_10, (IntKind.i64.wrap (k_13 + (1 : Int))))
 else
  some data_0
noncomputable def ufg_ (slf : YY6 × Int × Int × Int × YY8 → Option YY6) : YY6 × Int × Int → Option YY6 := loopN (uil_ slf) fuel
noncomputable def uim_ (slf : YY6 × Int × Int × Int × YY8 → Option YY6) (next : YY6 × Int × YY8 × Int × Int → Option (YY6 × Int)) : YY6 × Int × YY8 × Int × Int → Option (YY6 × Int) := fun (data_0, m_2, cmp_4, i_14, j_15) =>
 bif (decide (i_14 < j_15)) then
  (shr? IntKind.u64 (IntKind.u64.wrap (IntKind.i64.wrap (i_14 + j_15))) (1 : Int)).bind fun n10 =>
  (in? data_0.length m_2).bind fun _ =>
  (in? data_0.length (IntKind.i64.wrap n10)).bind fun _ =>
  (cmp_4 ((data_0.getD m_2.toNat (([] : Str), ([] : Str))), (data_0.getD ((IntKind.i64.wrap n10).toNat) (([] : Str), ([] : Str))))).bind fun r13 =>
  bif (!(decide (r13 < (0 : Int)))) then
   next (data_0, m_2, cmp_4, (IntKind.i64.wrap ((IntKind.i64.wrap n10) + (1 : Int))), j_15)
  else
   next (data_0, m_2, cmp_4, i_14, (IntKind.i64.wrap n10))
 else
  some (data_0, i_14)
noncomputable def ufh_ (slf : YY6 × Int × Int × Int × YY8 → Option YY6) : YY6 × Int × YY8 × Int × Int → Option (YY6 × Int) := loopN (uim_ slf) fuel
noncomputable def uh8_ (slf : YY6 × Int × Int × Int × YY8 → Option YY6) (next : YY6 × Int × Int → Option YY6) : YY6 × Int × Int → Option YY6 := fun (data_0, i_14, k_17) =>
 bif (decide (i_14 < k_17)) then
  (in? data_0.length (IntKind.i64.wrap (k_17 - (1 : Int)))).bind fun _ =>
  let v15 := (data_0.getD ((IntKind.i64.wrap (k_17 - (1 : Int))).toNat) (([] : Str), ([] : Str)))
  (in? data_0.length k_17).bind fun _ =>
  (in? data_0.length k_17).bind fun _ =>
  (in? (data_0.set k_17.toNat v15).length (IntKind.i64.wrap (k_17 - (1 : Int)))).bind fun _ =>
  next (((data_0.set k_17.toNat v15).set ((IntKind.i64.wrap (k_17 - (1 : Int))).toNat) (data_0.getD k_17.toNat (([] : Str), ([] : Str)))), i_14, (IntKind.i64.wrap (k_17 - (1 : Int))))
 else
  some data_0
noncomputable def ue2_ (slf : YY6 × Int × Int × Int × YY8 → Option YY6) : YY6 × Int × Int → Option YY6 := loopN (uh8_ slf) fuel
noncomputable def uc7_ (slf : YY6 × Int × Int × Int × YY8 → Option YY6) : Int × Int × Int × Int × Int × Bool → Option (Int × Int) := fun (a_1, m_2, b_3, mid_18, n_19, t140) =>
 bif t140 then
  some ((IntKind.i64.wrap (n_19 - b_3)), mid_18)
 else
  some (a_1, m_2)
noncomputable def uh9_ (slf : YY6 × Int × Int × Int × YY8 → Option YY6) (next : YY6 × YY8 × Int × Int × Int → Option (YY6 × Int)) : YY6 × YY8 × Int × Int × Int → Option (YY6 × Int) := fun (data_0, cmp_4, start_20, r_21, p_22) =>
 bif (decide (start_20 < r_21)) then
  (shr? IntKind.u64 (IntKind.u64.wrap (IntKind.i64.wrap (start_20 + r_21))) (1 : Int)).bind fun n22 =>
  (in? data_0.length (IntKind.i64.wrap (p_22 - (IntKind.i64.wrap n22)))).bind fun _ =>
  (in? data_0.length (IntKind.i64.wrap n22)).bind fun _ =>
  (cmp_4 ((data_0.getD ((IntKind.i64.wrap (p_22 - (IntKind.i64.wrap n22))).toNat) (([] : Str), ([] : Str))), (data_0.getD ((IntKind.i64.wrap n22).toNat) (([] : Str), ([] : Str))))).bind fun r25 =>
  bif (!(decide (r25 < (0 : Int)))) then
   next (data_0, cmp_4, (IntKind.i64.wrap ((IntKind.i64.wrap n22) + (1 : Int))), r_21, p_22)
  else
   next (data_0, cmp_4, start_20, (IntKind.i64.wrap n22), p_22)
 else
  some (data_0, start_20)
noncomputable def ue3_ (slf : YY6 × Int × Int × Int × YY8 → Option YY6) : YY6 × YY8 × Int × Int × Int → Option (YY6 × Int) := loopN (uh9_ slf) fuel
noncomputable def uc8_ (slf : YY6 × Int × Int × Int × YY8 → Option YY6) : YY6 × Int × YY8 × Int × Int × Bool → Option YY6 := fun (data_0, m_2, cmp_4, start_20, end_24, t185) =>
 bif t185 then
  (uez_ (data_0, start_20, m_2, end_24, cmp_4)).bind fun r28 =>
  some r28
 else
  some data_0
noncomputable def uc9_ (slf : YY6 × Int × Int × Int × YY8 → Option YY6) : YY6 × Int × YY8 × Int × Int × Bool → Option YY6 := fun (data_0, a_1, cmp_4, mid_18, start_20, t199) =>
 bif t199 then
  (slf (data_0, a_1, start_20, mid_18, cmp_4)).bind fun r31 =>
  some r31
 else
  some data_0
noncomputable def uek_ (slf : YY6 × Int × Int × Int × YY8 → Option YY6) : YY6 × Int × Int × Int × YY8 → Option YY6 := fun (data_0, a_1, m_2, b_3, cmp_4) =>
 bif (eqI (IntKind.i64.wrap (m_2 - a_1)) (1 : Int)) then
  ((uff_ slf) (data_0, a_1, cmp_4, m_2, b_3)).bind fun r5 =>
  ((ufg_ slf) (r5.1, r5.2, a_1)).bind fun r9 =>
  some r9
 else
  bif (eqI (IntKind.i64.wrap (b_3 - m_2)) (1 : Int)) then
   ((ufh_ slf) (data_0, m_2, cmp_4, a_1, m_2)).bind fun r14 =>
   ((ue2_ slf) (r14.1, r14.2, m_2)).bind fun r18 =>
   some r18
  else
   (shr? IntKind.u64 (IntKind.u64.wrap (IntKind.i64.wrap (a_1 + b_3))) (1 : Int)).bind fun n19 =>
   ((uc7_ slf) (a_1, m_2, b_3, (IntKind.i64.wrap n19), (IntKind.i64.wrap ((IntKind.i64.wrap n19) + m_2)), (decide ((IntKind.i64.wrap n19) < m_2)))).bind fun r20 =>
   ((ue3_ slf) (data_0, cmp_4, r20.1, r20.2, (IntKind.i64.wrap ((IntKind.i64.wrap ((IntKind.i64.wrap n19) + m_2)) - (1 : Int))))).bind fun r26 =>
   let v27 := (IntKind.i64.wrap ((IntKind.i64.wrap ((IntKind.i64.wrap n19) + m_2)) - r26.2))
   ((uc8_ slf) (r26.1, m_2, cmp_4, r26.2, v27, ((decide (r26.2 < m_2)) && (decide (m_2 < v27))))).bind fun r29 =>
   ((uc9_ slf) (r29, a_1, cmp_4, (IntKind.i64.wrap n19), r26.2, ((decide (a_1 < r26.2)) && (decide (r26.2 < (IntKind.i64.wrap n19)))))).bind fun r32 =>
   bif ((decide ((IntKind.i64.wrap n19) < v27)) && (decide (v27 < b_3))) then
    (slf (r32, (IntKind.i64.wrap n19), v27, b_3, cmp_4)).bind fun r34 =>
    some r34
   else
    some r32
noncomputable def ur_ : Nat → YY6 × Int × Int × Int × YY8 → Option YY6
 | 0 => fun _ => none
 | n + 1 => uek_ (ur_ n)
noncomputable def ucp_ : YY6 × Int × Int × Int × YY8 → Option YY6 := ur_ 100
noncomputable def ukf_ (next : YY6 × Int × YY8 × Int × Int × Int → Option (YY6 × Int)) : YY6 × Int × YY8 × Int × Int × Int → Option (YY6 × Int) := fun (data_0, n_1, cmp_2, blockSize_6, a_7, b_8) =>
 bif (decide (b_8 ≤ n_1)) then
  (ubq_ (data_0, a_7, b_8, cmp_2)).bind fun r1 =>
  next (r1, n_1, cmp_2, blockSize_6, b_8, (IntKind.i64.wrap (b_8 + blockSize_6)))
 else
  some (data_0, a_7)
noncomputable def uf4_ : YY6 × Int × YY8 × Int × Int × Int → Option (YY6 × Int) := loopN ukf_ fuel
noncomputable def ukg_ (next : YY6 × Int × YY8 × Int × Int × Int → Option (YY6 × Int)) : YY6 × Int × YY8 × Int × Int × Int → Option (YY6 × Int) := fun (data_0, n_1, cmp_2, blockSize_6, a_7, b_8) =>
 bif (decide (b_8 ≤ n_1)) then
  (ucp_ (data_0, a_7, (IntKind.i64.wrap (a_7 + blockSize_6)), b_8, cmp_2)).bind fun r4 =>
  next (r4, n_1, cmp_2, blockSize_6, b_8, (IntKind.i64.wrap (b_8 + (IntKind.i64.wrap ((2 : Int) * blockSize_6)))))
 else
  some (data_0, a_7)
noncomputable def uf5_ : YY6 × Int × YY8 × Int × Int × Int → Option (YY6 × Int) := loopN ukg_ fuel
noncomputable def ukh_ (next : YY6 × Int × YY8 × Int → Option YY6) : YY6 × Int × YY8 × Int → Option YY6 := fun (data_0, n_1, cmp_2, blockSize_6) =>
 bif (decide (blockSize_6 < n_1)) then
  (uf5_ (data_0, n_1, cmp_2, blockSize_6, (0 : Int), (IntKind.i64.wrap ((2 : Int) * blockSize_6)))).bind fun r6 =>
  bif (decide ((IntKind.i64.wrap (r6.2 + blockSize_6)) < n_1)) then
   (ucp_ (r6.1, r6.2, (IntKind.i64.wrap (r6.2 + blockSize_6)), n_1, cmp_2)).bind fun r7 =>
   next (r7, n_1, cmp_2, (IntKind.i64.wrap (blockSize_6 * (2 : Int))))
  else
   next (r6.1, n_1, cmp_2, (IntKind.i64.wrap (blockSize_6 * (2 : Int))))
 else
  some data_0
noncomputable def uf6_ : YY6 × Int × YY8 × Int → Option YY6 := loopN ukh_ fuel
noncomputable def ue0_ : YY6 × Int × YY8 → Option YY6 := fun (data_0, n_1, cmp_2) =>
 (uf4_ (data_0, n_1, cmp_2, (20 : Int), (0 : Int), (20 : Int))).bind fun r2 =>
 (ubq_ (r2.1, r2.2, n_1, cmp_2)).bind fun r3 =>
 (uf6_ (r3, n_1, cmp_2, (20 : Int))).bind fun r8 =>
 some r8
noncomputable def uef_ : YY6 × YY8 → Option YY6 := fun (x_0, cmp_1) =>
 (ue0_ (x_0, (x_0.length : Int), cmp_1)).bind fun r1 =>
 some r1
noncomputable def uki_ : Str → Option (Bool) := fun x_0 =>
 some (!(eqS x_0 x_0))
noncomputable def ud3_ : Str × Str → Option (Int) := fun (x_0, y_1) =>
 (uki_ x_0).bind fun r1 =>
 (uki_ y_1).bind fun r2 =>
 bif r1 then
  bif r2 then
   some (0 : Int)
  else
   some (-1 : Int)
 else
  bif r2 then
   some (1 : Int)
  else
   bif (Op.bytesLess x_0 y_1) then
    some (-1 : Int)
   else
    bif (!(Op.bytesLess x_0 y_1 || eqS x_0 y_1)) then
     some (1 : Int)
    else
     some (0 : Int)
noncomputable def ubay_ : (Str × Str) × (Str × Str) → Option (Int) := fun (a_0, b_1) =>
 (ud3_ (a_0.1, b_1.1)).bind fun r1 =>
 some r1
noncomputable def ubob_ : Unit → Option (List YY27) := fun _ =>
 some ([(([100, 111, 116, 116, 101, 100] : Str), ((2 : Int), (true, (false, (1 : Int))))), (([114, 101, 118, 105, 115, 101, 100] : Str), ((3 : Int), (true, (false, (2 : Int))))), (([115, 116, 97, 103, 101, 100] : Str), ((1 : Int), (true, (true, (3 : Int))))), (([113, 117, 97, 108, 105, 102, 105, 101, 100] : Str), ((3 : Int), (false, (false, (4 : Int))))), (([112, 108, 97, 105, 110] : Str), ((2 : Int), (false, (false, (5 : Int)))))] : List YY27)
noncomputable def ubsq_ (next : Str × (List YY27) × Int → Option YY24) : Str × (List YY27) × Int → Option YY24 := fun (kind_0, t5, t6) =>
 bif (decide (t6 < (5 : Int))) then
  (at? t5 t6).bind fun y2 =>
  bif (eqS y2.1 kind_0) then
   some (.inr t6)
  else
   next (kind_0, t5, (IntKind.i64.wrap (t6 + (1 : Int))))
 else
  some (.inl ())
noncomputable def ubf1_ : Str × (List YY27) × Int → Option YY24 := loopN ubsq_ fuel
noncomputable def uboc_ : Str → Option (Int) := fun kind_0 =>
 (ubob_ ()).bind fun r1 =>
 (ubf1_ (kind_0, r1, (0 : Int))).bind fun r3 =>
 match r3 with
 | .inl y4 =>
   some (-1 : Int)
 | .inr y4' =>
   some y4'
noncomputable def ubod_ : Str → Option (YY27 × Int) := fun kind_0 =>
 (uboc_ kind_0).bind fun r1 =>
 bif (decide (r1 < (0 : Int))) then
  some ((([] : Str), ((0 : Int), (false, (false, (0 : Int))))), (7 : Int))
 else
  (ubob_ ()).bind fun r3 =>
  (at? r3 r1).bind fun y4 =>
  some (y4, (0 : Int))
noncomputable def ubve_ (next : (List Str) × Int × Int → Option YY22) : (List Str) × Int × Int → Option YY22 := fun (t15, t16, t17) =>
 bif (decide (t17 < t16)) then
  (at? t15 t17).bind fun y2 =>
  bif (decide ((200 : Int) < (y2.length : Int))) then
   some (.inr true)
  else
   next (t15, t16, (IntKind.i64.wrap (t17 + (1 : Int))))
 else
  some (.inl ())
noncomputable def ubl1_ : (List Str) × Int × Int → Option YY22 := loopN ubve_ fuel
noncomputable def ubvf_ (next : YY6 × Int × Int → Option YY22) : YY6 × Int × Int → Option YY22 := fun (t26, t27, t28) =>
 bif (decide (t28 < t27)) then
  (at? t26 t28).bind fun y5 =>
  bif ((decide ((200 : Int) < (y5.1.length : Int))) || (decide ((200 : Int) < (y5.2.length : Int)))) then
   some (.inr true)
  else
   next (t26, t27, (IntKind.i64.wrap (t28 + (1 : Int))))
 else
  some (.inl ())
noncomputable def ubl2_ : YY6 × Int × Int → Option YY22 := loopN ubvf_ fuel
noncomputable def ubun_ : Str × Str × Str × Str × YY6 × Str → Option (Bool) := fun p_0 =>
 let v1 := ([p_0.2.1, p_0.2.2.1, p_0.2.2.2.1, p_0.2.2.2.2.2] : List Str)
 (ubl1_ (v1, (v1.length : Int), (0 : Int))).bind fun r3 =>
 match r3 with
 | .inl y4 =>
   (ubl2_ (p_0.2.2.2.2.1, (p_0.2.2.2.2.1.length : Int), (0 : Int))).bind fun r7 =>
   match r7 with
   | .inl y8 =>
     some (decide ((10 : Int) < (p_0.2.2.2.2.1.length : Int)))
   | .inr y8' =>
     some y8'
 | .inr y4' =>
   some y4'
noncomputable def ute_ : Str → Option (List Str) := fun s_0 =>
 bif (eqS s_0 ([] : Str)) then
  some ([] : List Str)
 else
  (strings_Split (s_0, ([47] : Str))).bind fun r1 =>
  some r1
noncomputable def ubc8_ (next : Bool × (List Str) × Int × Int → Option YY22) : Bool × (List Str) × Int × Int → Option YY22 := fun (dots_1, t7, t8, t9) =>
 bif (decide (t9 < t8)) then
  (at? t7 t9).bind fun y1 =>
  bif ((eqS y1 ([] : Str)) || (dots_1 && ((eqS y1 ([46] : Str)) || (eqS y1 ([46, 46] : Str))))) then
   some (.inr true)
  else
   next (dots_1, t7, t8, (IntKind.i64.wrap (t9 + (1 : Int))))
 else
  some (.inl ())
noncomputable def uz6_ : Bool × (List Str) × Int × Int → Option YY22 := loopN ubc8_ fuel
noncomputable def uuh_ : (List Str) × Bool → Option (Bool) := fun (l_0, dots_1) =>
 (uz6_ (dots_1, l_0, (l_0.length : Int), (0 : Int))).bind fun r3 =>
 match r3 with
 | .inl y4 =>
   some (decide ((10 : Int) < (l_0.length : Int)))
 | .inr y4' =>
   some y4'
noncomputable def u0w_ (next : Str × Int × Int → Option YY22) : Str × Int × Int → Option YY22 := fun (s_0, t5, t6) =>
 bif (decide (t6 < t5)) then
  (at? s_0 t6).bind fun b1 =>
  (uyq_ ((b1.toNat : Int), (eqI t6 (0 : Int)))).bind fun r2 =>
  bif (!r2) then
   some (.inr false)
  else
   next (s_0, t5, (IntKind.i64.wrap (t6 + (1 : Int))))
 else
  some (.inl ())
noncomputable def uqr_ : Str × Int × Int → Option YY22 := loopN u0w_ fuel
noncomputable def upu_ : Str → Option (Bool) := fun s_0 =>
 (uqr_ (s_0, (s_0.length : Int), (0 : Int))).bind fun r3 =>
 match r3 with
 | .inl y4 =>
   some (!(eqS s_0 ([] : Str)))
 | .inr y4' =>
   some y4'
noncomputable def uwd_ (next : YY6 × YY6 × Int × Int → Option YY24) : YY6 × YY6 × Int × Int → Option YY24 := fun (l_0, t5, t6, t7) =>
 bif (decide (t7 < t6)) then
  (at? t5 t7).bind fun y1 =>
  (upu_ y1.1).bind fun r2 =>
  bif (!r2) then
   some (.inr (8 : Int))
  else
   bif (eqS y1.2 ([] : Str)) then
    some (.inr (2 : Int))
   else
    (bif (decide ((0 : Int) < t7)) then at? l_0 (IntKind.i64.wrap (t7 - (1 : Int))) else some (([] : Str), ([] : Str))).bind fun y3 =>
    bif ((decide ((0 : Int) < t7)) && (Op.bytesLess y1.1 y3.1 || eqS y1.1 y3.1)) then
     some (.inr (10 : Int))
    else
     next (l_0, t5, t6, (IntKind.i64.wrap (t7 + (1 : Int))))
 else
  some (.inl ())
noncomputable def unj_ : YY6 × YY6 × Int × Int → Option YY24 := loopN uwd_ fuel
noncomputable def ulv_ : List (Str × Str) → Option (Int) := fun l_0 =>
 (unj_ (l_0, l_0, (l_0.length : Int), (0 : Int))).bind fun r5 =>
 match r5 with
 | .inl y6 =>
   some (0 : Int)
 | .inr y6' =>
   some y6'
noncomputable def ubk9_ (next : Str × Int × Int → Option YY22) : Str × Int × Int → Option YY22 := fun (s_0, t5, t6) =>
 bif (decide (t6 < t5)) then
  (at? s_0 t6).bind fun b1 =>
  (bif (!(decide ((b1.toNat : Int) < (32 : Int)))) then at? s_0 t6 else some 0).bind fun b2 =>
  bif ((decide ((b1.toNat : Int) < (32 : Int))) || (eqI (b2.toNat : Int) (127 : Int))) then
   some (.inr true)
  else
   next (s_0, t5, (IntKind.i64.wrap (t6 + (1 : Int))))
 else
  some (.inl ())
noncomputable def u69_ : Str × Int × Int → Option YY22 := loopN ubk9_ fuel
noncomputable def u2q_ : Str → Option (Bool) := fun s_0 =>
 (u69_ (s_0, (s_0.length : Int), (0 : Int))).bind fun r4 =>
 match r4 with
 | .inl y5 =>
   some false
 | .inr y5' =>
   some y5'
noncomputable def ubsr_ (next : (List Str) × Int × Int → Option YY24) : (List Str) × Int × Int → Option YY24 := fun (t75, t76, t77) =>
 bif (decide (t77 < t76)) then
  (at? t75 t77).bind fun y13 =>
  (u2q_ y13).bind fun r14 =>
  bif r14 then
   some (.inr (8 : Int))
  else
   next (t75, t76, (IntKind.i64.wrap (t77 + (1 : Int))))
 else
  some (.inl ())
noncomputable def ubf2_ : (List Str) × Int × Int → Option YY24 := loopN ubsr_ fuel
noncomputable def uboe_ (next : YY6 × Int × Int → Option YY24) : YY6 × Int × Int → Option YY24 := fun (t85, t86, t87) =>
 bif (decide (t87 < t86)) then
  (at? t85 t87).bind fun y17 =>
  (u2q_ y17.2).bind fun r18 =>
  bif r18 then
   some (.inr (8 : Int))
  else
   next (t85, t86, (IntKind.i64.wrap (t87 + (1 : Int))))
 else
  some (.inl ())
noncomputable def ubaz_ : YY6 × Int × Int → Option YY24 := loopN uboe_ fuel
noncomputable def ubf3_ : Str × Str × Str × Str × YY6 × Str → Option (Int) := fun p_0 =>
 (ubod_ p_0.1).bind fun r1 =>
 bif (!(eqI r1.2 (0 : Int))) then
  some r1.2
 else
  (ubun_ p_0).bind fun r2 =>
  bif r2 then
   some (3 : Int)
  else
   bif (((!(eqS p_0.2.1 ([] : Str))) && (eqI r1.1.2.1 (1 : Int))) || ((eqS p_0.2.1 ([] : Str)) && (eqI r1.1.2.1 (3 : Int)))) then
    some (2 : Int)
   else
    (ute_ p_0.2.1).bind fun r5 =>
    (uuh_ (r5, false)).bind fun r6 =>
    bif r6 then
     some (2 : Int)
    else
     (bif (!(eqS p_0.2.2.1 ([] : Str))) then strings_IndexByte (p_0.2.2.1, (47 : Int)) else some (0 : Int)).bind fun r7 =>
     bif ((eqS p_0.2.2.1 ([] : Str)) || (decide ((0 : Int) ≤ r7))) then
      some (8 : Int)
     else
      (ulv_ p_0.2.2.2.2.1).bind fun r9 =>
      bif (!(eqI r9 (0 : Int))) then
       some r9
      else
       (ute_ p_0.2.2.2.2.2).bind fun r10 =>
       (uuh_ (r10, true)).bind fun r11 =>
       bif r11 then
        some (2 : Int)
       else
        let v12 := ([p_0.2.1, p_0.2.2.1, p_0.2.2.2.1, p_0.2.2.2.2.2] : List Str)
        (ubf2_ (v12, (v12.length : Int), (0 : Int))).bind fun r15 =>
        match r15 with
        | .inl y16 =>
          (ubaz_ (p_0.2.2.2.2.1, (p_0.2.2.2.2.1.length : Int), (0 : Int))).bind fun r19 =>
          match r19 with
          | .inl y20 =>
            some (0 : Int)
          | .inr y20' =>
            some y20'
        | .inr y16' =>
          some y16'
noncomputable def u8q_ : Int → Option (Bool) := fun c_0 =>
 some (((eqI c_0 (45 : Int)) || (eqI c_0 (95 : Int))) || (eqI c_0 (46 : Int)))
noncomputable def ubf_ : (List Int) × Int → Option (Unit × (List Int)) := fun (b_0, c_1) =>
 (ugr_ b_0).bind fun r1 =>
 (app? 24 r1 ([c_1] : List Int)).bind fun l2 =>
 some ((), l2)
noncomputable def ubof_ (next : Str × (List Int) × Int × Int → Option (List Int)) : Str × (List Int) × Int × Int → Option (List Int) := fun (s_0, b_3, t6, t7) =>
 bif (decide (t7 < t6)) then
  (at? s_0 t7).bind fun b1 =>
  (u8q_ (b1.toNat : Int)).bind fun r2 =>
  bif (!r2) then
   (at? s_0 t7).bind fun b3 =>
   (ubf_ (b_3, (b3.toNat : Int))).bind fun r4 =>
   next (s_0, r4.2, t6, (IntKind.i64.wrap (t7 + (1 : Int))))
  else
   (bif (!(eqI t7 (0 : Int))) then at? s_0 (IntKind.i64.wrap (t7 - (1 : Int))) else some 0).bind fun b5 =>
   (bif (!(eqI t7 (0 : Int))) then u8q_ (b5.toNat : Int) else some false).bind fun r6 =>
   bif ((eqI t7 (0 : Int)) || (!r6)) then
    (ubf_ (b_3, (45 : Int))).bind fun r7 =>
    next (s_0, r7.2, t6, (IntKind.i64.wrap (t7 + (1 : Int))))
   else
    next (s_0, b_3, t6, (IntKind.i64.wrap (t7 + (1 : Int))))
 else
  some b_3
noncomputable def uba0_ : Str × (List Int) × Int × Int → Option (List Int) := loopN ubof_ fuel
noncomputable def ubix_ : Str → Option Str := fun s_0 =>
 (uba0_ (s_0, ([] : List Int), (s_0.length : Int), (0 : Int))).bind fun r8 =>
 (ub4_ r8).bind fun r9 =>
 some r9
noncomputable def ur5_ : YY15 × Bool → Option YY15 := fun (p_1, t12) =>
 bif t12 then
  (u2n_ p_1.2.1).bind fun r2 =>
  (u2n_ p_1.2.2.1).bind fun r3 =>
  some (p_1.1, (r2, (r3, p_1.2.2.2)))
 else
  some p_1
noncomputable def uui_ : Str × Str × Str × Str × YY6 × Str → Option YY15 := fun p_0 =>
 (ubod_ p_0.1).bind fun r1 =>
 (ur5_ (p_0, r1.1.2.2.1)).bind fun r4 =>
 bif r1.1.2.2.2.1 then
  (ubix_ r4.2.2.1).bind fun r5 =>
  (app? 48 [] r4.2.2.2.2.1).bind fun l6 =>
  some (r4.1, (r4.2.1, (r5, (r4.2.2.2.1, (l6, r4.2.2.2.2.2)))))
 else
  (app? 48 [] r4.2.2.2.2.1).bind fun l7 =>
  some (r4.1, (r4.2.1, (r4.2.2.1, (r4.2.2.2.1, (l7, r4.2.2.2.2.2)))))
noncomputable def ubvg_ (next : YY15 × YY12 × Int → Option (Sum (YY15 × YY12) (YY15 × Int × Int))) : YY15 × YY12 × Int → Option (Sum (YY15 × YY12) (YY15 × Int × Int)) := fun (t2, p_6, i_7) =>
 bif (decide (i_7 < (p_6.2.2.2.2.1.length : Int))) then
  (in? p_6.2.2.2.2.1.length i_7).bind fun _ =>
  (in? p_6.2.2.2.2.1.length (IntKind.i64.wrap (i_7 - (1 : Int)))).bind fun _ =>
  bif (eqS ((p_6.2.2.2.2.1.getD i_7.toNat (([] : Str), ([] : Str))).1) ((p_6.2.2.2.2.1.getD ((IntKind.i64.wrap (i_7 - (1 : Int))).toNat) (([] : Str), ([] : Str))).1)) then
   some (.inr ((([] : Str), (([] : Str), (([] : Str), (([] : Str), (([] : List (Str × Str)), ([] : Str)))))), (0 : Int), (5 : Int)))
  else
   next (t2, (p_6.1, (p_6.2.1, (p_6.2.2.1, (p_6.2.2.2.1, (p_6.2.2.2.2.1, p_6.2.2.2.2.2))))), (IntKind.i64.wrap (i_7 + (1 : Int))))
 else
  some (.inl (t2, (p_6.1, (p_6.2.1, (p_6.2.2.1, (p_6.2.2.2.1, (p_6.2.2.2.2.1, p_6.2.2.2.2.2)))))))
noncomputable def ubl3_ : YY15 × YY12 × Int → Option (Sum (YY15 × YY12) (YY15 × Int × Int)) := loopN ubvg_ fuel
noncomputable def ubuo_ : Str → Option (YY15 × Int × Int) := fun s_0 =>
 bif (decide ((3000 : Int) < (s_0.length : Int))) then
  some ((([] : Str), (([] : Str), (([] : Str), (([] : Str), (([] : List (Str × Str)), ([] : Str)))))), (0 : Int), (3 : Int))
 else
  (uug_ (s_0, ((0 : Int), (-1 : Int)))).bind fun r2 =>
  bif (decide ((0 : Int) ≤ r2.2.2.2)) then
   some ((([] : Str), (([] : Str), (([] : Str), (([] : Str), (([] : List (Str × Str)), ([] : Str)))))), r2.2.2.2, (6 : Int))
  else
   (uef_ (r2.1.2.2.2.2.1, (fun x => (ubay_ x).bind fun r => some r))).bind fun r4 =>
   (ubl3_ ((([] : Str), (([] : Str), (([] : Str), (([] : Str), (([] : List (Str × Str)), ([] : Str)))))), (r2.1.1, (r2.1.2.1, (r2.1.2.2.1, (r2.1.2.2.2.1, (r4, r2.1.2.2.2.2.2))))), (1 : Int))).bind fun r8 =>
   match r8 with
   | .inl y9 =>
     (ubf3_ (y9.2.1, (y9.2.2.1, (y9.2.2.2.1, (y9.2.2.2.2.1, (y9.2.2.2.2.2.1, y9.2.2.2.2.2.2)))))).bind fun r11 =>
     bif (!(eqI r11 (0 : Int))) then
      some ((([] : Str), (([] : Str), (([] : Str), (([] : Str), (([] : List (Str × Str)), ([] : Str)))))), (0 : Int), r11)
     else
      (uui_ (y9.2.1, (y9.2.2.1, (y9.2.2.2.1, (y9.2.2.2.2.1, (y9.2.2.2.2.2.1, y9.2.2.2.2.2.2)))))).bind fun r14 =>
      some (r14, (0 : Int), (0 : Int))
   | .inr y9' =>
     some (y9'.1, y9'.2.1, y9'.2.2)
noncomputable def ubl_ : (List Int) × Str → Option (Int × Unit × (List Int)) := fun (b_0, s_1) =>
 (ugr_ b_0).bind fun r1 =>
 (app? 24 r1 (ues_ s_1)).bind fun l2 =>
 some ((s_1.length : Int), (), l2)
noncomputable def ubla_ (next : Str × (List Int) × Int × Int → Option (List Int)) : Str × (List Int) × Int × Int → Option (List Int) := fun (s_0, b_3, t7, t8) =>
 bif (decide (t8 < t7)) then
  (at? s_0 t8).bind fun b1 =>
  (uyp_ (b1.toNat : Int)).bind fun r2 =>
  let v3 := ((decide ((48 : Int) ≤ (b1.toNat : Int))) && (decide ((b1.toNat : Int) ≤ (57 : Int))))
  (bif (!(r2 || v3)) then strings_IndexByte (([46, 45, 95, 126] : Str), (b1.toNat : Int)) else some (0 : Int)).bind fun r4 =>
  bif ((r2 || v3) || (decide ((0 : Int) ≤ r4))) then
   (ubf_ (b_3, (b1.toNat : Int))).bind fun r5 =>
   next (s_0, r5.2, t7, (IntKind.i64.wrap (t8 + (1 : Int))))
  else
   (div? IntKind.u8 (b1.toNat : Int) (16 : Int)).bind fun q6 =>
   (div? IntKind.u8 (b1.toNat : Int) (16 : Int)).bind fun q7 =>
   (cut? ([48, 49, 50, 51, 52, 53, 54, 55, 56, 57, 65, 66, 67, 68, 69, 70] : Str) q6 (IntKind.u8.wrap (q7 + (1 : Int)))).bind fun s8 =>
   (cat? ([37] : Str) s8).bind fun s9 =>
   (mod? (b1.toNat : Int) (16 : Int)).bind fun q10 =>
   (mod? (b1.toNat : Int) (16 : Int)).bind fun q11 =>
   (cut? ([48, 49, 50, 51, 52, 53, 54, 55, 56, 57, 65, 66, 67, 68, 69, 70] : Str) q10 (IntKind.u8.wrap (q11 + (1 : Int)))).bind fun s12 =>
   (cat? s9 s12).bind fun s13 =>
   (ubl_ (b_3, s13)).bind fun r14 =>
   next (s_0, r14.2.2, t7, (IntKind.i64.wrap (t8 + (1 : Int))))
 else
  some b_3
noncomputable def u7a_ : Str × (List Int) × Int × Int → Option (List Int) := loopN ubla_ fuel
noncomputable def uxf_ : Str → Option Str := fun s_0 =>
 (u7a_ (s_0, ([] : List Int), (s_0.length : Int), (0 : Int))).bind fun r15 =>
 (ub4_ r15).bind fun r16 =>
 some r16
noncomputable def ubvh_ (next : (List Str) × (List Str) × Int × Int → Option (List Str)) : (List Str) × (List Str) × Int × Int → Option (List Str) := fun (l_3, t7, t8, t9) =>
 bif (decide (t9 < t8)) then
  (at? t7 t9).bind fun y2 =>
  (uxf_ y2).bind fun r3 =>
  (app? 24 l_3 ([r3] : List Str)).bind fun l4 =>
  next (l4, t7, t8, (IntKind.i64.wrap (t9 + (1 : Int))))
 else
  some l_3
noncomputable def ubl4_ : (List Str) × (List Str) × Int × Int → Option (List Str) := loopN ubvh_ fuel
noncomputable def ubup_ : Str → Option Str := fun s_0 =>
 (ute_ s_0).bind fun r1 =>
 (ubl4_ (([] : List Str), r1, (r1.length : Int), (0 : Int))).bind fun r5 =>
 (strings_Join (r5, ([47] : Str))).bind fun r6 =>
 some r6
noncomputable def uba1_ : Str × Str × Str × Str × YY6 × Str → Option Str := fun p_0 =>
 (cat? ([112, 107, 103, 58] : Str) p_0.1).bind fun s1 =>
 (cat? s1 ([47] : Str)).bind fun s2 =>
 bif (!(eqS p_0.2.1 ([] : Str))) then
  (ubup_ p_0.2.1).bind fun r3 =>
  (cat? r3 ([47] : Str)).bind fun s4 =>
  (cat? s2 s4).bind fun s5 =>
  (uxf_ p_0.2.2.1).bind fun r6 =>
  (cat? s5 r6).bind fun s7 =>
  some s7
 else
  (uxf_ p_0.2.2.1).bind fun r8 =>
  (cat? s2 r8).bind fun s9 =>
  some s9
noncomputable def ubzn_ : Str × Str × Str × Str × YY6 × Str → Option (Str × Int) := fun p_0 =>
 (ubf3_ p_0).bind fun r1 =>
 bif (!(eqI r1 (0 : Int))) then
  some (([] : Str), r1)
 else
  (uui_ p_0).bind fun r2 =>
  (uba1_ r2).bind fun r3 =>
  some (r3, (0 : Int))
noncomputable def u11_ : Str → Option (Bool) := fun s_0 =>
 (ubuo_ s_0).bind fun r1 =>
 bif (!(eqI r1.2.2 (0 : Int))) then
  some false
 else
  (ubzn_ r1.1).bind fun r2 =>
  some ((eqI r2.2 (0 : Int)) && (eqS r2.1 s_0))
noncomputable def ubog_ (next : Str × Int × YY34 × Int → Option (Int)) : Str × Int × YY34 × Int → Option (Int) := fun (s_0, at_1, is_2, n_7) =>
 let v1 := (decide ((IntKind.i64.wrap (at_1 + n_7)) < (s_0.length : Int)))
 (bif v1 then at? s_0 (IntKind.i64.wrap (at_1 + n_7)) else some 0).bind fun b2 =>
 (bif v1 then is_2 (b2.toNat : Int) else some false).bind fun r3 =>
 bif (v1 && r3) then
  next (s_0, at_1, is_2, (IntKind.i64.wrap (n_7 + (1 : Int))))
 else
  some n_7
noncomputable def uba2_ : Str × Int × YY34 × Int → Option (Int) := loopN ubog_ fuel
noncomputable def uda_ : Str × Int × YY34 → Option (Int) := fun (s_0, at_1, is_2) =>
 (uba2_ (s_0, at_1, is_2, (0 : Int))).bind fun r4 =>
 some r4
noncomputable def u6_ : Int → Option (Bool) := fun c_0 =>
 some ((decide ((48 : Int) ≤ c_0)) && (decide (c_0 ≤ (57 : Int))))
noncomputable def ucr_ : Str → Option (Int × Bool) := fun s_0 =>
 let v1 := ((eqS s_0 ([] : Str)) || (decide ((18 : Int) < (s_0.length : Int))))
 (bif (!v1) then uda_ (s_0, (0 : Int), (fun x => (u6_ x).bind fun r => some r)) else some (0 : Int)).bind fun r2 =>
 bif (v1 || (!(eqI r2 (s_0.length : Int)))) then
  some ((0 : Int), false)
 else
  (ubax_ s_0).bind fun r3 =>
  some (r3.1, true)
noncomputable def ufi_ : Str → Option (Int × Bool) := fun s_0 =>
 (bif (decide ((1 : Int) < (s_0.length : Int))) then at? s_0 (0 : Int) else some 0).bind fun b1 =>
 bif ((decide ((1 : Int) < (s_0.length : Int))) && (eqI (b1.toNat : Int) (48 : Int))) then
  some ((0 : Int), false)
 else
  (ucr_ s_0).bind fun r3 =>
  some (r3.1, r3.2)
noncomputable def ufj_ : Int → Option (Bool) := fun c_0 =>
 some (((decide ((65 : Int) ≤ c_0)) && (decide (c_0 ≤ (90 : Int)))) || ((decide ((97 : Int) ≤ c_0)) && (decide (c_0 ≤ (122 : Int)))))
noncomputable def uin_ : Int → Option (Bool) := fun c_0 =>
 (u6_ c_0).bind fun r1 =>
 (bif (!r1) then ufj_ c_0 else some false).bind fun r2 =>
 some ((r1 || r2) || (eqI c_0 (45 : Int)))
noncomputable def uyr_ (next : (List Str) × Int × Int → Option (Sum (Unit) YY28)) : (List Str) × Int × Int → Option (Sum (Unit) YY28) := fun (t9, t10, t11) =>
 bif (decide (t11 < t10)) then
  (at? t9 t11).bind fun y2 =>
  (bif (!(eqS y2 ([] : Str))) then uda_ (y2, (0 : Int), (fun x => (uin_ x).bind fun r => some r)) else some (0 : Int)).bind fun r3 =>
  bif ((eqS y2 ([] : Str)) || (!(eqI r3 (y2.length : Int)))) then
   some (.inr (([] : List Str), false))
  else
   next (t9, t10, (IntKind.i64.wrap (t11 + (1 : Int))))
 else
  some (.inl ())
noncomputable def uos_ : (List Str) × Int × Int → Option (Sum (Unit) YY28) := loopN uyr_ fuel
noncomputable def uio_ : Str → Option YY28 := fun s_0 =>
 (strings_Split (s_0, ([46] : Str))).bind fun r1 =>
 (uos_ (r1, (r1.length : Int), (0 : Int))).bind fun r5 =>
 match r5 with
 | .inl y6 =>
   some (r1, true)
 | .inr y6' =>
   some (y6'.1, y6'.2)
noncomputable def u5x_ (next : (List Str) × Int × Int → Option (Sum (Unit) YY28)) : (List Str) × Int × Int → Option (Sum (Unit) YY28) := fun (t15, t16, t17) =>
 bif (decide (t17 < t16)) then
  (at? t15 t17).bind fun y2 =>
  (uda_ (y2, (0 : Int), (fun x => (u6_ x).bind fun r => some r))).bind fun r3 =>
  bif (eqI r3 (y2.length : Int)) then
   (ufi_ y2).bind fun r4 =>
   bif (!r4.2) then
    some (.inr (([] : List Str), false))
   else
    next (t15, t16, (IntKind.i64.wrap (t17 + (1 : Int))))
  else
   next (t15, t16, (IntKind.i64.wrap (t17 + (1 : Int))))
 else
  some (.inl ())
noncomputable def uuj_ : (List Str) × Int × Int → Option (Sum (Unit) YY28) := loopN u5x_ fuel
noncomputable def uuk_ : Str → Option YY28 := fun s_0 =>
 (uio_ s_0).bind fun r1 =>
 (uuj_ (r1.1, (r1.1.length : Int), (0 : Int))).bind fun r5 =>
 match r5 with
 | .inl y6 =>
   some (r1.1, r1.2)
 | .inr y6' =>
   some (y6'.1, y6'.2)
noncomputable def uba3_ : Str → Option YY28 := fun s_0 =>
 (strings_Cut (s_0, ([43] : Str))).bind fun r1 =>
 (uio_ r1.2.1).bind fun r2 =>
 bif (r1.2.2 && (!r2.2)) then
  some (([] : List Str), false)
 else
  bif (eqS r1.1 ([] : Str)) then
   some (([] : List Str), true)
  else
   (at? r1.1 (0 : Int)).bind fun b3 =>
   bif (!(eqI (b3.toNat : Int) (45 : Int))) then
    some (([] : List Str), false)
   else
    (cut? r1.1 (1 : Int) (r1.1.length : Int)).bind fun s4 =>
    (uuk_ s4).bind fun r5 =>
    some (r5.1, r5.2)
noncomputable def ujz_ : Str × Int × Bool → Option (Sum (Int) (YY3 × Bool)) := fun (s_0, at_5, t16) =>
 bif t16 then
  (bif (!(decide ((s_0.length : Int) ≤ at_5))) then at? s_0 at_5 else some 0).bind fun b1 =>
  bif ((decide ((s_0.length : Int) ≤ at_5)) || (!(eqI (b1.toNat : Int) (46 : Int)))) then
   some (.inr ((Sum.inr (Sum.inr (Sum.inr (Sum.inr (Sum.inr ()))))), false))
  else
   some (.inl (IntKind.i64.wrap (at_5 + (1 : Int))))
 else
  some (.inl at_5)
noncomputable def u0x_ (next : Str × YY26 × Int × Int → Option (Sum (YY26 × Int) (YY3 × Bool))) : Str × YY26 × Int × Int → Option (Sum (YY26 × Int) (YY3 × Bool)) := fun (s_0, v_4, at_5, t12) =>
 bif (decide (t12 < (3 : Int))) then
  (ujz_ (s_0, at_5, (decide ((0 : Int) < t12)))).bind fun r3 =>
  match r3 with
  | .inl y4 =>
    (uda_ (s_0, y4, (fun x => (u6_ x).bind fun r => some r))).bind fun r5 =>
    (cut? s_0 y4 (IntKind.i64.wrap (y4 + r5))).bind fun s6 =>
    (ufi_ s6).bind fun r7 =>
    bif (!r7.2) then
     some (.inr ((Sum.inr (Sum.inr (Sum.inr (Sum.inr (Sum.inr ()))))), false))
    else
     (in? 3 t12).bind fun _ =>
     next (s_0, ((v_4.1.set t12.toNat r7.1), v_4.2), (IntKind.i64.wrap (y4 + r5)), (IntKind.i64.wrap (t12 + (1 : Int))))
  | .inr y4' =>
    some (.inr (y4'.1, y4'.2))
 else
  some (.inl ((v_4.1, v_4.2), at_5))
noncomputable def uqs_ : Str × YY26 × Int × Int → Option (Sum (YY26 × Int) (YY3 × Bool)) := loopN u0x_ fuel
noncomputable def upv_ : Str → Option (YY3 × Bool) := fun s_0 =>
 (uqs_ (s_0, ((List.replicate 3 (0 : Int)), ([] : List Str)), (0 : Int), (0 : Int))).bind fun r8 =>
 match r8 with
 | .inl y9 =>
   (cut? s_0 y9.2 (s_0.length : Int)).bind fun s10 =>
   (uba3_ s10).bind fun r11 =>
   some ((Sum.inl (y9.1.1, r11.1)), r11.2)
 | .inr y9' =>
   some (y9'.1, y9'.2)
noncomputable def uip_ : Int → Option (Bool) := fun c_0 =>
 (u6_ c_0).bind fun r1 =>
 (bif (!r1) then ufj_ c_0 else some false).bind fun r2 =>
 (bif (!(r1 || r2)) then strings_IndexByte (([46, 43, 126, 45] : Str), c_0) else some (0 : Int)).bind fun r3 =>
 some ((r1 || r2) || (decide ((0 : Int) ≤ r3)))
noncomputable def u2r_ (next : Str × Int → Option YY22) : Str × Int → Option YY22 := fun (s_0, at_3) =>
 bif (decide (at_3 < (s_0.length : Int))) then
  (uda_ (s_0, at_3, (fun x => (u6_ x).bind fun r => some r))).bind fun r1 =>
  bif (decide ((18 : Int) < r1)) then
   some (.inr false)
  else
   next (s_0, (IntKind.i64.wrap (at_3 + (maxI r1 (1 : Int)))))
 else
  some (.inl ())
noncomputable def usm_ : Str × Int → Option YY22 := loopN u2r_ fuel
noncomputable def ur6_ : Str → Option (Bool) := fun s_0 =>
 (usm_ (s_0, (0 : Int))).bind fun r2 =>
 match r2 with
 | .inl y3 =>
   some true
 | .inr y3' =>
   some y3'
noncomputable def uiq_ : Str × YY30 × Str × Str × Bool → Option (Sum (Str × YY30) (YY3 × Bool)) := fun (s_0, v_4, epoch_5, rest_6, t18) =>
 bif t18 then
  (ufi_ epoch_5).bind fun r2 =>
  bif (!r2.2) then
   some (.inr ((Sum.inr (Sum.inr (Sum.inr (Sum.inr (Sum.inr ()))))), false))
  else
   some (.inl (rest_6, (r2.1, v_4.2)))
 else
  some (.inl (s_0, v_4))
noncomputable def uob_ : Str → Option (YY3 × Bool) := fun s_0 =>
 (strings_Cut (s_0, ([58] : Str))).bind fun r1 =>
 (uiq_ (s_0, ((0 : Int), (([] : Str), (([] : Str), false))), r1.1, r1.2.1, r1.2.2)).bind fun r3 =>
 match r3 with
 | .inl y4 =>
   (bif (!(eqS y4.1 ([] : Str))) then at? y4.1 (0 : Int) else some 0).bind fun b5 =>
   (bif (!(eqS y4.1 ([] : Str))) then u6_ (b5.toNat : Int) else some false).bind fun r6 =>
   (bif (!((eqS y4.1 ([] : Str)) || (!r6))) then uda_ (y4.1, (0 : Int), (fun x => (uip_ x).bind fun r => some r)) else some (0 : Int)).bind fun r7 =>
   let v8 := (((eqS y4.1 ([] : Str)) || (!r6)) || (!(eqI r7 (y4.1.length : Int))))
   (bif (!v8) then ur6_ y4.1 else some false).bind fun r9 =>
   bif (v8 || (!r9)) then
    some ((Sum.inr (Sum.inr (Sum.inr (Sum.inr (Sum.inr ()))))), false)
   else
    (strings_LastIndexByte (y4.1, (45 : Int))).bind fun r10 =>
    bif (decide ((0 : Int) ≤ r10)) then
     (cut? y4.1 (0 : Int) r10).bind fun s11 =>
     (cut? y4.1 (IntKind.i64.wrap (r10 + (1 : Int))) (y4.1.length : Int)).bind fun s12 =>
     bif (eqS s12 ([] : Str)) then
      some ((Sum.inr (Sum.inr (Sum.inr (Sum.inr (Sum.inr ()))))), false)
     else
      (strings_IndexByte (s11, (45 : Int))).bind fun r13 =>
      some ((Sum.inr (Sum.inl (y4.2.1, (s11, (s12, (decide ((0 : Int) ≤ r13))))))), true)
    else
     (strings_IndexByte (y4.1, (45 : Int))).bind fun r15 =>
     some ((Sum.inr (Sum.inl (y4.2.1, (y4.1, (y4.2.2.2.1, (decide ((0 : Int) ≤ r15))))))), true)
 | .inr y4' =>
   some (y4'.1, y4'.2)
noncomputable def u2s_ (next : Str × (List Int) → Option ((List Int) × Str × Bool)) : Str × (List Int) → Option ((List Int) × Str × Bool) := fun (s_0, out_5) =>
 (uda_ (s_0, (0 : Int), (fun x => (u6_ x).bind fun r => some r))).bind fun r1 =>
 (cut? s_0 (0 : Int) r1).bind fun s2 =>
 (ucr_ s2).bind fun r3 =>
 bif (!r3.2) then
  some (([] : List Int), ([] : Str), false)
 else
  (app? 24 out_5 ([r3.1] : List Int)).bind fun l4 =>
  (cut? s_0 r1 (s_0.length : Int)).bind fun s5 =>
  (bif (!(decide ((s5.length : Int) < (2 : Int)))) then at? s5 (0 : Int) else some 0).bind fun b6 =>
  let v7 := ((decide ((s5.length : Int) < (2 : Int))) || (!(eqI (b6.toNat : Int) (46 : Int))))
  (bif (!v7) then at? s5 (1 : Int) else some 0).bind fun b8 =>
  (bif (!v7) then u6_ (b8.toNat : Int) else some false).bind fun r9 =>
  bif (v7 || (!r9)) then
   some (l4, s5, true)
  else
   (cut? s5 (1 : Int) (s5.length : Int)).bind fun s10 =>
   next (s10, l4)
noncomputable def usn_ : Str × (List Int) → Option ((List Int) × Str × Bool) := loopN u2s_ fuel
noncomputable def ur7_ : Str → Option ((List Int) × Str × Bool) := fun s_0 =>
 (usn_ (s_0, ([] : List Int))).bind fun r11 =>
 some (r11.1, r11.2.1, r11.2.2)
noncomputable def uba4_ : Int → Option (Bool) := fun c_0 =>
 some (((eqI c_0 (46 : Int)) || (eqI c_0 (45 : Int))) || (eqI c_0 (95 : Int)))
noncomputable def uul_ : Str × YY34 → Option (Int) := fun (s_0, is_1) =>
 (bif (decide ((1 : Int) < (s_0.length : Int))) then at? s_0 (0 : Int) else some 0).bind fun b1 =>
 (bif (decide ((1 : Int) < (s_0.length : Int))) then uba4_ (b1.toNat : Int) else some false).bind fun r2 =>
 (bif ((decide ((1 : Int) < (s_0.length : Int))) && r2) then at? s_0 (1 : Int) else some 0).bind fun b3 =>
 (bif ((decide ((1 : Int) < (s_0.length : Int))) && r2) then is_1 (b3.toNat : Int) else some false).bind fun r4 =>
 bif (((decide ((1 : Int) < (s_0.length : Int))) && r2) && r4) then
  some (1 : Int)
 else
  some (0 : Int)
noncomputable def u2t_ (next : Str × Str × (List Str) × Int × Int → Option Str) : Str × Str × (List Str) × Int × Int → Option Str := fun (s_0, word_2, t7, t8, t9) =>
 bif (decide (t9 < t8)) then
  (at? t7 t9).bind fun y2 =>
  (strings_HasPrefix (s_0, y2)).bind fun r3 =>
  bif r3 then
   some y2
  else
   next (s_0, word_2, t7, t8, (IntKind.i64.wrap (t9 + (1 : Int))))
 else
  some word_2
noncomputable def uso_ : Str × Str × (List Str) × Int × Int → Option Str := loopN u2t_ fuel
noncomputable def ulw_ : Str × Bool → Option (Bool) := fun (t18, t21) =>
 bif t21 then
  some t21
 else
  some (eqS t18 ([97, 108, 112, 104, 97] : Str))
noncomputable def ulx_ : Str × Bool → Option (Bool) := fun (t18, t25) =>
 bif t25 then
  some t25
 else
  some (eqS t18 ([98, 101, 116, 97] : Str))
noncomputable def uly_ : Str × Bool → Option (Bool) := fun (t18, t29) =>
 bif t29 then
  some t29
 else
  bif (eqS t18 ([114, 99] : Str)) then
   some (eqS t18 ([114, 99] : Str))
  else
   bif (eqS t18 ([112, 114, 101] : Str)) then
    some (eqS t18 ([112, 114, 101] : Str))
   else
    some (eqS t18 ([112, 114, 101, 118, 105, 101, 119] : Str))
noncomputable def ur8_ : Str → Option YY10 := fun s_0 =>
 let v1 := ([([112, 114, 101, 118, 105, 101, 119] : Str), ([97, 108, 112, 104, 97] : Str), ([98, 101, 116, 97] : Str), ([112, 111, 115, 116] : Str), ([112, 114, 101] : Str), ([114, 101, 118] : Str), ([100, 101, 118] : Str), ([114, 99] : Str), ([97] : Str), ([98] : Str), ([99] : Str), ([114] : Str)] : List Str)
 (uso_ (s_0, ([] : Str), v1, (v1.length : Int), (0 : Int))).bind fun r4 =>
 bif (eqS r4 ([] : Str)) then
  some (([] : Str), (0 : Int), (0 : Int))
 else
  (ulw_ (r4, (eqS r4 ([97] : Str)))).bind fun r5 =>
  bif r5 then
   some (r4, (1 : Int), (1 : Int))
  else
   (ulx_ (r4, (eqS r4 ([98] : Str)))).bind fun r6 =>
   bif r6 then
    some (r4, (1 : Int), (2 : Int))
   else
    (uly_ (r4, (eqS r4 ([99] : Str)))).bind fun r7 =>
    bif r7 then
     some (r4, (1 : Int), (3 : Int))
    else
     bif (eqS r4 ([112, 111, 115, 116] : Str)) then
      bif (eqS r4 ([112, 111, 115, 116] : Str)) then
       some (r4, (2 : Int), (0 : Int))
      else
       some (r4, (3 : Int), (0 : Int))
     else
      bif (eqS r4 ([114, 101, 118] : Str)) then
       bif (eqS r4 ([114, 101, 118] : Str)) then
        some (r4, (2 : Int), (0 : Int))
       else
        some (r4, (3 : Int), (0 : Int))
      else
       bif (eqS r4 ([114] : Str)) then
        some (r4, (2 : Int), (0 : Int))
       else
        some (r4, (3 : Int), (0 : Int))
noncomputable def uhu_ : Str × Int × Int × Bool → Option (Sum (Str × Int) (Str × Bool)) := fun (rest_7, n_11, k_12, t49) =>
 bif t49 then
  (uda_ (rest_7, k_12, (fun x => (u6_ x).bind fun r => some r))).bind fun r9 =>
  (cut? rest_7 k_12 (IntKind.i64.wrap (k_12 + r9))).bind fun s10 =>
  (ucr_ s10).bind fun r11 =>
  bif (!r11.2) then
   some (.inr (([] : Str), false))
  else
   (cut? rest_7 (IntKind.i64.wrap (k_12 + r9)) (rest_7.length : Int)).bind fun s12 =>
   some (.inl (s12, r11.1))
 else
  some (.inl (rest_7, n_11))
noncomputable def uwe_ (next : YY9 × Str × Int → Option (YY9 × Str × Bool)) : YY9 × Str × Int → Option (YY9 × Str × Bool) := fun (v_0, s_1, last_6) =>
 (uul_ (s_1, (fun x => (ufj_ x).bind fun r => some r))).bind fun r1 =>
 (cut? s_1 r1 (s_1.length : Int)).bind fun s2 =>
 (ur8_ s2).bind fun r3 =>
 bif (eqS r3.1 ([] : Str)) then
  some (v_0, s_1, true)
 else
  bif (decide (r3.2.1 ≤ last_6)) then
   some (v_0, ([] : Str), false)
  else
   (cut? s2 (r3.1.length : Int) (s2.length : Int)).bind fun s4 =>
   (uul_ (s4, (fun x => (u6_ x).bind fun r => some r))).bind fun r5 =>
   (bif ((!(decide ((0 : Int) < r5))) && (!(eqS s4 ([] : Str)))) then at? s4 (0 : Int) else some 0).bind fun b6 =>
   (bif ((!(decide ((0 : Int) < r5))) && (!(eqS s4 ([] : Str)))) then u6_ (b6.toNat : Int) else some false).bind fun r7 =>
   (uhu_ (s4, (0 : Int), r5, ((decide ((0 : Int) < r5)) || ((!(eqS s4 ([] : Str))) && r7)))).bind fun r13 =>
   match r13 with
   | .inl y14 =>
     bif (eqI r3.2.1 (1 : Int)) then
      next ((v_0.1, (v_0.2.1, (r3.2.2, (y14.2, v_0.2.2.2.2)))), y14.1, r3.2.1)
     else
      bif (eqI r3.2.1 (2 : Int)) then
       next ((v_0.1, (v_0.2.1, (v_0.2.2.1, (v_0.2.2.2.1, (y14.2, v_0.2.2.2.2.2))))), y14.1, r3.2.1)
      else
       bif (eqI r3.2.1 (3 : Int)) then
        next ((v_0.1, (v_0.2.1, (v_0.2.2.1, (v_0.2.2.2.1, (v_0.2.2.2.2.1, (y14.2, v_0.2.2.2.2.2.2)))))), y14.1, r3.2.1)
       else
        next (v_0, y14.1, r3.2.1)
   | .inr y14' =>
     some (v_0, y14'.1, y14'.2)
noncomputable def unk_ : YY9 × Str × Int → Option (YY9 × Str × Bool) := loopN uwe_ fuel
noncomputable def ulz_ : YY9 × Str → Option (Str × Bool × YY9) := fun (v_0, s_1) =>
 (unk_ (v_0, s_1, (0 : Int))).bind fun r15 =>
 some (r15.2.1, r15.2.2, r15.1)
noncomputable def uxg_ : Int → Option (Bool) := fun c_0 =>
 some (((eqI c_0 (46 : Int)) || (eqI c_0 (45 : Int))) || (eqI c_0 (95 : Int)))
noncomputable def upw_ : Int → Option (Bool) := fun c_0 =>
 (u6_ c_0).bind fun r1 =>
 (bif (!r1) then ufj_ c_0 else some false).bind fun r2 =>
 some (r1 || r2)
noncomputable def u8r_ (next : Int × (List Str) × Int × Int → Option (Sum (Int) YY28)) : Int × (List Str) × Int × Int → Option (Sum (Int) YY28) := fun (n_5, t13, t14, t15) =>
 bif (decide (t15 < t14)) then
  (at? t13 t15).bind fun y2 =>
  (uda_ (y2, (0 : Int), (fun x => (u6_ x).bind fun r => some r))).bind fun r3 =>
  (uda_ (y2, (0 : Int), (fun x => (upw_ x).bind fun r => some r))).bind fun r4 =>
  bif ((!(eqI r4 (y2.length : Int))) || ((eqI r3 (y2.length : Int)) && (decide ((18 : Int) < r3)))) then
   some (.inr (([] : List Str), false))
  else
   next ((IntKind.i64.wrap (n_5 + (y2.length : Int))), t13, t14, (IntKind.i64.wrap (t15 + (1 : Int))))
 else
  some (.inl n_5)
noncomputable def uxh_ : Int × (List Str) × Int × Int → Option (Sum (Int) YY28) := loopN u8r_ fuel
noncomputable def uyc_ : Str → Option YY28 := fun s_0 =>
 (uhl_ (s_0, (fun x => (uxg_ x).bind fun r => some r))).bind fun r1 =>
 (uxh_ ((r1.length : Int), r1, (r1.length : Int), (0 : Int))).bind fun r6 =>
 match r6 with
 | .inl y7 =>
   some (r1, ((decide ((0 : Int) < (r1.length : Int))) && (eqI (IntKind.i64.wrap (y7 - (1 : Int))) (s_0.length : Int))))
 | .inr y7' =>
   some (y7'.1, y7'.2)
noncomputable def uj0_ : Str × YY9 × Int × Bool → Option (Sum (Str × YY9) (YY3 × Bool)) := fun (s_0, v_4, n_5, t29) =>
 bif t29 then
  (cut? s_0 (0 : Int) n_5).bind fun s6 =>
  (ucr_ s6).bind fun r7 =>
  bif (!r7.2) then
   some (.inr ((Sum.inr (Sum.inr (Sum.inr (Sum.inr (Sum.inr ()))))), false))
  else
   (cut? s_0 (IntKind.i64.wrap (n_5 + (1 : Int))) (s_0.length : Int)).bind fun s8 =>
   some (.inl (s8, (r7.1, v_4.2)))
 else
  some (.inl (s_0, v_4))
noncomputable def upx_ : Str → Option (YY3 × Bool) := fun s_0 =>
 (strings_TrimPrefix (s_0, ([118] : Str))).bind fun r2 =>
 (uda_ (r2, (0 : Int), (fun x => (u6_ x).bind fun r => some r))).bind fun r3 =>
 (bif (decide (r3 < (r2.length : Int))) then at? r2 r3 else some 0).bind fun b4 =>
 (uj0_ (r2, ((0 : Int), (([] : List Int), ((0 : Int), ((0 : Int), ((-1 : Int), ((-1 : Int), ([] : List Str))))))), r3, ((decide (r3 < (r2.length : Int))) && (eqI (b4.toNat : Int) (33 : Int))))).bind fun r9 =>
 match r9 with
 | .inl y10 =>
   (ur7_ y10.1).bind fun r11 =>
   bif (!r11.2.2) then
    some ((Sum.inr (Sum.inr (Sum.inr (Sum.inr (Sum.inr ()))))), false)
   else
    (ulz_ ((y10.2.1, (r11.1, y10.2.2.2)), r11.2.1)).bind fun r12 =>
    bif (!r12.2.1) then
     some ((Sum.inr (Sum.inr (Sum.inr (Sum.inr (Sum.inr ()))))), false)
    else
     (strings_CutPrefix (r12.1, ([43] : Str))).bind fun r13 =>
     bif r13.2 then
      (uyc_ r13.1).bind fun r14 =>
      some ((Sum.inr (Sum.inr (Sum.inl (r12.2.2.1, (r12.2.2.2.1, (r12.2.2.2.2.1, (r12.2.2.2.2.2.1, (r12.2.2.2.2.2.2.1, (r12.2.2.2.2.2.2.2.1, r14.1))))))))), r14.2)
     else
      some ((Sum.inr (Sum.inr (Sum.inl r12.2.2))), (eqS r12.1 ([] : Str)))
 | .inr y10' =>
   some (y10'.1, y10'.2)
noncomputable def u5y_ : Str × Bool → Option Str := fun (w_0, followed_1) =>
 (url_ w_0).bind fun r1 =>
 bif ((eqS r1 ([97] : Str)) && followed_1) then
  some ([97, 108, 112, 104, 97] : Str)
 else
  bif ((eqS r1 ([98] : Str)) && followed_1) then
   some ([98, 101, 116, 97] : Str)
  else
   bif ((eqS r1 ([109] : Str)) && followed_1) then
    some ([109, 105, 108, 101, 115, 116, 111, 110, 101] : Str)
   else
    bif (eqS r1 ([99, 114] : Str)) then
     some ([114, 99] : Str)
    else
     bif (((eqS r1 ([102, 105, 110, 97, 108] : Str)) || (eqS r1 ([103, 97] : Str))) || (eqS r1 ([114, 101, 108, 101, 97, 115, 101] : Str))) then
      some ([] : Str)
     else
      some r1
noncomputable def ugu_ : Bool × Str × Int → Option (Bool) := fun t_0 =>
 some ((t_0.1 && (eqS t_0.2.1 ([] : Str))) || ((!t_0.1) && (eqI t_0.2.2 (0 : Int))))
noncomputable def uhe_ : Str × Int × Bool → Option (Sum (Int) (YY3 × Bool)) := fun (s_0, at_5, t24) =>
 bif t24 then
  let v4 := (eqI at_5 (IntKind.i64.wrap ((s_0.length : Int) - (1 : Int))))
  (bif (!((eqI at_5 (0 : Int)) || v4)) then at? s_0 (IntKind.i64.wrap (at_5 + (1 : Int))) else some 0).bind fun b5 =>
  (bif (!((eqI at_5 (0 : Int)) || v4)) then u6_ (b5.toNat : Int) else some false).bind fun r6 =>
  (bif ((!((eqI at_5 (0 : Int)) || v4)) && (!r6)) then at? s_0 (IntKind.i64.wrap (at_5 + (1 : Int))) else some 0).bind fun b7 =>
  (bif ((!((eqI at_5 (0 : Int)) || v4)) && (!r6)) then ufj_ (b7.toNat : Int) else some false).bind fun r8 =>
  bif (((eqI at_5 (0 : Int)) || v4) || ((!r6) && (!r8))) then
   some (.inr ((Sum.inr (Sum.inr (Sum.inr (Sum.inr (Sum.inr ()))))), false))
  else
   some (.inl (IntKind.i64.wrap (at_5 + (1 : Int))))
 else
  some (.inl at_5)
noncomputable def uum_ (next : Str × (List YY18) × Int → Option (Sum (List YY18) (YY3 × Bool))) : Str × (List YY18) × Int → Option (Sum (List YY18) (YY3 × Bool)) := fun (s_0, v_4, at_5) =>
 bif (decide (at_5 < (s_0.length : Int))) then
  (at? s_0 at_5).bind fun b1 =>
  (bif (!(eqI (b1.toNat : Int) (46 : Int))) then at? s_0 at_5 else some 0).bind fun b2 =>
  (uhe_ (s_0, at_5, ((eqI (b1.toNat : Int) (46 : Int)) || (eqI (b2.toNat : Int) (45 : Int))))).bind fun r9 =>
  match r9 with
  | .inl y10 =>
    (uda_ (s_0, y10, (fun x => (u6_ x).bind fun r => some r))).bind fun r11 =>
    bif (decide ((0 : Int) < r11)) then
     (cut? s_0 y10 (IntKind.i64.wrap (y10 + r11))).bind fun s12 =>
     (ucr_ s12).bind fun r13 =>
     bif (!r13.2) then
      some (.inr ((Sum.inr (Sum.inr (Sum.inr (Sum.inr (Sum.inr ()))))), false))
     else
      (app? 72 v_4 ([(false, (([] : Str), r13.1))] : List YY18)).bind fun l15 =>
      next (s_0, l15, (IntKind.i64.wrap (y10 + r11)))
    else
     (uda_ (s_0, y10, (fun x => (ufj_ x).bind fun r => some r))).bind fun r16 =>
     bif (eqI r16 (0 : Int)) then
      some (.inr ((Sum.inr (Sum.inr (Sum.inr (Sum.inr (Sum.inr ()))))), false))
     else
      let v17 := (decide ((IntKind.i64.wrap (y10 + r16)) < (s_0.length : Int)))
      (bif v17 then at? s_0 (IntKind.i64.wrap (y10 + r16)) else some 0).bind fun b18 =>
      (bif v17 then u6_ (b18.toNat : Int) else some false).bind fun r19 =>
      (cut? s_0 y10 (IntKind.i64.wrap (y10 + r16))).bind fun s20 =>
      (u5y_ (s20, (v17 && r19))).bind fun r21 =>
      (app? 72 v_4 ([(true, (r21, (0 : Int)))] : List YY18)).bind fun l23 =>
      next (s_0, l23, (IntKind.i64.wrap (y10 + r16)))
  | .inr y10' =>
    some (.inr (y10'.1, y10'.2))
 else
  some (.inl v_4)
noncomputable def ul0_ : Str × (List YY18) × Int → Option (Sum (List YY18) (YY3 × Bool)) := loopN uum_ fuel
noncomputable def uun_ (next : List YY18 → Option (List YY18)) : List YY18 → Option (List YY18) := fun v_4 =>
 (bif (decide ((0 : Int) < (v_4.length : Int))) then at? v_4 (IntKind.i64.wrap ((v_4.length : Int) - (1 : Int))) else some (false, (([] : Str), (0 : Int)))).bind fun y29 =>
 (bif (decide ((0 : Int) < (v_4.length : Int))) then ugu_ y29 else some false).bind fun r30 =>
 bif ((decide ((0 : Int) < (v_4.length : Int))) && r30) then
  (cut? v_4 (0 : Int) (IntKind.i64.wrap ((v_4.length : Int) - (1 : Int)))).bind fun s31 =>
  next s31
 else
  some v_4
noncomputable def ul1_ : List YY18 → Option (List YY18) := loopN uun_ fuel
noncomputable def uj1_ : Str → Option (YY3 × Bool) := fun s_0 =>
 (ul0_ (s_0, ([] : List YY18), (0 : Int))).bind fun r24 =>
 match r24 with
 | .inl y25 =>
   (ul1_ y25).bind fun r32 =>
   some ((Sum.inr (Sum.inr (Sum.inr (Sum.inl r32)))), true)
 | .inr y25' =>
   some (y25'.1, y25'.2)
noncomputable def ur9_ : Str → Option (YY3 × Bool) := fun s_0 =>
 (ufi_ s_0).bind fun r1 =>
 some ((Sum.inr (Sum.inr (Sum.inr (Sum.inr (Sum.inl r1.1))))), r1.2)
noncomputable def uxi_ : Int × Str → Option (YY3 × Int) := fun (kind_0, s_1) =>
 bif ((decide (kind_0 < (1 : Int))) || (decide ((5 : Int) < kind_0))) then
  some ((Sum.inr (Sum.inr (Sum.inr (Sum.inr (Sum.inr ()))))), (7 : Int))
 else
  bif ((eqS s_1 ([] : Str)) || (decide ((100 : Int) < (s_1.length : Int)))) then
   some ((Sum.inr (Sum.inr (Sum.inr (Sum.inr (Sum.inr ()))))), (3 : Int))
  else
   bif (eqI kind_0 (1 : Int)) then
    (upv_ s_1).bind fun r3 =>
    bif (!r3.2) then
     some ((Sum.inr (Sum.inr (Sum.inr (Sum.inr (Sum.inr ()))))), (6 : Int))
    else
     some (r3.1, (0 : Int))
   else
    bif (eqI kind_0 (2 : Int)) then
     (uob_ s_1).bind fun r4 =>
     bif (!r4.2) then
      some ((Sum.inr (Sum.inr (Sum.inr (Sum.inr (Sum.inr ()))))), (6 : Int))
     else
      some (r4.1, (0 : Int))
    else
     bif (eqI kind_0 (3 : Int)) then
      (url_ s_1).bind fun r5 =>
      (upx_ r5).bind fun r6 =>
      bif (!r6.2) then
       some ((Sum.inr (Sum.inr (Sum.inr (Sum.inr (Sum.inr ()))))), (6 : Int))
      else
       some (r6.1, (0 : Int))
     else
      bif (eqI kind_0 (4 : Int)) then
       (uj1_ s_1).bind fun r7 =>
       bif (!r7.2) then
        some ((Sum.inr (Sum.inr (Sum.inr (Sum.inr (Sum.inr ()))))), (6 : Int))
       else
        some (r7.1, (0 : Int))
      else
       bif (eqI kind_0 (5 : Int)) then
        (ur9_ s_1).bind fun r8 =>
        bif (!r8.2) then
         some ((Sum.inr (Sum.inr (Sum.inr (Sum.inr (Sum.inr ()))))), (6 : Int))
        else
         some (r8.1, (0 : Int))
       else
        bif (!false) then
         some ((Sum.inr (Sum.inr (Sum.inr (Sum.inr (Sum.inr ()))))), (6 : Int))
        else
         some ((Sum.inr (Sum.inr (Sum.inr (Sum.inr (Sum.inr ()))))), (0 : Int))
noncomputable def uys_ (next : (List Str) × (List Int) × Int × Int → Option (List Str)) : (List Str) × (List Int) × Int × Int → Option (List Str) := fun (parts_3, t6, t7, t8) =>
 bif (decide (t8 < t7)) then
  (at? t6 t8).bind fun y1 =>
  (strconv_Itoa y1).bind fun r2 =>
  (app? 24 parts_3 ([r2] : List Str)).bind fun l3 =>
  next (l3, t6, t7, (IntKind.i64.wrap (t8 + (1 : Int))))
 else
  some parts_3
noncomputable def uot_ : (List Str) × (List Int) × Int × Int → Option (List Str) := loopN uys_ fuel
noncomputable def uir_ : List Int → Option Str := fun l_0 =>
 (uot_ (([] : List Str), l_0, (l_0.length : Int), (0 : Int))).bind fun r4 =>
 (strings_Join (r4, ([46] : Str))).bind fun r5 =>
 some r5
noncomputable def uhn_ : (List Int) × (List Str) → Option Str := fun v_0 =>
 (cut? v_0.1 (0 : Int) (v_0.1.length : Int)).bind fun s1 =>
 (uir_ s1).bind fun r2 =>
 bif (decide ((0 : Int) < (v_0.2.length : Int))) then
  (strings_Join (v_0.2, ([46] : Str))).bind fun r3 =>
  (cat? ([45] : Str) r3).bind fun s4 =>
  (cat? r2 s4).bind fun s5 =>
  some s5
 else
  some r2
noncomputable def uyt_ (next : Str × (List Int) × Int → Option (List Int)) : Str × (List Int) × Int → Option (List Int) := fun (s_0, b_3, at_4) =>
 bif (decide (at_4 < (s_0.length : Int))) then
  (uda_ (s_0, at_4, (fun x => (u6_ x).bind fun r => some r))).bind fun r1 =>
  bif (eqI r1 (0 : Int)) then
   (at? s_0 at_4).bind fun b2 =>
   (ubf_ (b_3, (b2.toNat : Int))).bind fun r3 =>
   next (s_0, r3.2, (IntKind.i64.wrap (at_4 + (1 : Int))))
  else
   (cut? s_0 at_4 (IntKind.i64.wrap (at_4 + r1))).bind fun s4 =>
   (ucr_ s4).bind fun r5 =>
   bif (((!(eqI r5.1 (0 : Int))) || (decide ((IntKind.i64.wrap (at_4 + r1)) < (s_0.length : Int)))) || (eqI r1 (s_0.length : Int))) then
    (strconv_Itoa r5.1).bind fun r8 =>
    (ubl_ (b_3, r8)).bind fun r9 =>
    next (s_0, r9.2.2, (IntKind.i64.wrap (at_4 + r1)))
   else
    next (s_0, b_3, (IntKind.i64.wrap (at_4 + r1)))
 else
  some b_3
noncomputable def uou_ : Str × (List Int) × Int → Option (List Int) := loopN uyt_ fuel
noncomputable def uis_ : Str → Option Str := fun s_0 =>
 (uou_ (s_0, ([] : List Int), (0 : Int))).bind fun r10 =>
 (ub4_ r10).bind fun r11 =>
 some r11
noncomputable def uho_ : Int × Str × Str × Bool → Option Str := fun v_0 =>
 bif (eqS v_0.2.2.1 ([] : Str)) then
  some ([48] : Str)
 else
  some v_0.2.2.1
noncomputable def uj2_ : Int → Option (Bool) := fun c_0 =>
 (u6_ c_0).bind fun r1 =>
 some (!r1)
noncomputable def u8s_ (next : Str × (List Int) × Int × Int → Option (List Int)) : Str × (List Int) × Int × Int → Option (List Int) := fun (s_0, b_3, t6, t7) =>
 bif (decide (t7 < t6)) then
  (at? s_0 t7).bind fun b1 =>
  bif (eqI (b1.toNat : Int) (126 : Int)) then
   (ubf_ (b_3, (1 : Int))).bind fun r2 =>
   next (s_0, r2.2, t6, (IntKind.i64.wrap (t7 + (1 : Int))))
  else
   (at? s_0 t7).bind fun b3 =>
   (ufj_ (b3.toNat : Int)).bind fun r4 =>
   bif r4 then
    (at? s_0 t7).bind fun b5 =>
    (ubf_ (b_3, (b5.toNat : Int))).bind fun r6 =>
    next (s_0, r6.2, t6, (IntKind.i64.wrap (t7 + (1 : Int))))
   else
    (at? s_0 t7).bind fun b7 =>
    (ubf_ (b_3, (IntKind.u8.wrap ((b7.toNat : Int) + (128 : Int))))).bind fun r8 =>
    next (s_0, r8.2, t6, (IntKind.i64.wrap (t7 + (1 : Int))))
 else
  some b_3
noncomputable def uxj_ : Str × (List Int) × Int × Int → Option (List Int) := loopN u8s_ fuel
noncomputable def uyd_ : Str → Option Str := fun s_0 =>
 (uxj_ (s_0, ([] : List Int), (s_0.length : Int), (0 : Int))).bind fun r9 =>
 (ub4_ r9).bind fun r10 =>
 (cat? r10 ([2] : Str)).bind fun s11 =>
 some s11
noncomputable def udr_ : Int → Option Str := fun n_0 =>
 (strconv_Itoa n_0).bind fun r1 =>
 (strings_Repeat (([48] : Str), (IntKind.i64.wrap ((18 : Int) - (r1.length : Int))))).bind fun r2 =>
 (cat? r2 r1).bind fun s3 =>
 some s3
noncomputable def u0y_ (next : Str × (List Int) → Option (List Int)) : Str × (List Int) → Option (List Int) := fun (s_0, b_3) =>
 bif (!(eqS s_0 ([] : Str))) then
  (uda_ (s_0, (0 : Int), (fun x => (uj2_ x).bind fun r => some r))).bind fun r1 =>
  (uda_ (s_0, r1, (fun x => (u6_ x).bind fun r => some r))).bind fun r2 =>
  (cut? s_0 r1 (IntKind.i64.wrap (r1 + r2))).bind fun s3 =>
  (ucr_ s3).bind fun r4 =>
  (cut? s_0 (0 : Int) r1).bind fun s5 =>
  (uyd_ s5).bind fun r6 =>
  (udr_ r4.1).bind fun r7 =>
  (cat? r6 r7).bind fun s8 =>
  (ubl_ (b_3, s8)).bind fun r9 =>
  (cut? s_0 (IntKind.i64.wrap (r1 + r2)) (s_0.length : Int)).bind fun s10 =>
  next (s10, r9.2.2)
 else
  some b_3
noncomputable def uqt_ : Str × (List Int) → Option (List Int) := loopN u0y_ fuel
noncomputable def uf7_ : Str → Option Str := fun s_0 =>
 (uqt_ (s_0, ([] : List Int))).bind fun r11 =>
 (ub4_ r11).bind fun r12 =>
 (cat? r12 ([2] : Str)).bind fun s13 =>
 some s13
noncomputable def uhf_ : YY30 × Str × Bool → Option (YY30 × Str) := fun (v_1, s_3, t9) =>
 bif t9 then
  (strconv_Itoa v_1.1).bind fun r2 =>
  (cat? r2 ([58] : Str)).bind fun s3 =>
  (cat? s3 s_3).bind fun s4 =>
  some (v_1, s4)
 else
  some (v_1, s_3)
noncomputable def uha_ : Int × Str × Str × Bool → Option Str := fun v_0 =>
 (uis_ v_0.2.1).bind fun r1 =>
 (uhf_ (v_0, r1, (!(eqI v_0.1 (0 : Int))))).bind fun r5 =>
 (uho_ r5.1).bind fun r6 =>
 (uf7_ r6).bind fun r7 =>
 (uf7_ ([48] : Str)).bind fun r8 =>
 bif (!(eqS r7 r8)) then
  (cat? r5.2 ([45] : Str)).bind fun s9 =>
  (uis_ r5.1.2.2.1).bind fun r10 =>
  (cat? s9 r10).bind fun s11 =>
  some s11
 else
  bif r5.1.2.2.2 then
   (cat? r5.2 ([45, 48] : Str)).bind fun s12 =>
   some s12
  else
   some r5.2
noncomputable def u8t_ (next : List Int → Option (List Int)) : List Int → Option (List Int) := fun l_0 =>
 (bif (decide ((0 : Int) < (l_0.length : Int))) then at? l_0 (IntKind.i64.wrap ((l_0.length : Int) - (1 : Int))) else some (0 : Int)).bind fun y1 =>
 bif ((decide ((0 : Int) < (l_0.length : Int))) && (eqI y1 (0 : Int))) then
  (cut? l_0 (0 : Int) (IntKind.i64.wrap ((l_0.length : Int) - (1 : Int)))).bind fun s3 =>
  next s3
 else
  some l_0
noncomputable def uxk_ : List Int → Option (List Int) := loopN u8t_ fuel
noncomputable def urm_ : List Int → Option (List Int) := fun l_0 =>
 (uxk_ l_0).bind fun r4 =>
 some r4
noncomputable def uhv_ : YY9 × Str × Bool → Option (YY9 × Str) := fun (v_1, s_3, t11) =>
 bif t11 then
  (strconv_Itoa v_1.1).bind fun r1 =>
  (cat? r1 ([33] : Str)).bind fun s2 =>
  some (v_1, s2)
 else
  some (v_1, s_3)
noncomputable def uhw_ : Str × (List Int) × Bool → Option Str := fun (s_3, l_4, t21) =>
 bif t21 then
  (uir_ l_4).bind fun r5 =>
  (cat? s_3 r5).bind fun s6 =>
  some s6
 else
  (cat? s_3 ([48] : Str)).bind fun s7 =>
  some s7
noncomputable def uhx_ : YY9 × Str × Bool → Option (YY9 × Str) := fun (v_1, s_3, t30) =>
 bif t30 then
  (at? ([([] : Str), ([97] : Str), ([98] : Str), ([114, 99] : Str)] : List Str) v_1.2.2.1).bind fun y10 =>
  (strconv_Itoa v_1.2.2.2.1).bind fun r11 =>
  (cat? y10 r11).bind fun s12 =>
  (cat? s_3 s12).bind fun s13 =>
  some (v_1, s13)
 else
  some (v_1, s_3)
noncomputable def uhy_ : YY9 × Str × Bool → Option (YY9 × Str) := fun (v_1, s_3, t44) =>
 bif t44 then
  (strconv_Itoa v_1.2.2.2.2.1).bind fun r15 =>
  (cat? ([46, 112, 111, 115, 116] : Str) r15).bind fun s16 =>
  (cat? s_3 s16).bind fun s17 =>
  some (v_1, s17)
 else
  some (v_1, s_3)
noncomputable def uhz_ : YY9 × Str × Bool → Option (YY9 × Str) := fun (v_1, s_3, t53) =>
 bif t53 then
  (strconv_Itoa v_1.2.2.2.2.2.1).bind fun r19 =>
  (cat? ([46, 100, 101, 118] : Str) r19).bind fun s20 =>
  (cat? s_3 s20).bind fun s21 =>
  some (v_1, s21)
 else
  some (v_1, s_3)
noncomputable def uh0_ : Str × Int × Bool → Option Str := fun (p_6, n_7, t73) =>
 bif t73 then
  (strconv_Itoa n_7).bind fun r25 =>
  some r25
 else
  some p_6
noncomputable def uwf_ (next : Str × (List Str) × Int × Int → Option Str) : Str × (List Str) × Int × Int → Option Str := fun (s_3, t61, t62, t63) =>
 bif (decide (t63 < t62)) then
  (at? t61 t63).bind fun y23 =>
  (ucr_ y23).bind fun r24 =>
  (uh0_ (y23, r24.1, r24.2)).bind fun r26 =>
  bif (eqI t63 (0 : Int)) then
   (cat? ([43] : Str) r26).bind fun s27 =>
   (cat? s_3 s27).bind fun s28 =>
   next (s28, t61, t62, (IntKind.i64.wrap (t63 + (1 : Int))))
  else
   (cat? ([46] : Str) r26).bind fun s29 =>
   (cat? s_3 s29).bind fun s30 =>
   next (s30, t61, t62, (IntKind.i64.wrap (t63 + (1 : Int))))
 else
  some s_3
noncomputable def unl_ : Str × (List Str) × Int × Int → Option Str := loopN uwf_ fuel
noncomputable def uhp_ : Int × (List Int) × Int × Int × Int × Int × (List Str) → Option Str := fun v_0 =>
 (uhv_ (v_0, ([] : Str), (!(eqI v_0.1 (0 : Int))))).bind fun r3 =>
 (urm_ r3.1.2.1).bind fun r4 =>
 (uhw_ (r3.2, r4, (decide ((0 : Int) < (r4.length : Int))))).bind fun r8 =>
 (uhx_ (r3.1, r8, (decide ((0 : Int) < r3.1.2.2.1)))).bind fun r14 =>
 (uhy_ (r14.1, r14.2, (decide ((0 : Int) ≤ r14.1.2.2.2.2.1)))).bind fun r18 =>
 (uhz_ (r18.1, r18.2, (decide ((0 : Int) ≤ r18.1.2.2.2.2.2.1)))).bind fun r22 =>
 (unl_ (r22.2, r22.1.2.2.2.2.2.2, (r22.1.2.2.2.2.2.2.length : Int), (0 : Int))).bind fun r31 =>
 some r31
noncomputable def urn_ (next : (List Str) × (List YY18) × Int × Int → Option (List Str)) : (List Str) × (List YY18) × Int × Int → Option (List Str) := fun (l_3, t7, t8, t9) =>
 bif (decide (t9 < t8)) then
  (at? t7 t9).bind fun y1 =>
  (ugu_ y1).bind fun r2 =>
  bif r2 then
   (app? 24 l_3 ([([48] : Str)] : List Str)).bind fun l3 =>
   next (l3, t7, t8, (IntKind.i64.wrap (t9 + (1 : Int))))
  else
   bif y1.1 then
    (app? 24 l_3 ([y1.2.1] : List Str)).bind fun l4 =>
    next (l4, t7, t8, (IntKind.i64.wrap (t9 + (1 : Int))))
   else
    (strconv_Itoa y1.2.2).bind fun r5 =>
    (app? 24 l_3 ([r5] : List Str)).bind fun l6 =>
    next (l6, t7, t8, (IntKind.i64.wrap (t9 + (1 : Int))))
 else
  some l_3
noncomputable def ujh_ : (List Str) × (List YY18) × Int × Int → Option (List Str) := loopN urn_ fuel
noncomputable def ufv_ : List YY18 → Option Str := fun v_0 =>
 (ujh_ (([] : List Str), v_0, (v_0.length : Int), (0 : Int))).bind fun r7 =>
 bif (eqI (r7.length : Int) (0 : Int)) then
  some ([48] : Str)
 else
  (strings_Join (r7, ([45] : Str))).bind fun r8 =>
  some r8
noncomputable def uit_ : Int → Option Str := fun v_0 =>
 (strconv_Itoa v_0).bind fun r1 =>
 some r1
noncomputable def uye_ : Sum YY26 (Sum YY30 (Sum YY9 (Sum (List YY18) (Sum Int Unit)))) → Option (Str × Int) := fun v_0 =>
 ((fun z => Sum.casesOn (motive := fun _ => Option Str) z (fun x => (uhn_ x).bind fun r => some r) (fun z => Sum.casesOn (motive := fun _ => Option Str) z (fun x => (uha_ x).bind fun r => some r) (fun z => Sum.casesOn (motive := fun _ => Option Str) z (fun x => (uhp_ x).bind fun r => some r) (fun z => Sum.casesOn (motive := fun _ => Option Str) z (fun x => (ufv_ x).bind fun r => some r) (fun z => Sum.casesOn (motive := fun _ => Option Str) z (fun x => (uit_ x).bind fun r => some r) (fun _ => none)))))) v_0).bind fun r1 =>
 bif (decide ((100 : Int) < (r1.length : Int))) then
  some (([] : Str), (3 : Int))
 else
  some (r1, (0 : Int))
noncomputable def uov_ : Int × Str → Option (Str × Int) := fun (kind_0, s_1) =>
 (uxi_ (kind_0, s_1)).bind fun r1 =>
 bif (!(eqI r1.2 (0 : Int))) then
  some (([] : Str), r1.2)
 else
  (uye_ r1.1).bind fun r2 =>
  some (r2.1, r2.2)
noncomputable def uwg_ (next : YY5 × YY23 × Int × Int → Option YY24) : YY5 × YY23 × Int × Int → Option YY24 := fun (a_1, t12, t13, t14) =>
 bif (decide (t14 < t13)) then
  (at? t12 t14).bind fun y1 =>
  bif ((decide (y1.1 < (1 : Int))) || (decide ((3 : Int) < y1.1))) then
   some (.inr (7 : Int))
  else
   bif (eqS y1.2 ([] : Str)) then
    bif (!(eqI y1.1 (1 : Int))) then
     some (.inr (2 : Int))
    else
     next (a_1, t12, t13, (IntKind.i64.wrap (t14 + (1 : Int))))
   else
    (uov_ (a_1.2.1, y1.2)).bind fun r2 =>
    bif (!(eqI r2.2 (0 : Int))) then
     some (.inr r2.2)
    else
     next (a_1, t12, t13, (IntKind.i64.wrap (t14 + (1 : Int))))
 else
  some (.inl ())
noncomputable def unm_ : YY5 × YY23 × Int × Int → Option YY24 := loopN uwg_ fuel
noncomputable def ul2_ : Str × Int × YY23 × (List Str) × (List Str) → Option (Int) := fun a_0 =>
 bif (decide ((100 : Int) < (a_0.2.2.1.length : Int))) then
  some (3 : Int)
 else
  (unm_ (a_0, a_0.2.2.1, (a_0.2.2.1.length : Int), (0 : Int))).bind fun r3 =>
  match r3 with
  | .inl y4 =>
    some (0 : Int)
  | .inr y4' =>
    some y4'
noncomputable def uro_ (next : Str × Bool × Int × Int → Option (Bool)) : Str × Bool × Int × Int → Option (Bool) := fun (s_4, bad_5, t25, t26) =>
 bif (decide (t26 < t25)) then
  (bif (!bad_5) then at? s_4 t26 else some 0).bind fun b3 =>
  (bif (!(bad_5 || (decide ((b3.toNat : Int) < (33 : Int))))) then at? s_4 t26 else some 0).bind fun b4 =>
  next (s_4, ((bad_5 || (decide ((b3.toNat : Int) < (33 : Int)))) || (decide ((126 : Int) < (b4.toNat : Int)))), t25, (IntKind.i64.wrap (t26 + (1 : Int))))
 else
  some bad_5
noncomputable def uji_ : Str × Bool × Int × Int → Option (Bool) := loopN uro_ fuel
noncomputable def urp_ (next : (List Str) × (List Str) × Int × Int → Option YY24) : (List Str) × (List Str) × Int × Int → Option YY24 := fun (l_0, t10, t11, t12) =>
 bif (decide (t12 < t11)) then
  (at? t10 t12).bind fun y1 =>
  (uji_ (y1, ((eqS y1 ([] : Str)) || (decide ((200 : Int) < (y1.length : Int)))), (y1.length : Int), (0 : Int))).bind fun r6 =>
  bif r6 then
   some (.inr (8 : Int))
  else
   (bif (decide ((0 : Int) < t12)) then at? l_0 (IntKind.i64.wrap (t12 - (1 : Int))) else some ([] : Str)).bind fun y7 =>
   bif ((decide ((0 : Int) < t12)) && (Op.bytesLess y1 y7 || eqS y1 y7)) then
    some (.inr (10 : Int))
   else
    next (l_0, t10, t11, (IntKind.i64.wrap (t12 + (1 : Int))))
 else
  some (.inl ())
noncomputable def ujj_ : (List Str) × (List Str) × Int × Int → Option YY24 := loopN urp_ fuel
noncomputable def uh1_ : List Str → Option (Int) := fun l_0 =>
 bif (decide ((200 : Int) < (l_0.length : Int))) then
  some (3 : Int)
 else
  (ujj_ (l_0, l_0, (l_0.length : Int), (0 : Int))).bind fun r9 =>
  match r9 with
  | .inl y10 =>
    some (0 : Int)
  | .inr y10' =>
    some y10'
noncomputable def utf_ (next : YY5 × (List Str) × Int × Int → Option (Sum YY5 (Int))) : YY5 × (List Str) × Int × Int → Option (Sum YY5 (Int)) := fun (a_1, t32, t33, t34) =>
 bif (decide (t34 < t33)) then
  (at? t32 t34).bind fun y4 =>
  (uov_ (a_1.2.1, y4)).bind fun r5 =>
  bif (!(eqI r5.2 (0 : Int))) then
   some (.inr r5.2)
  else
   next (a_1, t32, t33, (IntKind.i64.wrap (t34 + (1 : Int))))
 else
  some (.inl a_1)
noncomputable def ukj_ : YY5 × (List Str) × Int × Int → Option (Sum YY5 (Int)) := loopN utf_ fuel
noncomputable def uiu_ : Str × Int × YY23 × (List Str) × (List Str) → Option (Int) := fun a_0 =>
 (u11_ a_0.1).bind fun r1 =>
 bif (!r1) then
  some (8 : Int)
 else
  bif ((decide (a_0.2.1 < (1 : Int))) || (decide ((5 : Int) < a_0.2.1))) then
   some (7 : Int)
  else
   (ul2_ a_0).bind fun r3 =>
   bif (!(eqI r3 (0 : Int))) then
    some r3
   else
    bif (decide ((500 : Int) < (a_0.2.2.2.1.length : Int))) then
     some (3 : Int)
    else
     (ukj_ (a_0, a_0.2.2.2.1, (a_0.2.2.2.1.length : Int), (0 : Int))).bind fun r6 =>
     match r6 with
     | .inl y7 =>
       (uh1_ y7.2.2.2.2).bind fun r8 =>
       some r8
     | .inr y7' =>
       some y7'
noncomputable def u12_ : Unit → Option (List Int) := fun _ =>
 some ([(0 : Int), (1 : Int), (0 : Int), (2 : Int)] : List Int)
noncomputable def uyu_ (next : (Int → Option Str) × (List Int) × (List Int) × Int × Int → Option (List Int)) : (Int → Option Str) × (List Int) × (List Int) × Int × Int → Option (List Int) := fun (one_2, b_7, t10, t11, t12) =>
 bif (decide (t12 < t11)) then
  (at? t10 t12).bind fun y1 =>
  (one_2 y1).bind fun r2 =>
  (ubl_ (b_7, r2)).bind fun r3 =>
  next (one_2, r3.2.2, t10, t11, (IntKind.i64.wrap (t12 + (1 : Int))))
 else
  some b_7
noncomputable def uow_ : (Int → Option Str) × (List Int) × (List Int) × Int × Int → Option (List Int) := loopN uyu_ fuel
noncomputable def uiv_ : (List Int) × Str × (Int → Option Str) → Option Str := fun (l_0, end_1, one_2) =>
 (uow_ (one_2, ([] : List Int), l_0, (l_0.length : Int), (0 : Int))).bind fun r4 =>
 (ub4_ r4).bind fun r5 =>
 (cat? r5 end_1).bind fun s6 =>
 some s6
noncomputable def utg_ (next : (Str → Option Str) × (List Int) × (List Str) × Int × Int → Option (List Int)) : (Str → Option Str) × (List Int) × (List Str) × Int × Int → Option (List Int) := fun (one_2, b_7, t10, t11, t12) =>
 bif (decide (t12 < t11)) then
  (at? t10 t12).bind fun y1 =>
  (one_2 y1).bind fun r2 =>
  (ubl_ (b_7, r2)).bind fun r3 =>
  next (one_2, r3.2.2, t10, t11, (IntKind.i64.wrap (t12 + (1 : Int))))
 else
  some b_7
noncomputable def ukk_ : (Str → Option Str) × (List Int) × (List Str) × Int × Int → Option (List Int) := loopN utg_ fuel
noncomputable def ugl_ : (List Str) × Str × (Str → Option Str) → Option Str := fun (l_0, end_1, one_2) =>
 (ukk_ (one_2, ([] : List Int), l_0, (l_0.length : Int), (0 : Int))).bind fun r4 =>
 (ub4_ r4).bind fun r5 =>
 (cat? r5 end_1).bind fun s6 =>
 some s6
noncomputable def uyf_ : Str → Option Str := fun p_0 =>
 (ucr_ p_0).bind fun r1 =>
 bif r1.2 then
  (udr_ r1.1).bind fun r2 =>
  (cat? ([48] : Str) r2).bind fun s3 =>
  some s3
 else
  (cat? ([49] : Str) p_0).bind fun s4 =>
  (cat? s4 ([32] : Str)).bind fun s5 =>
  some s5
noncomputable def ukl_ : (List Int) × (List Str) → Option Str := fun v_0 =>
 (cut? v_0.1 (0 : Int) (v_0.1.length : Int)).bind fun s1 =>
 (uiv_ (s1, ([] : Str), (fun x => (udr_ x).bind fun r => some r))).bind fun r2 =>
 bif (eqI (v_0.2.length : Int) (0 : Int)) then
  (cat? r2 ([126] : Str)).bind fun s3 =>
  some s3
 else
  (cat? r2 ([33] : Str)).bind fun s4 =>
  (ugl_ (v_0.2, ([33] : Str), (fun x => (uyf_ x).bind fun r => some r))).bind fun r5 =>
  (cat? s4 r5).bind fun s6 =>
  some s6
noncomputable def uiw_ : Int × Str × Str × Bool → Option Str := fun v_0 =>
 (udr_ v_0.1).bind fun r1 =>
 (uf7_ v_0.2.1).bind fun r2 =>
 (cat? r1 r2).bind fun s3 =>
 (uho_ v_0).bind fun r4 =>
 (uf7_ r4).bind fun r5 =>
 (cat? s3 r5).bind fun s6 =>
 some s6
noncomputable def uj3_ : Int → Option Str := fun n_0 =>
 (udr_ n_0).bind fun r1 =>
 (cat? ([49] : Str) r1).bind fun s2 =>
 some s2
noncomputable def ul3_ : Int × (List Int) × Int × Int × Int × Int × (List Str) → Option (Int) := fun v_0 =>
 bif (decide ((0 : Int) < v_0.2.2.1)) then
  some v_0.2.2.1
 else
  bif ((decide ((0 : Int) ≤ v_0.2.2.2.2.2.1)) && (decide (v_0.2.2.2.2.1 < (0 : Int)))) then
   some (0 : Int)
  else
   some (4 : Int)
noncomputable def u5z_ : Int → Option Str := fun n_0 =>
 bif (decide (n_0 < (0 : Int))) then
  some ([48] : Str)
 else
  (udr_ n_0).bind fun r1 =>
  (cat? ([49] : Str) r1).bind fun s2 =>
  some s2
noncomputable def uuo_ : Str → Option Str := fun p_0 =>
 (ucr_ p_0).bind fun r1 =>
 bif r1.2 then
  (udr_ r1.1).bind fun r2 =>
  (cat? ([50] : Str) r2).bind fun s3 =>
  some s3
 else
  (cat? ([49] : Str) p_0).bind fun s4 =>
  (cat? s4 ([32] : Str)).bind fun s5 =>
  some s5
noncomputable def uj4_ : YY9 × Str × Bool → Option (YY9 × Str) := fun (v_1, s_3, t27) =>
 bif t27 then
  (udr_ v_1.2.2.2.2.2.1).bind fun r12 =>
  (cat? ([48] : Str) r12).bind fun s13 =>
  (cat? s_3 s13).bind fun s14 =>
  some (v_1, s14)
 else
  (cat? s_3 ([49] : Str)).bind fun s15 =>
  some (v_1, s15)
noncomputable def ukm_ : Int × (List Int) × Int × Int × Int × Int × (List Str) → Option Str := fun v_0 =>
 (udr_ v_0.1).bind fun r1 =>
 (urm_ v_0.2.1).bind fun r2 =>
 (uiv_ (r2, ([48] : Str), (fun x => (uj3_ x).bind fun r => some r))).bind fun r3 =>
 (cat? r1 r3).bind fun s4 =>
 (ul3_ v_0).bind fun r5 =>
 (strconv_Itoa r5).bind fun r6 =>
 (udr_ v_0.2.2.2.1).bind fun r7 =>
 (cat? r6 r7).bind fun s8 =>
 (u5z_ v_0.2.2.2.2.1).bind fun r9 =>
 (cat? s8 r9).bind fun s10 =>
 (cat? s4 s10).bind fun s11 =>
 (uj4_ (v_0, s11, (decide ((0 : Int) ≤ v_0.2.2.2.2.2.1)))).bind fun r16 =>
 bif (eqI (r16.1.2.2.2.2.2.2.length : Int) (0 : Int)) then
  (cat? r16.2 ([48] : Str)).bind fun s17 =>
  some s17
 else
  (cat? r16.2 ([49] : Str)).bind fun s18 =>
  (ugl_ (r16.1.2.2.2.2.2.2, ([48] : Str), (fun x => (uuo_ x).bind fun r => some r))).bind fun r19 =>
  (cat? s18 r19).bind fun s20 =>
  some s20
noncomputable def uyv_ : Unit → Option (List Str) := fun _ =>
 some ([([97, 108, 112, 104, 97] : Str), ([98, 101, 116, 97] : Str), ([109, 105, 108, 101, 115, 116, 111, 110, 101] : Str), ([114, 99] : Str), ([115, 110, 97, 112, 115, 104, 111, 116] : Str)] : List Str)
noncomputable def uyw_ (next : (List Str) × Str × Int × Int → Option YY24) : (List Str) × Str × Int × Int → Option YY24 := fun (s_0, v_1, t7, t8) =>
 bif (decide (t8 < t7)) then
  (at? s_0 t8).bind fun y1 =>
  bif (eqS v_1 y1) then
   some (.inr t8)
  else
   next (s_0, v_1, t7, (IntKind.i64.wrap (t8 + (1 : Int))))
 else
  some (.inl ())
noncomputable def uox_ : (List Str) × Str × Int × Int → Option YY24 := loopN uyw_ fuel
noncomputable def uix_ : (List Str) × Str → Option (Int) := fun (s_0, v_1) =>
 (uox_ (s_0, v_1, (s_0.length : Int), (0 : Int))).bind fun r2 =>
 match r2 with
 | .inl y3 =>
   some (-1 : Int)
 | .inr y3' =>
   some y3'
noncomputable def uiy_ : (List Str) × Str → Option (Bool) := fun (s_0, v_1) =>
 (uix_ (s_0, v_1)).bind fun r1 =>
 some (decide ((0 : Int) ≤ r1))
noncomputable def uhq_ : Bool × Str × Int → Option (Bool) := fun t_0 =>
 (bif t_0.1 then uyv_ () else some ([] : List Str)).bind fun r1 =>
 (bif t_0.1 then uiy_ (r1, t_0.2.1) else some false).bind fun r2 =>
 some (t_0.1 && r2)
noncomputable def uoy_ : Bool × Str × Int → Option Str := fun t_0 =>
 bif (!t_0.1) then
  (udr_ t_0.2.2).bind fun r1 =>
  (cat? ([56] : Str) r1).bind fun s2 =>
  some s2
 else
  (uhq_ t_0).bind fun r3 =>
  bif r3 then
   (uyv_ ()).bind fun r4 =>
   (uix_ (r4, t_0.2.1)).bind fun r5 =>
   (strconv_Itoa r5).bind fun r6 =>
   some r6
  else
   bif (eqS t_0.2.1 ([115, 112] : Str)) then
    some ([54] : Str)
   else
    (cat? ([55] : Str) t_0.2.1).bind fun s7 =>
    (cat? s7 ([32] : Str)).bind fun s8 =>
    some s8
noncomputable def uup_ (next : Str × Int × (List YY18) × Int × Int → Option Str) : Str × Int × (List YY18) × Int × Int → Option Str := fun (s_3, blanks_4, t8, t9, t10) =>
 bif (decide (t10 < t9)) then
  (at? t8 t10).bind fun y1 =>
  (ugu_ y1).bind fun r2 =>
  bif r2 then
   next (s_3, (IntKind.i64.wrap (blanks_4 + (1 : Int))), t8, t9, (IntKind.i64.wrap (t10 + (1 : Int))))
  else
   (uhq_ y1).bind fun r3 =>
   bif r3 then
    (strconv_Itoa (IntKind.i64.wrap ((100 : Int) + blanks_4))).bind fun r4 =>
    (cat? ([49] : Str) r4).bind fun s5 =>
    (uoy_ y1).bind fun r6 =>
    (cat? s5 r6).bind fun s7 =>
    (cat? s_3 s7).bind fun s8 =>
    next (s8, (0 : Int), t8, t9, (IntKind.i64.wrap (t10 + (1 : Int))))
   else
    (strconv_Itoa (IntKind.i64.wrap ((900 : Int) - blanks_4))).bind fun r9 =>
    (cat? ([51] : Str) r9).bind fun s10 =>
    (uoy_ y1).bind fun r11 =>
    (cat? s10 r11).bind fun s12 =>
    (cat? s_3 s12).bind fun s13 =>
    next (s13, (0 : Int), t8, t9, (IntKind.i64.wrap (t10 + (1 : Int))))
 else
  some s_3
noncomputable def ul4_ : Str × Int × (List YY18) × Int × Int → Option Str := loopN uup_ fuel
noncomputable def uhb_ : List YY18 → Option Str := fun v_0 =>
 (ul4_ (([] : Str), (0 : Int), v_0, (v_0.length : Int), (0 : Int))).bind fun r14 =>
 (cat? r14 ([50] : Str)).bind fun s15 =>
 some s15
noncomputable def umz_ : Int → Option Str := fun v_0 =>
 (udr_ v_0).bind fun r1 =>
 some r1
noncomputable def ubiy_ : Int × Str → Option (Str × Int) := fun (kind_0, s_1) =>
 (uxi_ (kind_0, s_1)).bind fun r1 =>
 bif (!(eqI r1.2 (0 : Int))) then
  some (([] : Str), r1.2)
 else
  ((fun z => Sum.casesOn (motive := fun _ => Option Str) z (fun x => (ukl_ x).bind fun r => some r) (fun z => Sum.casesOn (motive := fun _ => Option Str) z (fun x => (uiw_ x).bind fun r => some r) (fun z => Sum.casesOn (motive := fun _ => Option Str) z (fun x => (ukm_ x).bind fun r => some r) (fun z => Sum.casesOn (motive := fun _ => Option Str) z (fun x => (uhb_ x).bind fun r => some r) (fun z => Sum.casesOn (motive := fun _ => Option Str) z (fun x => (umz_ x).bind fun r => some r) (fun _ => none)))))) r1.1).bind fun r2 =>
  some (r2, (0 : Int))
noncomputable def uet_ (next : (List YY2) × Int × YY11 × Int → Option (List YY2)) : (List YY2) × Int × YY11 × Int → Option (List YY2) := fun (data_0, a_1, cmp_3, j_9) =>
 (bif (decide (a_1 < j_9)) then in? data_0.length j_9 else some ()).bind fun _ =>
 (bif (decide (a_1 < j_9)) then in? data_0.length (IntKind.i64.wrap (j_9 - (1 : Int))) else some ()).bind fun _ =>
 (bif (decide (a_1 < j_9)) then cmp_3 ((data_0.getD j_9.toNat ((0 : Int), (([] : Str), (([] : Str), (0 : Int))))), (data_0.getD ((IntKind.i64.wrap (j_9 - (1 : Int))).toNat) ((0 : Int), (([] : Str), (([] : Str), (0 : Int)))))) else some (0 : Int)).bind fun r3 =>
 bif ((decide (a_1 < j_9)) && (decide (r3 < (0 : Int)))) then
  (in? data_0.length (IntKind.i64.wrap (j_9 - (1 : Int)))).bind fun _ =>
  let v4 := (data_0.getD ((IntKind.i64.wrap (j_9 - (1 : Int))).toNat) ((0 : Int), (([] : Str), (([] : Str), (0 : Int)))))
  (in? data_0.length j_9).bind fun _ =>
  (in? data_0.length j_9).bind fun _ =>
  (in? (data_0.set j_9.toNat v4).length (IntKind.i64.wrap (j_9 - (1 : Int)))).bind fun _ =>
  next (((data_0.set j_9.toNat v4).set ((IntKind.i64.wrap (j_9 - (1 : Int))).toNat) (data_0.getD j_9.toNat ((0 : Int), (([] : Str), (([] : Str), (0 : Int)))))), a_1, cmp_3, (IntKind.i64.wrap (j_9 - (1 : Int))))
 else
  some data_0
noncomputable def ucd_ : (List YY2) × Int × YY11 × Int → Option (List YY2) := loopN uet_ fuel
noncomputable def ueu_ (next : (List YY2) × Int × Int × YY11 × Int → Option (List YY2)) : (List YY2) × Int × Int × YY11 × Int → Option (List YY2) := fun (data_0, a_1, b_2, cmp_3, i_8) =>
 bif (decide (i_8 < b_2)) then
  (ucd_ (data_0, a_1, cmp_3, i_8)).bind fun r7 =>
  next (r7, a_1, b_2, cmp_3, (IntKind.i64.wrap (i_8 + (1 : Int))))
 else
  some data_0
noncomputable def uce_ : (List YY2) × Int × Int × YY11 × Int → Option (List YY2) := loopN ueu_ fuel
noncomputable def ube_ : (List YY2) × Int × Int × YY11 → Option (List YY2) := fun (data_0, a_1, b_2, cmp_3) =>
 (uce_ (data_0, a_1, b_2, cmp_3, (IntKind.i64.wrap (a_1 + (1 : Int))))).bind fun r8 =>
 some r8
noncomputable def ufw_ (next : (List YY2) × Int × Int × Int × Int → Option (List YY2)) : (List YY2) × Int × Int × Int × Int → Option (List YY2) := fun (data_0, a_1, b_2, n_3, i_10) =>
 bif (decide (i_10 < n_3)) then
  (in? data_0.length (IntKind.i64.wrap (b_2 + i_10))).bind fun _ =>
  let v1 := (data_0.getD ((IntKind.i64.wrap (b_2 + i_10)).toNat) ((0 : Int), (([] : Str), (([] : Str), (0 : Int)))))
  (in? data_0.length (IntKind.i64.wrap (a_1 + i_10))).bind fun _ =>
  (in? data_0.length (IntKind.i64.wrap (a_1 + i_10))).bind fun _ =>
  (in? (data_0.set ((IntKind.i64.wrap (a_1 + i_10)).toNat) v1).length (IntKind.i64.wrap (b_2 + i_10))).bind fun _ =>
  next (((data_0.set ((IntKind.i64.wrap (a_1 + i_10)).toNat) v1).set ((IntKind.i64.wrap (b_2 + i_10)).toNat) (data_0.getD ((IntKind.i64.wrap (a_1 + i_10)).toNat) ((0 : Int), (([] : Str), (([] : Str), (0 : Int)))))), a_1, b_2, n_3, (IntKind.i64.wrap (i_10 + (1 : Int))))
 else
  some data_0
noncomputable def udb_ : (List YY2) × Int × Int × Int × Int → Option (List YY2) := loopN ufw_ fuel
noncomputable def ubc_ : (List YY2) × Int × Int × Int × YY11 → Option (List YY2) := fun (data_0, a_1, b_2, n_3, cmp_4) =>
 (udb_ (data_0, a_1, b_2, n_3, (0 : Int))).bind fun r4 =>
 some r4
noncomputable def ugv_ (next : (List YY2) × Int × YY11 × Int × Int → Option YY29) : (List YY2) × Int × YY11 × Int × Int → Option YY29 := fun (data_0, m_2, cmp_4, i_10, j_11) =>
 bif (!(eqI i_10 j_11)) then
  bif (decide (j_11 < i_10)) then
   (ubc_ (data_0, (IntKind.i64.wrap (m_2 - i_10)), m_2, j_11, cmp_4)).bind fun r1 =>
   next (r1, m_2, cmp_4, (IntKind.i64.wrap (i_10 - j_11)), j_11)
  else
   (ubc_ (data_0, (IntKind.i64.wrap (m_2 - i_10)), (IntKind.i64.wrap ((IntKind.i64.wrap (m_2 + j_11)) - i_10)), i_10, cmp_4)).bind fun r2 =>
   next (r2, m_2, cmp_4, i_10, (IntKind.i64.wrap (j_11 - i_10)))
 else
  some (data_0, i_10)
noncomputable def ud4_ : (List YY2) × Int × YY11 × Int × Int → Option YY29 := loopN ugv_ fuel
noncomputable def ucs_ : (List YY2) × Int × Int × Int × YY11 → Option (List YY2) := fun (data_0, a_1, m_2, b_3, cmp_4) =>
 (ud4_ (data_0, m_2, cmp_4, (IntKind.i64.wrap (m_2 - a_1)), (IntKind.i64.wrap (b_3 - m_2)))).bind fun r3 =>
 (ubc_ (r3.1, (IntKind.i64.wrap (m_2 - r3.2)), m_2, r3.2, cmp_4)).bind fun r4 =>
 some r4
noncomputable def ugd_ (slf : (List YY2) × Int × Int × Int × YY11 → Option (List YY2)) (next : (List YY2) × Int × YY11 × Int × Int → Option YY29) : (List YY2) × Int × YY11 × Int × Int → Option YY29 := fun (data_0, a_1, cmp_4, i_10, j_11) =>
 bif (decide (i_10 < j_11)) then
  (shr? IntKind.u64 (IntKind.u64.wrap (IntKind.i64.wrap (i_10 + j_11))) (1 : Int)).bind fun n1 =>
  (in? data_0.length (IntKind.i64.wrap n1)).bind fun _ =>
  (in? data_0.length a_1).bind fun _ =>
  (cmp_4 ((data_0.getD ((IntKind.i64.wrap n1).toNat) ((0 : Int), (([] : Str), (([] : Str), (0 : Int))))), (data_0.getD a_1.toNat ((0 : Int), (([] : Str), (([] : Str), (0 : Int))))))).bind fun r4 =>
  bif (decide (r4 < (0 : Int))) then
   next (data_0, a_1, cmp_4, (IntKind.i64.wrap ((IntKind.i64.wrap n1) + (1 : Int))), j_11)
  else
   next (data_0, a_1, cmp_4, i_10, (IntKind.i64.wrap n1))
 else
  some (data_0, i_10)
noncomputable def udn_ (slf : (List YY2) × Int × Int × Int × YY11 → Option (List YY2)) : (List YY2) × Int × YY11 × Int × Int → Option YY29 := loopN (ugd_ slf) fuel
noncomputable def uge_ (slf : (List YY2) × Int × Int × Int × YY11 → Option (List YY2)) (next : (List YY2) × Int × Int → Option (List YY2)) : (List YY2) × Int × Int → Option (List YY2) := fun (data_0, i_10, k_13) =>
 bif (decide (k_13 < (IntKind.i64.wrap (i_10 - (1 : Int))))) then
  (in? data_0.length (IntKind.i64.wrap (k_13 + (1 : Int)))).bind fun _ =>
  let v6 := (data_0.getD ((IntKind.i64.wrap (k_13 + (1 : Int))).toNat) ((0 : Int), (([] : Str), (([] : Str), (0 : Int)))))
  (in? data_0.length k_13).bind fun _ =>
  (in? data_0.length k_13).bind fun _ =>
  (in? (data_0.set k_13.toNat v6).length (IntKind.i64.wrap (k_13 + (1 : Int)))).bind fun _ =>
  next (((data_0.set k_13.toNat v6).set ((IntKind.i64.wrap (k_13 + (1 : Int))).toNat) (data_0.getD k_13.toNat ((0 : Int), (([] : Str), (([] : Str), (0 : Int)))))), i_10, (IntKind.i64.wrap (k_13 + (1 : Int))))
 else
  some data_0
noncomputable def udo_ (slf : (List YY2) × Int × Int × Int × YY11 → Option (List YY2)) : (List YY2) × Int × Int → Option (List YY2) := loopN (uge_ slf) fuel
noncomputable def ugf_ (slf : (List YY2) × Int × Int × Int × YY11 → Option (List YY2)) (next : (List YY2) × Int × YY11 × Int × Int → Option YY29) : (List YY2) × Int × YY11 × Int × Int → Option YY29 := fun (data_0, m_2, cmp_4, i_14, j_15) =>
 bif (decide (i_14 < j_15)) then
  (shr? IntKind.u64 (IntKind.u64.wrap (IntKind.i64.wrap (i_14 + j_15))) (1 : Int)).bind fun n10 =>
  (in? data_0.length m_2).bind fun _ =>
  (in? data_0.length (IntKind.i64.wrap n10)).bind fun _ =>
  (cmp_4 ((data_0.getD m_2.toNat ((0 : Int), (([] : Str), (([] : Str), (0 : Int))))), (data_0.getD ((IntKind.i64.wrap n10).toNat) ((0 : Int), (([] : Str), (([] : Str), (0 : Int))))))).bind fun r13 =>
  bif (!(decide (r13 < (0 : Int)))) then
   next (data_0, m_2, cmp_4, (IntKind.i64.wrap ((IntKind.i64.wrap n10) + (1 : Int))), j_15)
  else
   next (data_0, m_2, cmp_4, i_14, (IntKind.i64.wrap n10))
 else
  some (data_0, i_14)
noncomputable def udp_ (slf : (List YY2) × Int × Int × Int × YY11 → Option (List YY2)) : (List YY2) × Int × YY11 × Int × Int → Option YY29 := loopN (ugf_ slf) fuel
noncomputable def ufx_ (slf : (List YY2) × Int × Int × Int × YY11 → Option (List YY2)) (next : (List YY2) × Int × Int → Option (List YY2)) : (List YY2) × Int × Int → Option (List YY2) := fun (data_0, i_14, k_17) =>
 bif (decide (i_14 < k_17)) then
  (in? data_0.length (IntKind.i64.wrap (k_17 - (1 : Int)))).bind fun _ =>
  let v15 := (data_0.getD ((IntKind.i64.wrap (k_17 - (1 : Int))).toNat) ((0 : Int), (([] : Str), (([] : Str), (0 : Int)))))
  (in? data_0.length k_17).bind fun _ =>
  (in? data_0.length k_17).bind fun _ =>
  (in? (data_0.set k_17.toNat v15).length (IntKind.i64.wrap (k_17 - (1 : Int)))).bind fun _ =>
  next (((data_0.set k_17.toNat v15).set ((IntKind.i64.wrap (k_17 - (1 : Int))).toNat) (data_0.getD k_17.toNat ((0 : Int), (([] : Str), (([] : Str), (0 : Int)))))), i_14, (IntKind.i64.wrap (k_17 - (1 : Int))))
 else
  some data_0
noncomputable def udc_ (slf : (List YY2) × Int × Int × Int × YY11 → Option (List YY2)) : (List YY2) × Int × Int → Option (List YY2) := loopN (ufx_ slf) fuel
noncomputable def ubs_ (slf : (List YY2) × Int × Int × Int × YY11 → Option (List YY2)) : Int × Int × Int × Int × Int × Bool → Option (Int × Int) := fun (a_1, m_2, b_3, mid_18, n_19, t140) =>
 bif t140 then
  some ((IntKind.i64.wrap (n_19 - b_3)), mid_18)
 else
  some (a_1, m_2)
noncomputable def ufy_ (slf : (List YY2) × Int × Int × Int × YY11 → Option (List YY2)) (next : (List YY2) × YY11 × Int × Int × Int → Option YY29) : (List YY2) × YY11 × Int × Int × Int → Option YY29 := fun (data_0, cmp_4, start_20, r_21, p_22) =>
 bif (decide (start_20 < r_21)) then
  (shr? IntKind.u64 (IntKind.u64.wrap (IntKind.i64.wrap (start_20 + r_21))) (1 : Int)).bind fun n22 =>
  (in? data_0.length (IntKind.i64.wrap (p_22 - (IntKind.i64.wrap n22)))).bind fun _ =>
  (in? data_0.length (IntKind.i64.wrap n22)).bind fun _ =>
  (cmp_4 ((data_0.getD ((IntKind.i64.wrap (p_22 - (IntKind.i64.wrap n22))).toNat) ((0 : Int), (([] : Str), (([] : Str), (0 : Int))))), (data_0.getD ((IntKind.i64.wrap n22).toNat) ((0 : Int), (([] : Str), (([] : Str), (0 : Int))))))).bind fun r25 =>
  bif (!(decide (r25 < (0 : Int)))) then
   next (data_0, cmp_4, (IntKind.i64.wrap ((IntKind.i64.wrap n22) + (1 : Int))), r_21, p_22)
  else
   next (data_0, cmp_4, start_20, (IntKind.i64.wrap n22), p_22)
 else
  some (data_0, start_20)
noncomputable def udd_ (slf : (List YY2) × Int × Int × Int × YY11 → Option (List YY2)) : (List YY2) × YY11 × Int × Int × Int → Option YY29 := loopN (ufy_ slf) fuel
noncomputable def ubt_ (slf : (List YY2) × Int × Int × Int × YY11 → Option (List YY2)) : (List YY2) × Int × YY11 × Int × Int × Bool → Option (List YY2) := fun (data_0, m_2, cmp_4, start_20, end_24, t185) =>
 bif t185 then
  (ucs_ (data_0, start_20, m_2, end_24, cmp_4)).bind fun r28 =>
  some r28
 else
  some data_0
noncomputable def ubu_ (slf : (List YY2) × Int × Int × Int × YY11 → Option (List YY2)) : (List YY2) × Int × YY11 × Int × Int × Bool → Option (List YY2) := fun (data_0, a_1, cmp_4, mid_18, start_20, t199) =>
 bif t199 then
  (slf (data_0, a_1, start_20, mid_18, cmp_4)).bind fun r31 =>
  some r31
 else
  some data_0
noncomputable def ucv_ (slf : (List YY2) × Int × Int × Int × YY11 → Option (List YY2)) : (List YY2) × Int × Int × Int × YY11 → Option (List YY2) := fun (data_0, a_1, m_2, b_3, cmp_4) =>
 bif (eqI (IntKind.i64.wrap (m_2 - a_1)) (1 : Int)) then
  ((udn_ slf) (data_0, a_1, cmp_4, m_2, b_3)).bind fun r5 =>
  ((udo_ slf) (r5.1, r5.2, a_1)).bind fun r9 =>
  some r9
 else
  bif (eqI (IntKind.i64.wrap (b_3 - m_2)) (1 : Int)) then
   ((udp_ slf) (data_0, m_2, cmp_4, a_1, m_2)).bind fun r14 =>
   ((udc_ slf) (r14.1, r14.2, m_2)).bind fun r18 =>
   some r18
  else
   (shr? IntKind.u64 (IntKind.u64.wrap (IntKind.i64.wrap (a_1 + b_3))) (1 : Int)).bind fun n19 =>
   ((ubs_ slf) (a_1, m_2, b_3, (IntKind.i64.wrap n19), (IntKind.i64.wrap ((IntKind.i64.wrap n19) + m_2)), (decide ((IntKind.i64.wrap n19) < m_2)))).bind fun r20 =>
   ((udd_ slf) (data_0, cmp_4, r20.1, r20.2, (IntKind.i64.wrap ((IntKind.i64.wrap ((IntKind.i64.wrap n19) + m_2)) - (1 : Int))))).bind fun r26 =>
   let v27 := (IntKind.i64.wrap ((IntKind.i64.wrap ((IntKind.i64.wrap n19) + m_2)) - r26.2))
   ((ubt_ slf) (r26.1, m_2, cmp_4, r26.2, v27, ((decide (r26.2 < m_2)) && (decide (m_2 < v27))))).bind fun r29 =>
   ((ubu_ slf) (r29, a_1, cmp_4, (IntKind.i64.wrap n19), r26.2, ((decide (a_1 < r26.2)) && (decide (r26.2 < (IntKind.i64.wrap n19)))))).bind fun r32 =>
   bif ((decide ((IntKind.i64.wrap n19) < v27)) && (decide (v27 < b_3))) then
    (slf (r32, (IntKind.i64.wrap n19), v27, b_3, cmp_4)).bind fun r34 =>
    some r34
   else
    some r32
noncomputable def ul_ : Nat → (List YY2) × Int × Int × Int × YY11 → Option (List YY2)
 | 0 => fun _ => none
 | n + 1 => ucv_ (ul_ n)
noncomputable def ubm_ : (List YY2) × Int × Int × Int × YY11 → Option (List YY2) := ul_ 100
noncomputable def ugw_ (next : (List YY2) × Int × YY11 × Int × Int × Int → Option YY29) : (List YY2) × Int × YY11 × Int × Int × Int → Option YY29 := fun (data_0, n_1, cmp_2, blockSize_6, a_7, b_8) =>
 bif (decide (b_8 ≤ n_1)) then
  (ube_ (data_0, a_7, b_8, cmp_2)).bind fun r1 =>
  next (r1, n_1, cmp_2, blockSize_6, b_8, (IntKind.i64.wrap (b_8 + blockSize_6)))
 else
  some (data_0, a_7)
noncomputable def ud5_ : (List YY2) × Int × YY11 × Int × Int × Int → Option YY29 := loopN ugw_ fuel
noncomputable def ugx_ (next : (List YY2) × Int × YY11 × Int × Int × Int → Option YY29) : (List YY2) × Int × YY11 × Int × Int × Int → Option YY29 := fun (data_0, n_1, cmp_2, blockSize_6, a_7, b_8) =>
 bif (decide (b_8 ≤ n_1)) then
  (ubm_ (data_0, a_7, (IntKind.i64.wrap (a_7 + blockSize_6)), b_8, cmp_2)).bind fun r4 =>
  next (r4, n_1, cmp_2, blockSize_6, b_8, (IntKind.i64.wrap (b_8 + (IntKind.i64.wrap ((2 : Int) * blockSize_6)))))
 else
  some (data_0, a_7)
noncomputable def ud6_ : (List YY2) × Int × YY11 × Int × Int × Int → Option YY29 := loopN ugx_ fuel
noncomputable def ugy_ (next : (List YY2) × Int × YY11 × Int → Option (List YY2)) : (List YY2) × Int × YY11 × Int → Option (List YY2) := fun (data_0, n_1, cmp_2, blockSize_6) =>
 bif (decide (blockSize_6 < n_1)) then
  (ud6_ (data_0, n_1, cmp_2, blockSize_6, (0 : Int), (IntKind.i64.wrap ((2 : Int) * blockSize_6)))).bind fun r6 =>
  bif (decide ((IntKind.i64.wrap (r6.2 + blockSize_6)) < n_1)) then
   (ubm_ (r6.1, r6.2, (IntKind.i64.wrap (r6.2 + blockSize_6)), n_1, cmp_2)).bind fun r7 =>
   next (r7, n_1, cmp_2, (IntKind.i64.wrap (blockSize_6 * (2 : Int))))
  else
   next (r6.1, n_1, cmp_2, (IntKind.i64.wrap (blockSize_6 * (2 : Int))))
 else
  some data_0
noncomputable def ud7_ : (List YY2) × Int × YY11 × Int → Option (List YY2) := loopN ugy_ fuel
noncomputable def uct_ : (List YY2) × Int × YY11 → Option (List YY2) := fun (data_0, n_1, cmp_2) =>
 (ud5_ (data_0, n_1, cmp_2, (20 : Int), (0 : Int), (20 : Int))).bind fun r2 =>
 (ube_ (r2.1, r2.2, n_1, cmp_2)).bind fun r3 =>
 (ud7_ (r3, n_1, cmp_2, (20 : Int))).bind fun r8 =>
 some r8
noncomputable def uck_ : (List YY2) × YY11 → Option (List YY2) := fun (x_0, cmp_1) =>
 (uct_ (x_0, (x_0.length : Int), cmp_1)).bind fun r1 =>
 some r1
noncomputable def u50_ : Int → Option (Bool) := fun x_0 =>
 some (!(eqI x_0 x_0))
noncomputable def unh_ : Int × Int → Option (Int) := fun (x_0, y_1) =>
 (u50_ x_0).bind fun r1 =>
 (u50_ y_1).bind fun r2 =>
 bif r1 then
  bif r2 then
   some (0 : Int)
  else
   some (-1 : Int)
 else
  bif r2 then
   some (1 : Int)
  else
   bif (decide (x_0 < y_1)) then
    some (-1 : Int)
   else
    bif (decide (y_1 < x_0)) then
     some (1 : Int)
    else
     some (0 : Int)
noncomputable def ubss_ (next : Int × (List Int) × Int × Int → Option YY24) : Int × (List Int) × Int × Int → Option YY24 := fun (zero_3, t6, t7, t8) =>
 bif (decide (t8 < t7)) then
  (at? t6 t8).bind fun y1 =>
  bif (!(eqI y1 zero_3)) then
   some (.inr y1)
  else
   next (zero_3, t6, t7, (IntKind.i64.wrap (t8 + (1 : Int))))
 else
  some (.inl ())
noncomputable def ubf4_ : Int × (List Int) × Int × Int → Option YY24 := loopN ubss_ fuel
noncomputable def uboh_ : List Int → Option (Int) := fun vals_0 =>
 (ubf4_ ((0 : Int), vals_0, (vals_0.length : Int), (0 : Int))).bind fun r2 =>
 match r2 with
 | .inl y3 =>
   some (0 : Int)
 | .inr y3' =>
   some y3'
noncomputable def uoc_ : YY2 × YY2 → Option (Int) := fun (x_0, y_1) =>
 (ud3_ (x_0.2.1, y_1.2.1)).bind fun r1 =>
 (unh_ (x_0.1, y_1.1)).bind fun r2 =>
 (uboh_ ([r1, r2] : List Int)).bind fun r3 =>
 some r3
noncomputable def u51_ (next : YY5 × (List YY2) × YY23 × Int × Int → Option (List YY2)) : YY5 × (List YY2) × YY23 × Int × Int → Option (List YY2) := fun (a_1, out_3, t8, t9, t10) =>
 bif (decide (t10 < t9)) then
  (at? t8 t10).bind fun y1 =>
  (u12_ ()).bind fun r2 =>
  (at? r2 y1.1).bind fun y3 =>
  bif (!(eqS y1.2 ([] : Str))) then
   (ubiy_ (a_1.2.1, y1.2)).bind fun r4 =>
   (uov_ (a_1.2.1, y1.2)).bind fun r5 =>
   (app? 96 out_3 ([(y3, (r4.1, (r5.1, y1.1)))] : List YY2)).bind fun l7 =>
   next (a_1, l7, t8, t9, (IntKind.i64.wrap (t10 + (1 : Int))))
  else
   (app? 96 out_3 ([(y3, (([] : Str), (([] : Str), y1.1)))] : List YY2)).bind fun l9 =>
   next (a_1, l9, t8, t9, (IntKind.i64.wrap (t10 + (1 : Int))))
 else
  some out_3
noncomputable def uuq_ : YY5 × (List YY2) × YY23 × Int × Int → Option (List YY2) := loopN u51_ fuel
noncomputable def uur_ : Str × Int × YY23 × (List Str) × (List Str) → Option (List YY2) := fun a_0 =>
 (uuq_ (a_0, ([] : List YY2), a_0.2.2.1, (a_0.2.2.1.length : Int), (0 : Int))).bind fun r10 =>
 (uck_ (r10, (fun x => (uoc_ x).bind fun r => some r))).bind fun r11 =>
 some r11
noncomputable def ubc9_ (next : (List YY4) × Bool × YY25 × (List YY2) × Int × Int → Option ((List YY4) × Bool × YY25)) : (List YY4) × Bool × YY25 × (List YY2) × Int × Int → Option ((List YY4) × Bool × YY25) := fun (out_3, on_4, low_5, t15, t16, t17) =>
 bif (decide (t17 < t16)) then
  (at? t15 t17).bind fun y2 =>
  bif ((eqI y2.2.2.2 (1 : Int)) && (!on_4)) then
   bif (!(eqS y2.2.2.1 ([] : Str))) then
    next (out_3, true, (true, (true, y2.2.2.1)), t15, t16, (IntKind.i64.wrap (t17 + (1 : Int))))
   else
    next (out_3, true, (false, (false, ([] : Str))), t15, t16, (IntKind.i64.wrap (t17 + (1 : Int))))
  else
   bif ((!(eqI y2.2.2.2 (1 : Int))) && on_4) then
    (app? 144 out_3 ([(low_5, (true, ((eqI y2.2.2.2 (3 : Int)), y2.2.2.1)))] : List YY4)).bind fun l4 =>
    next (l4, false, low_5, t15, t16, (IntKind.i64.wrap (t17 + (1 : Int))))
   else
    next (out_3, on_4, low_5, t15, t16, (IntKind.i64.wrap (t17 + (1 : Int))))
 else
  some (out_3, on_4, low_5)
noncomputable def uz7_ : (List YY4) × Bool × YY25 × (List YY2) × Int × Int → Option ((List YY4) × Bool × YY25) := loopN ubc9_ fuel
noncomputable def usa_ : (List YY4) × YY25 × Bool → Option (List YY4) := fun (out_3, low_5, t56) =>
 bif t56 then
  (app? 144 out_3 ([(low_5, (false, (false, ([] : Str))))] : List YY4)).bind fun l7 =>
  some l7
 else
  some out_3
noncomputable def ubda_ (next : YY5 × (List YY4) × (List Str) × Int × Int → Option (List YY4)) : YY5 × (List YY4) × (List Str) × Int × Int → Option (List YY4) := fun (a_1, out_3, t63, t64, t65) =>
 bif (decide (t65 < t64)) then
  (at? t63 t65).bind fun y9 =>
  (uov_ (a_1.2.1, y9)).bind fun r10 =>
  (app? 144 out_3 ([((true, (true, r10.1)), (true, (true, r10.1)))] : List YY4)).bind fun l12 =>
  next (a_1, l12, t63, t64, (IntKind.i64.wrap (t65 + (1 : Int))))
 else
  some out_3
noncomputable def uz8_ : YY5 × (List YY4) × (List Str) × Int × Int → Option (List YY4) := loopN ubda_ fuel
noncomputable def u13_ : Str × Int × YY23 × (List Str) × (List Str) → Option (List YY4) := fun a_0 =>
 (uur_ a_0).bind fun r1 =>
 (uz7_ (([] : List YY4), false, (false, (false, ([] : Str))), r1, (r1.length : Int), (0 : Int))).bind fun r5 =>
 (usa_ (r5.1, r5.2.2, r5.2.1)).bind fun r8 =>
 (uz8_ (a_0, r8, a_0.2.2.2.1, (a_0.2.2.2.1.length : Int), (0 : Int))).bind fun r13 =>
 some r13
noncomputable def ukn_ : Int × YY25 → Option (Str × Int) := fun (kind_0, b_1) =>
 bif (!b_1.1) then
  bif (b_1.2.1 || (!(eqS b_1.2.2 ([] : Str)))) then
   some (([] : Str), (2 : Int))
  else
   some (([] : Str), (0 : Int))
 else
  (uxi_ (kind_0, b_1.2.2)).bind fun r1 =>
  bif (!(eqI r1.2 (0 : Int))) then
   some (([] : Str), r1.2)
  else
   ((fun z => Sum.casesOn (motive := fun _ => Option Str) z (fun x => (uhn_ x).bind fun r => some r) (fun z => Sum.casesOn (motive := fun _ => Option Str) z (fun x => (uha_ x).bind fun r => some r) (fun z => Sum.casesOn (motive := fun _ => Option Str) z (fun x => (uhp_ x).bind fun r => some r) (fun z => Sum.casesOn (motive := fun _ => Option Str) z (fun x => (ufv_ x).bind fun r => some r) (fun z => Sum.casesOn (motive := fun _ => Option Str) z (fun x => (uit_ x).bind fun r => some r) (fun _ => none)))))) r1.1).bind fun r2 =>
   bif (!(eqS r2 b_1.2.2)) then
    some (([] : Str), (2 : Int))
   else
    ((fun z => Sum.casesOn (motive := fun _ => Option Str) z (fun x => (ukl_ x).bind fun r => some r) (fun z => Sum.casesOn (motive := fun _ => Option Str) z (fun x => (uiw_ x).bind fun r => some r) (fun z => Sum.casesOn (motive := fun _ => Option Str) z (fun x => (ukm_ x).bind fun r => some r) (fun z => Sum.casesOn (motive := fun _ => Option Str) z (fun x => (uhb_ x).bind fun r => some r) (fun z => Sum.casesOn (motive := fun _ => Option Str) z (fun x => (umz_ x).bind fun r => some r) (fun _ => none)))))) r1.1).bind fun r3 =>
    some (r3, (0 : Int))
noncomputable def uyg_ : YY25 × Str → Option YY31 := fun (b_0, key_1) =>
 bif (!b_0.1) then
  some ((-1 : Int), (([] : Str), (false, ([] : Str))))
 else
  some ((0 : Int), (key_1, ((!b_0.2.1), b_0.2.2)))
noncomputable def uus_ : YY25 × Str → Option YY31 := fun (b_0, key_1) =>
 bif (!b_0.1) then
  some ((1 : Int), (([] : Str), (false, ([] : Str))))
 else
  some ((0 : Int), (key_1, (b_0.2.1, b_0.2.2)))
noncomputable def uev_ : YY31 × YY31 → Option (Int) := fun (a_0, b_1) =>
 bif ((!(eqI a_0.1 b_1.1)) || (!(eqI a_0.1 (0 : Int)))) then
  (unh_ (a_0.1, b_1.1)).bind fun r1 =>
  some r1
 else
  (ud3_ (a_0.2.1, b_1.2.1)).bind fun r2 =>
  bif ((!(eqI r2 (0 : Int))) || (eqB a_0.2.2.1 b_1.2.2.1)) then
   some r2
  else
   bif a_0.2.2.1 then
    some (1 : Int)
   else
    some (-1 : Int)
noncomputable def ufk_ : YY7 × YY7 → Option (Int) := fun (a_0, b_1) =>
 (uev_ (a_0.1, b_1.1)).bind fun r1 =>
 some r1
noncomputable def uh2_ : YY7 × Int × Bool → Option (YY7 × Int) := fun (s_1, first_5, t10) =>
 bif t10 then
  (ucr_ s_1.1.2.2.2).bind fun r1 =>
  bif s_1.1.2.2.1 then
   some (s_1, (IntKind.i64.wrap (r1.1 + (1 : Int))))
  else
   some (s_1, r1.1)
 else
  some (s_1, first_5)
noncomputable def ul5_ : YY31 × YY31 → Option (Int × Int × Bool) := fun s_0 =>
 (uh2_ (s_0, (0 : Int), (eqI s_0.1.1 (0 : Int)))).bind fun r2 =>
 bif (eqI r2.1.2.1 (0 : Int)) then
  (ucr_ r2.1.2.2.2.2).bind fun r3 =>
  bif (!r2.1.2.2.2.1) then
   some (r2.2, (IntKind.i64.wrap (r3.1 - (1 : Int))), (decide (r2.2 ≤ (IntKind.i64.wrap (r3.1 - (1 : Int))))))
  else
   some (r2.2, r3.1, (decide (r2.2 ≤ r3.1)))
 else
  some (r2.2, (999999999999999999 : Int), (decide (r2.2 ≤ (999999999999999999 : Int))))
noncomputable def usb_ : Int × YY31 × Bool → Option YY31 := fun (last_8, high_10, t27) =>
 bif t27 then
  (udr_ last_8).bind fun r3 =>
  (strconv_Itoa last_8).bind fun r4 =>
  some ((0 : Int), (r3, (true, r4)))
 else
  some high_10
noncomputable def ubdb_ (next : (List YY7) × Int × (List YY7) × Int × Int → Option (List YY7)) : (List YY7) × Int × (List YY7) × Int × Int → Option (List YY7) := fun (out_3, end_4, t11, t12, t13) =>
 bif (decide (t13 < t12)) then
  (at? t11 t13).bind fun y1 =>
  (ul5_ y1).bind fun r2 =>
  bif (!r2.2.2) then
   next (out_3, end_4, t11, t12, (IntKind.i64.wrap (t13 + (1 : Int))))
  else
   (usb_ (r2.2.1, ((1 : Int), (([] : Str), (false, ([] : Str)))), (decide (r2.2.1 < (999999999999999999 : Int))))).bind fun r5 =>
   bif ((decide ((0 : Int) < (out_3.length : Int))) && (eqI r2.1 (IntKind.i64.wrap (end_4 + (1 : Int))))) then
    (in? out_3.length (IntKind.i64.wrap ((out_3.length : Int) - (1 : Int)))).bind fun _ =>
    next ((out_3.set ((IntKind.i64.wrap ((out_3.length : Int) - (1 : Int))).toNat) ((out_3.getD ((IntKind.i64.wrap ((out_3.length : Int) - (1 : Int))).toNat) (((0 : Int), (([] : Str), (false, ([] : Str)))), ((0 : Int), (([] : Str), (false, ([] : Str)))))).1, r5)), r2.2.1, t11, t12, (IntKind.i64.wrap (t13 + (1 : Int))))
   else
    (udr_ r2.1).bind fun r8 =>
    (strconv_Itoa r2.1).bind fun r9 =>
    (app? 192 out_3 ([(((0 : Int), (r8, (false, r9))), r5)] : List YY7)).bind fun l11 =>
    next (l11, r2.2.1, t11, t12, (IntKind.i64.wrap (t13 + (1 : Int))))
 else
  some out_3
noncomputable def uz9_ : (List YY7) × Int × (List YY7) × Int × Int → Option (List YY7) := loopN ubdb_ fuel
noncomputable def u14_ : List YY7 → Option (List YY7) := fun l_0 =>
 (uz9_ (([] : List YY7), (-2 : Int), l_0, (l_0.length : Int), (0 : Int))).bind fun r12 =>
 some r12
noncomputable def uyh_ : (List YY7) × Bool → Option (List YY7) := fun (l_1, t11) =>
 bif t11 then
  (u14_ l_1).bind fun r1 =>
  some r1
 else
  some l_1
noncomputable def uyi_ : YY7 × YY4 × Bool → Option (YY7 × YY4) := fun (s_8, x_9, t29) =>
 bif t29 then
  some (s_8, ((true, ((!s_8.1.2.2.1), s_8.1.2.2.2)), x_9.2))
 else
  some (s_8, x_9)
noncomputable def ublb_ (next : YY14 × (List YY7) × Int × Int → Option YY14) : YY14 × (List YY7) × Int × Int → Option YY14 := fun (r_6, t20, t21, t22) =>
 bif (decide (t22 < t21)) then
  (at? t20 t22).bind fun y4 =>
  (uyi_ (y4, ((false, (false, ([] : Str))), (false, (false, ([] : Str)))), (eqI y4.1.1 (0 : Int)))).bind fun r5 =>
  bif (eqI r5.1.2.1 (0 : Int)) then
   (app? 144 r_6.2 ([(r5.2.1, (true, (r5.1.2.2.2.1, r5.1.2.2.2.2)))] : List YY4)).bind fun l7 =>
   next ((r_6.1, l7), t20, t21, (IntKind.i64.wrap (t22 + (1 : Int))))
  else
   (app? 144 r_6.2 ([r5.2] : List YY4)).bind fun l9 =>
   next ((r_6.1, l9), t20, t21, (IntKind.i64.wrap (t22 + (1 : Int))))
 else
  some (r_6.1, r_6.2)
noncomputable def u7b_ : YY14 × (List YY7) × Int × Int → Option YY14 := loopN ublb_ fuel
noncomputable def uba5_ : Int × (List YY7) → Option (YY14 × Int) := fun (kind_0, l_1) =>
 (uyh_ (l_1, (eqI kind_0 (5 : Int)))).bind fun r2 =>
 bif (decide ((200 : Int) < (r2.length : Int))) then
  some (((0 : Int), ([] : List YY4)), (3 : Int))
 else
  (u7b_ ((kind_0, ([] : List YY4)), r2, (r2.length : Int), (0 : Int))).bind fun r10 =>
  some ((r10.1, r10.2), (0 : Int))
noncomputable def ubf5_ (next : Int × YY14 × (List YY7) × (List YY4) × Int × Int → Option (Sum (YY14 × (List YY7)) (YY14 × Int))) : Int × YY14 × (List YY7) × (List YY4) × Int × Int → Option (Sum (YY14 × (List YY7)) (YY14 × Int)) := fun (kind_0, t4, all_6, t17, t18, t19) =>
 bif (decide (t19 < t18)) then
  (at? t17 t19).bind fun y1 =>
  (ukn_ (kind_0, y1.1)).bind fun r2 =>
  bif (!(eqI r2.2 (0 : Int))) then
   some (.inr (((0 : Int), ([] : List YY4)), r2.2))
  else
   (ukn_ (kind_0, y1.2)).bind fun r4 =>
   bif (!(eqI r4.2 (0 : Int))) then
    some (.inr (((0 : Int), ([] : List YY4)), r4.2))
   else
    (uyg_ (y1.1, r2.1)).bind fun r6 =>
    (uus_ (y1.2, r4.1)).bind fun r7 =>
    (uev_ (r6, r7)).bind fun r8 =>
    bif (decide (r8 < (0 : Int))) then
     (app? 192 all_6 ([(r6, r7)] : List YY7)).bind fun l10 =>
     next (kind_0, t4, l10, t17, t18, (IntKind.i64.wrap (t19 + (1 : Int))))
    else
     next (kind_0, t4, all_6, t17, t18, (IntKind.i64.wrap (t19 + (1 : Int))))
 else
  some (.inl (t4, all_6))
noncomputable def u2u_ : Int × YY14 × (List YY7) × (List YY4) × Int × Int → Option (Sum (YY14 × (List YY7)) (YY14 × Int)) := loopN ubf5_ fuel
noncomputable def ubf6_ (next : (List YY7) × (List YY7) × Int × Int → Option (List YY7)) : (List YY7) × (List YY7) × Int × Int → Option (List YY7) := fun (out_13, t67, t68, t69) =>
 bif (decide (t69 < t68)) then
  (in? t67.length t69).bind fun _ =>
  let v14 := (t67.getD t69.toNat (((0 : Int), (([] : Str), (false, ([] : Str)))), ((0 : Int), (([] : Str), (false, ([] : Str))))))
  (bif (!(eqI (out_13.length : Int) (0 : Int))) then in? out_13.length (IntKind.i64.wrap ((out_13.length : Int) - (1 : Int))) else some ()).bind fun _ =>
  (bif (!(eqI (out_13.length : Int) (0 : Int))) then uev_ (((out_13.getD ((IntKind.i64.wrap ((out_13.length : Int) - (1 : Int))).toNat) (((0 : Int), (([] : Str), (false, ([] : Str)))), ((0 : Int), (([] : Str), (false, ([] : Str)))))).2), v14.1) else some (0 : Int)).bind fun r16 =>
  bif ((eqI (out_13.length : Int) (0 : Int)) || (decide (r16 < (0 : Int)))) then
   (app? 192 out_13 ([v14] : List YY7)).bind fun l19 =>
   next (l19, t67, t68, (IntKind.i64.wrap (t69 + (1 : Int))))
  else
   (in? out_13.length (IntKind.i64.wrap ((out_13.length : Int) - (1 : Int)))).bind fun _ =>
   (uev_ (((out_13.getD ((IntKind.i64.wrap ((out_13.length : Int) - (1 : Int))).toNat) (((0 : Int), (([] : Str), (false, ([] : Str)))), ((0 : Int), (([] : Str), (false, ([] : Str)))))).2), v14.2)).bind fun r21 =>
   bif (decide (r21 < (0 : Int))) then
    (in? out_13.length (IntKind.i64.wrap ((out_13.length : Int) - (1 : Int)))).bind fun _ =>
    next ((out_13.set ((IntKind.i64.wrap ((out_13.length : Int) - (1 : Int))).toNat) ((out_13.getD ((IntKind.i64.wrap ((out_13.length : Int) - (1 : Int))).toNat) (((0 : Int), (([] : Str), (false, ([] : Str)))), ((0 : Int), (([] : Str), (false, ([] : Str)))))).1, v14.2)), t67, t68, (IntKind.i64.wrap (t69 + (1 : Int))))
   else
    next (out_13, t67, t68, (IntKind.i64.wrap (t69 + (1 : Int))))
 else
  some out_13
noncomputable def u2v_ : (List YY7) × (List YY7) × Int × Int → Option (List YY7) := loopN ubf6_ fuel
noncomputable def u52_ : Int × (List YY4) → Option (YY14 × Int) := fun (kind_0, l_1) =>
 (u2u_ (kind_0, ((0 : Int), ([] : List YY4)), ([] : List YY7), l_1, (l_1.length : Int), (0 : Int))).bind fun r11 =>
 match r11 with
 | .inl y12 =>
   (ugk_ (y12.2, (fun x => (ufk_ x).bind fun r => some r))).bind fun r13 =>
   (u2v_ (([] : List YY7), r13, (r13.length : Int), (0 : Int))).bind fun r23 =>
   (uba5_ (kind_0, r23)).bind fun r24 =>
   some (r24.1, r24.2)
 | .inr y12' =>
   some (y12'.1, y12'.2)
noncomputable def uut_ : Str × Int × YY23 × (List Str) × (List Str) → Option (YY14 × Int) := fun a_0 =>
 (uiu_ a_0).bind fun r1 =>
 bif (!(eqI r1 (0 : Int))) then
  some (((0 : Int), ([] : List YY4)), r1)
 else
  (u13_ a_0).bind fun r3 =>
  (u52_ (a_0.2.1, r3)).bind fun r4 =>
  some (r4.1, r4.2)
noncomputable def upy_ : YY1 × Bool → Option (Sum YY1 ((List YY14) × Int)) := fun (a_1, t37) =>
 bif t37 then
  (ut9_ a_1.2.2.2.2.2.1).bind fun r5 =>
  bif (!(eqI r5.2 (0 : Int))) then
   some (.inr (([] : List YY14), r5.2))
  else
   some (.inl a_1)
 else
  some (.inl a_1)
noncomputable def u8u_ (next : (List YY14) × (List YY5) × Int × Int → Option (Sum (List YY14) ((List YY14) × Int))) : (List YY14) × (List YY5) × Int × Int → Option (Sum (List YY14) ((List YY14) × Int)) := fun (out_7, t52, t53, t54) =>
 bif (decide (t54 < t53)) then
  (at? t52 t54).bind fun y8 =>
  (uut_ y8).bind fun r9 =>
  bif (!(eqI r9.2 (0 : Int))) then
   some (.inr (([] : List YY14), r9.2))
  else
   (app? 48 out_7 ([r9.1] : List YY14)).bind fun l11 =>
   next (l11, t52, t53, (IntKind.i64.wrap (t54 + (1 : Int))))
 else
  some (.inl out_7)
noncomputable def uxl_ : (List YY14) × (List YY5) × Int × Int → Option (Sum (List YY14) ((List YY14) × Int)) := loopN u8u_ fuel
noncomputable def uyj_ : Str × (List Str) × Str × Int × Bool × Str × (List YY5) → Option ((List YY14) × Int) := fun a_0 =>
 (utd_ a_0.1).bind fun r1 =>
 bif (!r1) then
  some (([] : List YY14), (8 : Int))
 else
  (ujx_ a_0).bind fun r2 =>
  bif (!(eqI r2 (0 : Int))) then
   some (([] : List YY14), r2)
  else
   (utd_ a_0.2.2.1).bind fun r3 =>
   bif (!r3) then
    some (([] : List YY14), (8 : Int))
   else
    bif ((decide (a_0.2.2.2.1 < (0 : Int))) || (decide ((1000000 : Int) < a_0.2.2.2.1))) then
     some (([] : List YY14), (9 : Int))
    else
     (upy_ (a_0, (!(eqS a_0.2.2.2.2.2.1 ([] : Str))))).bind fun r6 =>
     match r6 with
     | .inl y7 =>
       bif (decide ((50 : Int) < (y7.2.2.2.2.2.2.length : Int))) then
        some (([] : List YY14), (3 : Int))
       else
        (uxl_ (([] : List YY14), y7.2.2.2.2.2.2, (y7.2.2.2.2.2.2.length : Int), (0 : Int))).bind fun r12 =>
        match r12 with
        | .inl y13 =>
          some (y13, (0 : Int))
        | .inr y13' =>
          some (y13'.1, y13'.2)
     | .inr y7' =>
       some (y7'.1, y7'.2)
noncomputable def uiz_ : Str × (List Str) × Str × Int × Bool × Str × (List YY5) → Option (Int) := fun a_0 =>
 (uyj_ a_0).bind fun r1 =>
 some r1.2
noncomputable def u0z_ (next : YY16 × (List YY1) × Int × Int → Option YY24) : YY16 × (List YY1) × Int × Int → Option YY24 := fun (b_1, t29, t30, t31) =>
 bif (decide (t31 < t30)) then
  (at? t29 t31).bind fun y2 =>
  (uiz_ y2).bind fun r3 =>
  bif (!(eqI r3 (0 : Int))) then
   some (.inr r3)
  else
   (bif (decide ((0 : Int) < t31)) then at? b_1.2.1 (IntKind.i64.wrap (t31 - (1 : Int))) else some (([] : Str), (([] : List Str), (([] : Str), ((0 : Int), (false, (([] : Str), ([] : List YY5)))))))).bind fun y4 =>
   bif ((decide ((0 : Int) < t31)) && (Op.bytesLess y2.1 y4.1 || eqS y2.1 y4.1)) then
    some (.inr (10 : Int))
   else
    (at? b_1.2.2 t31).bind fun y6 =>
    (bif (!(decide (y6 < (0 : Int)))) then at? b_1.2.2 t31 else some (0 : Int)).bind fun y7 =>
    bif ((decide (y6 < (0 : Int))) || (decide (b_1.1 < y7))) then
     some (.inr (9 : Int))
    else
     next (b_1, t29, t30, (IntKind.i64.wrap (t31 + (1 : Int))))
 else
  some (.inl ())
noncomputable def uqu_ : YY16 × (List YY1) × Int × Int → Option YY24 := loopN u0z_ fuel
noncomputable def uko_ : Int × (List YY1) × (List Int) → Option (Int) := fun b_0 =>
 bif ((decide (b_0.1 < (0 : Int))) || (decide ((1000000000 : Int) < b_0.1))) then
  some (9 : Int)
 else
  bif (decide ((2000 : Int) < (b_0.2.1.length : Int))) then
   some (3 : Int)
  else
   bif (!(eqI (b_0.2.2.length : Int) (b_0.2.1.length : Int))) then
    some (2 : Int)
   else
    (uqu_ (b_0, b_0.2.1, (b_0.2.1.length : Int), (0 : Int))).bind fun r8 =>
    match r8 with
    | .inl y9 =>
      some (0 : Int)
    | .inr y9' =>
      some y9'
noncomputable def uyx_ (next : YY17 × YY20 × (List YY1) × Int × Int → Option (Sum (YY17 × YY20) (Int))) : YY17 × YY20 × (List YY1) × Int × Int → Option (Sum (YY17 × YY20) (Int)) := fun (d_3, put_5, t33, t34, t35) =>
 bif (decide (t35 < t34)) then
  (at? t33 t35).bind fun y2 =>
  (uiz_ y2).bind fun r3 =>
  bif (!(eqI r3 (0 : Int))) then
   some (.inr r3)
  else
   (bif (decide ((0 : Int) < t35)) then at? d_3.2.2.1 (IntKind.i64.wrap (t35 - (1 : Int))) else some (([] : Str), (([] : List Str), (([] : Str), ((0 : Int), (false, (([] : Str), ([] : List YY5)))))))).bind fun y4 =>
   bif ((decide ((0 : Int) < t35)) && (Op.bytesLess y2.1 y4.1 || eqS y2.1 y4.1)) then
    some (.inr (10 : Int))
   else
    next (d_3, (putKV eqS y2.1 true put_5), t33, t34, (IntKind.i64.wrap (t35 + (1 : Int))))
 else
  some (.inl (d_3, put_5))
noncomputable def uoz_ : YY17 × YY20 × (List YY1) × Int × Int → Option (Sum (YY17 × YY20) (Int)) := loopN uyx_ fuel
noncomputable def uyy_ (next : YY20 × (List YY1) × Int × Int → Option YY20) : YY20 × (List YY1) × Int × Int → Option YY20 := fun (there_9, t65, t66, t67) =>
 bif (decide (t67 < t66)) then
  (at? t65 t67).bind fun y8 =>
  next ((putKV eqS y8.1 true there_9), t65, t66, (IntKind.i64.wrap (t67 + (1 : Int))))
 else
  some there_9
noncomputable def uo0_ : YY20 × (List YY1) × Int × Int → Option YY20 := loopN uyy_ fuel
noncomputable def ubf7_ (next : YY17 × YY20 × YY20 × (List Str) × Int × Int → Option YY24) : YY17 × YY20 × YY20 × (List Str) × Int × Int → Option YY24 := fun (d_3, put_5, there_9, t76, t77, t78) =>
 bif (decide (t78 < t77)) then
  (at? t76 t78).bind fun y10 =>
  bif (!((uyn_ eqS y10 there_9).getD false)) then
   some (.inr (4 : Int))
  else
   (bif (decide ((0 : Int) < t78)) then at? d_3.2.2.2 (IntKind.i64.wrap (t78 - (1 : Int))) else some ([] : Str)).bind fun y11 =>
   bif ((decide ((0 : Int) < t78)) && (Op.bytesLess y10 y11 || eqS y10 y11)) then
    some (.inr (10 : Int))
   else
    bif ((uyn_ eqS y10 put_5).getD false) then
     some (.inr (5 : Int))
    else
     next (d_3, put_5, there_9, t76, t77, (IntKind.i64.wrap (t78 + (1 : Int))))
 else
  some (.inl ())
noncomputable def ui0_ : YY17 × YY20 × YY20 × (List Str) × Int × Int → Option YY24 := loopN ubf7_ fuel
noncomputable def uod_ : YY16 × YY17 → Option (Int) := fun (b_0, d_1) =>
 bif (!(eqI d_1.1 b_0.1)) then
  some (11 : Int)
 else
  bif ((decide (d_1.2.1 ≤ d_1.1)) || (decide ((1000000000 : Int) < d_1.2.1))) then
   some (9 : Int)
  else
   (uoz_ (d_1, ([] : List (Str × Bool)), d_1.2.2.1, (d_1.2.2.1.length : Int), (0 : Int))).bind fun r6 =>
   match r6 with
   | .inl y7 =>
     (uo0_ (([] : List (Str × Bool)), b_0.2.1, (b_0.2.1.length : Int), (0 : Int))).bind fun r9 =>
     (ui0_ (y7.1, y7.2, r9, y7.1.2.2.2, (y7.1.2.2.2.length : Int), (0 : Int))).bind fun r13 =>
     match r13 with
     | .inl y14 =>
       some (0 : Int)
     | .inr y14' =>
       some y14'
   | .inr y7' =>
     some y7'
noncomputable def ubi2_ : Unit → Option (List Str) := fun s_0 =>
 some ([] : List Str)
noncomputable def uqv_ : List Str → Option (List Str) := fun s_0 =>
 (app? 24 ([] : List Str) s_0).bind fun l1 =>
 some l1
noncomputable def ugz_ : List Str → Option (List Str) := uqv_
noncomputable def uba6_ : Unit → Option YY23 := fun s_0 =>
 some ([] : List (Int × Str))
noncomputable def ul6_ : List (Int × Str) → Option YY23 := fun s_0 =>
 (app? 48 ([] : List (Int × Str)) s_0).bind fun l1 =>
 some l1
noncomputable def ui1_ : List (Int × Str) → Option YY23 := ul6_
noncomputable def u8v_ (next : (List YY5) × (List YY5) × Int × Int → Option (List YY5)) : (List YY5) × (List YY5) × Int × Int → Option (List YY5) := fun (l_3, t11, t12, t13) =>
 bif (decide (t13 < t12)) then
  (at? t11 t13).bind fun y2 =>
  (ui1_ y2.2.2.1).bind fun r3 =>
  (ugz_ y2.2.2.2.1).bind fun r4 =>
  (ugz_ y2.2.2.2.2).bind fun r5 =>
  (app? 120 l_3 ([(y2.1, (y2.2.1, (r3, (r4, r5))))] : List YY5)).bind fun l7 =>
  next (l7, t11, t12, (IntKind.i64.wrap (t13 + (1 : Int))))
 else
  some l_3
noncomputable def uxm_ : (List YY5) × (List YY5) × Int × Int → Option (List YY5) := loopN u8v_ fuel
noncomputable def ujk_ : Str × (List Str) × Str × Int × Bool × Str × (List YY5) → Option YY1 := fun a_0 =>
 (ugz_ a_0.2.1).bind fun r1 =>
 (uxm_ (([] : List YY5), a_0.2.2.2.2.2.2, (a_0.2.2.2.2.2.2.length : Int), (0 : Int))).bind fun r8 =>
 some (a_0.1, (r1, (a_0.2.2.1, (a_0.2.2.2.1, (a_0.2.2.2.2.1, (a_0.2.2.2.2.2.1, r8))))))
noncomputable def u53_ : YY1 × YY1 → Option (Int) := fun (a_0, b_1) =>
 (ud3_ (a_0.1, b_1.1)).bind fun r1 =>
 some r1
noncomputable def um0_ : (YY1 × Int) × (YY1 × Int) → Option (Int) := fun (x_0, y_1) =>
 (u53_ (x_0.1, y_1.1)).bind fun r1 =>
 some r1
noncomputable def ubs7_ (next : YY20 × (List Str) × Int × Int → Option YY20) : YY20 × (List Str) × Int × Int → Option YY20 := fun (gone_8, t34, t35, t36) =>
 bif (decide (t36 < t35)) then
  (at? t34 t36).bind fun y5 =>
  next ((putKV eqS y5 true gone_8), t34, t35, (IntKind.i64.wrap (t36 + (1 : Int))))
 else
  some gone_8
noncomputable def usc_ : YY20 × (List Str) × Int × Int → Option YY20 := loopN ubs7_ fuel
noncomputable def ubdc_ (next : YY17 × YY20 × YY32 × (List YY1) × Int × Int → Option (YY17 × YY20 × YY32)) : YY17 × YY20 × YY32 × (List YY1) × Int × Int → Option (YY17 × YY20 × YY32) := fun (d_3, gone_8, all_11, t44, t45, t46) =>
 bif (decide (t46 < t45)) then
  (at? t44 t46).bind fun y7 =>
  (ujk_ y7).bind fun r8 =>
  (app? 192 all_11 ([(r8, d_3.2.1)] : List (YY1 × Int))).bind fun l10 =>
  next (d_3, (putKV eqS y7.1 true gone_8), l10, t44, t45, (IntKind.i64.wrap (t46 + (1 : Int))))
 else
  some (d_3, gone_8, all_11)
noncomputable def u0a_ : YY17 × YY20 × YY32 × (List YY1) × Int × Int → Option (YY17 × YY20 × YY32) := loopN ubdc_ fuel
noncomputable def ubdd_ (next : YY16 × YY20 × YY32 × (List YY1) × Int × Int → Option YY32) : YY16 × YY20 × YY32 × (List YY1) × Int × Int → Option YY32 := fun (b_2, gone_8, all_11, t63, t64, t65) =>
 bif (decide (t65 < t64)) then
  (at? t63 t65).bind fun y12 =>
  bif (!((uyn_ eqS y12.1 gone_8).getD false)) then
   (ujk_ y12).bind fun r13 =>
   (at? b_2.2.2 t65).bind fun y14 =>
   (app? 192 all_11 ([(r13, y14)] : List (YY1 × Int))).bind fun l16 =>
   next (b_2, gone_8, l16, t63, t64, (IntKind.i64.wrap (t65 + (1 : Int))))
  else
   next (b_2, gone_8, all_11, t63, t64, (IntKind.i64.wrap (t65 + (1 : Int))))
 else
  some all_11
noncomputable def u0b_ : YY16 × YY20 × YY32 × (List YY1) × Int × Int → Option YY32 := loopN ubdd_ fuel
noncomputable def u8w_ (next : YY21 × YY32 × Int × Int → Option YY21) : YY21 × YY32 × Int × Int → Option YY21 := fun (out_16, t96, t97, t98) =>
 bif (decide (t98 < t97)) then
  (in? t96.length t98).bind fun _ =>
  let v20 := (t96.getD t98.toNat ((([] : Str), (([] : List Str), (([] : Str), ((0 : Int), (false, (([] : Str), ([] : List YY5))))))), (0 : Int)))
  (app? 168 out_16.2.1 ([v20.1] : List YY1)).bind fun l22 =>
  (app? 24 out_16.2.2 ([v20.2] : List Int)).bind fun l23 =>
  next ((out_16.1, (l22, l23)), t96, t97, (IntKind.i64.wrap (t98 + (1 : Int))))
 else
  some (out_16.1, (out_16.2.1, out_16.2.2))
noncomputable def uxn_ : YY21 × YY32 × Int × Int → Option YY21 := loopN u8w_ fuel
noncomputable def ul7_ : YY16 × YY17 → Option (YY16 × Int) := fun (b_0, d_1) =>
 (uko_ b_0).bind fun r1 =>
 bif (!(eqI r1 (0 : Int))) then
  some (((0 : Int), (([] : List YY1), ([] : List Int))), r1)
 else
  (uod_ (b_0, d_1)).bind fun r3 =>
  bif (!(eqI r3 (0 : Int))) then
   some (((0 : Int), (([] : List YY1), ([] : List Int))), r3)
  else
   (usc_ (([] : List (Str × Bool)), d_1.2.2.2, (d_1.2.2.2.length : Int), (0 : Int))).bind fun r6 =>
   (u0a_ (d_1, r6, ([] : List (YY1 × Int)), d_1.2.2.1, (d_1.2.2.1.length : Int), (0 : Int))).bind fun r11 =>
   (u0b_ (b_0, r11.2.1, r11.2.2, b_0.2.1, (b_0.2.1.length : Int), (0 : Int))).bind fun r17 =>
   bif (decide ((2000 : Int) < (r17.length : Int))) then
    some (((0 : Int), (([] : List YY1), ([] : List Int))), (3 : Int))
   else
    (umx_ (r17, (fun x => (um0_ x).bind fun r => some r))).bind fun r19 =>
    (uxn_ ((r11.1.2.1, (([] : List YY1), ([] : List Int))), r19, (r19.length : Int), (0 : Int))).bind fun r24 =>
    some ((r24.1, (r24.2.1, r24.2.2)), (0 : Int))
noncomputable def ubi3_ (next : (List YY1) × Int × Int → Option YY24) : (List YY1) × Int × Int → Option YY24 := fun (t9, t10, t11) =>
 bif (decide (t11 < t10)) then
  (at? t9 t11).bind fun y1 =>
  (uiz_ y1).bind fun r2 =>
  bif (!(eqI r2 (0 : Int))) then
   some (.inr r2)
  else
   next (t9, t10, (IntKind.i64.wrap (t11 + (1 : Int))))
 else
  some (.inl ())
noncomputable def u00_ : (List YY1) × Int × Int → Option YY24 := loopN ubi3_ fuel
noncomputable def u8x_ : List YY1 → Option (Int) := fun l_0 =>
 bif (decide ((2000 : Int) < (l_0.length : Int))) then
  some (3 : Int)
 else
  (u00_ (l_0, (l_0.length : Int), (0 : Int))).bind fun r3 =>
  match r3 with
  | .inl y4 =>
    some (0 : Int)
  | .inr y4' =>
    some y4'
noncomputable def ubxb_ (next : YY21 × (List YY1) × Int × Int → Option YY21) : YY21 × (List YY1) × Int × Int → Option YY21 := fun (b_5, t15, t16, t17) =>
 bif (decide (t17 < t16)) then
  (at? t15 t17).bind fun y3 =>
  (ujk_ y3).bind fun r4 =>
  (app? 168 b_5.2.1 ([r4] : List YY1)).bind fun l6 =>
  (app? 24 b_5.2.2 ([(0 : Int)] : List Int)).bind fun l7 =>
  next ((b_5.1, (l6, l7)), t15, t16, (IntKind.i64.wrap (t17 + (1 : Int))))
 else
  some (b_5.1, (b_5.2.1, b_5.2.2))
noncomputable def ublc_ : YY21 × (List YY1) × Int × Int → Option YY21 := loopN ubxb_ fuel
noncomputable def ubxc_ (next : YY16 × YY21 × Int → Option (Sum (YY16 × YY21) (YY16 × Int))) : YY16 × YY21 × Int → Option (Sum (YY16 × YY21) (YY16 × Int)) := fun (t2, b_5, i_8) =>
 bif (decide (i_8 < (b_5.2.1.length : Int))) then
  (in? b_5.2.1.length i_8).bind fun _ =>
  (in? b_5.2.1.length (IntKind.i64.wrap (i_8 - (1 : Int)))).bind fun _ =>
  bif (eqS ((b_5.2.1.getD i_8.toNat (([] : Str), (([] : List Str), (([] : Str), ((0 : Int), (false, (([] : Str), ([] : List YY5)))))))).1) ((b_5.2.1.getD ((IntKind.i64.wrap (i_8 - (1 : Int))).toNat) (([] : Str), (([] : List Str), (([] : Str), ((0 : Int), (false, (([] : Str), ([] : List YY5)))))))).1)) then
   some (.inr (((0 : Int), (([] : List YY1), ([] : List Int))), (5 : Int)))
  else
   next (t2, (b_5.1, (b_5.2.1, b_5.2.2)), (IntKind.i64.wrap (i_8 + (1 : Int))))
 else
  some (.inl (t2, (b_5.1, (b_5.2.1, b_5.2.2))))
noncomputable def ubld_ : YY16 × YY21 × Int → Option (Sum (YY16 × YY21) (YY16 × Int)) := loopN ubxc_ fuel
noncomputable def ubvi_ : List YY1 → Option (YY16 × Int) := fun l_0 =>
 (u8x_ l_0).bind fun r1 =>
 bif (!(eqI r1 (0 : Int))) then
  some (((0 : Int), (([] : List YY1), ([] : List Int))), r1)
 else
  (ublc_ (((0 : Int), (([] : List YY1), ([] : List Int))), l_0, (l_0.length : Int), (0 : Int))).bind fun r8 =>
  (uor_ (r8.2.1, (fun x => (u53_ x).bind fun r => some r))).bind fun r9 =>
  (ubld_ (((0 : Int), (([] : List YY1), ([] : List Int))), (r8.1, (r9, r8.2.2)), (1 : Int))).bind fun r13 =>
  match r13 with
  | .inl y14 =>
    some ((y14.2.1, (y14.2.2.1, y14.2.2.2)), (0 : Int))
  | .inr y14' =>
    some (y14'.1, y14'.2)
noncomputable def ub1d_ : Unit → Option (Bool) := fun _ =>
 (ut9_ ([78, 72, 76, 76, 78, 78] : Str)).bind fun r1 =>
 (ubvi_ ([(([65] : Str), (([] : List Str), (([120] : Str), ((0 : Int), (false, (([] : Str), ([] : List YY5)))))))] : List YY1)).bind fun r4 =>
 some ((((eqI r1.1 (34 : Int)) && (eqI r1.2 (0 : Int))) && (eqI r4.2 (0 : Int))) && (eqI (r4.1.2.1.length : Int) (1 : Int)))
noncomputable def ubde_ (next : Int × YY16 × YY33 × (List YY1) × Int × Int → Option YY33) : Int × YY16 × YY33 × (List YY1) × Int × Int → Option YY33 := fun (revision_1, b_2, out_7, t30, t31, t32) =>
 bif (decide (t32 < t31)) then
  (at? t30 t32).bind fun y5 =>
  (at? b_2.2.2 t32).bind fun y6 =>
  bif (decide (revision_1 < y6)) then
   (ujk_ y5).bind fun r7 =>
   (app? 168 out_7.2.2.1 ([r7] : List YY1)).bind fun l9 =>
   next (revision_1, b_2, (out_7.1, (out_7.2.1, (l9, out_7.2.2.2))), t30, t31, (IntKind.i64.wrap (t32 + (1 : Int))))
  else
   next (revision_1, b_2, (out_7.1, (out_7.2.1, (out_7.2.2.1, out_7.2.2.2))), t30, t31, (IntKind.i64.wrap (t32 + (1 : Int))))
 else
  some (out_7.1, (out_7.2.1, (out_7.2.2.1, out_7.2.2.2)))
noncomputable def u0c_ : Int × YY16 × YY33 × (List YY1) × Int × Int → Option YY33 := loopN ubde_ fuel
noncomputable def uuu_ : YY16 × Int → Option (YY17 × Int) := fun (b_0, revision_1) =>
 (uko_ b_0).bind fun r1 =>
 bif (!(eqI r1 (0 : Int))) then
  some (((0 : Int), ((0 : Int), (([] : List YY1), ([] : List Str)))), r1)
 else
  bif ((decide (revision_1 < (0 : Int))) || (decide (b_0.1 < revision_1))) then
   some (((0 : Int), ((0 : Int), (([] : List YY1), ([] : List Str)))), (9 : Int))
  else
   (u0c_ (revision_1, b_0, (revision_1, (b_0.1, (([] : List YY1), ([] : List Str)))), b_0.2.1, (b_0.2.1.length : Int), (0 : Int))).bind fun r10 =>
   some ((r10.1, (r10.2.1, (r10.2.2.1, r10.2.2.2))), (0 : Int))
noncomputable def ue7_ (next : (List YY1) × ((YY1 × YY1) → Option Bool) × (List YY1) × Int × Int → Option YY22) : (List YY1) × ((YY1 × YY1) → Option Bool) × (List YY1) × Int × Int → Option YY22 := fun (s2_1, eq_2, t15, t16, t17) =>
 bif (decide (t17 < t16)) then
  (at? t15 t17).bind fun y1 =>
  (at? s2_1 t17).bind fun y2 =>
  (eq_2 (y1, y2)).bind fun r3 =>
  bif (!r3) then
   some (.inr false)
  else
   next (s2_1, eq_2, t15, t16, (IntKind.i64.wrap (t17 + (1 : Int))))
 else
  some (.inl ())
noncomputable def ucm_ : (List YY1) × ((YY1 × YY1) → Option Bool) × (List YY1) × Int × Int → Option YY22 := loopN ue7_ fuel
noncomputable def ubg_ : (List YY1) × (List YY1) × ((YY1 × YY1) → Option Bool) → Option (Bool) := fun (s1_0, s2_1, eq_2) =>
 bif (!(eqI (s1_0.length : Int) (s2_1.length : Int))) then
  some false
 else
  (ucm_ (s2_1, eq_2, s1_0, (s1_0.length : Int), (0 : Int))).bind fun r4 =>
  match r4 with
  | .inl y5 =>
    some true
  | .inr y5' =>
    some y5'
noncomputable def uyz_ (next : (List Str) × (List Str) × Int × Int → Option YY22) : (List Str) × (List Str) × Int × Int → Option YY22 := fun (s1_0, s2_1, t12, t13) =>
 bif (decide (t13 < t12)) then
  (at? s1_0 t13).bind fun y1 =>
  (at? s2_1 t13).bind fun y2 =>
  bif (!(eqS y1 y2)) then
   some (.inr false)
  else
   next (s1_0, s2_1, t12, (IntKind.i64.wrap (t13 + (1 : Int))))
 else
  some (.inl ())
noncomputable def uo1_ : (List Str) × (List Str) × Int × Int → Option YY22 := loopN uyz_ fuel
noncomputable def ug0_ : (List Str) × (List Str) → Option (Bool) := fun (s1_0, s2_1) =>
 bif (!(eqI (s1_0.length : Int) (s2_1.length : Int))) then
  some false
 else
  (uo1_ (s1_0, s2_1, (s1_0.length : Int), (0 : Int))).bind fun r3 =>
  match r3 with
  | .inl y4 =>
    some true
  | .inr y4' =>
    some y4'
noncomputable def ue8_ (next : (List YY5) × ((YY5 × YY5) → Option Bool) × (List YY5) × Int × Int → Option YY22) : (List YY5) × ((YY5 × YY5) → Option Bool) × (List YY5) × Int × Int → Option YY22 := fun (s2_1, eq_2, t15, t16, t17) =>
 bif (decide (t17 < t16)) then
  (at? t15 t17).bind fun y1 =>
  (at? s2_1 t17).bind fun y2 =>
  (eq_2 (y1, y2)).bind fun r3 =>
  bif (!r3) then
   some (.inr false)
  else
   next (s2_1, eq_2, t15, t16, (IntKind.i64.wrap (t17 + (1 : Int))))
 else
  some (.inl ())
noncomputable def ucn_ : (List YY5) × ((YY5 × YY5) → Option Bool) × (List YY5) × Int × Int → Option YY22 := loopN ue8_ fuel
noncomputable def ubv_ : (List YY5) × (List YY5) × ((YY5 × YY5) → Option Bool) → Option (Bool) := fun (s1_0, s2_1, eq_2) =>
 bif (!(eqI (s1_0.length : Int) (s2_1.length : Int))) then
  some false
 else
  (ucn_ (s2_1, eq_2, s1_0, (s1_0.length : Int), (0 : Int))).bind fun r4 =>
  match r4 with
  | .inl y5 =>
    some true
  | .inr y5' =>
    some y5'
noncomputable def uth_ (next : YY23 × YY23 × Int × Int → Option YY22) : YY23 × YY23 × Int × Int → Option YY22 := fun (s1_0, s2_1, t12, t13) =>
 bif (decide (t13 < t12)) then
  (at? s1_0 t13).bind fun y1 =>
  (at? s2_1 t13).bind fun y2 =>
  bif (!((eqI y1.1 y2.1) && (eqS y1.2 y2.2))) then
   some (.inr false)
  else
   next (s1_0, s2_1, t12, (IntKind.i64.wrap (t13 + (1 : Int))))
 else
  some (.inl ())
noncomputable def ukp_ : YY23 × YY23 × Int × Int → Option YY22 := loopN uth_ fuel
noncomputable def ui2_ : YY23 × YY23 → Option (Bool) := fun (s1_0, s2_1) =>
 bif (!(eqI (s1_0.length : Int) (s2_1.length : Int))) then
  some false
 else
  (ukp_ (s1_0, s2_1, (s1_0.length : Int), (0 : Int))).bind fun r3 =>
  match r3 with
  | .inl y4 =>
    some true
  | .inr y4' =>
    some y4'
noncomputable def ujl_ : YY5 × YY5 → Option (Bool) := fun (a_0, b_1) =>
 (bif ((eqS a_0.1 b_1.1) && (eqI a_0.2.1 b_1.2.1)) then ui2_ (a_0.2.2.1, b_1.2.2.1) else some false).bind fun r1 =>
 (bif (((eqS a_0.1 b_1.1) && (eqI a_0.2.1 b_1.2.1)) && r1) then ug0_ (a_0.2.2.2.1, b_1.2.2.2.1) else some false).bind fun r2 =>
 (bif ((((eqS a_0.1 b_1.1) && (eqI a_0.2.1 b_1.2.1)) && r1) && r2) then ug0_ (a_0.2.2.2.2, b_1.2.2.2.2) else some false).bind fun r3 =>
 some (((((eqS a_0.1 b_1.1) && (eqI a_0.2.1 b_1.2.1)) && r1) && r2) && r3)
noncomputable def ubst_ : YY1 × YY1 → Option (Bool) := fun (a_0, b_1) =>
 (bif (eqS a_0.1 b_1.1) then ug0_ (a_0.2.1, b_1.2.1) else some false).bind fun r1 =>
 let v3 := ((((((eqS a_0.1 b_1.1) && r1) && (eqS a_0.2.2.1 b_1.2.2.1)) && (eqI a_0.2.2.2.1 b_1.2.2.2.1)) && (eqB a_0.2.2.2.2.1 b_1.2.2.2.2.1)) && (eqS a_0.2.2.2.2.2.1 b_1.2.2.2.2.2.1))
 (bif v3 then ubv_ (a_0.2.2.2.2.2.2, b_1.2.2.2.2.2.2, (fun x => (ujl_ x).bind fun r => some r)) else some false).bind fun r4 =>
 some (v3 && r4)
noncomputable def u54_ (next : (List Int) × (List Int) × Int × Int → Option YY22) : (List Int) × (List Int) × Int × Int → Option YY22 := fun (s1_0, s2_1, t12, t13) =>
 bif (decide (t13 < t12)) then
  (at? s1_0 t13).bind fun y1 =>
  (at? s2_1 t13).bind fun y2 =>
  bif (!(eqI y1 y2)) then
   some (.inr false)
  else
   next (s1_0, s2_1, t12, (IntKind.i64.wrap (t13 + (1 : Int))))
 else
  some (.inl ())
noncomputable def uuv_ : (List Int) × (List Int) × Int × Int → Option YY22 := loopN u54_ fuel
noncomputable def uuw_ : (List Int) × (List Int) → Option (Bool) := fun (s1_0, s2_1) =>
 bif (!(eqI (s1_0.length : Int) (s2_1.length : Int))) then
  some false
 else
  (uuv_ (s1_0, s2_1, (s1_0.length : Int), (0 : Int))).bind fun r3 =>
  match r3 with
  | .inl y4 =>
    some true
  | .inr y4' =>
    some y4'
noncomputable def ubiz_ : YY16 × YY16 → Option (Bool) := fun (a_0, b_1) =>
 (bif (eqI a_0.1 b_1.1) then ubg_ (a_0.2.1, b_1.2.1, (fun x => (ubst_ x).bind fun r => some r)) else some false).bind fun r1 =>
 (bif ((eqI a_0.1 b_1.1) && r1) then uuw_ (a_0.2.2, b_1.2.2) else some false).bind fun r2 =>
 some (((eqI a_0.1 b_1.1) && r1) && r2)
noncomputable def uo2_ : YY16 × YY17 × YY17 → Option (Bool) := fun (b_0, d_1, x_2) =>
 (ul7_ (b_0, (d_1.1, (d_1.2.1, (d_1.2.2.1, ([] : List Str)))))).bind fun r1 =>
 bif (!(eqI r1.2 (0 : Int))) then
  (ub1d_ ()).bind fun r2 =>
  some r2
 else
  (uuu_ (r1.1, b_0.1)).bind fun r3 =>
  bif (!(eqI r3.2 (0 : Int))) then
   some false
  else
   (ul7_ (b_0, r3.1)).bind fun r4 =>
   (bif (!(!(eqI r4.2 (0 : Int)))) then ubiz_ (r4.1, r1.1) else some false).bind fun r5 =>
   bif ((!(eqI r4.2 (0 : Int))) || (!r5)) then
    some false
   else
    (ul7_ (r1.1, (r1.1.1, (x_2.2.1, (x_2.2.2.1, ([] : List Str)))))).bind fun r6 =>
    bif (!(eqI r6.2 (0 : Int))) then
     (ub1d_ ()).bind fun r7 =>
     some r7
    else
     (uuu_ (r6.1, b_0.1)).bind fun r8 =>
     (ul7_ (b_0, r8.1)).bind fun r9 =>
     let v10 := (((eqI r8.2 (0 : Int)) && (eqI r9.2 (0 : Int))) && (eqI r9.1.1 r6.1.1))
     (bif v10 then ubg_ (r9.1.2.1, r6.1.2.1, (fun x => (ubst_ x).bind fun r => some r)) else some false).bind fun r11 =>
     (bif (v10 && r11) then ub1d_ () else some false).bind fun r12 =>
     some ((v10 && r11) && r12)
end Go.Ev.Pv
