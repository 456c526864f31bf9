/-
  The program's functions as plain Lean functions (printed by a program of the author's from the translation).
-/
import Derived.Test.YthepbdhoogphdaaGreatDoorE3
import Derived.Lib.AtoiAll
import Derived.Lib.ItoaNum
import Derived.Lib.Strings
import Derived.Lib.Join
import Derived.Lib.Split
import Derived.Lib.Repeat
import Derived.Lib.FieldsP
import Derived.Lib.MapU
import Derived.Lib.LastIndexByte
import Derived.Lib.Bytealg
import Derived.Lib.IndexMore
import Derived.Lib.CountLaws
import Derived.Lib.BitFns
import Derived.Sort.Defs
set_option linter.unusedVariables false
set_option linter.unusedSimpArgs false
set_option linter.unusedSectionVars false
set_option maxRecDepth 100000
namespace Go.Ev.Pv
def fuel : Nat := 18446744073709551616
end Go.Ev.Pv
namespace Go.Ev.Pv
def str? (s : Str) : Option Str := bif decide (s.length ≤ 281474976710656) then some s else none
theorem str?_some {s r : Str} (h : str? s = some r) : r = s ∧ s.length ≤ 281474976710656 := by
 unfold str? at h
 cases hd : decide (s.length ≤ 281474976710656) with
 | false => rw [hd] at h; cases h
 | true => rw [hd] at h; cases h; exact ⟨rfl, of_decide_eq_true hd⟩
def ifB {α : Type} (c : Prop) [Decidable c] (x : Option α) : Option α := bif decide c then x else none
theorem u56_ {α : Type} {c : Prop} {_ : Decidable c} {x : Option α} {r : α} (h : ifB c x = some r) : c ∧ x = some r := by
 unfold ifB at h
 cases hd : decide c with
 | false => rw [hd] at h; cases h
 | true => rw [hd] at h; exact ⟨of_decide_eq_true hd, h⟩
def decS : Nat → Nat → Str
 | 0, _ => []
 | k + 1, u => if u < 10 then [UInt8.ofNat (48 + u)] else decS k (u / 10) ++ [UInt8.ofNat (48 + u % 10)]
theorem ub85_ : ∀ (k u : Nat), u < 10 ^ k → 1 ≤ k → decS k u = Lib.decDigits u := by
 intro k
 induction k with
 | zero => intro u _ h; omega
 | succ k ih =>
   intro u hu _
   rw [Lib.decDigits]
   simp only [decS]
   by_cases h : u < 10
   · rw [if_pos h, dif_pos h]
   · rw [if_neg h, dif_neg h]
     have hk : 1 ≤ k := by
      rcases k with _ | k
      · simp at hu; omega
      · omega
     rw [ih (u / 10) (by rw [Nat.pow_succ] at hu; omega) hk]
def itoaS (n : Int) : Str := if n < 0 then 45 :: decS 20 n.natAbs else decS 20 n.toNat
theorem ucac_ {n : Int} (h0 : -9223372036854775808 ≤ n) (h1 : n ≤ 9223372036854775807) : itoaS n = Lib.itoa n := by
 unfold itoaS Lib.itoa
 rw [ub85_ 20 n.natAbs (by omega) (by decide), ub85_ 20 n.toNat (by omega) (by decide)]
theorem ub6f_ : ∀ (k u : Nat), (decS k u).length ≤ k := by
 intro k
 induction k with
 | zero => intro u; exact Nat.le_refl _
 | succ k ih =>
   intro u
   simp only [decS]
   split
   · simp
   · have := ih (u / 10); simp only [List.length_append, List.length_cons, List.length_nil]; omega
theorem ub3n_ (n : Int) : (itoaS n).length ≤ 21 := by
 unfold itoaS
 split
 · have := ub6f_ 20 n.natAbs; simp only [List.length_cons]; omega
 · have := ub6f_ 20 n.toNat; omega
def strings_Join : (List (List UInt8)) × (List UInt8) → Option (List UInt8) := fun x => ifB (x.1.length ≤ 140737488355328 ∧ (Lib.join x.1 x.2).length ≤ 140737488355328) (some (Lib.join x.1 x.2))
def uq0_ : List UInt8 → Option (List UInt8) := fun s => ifB (s.length < 35184372088832) (str? (Lib.toLowerD s))
def strconv_Itoa : Int → Option (List UInt8) := fun n => some (itoaS n)
def strings_IndexByte : (List UInt8) × Int → Option (Int) := fun x => ifB (x.1.length < 4611686018427387904) (some (Lib.indexByte x.1 x.2.toNat.toUInt8))
def strings_LastIndexByte : (List UInt8) × Int → Option (Int) := fun x => ifB (x.1.length < 4611686018427387904) (some (Lib.lastIndexByte ⟨x.1.toArray⟩ x.2))
def strings_Cut : (List UInt8) × (List UInt8) → Option ((List UInt8) × (List UInt8) × Bool) := fun x => ifB (x.1.length < 4294967281) (some (Lib.cut x.1 x.2))
def strings_Repeat : (List UInt8) × Int → Option (List UInt8) := fun x => ifB (0 ≤ x.2 ∧ x.1.length * x.2.toNat ≤ 140737488355328) (some (Lib.repeatL x.1 x.2.toNat))
def strings_Split : (List UInt8) × (List UInt8) → Option (List (List UInt8)) := fun x =>
 ifB (x.1.length < 4294967281 ∧ 1 ≤ x.2.length) (some ((Lib.splitB ⟨x.2.toArray⟩ 0 (Lib.countB ⟨x.1.toArray⟩ ⟨x.2.toArray⟩) ⟨x.1.toArray⟩).map fun b => b.data.toList))
def u9p_ : List UInt8 → Option (Int × Unit) := fun s => ifB (s.length ≤ 281474976710656) (match Lib.atoiAll s with
 | .ok v => some (v, ())
 | .range => some (Lib.atoiSat s, ())
 | _ => some (0, ()))
noncomputable def uhr_ : (List UInt8) × (Int → Option Bool) → Option (List (List UInt8)) := fun x =>
 @ifB _ (x.1.length ≤ 4294967296 ∧ (∀ r : Nat, r ≤ 1114111 → ∃ b, x.2 (r : Int) = some b) ∧ (Lib.goFieldsP (fun r => (x.2 (r : Int)).getD false) ⟨x.1.toArray⟩).length ≤ 281474976710656) (Classical.propDecidable _) (some ((Lib.goFieldsP (fun r => (x.2 (r : Int)).getD false) ⟨x.1.toArray⟩).map fun b => b.data.toList))
def strings_HasPrefix : (List UInt8) × (List UInt8) → Option (Bool) := fun x => some (Lib.hasPrefix x.1 x.2)
def strings_TrimPrefix : (List UInt8) × (List UInt8) → Option (List UInt8) := fun x => some (Lib.trimPrefix x.1 x.2)
def strings_CutPrefix : (List UInt8) × (List UInt8) → Option ((List UInt8) × Bool) := fun x => some (Lib.trimPrefix x.1 x.2, Lib.hasPrefix x.1 x.2)
def ugv_ : List Int → Option (List Int) := fun xs => some xs
def ub2_ : List Int → Option (List UInt8) := fun xs => some (strOf xs)
section
variable {T : Type}
def cfAt (xs : List T) (F : T × T → Option Int) (i j : Fin xs.length) : Int := (F (xs.get i, xs.get j)).getD 0
def ltAt (xs : List T) (F : T × T → Option Int) (i j : Fin xs.length) : Bool := decide (cfAt xs F i j < 0)
def ubug_ (xs : List T) (F : T × T → Option Int) : Prop :=
 (∀ i j : Fin xs.length, (F (xs.get i, xs.get j)).isSome = true) ∧ (∀ i : Fin xs.length, ltAt xs F i i = false) ∧
 (∀ i j k : Fin xs.length, ltAt xs F i j = true → ltAt xs F j k = true → ltAt xs F i k = true) ∧ (∀ i j k : Fin xs.length, ltAt xs F i j = false → ltAt xs F j k = false → ltAt xs F i k = false)
instance {xs : List T} {F : T × T → Option Int} : Decidable (ubug_ xs F) := by unfold ubug_; infer_instance
def insS {α : Type} [Inhabited α] (lt : α → α → Bool) : Nat → Nat → Array α → Array α
 | 0, _, d => d
 | n + 1, i, d => insS lt n (i + 1) (Sort.insInner lt 0 i d)
theorem ucbi_ {α : Type} [Inhabited α] (lt : α → α → Bool) : ∀ (n i : Nat) (d : Array α), Sort.insOuter lt 0 (i + n) i d = insS lt n i d := by
 intro n
 induction n with
 | zero => intro i d; rw [Sort.insOuter, if_neg (by omega)]; rfl
 | succ n ih => intro i d; rw [Sort.insOuter, if_pos (by omega), show i + (n + 1) = (i + 1) + n by omega, ih]; rfl
def ubk0_ (xs : List T) (F : T × T → Option Int) (h : 0 < xs.length) : Array (Fin xs.length) :=
 haveI : Inhabited (Fin xs.length) := ⟨⟨0, h⟩⟩
 if xs.length ≤ 12 then insS (ltAt xs F) (xs.length - 1) 1 (Array.ofFn id) else Sort.pdq (ltAt xs F) (Array.ofFn id) 0 xs.length (Lib.bitLen xs.length) true true
theorem ub77_ {α : Type} [Inhabited α] (lt : α → α → Bool) (d : Array α) (n lim : Nat) (h : 0 < n) (h12 : n ≤ 12) : Sort.pdq lt d 0 n lim true true = insS lt (n - 1) 1 d := by
 rw [Sort.pdq, if_pos (by omega), Sort.insertionSort]
 have := ucbi_ lt (n - 1) 1 d
 rw [show 1 + (n - 1) = n by omega] at this
 exact this
theorem ub3o_ (xs : List T) (F : T × T → Option Int) (h : 0 < xs.length) :
 ubk0_ xs F h = @Sort.pdq _ ⟨⟨0, h⟩⟩ (ltAt xs F) (Array.ofFn id) 0 xs.length (Lib.bitLen xs.length) true true := by
 unfold ubk0_
 split
 · rename_i h12
   exact (@ub77_ _ ⟨⟨0, h⟩⟩ (ltAt xs F) (Array.ofFn id) xs.length _ h h12).symm
 · rfl
def ub0l_ (xs : List T) (F : T × T → Option Int) : Option (List T) :=
 if h : 0 < xs.length then ifB (ubug_ xs F) (some ((ubk0_ xs F h).toList.map xs.get)) else some []
end
def ugm_ : (List ((Int × (List UInt8) × Bool × (List UInt8)) × (Int × (List UInt8) × Bool × (List UInt8)))) × ((((Int × (List UInt8) × Bool × (List UInt8)) × (Int × (List UInt8) × Bool × (List UInt8))) × ((Int × (List UInt8) × Bool × (List UInt8)) × (Int × (List UInt8) × Bool × (List UInt8)))) → Option Int) → Option (List ((Int × (List UInt8) × Bool × (List UInt8)) × (Int × (List UInt8) × Bool × (List UInt8)))) := fun v => ub0l_ v.1 v.2
def uoc_ : (List ((List UInt8) × (List (List UInt8)) × (List UInt8) × Int × Bool × (List UInt8) × (List ((List UInt8) × Int × (List (Int × (List UInt8))) × (List (List UInt8)) × (List (List UInt8)))))) × ((((List UInt8) × (List (List UInt8)) × (List UInt8) × Int × Bool × (List UInt8) × (List ((List UInt8) × Int × (List (Int × (List UInt8))) × (List (List UInt8)) × (List (List UInt8))))) × ((List UInt8) × (List (List UInt8)) × (List UInt8) × Int × Bool × (List UInt8) × (List ((List UInt8) × Int × (List (Int × (List UInt8))) × (List (List UInt8)) × (List (List UInt8)))))) → Option Int) → Option (List ((List UInt8) × (List (List UInt8)) × (List UInt8) × Int × Bool × (List UInt8) × (List ((List UInt8) × Int × (List (Int × (List UInt8))) × (List (List UInt8)) × (List (List UInt8)))))) := fun v => ub0l_ v.1 v.2
end Go.Ev.Pv
namespace Go.Ev.Pv
abbrev YY23 := ((List Int) × (List Str))
abbrev YY29 := (Int × Str × Str × Bool)
abbrev YY9 := (Int × (List Int) × Int × Int × Int × Int × (List Str))
abbrev YY16 := (Bool × Str × Int)
abbrev YY1 := (Sum YY23 (Sum YY29 (Sum YY9 (Sum (List YY16) (Sum Int Unit)))))
abbrev YY2 := (Int × Str × Str × Int)
abbrev YY19 := (List (Int × Str))
abbrev YY3 := (Str × Int × YY19 × (List Str) × (List Str))
abbrev YY22 := (Bool × Bool × Str)
abbrev YY4 := (YY22 × YY22)
abbrev YY27 := (Int × Str × Bool × Str)
abbrev YY5 := (YY27 × YY27)
abbrev YY6 := (List (Str × Str))
abbrev YY7 := (Str × (List Str) × Str × Int × Bool × Str × (List YY3))
abbrev YY8 := (((Str × Str) × (Str × Str)) → Option Int)
abbrev YY10 := (Str × Int × Int)
abbrev YY11 := ((YY2 × YY2) → Option Int)
abbrev YY12 := (Str × (Str × (Str × (Str × (YY6 × Str)))))
abbrev YY13 := (Int × (List YY4))
abbrev YY14 := ((Str × Str) × (Str × Str) → Option Int)
abbrev YY15 := (Str × Str × Str × Str × YY6 × Str)
abbrev YY17 := (YY2 × YY2 → Option Int)
abbrev YY18 := (Sum (Unit) (Int))
abbrev YY20 := (Int × ((List YY7) × (List Int)))
abbrev YY21 := (Sum (Unit) (Bool))
abbrev YY24 := (Str × Int × Bool × Bool × Int)
abbrev YY25 := ((List Str) × Bool)
abbrev YY26 := (Int × (List YY7) × (List Int))
abbrev YY28 := ((List YY2) × Int)
abbrev YY30 := (Int → Option Bool)
abbrev YY31 := (List (List (Int × Int)))
noncomputable def ubrq_ (next : (List Int) × Int × Int → Option (List Int)) : (List Int) × Int × Int → Option (List Int) := fun (b_3, t9, t10) =>
 bif (decide (t10 < t9)) then
  (in? b_3.length t10).bind fun _ =>
  bif ((decide ((65 : Int) ≤ (b_3.getD t10.toNat (0 : Int)))) && (decide ((b_3.getD t10.toNat (0 : Int)) ≤ (90 : Int)))) then
   (in? b_3.length t10).bind fun _ =>
   next ((b_3.set t10.toNat (IntKind.u8.wrap ((IntKind.u8.wrap ((b_3.getD t10.toNat (0 : Int)) + (97 : Int))) - (65 : Int)))), t9, (IntKind.i64.wrap (t10 + (1 : Int))))
  else
   next (b_3, t9, (IntKind.i64.wrap (t10 + (1 : Int))))
 else
  some b_3
noncomputable def ubev_ : (List Int) × Int × Int → Option (List Int) := loopN ubrq_ fuel
noncomputable def u1d_ : Str → Option Str := fun s_0 =>
 (ubev_ ((uet_ s_0), ((uet_ s_0).length : Int), (0 : Int))).bind fun r3 =>
 (cat? [] (strOf r3)).bind fun s4 =>
 some s4
noncomputable def ue9_ : YY10 × Int → Option YY10 := fun (r_0, at_1) =>
 bif (decide (r_0.2.2 < (0 : Int))) then
  some (r_0.1, (r_0.2.1, at_1))
 else
  some r_0
noncomputable def uee_ : Option YY10 → Option (Int) := fun r_0 =>
 (r_0).bind fun p1 =>
 (r_0).bind fun p2 =>
 bif (decide (p1.2.1 < (p2.1.length : Int))) then
  (r_0).bind fun p3 =>
  (r_0).bind fun p4 =>
  (at? p3.1 p4.2.1).bind fun b5 =>
  some (b5.toNat : Int)
 else
  some (0 : Int)
noncomputable def uxs_ : Int → Option (Bool) := fun c_0 =>
 some (((decide ((97 : Int) ≤ c_0)) && (decide (c_0 ≤ (122 : Int)))) || ((decide ((65 : Int) ≤ c_0)) && (decide (c_0 ≤ (90 : Int)))))
noncomputable def u4n_ (next : YY10 × Int → Option (Sum YY10 (YY10 × Str))) : YY10 × Int → Option (Sum YY10 (YY10 × Str)) := fun (r_0, t7) =>
 bif (decide (t7 < (4 : Int))) then
  (bif (!(decide ((r_0.1.length : Int) ≤ t7))) then cut? r_0.1 t7 (IntKind.i64.wrap (t7 + (1 : Int))) else some ([] : Str)).bind fun s1 =>
  (bif (!(decide ((r_0.1.length : Int) ≤ t7))) then u1d_ s1 else some ([] : Str)).bind fun r2 =>
  (bif (!(decide ((r_0.1.length : Int) ≤ t7))) then cut? ([112, 107, 103, 58] : Str) t7 (IntKind.i64.wrap (t7 + (1 : Int))) else some ([] : Str)).bind fun s3 =>
  bif ((decide ((r_0.1.length : Int) ≤ t7)) || (!(eqS r2 s3))) then
   (ue9_ (r_0, t7)).bind fun r4 =>
   some (.inr (r4, ([] : Str)))
  else
   next (r_0, (IntKind.i64.wrap (t7 + (1 : Int))))
 else
  some (.inl r_0)
noncomputable def utn_ : YY10 × Int → Option (Sum YY10 (YY10 × Str)) := loopN u4n_ fuel
noncomputable def u4o_ (next : Str × Int × Int → Option YY10) : Str × Int × Int → Option YY10 := fun r_0 =>
 (bif (decide (r_0.2.1 < (r_0.1.length : Int))) then at? r_0.1 r_0.2.1 else some 0).bind fun b8 =>
 (bif (decide (r_0.2.1 < (r_0.1.length : Int))) then uxs_ (b8.toNat : Int) else some false).bind fun r9 =>
 bif ((decide (r_0.2.1 < (r_0.1.length : Int))) && r9) then
  next (r_0.1, ((IntKind.i64.wrap (r_0.2.1 + (1 : Int))), r_0.2.2))
 else
  some r_0
noncomputable def uto_ : Str × Int × Int → Option YY10 := loopN u4o_ fuel
noncomputable def unr_ : YY10 × Bool → Option YY10 := fun (r_0, t45) =>
 bif t45 then
  some (r_0.1, ((IntKind.i64.wrap (r_0.2.1 + (1 : Int))), r_0.2.2))
 else
  (uto_ r_0).bind fun r10 =>
  some r10
noncomputable def utp_ : YY10 × Bool → Option (Str × YY10) := fun (r_0, star_1) =>
 (utn_ (r_0, (0 : Int))).bind fun r5 =>
 match r5 with
 | .inl y6 =>
   (bif star_1 then uee_ (some (y6.1, ((4 : Int), y6.2.2))) else some (0 : Int)).bind fun r7 =>
   (unr_ ((y6.1, ((4 : Int), y6.2.2)), (star_1 && (eqI r7 (42 : Int))))).bind fun r11 =>
   (cut? r11.1 (4 : Int) r11.2.1).bind fun s12 =>
   (bif (!(eqS s12 ([] : Str))) then uee_ (some r11) else some (0 : Int)).bind fun r13 =>
   bif ((eqS s12 ([] : Str)) || (!(eqI r13 (47 : Int)))) then
    (ue9_ (r11, r11.2.1)).bind fun r14 =>
    some (([] : Str), r14)
   else
    (u1d_ s12).bind fun r15 =>
    some (r15, (r11.1, ((IntKind.i64.wrap (r11.2.1 + (1 : Int))), r11.2.2)))
 | .inr y6' =>
   some (y6'.2, y6'.1)
noncomputable def ubyt_ : Int → Option (Int) := fun c_0 =>
 bif ((decide ((48 : Int) ≤ c_0)) && (decide (c_0 ≤ (57 : Int)))) then
  some (IntKind.i64.wrap (IntKind.u8.wrap (c_0 - (48 : Int))))
 else
  bif ((decide ((97 : Int) ≤ c_0)) && (decide (c_0 ≤ (102 : Int)))) then
   some (IntKind.i64.wrap ((IntKind.i64.wrap (IntKind.u8.wrap (c_0 - (97 : Int)))) + (10 : Int)))
  else
   bif ((decide ((65 : Int) ≤ c_0)) && (decide (c_0 ≤ (70 : Int)))) then
    some (IntKind.i64.wrap ((IntKind.i64.wrap (IntKind.u8.wrap (c_0 - (65 : Int)))) + (10 : Int)))
   else
    some (-1 : Int)
noncomputable def ull_ : YY10 × Int × Int × Bool → Option (YY10 × Int) := fun (r_0, i_6, d_7, t63) =>
 bif t63 then
  (at? r_0.1 (IntKind.i64.wrap (r_0.2.1 + i_6))).bind fun b5 =>
  (ubyt_ (b5.toNat : Int)).bind fun r6 =>
  some (r_0, r6)
 else
  some (r_0, d_7)
noncomputable def u1e_ (next : YY10 × Int × Int → Option (Sum (YY10 × Int) (YY10 × Int × Bool))) : YY10 × Int × Int → Option (Sum (YY10 × Int) (YY10 × Int × Bool)) := fun (r_0, n_5, i_6) =>
 bif (decide (i_6 ≤ (2 : Int))) then
  (ull_ (r_0, i_6, (-1 : Int), (decide ((IntKind.i64.wrap (r_0.2.1 + i_6)) < (r_0.1.length : Int))))).bind fun r7 =>
  bif (decide (r7.2 < (0 : Int))) then
   (ue9_ (r7.1, (IntKind.i64.wrap (r7.1.2.1 + i_6)))).bind fun r8 =>
   some (.inr (r8, (0 : Int), false))
  else
   next (r7.1, (IntKind.i64.wrap ((IntKind.i64.wrap ((16 : Int) * n_5)) + r7.2)), (IntKind.i64.wrap (i_6 + (1 : Int))))
 else
  some (.inl (r_0, n_5))
noncomputable def ur1_ : YY10 × Int × Int → Option (Sum (YY10 × Int) (YY10 × Int × Bool)) := loopN u1e_ fuel
noncomputable def urm_ : Str × Int × Int → Option (Int × Bool × YY10) := fun r_0 =>
 bif (decide ((r_0.1.length : Int) ≤ r_0.2.1)) then
  some ((0 : Int), false, r_0)
 else
  (at? r_0.1 r_0.2.1).bind fun b1 =>
  bif (!(eqI (b1.toNat : Int) (37 : Int))) then
   let v2 := ((decide ((b1.toNat : Int) < (33 : Int))) || (decide ((126 : Int) < (b1.toNat : Int))))
   (bif (!v2) then strings_IndexByte (([47, 64, 63, 35, 38, 61] : Str), (b1.toNat : Int)) else some (0 : Int)).bind fun r3 =>
   bif (v2 || (decide ((0 : Int) ≤ r3))) then
    some ((0 : Int), false, r_0)
   else
    some ((b1.toNat : Int), true, (r_0.1, ((IntKind.i64.wrap (r_0.2.1 + (1 : Int))), r_0.2.2)))
  else
   (ur1_ (r_0, (0 : Int), (1 : Int))).bind fun r10 =>
   match r10 with
   | .inl y11 =>
     some ((IntKind.u8.wrap y11.2), true, (y11.1.1, ((IntKind.i64.wrap (y11.1.2.1 + (3 : Int))), y11.1.2.2)))
   | .inr y11' =>
     some (y11'.2.1, y11'.2.2, y11'.1)
noncomputable def u4p_ (next : YY10 × (List Int) → Option (YY10 × (List Int))) : YY10 × (List Int) → Option (YY10 × (List Int)) := fun (r_0, b_3) =>
 bif (decide (r_0.2.2 < (0 : Int))) then
  (urm_ r_0).bind fun r1 =>
  bif (!r1.2.1) then
   some (r1.2.2, b_3)
  else
   (app? 24 b_3 ([r1.1] : List Int)).bind fun l2 =>
   next (r1.2.2, l2)
 else
  some (r_0, b_3)
noncomputable def utq_ : YY10 × (List Int) → Option (YY10 × (List Int)) := loopN u4p_ fuel
noncomputable def uhs_ : Str × Int × Int → Option (Str × YY10) := fun r_0 =>
 (utq_ (r_0, ([] : List Int))).bind fun r3 =>
 bif (eqI (r3.2.length : Int) (0 : Int)) then
  (ue9_ (r3.1, r3.1.2.1)).bind fun r4 =>
  (cat? [] (strOf r3.2)).bind fun s5 =>
  some (s5, r4)
 else
  (cat? [] (strOf r3.2)).bind fun s6 =>
  some (s6, r3.1)
noncomputable def u1f_ (next : YY10 × (List Str) → Option (YY10 × (List Str))) : YY10 × (List Str) → Option (YY10 × (List Str)) := fun (r_0, l_3) =>
 (bif (decide (r_0.2.2 < (0 : Int))) then uee_ (some r_0) else some (0 : Int)).bind fun r2 =>
 bif ((decide (r_0.2.2 < (0 : Int))) && (eqI r2 (47 : Int))) then
  (uhs_ (r_0.1, ((IntKind.i64.wrap (r_0.2.1 + (1 : Int))), r_0.2.2))).bind fun r3 =>
  (app? 24 l_3 ([r3.1] : List Str)).bind fun l4 =>
  next (r3.2, l4)
 else
  some (r_0, l_3)
noncomputable def ur2_ : YY10 × (List Str) → Option (YY10 × (List Str)) := loopN u1f_ fuel
noncomputable def uml_ : Str × Int × Int → Option ((List Str) × YY10) := fun r_0 =>
 (uhs_ r_0).bind fun r1 =>
 (ur2_ (r1.2, ([r1.1] : List Str))).bind fun r5 =>
 some (r5.2, r5.1)
noncomputable def uxt_ : Int × Bool → Option (Bool) := fun (c_0, first_1) =>
 bif ((decide ((97 : Int) ≤ c_0)) && (decide (c_0 ≤ (122 : Int)))) then
  some true
 else
  some ((!first_1) && (((((decide ((48 : Int) ≤ c_0)) && (decide (c_0 ≤ (57 : Int)))) || (eqI c_0 (46 : Int))) || (eqI c_0 (45 : Int))) || (eqI c_0 (95 : Int))))
noncomputable def utr_ (next : YY10 × Int → Option YY10) : YY10 × Int → Option YY10 := fun (r_0, from_3) =>
 (bif (decide (r_0.2.1 < (r_0.1.length : Int))) then at? r_0.1 r_0.2.1 else some 0).bind fun b1 =>
 (bif (decide (r_0.2.1 < (r_0.1.length : Int))) then uxt_ ((b1.toNat : Int), (eqI r_0.2.1 from_3)) else some false).bind fun r2 =>
 bif ((decide (r_0.2.1 < (r_0.1.length : Int))) && r2) then
  next ((r_0.1, ((IntKind.i64.wrap (r_0.2.1 + (1 : Int))), r_0.2.2)), from_3)
 else
  some r_0
noncomputable def ulm_ : YY10 × Int → Option YY10 := loopN utr_ fuel
noncomputable def ujv_ : Str × Int × Int → Option ((Str × Str) × YY10) := fun r_0 =>
 (ulm_ (r_0, r_0.2.1)).bind fun r3 =>
 (cut? r3.1 r_0.2.1 r3.2.1).bind fun s4 =>
 (bif (!(eqS s4 ([] : Str))) then uee_ (some r3) else some (0 : Int)).bind fun r5 =>
 bif ((eqS s4 ([] : Str)) || (!(eqI r5 (61 : Int)))) then
  (ue9_ (r3, r3.2.1)).bind fun r6 =>
  some ((([] : Str), ([] : Str)), r6)
 else
  (uhs_ (r3.1, ((IntKind.i64.wrap (r3.2.1 + (1 : Int))), r3.2.2))).bind fun r7 =>
  some ((s4, r7.1), r7.2)
noncomputable def uns_ : YY10 × YY12 × Bool → Option (YY10 × YY12) := fun (r_0, p_3, t40) =>
 bif t40 then
  (uhs_ (r_0.1, ((IntKind.i64.wrap (r_0.2.1 + (1 : Int))), r_0.2.2))).bind fun r7 =>
  some (r7.2, (p_3.1, (p_3.2.1, (p_3.2.2.1, (r7.1, (p_3.2.2.2.2.1, p_3.2.2.2.2.2))))))
 else
  some (r_0, (p_3.1, (p_3.2.1, (p_3.2.2.1, (p_3.2.2.2.1, (p_3.2.2.2.2.1, p_3.2.2.2.2.2))))))
noncomputable def u4q_ (next : YY10 × YY12 × Int → Option (YY10 × YY12)) : YY10 × YY12 × Int → Option (YY10 × YY12) := fun (r_0, p_3, sign_5) =>
 let v9 := ((decide (r_0.2.2 < (0 : Int))) && (decide (r_0.2.1 < (r_0.1.length : Int))))
 (bif v9 then uee_ (some r_0) else some (0 : Int)).bind fun r10 =>
 bif (v9 && (eqI r10 sign_5)) then
  (ujv_ (r_0.1, ((IntKind.i64.wrap (r_0.2.1 + (1 : Int))), r_0.2.2))).bind fun r11 =>
  (app? 48 p_3.2.2.2.2.1 ([r11.1] : List (Str × Str))).bind fun l12 =>
  next (r11.2, (p_3.1, (p_3.2.1, (p_3.2.2.1, (p_3.2.2.2.1, (l12, p_3.2.2.2.2.2))))), (38 : Int))
 else
  some (r_0, (p_3.1, (p_3.2.1, (p_3.2.2.1, (p_3.2.2.2.1, (p_3.2.2.2.2.1, p_3.2.2.2.2.2))))))
noncomputable def uts_ : YY10 × YY12 × Int → Option (YY10 × YY12) := loopN u4q_ fuel
noncomputable def unt_ : YY10 × YY12 × Bool → Option (YY10 × YY12) := fun (r_0, p_3, t97) =>
 bif t97 then
  (uml_ (r_0.1, ((IntKind.i64.wrap (r_0.2.1 + (1 : Int))), r_0.2.2))).bind fun r15 =>
  (strings_Join (r15.1, ([47] : Str))).bind fun r16 =>
  some (r15.2, (p_3.1, (p_3.2.1, (p_3.2.2.1, (p_3.2.2.2.1, (p_3.2.2.2.2.1, r16))))))
 else
  some (r_0, (p_3.1, (p_3.2.1, (p_3.2.2.1, (p_3.2.2.2.1, (p_3.2.2.2.2.1, p_3.2.2.2.2.2))))))
noncomputable def utt_ : Str × Int × Int → Option (YY12 × YY10) := fun r_0 =>
 (utp_ (r_0, false)).bind fun r1 =>
 bif (decide ((0 : Int) ≤ r1.2.2.2)) then
  some ((r1.1, (([] : Str), (([] : Str), (([] : Str), (([] : List (Str × Str)), ([] : Str)))))), r1.2)
 else
  (uml_ r1.2).bind fun r2 =>
  (cut? r2.1 (0 : Int) (IntKind.i64.wrap ((r2.1.length : Int) - (1 : Int)))).bind fun s3 =>
  (strings_Join (s3, ([47] : Str))).bind fun r4 =>
  (at? r2.1 (IntKind.i64.wrap ((r2.1.length : Int) - (1 : Int)))).bind fun y5 =>
  (bif (decide (r2.2.2.2 < (0 : Int))) then uee_ (some r2.2) else some (0 : Int)).bind fun r6 =>
  (uns_ (r2.2, (r1.1, (r4, (y5, (([] : Str), (([] : List (Str × Str)), ([] : Str)))))), ((decide (r2.2.2.2 < (0 : Int))) && (eqI r6 (64 : Int))))).bind fun r8 =>
  (uts_ (r8.1, (r8.2.1, (r8.2.2.1, (r8.2.2.2.1, (r8.2.2.2.2.1, (r8.2.2.2.2.2.1, r8.2.2.2.2.2.2))))), (63 : Int))).bind fun r13 =>
  (bif (decide (r13.1.2.2 < (0 : Int))) then uee_ (some r13.1) else some (0 : Int)).bind fun r14 =>
  (unt_ (r13.1, (r13.2.1, (r13.2.2.1, (r13.2.2.2.1, (r13.2.2.2.2.1, (r13.2.2.2.2.2.1, r13.2.2.2.2.2.2))))), ((decide (r13.1.2.2 < (0 : Int))) && (eqI r14 (35 : Int))))).bind fun r17 =>
  bif ((decide (r17.1.2.2 < (0 : Int))) && (decide (r17.1.2.1 < (r17.1.1.length : Int)))) then
   (ue9_ (r17.1, r17.1.2.1)).bind fun r19 =>
   some ((r17.2.1, (r17.2.2.1, (r17.2.2.2.1, (r17.2.2.2.2.1, (r17.2.2.2.2.2.1, r17.2.2.2.2.2.2))))), r19)
  else
   some ((r17.2.1, (r17.2.2.1, (r17.2.2.2.1, (r17.2.2.2.2.1, (r17.2.2.2.2.2.1, r17.2.2.2.2.2.2))))), r17.1)
noncomputable def ugw_ (next : YY6 × Int × YY8 × Int → Option YY6) : YY6 × Int × YY8 × Int → Option YY6 := fun (data_0, a_1, cmp_3, j_9) =>
 (bif (decide (a_1 < j_9)) then in? data_0.length j_9 else some ()).bind fun _ =>
 (bif (decide (a_1 < j_9)) then in? data_0.length (IntKind.i64.wrap (j_9 - (1 : Int))) else some ()).bind fun _ =>
 (bif (decide (a_1 < j_9)) then cmp_3 ((data_0.getD j_9.toNat (([] : Str), ([] : Str))), (data_0.getD ((IntKind.i64.wrap (j_9 - (1 : Int))).toNat) (([] : Str), ([] : Str)))) else some (0 : Int)).bind fun r3 =>
 bif ((decide (a_1 < j_9)) && (decide (r3 < (0 : Int)))) then
  (in? data_0.length (IntKind.i64.wrap (j_9 - (1 : Int)))).bind fun _ =>
  let v4 := (data_0.getD ((IntKind.i64.wrap (j_9 - (1 : Int))).toNat) (([] : Str), ([] : Str)))
  (in? data_0.length j_9).bind fun _ =>
  (in? data_0.length j_9).bind fun _ =>
  (in? (data_0.set j_9.toNat v4).length (IntKind.i64.wrap (j_9 - (1 : Int)))).bind fun _ =>
  next (((data_0.set j_9.toNat v4).set ((IntKind.i64.wrap (j_9 - (1 : Int))).toNat) (data_0.getD j_9.toNat (([] : Str), ([] : Str)))), a_1, cmp_3, (IntKind.i64.wrap (j_9 - (1 : Int))))
 else
  some data_0
noncomputable def ud3_ : YY6 × Int × YY8 × Int → Option YY6 := loopN ugw_ fuel
noncomputable def ugx_ (next : YY6 × Int × Int × YY8 × Int → Option YY6) : YY6 × Int × Int × YY8 × Int → Option YY6 := fun (data_0, a_1, b_2, cmp_3, i_8) =>
 bif (decide (i_8 < b_2)) then
  (ud3_ (data_0, a_1, cmp_3, i_8)).bind fun r7 =>
  next (r7, a_1, b_2, cmp_3, (IntKind.i64.wrap (i_8 + (1 : Int))))
 else
  some data_0
noncomputable def ud4_ : YY6 × Int × Int × YY8 × Int → Option YY6 := loopN ugx_ fuel
noncomputable def ubo_ : YY6 × Int × Int × YY8 → Option YY6 := fun (data_0, a_1, b_2, cmp_3) =>
 (ud4_ (data_0, a_1, b_2, cmp_3, (IntKind.i64.wrap (a_1 + (1 : Int))))).bind fun r8 =>
 some r8
noncomputable def uie_ (next : YY6 × Int × Int × Int × Int → Option YY6) : YY6 × Int × Int × Int × Int → Option YY6 := fun (data_0, a_1, b_2, n_3, i_10) =>
 bif (decide (i_10 < n_3)) then
  (in? data_0.length (IntKind.i64.wrap (b_2 + i_10))).bind fun _ =>
  let v1 := (data_0.getD ((IntKind.i64.wrap (b_2 + i_10)).toNat) (([] : Str), ([] : Str)))
  (in? data_0.length (IntKind.i64.wrap (a_1 + i_10))).bind fun _ =>
  (in? data_0.length (IntKind.i64.wrap (a_1 + i_10))).bind fun _ =>
  (in? (data_0.set ((IntKind.i64.wrap (a_1 + i_10)).toNat) v1).length (IntKind.i64.wrap (b_2 + i_10))).bind fun _ =>
  next (((data_0.set ((IntKind.i64.wrap (a_1 + i_10)).toNat) v1).set ((IntKind.i64.wrap (b_2 + i_10)).toNat) (data_0.getD ((IntKind.i64.wrap (a_1 + i_10)).toNat) (([] : Str), ([] : Str)))), a_1, b_2, n_3, (IntKind.i64.wrap (i_10 + (1 : Int))))
 else
  some data_0
noncomputable def ue2_ : YY6 × Int × Int × Int × Int → Option YY6 := loopN uie_ fuel
noncomputable def ubn_ : YY6 × Int × Int × Int × YY8 → Option YY6 := fun (data_0, a_1, b_2, n_3, cmp_4) =>
 (ue2_ (data_0, a_1, b_2, n_3, (0 : Int))).bind fun r4 =>
 some r4
noncomputable def uka_ (next : YY6 × Int × YY8 × Int × Int → Option (YY6 × Int)) : YY6 × Int × YY8 × Int × Int → Option (YY6 × Int) := fun (data_0, m_2, cmp_4, i_10, j_11) =>
 bif (!(eqI i_10 j_11)) then
  bif (decide (j_11 < i_10)) then
   (ubn_ (data_0, (IntKind.i64.wrap (m_2 - i_10)), m_2, j_11, cmp_4)).bind fun r1 =>
   next (r1, m_2, cmp_4, (IntKind.i64.wrap (i_10 - j_11)), j_11)
  else
   (ubn_ (data_0, (IntKind.i64.wrap (m_2 - i_10)), (IntKind.i64.wrap ((IntKind.i64.wrap (m_2 + j_11)) - i_10)), i_10, cmp_4)).bind fun r2 =>
   next (r2, m_2, cmp_4, i_10, (IntKind.i64.wrap (j_11 - i_10)))
 else
  some (data_0, i_10)
noncomputable def uf2_ : YY6 × Int × YY8 × Int × Int → Option (YY6 × Int) := loopN uka_ fuel
noncomputable def ue0_ : YY6 × Int × Int × Int × YY8 → Option YY6 := fun (data_0, a_1, m_2, b_3, cmp_4) =>
 (uf2_ (data_0, m_2, cmp_4, (IntKind.i64.wrap (m_2 - a_1)), (IntKind.i64.wrap (b_3 - m_2)))).bind fun r3 =>
 (ubn_ (r3.1, (IntKind.i64.wrap (m_2 - r3.2)), m_2, r3.2, cmp_4)).bind fun r4 =>
 some r4
noncomputable def uiv_ (slf : YY6 × Int × Int × Int × YY8 → Option YY6) (next : YY6 × Int × YY8 × Int × Int → Option (YY6 × Int)) : YY6 × Int × YY8 × Int × Int → Option (YY6 × Int) := fun (data_0, a_1, cmp_4, i_10, j_11) =>
 bif (decide (i_10 < j_11)) then
  (shr? IntKind.u64 (IntKind.u64.wrap (IntKind.i64.wrap (i_10 + j_11))) (1 : Int)).bind fun n1 =>
  (in? data_0.length (IntKind.i64.wrap n1)).bind fun _ =>
  (in? data_0.length a_1).bind fun _ =>
  (cmp_4 ((data_0.getD ((IntKind.i64.wrap n1).toNat) (([] : Str), ([] : Str))), (data_0.getD a_1.toNat (([] : Str), ([] : Str))))).bind fun r4 =>
  bif (decide (r4 < (0 : Int))) then
   next (data_0, a_1, cmp_4, (IntKind.i64.wrap ((IntKind.i64.wrap n1) + (1 : Int))), j_11)
  else
   next (data_0, a_1, cmp_4, i_10, (IntKind.i64.wrap n1))
 else
  some (data_0, i_10)
noncomputable def ufa_ (slf : YY6 × Int × Int × Int × YY8 → Option YY6) : YY6 × Int × YY8 × Int × Int → Option (YY6 × Int) := loopN (uiv_ slf) fuel
noncomputable def uiw_ (slf : YY6 × Int × Int × Int × YY8 → Option YY6) (next : YY6 × Int × Int → Option YY6) : YY6 × Int × Int → Option YY6 := fun (data_0, i_10, k_13) =>
 bif (decide (k_13 < (IntKind.i64.wrap (i_10 - (1 : Int))))) then
  (in? data_0.length (IntKind.i64.wrap (k_13 + (1 : Int)))).bind fun _ =>
  let v6 := (data_0.getD ((IntKind.i64.wrap (k_13 + (1 : Int))).toNat) (([] : Str), ([] : Str)))
  (in? data_0.length k_13).bind fun _ =>
  (in? data_0.length k_13).bind fun _ =>
  (in? (data_0.set k_13.toNat v6).length (IntKind.i64.wrap (k_13 + (1 : Int)))).bind fun _ =>
  next (((data_0.set k_13.toNat v6).set ((IntKind.i64.wrap (k_13 + (1 : Int))).toNat) (data_0.getD k_13.toNat (([] : Str), ([] : Str)))), i_10, (IntKind.i64.wrap (k_13 + (1 : Int))))
 else
  some data_0
noncomputable def ufb_ (slf : YY6 × Int × Int × Int × YY8 → Option YY6) : YY6 × Int × Int → Option YY6 := loopN (uiw_ slf) fuel
noncomputable def uix_ (slf : YY6 × Int × Int × Int × YY8 → Option YY6) (next : YY6 × Int × YY8 × Int × Int → Option (YY6 × Int)) : YY6 × Int × YY8 × Int × Int → Option (YY6 × Int) := fun (data_0, m_2, cmp_4, i_14, j_15) =>
 bif (decide (i_14 < j_15)) then
  (shr? IntKind.u64 (IntKind.u64.wrap (IntKind.i64.wrap (i_14 + j_15))) (1 : Int)).bind fun n10 =>
  (in? data_0.length m_2).bind fun _ =>
  (in? data_0.length (IntKind.i64.wrap n10)).bind fun _ =>
  (cmp_4 ((data_0.getD m_2.toNat (([] : Str), ([] : Str))), (data_0.getD ((IntKind.i64.wrap n10).toNat) (([] : Str), ([] : Str))))).bind fun r13 =>
  bif (!(decide (r13 < (0 : Int)))) then
   next (data_0, m_2, cmp_4, (IntKind.i64.wrap ((IntKind.i64.wrap n10) + (1 : Int))), j_15)
  else
   next (data_0, m_2, cmp_4, i_14, (IntKind.i64.wrap n10))
 else
  some (data_0, i_14)
noncomputable def ufc_ (slf : YY6 × Int × Int × Int × YY8 → Option YY6) : YY6 × Int × YY8 × Int × Int → Option (YY6 × Int) := loopN (uix_ slf) fuel
noncomputable def uif_ (slf : YY6 × Int × Int × Int × YY8 → Option YY6) (next : YY6 × Int × Int → Option YY6) : YY6 × Int × Int → Option YY6 := fun (data_0, i_14, k_17) =>
 bif (decide (i_14 < k_17)) then
  (in? data_0.length (IntKind.i64.wrap (k_17 - (1 : Int)))).bind fun _ =>
  let v15 := (data_0.getD ((IntKind.i64.wrap (k_17 - (1 : Int))).toNat) (([] : Str), ([] : Str)))
  (in? data_0.length k_17).bind fun _ =>
  (in? data_0.length k_17).bind fun _ =>
  (in? (data_0.set k_17.toNat v15).length (IntKind.i64.wrap (k_17 - (1 : Int)))).bind fun _ =>
  next (((data_0.set k_17.toNat v15).set ((IntKind.i64.wrap (k_17 - (1 : Int))).toNat) (data_0.getD k_17.toNat (([] : Str), ([] : Str)))), i_14, (IntKind.i64.wrap (k_17 - (1 : Int))))
 else
  some data_0
noncomputable def ue3_ (slf : YY6 × Int × Int × Int × YY8 → Option YY6) : YY6 × Int × Int → Option YY6 := loopN (uif_ slf) fuel
noncomputable def uc3_ (slf : YY6 × Int × Int × Int × YY8 → Option YY6) : Int × Int × Int × Int × Int × Bool → Option (Int × Int) := fun (a_1, m_2, b_3, mid_18, n_19, t140) =>
 bif t140 then
  some ((IntKind.i64.wrap (n_19 - b_3)), mid_18)
 else
  some (a_1, m_2)
noncomputable def uig_ (slf : YY6 × Int × Int × Int × YY8 → Option YY6) (next : YY6 × YY8 × Int × Int × Int → Option (YY6 × Int)) : YY6 × YY8 × Int × Int × Int → Option (YY6 × Int) := fun (data_0, cmp_4, start_20, r_21, p_22) =>
 bif (decide (start_20 < r_21)) then
  (shr? IntKind.u64 (IntKind.u64.wrap (IntKind.i64.wrap (start_20 + r_21))) (1 : Int)).bind fun n22 =>
  (in? data_0.length (IntKind.i64.wrap (p_22 - (IntKind.i64.wrap n22)))).bind fun _ =>
  (in? data_0.length (IntKind.i64.wrap n22)).bind fun _ =>
  (cmp_4 ((data_0.getD ((IntKind.i64.wrap (p_22 - (IntKind.i64.wrap n22))).toNat) (([] : Str), ([] : Str))), (data_0.getD ((IntKind.i64.wrap n22).toNat) (([] : Str), ([] : Str))))).bind fun r25 =>
  bif (!(decide (r25 < (0 : Int)))) then
   next (data_0, cmp_4, (IntKind.i64.wrap ((IntKind.i64.wrap n22) + (1 : Int))), r_21, p_22)
  else
   next (data_0, cmp_4, start_20, (IntKind.i64.wrap n22), p_22)
 else
  some (data_0, start_20)
noncomputable def ue4_ (slf : YY6 × Int × Int × Int × YY8 → Option YY6) : YY6 × YY8 × Int × Int × Int → Option (YY6 × Int) := loopN (uig_ slf) fuel
noncomputable def uc4_ (slf : YY6 × Int × Int × Int × YY8 → Option YY6) : YY6 × Int × YY8 × Int × Int × Bool → Option YY6 := fun (data_0, m_2, cmp_4, start_20, end_24, t185) =>
 bif t185 then
  (ue0_ (data_0, start_20, m_2, end_24, cmp_4)).bind fun r28 =>
  some r28
 else
  some data_0
noncomputable def uc5_ (slf : YY6 × Int × Int × Int × YY8 → Option YY6) : YY6 × Int × YY8 × Int × Int × Bool → Option YY6 := fun (data_0, a_1, cmp_4, mid_18, start_20, t199) =>
 bif t199 then
  (slf (data_0, a_1, start_20, mid_18, cmp_4)).bind fun r31 =>
  some r31
 else
  some data_0
noncomputable def uek_ (slf : YY6 × Int × Int × Int × YY8 → Option YY6) : YY6 × Int × Int × Int × YY8 → Option YY6 := fun (data_0, a_1, m_2, b_3, cmp_4) =>
 bif (eqI (IntKind.i64.wrap (m_2 - a_1)) (1 : Int)) then
  ((ufa_ slf) (data_0, a_1, cmp_4, m_2, b_3)).bind fun r5 =>
  ((ufb_ slf) (r5.1, r5.2, a_1)).bind fun r9 =>
  some r9
 else
  bif (eqI (IntKind.i64.wrap (b_3 - m_2)) (1 : Int)) then
   ((ufc_ slf) (data_0, m_2, cmp_4, a_1, m_2)).bind fun r14 =>
   ((ue3_ slf) (r14.1, r14.2, m_2)).bind fun r18 =>
   some r18
  else
   (shr? IntKind.u64 (IntKind.u64.wrap (IntKind.i64.wrap (a_1 + b_3))) (1 : Int)).bind fun n19 =>
   ((uc3_ slf) (a_1, m_2, b_3, (IntKind.i64.wrap n19), (IntKind.i64.wrap ((IntKind.i64.wrap n19) + m_2)), (decide ((IntKind.i64.wrap n19) < m_2)))).bind fun r20 =>
   ((ue4_ slf) (data_0, cmp_4, r20.1, r20.2, (IntKind.i64.wrap ((IntKind.i64.wrap ((IntKind.i64.wrap n19) + m_2)) - (1 : Int))))).bind fun r26 =>
   let v27 := (IntKind.i64.wrap ((IntKind.i64.wrap ((IntKind.i64.wrap n19) + m_2)) - r26.2))
   ((uc4_ slf) (r26.1, m_2, cmp_4, r26.2, v27, ((decide (r26.2 < m_2)) && (decide (m_2 < v27))))).bind fun r29 =>
   ((uc5_ slf) (r29, a_1, cmp_4, (IntKind.i64.wrap n19), r26.2, ((decide (a_1 < r26.2)) && (decide (r26.2 < (IntKind.i64.wrap n19)))))).bind fun r32 =>
   bif ((decide ((IntKind.i64.wrap n19) < v27)) && (decide (v27 < b_3))) then
    (slf (r32, (IntKind.i64.wrap n19), v27, b_3, cmp_4)).bind fun r34 =>
    some r34
   else
    some r32
noncomputable def ur_ : Nat → YY6 × Int × Int × Int × YY8 → Option YY6
 | 0 => fun _ => none
 | n + 1 => uek_ (ur_ n)
noncomputable def uck_ : YY6 × Int × Int × Int × YY8 → Option YY6 := ur_ 100
noncomputable def ukb_ (next : YY6 × Int × YY8 × Int × Int × Int → Option (YY6 × Int)) : YY6 × Int × YY8 × Int × Int × Int → Option (YY6 × Int) := fun (data_0, n_1, cmp_2, blockSize_6, a_7, b_8) =>
 bif (decide (b_8 ≤ n_1)) then
  (ubo_ (data_0, a_7, b_8, cmp_2)).bind fun r1 =>
  next (r1, n_1, cmp_2, blockSize_6, b_8, (IntKind.i64.wrap (b_8 + blockSize_6)))
 else
  some (data_0, a_7)
noncomputable def uf3_ : YY6 × Int × YY8 × Int × Int × Int → Option (YY6 × Int) := loopN ukb_ fuel
noncomputable def ukc_ (next : YY6 × Int × YY8 × Int × Int × Int → Option (YY6 × Int)) : YY6 × Int × YY8 × Int × Int × Int → Option (YY6 × Int) := fun (data_0, n_1, cmp_2, blockSize_6, a_7, b_8) =>
 bif (decide (b_8 ≤ n_1)) then
  (uck_ (data_0, a_7, (IntKind.i64.wrap (a_7 + blockSize_6)), b_8, cmp_2)).bind fun r4 =>
  next (r4, n_1, cmp_2, blockSize_6, b_8, (IntKind.i64.wrap (b_8 + (IntKind.i64.wrap ((2 : Int) * blockSize_6)))))
 else
  some (data_0, a_7)
noncomputable def uf4_ : YY6 × Int × YY8 × Int × Int × Int → Option (YY6 × Int) := loopN ukc_ fuel
noncomputable def ukd_ (next : YY6 × Int × YY8 × Int → Option YY6) : YY6 × Int × YY8 × Int → Option YY6 := fun (data_0, n_1, cmp_2, blockSize_6) =>
 bif (decide (blockSize_6 < n_1)) then
  (uf4_ (data_0, n_1, cmp_2, blockSize_6, (0 : Int), (IntKind.i64.wrap ((2 : Int) * blockSize_6)))).bind fun r6 =>
  bif (decide ((IntKind.i64.wrap (r6.2 + blockSize_6)) < n_1)) then
   (uck_ (r6.1, r6.2, (IntKind.i64.wrap (r6.2 + blockSize_6)), n_1, cmp_2)).bind fun r7 =>
   next (r7, n_1, cmp_2, (IntKind.i64.wrap (blockSize_6 * (2 : Int))))
  else
   next (r6.1, n_1, cmp_2, (IntKind.i64.wrap (blockSize_6 * (2 : Int))))
 else
  some data_0
noncomputable def uf5_ : YY6 × Int × YY8 × Int → Option YY6 := loopN ukd_ fuel
noncomputable def ue1_ : YY6 × Int × YY8 → Option YY6 := fun (data_0, n_1, cmp_2) =>
 (uf3_ (data_0, n_1, cmp_2, (20 : Int), (0 : Int), (20 : Int))).bind fun r2 =>
 (ubo_ (r2.1, r2.2, n_1, cmp_2)).bind fun r3 =>
 (uf5_ (r3, n_1, cmp_2, (20 : Int))).bind fun r8 =>
 some r8
noncomputable def ueh_ : YY6 × YY8 → Option YY6 := fun (x_0, cmp_1) =>
 (ue1_ (x_0, (x_0.length : Int), cmp_1)).bind fun r1 =>
 some r1
noncomputable def uke_ : Str → Option (Bool) := fun x_0 =>
 some (!(eqS x_0 x_0))
noncomputable def ucc_ : Str × Str → Option (Int) := fun (x_0, y_1) =>
 (uke_ x_0).bind fun r1 =>
 (uke_ y_1).bind fun r2 =>
 bif r1 then
  bif r2 then
   some (0 : Int)
  else
   some (-1 : Int)
 else
  bif r2 then
   some (1 : Int)
  else
   bif (Op.bytesLess x_0 y_1) then
    some (-1 : Int)
   else
    bif (!(Op.bytesLess x_0 y_1 || eqS x_0 y_1)) then
     some (1 : Int)
    else
     some (0 : Int)
noncomputable def u9q_ : (Str × Str) × (Str × Str) → Option (Int) := fun (a_0, b_1) =>
 (ucc_ (a_0.1, b_1.1)).bind fun r1 =>
 some r1
noncomputable def ubm8_ : Unit → Option (List YY24) := fun _ =>
 some ([(([100, 111, 116, 116, 101, 100] : Str), ((2 : Int), (true, (false, (1 : Int))))), (([114, 101, 118, 105, 115, 101, 100] : Str), ((3 : Int), (true, (false, (2 : Int))))), (([115, 116, 97, 103, 101, 100] : Str), ((1 : Int), (true, (true, (3 : Int))))), (([113, 117, 97, 108, 105, 102, 105, 101, 100] : Str), ((3 : Int), (false, (false, (4 : Int))))), (([112, 108, 97, 105, 110] : Str), ((2 : Int), (false, (false, (5 : Int)))))] : List YY24)
noncomputable def ubrr_ (next : Str × (List YY24) × Int → Option YY18) : Str × (List YY24) × Int → Option YY18 := fun (kind_0, t5, t6) =>
 bif (decide (t6 < (5 : Int))) then
  (at? t5 t6).bind fun y2 =>
  bif (eqS y2.1 kind_0) then
   some (.inr t6)
  else
   next (kind_0, t5, (IntKind.i64.wrap (t6 + (1 : Int))))
 else
  some (.inl ())
noncomputable def ubew_ : Str × (List YY24) × Int → Option YY18 := loopN ubrr_ fuel
noncomputable def ubm9_ : Str → Option (Int) := fun kind_0 =>
 (ubm8_ ()).bind fun r1 =>
 (ubew_ (kind_0, r1, (0 : Int))).bind fun r3 =>
 match r3 with
 | .inl y4 =>
   some (-1 : Int)
 | .inr y4' =>
   some y4'
noncomputable def ubna_ : Str → Option (YY24 × Int) := fun kind_0 =>
 (ubm9_ kind_0).bind fun r1 =>
 bif (decide (r1 < (0 : Int))) then
  some ((([] : Str), ((0 : Int), (false, (false, (0 : Int))))), (7 : Int))
 else
  (ubm8_ ()).bind fun r3 =>
  (at? r3 r1).bind fun y4 =>
  some (y4, (0 : Int))
noncomputable def ubuh_ (next : (List Str) × Int × Int → Option YY21) : (List Str) × Int × Int → Option YY21 := fun (t15, t16, t17) =>
 bif (decide (t17 < t16)) then
  (at? t15 t17).bind fun y2 =>
  bif (decide ((200 : Int) < (y2.length : Int))) then
   some (.inr true)
  else
   next (t15, t16, (IntKind.i64.wrap (t17 + (1 : Int))))
 else
  some (.inl ())
noncomputable def ubk1_ : (List Str) × Int × Int → Option YY21 := loopN ubuh_ fuel
noncomputable def ubui_ (next : YY6 × Int × Int → Option YY21) : YY6 × Int × Int → Option YY21 := fun (t26, t27, t28) =>
 bif (decide (t28 < t27)) then
  (at? t26 t28).bind fun y5 =>
  bif ((decide ((200 : Int) < (y5.1.length : Int))) || (decide ((200 : Int) < (y5.2.length : Int)))) then
   some (.inr true)
  else
   next (t26, t27, (IntKind.i64.wrap (t28 + (1 : Int))))
 else
  some (.inl ())
noncomputable def ubk2_ : YY6 × Int × Int → Option YY21 := loopN ubui_ fuel
noncomputable def ubtp_ : Str × Str × Str × Str × YY6 × Str → Option (Bool) := fun p_0 =>
 let v1 := ([p_0.2.1, p_0.2.2.1, p_0.2.2.2.1, p_0.2.2.2.2.2] : List Str)
 (ubk1_ (v1, (v1.length : Int), (0 : Int))).bind fun r3 =>
 match r3 with
 | .inl y4 =>
   (ubk2_ (p_0.2.2.2.2.1, (p_0.2.2.2.2.1.length : Int), (0 : Int))).bind fun r7 =>
   match r7 with
   | .inl y8 =>
     some (decide ((10 : Int) < (p_0.2.2.2.2.1.length : Int)))
   | .inr y8' =>
     some y8'
 | .inr y4' =>
   some y4'
noncomputable def usw_ : Str → Option (List Str) := fun s_0 =>
 bif (eqS s_0 ([] : Str)) then
  some ([] : List Str)
 else
  (strings_Split (s_0, ([47] : Str))).bind fun r1 =>
  some r1
noncomputable def ubb2_ (next : Bool × (List Str) × Int × Int → Option YY21) : Bool × (List Str) × Int × Int → Option YY21 := fun (dots_1, t7, t8, t9) =>
 bif (decide (t9 < t8)) then
  (at? t7 t9).bind fun y1 =>
  bif ((eqS y1 ([] : Str)) || (dots_1 && ((eqS y1 ([46] : Str)) || (eqS y1 ([46, 46] : Str))))) then
   some (.inr true)
  else
   next (dots_1, t7, t8, (IntKind.i64.wrap (t9 + (1 : Int))))
 else
  some (.inl ())
noncomputable def uyz_ : Bool × (List Str) × Int × Int → Option YY21 := loopN ubb2_ fuel
noncomputable def utu_ : (List Str) × Bool → Option (Bool) := fun (l_0, dots_1) =>
 (uyz_ (dots_1, l_0, (l_0.length : Int), (0 : Int))).bind fun r3 =>
 match r3 with
 | .inl y4 =>
   some (decide ((10 : Int) < (l_0.length : Int)))
 | .inr y4' =>
   some y4'
noncomputable def uzp_ (next : Str × Int × Int → Option YY21) : Str × Int × Int → Option YY21 := fun (s_0, t5, t6) =>
 bif (decide (t6 < t5)) then
  (at? s_0 t6).bind fun b1 =>
  (uxt_ ((b1.toNat : Int), (eqI t6 (0 : Int)))).bind fun r2 =>
  bif (!r2) then
   some (.inr false)
  else
   next (s_0, t5, (IntKind.i64.wrap (t6 + (1 : Int))))
 else
  some (.inl ())
noncomputable def up8_ : Str × Int × Int → Option YY21 := loopN uzp_ fuel
noncomputable def upc_ : Str → Option (Bool) := fun s_0 =>
 (up8_ (s_0, (s_0.length : Int), (0 : Int))).bind fun r3 =>
 match r3 with
 | .inl y4 =>
   some (!(eqS s_0 ([] : Str)))
 | .inr y4' =>
   some y4'
noncomputable def uvp_ (next : YY6 × YY6 × Int × Int → Option YY18) : YY6 × YY6 × Int × Int → Option YY18 := fun (l_0, t5, t6, t7) =>
 bif (decide (t7 < t6)) then
  (at? t5 t7).bind fun y1 =>
  (upc_ y1.1).bind fun r2 =>
  bif (!r2) then
   some (.inr (8 : Int))
  else
   bif (eqS y1.2 ([] : Str)) then
    some (.inr (2 : Int))
   else
    (bif (decide ((0 : Int) < t7)) then at? l_0 (IntKind.i64.wrap (t7 - (1 : Int))) else some (([] : Str), ([] : Str))).bind fun y3 =>
    bif ((decide ((0 : Int) < t7)) && (Op.bytesLess y1.1 y3.1 || eqS y1.1 y3.1)) then
     some (.inr (10 : Int))
    else
     next (l_0, t5, t6, (IntKind.i64.wrap (t7 + (1 : Int))))
 else
  some (.inl ())
noncomputable def um4_ : YY6 × YY6 × Int × Int → Option YY18 := loopN uvp_ fuel
noncomputable def uln_ : List (Str × Str) → Option (Int) := fun l_0 =>
 (um4_ (l_0, l_0, (l_0.length : Int), (0 : Int))).bind fun r5 =>
 match r5 with
 | .inl y6 =>
   some (0 : Int)
 | .inr y6' =>
   some y6'
noncomputable def ubj1_ (next : Str × Int × Int → Option YY21) : Str × Int × Int → Option YY21 := fun (s_0, t5, t6) =>
 bif (decide (t6 < t5)) then
  (at? s_0 t6).bind fun b1 =>
  (bif (!(decide ((b1.toNat : Int) < (32 : Int)))) then at? s_0 t6 else some 0).bind fun b2 =>
  bif ((decide ((b1.toNat : Int) < (32 : Int))) || (eqI (b2.toNat : Int) (127 : Int))) then
   some (.inr true)
  else
   next (s_0, t5, (IntKind.i64.wrap (t6 + (1 : Int))))
 else
  some (.inl ())
noncomputable def u57_ : Str × Int × Int → Option YY21 := loopN ubj1_ fuel
noncomputable def u1g_ : Str → Option (Bool) := fun s_0 =>
 (u57_ (s_0, (s_0.length : Int), (0 : Int))).bind fun r4 =>
 match r4 with
 | .inl y5 =>
   some false
 | .inr y5' =>
   some y5'
noncomputable def ubrs_ (next : (List Str) × Int × Int → Option YY18) : (List Str) × Int × Int → Option YY18 := fun (t75, t76, t77) =>
 bif (decide (t77 < t76)) then
  (at? t75 t77).bind fun y13 =>
  (u1g_ y13).bind fun r14 =>
  bif r14 then
   some (.inr (8 : Int))
  else
   next (t75, t76, (IntKind.i64.wrap (t77 + (1 : Int))))
 else
  some (.inl ())
noncomputable def ubex_ : (List Str) × Int × Int → Option YY18 := loopN ubrs_ fuel
noncomputable def ubnb_ (next : YY6 × Int × Int → Option YY18) : YY6 × Int × Int → Option YY18 := fun (t85, t86, t87) =>
 bif (decide (t87 < t86)) then
  (at? t85 t87).bind fun y17 =>
  (u1g_ y17.2).bind fun r18 =>
  bif r18 then
   some (.inr (8 : Int))
  else
   next (t85, t86, (IntKind.i64.wrap (t87 + (1 : Int))))
 else
  some (.inl ())
noncomputable def u9r_ : YY6 × Int × Int → Option YY18 := loopN ubnb_ fuel
noncomputable def ubey_ : Str × Str × Str × Str × YY6 × Str → Option (Int) := fun p_0 =>
 (ubna_ p_0.1).bind fun r1 =>
 bif (!(eqI r1.2 (0 : Int))) then
  some r1.2
 else
  (ubtp_ p_0).bind fun r2 =>
  bif r2 then
   some (3 : Int)
  else
   bif (((!(eqS p_0.2.1 ([] : Str))) && (eqI r1.1.2.1 (1 : Int))) || ((eqS p_0.2.1 ([] : Str)) && (eqI r1.1.2.1 (3 : Int)))) then
    some (2 : Int)
   else
    (usw_ p_0.2.1).bind fun r5 =>
    (utu_ (r5, false)).bind fun r6 =>
    bif r6 then
     some (2 : Int)
    else
     (bif (!(eqS p_0.2.2.1 ([] : Str))) then strings_IndexByte (p_0.2.2.1, (47 : Int)) else some (0 : Int)).bind fun r7 =>
     bif ((eqS p_0.2.2.1 ([] : Str)) || (decide ((0 : Int) ≤ r7))) then
      some (8 : Int)
     else
      (uln_ p_0.2.2.2.2.1).bind fun r9 =>
      bif (!(eqI r9 (0 : Int))) then
       some r9
      else
       (usw_ p_0.2.2.2.2.2).bind fun r10 =>
       (utu_ (r10, true)).bind fun r11 =>
       bif r11 then
        some (2 : Int)
       else
        let v12 := ([p_0.2.1, p_0.2.2.1, p_0.2.2.2.1, p_0.2.2.2.2.2] : List Str)
        (ubex_ (v12, (v12.length : Int), (0 : Int))).bind fun r15 =>
        match r15 with
        | .inl y16 =>
          (u9r_ (p_0.2.2.2.2.1, (p_0.2.2.2.2.1.length : Int), (0 : Int))).bind fun r19 =>
          match r19 with
          | .inl y20 =>
            some (0 : Int)
          | .inr y20' =>
            some y20'
        | .inr y16' =>
          some y16'
noncomputable def u7k_ : Int → Option (Bool) := fun c_0 =>
 some (((eqI c_0 (45 : Int)) || (eqI c_0 (95 : Int))) || (eqI c_0 (46 : Int)))
noncomputable def ubf_ : (List Int) × Int → Option (Unit × (List Int)) := fun (b_0, c_1) =>
 (ugv_ b_0).bind fun r1 =>
 (app? 24 r1 ([c_1] : List Int)).bind fun l2 =>
 some ((), l2)
noncomputable def ubnc_ (next : Str × (List Int) × Int × Int → Option (List Int)) : Str × (List Int) × Int × Int → Option (List Int) := fun (s_0, b_3, t6, t7) =>
 bif (decide (t7 < t6)) then
  (at? s_0 t7).bind fun b1 =>
  (u7k_ (b1.toNat : Int)).bind fun r2 =>
  bif (!r2) then
   (at? s_0 t7).bind fun b3 =>
   (ubf_ (b_3, (b3.toNat : Int))).bind fun r4 =>
   next (s_0, r4.2, t6, (IntKind.i64.wrap (t7 + (1 : Int))))
  else
   (bif (!(eqI t7 (0 : Int))) then at? s_0 (IntKind.i64.wrap (t7 - (1 : Int))) else some 0).bind fun b5 =>
   (bif (!(eqI t7 (0 : Int))) then u7k_ (b5.toNat : Int) else some false).bind fun r6 =>
   bif ((eqI t7 (0 : Int)) || (!r6)) then
    (ubf_ (b_3, (45 : Int))).bind fun r7 =>
    next (s_0, r7.2, t6, (IntKind.i64.wrap (t7 + (1 : Int))))
   else
    next (s_0, b_3, t6, (IntKind.i64.wrap (t7 + (1 : Int))))
 else
  some b_3
noncomputable def u9s_ : Str × (List Int) × Int × Int → Option (List Int) := loopN ubnc_ fuel
noncomputable def ubhw_ : Str → Option Str := fun s_0 =>
 (u9s_ (s_0, ([] : List Int), (s_0.length : Int), (0 : Int))).bind fun r8 =>
 (ub2_ r8).bind fun r9 =>
 some r9
noncomputable def urn_ : YY15 × Bool → Option YY15 := fun (p_1, t12) =>
 bif t12 then
  (u1d_ p_1.2.1).bind fun r2 =>
  (u1d_ p_1.2.2.1).bind fun r3 =>
  some (p_1.1, (r2, (r3, p_1.2.2.2)))
 else
  some p_1
noncomputable def utv_ : Str × Str × Str × Str × YY6 × Str → Option YY15 := fun p_0 =>
 (ubna_ p_0.1).bind fun r1 =>
 (urn_ (p_0, r1.1.2.2.1)).bind fun r4 =>
 bif r1.1.2.2.2.1 then
  (ubhw_ r4.2.2.1).bind fun r5 =>
  (app? 48 [] r4.2.2.2.2.1).bind fun l6 =>
  some (r4.1, (r4.2.1, (r5, (r4.2.2.2.1, (l6, r4.2.2.2.2.2)))))
 else
  (app? 48 [] r4.2.2.2.2.1).bind fun l7 =>
  some (r4.1, (r4.2.1, (r4.2.2.1, (r4.2.2.2.1, (l7, r4.2.2.2.2.2)))))
noncomputable def ubuj_ (next : YY15 × YY12 × Int → Option (Sum (YY15 × YY12) (YY15 × Int × Int))) : YY15 × YY12 × Int → Option (Sum (YY15 × YY12) (YY15 × Int × Int)) := fun (t2, p_6, i_7) =>
 bif (decide (i_7 < (p_6.2.2.2.2.1.length : Int))) then
  (in? p_6.2.2.2.2.1.length i_7).bind fun _ =>
  (in? p_6.2.2.2.2.1.length (IntKind.i64.wrap (i_7 - (1 : Int)))).bind fun _ =>
  bif (eqS ((p_6.2.2.2.2.1.getD i_7.toNat (([] : Str), ([] : Str))).1) ((p_6.2.2.2.2.1.getD ((IntKind.i64.wrap (i_7 - (1 : Int))).toNat) (([] : Str), ([] : Str))).1)) then
   some (.inr ((([] : Str), (([] : Str), (([] : Str), (([] : Str), (([] : List (Str × Str)), ([] : Str)))))), (0 : Int), (5 : Int)))
  else
   next (t2, (p_6.1, (p_6.2.1, (p_6.2.2.1, (p_6.2.2.2.1, (p_6.2.2.2.2.1, p_6.2.2.2.2.2))))), (IntKind.i64.wrap (i_7 + (1 : Int))))
 else
  some (.inl (t2, (p_6.1, (p_6.2.1, (p_6.2.2.1, (p_6.2.2.2.1, (p_6.2.2.2.2.1, p_6.2.2.2.2.2)))))))
noncomputable def ubk3_ : YY15 × YY12 × Int → Option (Sum (YY15 × YY12) (YY15 × Int × Int)) := loopN ubuj_ fuel
noncomputable def ubtq_ : Str → Option (YY15 × Int × Int) := fun s_0 =>
 bif (decide ((3000 : Int) < (s_0.length : Int))) then
  some ((([] : Str), (([] : Str), (([] : Str), (([] : Str), (([] : List (Str × Str)), ([] : Str)))))), (0 : Int), (3 : Int))
 else
  (utt_ (s_0, ((0 : Int), (-1 : Int)))).bind fun r2 =>
  bif (decide ((0 : Int) ≤ r2.2.2.2)) then
   some ((([] : Str), (([] : Str), (([] : Str), (([] : Str), (([] : List (Str × Str)), ([] : Str)))))), r2.2.2.2, (6 : Int))
  else
   (ueh_ (r2.1.2.2.2.2.1, (fun x => (u9q_ x).bind fun r => some r))).bind fun r4 =>
   (ubk3_ ((([] : Str), (([] : Str), (([] : Str), (([] : Str), (([] : List (Str × Str)), ([] : Str)))))), (r2.1.1, (r2.1.2.1, (r2.1.2.2.1, (r2.1.2.2.2.1, (r4, r2.1.2.2.2.2.2))))), (1 : Int))).bind fun r8 =>
   match r8 with
   | .inl y9 =>
     (ubey_ (y9.2.1, (y9.2.2.1, (y9.2.2.2.1, (y9.2.2.2.2.1, (y9.2.2.2.2.2.1, y9.2.2.2.2.2.2)))))).bind fun r11 =>
     bif (!(eqI r11 (0 : Int))) then
      some ((([] : Str), (([] : Str), (([] : Str), (([] : Str), (([] : List (Str × Str)), ([] : Str)))))), (0 : Int), r11)
     else
      (utv_ (y9.2.1, (y9.2.2.1, (y9.2.2.2.1, (y9.2.2.2.2.1, (y9.2.2.2.2.2.1, y9.2.2.2.2.2.2)))))).bind fun r14 =>
      some (r14, (0 : Int), (0 : Int))
   | .inr y9' =>
     some (y9'.1, y9'.2.1, y9'.2.2)
noncomputable def ubk_ : (List Int) × Str → Option (Int × Unit × (List Int)) := fun (b_0, s_1) =>
 (ugv_ b_0).bind fun r1 =>
 (app? 24 r1 (uet_ s_1)).bind fun l2 =>
 some ((s_1.length : Int), (), l2)
noncomputable def ubj2_ (next : Str × (List Int) × Int × Int → Option (List Int)) : Str × (List Int) × Int × Int → Option (List Int) := fun (s_0, b_3, t7, t8) =>
 bif (decide (t8 < t7)) then
  (at? s_0 t8).bind fun b1 =>
  (uxs_ (b1.toNat : Int)).bind fun r2 =>
  let v3 := ((decide ((48 : Int) ≤ (b1.toNat : Int))) && (decide ((b1.toNat : Int) ≤ (57 : Int))))
  (bif (!(r2 || v3)) then strings_IndexByte (([46, 45, 95, 126] : Str), (b1.toNat : Int)) else some (0 : Int)).bind fun r4 =>
  bif ((r2 || v3) || (decide ((0 : Int) ≤ r4))) then
   (ubf_ (b_3, (b1.toNat : Int))).bind fun r5 =>
   next (s_0, r5.2, t7, (IntKind.i64.wrap (t8 + (1 : Int))))
  else
   (div? IntKind.u8 (b1.toNat : Int) (16 : Int)).bind fun q6 =>
   (div? IntKind.u8 (b1.toNat : Int) (16 : Int)).bind fun q7 =>
   (cut? ([48, 49, 50, 51, 52, 53, 54, 55, 56, 57, 65, 66, 67, 68, 69, 70] : Str) q6 (IntKind.u8.wrap (q7 + (1 : Int)))).bind fun s8 =>
   (cat? ([37] : Str) s8).bind fun s9 =>
   (mod? (b1.toNat : Int) (16 : Int)).bind fun q10 =>
   (mod? (b1.toNat : Int) (16 : Int)).bind fun q11 =>
   (cut? ([48, 49, 50, 51, 52, 53, 54, 55, 56, 57, 65, 66, 67, 68, 69, 70] : Str) q10 (IntKind.u8.wrap (q11 + (1 : Int)))).bind fun s12 =>
   (cat? s9 s12).bind fun s13 =>
   (ubk_ (b_3, s13)).bind fun r14 =>
   next (s_0, r14.2.2, t7, (IntKind.i64.wrap (t8 + (1 : Int))))
 else
  some b_3
noncomputable def u58_ : Str × (List Int) × Int × Int → Option (List Int) := loopN ubj2_ fuel
noncomputable def uwq_ : Str → Option Str := fun s_0 =>
 (u58_ (s_0, ([] : List Int), (s_0.length : Int), (0 : Int))).bind fun r15 =>
 (ub2_ r15).bind fun r16 =>
 some r16
noncomputable def ubuk_ (next : (List Str) × (List Str) × Int × Int → Option (List Str)) : (List Str) × (List Str) × Int × Int → Option (List Str) := fun (l_3, t7, t8, t9) =>
 bif (decide (t9 < t8)) then
  (at? t7 t9).bind fun y2 =>
  (uwq_ y2).bind fun r3 =>
  (app? 24 l_3 ([r3] : List Str)).bind fun l4 =>
  next (l4, t7, t8, (IntKind.i64.wrap (t9 + (1 : Int))))
 else
  some l_3
noncomputable def ubk4_ : (List Str) × (List Str) × Int × Int → Option (List Str) := loopN ubuk_ fuel
noncomputable def ubtr_ : Str → Option Str := fun s_0 =>
 (usw_ s_0).bind fun r1 =>
 (ubk4_ (([] : List Str), r1, (r1.length : Int), (0 : Int))).bind fun r5 =>
 (strings_Join (r5, ([47] : Str))).bind fun r6 =>
 some r6
noncomputable def u9t_ : Str × Str × Str × Str × YY6 × Str → Option Str := fun p_0 =>
 (cat? ([112, 107, 103, 58] : Str) p_0.1).bind fun s1 =>
 (cat? s1 ([47] : Str)).bind fun s2 =>
 bif (!(eqS p_0.2.1 ([] : Str))) then
  (ubtr_ p_0.2.1).bind fun r3 =>
  (cat? r3 ([47] : Str)).bind fun s4 =>
  (cat? s2 s4).bind fun s5 =>
  (uwq_ p_0.2.2.1).bind fun r6 =>
  (cat? s5 r6).bind fun s7 =>
  some s7
 else
  (uwq_ p_0.2.2.1).bind fun r8 =>
  (cat? s2 r8).bind fun s9 =>
  some s9
noncomputable def ubyu_ : Str × Str × Str × Str × YY6 × Str → Option (Str × Int) := fun p_0 =>
 (ubey_ p_0).bind fun r1 =>
 bif (!(eqI r1 (0 : Int))) then
  some (([] : Str), r1)
 else
  (utv_ p_0).bind fun r2 =>
  (u9t_ r2).bind fun r3 =>
  some (r3, (0 : Int))
noncomputable def u0r_ : Str → Option (Bool) := fun s_0 =>
 (ubtq_ s_0).bind fun r1 =>
 bif (!(eqI r1.2.2 (0 : Int))) then
  some false
 else
  (ubyu_ r1.1).bind fun r2 =>
  some ((eqI r2.2 (0 : Int)) && (eqS r2.1 s_0))
noncomputable def ubnd_ (next : Str × Int × YY30 × Int → Option (Int)) : Str × Int × YY30 × Int → Option (Int) := fun (s_0, at_1, is_2, n_7) =>
 let v1 := (decide ((IntKind.i64.wrap (at_1 + n_7)) < (s_0.length : Int)))
 (bif v1 then at? s_0 (IntKind.i64.wrap (at_1 + n_7)) else some 0).bind fun b2 =>
 (bif v1 then is_2 (b2.toNat : Int) else some false).bind fun r3 =>
 bif (v1 && r3) then
  next (s_0, at_1, is_2, (IntKind.i64.wrap (n_7 + (1 : Int))))
 else
  some n_7
noncomputable def u9u_ : Str × Int × YY30 × Int → Option (Int) := loopN ubnd_ fuel
noncomputable def uc6_ : Str × Int × YY30 → Option (Int) := fun (s_0, at_1, is_2) =>
 (u9u_ (s_0, at_1, is_2, (0 : Int))).bind fun r4 =>
 some r4
noncomputable def u5_ : Int → Option (Bool) := fun c_0 =>
 some ((decide ((48 : Int) ≤ c_0)) && (decide (c_0 ≤ (57 : Int))))
noncomputable def ub3_ : Str → Option (Int × Bool) := fun s_0 =>
 let v1 := ((eqS s_0 ([] : Str)) || (decide ((18 : Int) < (s_0.length : Int))))
 (bif (!v1) then uc6_ (s_0, (0 : Int), (fun x => (u5_ x).bind fun r => some r)) else some (0 : Int)).bind fun r2 =>
 bif (v1 || (!(eqI r2 (s_0.length : Int)))) then
  some ((0 : Int), false)
 else
  (u9p_ s_0).bind fun r3 =>
  some (r3.1, true)
noncomputable def ufd_ : Str → Option (Int × Bool) := fun s_0 =>
 (bif (decide ((1 : Int) < (s_0.length : Int))) then at? s_0 (0 : Int) else some 0).bind fun b1 =>
 bif ((decide ((1 : Int) < (s_0.length : Int))) && (eqI (b1.toNat : Int) (48 : Int))) then
  some ((0 : Int), false)
 else
  (ub3_ s_0).bind fun r3 =>
  some (r3.1, r3.2)
noncomputable def ufe_ : Int → Option (Bool) := fun c_0 =>
 some (((decide ((65 : Int) ≤ c_0)) && (decide (c_0 ≤ (90 : Int)))) || ((decide ((97 : Int) ≤ c_0)) && (decide (c_0 ≤ (122 : Int)))))
noncomputable def uiy_ : Int → Option (Bool) := fun c_0 =>
 (u5_ c_0).bind fun r1 =>
 (bif (!r1) then ufe_ c_0 else some false).bind fun r2 =>
 some ((r1 || r2) || (eqI c_0 (45 : Int)))
noncomputable def uxu_ (next : (List Str) × Int × Int → Option (Sum (Unit) YY25)) : (List Str) × Int × Int → Option (Sum (Unit) YY25) := fun (t9, t10, t11) =>
 bif (decide (t11 < t10)) then
  (at? t9 t11).bind fun y2 =>
  (bif (!(eqS y2 ([] : Str))) then uc6_ (y2, (0 : Int), (fun x => (uiy_ x).bind fun r => some r)) else some (0 : Int)).bind fun r3 =>
  bif ((eqS y2 ([] : Str)) || (!(eqI r3 (y2.length : Int)))) then
   some (.inr (([] : List Str), false))
  else
   next (t9, t10, (IntKind.i64.wrap (t11 + (1 : Int))))
 else
  some (.inl ())
noncomputable def uod_ : (List Str) × Int × Int → Option (Sum (Unit) YY25) := loopN uxu_ fuel
noncomputable def uiz_ : Str → Option YY25 := fun s_0 =>
 (strings_Split (s_0, ([46] : Str))).bind fun r1 =>
 (uod_ (r1, (r1.length : Int), (0 : Int))).bind fun r5 =>
 match r5 with
 | .inl y6 =>
   some (r1, true)
 | .inr y6' =>
   some (y6'.1, y6'.2)
noncomputable def u4r_ (next : (List Str) × Int × Int → Option (Sum (Unit) YY25)) : (List Str) × Int × Int → Option (Sum (Unit) YY25) := fun (t15, t16, t17) =>
 bif (decide (t17 < t16)) then
  (at? t15 t17).bind fun y2 =>
  (uc6_ (y2, (0 : Int), (fun x => (u5_ x).bind fun r => some r))).bind fun r3 =>
  bif (eqI r3 (y2.length : Int)) then
   (ufd_ y2).bind fun r4 =>
   bif (!r4.2) then
    some (.inr (([] : List Str), false))
   else
    next (t15, t16, (IntKind.i64.wrap (t17 + (1 : Int))))
  else
   next (t15, t16, (IntKind.i64.wrap (t17 + (1 : Int))))
 else
  some (.inl ())
noncomputable def utw_ : (List Str) × Int × Int → Option (Sum (Unit) YY25) := loopN u4r_ fuel
noncomputable def utx_ : Str → Option YY25 := fun s_0 =>
 (uiz_ s_0).bind fun r1 =>
 (utw_ (r1.1, (r1.1.length : Int), (0 : Int))).bind fun r5 =>
 match r5 with
 | .inl y6 =>
   some (r1.1, r1.2)
 | .inr y6' =>
   some (y6'.1, y6'.2)
noncomputable def u9v_ : Str → Option YY25 := fun s_0 =>
 (strings_Cut (s_0, ([43] : Str))).bind fun r1 =>
 (uiz_ r1.2.1).bind fun r2 =>
 bif (r1.2.2 && (!r2.2)) then
  some (([] : List Str), false)
 else
  bif (eqS r1.1 ([] : Str)) then
   some (([] : List Str), true)
  else
   (at? r1.1 (0 : Int)).bind fun b3 =>
   bif (!(eqI (b3.toNat : Int) (45 : Int))) then
    some (([] : List Str), false)
   else
    (cut? r1.1 (1 : Int) (r1.1.length : Int)).bind fun s4 =>
    (utx_ s4).bind fun r5 =>
    some (r5.1, r5.2)
noncomputable def ujw_ : Str × Int × Bool → Option (Sum (Int) (YY1 × Bool)) := fun (s_0, at_5, t16) =>
 bif t16 then
  (bif (!(decide ((s_0.length : Int) ≤ at_5))) then at? s_0 at_5 else some 0).bind fun b1 =>
  bif ((decide ((s_0.length : Int) ≤ at_5)) || (!(eqI (b1.toNat : Int) (46 : Int)))) then
   some (.inr ((Sum.inr (Sum.inr (Sum.inr (Sum.inr (Sum.inr ()))))), false))
  else
   some (.inl (IntKind.i64.wrap (at_5 + (1 : Int))))
 else
  some (.inl at_5)
noncomputable def uzq_ (next : Str × YY23 × Int × Int → Option (Sum (YY23 × Int) (YY1 × Bool))) : Str × YY23 × Int × Int → Option (Sum (YY23 × Int) (YY1 × Bool)) := fun (s_0, v_4, at_5, t12) =>
 bif (decide (t12 < (3 : Int))) then
  (ujw_ (s_0, at_5, (decide ((0 : Int) < t12)))).bind fun r3 =>
  match r3 with
  | .inl y4 =>
    (uc6_ (s_0, y4, (fun x => (u5_ x).bind fun r => some r))).bind fun r5 =>
    (cut? s_0 y4 (IntKind.i64.wrap (y4 + r5))).bind fun s6 =>
    (ufd_ s6).bind fun r7 =>
    bif (!r7.2) then
     some (.inr ((Sum.inr (Sum.inr (Sum.inr (Sum.inr (Sum.inr ()))))), false))
    else
     (in? 3 t12).bind fun _ =>
     next (s_0, ((v_4.1.set t12.toNat r7.1), v_4.2), (IntKind.i64.wrap (y4 + r5)), (IntKind.i64.wrap (t12 + (1 : Int))))
  | .inr y4' =>
    some (.inr (y4'.1, y4'.2))
 else
  some (.inl ((v_4.1, v_4.2), at_5))
noncomputable def up9_ : Str × YY23 × Int × Int → Option (Sum (YY23 × Int) (YY1 × Bool)) := loopN uzq_ fuel
noncomputable def upd_ : Str → Option (YY1 × Bool) := fun s_0 =>
 (up9_ (s_0, ((List.replicate 3 (0 : Int)), ([] : List Str)), (0 : Int), (0 : Int))).bind fun r8 =>
 match r8 with
 | .inl y9 =>
   (cut? s_0 y9.2 (s_0.length : Int)).bind fun s10 =>
   (u9v_ s10).bind fun r11 =>
   some ((Sum.inl (y9.1.1, r11.1)), r11.2)
 | .inr y9' =>
   some (y9'.1, y9'.2)
noncomputable def ui0_ : Int → Option (Bool) := fun c_0 =>
 (u5_ c_0).bind fun r1 =>
 (bif (!r1) then ufe_ c_0 else some false).bind fun r2 =>
 (bif (!(r1 || r2)) then strings_IndexByte (([46, 43, 126, 45] : Str), c_0) else some (0 : Int)).bind fun r3 =>
 some ((r1 || r2) || (decide ((0 : Int) ≤ r3)))
noncomputable def u1h_ (next : Str × Int → Option YY21) : Str × Int → Option YY21 := fun (s_0, at_3) =>
 bif (decide (at_3 < (s_0.length : Int))) then
  (uc6_ (s_0, at_3, (fun x => (u5_ x).bind fun r => some r))).bind fun r1 =>
  bif (decide ((18 : Int) < r1)) then
   some (.inr false)
  else
   next (s_0, (IntKind.i64.wrap (at_3 + (maxI r1 (1 : Int)))))
 else
  some (.inl ())
noncomputable def ur3_ : Str × Int → Option YY21 := loopN u1h_ fuel
noncomputable def uro_ : Str → Option (Bool) := fun s_0 =>
 (ur3_ (s_0, (0 : Int))).bind fun r2 =>
 match r2 with
 | .inl y3 =>
   some true
 | .inr y3' =>
   some y3'
noncomputable def ui1_ : Str × YY29 × Str × Str × Bool → Option (Sum (Str × YY29) (YY1 × Bool)) := fun (s_0, v_4, epoch_5, rest_6, t18) =>
 bif t18 then
  (ufd_ epoch_5).bind fun r2 =>
  bif (!r2.2) then
   some (.inr ((Sum.inr (Sum.inr (Sum.inr (Sum.inr (Sum.inr ()))))), false))
  else
   some (.inl (rest_6, (r2.1, v_4.2)))
 else
  some (.inl (s_0, v_4))
noncomputable def unu_ : Str → Option (YY1 × Bool) := fun s_0 =>
 (strings_Cut (s_0, ([58] : Str))).bind fun r1 =>
 (ui1_ (s_0, ((0 : Int), (([] : Str), (([] : Str), false))), r1.1, r1.2.1, r1.2.2)).bind fun r3 =>
 match r3 with
 | .inl y4 =>
   (bif (!(eqS y4.1 ([] : Str))) then at? y4.1 (0 : Int) else some 0).bind fun b5 =>
   (bif (!(eqS y4.1 ([] : Str))) then u5_ (b5.toNat : Int) else some false).bind fun r6 =>
   (bif (!((eqS y4.1 ([] : Str)) || (!r6))) then uc6_ (y4.1, (0 : Int), (fun x => (ui0_ x).bind fun r => some r)) else some (0 : Int)).bind fun r7 =>
   let v8 := (((eqS y4.1 ([] : Str)) || (!r6)) || (!(eqI r7 (y4.1.length : Int))))
   (bif (!v8) then uro_ y4.1 else some false).bind fun r9 =>
   bif (v8 || (!r9)) then
    some ((Sum.inr (Sum.inr (Sum.inr (Sum.inr (Sum.inr ()))))), false)
   else
    (strings_LastIndexByte (y4.1, (45 : Int))).bind fun r10 =>
    bif (decide ((0 : Int) ≤ r10)) then
     (cut? y4.1 (0 : Int) r10).bind fun s11 =>
     (cut? y4.1 (IntKind.i64.wrap (r10 + (1 : Int))) (y4.1.length : Int)).bind fun s12 =>
     bif (eqS s12 ([] : Str)) then
      some ((Sum.inr (Sum.inr (Sum.inr (Sum.inr (Sum.inr ()))))), false)
     else
      (strings_IndexByte (s11, (45 : Int))).bind fun r13 =>
      some ((Sum.inr (Sum.inl (y4.2.1, (s11, (s12, (decide ((0 : Int) ≤ r13))))))), true)
    else
     (strings_IndexByte (y4.1, (45 : Int))).bind fun r15 =>
     some ((Sum.inr (Sum.inl (y4.2.1, (y4.1, (y4.2.2.2.1, (decide ((0 : Int) ≤ r15))))))), true)
 | .inr y4' =>
   some (y4'.1, y4'.2)
noncomputable def u1i_ (next : Str × (List Int) → Option ((List Int) × Str × Bool)) : Str × (List Int) → Option ((List Int) × Str × Bool) := fun (s_0, out_5) =>
 (uc6_ (s_0, (0 : Int), (fun x => (u5_ x).bind fun r => some r))).bind fun r1 =>
 (cut? s_0 (0 : Int) r1).bind fun s2 =>
 (ub3_ s2).bind fun r3 =>
 bif (!r3.2) then
  some (([] : List Int), ([] : Str), false)
 else
  (app? 24 out_5 ([r3.1] : List Int)).bind fun l4 =>
  (cut? s_0 r1 (s_0.length : Int)).bind fun s5 =>
  (bif (!(decide ((s5.length : Int) < (2 : Int)))) then at? s5 (0 : Int) else some 0).bind fun b6 =>
  let v7 := ((decide ((s5.length : Int) < (2 : Int))) || (!(eqI (b6.toNat : Int) (46 : Int))))
  (bif (!v7) then at? s5 (1 : Int) else some 0).bind fun b8 =>
  (bif (!v7) then u5_ (b8.toNat : Int) else some false).bind fun r9 =>
  bif (v7 || (!r9)) then
   some (l4, s5, true)
  else
   (cut? s5 (1 : Int) (s5.length : Int)).bind fun s10 =>
   next (s10, l4)
noncomputable def ur4_ : Str × (List Int) → Option ((List Int) × Str × Bool) := loopN u1i_ fuel
noncomputable def urp_ : Str → Option ((List Int) × Str × Bool) := fun s_0 =>
 (ur4_ (s_0, ([] : List Int))).bind fun r11 =>
 some (r11.1, r11.2.1, r11.2.2)
noncomputable def u9w_ : Int → Option (Bool) := fun c_0 =>
 some (((eqI c_0 (46 : Int)) || (eqI c_0 (45 : Int))) || (eqI c_0 (95 : Int)))
noncomputable def uty_ : Str × YY30 → Option (Int) := fun (s_0, is_1) =>
 (bif (decide ((1 : Int) < (s_0.length : Int))) then at? s_0 (0 : Int) else some 0).bind fun b1 =>
 (bif (decide ((1 : Int) < (s_0.length : Int))) then u9w_ (b1.toNat : Int) else some false).bind fun r2 =>
 (bif ((decide ((1 : Int) < (s_0.length : Int))) && r2) then at? s_0 (1 : Int) else some 0).bind fun b3 =>
 (bif ((decide ((1 : Int) < (s_0.length : Int))) && r2) then is_1 (b3.toNat : Int) else some false).bind fun r4 =>
 bif (((decide ((1 : Int) < (s_0.length : Int))) && r2) && r4) then
  some (1 : Int)
 else
  some (0 : Int)
noncomputable def u1j_ (next : Str × Str × (List Str) × Int × Int → Option Str) : Str × Str × (List Str) × Int × Int → Option Str := fun (s_0, word_2, t7, t8, t9) =>
 bif (decide (t9 < t8)) then
  (at? t7 t9).bind fun y2 =>
  (strings_HasPrefix (s_0, y2)).bind fun r3 =>
  bif r3 then
   some y2
  else
   next (s_0, word_2, t7, t8, (IntKind.i64.wrap (t9 + (1 : Int))))
 else
  some word_2
noncomputable def ur5_ : Str × Str × (List Str) × Int × Int → Option Str := loopN u1j_ fuel
noncomputable def ulo_ : Str × Bool → Option (Bool) := fun (t18, t21) =>
 bif t21 then
  some t21
 else
  some (eqS t18 ([97, 108, 112, 104, 97] : Str))
noncomputable def ulp_ : Str × Bool → Option (Bool) := fun (t18, t25) =>
 bif t25 then
  some t25
 else
  some (eqS t18 ([98, 101, 116, 97] : Str))
noncomputable def ulq_ : Str × Bool → Option (Bool) := fun (t18, t29) =>
 bif t29 then
  some t29
 else
  bif (eqS t18 ([114, 99] : Str)) then
   some (eqS t18 ([114, 99] : Str))
  else
   bif (eqS t18 ([112, 114, 101] : Str)) then
    some (eqS t18 ([112, 114, 101] : Str))
   else
    some (eqS t18 ([112, 114, 101, 118, 105, 101, 119] : Str))
noncomputable def urq_ : Str → Option YY10 := fun s_0 =>
 let v1 := ([([112, 114, 101, 118, 105, 101, 119] : Str), ([97, 108, 112, 104, 97] : Str), ([98, 101, 116, 97] : Str), ([112, 111, 115, 116] : Str), ([112, 114, 101] : Str), ([114, 101, 118] : Str), ([100, 101, 118] : Str), ([114, 99] : Str), ([97] : Str), ([98] : Str), ([99] : Str), ([114] : Str)] : List Str)
 (ur5_ (s_0, ([] : Str), v1, (v1.length : Int), (0 : Int))).bind fun r4 =>
 bif (eqS r4 ([] : Str)) then
  some (([] : Str), (0 : Int), (0 : Int))
 else
  (ulo_ (r4, (eqS r4 ([97] : Str)))).bind fun r5 =>
  bif r5 then
   some (r4, (1 : Int), (1 : Int))
  else
   (ulp_ (r4, (eqS r4 ([98] : Str)))).bind fun r6 =>
   bif r6 then
    some (r4, (1 : Int), (2 : Int))
   else
    (ulq_ (r4, (eqS r4 ([99] : Str)))).bind fun r7 =>
    bif r7 then
     some (r4, (1 : Int), (3 : Int))
    else
     bif (eqS r4 ([112, 111, 115, 116] : Str)) then
      bif (eqS r4 ([112, 111, 115, 116] : Str)) then
       some (r4, (2 : Int), (0 : Int))
      else
       some (r4, (3 : Int), (0 : Int))
     else
      bif (eqS r4 ([114, 101, 118] : Str)) then
       bif (eqS r4 ([114, 101, 118] : Str)) then
        some (r4, (2 : Int), (0 : Int))
       else
        some (r4, (3 : Int), (0 : Int))
      else
       bif (eqS r4 ([114] : Str)) then
        some (r4, (2 : Int), (0 : Int))
       else
        some (r4, (3 : Int), (0 : Int))
noncomputable def uh1_ : Str × Int × Int × Bool → Option (Sum (Str × Int) (Str × Bool)) := fun (rest_7, n_11, k_12, t49) =>
 bif t49 then
  (uc6_ (rest_7, k_12, (fun x => (u5_ x).bind fun r => some r))).bind fun r9 =>
  (cut? rest_7 k_12 (IntKind.i64.wrap (k_12 + r9))).bind fun s10 =>
  (ub3_ s10).bind fun r11 =>
  bif (!r11.2) then
   some (.inr (([] : Str), false))
  else
   (cut? rest_7 (IntKind.i64.wrap (k_12 + r9)) (rest_7.length : Int)).bind fun s12 =>
   some (.inl (s12, r11.1))
 else
  some (.inl (rest_7, n_11))
noncomputable def uvq_ (next : YY9 × Str × Int → Option (YY9 × Str × Bool)) : YY9 × Str × Int → Option (YY9 × Str × Bool) := fun (v_0, s_1, last_6) =>
 (uty_ (s_1, (fun x => (ufe_ x).bind fun r => some r))).bind fun r1 =>
 (cut? s_1 r1 (s_1.length : Int)).bind fun s2 =>
 (urq_ s2).bind fun r3 =>
 bif (eqS r3.1 ([] : Str)) then
  some (v_0, s_1, true)
 else
  bif (decide (r3.2.1 ≤ last_6)) then
   some (v_0, ([] : Str), false)
  else
   (cut? s2 (r3.1.length : Int) (s2.length : Int)).bind fun s4 =>
   (uty_ (s4, (fun x => (u5_ x).bind fun r => some r))).bind fun r5 =>
   (bif ((!(decide ((0 : Int) < r5))) && (!(eqS s4 ([] : Str)))) then at? s4 (0 : Int) else some 0).bind fun b6 =>
   (bif ((!(decide ((0 : Int) < r5))) && (!(eqS s4 ([] : Str)))) then u5_ (b6.toNat : Int) else some false).bind fun r7 =>
   (uh1_ (s4, (0 : Int), r5, ((decide ((0 : Int) < r5)) || ((!(eqS s4 ([] : Str))) && r7)))).bind fun r13 =>
   match r13 with
   | .inl y14 =>
     bif (eqI r3.2.1 (1 : Int)) then
      next ((v_0.1, (v_0.2.1, (r3.2.2, (y14.2, v_0.2.2.2.2)))), y14.1, r3.2.1)
     else
      bif (eqI r3.2.1 (2 : Int)) then
       next ((v_0.1, (v_0.2.1, (v_0.2.2.1, (v_0.2.2.2.1, (y14.2, v_0.2.2.2.2.2))))), y14.1, r3.2.1)
      else
       bif (eqI r3.2.1 (3 : Int)) then
        next ((v_0.1, (v_0.2.1, (v_0.2.2.1, (v_0.2.2.2.1, (v_0.2.2.2.2.1, (y14.2, v_0.2.2.2.2.2.2)))))), y14.1, r3.2.1)
       else
        next (v_0, y14.1, r3.2.1)
   | .inr y14' =>
     some (v_0, y14'.1, y14'.2)
noncomputable def um5_ : YY9 × Str × Int → Option (YY9 × Str × Bool) := loopN uvq_ fuel
noncomputable def ulr_ : YY9 × Str → Option (Str × Bool × YY9) := fun (v_0, s_1) =>
 (um5_ (v_0, s_1, (0 : Int))).bind fun r15 =>
 some (r15.2.1, r15.2.2, r15.1)
noncomputable def uwr_ : Int → Option (Bool) := fun c_0 =>
 some (((eqI c_0 (46 : Int)) || (eqI c_0 (45 : Int))) || (eqI c_0 (95 : Int)))
noncomputable def upe_ : Int → Option (Bool) := fun c_0 =>
 (u5_ c_0).bind fun r1 =>
 (bif (!r1) then ufe_ c_0 else some false).bind fun r2 =>
 some (r1 || r2)
noncomputable def u7l_ (next : Int × (List Str) × Int × Int → Option (Sum (Int) YY25)) : Int × (List Str) × Int × Int → Option (Sum (Int) YY25) := fun (n_5, t13, t14, t15) =>
 bif (decide (t15 < t14)) then
  (at? t13 t15).bind fun y2 =>
  (uc6_ (y2, (0 : Int), (fun x => (u5_ x).bind fun r => some r))).bind fun r3 =>
  (uc6_ (y2, (0 : Int), (fun x => (upe_ x).bind fun r => some r))).bind fun r4 =>
  bif ((!(eqI r4 (y2.length : Int))) || ((eqI r3 (y2.length : Int)) && (decide ((18 : Int) < r3)))) then
   some (.inr (([] : List Str), false))
  else
   next ((IntKind.i64.wrap (n_5 + (y2.length : Int))), t13, t14, (IntKind.i64.wrap (t15 + (1 : Int))))
 else
  some (.inl n_5)
noncomputable def uws_ : Int × (List Str) × Int × Int → Option (Sum (Int) YY25) := loopN u7l_ fuel
noncomputable def uxh_ : Str → Option YY25 := fun s_0 =>
 (uhr_ (s_0, (fun x => (uwr_ x).bind fun r => some r))).bind fun r1 =>
 (uws_ ((r1.length : Int), r1, (r1.length : Int), (0 : Int))).bind fun r6 =>
 match r6 with
 | .inl y7 =>
   some (r1, ((decide ((0 : Int) < (r1.length : Int))) && (eqI (IntKind.i64.wrap (y7 - (1 : Int))) (s_0.length : Int))))
 | .inr y7' =>
   some (y7'.1, y7'.2)
noncomputable def ujx_ : Str × YY9 × Int × Bool → Option (Sum (Str × YY9) (YY1 × Bool)) := fun (s_0, v_4, n_5, t29) =>
 bif t29 then
  (cut? s_0 (0 : Int) n_5).bind fun s6 =>
  (ub3_ s6).bind fun r7 =>
  bif (!r7.2) then
   some (.inr ((Sum.inr (Sum.inr (Sum.inr (Sum.inr (Sum.inr ()))))), false))
  else
   (cut? s_0 (IntKind.i64.wrap (n_5 + (1 : Int))) (s_0.length : Int)).bind fun s8 =>
   some (.inl (s8, (r7.1, v_4.2)))
 else
  some (.inl (s_0, v_4))
noncomputable def upf_ : Str → Option (YY1 × Bool) := fun s_0 =>
 (strings_TrimPrefix (s_0, ([118] : Str))).bind fun r2 =>
 (uc6_ (r2, (0 : Int), (fun x => (u5_ x).bind fun r => some r))).bind fun r3 =>
 (bif (decide (r3 < (r2.length : Int))) then at? r2 r3 else some 0).bind fun b4 =>
 (ujx_ (r2, ((0 : Int), (([] : List Int), ((0 : Int), ((0 : Int), ((-1 : Int), ((-1 : Int), ([] : List Str))))))), r3, ((decide (r3 < (r2.length : Int))) && (eqI (b4.toNat : Int) (33 : Int))))).bind fun r9 =>
 match r9 with
 | .inl y10 =>
   (urp_ y10.1).bind fun r11 =>
   bif (!r11.2.2) then
    some ((Sum.inr (Sum.inr (Sum.inr (Sum.inr (Sum.inr ()))))), false)
   else
    (ulr_ ((y10.2.1, (r11.1, y10.2.2.2)), r11.2.1)).bind fun r12 =>
    bif (!r12.2.1) then
     some ((Sum.inr (Sum.inr (Sum.inr (Sum.inr (Sum.inr ()))))), false)
    else
     (strings_CutPrefix (r12.1, ([43] : Str))).bind fun r13 =>
     bif r13.2 then
      (uxh_ r13.1).bind fun r14 =>
      some ((Sum.inr (Sum.inr (Sum.inl (r12.2.2.1, (r12.2.2.2.1, (r12.2.2.2.2.1, (r12.2.2.2.2.2.1, (r12.2.2.2.2.2.2.1, (r12.2.2.2.2.2.2.2.1, r14.1))))))))), r14.2)
     else
      some ((Sum.inr (Sum.inr (Sum.inl r12.2.2))), (eqS r12.1 ([] : Str)))
 | .inr y10' =>
   some (y10'.1, y10'.2)
noncomputable def u4s_ : Str × Bool → Option Str := fun (w_0, followed_1) =>
 (uq0_ w_0).bind fun r1 =>
 bif ((eqS r1 ([97] : Str)) && followed_1) then
  some ([97, 108, 112, 104, 97] : Str)
 else
  bif ((eqS r1 ([98] : Str)) && followed_1) then
   some ([98, 101, 116, 97] : Str)
  else
   bif ((eqS r1 ([109] : Str)) && followed_1) then
    some ([109, 105, 108, 101, 115, 116, 111, 110, 101] : Str)
   else
    bif (eqS r1 ([99, 114] : Str)) then
     some ([114, 99] : Str)
    else
     bif (((eqS r1 ([102, 105, 110, 97, 108] : Str)) || (eqS r1 ([103, 97] : Str))) || (eqS r1 ([114, 101, 108, 101, 97, 115, 101] : Str))) then
      some ([] : Str)
     else
      some r1
noncomputable def ugy_ : Bool × Str × Int → Option (Bool) := fun t_0 =>
 some ((t_0.1 && (eqS t_0.2.1 ([] : Str))) || ((!t_0.1) && (eqI t_0.2.2 (0 : Int))))
noncomputable def uhk_ : Str × Int × Bool → Option (Sum (Int) (YY1 × Bool)) := fun (s_0, at_5, t24) =>
 bif t24 then
  let v4 := (eqI at_5 (IntKind.i64.wrap ((s_0.length : Int) - (1 : Int))))
  (bif (!((eqI at_5 (0 : Int)) || v4)) then at? s_0 (IntKind.i64.wrap (at_5 + (1 : Int))) else some 0).bind fun b5 =>
  (bif (!((eqI at_5 (0 : Int)) || v4)) then u5_ (b5.toNat : Int) else some false).bind fun r6 =>
  (bif ((!((eqI at_5 (0 : Int)) || v4)) && (!r6)) then at? s_0 (IntKind.i64.wrap (at_5 + (1 : Int))) else some 0).bind fun b7 =>
  (bif ((!((eqI at_5 (0 : Int)) || v4)) && (!r6)) then ufe_ (b7.toNat : Int) else some false).bind fun r8 =>
  bif (((eqI at_5 (0 : Int)) || v4) || ((!r6) && (!r8))) then
   some (.inr ((Sum.inr (Sum.inr (Sum.inr (Sum.inr (Sum.inr ()))))), false))
  else
   some (.inl (IntKind.i64.wrap (at_5 + (1 : Int))))
 else
  some (.inl at_5)
noncomputable def utz_ (next : Str × (List YY16) × Int → Option (Sum (List YY16) (YY1 × Bool))) : Str × (List YY16) × Int → Option (Sum (List YY16) (YY1 × Bool)) := fun (s_0, v_4, at_5) =>
 bif (decide (at_5 < (s_0.length : Int))) then
  (at? s_0 at_5).bind fun b1 =>
  (bif (!(eqI (b1.toNat : Int) (46 : Int))) then at? s_0 at_5 else some 0).bind fun b2 =>
  (uhk_ (s_0, at_5, ((eqI (b1.toNat : Int) (46 : Int)) || (eqI (b2.toNat : Int) (45 : Int))))).bind fun r9 =>
  match r9 with
  | .inl y10 =>
    (uc6_ (s_0, y10, (fun x => (u5_ x).bind fun r => some r))).bind fun r11 =>
    bif (decide ((0 : Int) < r11)) then
     (cut? s_0 y10 (IntKind.i64.wrap (y10 + r11))).bind fun s12 =>
     (ub3_ s12).bind fun r13 =>
     bif (!r13.2) then
      some (.inr ((Sum.inr (Sum.inr (Sum.inr (Sum.inr (Sum.inr ()))))), false))
     else
      (app? 72 v_4 ([(false, (([] : Str), r13.1))] : List YY16)).bind fun l15 =>
      next (s_0, l15, (IntKind.i64.wrap (y10 + r11)))
    else
     (uc6_ (s_0, y10, (fun x => (ufe_ x).bind fun r => some r))).bind fun r16 =>
     bif (eqI r16 (0 : Int)) then
      some (.inr ((Sum.inr (Sum.inr (Sum.inr (Sum.inr (Sum.inr ()))))), false))
     else
      let v17 := (decide ((IntKind.i64.wrap (y10 + r16)) < (s_0.length : Int)))
      (bif v17 then at? s_0 (IntKind.i64.wrap (y10 + r16)) else some 0).bind fun b18 =>
      (bif v17 then u5_ (b18.toNat : Int) else some false).bind fun r19 =>
      (cut? s_0 y10 (IntKind.i64.wrap (y10 + r16))).bind fun s20 =>
      (u4s_ (s20, (v17 && r19))).bind fun r21 =>
      (app? 72 v_4 ([(true, (r21, (0 : Int)))] : List YY16)).bind fun l23 =>
      next (s_0, l23, (IntKind.i64.wrap (y10 + r16)))
  | .inr y10' =>
    some (.inr (y10'.1, y10'.2))
 else
  some (.inl v_4)
noncomputable def uls_ : Str × (List YY16) × Int → Option (Sum (List YY16) (YY1 × Bool)) := loopN utz_ fuel
noncomputable def ut0_ (next : List YY16 → Option (List YY16)) : List YY16 → Option (List YY16) := fun v_4 =>
 (bif (decide ((0 : Int) < (v_4.length : Int))) then at? v_4 (IntKind.i64.wrap ((v_4.length : Int) - (1 : Int))) else some (false, (([] : Str), (0 : Int)))).bind fun y29 =>
 (bif (decide ((0 : Int) < (v_4.length : Int))) then ugy_ y29 else some false).bind fun r30 =>
 bif ((decide ((0 : Int) < (v_4.length : Int))) && r30) then
  (cut? v_4 (0 : Int) (IntKind.i64.wrap ((v_4.length : Int) - (1 : Int)))).bind fun s31 =>
  next s31
 else
  some v_4
noncomputable def ult_ : List YY16 → Option (List YY16) := loopN ut0_ fuel
noncomputable def ujy_ : Str → Option (YY1 × Bool) := fun s_0 =>
 (uls_ (s_0, ([] : List YY16), (0 : Int))).bind fun r24 =>
 match r24 with
 | .inl y25 =>
   (ult_ y25).bind fun r32 =>
   some ((Sum.inr (Sum.inr (Sum.inr (Sum.inl r32)))), true)
 | .inr y25' =>
   some (y25'.1, y25'.2)
noncomputable def urr_ : Str → Option (YY1 × Bool) := fun s_0 =>
 (ufd_ s_0).bind fun r1 =>
 some ((Sum.inr (Sum.inr (Sum.inr (Sum.inr (Sum.inl r1.1))))), r1.2)
noncomputable def udq_ : Int × Str → Option (YY1 × Int) := fun (kind_0, s_1) =>
 bif ((decide (kind_0 < (1 : Int))) || (decide ((5 : Int) < kind_0))) then
  some ((Sum.inr (Sum.inr (Sum.inr (Sum.inr (Sum.inr ()))))), (7 : Int))
 else
  bif ((eqS s_1 ([] : Str)) || (decide ((100 : Int) < (s_1.length : Int)))) then
   some ((Sum.inr (Sum.inr (Sum.inr (Sum.inr (Sum.inr ()))))), (3 : Int))
  else
   bif (eqI kind_0 (1 : Int)) then
    (upd_ s_1).bind fun r3 =>
    bif (!r3.2) then
     some ((Sum.inr (Sum.inr (Sum.inr (Sum.inr (Sum.inr ()))))), (6 : Int))
    else
     some (r3.1, (0 : Int))
   else
    bif (eqI kind_0 (2 : Int)) then
     (unu_ s_1).bind fun r4 =>
     bif (!r4.2) then
      some ((Sum.inr (Sum.inr (Sum.inr (Sum.inr (Sum.inr ()))))), (6 : Int))
     else
      some (r4.1, (0 : Int))
    else
     bif (eqI kind_0 (3 : Int)) then
      (uq0_ s_1).bind fun r5 =>
      (upf_ r5).bind fun r6 =>
      bif (!r6.2) then
       some ((Sum.inr (Sum.inr (Sum.inr (Sum.inr (Sum.inr ()))))), (6 : Int))
      else
       some (r6.1, (0 : Int))
     else
      bif (eqI kind_0 (4 : Int)) then
       (ujy_ s_1).bind fun r7 =>
       bif (!r7.2) then
        some ((Sum.inr (Sum.inr (Sum.inr (Sum.inr (Sum.inr ()))))), (6 : Int))
       else
        some (r7.1, (0 : Int))
      else
       bif (eqI kind_0 (5 : Int)) then
        (urr_ s_1).bind fun r8 =>
        bif (!r8.2) then
         some ((Sum.inr (Sum.inr (Sum.inr (Sum.inr (Sum.inr ()))))), (6 : Int))
        else
         some (r8.1, (0 : Int))
       else
        bif (!false) then
         some ((Sum.inr (Sum.inr (Sum.inr (Sum.inr (Sum.inr ()))))), (6 : Int))
        else
         some ((Sum.inr (Sum.inr (Sum.inr (Sum.inr (Sum.inr ()))))), (0 : Int))
noncomputable def uxv_ (next : (List Str) × (List Int) × Int × Int → Option (List Str)) : (List Str) × (List Int) × Int × Int → Option (List Str) := fun (parts_3, t6, t7, t8) =>
 bif (decide (t8 < t7)) then
  (at? t6 t8).bind fun y1 =>
  (strconv_Itoa y1).bind fun r2 =>
  (app? 24 parts_3 ([r2] : List Str)).bind fun l3 =>
  next (l3, t6, t7, (IntKind.i64.wrap (t8 + (1 : Int))))
 else
  some parts_3
noncomputable def uoe_ : (List Str) × (List Int) × Int × Int → Option (List Str) := loopN uxv_ fuel
noncomputable def ui2_ : List Int → Option Str := fun l_0 =>
 (uoe_ (([] : List Str), l_0, (l_0.length : Int), (0 : Int))).bind fun r4 =>
 (strings_Join (r4, ([46] : Str))).bind fun r5 =>
 some r5
noncomputable def uht_ : (List Int) × (List Str) → Option Str := fun v_0 =>
 (cut? v_0.1 (0 : Int) (v_0.1.length : Int)).bind fun s1 =>
 (ui2_ s1).bind fun r2 =>
 bif (decide ((0 : Int) < (v_0.2.length : Int))) then
  (strings_Join (v_0.2, ([46] : Str))).bind fun r3 =>
  (cat? ([45] : Str) r3).bind fun s4 =>
  (cat? r2 s4).bind fun s5 =>
  some s5
 else
  some r2
noncomputable def uxw_ (next : Str × (List Int) × Int → Option (List Int)) : Str × (List Int) × Int → Option (List Int) := fun (s_0, b_3, at_4) =>
 bif (decide (at_4 < (s_0.length : Int))) then
  (uc6_ (s_0, at_4, (fun x => (u5_ x).bind fun r => some r))).bind fun r1 =>
  bif (eqI r1 (0 : Int)) then
   (at? s_0 at_4).bind fun b2 =>
   (ubf_ (b_3, (b2.toNat : Int))).bind fun r3 =>
   next (s_0, r3.2, (IntKind.i64.wrap (at_4 + (1 : Int))))
  else
   (cut? s_0 at_4 (IntKind.i64.wrap (at_4 + r1))).bind fun s4 =>
   (ub3_ s4).bind fun r5 =>
   bif (((!(eqI r5.1 (0 : Int))) || (decide ((IntKind.i64.wrap (at_4 + r1)) < (s_0.length : Int)))) || (eqI r1 (s_0.length : Int))) then
    (strconv_Itoa r5.1).bind fun r8 =>
    (ubk_ (b_3, r8)).bind fun r9 =>
    next (s_0, r9.2.2, (IntKind.i64.wrap (at_4 + r1)))
   else
    next (s_0, b_3, (IntKind.i64.wrap (at_4 + r1)))
 else
  some b_3
noncomputable def uof_ : Str × (List Int) × Int → Option (List Int) := loopN uxw_ fuel
noncomputable def ui3_ : Str → Option Str := fun s_0 =>
 (uof_ (s_0, ([] : List Int), (0 : Int))).bind fun r10 =>
 (ub2_ r10).bind fun r11 =>
 some r11
noncomputable def uhu_ : Int × Str × Str × Bool → Option Str := fun v_0 =>
 bif (eqS v_0.2.2.1 ([] : Str)) then
  some ([48] : Str)
 else
  some v_0.2.2.1
noncomputable def ujz_ : Int → Option (Bool) := fun c_0 =>
 (u5_ c_0).bind fun r1 =>
 some (!r1)
noncomputable def u7m_ (next : Str × (List Int) × Int × Int → Option (List Int)) : Str × (List Int) × Int × Int → Option (List Int) := fun (s_0, b_3, t6, t7) =>
 bif (decide (t7 < t6)) then
  (at? s_0 t7).bind fun b1 =>
  bif (eqI (b1.toNat : Int) (126 : Int)) then
   (ubf_ (b_3, (1 : Int))).bind fun r2 =>
   next (s_0, r2.2, t6, (IntKind.i64.wrap (t7 + (1 : Int))))
  else
   (at? s_0 t7).bind fun b3 =>
   (ufe_ (b3.toNat : Int)).bind fun r4 =>
   bif r4 then
    (at? s_0 t7).bind fun b5 =>
    (ubf_ (b_3, (b5.toNat : Int))).bind fun r6 =>
    next (s_0, r6.2, t6, (IntKind.i64.wrap (t7 + (1 : Int))))
   else
    (at? s_0 t7).bind fun b7 =>
    (ubf_ (b_3, (IntKind.u8.wrap ((b7.toNat : Int) + (128 : Int))))).bind fun r8 =>
    next (s_0, r8.2, t6, (IntKind.i64.wrap (t7 + (1 : Int))))
 else
  some b_3
noncomputable def uwt_ : Str × (List Int) × Int × Int → Option (List Int) := loopN u7m_ fuel
noncomputable def uxi_ : Str → Option Str := fun s_0 =>
 (uwt_ (s_0, ([] : List Int), (s_0.length : Int), (0 : Int))).bind fun r9 =>
 (ub2_ r9).bind fun r10 =>
 (cat? r10 ([2] : Str)).bind fun s11 =>
 some s11
noncomputable def udr_ : Int → Option Str := fun n_0 =>
 (strconv_Itoa n_0).bind fun r1 =>
 (strings_Repeat (([48] : Str), (IntKind.i64.wrap ((18 : Int) - (r1.length : Int))))).bind fun r2 =>
 (cat? r2 r1).bind fun s3 =>
 some s3
noncomputable def uzr_ (next : Str × (List Int) → Option (List Int)) : Str × (List Int) → Option (List Int) := fun (s_0, b_3) =>
 bif (!(eqS s_0 ([] : Str))) then
  (uc6_ (s_0, (0 : Int), (fun x => (ujz_ x).bind fun r => some r))).bind fun r1 =>
  (uc6_ (s_0, r1, (fun x => (u5_ x).bind fun r => some r))).bind fun r2 =>
  (cut? s_0 r1 (IntKind.i64.wrap (r1 + r2))).bind fun s3 =>
  (ub3_ s3).bind fun r4 =>
  (cut? s_0 (0 : Int) r1).bind fun s5 =>
  (uxi_ s5).bind fun r6 =>
  (udr_ r4.1).bind fun r7 =>
  (cat? r6 r7).bind fun s8 =>
  (ubk_ (b_3, s8)).bind fun r9 =>
  (cut? s_0 (IntKind.i64.wrap (r1 + r2)) (s_0.length : Int)).bind fun s10 =>
  next (s10, r9.2.2)
 else
  some b_3
noncomputable def uqa_ : Str × (List Int) → Option (List Int) := loopN uzr_ fuel
noncomputable def uf6_ : Str → Option Str := fun s_0 =>
 (uqa_ (s_0, ([] : List Int))).bind fun r11 =>
 (ub2_ r11).bind fun r12 =>
 (cat? r12 ([2] : Str)).bind fun s13 =>
 some s13
noncomputable def uhl_ : YY29 × Str × Bool → Option (YY29 × Str) := fun (v_1, s_3, t9) =>
 bif t9 then
  (strconv_Itoa v_1.1).bind fun r2 =>
  (cat? r2 ([58] : Str)).bind fun s3 =>
  (cat? s3 s_3).bind fun s4 =>
  some (v_1, s4)
 else
  some (v_1, s_3)
noncomputable def uhe_ : Int × Str × Str × Bool → Option Str := fun v_0 =>
 (ui3_ v_0.2.1).bind fun r1 =>
 (uhl_ (v_0, r1, (!(eqI v_0.1 (0 : Int))))).bind fun r5 =>
 (uhu_ r5.1).bind fun r6 =>
 (uf6_ r6).bind fun r7 =>
 (uf6_ ([48] : Str)).bind fun r8 =>
 bif (!(eqS r7 r8)) then
  (cat? r5.2 ([45] : Str)).bind fun s9 =>
  (ui3_ r5.1.2.2.1).bind fun r10 =>
  (cat? s9 r10).bind fun s11 =>
  some s11
 else
  bif r5.1.2.2.2 then
   (cat? r5.2 ([45, 48] : Str)).bind fun s12 =>
   some s12
  else
   some r5.2
noncomputable def u7n_ (next : List Int → Option (List Int)) : List Int → Option (List Int) := fun l_0 =>
 (bif (decide ((0 : Int) < (l_0.length : Int))) then at? l_0 (IntKind.i64.wrap ((l_0.length : Int) - (1 : Int))) else some (0 : Int)).bind fun y1 =>
 bif ((decide ((0 : Int) < (l_0.length : Int))) && (eqI y1 (0 : Int))) then
  (cut? l_0 (0 : Int) (IntKind.i64.wrap ((l_0.length : Int) - (1 : Int)))).bind fun s3 =>
  next s3
 else
  some l_0
noncomputable def uwu_ : List Int → Option (List Int) := loopN u7n_ fuel
noncomputable def uq1_ : List Int → Option (List Int) := fun l_0 =>
 (uwu_ l_0).bind fun r4 =>
 some r4
noncomputable def uh2_ : YY9 × Str × Bool → Option (YY9 × Str) := fun (v_1, s_3, t11) =>
 bif t11 then
  (strconv_Itoa v_1.1).bind fun r1 =>
  (cat? r1 ([33] : Str)).bind fun s2 =>
  some (v_1, s2)
 else
  some (v_1, s_3)
noncomputable def uh3_ : Str × (List Int) × Bool → Option Str := fun (s_3, l_4, t21) =>
 bif t21 then
  (ui2_ l_4).bind fun r5 =>
  (cat? s_3 r5).bind fun s6 =>
  some s6
 else
  (cat? s_3 ([48] : Str)).bind fun s7 =>
  some s7
noncomputable def uh4_ : YY9 × Str × Bool → Option (YY9 × Str) := fun (v_1, s_3, t30) =>
 bif t30 then
  (at? ([([] : Str), ([97] : Str), ([98] : Str), ([114, 99] : Str)] : List Str) v_1.2.2.1).bind fun y10 =>
  (strconv_Itoa v_1.2.2.2.1).bind fun r11 =>
  (cat? y10 r11).bind fun s12 =>
  (cat? s_3 s12).bind fun s13 =>
  some (v_1, s13)
 else
  some (v_1, s_3)
noncomputable def uh5_ : YY9 × Str × Bool → Option (YY9 × Str) := fun (v_1, s_3, t44) =>
 bif t44 then
  (strconv_Itoa v_1.2.2.2.2.1).bind fun r15 =>
  (cat? ([46, 112, 111, 115, 116] : Str) r15).bind fun s16 =>
  (cat? s_3 s16).bind fun s17 =>
  some (v_1, s17)
 else
  some (v_1, s_3)
noncomputable def uh6_ : YY9 × Str × Bool → Option (YY9 × Str) := fun (v_1, s_3, t53) =>
 bif t53 then
  (strconv_Itoa v_1.2.2.2.2.2.1).bind fun r19 =>
  (cat? ([46, 100, 101, 118] : Str) r19).bind fun s20 =>
  (cat? s_3 s20).bind fun s21 =>
  some (v_1, s21)
 else
  some (v_1, s_3)
noncomputable def uh7_ : Str × Int × Bool → Option Str := fun (p_6, n_7, t73) =>
 bif t73 then
  (strconv_Itoa n_7).bind fun r25 =>
  some r25
 else
  some p_6
noncomputable def uvr_ (next : Str × (List Str) × Int × Int → Option Str) : Str × (List Str) × Int × Int → Option Str := fun (s_3, t61, t62, t63) =>
 bif (decide (t63 < t62)) then
  (at? t61 t63).bind fun y23 =>
  (ub3_ y23).bind fun r24 =>
  (uh7_ (y23, r24.1, r24.2)).bind fun r26 =>
  bif (eqI t63 (0 : Int)) then
   (cat? ([43] : Str) r26).bind fun s27 =>
   (cat? s_3 s27).bind fun s28 =>
   next (s28, t61, t62, (IntKind.i64.wrap (t63 + (1 : Int))))
  else
   (cat? ([46] : Str) r26).bind fun s29 =>
   (cat? s_3 s29).bind fun s30 =>
   next (s30, t61, t62, (IntKind.i64.wrap (t63 + (1 : Int))))
 else
  some s_3
noncomputable def um6_ : Str × (List Str) × Int × Int → Option Str := loopN uvr_ fuel
noncomputable def uhv_ : Int × (List Int) × Int × Int × Int × Int × (List Str) → Option Str := fun v_0 =>
 (uh2_ (v_0, ([] : Str), (!(eqI v_0.1 (0 : Int))))).bind fun r3 =>
 (uq1_ r3.1.2.1).bind fun r4 =>
 (uh3_ (r3.2, r4, (decide ((0 : Int) < (r4.length : Int))))).bind fun r8 =>
 (uh4_ (r3.1, r8, (decide ((0 : Int) < r3.1.2.2.1)))).bind fun r14 =>
 (uh5_ (r14.1, r14.2, (decide ((0 : Int) ≤ r14.1.2.2.2.2.1)))).bind fun r18 =>
 (uh6_ (r18.1, r18.2, (decide ((0 : Int) ≤ r18.1.2.2.2.2.2.1)))).bind fun r22 =>
 (um6_ (r22.2, r22.1.2.2.2.2.2.2, (r22.1.2.2.2.2.2.2.length : Int), (0 : Int))).bind fun r31 =>
 some r31
noncomputable def uq2_ (next : (List Str) × (List YY16) × Int × Int → Option (List Str)) : (List Str) × (List YY16) × Int × Int → Option (List Str) := fun (l_3, t7, t8, t9) =>
 bif (decide (t9 < t8)) then
  (at? t7 t9).bind fun y1 =>
  (ugy_ y1).bind fun r2 =>
  bif r2 then
   (app? 24 l_3 ([([48] : Str)] : List Str)).bind fun l3 =>
   next (l3, t7, t8, (IntKind.i64.wrap (t9 + (1 : Int))))
  else
   bif y1.1 then
    (app? 24 l_3 ([y1.2.1] : List Str)).bind fun l4 =>
    next (l4, t7, t8, (IntKind.i64.wrap (t9 + (1 : Int))))
   else
    (strconv_Itoa y1.2.2).bind fun r5 =>
    (app? 24 l_3 ([r5] : List Str)).bind fun l6 =>
    next (l6, t7, t8, (IntKind.i64.wrap (t9 + (1 : Int))))
 else
  some l_3
noncomputable def ujk_ : (List Str) × (List YY16) × Int × Int → Option (List Str) := loopN uq2_ fuel
noncomputable def ufu_ : List YY16 → Option Str := fun v_0 =>
 (ujk_ (([] : List Str), v_0, (v_0.length : Int), (0 : Int))).bind fun r7 =>
 bif (eqI (r7.length : Int) (0 : Int)) then
  some ([48] : Str)
 else
  (strings_Join (r7, ([45] : Str))).bind fun r8 =>
  some r8
noncomputable def ui4_ : Int → Option Str := fun v_0 =>
 (strconv_Itoa v_0).bind fun r1 =>
 some r1
noncomputable def uxj_ : Sum YY23 (Sum YY29 (Sum YY9 (Sum (List YY16) (Sum Int Unit)))) → Option (Str × Int) := fun v_0 =>
 ((fun z => Sum.casesOn (motive := fun _ => Option Str) z (fun x => (uht_ x).bind fun r => some r) (fun z => Sum.casesOn (motive := fun _ => Option Str) z (fun x => (uhe_ x).bind fun r => some r) (fun z => Sum.casesOn (motive := fun _ => Option Str) z (fun x => (uhv_ x).bind fun r => some r) (fun z => Sum.casesOn (motive := fun _ => Option Str) z (fun x => (ufu_ x).bind fun r => some r) (fun z => Sum.casesOn (motive := fun _ => Option Str) z (fun x => (ui4_ x).bind fun r => some r) (fun _ => none)))))) v_0).bind fun r1 =>
 bif (decide ((100 : Int) < (r1.length : Int))) then
  some (([] : Str), (3 : Int))
 else
  some (r1, (0 : Int))
noncomputable def uog_ : Int × Str → Option (Str × Int) := fun (kind_0, s_1) =>
 (udq_ (kind_0, s_1)).bind fun r1 =>
 bif (!(eqI r1.2 (0 : Int))) then
  some (([] : Str), r1.2)
 else
  (uxj_ r1.1).bind fun r2 =>
  some (r2.1, r2.2)
noncomputable def uvs_ (next : YY3 × YY19 × Int × Int → Option YY18) : YY3 × YY19 × Int × Int → Option YY18 := fun (a_1, t12, t13, t14) =>
 bif (decide (t14 < t13)) then
  (at? t12 t14).bind fun y1 =>
  bif ((decide (y1.1 < (1 : Int))) || (decide ((3 : Int) < y1.1))) then
   some (.inr (7 : Int))
  else
   bif (eqS y1.2 ([] : Str)) then
    bif (!(eqI y1.1 (1 : Int))) then
     some (.inr (2 : Int))
    else
     next (a_1, t12, t13, (IntKind.i64.wrap (t14 + (1 : Int))))
   else
    (uog_ (a_1.2.1, y1.2)).bind fun r2 =>
    bif (!(eqI r2.2 (0 : Int))) then
     some (.inr r2.2)
    else
     next (a_1, t12, t13, (IntKind.i64.wrap (t14 + (1 : Int))))
 else
  some (.inl ())
noncomputable def um7_ : YY3 × YY19 × Int × Int → Option YY18 := loopN uvs_ fuel
noncomputable def ulu_ : Str × Int × YY19 × (List Str) × (List Str) → Option (Int) := fun a_0 =>
 bif (decide ((100 : Int) < (a_0.2.2.1.length : Int))) then
  some (3 : Int)
 else
  (um7_ (a_0, a_0.2.2.1, (a_0.2.2.1.length : Int), (0 : Int))).bind fun r3 =>
  match r3 with
  | .inl y4 =>
    some (0 : Int)
  | .inr y4' =>
    some y4'
noncomputable def uq3_ (next : Str × Bool × Int × Int → Option (Bool)) : Str × Bool × Int × Int → Option (Bool) := fun (s_4, bad_5, t25, t26) =>
 bif (decide (t26 < t25)) then
  (bif (!bad_5) then at? s_4 t26 else some 0).bind fun b3 =>
  (bif (!(bad_5 || (decide ((b3.toNat : Int) < (33 : Int))))) then at? s_4 t26 else some 0).bind fun b4 =>
  next (s_4, ((bad_5 || (decide ((b3.toNat : Int) < (33 : Int)))) || (decide ((126 : Int) < (b4.toNat : Int)))), t25, (IntKind.i64.wrap (t26 + (1 : Int))))
 else
  some bad_5
noncomputable def ujl_ : Str × Bool × Int × Int → Option (Bool) := loopN uq3_ fuel
noncomputable def uq4_ (next : (List Str) × (List Str) × Int × Int → Option YY18) : (List Str) × (List Str) × Int × Int → Option YY18 := fun (l_0, t10, t11, t12) =>
 bif (decide (t12 < t11)) then
  (at? t10 t12).bind fun y1 =>
  (ujl_ (y1, ((eqS y1 ([] : Str)) || (decide ((200 : Int) < (y1.length : Int)))), (y1.length : Int), (0 : Int))).bind fun r6 =>
  bif r6 then
   some (.inr (8 : Int))
  else
   (bif (decide ((0 : Int) < t12)) then at? l_0 (IntKind.i64.wrap (t12 - (1 : Int))) else some ([] : Str)).bind fun y7 =>
   bif ((decide ((0 : Int) < t12)) && (Op.bytesLess y1 y7 || eqS y1 y7)) then
    some (.inr (10 : Int))
   else
    next (l_0, t10, t11, (IntKind.i64.wrap (t12 + (1 : Int))))
 else
  some (.inl ())
noncomputable def ujm_ : (List Str) × (List Str) × Int × Int → Option YY18 := loopN uq4_ fuel
noncomputable def uh8_ : List Str → Option (Int) := fun l_0 =>
 bif (decide ((200 : Int) < (l_0.length : Int))) then
  some (3 : Int)
 else
  (ujm_ (l_0, l_0, (l_0.length : Int), (0 : Int))).bind fun r9 =>
  match r9 with
  | .inl y10 =>
    some (0 : Int)
  | .inr y10' =>
    some y10'
noncomputable def usx_ (next : YY3 × (List Str) × Int × Int → Option (Sum YY3 (Int))) : YY3 × (List Str) × Int × Int → Option (Sum YY3 (Int)) := fun (a_1, t32, t33, t34) =>
 bif (decide (t34 < t33)) then
  (at? t32 t34).bind fun y4 =>
  (uog_ (a_1.2.1, y4)).bind fun r5 =>
  bif (!(eqI r5.2 (0 : Int))) then
   some (.inr r5.2)
  else
   next (a_1, t32, t33, (IntKind.i64.wrap (t34 + (1 : Int))))
 else
  some (.inl a_1)
noncomputable def ukf_ : YY3 × (List Str) × Int × Int → Option (Sum YY3 (Int)) := loopN usx_ fuel
noncomputable def ui5_ : Str × Int × YY19 × (List Str) × (List Str) → Option (Int) := fun a_0 =>
 (u0r_ a_0.1).bind fun r1 =>
 bif (!r1) then
  some (8 : Int)
 else
  bif ((decide (a_0.2.1 < (1 : Int))) || (decide ((5 : Int) < a_0.2.1))) then
   some (7 : Int)
  else
   (ulu_ a_0).bind fun r3 =>
   bif (!(eqI r3 (0 : Int))) then
    some r3
   else
    bif (decide ((500 : Int) < (a_0.2.2.2.1.length : Int))) then
     some (3 : Int)
    else
     (ukf_ (a_0, a_0.2.2.2.1, (a_0.2.2.2.1.length : Int), (0 : Int))).bind fun r6 =>
     match r6 with
     | .inl y7 =>
       (uh8_ y7.2.2.2.2).bind fun r8 =>
       some r8
     | .inr y7' =>
       some y7'
noncomputable def u0s_ : Unit → Option (List Int) := fun _ =>
 some ([(0 : Int), (1 : Int), (0 : Int), (2 : Int)] : List Int)
noncomputable def uxx_ (next : (Int → Option Str) × (List Int) × (List Int) × Int × Int → Option (List Int)) : (Int → Option Str) × (List Int) × (List Int) × Int × Int → Option (List Int) := fun (one_2, b_7, t10, t11, t12) =>
 bif (decide (t12 < t11)) then
  (at? t10 t12).bind fun y1 =>
  (one_2 y1).bind fun r2 =>
  (ubk_ (b_7, r2)).bind fun r3 =>
  next (one_2, r3.2.2, t10, t11, (IntKind.i64.wrap (t12 + (1 : Int))))
 else
  some b_7
noncomputable def uoh_ : (Int → Option Str) × (List Int) × (List Int) × Int × Int → Option (List Int) := loopN uxx_ fuel
noncomputable def ui6_ : (List Int) × Str × (Int → Option Str) → Option Str := fun (l_0, end_1, one_2) =>
 (uoh_ (one_2, ([] : List Int), l_0, (l_0.length : Int), (0 : Int))).bind fun r4 =>
 (ub2_ r4).bind fun r5 =>
 (cat? r5 end_1).bind fun s6 =>
 some s6
noncomputable def usy_ (next : (Str → Option Str) × (List Int) × (List Str) × Int × Int → Option (List Int)) : (Str → Option Str) × (List Int) × (List Str) × Int × Int → Option (List Int) := fun (one_2, b_7, t10, t11, t12) =>
 bif (decide (t12 < t11)) then
  (at? t10 t12).bind fun y1 =>
  (one_2 y1).bind fun r2 =>
  (ubk_ (b_7, r2)).bind fun r3 =>
  next (one_2, r3.2.2, t10, t11, (IntKind.i64.wrap (t12 + (1 : Int))))
 else
  some b_7
noncomputable def ukg_ : (Str → Option Str) × (List Int) × (List Str) × Int × Int → Option (List Int) := loopN usy_ fuel
noncomputable def ugn_ : (List Str) × Str × (Str → Option Str) → Option Str := fun (l_0, end_1, one_2) =>
 (ukg_ (one_2, ([] : List Int), l_0, (l_0.length : Int), (0 : Int))).bind fun r4 =>
 (ub2_ r4).bind fun r5 =>
 (cat? r5 end_1).bind fun s6 =>
 some s6
noncomputable def uxk_ : Str → Option Str := fun p_0 =>
 (ub3_ p_0).bind fun r1 =>
 bif r1.2 then
  (udr_ r1.1).bind fun r2 =>
  (cat? ([48] : Str) r2).bind fun s3 =>
  some s3
 else
  (cat? ([49] : Str) p_0).bind fun s4 =>
  (cat? s4 ([32] : Str)).bind fun s5 =>
  some s5
noncomputable def uc7_ : (List Int) × (List Str) → Option Str := fun v_0 =>
 (cut? v_0.1 (0 : Int) (v_0.1.length : Int)).bind fun s1 =>
 (ui6_ (s1, ([] : Str), (fun x => (udr_ x).bind fun r => some r))).bind fun r2 =>
 bif (eqI (v_0.2.length : Int) (0 : Int)) then
  (cat? r2 ([126] : Str)).bind fun s3 =>
  some s3
 else
  (cat? r2 ([33] : Str)).bind fun s4 =>
  (ugn_ (v_0.2, ([33] : Str), (fun x => (uxk_ x).bind fun r => some r))).bind fun r5 =>
  (cat? s4 r5).bind fun s6 =>
  some s6
noncomputable def uch_ : Int × Str × Str × Bool → Option Str := fun v_0 =>
 (udr_ v_0.1).bind fun r1 =>
 (uf6_ v_0.2.1).bind fun r2 =>
 (cat? r1 r2).bind fun s3 =>
 (uhu_ v_0).bind fun r4 =>
 (uf6_ r4).bind fun r5 =>
 (cat? s3 r5).bind fun s6 =>
 some s6
noncomputable def uj0_ : Int → Option Str := fun n_0 =>
 (udr_ n_0).bind fun r1 =>
 (cat? ([49] : Str) r1).bind fun s2 =>
 some s2
noncomputable def ulv_ : Int × (List Int) × Int × Int × Int × Int × (List Str) → Option (Int) := fun v_0 =>
 bif (decide ((0 : Int) < v_0.2.2.1)) then
  some v_0.2.2.1
 else
  bif ((decide ((0 : Int) ≤ v_0.2.2.2.2.2.1)) && (decide (v_0.2.2.2.2.1 < (0 : Int)))) then
   some (0 : Int)
  else
   some (4 : Int)
noncomputable def u4t_ : Int → Option Str := fun n_0 =>
 bif (decide (n_0 < (0 : Int))) then
  some ([48] : Str)
 else
  (udr_ n_0).bind fun r1 =>
  (cat? ([49] : Str) r1).bind fun s2 =>
  some s2
noncomputable def ut1_ : Str → Option Str := fun p_0 =>
 (ub3_ p_0).bind fun r1 =>
 bif r1.2 then
  (udr_ r1.1).bind fun r2 =>
  (cat? ([50] : Str) r2).bind fun s3 =>
  some s3
 else
  (cat? ([49] : Str) p_0).bind fun s4 =>
  (cat? s4 ([32] : Str)).bind fun s5 =>
  some s5
noncomputable def uj1_ : YY9 × Str × Bool → Option (YY9 × Str) := fun (v_1, s_3, t27) =>
 bif t27 then
  (udr_ v_1.2.2.2.2.2.1).bind fun r12 =>
  (cat? ([48] : Str) r12).bind fun s13 =>
  (cat? s_3 s13).bind fun s14 =>
  some (v_1, s14)
 else
  (cat? s_3 ([49] : Str)).bind fun s15 =>
  some (v_1, s15)
noncomputable def uc8_ : Int × (List Int) × Int × Int × Int × Int × (List Str) → Option Str := fun v_0 =>
 (udr_ v_0.1).bind fun r1 =>
 (uq1_ v_0.2.1).bind fun r2 =>
 (ui6_ (r2, ([48] : Str), (fun x => (uj0_ x).bind fun r => some r))).bind fun r3 =>
 (cat? r1 r3).bind fun s4 =>
 (ulv_ v_0).bind fun r5 =>
 (strconv_Itoa r5).bind fun r6 =>
 (udr_ v_0.2.2.2.1).bind fun r7 =>
 (cat? r6 r7).bind fun s8 =>
 (u4t_ v_0.2.2.2.2.1).bind fun r9 =>
 (cat? s8 r9).bind fun s10 =>
 (cat? s4 s10).bind fun s11 =>
 (uj1_ (v_0, s11, (decide ((0 : Int) ≤ v_0.2.2.2.2.2.1)))).bind fun r16 =>
 bif (eqI (r16.1.2.2.2.2.2.2.length : Int) (0 : Int)) then
  (cat? r16.2 ([48] : Str)).bind fun s17 =>
  some s17
 else
  (cat? r16.2 ([49] : Str)).bind fun s18 =>
  (ugn_ (r16.1.2.2.2.2.2.2, ([48] : Str), (fun x => (ut1_ x).bind fun r => some r))).bind fun r19 =>
  (cat? s18 r19).bind fun s20 =>
  some s20
noncomputable def uxy_ : Unit → Option (List Str) := fun _ =>
 some ([([97, 108, 112, 104, 97] : Str), ([98, 101, 116, 97] : Str), ([109, 105, 108, 101, 115, 116, 111, 110, 101] : Str), ([114, 99] : Str), ([115, 110, 97, 112, 115, 104, 111, 116] : Str)] : List Str)
noncomputable def uoi_ (next : (List Str) × Str × Int × Int → Option YY18) : (List Str) × Str × Int × Int → Option YY18 := fun (s_0, v_1, t7, t8) =>
 bif (decide (t8 < t7)) then
  (at? s_0 t8).bind fun y1 =>
  bif (eqS v_1 y1) then
   some (.inr t8)
  else
   next (s_0, v_1, t7, (IntKind.i64.wrap (t8 + (1 : Int))))
 else
  some (.inl ())
noncomputable def uoj_ : (List Str) × Str × Int × Int → Option YY18 := loopN uoi_ fuel
noncomputable def ugz_ : (List Str) × Str → Option (Int) := fun (s_0, v_1) =>
 (uoj_ (s_0, v_1, (s_0.length : Int), (0 : Int))).bind fun r2 =>
 match r2 with
 | .inl y3 =>
   some (-1 : Int)
 | .inr y3' =>
   some y3'
noncomputable def uds_ : (List Str) × Str → Option (Bool) := fun (s_0, v_1) =>
 (ugz_ (s_0, v_1)).bind fun r1 =>
 some (decide ((0 : Int) ≤ r1))
noncomputable def uhw_ : Bool × Str × Int → Option (Bool) := fun t_0 =>
 (bif t_0.1 then uxy_ () else some ([] : List Str)).bind fun r1 =>
 (bif t_0.1 then uds_ (r1, t_0.2.1) else some false).bind fun r2 =>
 some (t_0.1 && r2)
noncomputable def uok_ : Bool × Str × Int → Option Str := fun t_0 =>
 bif (!t_0.1) then
  (udr_ t_0.2.2).bind fun r1 =>
  (cat? ([56] : Str) r1).bind fun s2 =>
  some s2
 else
  (uhw_ t_0).bind fun r3 =>
  bif r3 then
   (uxy_ ()).bind fun r4 =>
   (ugz_ (r4, t_0.2.1)).bind fun r5 =>
   (strconv_Itoa r5).bind fun r6 =>
   some r6
  else
   bif (eqS t_0.2.1 ([115, 112] : Str)) then
    some ([54] : Str)
   else
    (cat? ([55] : Str) t_0.2.1).bind fun s7 =>
    (cat? s7 ([32] : Str)).bind fun s8 =>
    some s8
noncomputable def ut2_ (next : Str × Int × (List YY16) × Int × Int → Option Str) : Str × Int × (List YY16) × Int × Int → Option Str := fun (s_3, blanks_4, t8, t9, t10) =>
 bif (decide (t10 < t9)) then
  (at? t8 t10).bind fun y1 =>
  (ugy_ y1).bind fun r2 =>
  bif r2 then
   next (s_3, (IntKind.i64.wrap (blanks_4 + (1 : Int))), t8, t9, (IntKind.i64.wrap (t10 + (1 : Int))))
  else
   (uhw_ y1).bind fun r3 =>
   bif r3 then
    (strconv_Itoa (IntKind.i64.wrap ((100 : Int) + blanks_4))).bind fun r4 =>
    (cat? ([49] : Str) r4).bind fun s5 =>
    (uok_ y1).bind fun r6 =>
    (cat? s5 r6).bind fun s7 =>
    (cat? s_3 s7).bind fun s8 =>
    next (s8, (0 : Int), t8, t9, (IntKind.i64.wrap (t10 + (1 : Int))))
   else
    (strconv_Itoa (IntKind.i64.wrap ((900 : Int) - blanks_4))).bind fun r9 =>
    (cat? ([51] : Str) r9).bind fun s10 =>
    (uok_ y1).bind fun r11 =>
    (cat? s10 r11).bind fun s12 =>
    (cat? s_3 s12).bind fun s13 =>
    next (s13, (0 : Int), t8, t9, (IntKind.i64.wrap (t10 + (1 : Int))))
 else
  some s_3
noncomputable def ulw_ : Str × Int × (List YY16) × Int × Int → Option Str := loopN ut2_ fuel
noncomputable def ubv_ : List YY16 → Option Str := fun v_0 =>
 (ulw_ (([] : Str), (0 : Int), v_0, (v_0.length : Int), (0 : Int))).bind fun r14 =>
 (cat? r14 ([50] : Str)).bind fun s15 =>
 some s15
noncomputable def ud0_ : Int → Option Str := fun v_0 =>
 (udr_ v_0).bind fun r1 =>
 some r1
noncomputable def upg_ : Int × Str → Option (Str × Int) := fun (kind_0, s_1) =>
 (udq_ (kind_0, s_1)).bind fun r1 =>
 bif (!(eqI r1.2 (0 : Int))) then
  some (([] : Str), r1.2)
 else
  ((fun z => Sum.casesOn (motive := fun _ => Option Str) z (fun x => (uc7_ x).bind fun r => some r) (fun z => Sum.casesOn (motive := fun _ => Option Str) z (fun x => (uch_ x).bind fun r => some r) (fun z => Sum.casesOn (motive := fun _ => Option Str) z (fun x => (uc8_ x).bind fun r => some r) (fun z => Sum.casesOn (motive := fun _ => Option Str) z (fun x => (ubv_ x).bind fun r => some r) (fun z => Sum.casesOn (motive := fun _ => Option Str) z (fun x => (ud0_ x).bind fun r => some r) (fun _ => none)))))) r1.1).bind fun r2 =>
  some (r2, (0 : Int))
noncomputable def ueu_ (next : (List YY2) × Int × YY11 × Int → Option (List YY2)) : (List YY2) × Int × YY11 × Int → Option (List YY2) := fun (data_0, a_1, cmp_3, j_9) =>
 (bif (decide (a_1 < j_9)) then in? data_0.length j_9 else some ()).bind fun _ =>
 (bif (decide (a_1 < j_9)) then in? data_0.length (IntKind.i64.wrap (j_9 - (1 : Int))) else some ()).bind fun _ =>
 (bif (decide (a_1 < j_9)) then cmp_3 ((data_0.getD j_9.toNat ((0 : Int), (([] : Str), (([] : Str), (0 : Int))))), (data_0.getD ((IntKind.i64.wrap (j_9 - (1 : Int))).toNat) ((0 : Int), (([] : Str), (([] : Str), (0 : Int)))))) else some (0 : Int)).bind fun r3 =>
 bif ((decide (a_1 < j_9)) && (decide (r3 < (0 : Int)))) then
  (in? data_0.length (IntKind.i64.wrap (j_9 - (1 : Int)))).bind fun _ =>
  let v4 := (data_0.getD ((IntKind.i64.wrap (j_9 - (1 : Int))).toNat) ((0 : Int), (([] : Str), (([] : Str), (0 : Int)))))
  (in? data_0.length j_9).bind fun _ =>
  (in? data_0.length j_9).bind fun _ =>
  (in? (data_0.set j_9.toNat v4).length (IntKind.i64.wrap (j_9 - (1 : Int)))).bind fun _ =>
  next (((data_0.set j_9.toNat v4).set ((IntKind.i64.wrap (j_9 - (1 : Int))).toNat) (data_0.getD j_9.toNat ((0 : Int), (([] : Str), (([] : Str), (0 : Int)))))), a_1, cmp_3, (IntKind.i64.wrap (j_9 - (1 : Int))))
 else
  some data_0
noncomputable def ucd_ : (List YY2) × Int × YY11 × Int → Option (List YY2) := loopN ueu_ fuel
noncomputable def uev_ (next : (List YY2) × Int × Int × YY11 × Int → Option (List YY2)) : (List YY2) × Int × Int × YY11 × Int → Option (List YY2) := fun (data_0, a_1, b_2, cmp_3, i_8) =>
 bif (decide (i_8 < b_2)) then
  (ucd_ (data_0, a_1, cmp_3, i_8)).bind fun r7 =>
  next (r7, a_1, b_2, cmp_3, (IntKind.i64.wrap (i_8 + (1 : Int))))
 else
  some data_0
noncomputable def uce_ : (List YY2) × Int × Int × YY11 × Int → Option (List YY2) := loopN uev_ fuel
noncomputable def ube_ : (List YY2) × Int × Int × YY11 → Option (List YY2) := fun (data_0, a_1, b_2, cmp_3) =>
 (uce_ (data_0, a_1, b_2, cmp_3, (IntKind.i64.wrap (a_1 + (1 : Int))))).bind fun r8 =>
 some r8
noncomputable def ufv_ (next : (List YY2) × Int × Int × Int × Int → Option (List YY2)) : (List YY2) × Int × Int × Int × Int → Option (List YY2) := fun (data_0, a_1, b_2, n_3, i_10) =>
 bif (decide (i_10 < n_3)) then
  (in? data_0.length (IntKind.i64.wrap (b_2 + i_10))).bind fun _ =>
  let v1 := (data_0.getD ((IntKind.i64.wrap (b_2 + i_10)).toNat) ((0 : Int), (([] : Str), (([] : Str), (0 : Int)))))
  (in? data_0.length (IntKind.i64.wrap (a_1 + i_10))).bind fun _ =>
  (in? data_0.length (IntKind.i64.wrap (a_1 + i_10))).bind fun _ =>
  (in? (data_0.set ((IntKind.i64.wrap (a_1 + i_10)).toNat) v1).length (IntKind.i64.wrap (b_2 + i_10))).bind fun _ =>
  next (((data_0.set ((IntKind.i64.wrap (a_1 + i_10)).toNat) v1).set ((IntKind.i64.wrap (b_2 + i_10)).toNat) (data_0.getD ((IntKind.i64.wrap (a_1 + i_10)).toNat) ((0 : Int), (([] : Str), (([] : Str), (0 : Int)))))), a_1, b_2, n_3, (IntKind.i64.wrap (i_10 + (1 : Int))))
 else
  some data_0
noncomputable def uc9_ : (List YY2) × Int × Int × Int × Int → Option (List YY2) := loopN ufv_ fuel
noncomputable def ubc_ : (List YY2) × Int × Int × Int × YY11 → Option (List YY2) := fun (data_0, a_1, b_2, n_3, cmp_4) =>
 (uc9_ (data_0, a_1, b_2, n_3, (0 : Int))).bind fun r4 =>
 some r4
noncomputable def ug0_ (next : (List YY2) × Int × YY11 × Int × Int → Option YY28) : (List YY2) × Int × YY11 × Int × Int → Option YY28 := fun (data_0, m_2, cmp_4, i_10, j_11) =>
 bif (!(eqI i_10 j_11)) then
  bif (decide (j_11 < i_10)) then
   (ubc_ (data_0, (IntKind.i64.wrap (m_2 - i_10)), m_2, j_11, cmp_4)).bind fun r1 =>
   next (r1, m_2, cmp_4, (IntKind.i64.wrap (i_10 - j_11)), j_11)
  else
   (ubc_ (data_0, (IntKind.i64.wrap (m_2 - i_10)), (IntKind.i64.wrap ((IntKind.i64.wrap (m_2 + j_11)) - i_10)), i_10, cmp_4)).bind fun r2 =>
   next (r2, m_2, cmp_4, i_10, (IntKind.i64.wrap (j_11 - i_10)))
 else
  some (data_0, i_10)
noncomputable def ud5_ : (List YY2) × Int × YY11 × Int × Int → Option YY28 := loopN ug0_ fuel
noncomputable def ucn_ : (List YY2) × Int × Int × Int × YY11 → Option (List YY2) := fun (data_0, a_1, m_2, b_3, cmp_4) =>
 (ud5_ (data_0, m_2, cmp_4, (IntKind.i64.wrap (m_2 - a_1)), (IntKind.i64.wrap (b_3 - m_2)))).bind fun r3 =>
 (ubc_ (r3.1, (IntKind.i64.wrap (m_2 - r3.2)), m_2, r3.2, cmp_4)).bind fun r4 =>
 some r4
noncomputable def ugf_ (slf : (List YY2) × Int × Int × Int × YY11 → Option (List YY2)) (next : (List YY2) × Int × YY11 × Int × Int → Option YY28) : (List YY2) × Int × YY11 × Int × Int → Option YY28 := fun (data_0, a_1, cmp_4, i_10, j_11) =>
 bif (decide (i_10 < j_11)) then
  (shr? IntKind.u64 (IntKind.u64.wrap (IntKind.i64.wrap (i_10 + j_11))) (1 : Int)).bind fun n1 =>
  (in? data_0.length (IntKind.i64.wrap n1)).bind fun _ =>
  (in? data_0.length a_1).bind fun _ =>
  (cmp_4 ((data_0.getD ((IntKind.i64.wrap n1).toNat) ((0 : Int), (([] : Str), (([] : Str), (0 : Int))))), (data_0.getD a_1.toNat ((0 : Int), (([] : Str), (([] : Str), (0 : Int))))))).bind fun r4 =>
  bif (decide (r4 < (0 : Int))) then
   next (data_0, a_1, cmp_4, (IntKind.i64.wrap ((IntKind.i64.wrap n1) + (1 : Int))), j_11)
  else
   next (data_0, a_1, cmp_4, i_10, (IntKind.i64.wrap n1))
 else
  some (data_0, i_10)
noncomputable def udm_ (slf : (List YY2) × Int × Int × Int × YY11 → Option (List YY2)) : (List YY2) × Int × YY11 × Int × Int → Option YY28 := loopN (ugf_ slf) fuel
noncomputable def ugg_ (slf : (List YY2) × Int × Int × Int × YY11 → Option (List YY2)) (next : (List YY2) × Int × Int → Option (List YY2)) : (List YY2) × Int × Int → Option (List YY2) := fun (data_0, i_10, k_13) =>
 bif (decide (k_13 < (IntKind.i64.wrap (i_10 - (1 : Int))))) then
  (in? data_0.length (IntKind.i64.wrap (k_13 + (1 : Int)))).bind fun _ =>
  let v6 := (data_0.getD ((IntKind.i64.wrap (k_13 + (1 : Int))).toNat) ((0 : Int), (([] : Str), (([] : Str), (0 : Int)))))
  (in? data_0.length k_13).bind fun _ =>
  (in? data_0.length k_13).bind fun _ =>
  (in? (data_0.set k_13.toNat v6).length (IntKind.i64.wrap (k_13 + (1 : Int)))).bind fun _ =>
  next (((data_0.set k_13.toNat v6).set ((IntKind.i64.wrap (k_13 + (1 : Int))).toNat) (data_0.getD k_13.toNat ((0 : Int), (([] : Str), (([] : Str), (0 : Int)))))), i_10, (IntKind.i64.wrap (k_13 + (1 : Int))))
 else
  some data_0
noncomputable def udn_ (slf : (List YY2) × Int × Int × Int × YY11 → Option (List YY2)) : (List YY2) × Int × Int → Option (List YY2) := loopN (ugg_ slf) fuel
noncomputable def ugh_ (slf : (List YY2) × Int × Int × Int × YY11 → Option (List YY2)) (next : (List YY2) × Int × YY11 × Int × Int → Option YY28) : (List YY2) × Int × YY11 × Int × Int → Option YY28 := fun (data_0, m_2, cmp_4, i_14, j_15) =>
 bif (decide (i_14 < j_15)) then
  (shr? IntKind.u64 (IntKind.u64.wrap (IntKind.i64.wrap (i_14 + j_15))) (1 : Int)).bind fun n10 =>
  (in? data_0.length m_2).bind fun _ =>
  (in? data_0.length (IntKind.i64.wrap n10)).bind fun _ =>
  (cmp_4 ((data_0.getD m_2.toNat ((0 : Int), (([] : Str), (([] : Str), (0 : Int))))), (data_0.getD ((IntKind.i64.wrap n10).toNat) ((0 : Int), (([] : Str), (([] : Str), (0 : Int))))))).bind fun r13 =>
  bif (!(decide (r13 < (0 : Int)))) then
   next (data_0, m_2, cmp_4, (IntKind.i64.wrap ((IntKind.i64.wrap n10) + (1 : Int))), j_15)
  else
   next (data_0, m_2, cmp_4, i_14, (IntKind.i64.wrap n10))
 else
  some (data_0, i_14)
noncomputable def udo_ (slf : (List YY2) × Int × Int × Int × YY11 → Option (List YY2)) : (List YY2) × Int × YY11 × Int × Int → Option YY28 := loopN (ugh_ slf) fuel
noncomputable def ufw_ (slf : (List YY2) × Int × Int × Int × YY11 → Option (List YY2)) (next : (List YY2) × Int × Int → Option (List YY2)) : (List YY2) × Int × Int → Option (List YY2) := fun (data_0, i_14, k_17) =>
 bif (decide (i_14 < k_17)) then
  (in? data_0.length (IntKind.i64.wrap (k_17 - (1 : Int)))).bind fun _ =>
  let v15 := (data_0.getD ((IntKind.i64.wrap (k_17 - (1 : Int))).toNat) ((0 : Int), (([] : Str), (([] : Str), (0 : Int)))))
  (in? data_0.length k_17).bind fun _ =>
  (in? data_0.length k_17).bind fun _ =>
  (in? (data_0.set k_17.toNat v15).length (IntKind.i64.wrap (k_17 - (1 : Int)))).bind fun _ =>
  next (((data_0.set k_17.toNat v15).set ((IntKind.i64.wrap (k_17 - (1 : Int))).toNat) (data_0.getD k_17.toNat ((0 : Int), (([] : Str), (([] : Str), (0 : Int)))))), i_14, (IntKind.i64.wrap (k_17 - (1 : Int))))
 else
  some data_0
noncomputable def uda_ (slf : (List YY2) × Int × Int × Int × YY11 → Option (List YY2)) : (List YY2) × Int × Int → Option (List YY2) := loopN (ufw_ slf) fuel
noncomputable def ubq_ (slf : (List YY2) × Int × Int × Int × YY11 → Option (List YY2)) : Int × Int × Int × Int × Int × Bool → Option (Int × Int) := fun (a_1, m_2, b_3, mid_18, n_19, t140) =>
 bif t140 then
  some ((IntKind.i64.wrap (n_19 - b_3)), mid_18)
 else
  some (a_1, m_2)
noncomputable def ufx_ (slf : (List YY2) × Int × Int × Int × YY11 → Option (List YY2)) (next : (List YY2) × YY11 × Int × Int × Int → Option YY28) : (List YY2) × YY11 × Int × Int × Int → Option YY28 := fun (data_0, cmp_4, start_20, r_21, p_22) =>
 bif (decide (start_20 < r_21)) then
  (shr? IntKind.u64 (IntKind.u64.wrap (IntKind.i64.wrap (start_20 + r_21))) (1 : Int)).bind fun n22 =>
  (in? data_0.length (IntKind.i64.wrap (p_22 - (IntKind.i64.wrap n22)))).bind fun _ =>
  (in? data_0.length (IntKind.i64.wrap n22)).bind fun _ =>
  (cmp_4 ((data_0.getD ((IntKind.i64.wrap (p_22 - (IntKind.i64.wrap n22))).toNat) ((0 : Int), (([] : Str), (([] : Str), (0 : Int))))), (data_0.getD ((IntKind.i64.wrap n22).toNat) ((0 : Int), (([] : Str), (([] : Str), (0 : Int))))))).bind fun r25 =>
  bif (!(decide (r25 < (0 : Int)))) then
   next (data_0, cmp_4, (IntKind.i64.wrap ((IntKind.i64.wrap n22) + (1 : Int))), r_21, p_22)
  else
   next (data_0, cmp_4, start_20, (IntKind.i64.wrap n22), p_22)
 else
  some (data_0, start_20)
noncomputable def udb_ (slf : (List YY2) × Int × Int × Int × YY11 → Option (List YY2)) : (List YY2) × YY11 × Int × Int × Int → Option YY28 := loopN (ufx_ slf) fuel
noncomputable def ubr_ (slf : (List YY2) × Int × Int × Int × YY11 → Option (List YY2)) : (List YY2) × Int × YY11 × Int × Int × Bool → Option (List YY2) := fun (data_0, m_2, cmp_4, start_20, end_24, t185) =>
 bif t185 then
  (ucn_ (data_0, start_20, m_2, end_24, cmp_4)).bind fun r28 =>
  some r28
 else
  some data_0
noncomputable def ubs_ (slf : (List YY2) × Int × Int × Int × YY11 → Option (List YY2)) : (List YY2) × Int × YY11 × Int × Int × Bool → Option (List YY2) := fun (data_0, a_1, cmp_4, mid_18, start_20, t199) =>
 bif t199 then
  (slf (data_0, a_1, start_20, mid_18, cmp_4)).bind fun r31 =>
  some r31
 else
  some data_0
noncomputable def ucq_ (slf : (List YY2) × Int × Int × Int × YY11 → Option (List YY2)) : (List YY2) × Int × Int × Int × YY11 → Option (List YY2) := fun (data_0, a_1, m_2, b_3, cmp_4) =>
 bif (eqI (IntKind.i64.wrap (m_2 - a_1)) (1 : Int)) then
  ((udm_ slf) (data_0, a_1, cmp_4, m_2, b_3)).bind fun r5 =>
  ((udn_ slf) (r5.1, r5.2, a_1)).bind fun r9 =>
  some r9
 else
  bif (eqI (IntKind.i64.wrap (b_3 - m_2)) (1 : Int)) then
   ((udo_ slf) (data_0, m_2, cmp_4, a_1, m_2)).bind fun r14 =>
   ((uda_ slf) (r14.1, r14.2, m_2)).bind fun r18 =>
   some r18
  else
   (shr? IntKind.u64 (IntKind.u64.wrap (IntKind.i64.wrap (a_1 + b_3))) (1 : Int)).bind fun n19 =>
   ((ubq_ slf) (a_1, m_2, b_3, (IntKind.i64.wrap n19), (IntKind.i64.wrap ((IntKind.i64.wrap n19) + m_2)), (decide ((IntKind.i64.wrap n19) < m_2)))).bind fun r20 =>
   ((udb_ slf) (data_0, cmp_4, r20.1, r20.2, (IntKind.i64.wrap ((IntKind.i64.wrap ((IntKind.i64.wrap n19) + m_2)) - (1 : Int))))).bind fun r26 =>
   let v27 := (IntKind.i64.wrap ((IntKind.i64.wrap ((IntKind.i64.wrap n19) + m_2)) - r26.2))
   ((ubr_ slf) (r26.1, m_2, cmp_4, r26.2, v27, ((decide (r26.2 < m_2)) && (decide (m_2 < v27))))).bind fun r29 =>
   ((ubs_ slf) (r29, a_1, cmp_4, (IntKind.i64.wrap n19), r26.2, ((decide (a_1 < r26.2)) && (decide (r26.2 < (IntKind.i64.wrap n19)))))).bind fun r32 =>
   bif ((decide ((IntKind.i64.wrap n19) < v27)) && (decide (v27 < b_3))) then
    (slf (r32, (IntKind.i64.wrap n19), v27, b_3, cmp_4)).bind fun r34 =>
    some r34
   else
    some r32
noncomputable def ul_ : Nat → (List YY2) × Int × Int × Int × YY11 → Option (List YY2)
 | 0 => fun _ => none
 | n + 1 => ucq_ (ul_ n)
noncomputable def ubl_ : (List YY2) × Int × Int × Int × YY11 → Option (List YY2) := ul_ 100
noncomputable def ug1_ (next : (List YY2) × Int × YY11 × Int × Int × Int → Option YY28) : (List YY2) × Int × YY11 × Int × Int × Int → Option YY28 := fun (data_0, n_1, cmp_2, blockSize_6, a_7, b_8) =>
 bif (decide (b_8 ≤ n_1)) then
  (ube_ (data_0, a_7, b_8, cmp_2)).bind fun r1 =>
  next (r1, n_1, cmp_2, blockSize_6, b_8, (IntKind.i64.wrap (b_8 + blockSize_6)))
 else
  some (data_0, a_7)
noncomputable def ud6_ : (List YY2) × Int × YY11 × Int × Int × Int → Option YY28 := loopN ug1_ fuel
noncomputable def ug2_ (next : (List YY2) × Int × YY11 × Int × Int × Int → Option YY28) : (List YY2) × Int × YY11 × Int × Int × Int → Option YY28 := fun (data_0, n_1, cmp_2, blockSize_6, a_7, b_8) =>
 bif (decide (b_8 ≤ n_1)) then
  (ubl_ (data_0, a_7, (IntKind.i64.wrap (a_7 + blockSize_6)), b_8, cmp_2)).bind fun r4 =>
  next (r4, n_1, cmp_2, blockSize_6, b_8, (IntKind.i64.wrap (b_8 + (IntKind.i64.wrap ((2 : Int) * blockSize_6)))))
 else
  some (data_0, a_7)
noncomputable def ud7_ : (List YY2) × Int × YY11 × Int × Int × Int → Option YY28 := loopN ug2_ fuel
noncomputable def ug3_ (next : (List YY2) × Int × YY11 × Int → Option (List YY2)) : (List YY2) × Int × YY11 × Int → Option (List YY2) := fun (data_0, n_1, cmp_2, blockSize_6) =>
 bif (decide (blockSize_6 < n_1)) then
  (ud7_ (data_0, n_1, cmp_2, blockSize_6, (0 : Int), (IntKind.i64.wrap ((2 : Int) * blockSize_6)))).bind fun r6 =>
  bif (decide ((IntKind.i64.wrap (r6.2 + blockSize_6)) < n_1)) then
   (ubl_ (r6.1, r6.2, (IntKind.i64.wrap (r6.2 + blockSize_6)), n_1, cmp_2)).bind fun r7 =>
   next (r7, n_1, cmp_2, (IntKind.i64.wrap (blockSize_6 * (2 : Int))))
  else
   next (r6.1, n_1, cmp_2, (IntKind.i64.wrap (blockSize_6 * (2 : Int))))
 else
  some data_0
noncomputable def ud8_ : (List YY2) × Int × YY11 × Int → Option (List YY2) := loopN ug3_ fuel
noncomputable def uco_ : (List YY2) × Int × YY11 → Option (List YY2) := fun (data_0, n_1, cmp_2) =>
 (ud6_ (data_0, n_1, cmp_2, (20 : Int), (0 : Int), (20 : Int))).bind fun r2 =>
 (ube_ (r2.1, r2.2, n_1, cmp_2)).bind fun r3 =>
 (ud8_ (r3, n_1, cmp_2, (20 : Int))).bind fun r8 =>
 some r8
noncomputable def uci_ : (List YY2) × YY11 → Option (List YY2) := fun (x_0, cmp_1) =>
 (uco_ (x_0, (x_0.length : Int), cmp_1)).bind fun r1 =>
 some r1
noncomputable def u4u_ : Int → Option (Bool) := fun x_0 =>
 some (!(eqI x_0 x_0))
noncomputable def um2_ : Int × Int → Option (Int) := fun (x_0, y_1) =>
 (u4u_ x_0).bind fun r1 =>
 (u4u_ y_1).bind fun r2 =>
 bif r1 then
  bif r2 then
   some (0 : Int)
  else
   some (-1 : Int)
 else
  bif r2 then
   some (1 : Int)
  else
   bif (decide (x_0 < y_1)) then
    some (-1 : Int)
   else
    bif (decide (y_1 < x_0)) then
     some (1 : Int)
    else
     some (0 : Int)
noncomputable def ubrt_ (next : Int × (List Int) × Int × Int → Option YY18) : Int × (List Int) × Int × Int → Option YY18 := fun (zero_3, t6, t7, t8) =>
 bif (decide (t8 < t7)) then
  (at? t6 t8).bind fun y1 =>
  bif (!(eqI y1 zero_3)) then
   some (.inr y1)
  else
   next (zero_3, t6, t7, (IntKind.i64.wrap (t8 + (1 : Int))))
 else
  some (.inl ())
noncomputable def ubez_ : Int × (List Int) × Int × Int → Option YY18 := loopN ubrt_ fuel
noncomputable def ubne_ : List Int → Option (Int) := fun vals_0 =>
 (ubez_ ((0 : Int), vals_0, (vals_0.length : Int), (0 : Int))).bind fun r2 =>
 match r2 with
 | .inl y3 =>
   some (0 : Int)
 | .inr y3' =>
   some y3'
noncomputable def unv_ : YY2 × YY2 → Option (Int) := fun (x_0, y_1) =>
 (ucc_ (x_0.2.1, y_1.2.1)).bind fun r1 =>
 (um2_ (x_0.1, y_1.1)).bind fun r2 =>
 (ubne_ ([r1, r2] : List Int)).bind fun r3 =>
 some r3
noncomputable def u4v_ (next : YY3 × (List YY2) × YY19 × Int × Int → Option (List YY2)) : YY3 × (List YY2) × YY19 × Int × Int → Option (List YY2) := fun (a_1, out_3, t8, t9, t10) =>
 bif (decide (t10 < t9)) then
  (at? t8 t10).bind fun y1 =>
  (u0s_ ()).bind fun r2 =>
  (at? r2 y1.1).bind fun y3 =>
  bif (!(eqS y1.2 ([] : Str))) then
   (upg_ (a_1.2.1, y1.2)).bind fun r4 =>
   (uog_ (a_1.2.1, y1.2)).bind fun r5 =>
   (app? 96 out_3 ([(y3, (r4.1, (r5.1, y1.1)))] : List YY2)).bind fun l7 =>
   next (a_1, l7, t8, t9, (IntKind.i64.wrap (t10 + (1 : Int))))
  else
   (app? 96 out_3 ([(y3, (([] : Str), (([] : Str), y1.1)))] : List YY2)).bind fun l9 =>
   next (a_1, l9, t8, t9, (IntKind.i64.wrap (t10 + (1 : Int))))
 else
  some out_3
noncomputable def ut3_ : YY3 × (List YY2) × YY19 × Int × Int → Option (List YY2) := loopN u4v_ fuel
noncomputable def ut4_ : Str × Int × YY19 × (List Str) × (List Str) → Option (List YY2) := fun a_0 =>
 (ut3_ (a_0, ([] : List YY2), a_0.2.2.1, (a_0.2.2.1.length : Int), (0 : Int))).bind fun r10 =>
 (uci_ (r10, (fun x => (unv_ x).bind fun r => some r))).bind fun r11 =>
 some r11
noncomputable def ubb3_ (next : (List YY4) × Bool × YY22 × (List YY2) × Int × Int → Option ((List YY4) × Bool × YY22)) : (List YY4) × Bool × YY22 × (List YY2) × Int × Int → Option ((List YY4) × Bool × YY22) := fun (out_3, on_4, low_5, t15, t16, t17) =>
 bif (decide (t17 < t16)) then
  (at? t15 t17).bind fun y2 =>
  bif ((eqI y2.2.2.2 (1 : Int)) && (!on_4)) then
   bif (!(eqS y2.2.2.1 ([] : Str))) then
    next (out_3, true, (true, (true, y2.2.2.1)), t15, t16, (IntKind.i64.wrap (t17 + (1 : Int))))
   else
    next (out_3, true, (false, (false, ([] : Str))), t15, t16, (IntKind.i64.wrap (t17 + (1 : Int))))
  else
   bif ((!(eqI y2.2.2.2 (1 : Int))) && on_4) then
    (app? 144 out_3 ([(low_5, (true, ((eqI y2.2.2.2 (3 : Int)), y2.2.2.1)))] : List YY4)).bind fun l4 =>
    next (l4, false, low_5, t15, t16, (IntKind.i64.wrap (t17 + (1 : Int))))
   else
    next (out_3, on_4, low_5, t15, t16, (IntKind.i64.wrap (t17 + (1 : Int))))
 else
  some (out_3, on_4, low_5)
noncomputable def uy0_ : (List YY4) × Bool × YY22 × (List YY2) × Int × Int → Option ((List YY4) × Bool × YY22) := loopN ubb3_ fuel
noncomputable def urs_ : (List YY4) × YY22 × Bool → Option (List YY4) := fun (out_3, low_5, t56) =>
 bif t56 then
  (app? 144 out_3 ([(low_5, (false, (false, ([] : Str))))] : List YY4)).bind fun l7 =>
  some l7
 else
  some out_3
noncomputable def ubb4_ (next : YY3 × (List YY4) × (List Str) × Int × Int → Option (List YY4)) : YY3 × (List YY4) × (List Str) × Int × Int → Option (List YY4) := fun (a_1, out_3, t63, t64, t65) =>
 bif (decide (t65 < t64)) then
  (at? t63 t65).bind fun y9 =>
  (uog_ (a_1.2.1, y9)).bind fun r10 =>
  (app? 144 out_3 ([((true, (true, r10.1)), (true, (true, r10.1)))] : List YY4)).bind fun l12 =>
  next (a_1, l12, t63, t64, (IntKind.i64.wrap (t65 + (1 : Int))))
 else
  some out_3
noncomputable def uy1_ : YY3 × (List YY4) × (List Str) × Int × Int → Option (List YY4) := loopN ubb4_ fuel
noncomputable def u0t_ : Str × Int × YY19 × (List Str) × (List Str) → Option (List YY4) := fun a_0 =>
 (ut4_ a_0).bind fun r1 =>
 (uy0_ (([] : List YY4), false, (false, (false, ([] : Str))), r1, (r1.length : Int), (0 : Int))).bind fun r5 =>
 (urs_ (r5.1, r5.2.2, r5.2.1)).bind fun r8 =>
 (uy1_ (a_0, r8, a_0.2.2.2.1, (a_0.2.2.2.1.length : Int), (0 : Int))).bind fun r13 =>
 some r13
noncomputable def uf7_ : Int × YY22 → Option (Str × Int) := fun (kind_0, b_1) =>
 bif (!b_1.1) then
  bif (b_1.2.1 || (!(eqS b_1.2.2 ([] : Str)))) then
   some (([] : Str), (2 : Int))
  else
   some (([] : Str), (0 : Int))
 else
  (udq_ (kind_0, b_1.2.2)).bind fun r1 =>
  bif (!(eqI r1.2 (0 : Int))) then
   some (([] : Str), r1.2)
  else
   ((fun z => Sum.casesOn (motive := fun _ => Option Str) z (fun x => (uht_ x).bind fun r => some r) (fun z => Sum.casesOn (motive := fun _ => Option Str) z (fun x => (uhe_ x).bind fun r => some r) (fun z => Sum.casesOn (motive := fun _ => Option Str) z (fun x => (uhv_ x).bind fun r => some r) (fun z => Sum.casesOn (motive := fun _ => Option Str) z (fun x => (ufu_ x).bind fun r => some r) (fun z => Sum.casesOn (motive := fun _ => Option Str) z (fun x => (ui4_ x).bind fun r => some r) (fun _ => none)))))) r1.1).bind fun r2 =>
   bif (!(eqS r2 b_1.2.2)) then
    some (([] : Str), (2 : Int))
   else
    ((fun z => Sum.casesOn (motive := fun _ => Option Str) z (fun x => (uc7_ x).bind fun r => some r) (fun z => Sum.casesOn (motive := fun _ => Option Str) z (fun x => (uch_ x).bind fun r => some r) (fun z => Sum.casesOn (motive := fun _ => Option Str) z (fun x => (uc8_ x).bind fun r => some r) (fun z => Sum.casesOn (motive := fun _ => Option Str) z (fun x => (ubv_ x).bind fun r => some r) (fun z => Sum.casesOn (motive := fun _ => Option Str) z (fun x => (ud0_ x).bind fun r => some r) (fun _ => none)))))) r1.1).bind fun r3 =>
    some (r3, (0 : Int))
noncomputable def uq5_ : YY22 × Str → Option YY27 := fun (b_0, key_1) =>
 bif (!b_0.1) then
  some ((-1 : Int), (([] : Str), (false, ([] : Str))))
 else
  some ((0 : Int), (key_1, ((!b_0.2.1), b_0.2.2)))
noncomputable def uol_ : YY22 × Str → Option YY27 := fun (b_0, key_1) =>
 bif (!b_0.1) then
  some ((1 : Int), (([] : Str), (false, ([] : Str))))
 else
  some ((0 : Int), (key_1, (b_0.2.1, b_0.2.2)))
noncomputable def uby_ : YY27 × YY27 → Option (Int) := fun (a_0, b_1) =>
 bif ((!(eqI a_0.1 b_1.1)) || (!(eqI a_0.1 (0 : Int)))) then
  (um2_ (a_0.1, b_1.1)).bind fun r1 =>
  some r1
 else
  (ucc_ (a_0.2.1, b_1.2.1)).bind fun r2 =>
  bif ((!(eqI r2 (0 : Int))) || (eqB a_0.2.2.1 b_1.2.2.1)) then
   some r2
  else
   bif a_0.2.2.1 then
    some (1 : Int)
   else
    some (-1 : Int)
noncomputable def uff_ : YY5 × YY5 → Option (Int) := fun (a_0, b_1) =>
 (uby_ (a_0.1, b_1.1)).bind fun r1 =>
 some r1
noncomputable def uh9_ : YY5 × Int × Bool → Option (YY5 × Int) := fun (s_1, first_5, t10) =>
 bif t10 then
  (ub3_ s_1.1.2.2.2).bind fun r1 =>
  bif s_1.1.2.2.1 then
   some (s_1, (IntKind.i64.wrap (r1.1 + (1 : Int))))
  else
   some (s_1, r1.1)
 else
  some (s_1, first_5)
noncomputable def ulx_ : YY27 × YY27 → Option (Int × Int × Bool) := fun s_0 =>
 (uh9_ (s_0, (0 : Int), (eqI s_0.1.1 (0 : Int)))).bind fun r2 =>
 bif (eqI r2.1.2.1 (0 : Int)) then
  (ub3_ r2.1.2.2.2.2).bind fun r3 =>
  bif (!r2.1.2.2.2.1) then
   some (r2.2, (IntKind.i64.wrap (r3.1 - (1 : Int))), (decide (r2.2 ≤ (IntKind.i64.wrap (r3.1 - (1 : Int))))))
  else
   some (r2.2, r3.1, (decide (r2.2 ≤ r3.1)))
 else
  some (r2.2, (999999999999999999 : Int), (decide (r2.2 ≤ (999999999999999999 : Int))))
noncomputable def urt_ : Int × YY27 × Bool → Option YY27 := fun (last_8, high_10, t27) =>
 bif t27 then
  (udr_ last_8).bind fun r3 =>
  (strconv_Itoa last_8).bind fun r4 =>
  some ((0 : Int), (r3, (true, r4)))
 else
  some high_10
noncomputable def ubb5_ (next : (List YY5) × Int × (List YY5) × Int × Int → Option (List YY5)) : (List YY5) × Int × (List YY5) × Int × Int → Option (List YY5) := fun (out_3, end_4, t11, t12, t13) =>
 bif (decide (t13 < t12)) then
  (at? t11 t13).bind fun y1 =>
  (ulx_ y1).bind fun r2 =>
  bif (!r2.2.2) then
   next (out_3, end_4, t11, t12, (IntKind.i64.wrap (t13 + (1 : Int))))
  else
   (urt_ (r2.2.1, ((1 : Int), (([] : Str), (false, ([] : Str)))), (decide (r2.2.1 < (999999999999999999 : Int))))).bind fun r5 =>
   bif ((decide ((0 : Int) < (out_3.length : Int))) && (eqI r2.1 (IntKind.i64.wrap (end_4 + (1 : Int))))) then
    (in? out_3.length (IntKind.i64.wrap ((out_3.length : Int) - (1 : Int)))).bind fun _ =>
    next ((out_3.set ((IntKind.i64.wrap ((out_3.length : Int) - (1 : Int))).toNat) ((out_3.getD ((IntKind.i64.wrap ((out_3.length : Int) - (1 : Int))).toNat) (((0 : Int), (([] : Str), (false, ([] : Str)))), ((0 : Int), (([] : Str), (false, ([] : Str)))))).1, r5)), r2.2.1, t11, t12, (IntKind.i64.wrap (t13 + (1 : Int))))
   else
    (udr_ r2.1).bind fun r8 =>
    (strconv_Itoa r2.1).bind fun r9 =>
    (app? 192 out_3 ([(((0 : Int), (r8, (false, r9))), r5)] : List YY5)).bind fun l11 =>
    next (l11, r2.2.1, t11, t12, (IntKind.i64.wrap (t13 + (1 : Int))))
 else
  some out_3
noncomputable def uy2_ : (List YY5) × Int × (List YY5) × Int × Int → Option (List YY5) := loopN ubb5_ fuel
noncomputable def u0u_ : List YY5 → Option (List YY5) := fun l_0 =>
 (uy2_ (([] : List YY5), (-2 : Int), l_0, (l_0.length : Int), (0 : Int))).bind fun r12 =>
 some r12
noncomputable def uxl_ : (List YY5) × Bool → Option (List YY5) := fun (l_1, t11) =>
 bif t11 then
  (u0u_ l_1).bind fun r1 =>
  some r1
 else
  some l_1
noncomputable def uxm_ : YY5 × YY4 × Bool → Option (YY5 × YY4) := fun (s_8, x_9, t29) =>
 bif t29 then
  some (s_8, ((true, ((!s_8.1.2.2.1), s_8.1.2.2.2)), x_9.2))
 else
  some (s_8, x_9)
noncomputable def ubj3_ (next : YY13 × (List YY5) × Int × Int → Option YY13) : YY13 × (List YY5) × Int × Int → Option YY13 := fun (r_6, t20, t21, t22) =>
 bif (decide (t22 < t21)) then
  (at? t20 t22).bind fun y4 =>
  (uxm_ (y4, ((false, (false, ([] : Str))), (false, (false, ([] : Str)))), (eqI y4.1.1 (0 : Int)))).bind fun r5 =>
  bif (eqI r5.1.2.1 (0 : Int)) then
   (app? 144 r_6.2 ([(r5.2.1, (true, (r5.1.2.2.2.1, r5.1.2.2.2.2)))] : List YY4)).bind fun l7 =>
   next ((r_6.1, l7), t20, t21, (IntKind.i64.wrap (t22 + (1 : Int))))
  else
   (app? 144 r_6.2 ([r5.2] : List YY4)).bind fun l9 =>
   next ((r_6.1, l9), t20, t21, (IntKind.i64.wrap (t22 + (1 : Int))))
 else
  some (r_6.1, r_6.2)
noncomputable def u59_ : YY13 × (List YY5) × Int × Int → Option YY13 := loopN ubj3_ fuel
noncomputable def uwv_ : Int × (List YY5) → Option (YY13 × Int) := fun (kind_0, l_1) =>
 (uxl_ (l_1, (eqI kind_0 (5 : Int)))).bind fun r2 =>
 bif (decide ((200 : Int) < (r2.length : Int))) then
  some (((0 : Int), ([] : List YY4)), (3 : Int))
 else
  (u59_ ((kind_0, ([] : List YY4)), r2, (r2.length : Int), (0 : Int))).bind fun r10 =>
  some ((r10.1, r10.2), (0 : Int))
noncomputable def u1k_ (next : Int × YY13 × (List YY5) × (List YY4) × Int × Int → Option (Sum (YY13 × (List YY5)) (YY13 × Int))) : Int × YY13 × (List YY5) × (List YY4) × Int × Int → Option (Sum (YY13 × (List YY5)) (YY13 × Int)) := fun (kind_0, t4, all_6, t17, t18, t19) =>
 bif (decide (t19 < t18)) then
  (at? t17 t19).bind fun y1 =>
  (uf7_ (kind_0, y1.1)).bind fun r2 =>
  bif (!(eqI r2.2 (0 : Int))) then
   some (.inr (((0 : Int), ([] : List YY4)), r2.2))
  else
   (uf7_ (kind_0, y1.2)).bind fun r4 =>
   bif (!(eqI r4.2 (0 : Int))) then
    some (.inr (((0 : Int), ([] : List YY4)), r4.2))
   else
    (uq5_ (y1.1, r2.1)).bind fun r6 =>
    (uol_ (y1.2, r4.1)).bind fun r7 =>
    (uby_ (r6, r7)).bind fun r8 =>
    bif (decide (r8 < (0 : Int))) then
     (app? 192 all_6 ([(r6, r7)] : List YY5)).bind fun l10 =>
     next (kind_0, t4, l10, t17, t18, (IntKind.i64.wrap (t19 + (1 : Int))))
    else
     next (kind_0, t4, all_6, t17, t18, (IntKind.i64.wrap (t19 + (1 : Int))))
 else
  some (.inl (t4, all_6))
noncomputable def ut5_ : Int × YY13 × (List YY5) × (List YY4) × Int × Int → Option (Sum (YY13 × (List YY5)) (YY13 × Int)) := loopN u1k_ fuel
noncomputable def ube0_ (next : (List YY5) × (List YY5) × Int × Int → Option (List YY5)) : (List YY5) × (List YY5) × Int × Int → Option (List YY5) := fun (out_13, t67, t68, t69) =>
 bif (decide (t69 < t68)) then
  (in? t67.length t69).bind fun _ =>
  let v14 := (t67.getD t69.toNat (((0 : Int), (([] : Str), (false, ([] : Str)))), ((0 : Int), (([] : Str), (false, ([] : Str))))))
  (bif (!(eqI (out_13.length : Int) (0 : Int))) then in? out_13.length (IntKind.i64.wrap ((out_13.length : Int) - (1 : Int))) else some ()).bind fun _ =>
  (bif (!(eqI (out_13.length : Int) (0 : Int))) then uby_ (((out_13.getD ((IntKind.i64.wrap ((out_13.length : Int) - (1 : Int))).toNat) (((0 : Int), (([] : Str), (false, ([] : Str)))), ((0 : Int), (([] : Str), (false, ([] : Str)))))).2), v14.1) else some (0 : Int)).bind fun r16 =>
  bif ((eqI (out_13.length : Int) (0 : Int)) || (decide (r16 < (0 : Int)))) then
   (app? 192 out_13 ([v14] : List YY5)).bind fun l19 =>
   next (l19, t67, t68, (IntKind.i64.wrap (t69 + (1 : Int))))
  else
   (in? out_13.length (IntKind.i64.wrap ((out_13.length : Int) - (1 : Int)))).bind fun _ =>
   (uby_ (((out_13.getD ((IntKind.i64.wrap ((out_13.length : Int) - (1 : Int))).toNat) (((0 : Int), (([] : Str), (false, ([] : Str)))), ((0 : Int), (([] : Str), (false, ([] : Str)))))).2), v14.2)).bind fun r21 =>
   bif (decide (r21 < (0 : Int))) then
    (in? out_13.length (IntKind.i64.wrap ((out_13.length : Int) - (1 : Int)))).bind fun _ =>
    next ((out_13.set ((IntKind.i64.wrap ((out_13.length : Int) - (1 : Int))).toNat) ((out_13.getD ((IntKind.i64.wrap ((out_13.length : Int) - (1 : Int))).toNat) (((0 : Int), (([] : Str), (false, ([] : Str)))), ((0 : Int), (([] : Str), (false, ([] : Str)))))).1, v14.2)), t67, t68, (IntKind.i64.wrap (t69 + (1 : Int))))
   else
    next (out_13, t67, t68, (IntKind.i64.wrap (t69 + (1 : Int))))
 else
  some out_13
noncomputable def u1l_ : (List YY5) × (List YY5) × Int × Int → Option (List YY5) := loopN ube0_ fuel
noncomputable def usz_ : Int × (List YY4) → Option (YY13 × Int) := fun (kind_0, l_1) =>
 (ut5_ (kind_0, ((0 : Int), ([] : List YY4)), ([] : List YY5), l_1, (l_1.length : Int), (0 : Int))).bind fun r11 =>
 match r11 with
 | .inl y12 =>
   (ugm_ (y12.2, (fun x => (uff_ x).bind fun r => some r))).bind fun r13 =>
   (u1l_ (([] : List YY5), r13, (r13.length : Int), (0 : Int))).bind fun r23 =>
   (uwv_ (kind_0, r23)).bind fun r24 =>
   some (r24.1, r24.2)
 | .inr y12' =>
   some (y12'.1, y12'.2)
noncomputable def ucr_ : Str × Int × YY19 × (List Str) × (List Str) → Option (YY13 × Int) := fun a_0 =>
 (ui5_ a_0).bind fun r1 =>
 bif (!(eqI r1 (0 : Int))) then
  some (((0 : Int), ([] : List YY4)), r1)
 else
  (u0t_ a_0).bind fun r3 =>
  (usz_ (a_0.2.1, r3)).bind fun r4 =>
  some (r4.1, r4.2)
noncomputable def u4w_ : Int × Str → Option (Int) := fun (kind_0, s_1) =>
 (udq_ (kind_0, s_1)).bind fun r1 =>
 some r1.2
noncomputable def ube1_ (next : YY3 × YY13 × (List Str) × Int × Int → Option (Sum YY13 (YY13 × Int))) : YY3 × YY13 × (List Str) × Int × Int → Option (Sum YY13 (YY13 × Int)) := fun (a_2, t4, t24, t25, t26) =>
 bif (decide (t26 < t25)) then
  (at? t24 t26).bind fun y4 =>
  (u4w_ (a_2.2.1, y4)).bind fun r5 =>
  bif (!(eqI r5 (0 : Int))) then
   some (.inr (((0 : Int), ([] : List YY4)), r5))
  else
   next (a_2, t4, t24, t25, (IntKind.i64.wrap (t26 + (1 : Int))))
 else
  some (.inl t4)
noncomputable def u1m_ : YY3 × YY13 × (List Str) × Int × Int → Option (Sum YY13 (YY13 × Int)) := loopN ube1_ fuel
noncomputable def u4x_ : YY3 × (List Str) → Option (YY13 × Int) := fun (a_0, l_1) =>
 (ucr_ a_0).bind fun r1 =>
 bif (!(eqI r1.2 (0 : Int))) then
  some (((0 : Int), ([] : List YY4)), r1.2)
 else
  bif (decide ((10000 : Int) < (l_1.length : Int))) then
   some (((0 : Int), ([] : List YY4)), (3 : Int))
  else
   (u1m_ (a_0, ((0 : Int), ([] : List YY4)), l_1, (l_1.length : Int), (0 : Int))).bind fun r7 =>
   match r7 with
   | .inl y8 =>
     some (r1.1, (0 : Int))
   | .inr y8' =>
     some (y8'.1, y8'.2)
noncomputable def uph_ : YY4 × (List YY5) → Option (Int) := fun (s_0, before_1) =>
 bif (((!s_0.1.1) || (!s_0.1.2.1)) || (s_0.2.1 && ((!s_0.2.2.1) || (eqS s_0.2.2.2 ([57, 57, 57, 57, 57, 57, 57, 57, 57, 57, 57, 57, 57, 57, 57, 57, 57, 57] : Str))))) then
  some (2 : Int)
 else
  bif (decide ((0 : Int) < (before_1.length : Int))) then
   (ub3_ s_0.1.2.2).bind fun r3 =>
   (at? before_1 (IntKind.i64.wrap ((before_1.length : Int) - (1 : Int)))).bind fun y4 =>
   (ub3_ y4.2.2.2.2).bind fun r5 =>
   bif (decide (r3.1 < (IntKind.i64.wrap (r5.1 + (2 : Int))))) then
    some (10 : Int)
   else
    some (0 : Int)
  else
   some (0 : Int)
noncomputable def u1n_ (next : YY13 × (List YY5) × (List YY4) × Int × Int → Option (Sum (List YY5) ((List YY5) × Int))) : YY13 × (List YY5) × (List YY4) × Int × Int → Option (Sum (List YY5) ((List YY5) × Int)) := fun (r_1, out_4, t25, t26, t27) =>
 bif (decide (t27 < t26)) then
  (at? t25 t27).bind fun y2 =>
  (uf7_ (r_1.1, y2.1)).bind fun r3 =>
  bif (!(eqI r3.2 (0 : Int))) then
   some (.inr (([] : List YY5), r3.2))
  else
   (uf7_ (r_1.1, y2.2)).bind fun r4 =>
   bif (!(eqI r4.2 (0 : Int))) then
    some (.inr (([] : List YY5), r4.2))
   else
    (uq5_ (y2.1, r3.1)).bind fun r5 =>
    (uol_ (y2.2, r4.1)).bind fun r6 =>
    (uby_ (r5, r6)).bind fun r7 =>
    (bif ((!(decide ((0 : Int) ≤ r7))) && (decide ((0 : Int) < (out_4.length : Int)))) then at? out_4 (IntKind.i64.wrap ((out_4.length : Int) - (1 : Int))) else some (((0 : Int), (([] : Str), (false, ([] : Str)))), ((0 : Int), (([] : Str), (false, ([] : Str)))))).bind fun y8 =>
    (bif ((!(decide ((0 : Int) ≤ r7))) && (decide ((0 : Int) < (out_4.length : Int)))) then uby_ (r5, y8.2) else some (0 : Int)).bind fun r9 =>
    bif ((decide ((0 : Int) ≤ r7)) || ((decide ((0 : Int) < (out_4.length : Int))) && (decide (r9 ≤ (0 : Int))))) then
     some (.inr (([] : List YY5), (10 : Int)))
    else
     bif (eqI r_1.1 (5 : Int)) then
      (uph_ (y2, out_4)).bind fun r11 =>
      bif (!(eqI r11 (0 : Int))) then
       some (.inr (([] : List YY5), r11))
      else
       (app? 192 out_4 ([(r5, r6)] : List YY5)).bind fun l13 =>
       next (r_1, l13, t25, t26, (IntKind.i64.wrap (t27 + (1 : Int))))
     else
      (app? 192 out_4 ([(r5, r6)] : List YY5)).bind fun l15 =>
      next (r_1, l15, t25, t26, (IntKind.i64.wrap (t27 + (1 : Int))))
 else
  some (.inl out_4)
noncomputable def ur6_ : YY13 × (List YY5) × (List YY4) × Int × Int → Option (Sum (List YY5) ((List YY5) × Int)) := loopN u1n_ fuel
noncomputable def ucs_ : Int × (List YY4) → Option ((List YY5) × Int) := fun r_0 =>
 bif ((decide (r_0.1 < (1 : Int))) || (decide ((5 : Int) < r_0.1))) then
  some (([] : List YY5), (7 : Int))
 else
  bif (decide ((200 : Int) < (r_0.2.length : Int))) then
   some (([] : List YY5), (3 : Int))
  else
   (ur6_ (r_0, ([] : List YY5), r_0.2, (r_0.2.length : Int), (0 : Int))).bind fun r16 =>
   match r16 with
   | .inl y17 =>
     some (y17, (0 : Int))
   | .inr y17' =>
     some (y17'.1, y17'.2)
noncomputable def u4y_ (next : YY13 × (List YY1) × (List Str) × Int × Int → Option (Sum (List YY1) ((List YY5) × (List YY1) × Int))) : YY13 × (List YY1) × (List Str) × Int × Int → Option (Sum (List YY1) ((List YY5) × (List YY1) × Int)) := fun (r_2, all_9, t25, t26, t27) =>
 bif (decide (t27 < t26)) then
  (at? t25 t27).bind fun y2 =>
  (udq_ (r_2.1, y2)).bind fun r3 =>
  bif (!(eqI r3.2 (0 : Int))) then
   some (.inr (([] : List YY5), ([] : List YY1), r3.2))
  else
   (app? 24 all_9 ([r3.1] : List YY1)).bind fun l5 =>
   next (r_2, l5, t25, t26, (IntKind.i64.wrap (t27 + (1 : Int))))
 else
  some (.inl all_9)
noncomputable def ut6_ : YY13 × (List YY1) × (List Str) × Int × Int → Option (Sum (List YY1) ((List YY5) × (List YY1) × Int)) := loopN u4y_ fuel
noncomputable def u1o_ : YY13 × (List Str) → Option ((List YY5) × (List YY1) × Int) := fun (r_0, l_1) =>
 (ucs_ r_0).bind fun r1 =>
 bif (!(eqI r1.2 (0 : Int))) then
  some (([] : List YY5), ([] : List YY1), r1.2)
 else
  bif (decide ((10000 : Int) < (l_1.length : Int))) then
   some (([] : List YY5), ([] : List YY1), (3 : Int))
  else
   (ut6_ (r_0, ([] : List YY1), l_1, (l_1.length : Int), (0 : Int))).bind fun r6 =>
   match r6 with
   | .inl y7 =>
     some (r1.1, y7, (0 : Int))
   | .inr y7' =>
     some (y7'.1, y7'.2.1, y7'.2.2)
noncomputable def uru_ : YY5 × (Option YY27) → Option (Bool) := fun (s_0, t1) =>
 (t1).bind fun p1 =>
 (uby_ (s_0.1, p1)).bind fun r2 =>
 (bif (decide (r2 ≤ (0 : Int))) then t1 else some ((0 : Int), (([] : Str), (false, ([] : Str))))).bind fun p3 =>
 (bif (decide (r2 ≤ (0 : Int))) then uby_ (p3, s_0.2) else some (0 : Int)).bind fun r4 =>
 some ((decide (r2 ≤ (0 : Int))) && (decide (r4 < (0 : Int))))
noncomputable def uih_ (next : (List YY5) × (YY5 → Option Bool) × Int × Int → Option YY18) : (List YY5) × (YY5 → Option Bool) × Int × Int → Option YY18 := fun (s_0, f_1, t7, t8) =>
 bif (decide (t8 < t7)) then
  (at? s_0 t8).bind fun y1 =>
  (f_1 y1).bind fun r2 =>
  bif r2 then
   some (.inr t8)
  else
   next (s_0, f_1, t7, (IntKind.i64.wrap (t8 + (1 : Int))))
 else
  some (.inl ())
noncomputable def uii_ : (List YY5) × (YY5 → Option Bool) × Int × Int → Option YY18 := loopN uih_ fuel
noncomputable def uf8_ : (List YY5) × (YY5 → Option Bool) → Option (Int) := fun (s_0, f_1) =>
 (uii_ (s_0, f_1, (s_0.length : Int), (0 : Int))).bind fun r3 =>
 match r3 with
 | .inl y4 =>
   some (-1 : Int)
 | .inr y4' =>
   some y4'
noncomputable def ui7_ : (List YY5) × Str → Option (Int) := fun (l_0, key_1) =>
 (uf8_ (l_0, (fun x => (uru_ (x, (some ((0 : Int), (key_1, (false, ([] : Str))))))).bind fun r => some r))).bind fun r1 =>
 some r1
noncomputable def ubr8_ (next : (List Str) × (List YY5) × (List Str) × (List YY1) × Int × Int → Option (List Str)) : (List Str) × (List YY5) × (List Str) × (List YY1) × Int × Int → Option (List Str) := fun (l_1, set_6, out_9, t22, t23, t24) =>
 bif (decide (t24 < t23)) then
  (at? t22 t24).bind fun y2 =>
  ((fun z => Sum.casesOn (motive := fun _ => Option Str) z (fun x => (uc7_ x).bind fun r => some r) (fun z => Sum.casesOn (motive := fun _ => Option Str) z (fun x => (uch_ x).bind fun r => some r) (fun z => Sum.casesOn (motive := fun _ => Option Str) z (fun x => (uc8_ x).bind fun r => some r) (fun z => Sum.casesOn (motive := fun _ => Option Str) z (fun x => (ubv_ x).bind fun r => some r) (fun z => Sum.casesOn (motive := fun _ => Option Str) z (fun x => (ud0_ x).bind fun r => some r) (fun _ => none)))))) y2).bind fun r3 =>
  (ui7_ (set_6, r3)).bind fun r4 =>
  bif (decide ((0 : Int) ≤ r4)) then
   (at? l_1 t24).bind fun y5 =>
   (app? 24 out_9 ([y5] : List Str)).bind fun l6 =>
   next (l_1, set_6, l6, t22, t23, (IntKind.i64.wrap (t24 + (1 : Int))))
  else
   next (l_1, set_6, out_9, t22, t23, (IntKind.i64.wrap (t24 + (1 : Int))))
 else
  some out_9
noncomputable def uy3_ : (List Str) × (List YY5) × (List Str) × (List YY1) × Int × Int → Option (List Str) := loopN ubr8_ fuel
noncomputable def u0v_ : YY13 × (List Str) → Option ((List Str) × Int) := fun (r_0, l_1) =>
 (u1o_ (r_0, l_1)).bind fun r1 =>
 bif (!(eqI r1.2.2 (0 : Int))) then
  some (([] : List Str), r1.2.2)
 else
  (uy3_ (l_1, r1.1, ([] : List Str), r1.2.1, (r1.2.1.length : Int), (0 : Int))).bind fun r7 =>
  some (r7, (0 : Int))
noncomputable def ube2_ (next : (List Str) × (List Str) × (List Str) × Int × Int → Option (List Str)) : (List Str) × (List Str) × (List Str) × Int × Int → Option (List Str) := fun (affected_8, out_9, t30, t31, t32) =>
 bif (decide (t32 < t31)) then
  (at? t30 t32).bind fun y3 =>
  (bif (decide ((0 : Int) < (affected_8.length : Int))) then at? affected_8 (0 : Int) else some ([] : Str)).bind fun y4 =>
  bif ((decide ((0 : Int) < (affected_8.length : Int))) && (eqS y4 y3)) then
   (cut? affected_8 (1 : Int) (affected_8.length : Int)).bind fun s6 =>
   next (s6, out_9, t30, t31, (IntKind.i64.wrap (t32 + (1 : Int))))
  else
   (app? 24 out_9 ([y3] : List Str)).bind fun l7 =>
   next (affected_8, l7, t30, t31, (IntKind.i64.wrap (t32 + (1 : Int))))
 else
  some out_9
noncomputable def u1p_ : (List Str) × (List Str) × (List Str) × Int × Int → Option (List Str) := loopN ube2_ fuel
noncomputable def u4z_ : YY3 × (List Str) → Option ((List Str) × Int) := fun (a_0, l_1) =>
 (u4x_ (a_0, l_1)).bind fun r1 =>
 bif (!(eqI r1.2 (0 : Int))) then
  some (([] : List Str), r1.2)
 else
  (u0v_ (r1.1, l_1)).bind fun r2 =>
  bif (!(eqI r2.2 (0 : Int))) then
   some (([] : List Str), r2.2)
  else
   (u1p_ (r2.1, ([] : List Str), l_1, (l_1.length : Int), (0 : Int))).bind fun r8 =>
   some (r8, (0 : Int))
noncomputable def ubj4_ (next : YY3 × Str × Str × Str × (List Str) × Int × Int → Option Str) : YY3 × Str × Str × Str × (List Str) × Int × Int → Option Str := fun (a_3, least_11, best_12, top_13, t37, t38, t39) =>
 bif (decide (t39 < t38)) then
  (at? t37 t39).bind fun y3 =>
  (upg_ (a_3.2.1, y3)).bind fun r4 =>
  bif ((!(Op.bytesLess r4.1 least_11)) && ((eqS best_12 ([] : Str)) || (Op.bytesLess r4.1 top_13))) then
   next (a_3, least_11, y3, r4.1, t37, t38, (IntKind.i64.wrap (t39 + (1 : Int))))
  else
   next (a_3, least_11, best_12, top_13, t37, t38, (IntKind.i64.wrap (t39 + (1 : Int))))
 else
  some best_12
noncomputable def u6a_ : YY3 × Str × Str × Str × (List Str) × Int × Int → Option Str := loopN ubj4_ fuel
noncomputable def u9x_ : YY3 × (List Str) × Str → Option (Str × Bool × Int) := fun (a_0, l_1, from_2) =>
 (u4z_ (a_0, l_1)).bind fun r1 =>
 bif (!(eqI r1.2 (0 : Int))) then
  some (([] : Str), false, r1.2)
 else
  (upg_ (a_0.2.1, from_2)).bind fun r2 =>
  bif (!(eqI r2.2 (0 : Int))) then
   some (([] : Str), false, r2.2)
  else
   (u6a_ (a_0, r2.1, ([] : Str), ([] : Str), r1.1, (r1.1.length : Int), (0 : Int))).bind fun r6 =>
   some (r6, (!(eqS r6 ([] : Str))), (0 : Int))
noncomputable def ube3_ : Unit → Option YY31 := fun _ =>
 let v1 := (putKV eqI (76 : Int) (22 : Int) (putKV eqI (72 : Int) (56 : Int) ([] : List (Int × Int))))
 some ([(putKV eqI (80 : Int) (20 : Int) (putKV eqI (76 : Int) (55 : Int) (putKV eqI (65 : Int) (62 : Int) (putKV eqI (78 : Int) (85 : Int) ([] : List (Int × Int)))))), (putKV eqI (72 : Int) (44 : Int) (putKV eqI (76 : Int) (77 : Int) ([] : List (Int × Int)))), (putKV eqI (72 : Int) (27 : Int) (putKV eqI (76 : Int) (62 : Int) (putKV eqI (78 : Int) (85 : Int) ([] : List (Int × Int))))), (putKV eqI (78 : Int) (0 : Int) v1), (putKV eqI (78 : Int) (0 : Int) v1), (putKV eqI (78 : Int) (0 : Int) v1)] : List (List (Int × Int)))
noncomputable def ubr9_ (next : Str × (List Int) × YY31 × Int → Option (Sum (List Int) (Int × Int))) : Str × (List Int) × YY31 × Int → Option (Sum (List Int) (Int × Int)) := fun (vector_0, w_5, t16, t17) =>
 bif (decide (t17 < (6 : Int))) then
  (at? t16 t17).bind fun y2 =>
  (at? vector_0 t17).bind fun b3 =>
  bif (!(ubty_ eqI (b3.toNat : Int) y2).isSome) then
   some (.inr ((0 : Int), (7 : Int)))
  else
   (in? 6 t17).bind fun _ =>
   next (vector_0, (w_5.set t17.toNat ((ubty_ eqI (b3.toNat : Int) y2).getD (0 : Int))), t16, (IntKind.i64.wrap (t17 + (1 : Int))))
 else
  some (.inl w_5)
noncomputable def ubb6_ : Str × (List Int) × YY31 × Int → Option (Sum (List Int) (Int × Int)) := loopN ubr9_ fuel
noncomputable def u9y_ : Str → Option (Int × Int) := fun vector_0 =>
 (ube3_ ()).bind fun r1 =>
 bif (!(eqI (vector_0.length : Int) (6 : Int))) then
  some ((0 : Int), (2 : Int))
 else
  (ubb6_ (vector_0, (List.replicate 6 (0 : Int)), r1, (0 : Int))).bind fun r4 =>
  match r4 with
  | .inl y5 =>
    let v7 := (IntKind.i64.wrap ((IntKind.i64.wrap ((IntKind.i64.wrap ((100 : Int) - (y5.getD 3 (0 : Int)))) * (IntKind.i64.wrap ((100 : Int) - (y5.getD 4 (0 : Int)))))) * (IntKind.i64.wrap ((100 : Int) - (y5.getD 5 (0 : Int))))))
    bif (eqI (IntKind.i64.wrap ((1000000 : Int) - v7)) (0 : Int)) then
     some ((0 : Int), (0 : Int))
    else
     (div? IntKind.i64 (IntKind.i64.wrap ((IntKind.i64.wrap ((IntKind.i64.wrap ((10 : Int) * (IntKind.i64.wrap ((IntKind.i64.wrap ((642 : Int) * (IntKind.i64.wrap ((1000000 : Int) - v7)))) + (IntKind.i64.wrap ((IntKind.i64.wrap ((IntKind.i64.wrap ((822 : Int) * (y5.getD 0 (0 : Int)))) * (y5.getD 1 (0 : Int)))) * (y5.getD 2 (0 : Int)))))))) + (100000000 : Int))) - (1 : Int))) (100000000 : Int)).bind fun q12 =>
     some ((minI (100 : Int) q12), (0 : Int))
  | .inr y5' =>
    some (y5'.1, y5'.2)
noncomputable def ubul_ (next : Str × Int × Int → Option YY21) : Str × Int × Int → Option YY21 := fun (s_0, t6, t7) =>
 bif (decide (t7 < t6)) then
  (at? s_0 t7).bind fun b1 =>
  bif (!(((((((decide ((97 : Int) ≤ (b1.toNat : Int))) && (decide ((b1.toNat : Int) ≤ (122 : Int)))) || ((decide ((65 : Int) ≤ (b1.toNat : Int))) && (decide ((b1.toNat : Int) ≤ (90 : Int))))) || ((decide ((48 : Int) ≤ (b1.toNat : Int))) && (decide ((b1.toNat : Int) ≤ (57 : Int))))) || (eqI (b1.toNat : Int) (46 : Int))) || (eqI (b1.toNat : Int) (45 : Int))) || (eqI (b1.toNat : Int) (95 : Int)))) then
   some (.inr false)
  else
   next (s_0, t6, (IntKind.i64.wrap (t7 + (1 : Int))))
 else
  some (.inl ())
noncomputable def ube4_ : Str × Int × Int → Option YY21 := loopN ubul_ fuel
noncomputable def u40_ : Str → Option (Bool) := fun s_0 =>
 (ube4_ (s_0, (s_0.length : Int), (0 : Int))).bind fun r6 =>
 match r6 with
 | .inl y7 =>
   some ((!(eqS s_0 ([] : Str))) && (decide ((s_0.length : Int) ≤ (60 : Int))))
 | .inr y7' =>
   some y7'
noncomputable def u9z_ (next : YY7 × (List Str) × Int × Int → Option YY18) : YY7 × (List Str) × Int × Int → Option YY18 := fun (a_1, t10, t11, t12) =>
 bif (decide (t12 < t11)) then
  (at? t10 t12).bind fun y1 =>
  (u40_ y1).bind fun r2 =>
  bif (!r2) then
   some (.inr (8 : Int))
  else
   bif (eqS y1 a_1.1) then
    some (.inr (5 : Int))
   else
    (bif (decide ((0 : Int) < t12)) then at? a_1.2.1 (IntKind.i64.wrap (t12 - (1 : Int))) else some ([] : Str)).bind fun y3 =>
    bif ((decide ((0 : Int) < t12)) && (Op.bytesLess y1 y3 || eqS y1 y3)) then
     some (.inr (10 : Int))
    else
     next (a_1, t10, t11, (IntKind.i64.wrap (t12 + (1 : Int))))
 else
  some (.inl ())
noncomputable def ut7_ : YY7 × (List Str) × Int × Int → Option YY18 := loopN u9z_ fuel
noncomputable def uzs_ : Str × (List Str) × Str × Int × Bool × Str × (List YY3) → Option (Int) := fun a_0 =>
 bif (decide ((20 : Int) < (a_0.2.1.length : Int))) then
  some (3 : Int)
 else
  (ut7_ (a_0, a_0.2.1, (a_0.2.1.length : Int), (0 : Int))).bind fun r5 =>
  match r5 with
  | .inl y6 =>
    some (0 : Int)
  | .inr y6' =>
    some y6'
noncomputable def u7o_ : YY7 × Bool → Option (Sum YY7 ((List YY13) × Int)) := fun (a_1, t37) =>
 bif t37 then
  (u9y_ a_1.2.2.2.2.2.1).bind fun r5 =>
  bif (!(eqI r5.2 (0 : Int))) then
   some (.inr (([] : List YY13), r5.2))
  else
   some (.inl a_1)
 else
  some (.inl a_1)
noncomputable def ubpq_ (next : (List YY13) × (List YY3) × Int × Int → Option (Sum (List YY13) ((List YY13) × Int))) : (List YY13) × (List YY3) × Int × Int → Option (Sum (List YY13) ((List YY13) × Int)) := fun (out_7, t52, t53, t54) =>
 bif (decide (t54 < t53)) then
  (at? t52 t54).bind fun y8 =>
  (ucr_ y8).bind fun r9 =>
  bif (!(eqI r9.2 (0 : Int))) then
   some (.inr (([] : List YY13), r9.2))
  else
   (app? 48 out_7 ([r9.1] : List YY13)).bind fun l11 =>
   next (l11, t52, t53, (IntKind.i64.wrap (t54 + (1 : Int))))
 else
  some (.inl out_7)
noncomputable def u7p_ : (List YY13) × (List YY3) × Int × Int → Option (Sum (List YY13) ((List YY13) × Int)) := loopN ubpq_ fuel
noncomputable def ubj5_ : Str × (List Str) × Str × Int × Bool × Str × (List YY3) → Option ((List YY13) × Int) := fun a_0 =>
 (u40_ a_0.1).bind fun r1 =>
 bif (!r1) then
  some (([] : List YY13), (8 : Int))
 else
  (uzs_ a_0).bind fun r2 =>
  bif (!(eqI r2 (0 : Int))) then
   some (([] : List YY13), r2)
  else
   (u40_ a_0.2.2.1).bind fun r3 =>
   bif (!r3) then
    some (([] : List YY13), (8 : Int))
   else
    bif ((decide (a_0.2.2.2.1 < (0 : Int))) || (decide ((1000000 : Int) < a_0.2.2.2.1))) then
     some (([] : List YY13), (9 : Int))
    else
     (u7o_ (a_0, (!(eqS a_0.2.2.2.2.2.1 ([] : Str))))).bind fun r6 =>
     match r6 with
     | .inl y7 =>
       bif (decide ((50 : Int) < (y7.2.2.2.2.2.2.length : Int))) then
        some (([] : List YY13), (3 : Int))
       else
        (u7p_ (([] : List YY13), y7.2.2.2.2.2.2, (y7.2.2.2.2.2.2.length : Int), (0 : Int))).bind fun r12 =>
        match r12 with
        | .inl y13 =>
          some (y13, (0 : Int))
        | .inr y13' =>
          some (y13'.1, y13'.2)
     | .inr y7' =>
       some (y7'.1, y7'.2)
noncomputable def ubnf_ : Str × (List Str) × Str × Int × Bool × Str × (List YY3) → Option (Int) := fun a_0 =>
 (ubj5_ a_0).bind fun r1 =>
 some r1.2
noncomputable def ubhz_ (next : (List YY7) × Int × Int → Option YY18) : (List YY7) × Int × Int → Option YY18 := fun (t9, t10, t11) =>
 bif (decide (t11 < t10)) then
  (at? t9 t11).bind fun y1 =>
  (ubnf_ y1).bind fun r2 =>
  bif (!(eqI r2 (0 : Int))) then
   some (.inr r2)
  else
   next (t9, t10, (IntKind.i64.wrap (t11 + (1 : Int))))
 else
  some (.inl ())
noncomputable def uzt_ : (List YY7) × Int × Int → Option YY18 := loopN ubhz_ fuel
noncomputable def u7q_ : List YY7 → Option (Int) := fun l_0 =>
 bif (decide ((2000 : Int) < (l_0.length : Int))) then
  some (3 : Int)
 else
  (uzt_ (l_0, (l_0.length : Int), (0 : Int))).bind fun r3 =>
  match r3 with
  | .inl y4 =>
    some (0 : Int)
  | .inr y4' =>
    some y4'
noncomputable def ubh0_ : Unit → Option (List Str) := fun s_0 =>
 some ([] : List Str)
noncomputable def uzu_ : List Str → Option (List Str) := fun s_0 =>
 (app? 24 ([] : List Str) s_0).bind fun l1 =>
 some l1
noncomputable def unw_ : List Str → Option (List Str) := uzu_
noncomputable def u90_ : Unit → Option YY19 := fun s_0 =>
 some ([] : List (Int × Str))
noncomputable def ut8_ : List (Int × Str) → Option YY19 := fun s_0 =>
 (app? 48 ([] : List (Int × Str)) s_0).bind fun l1 =>
 some l1
noncomputable def uxz_ : List (Int × Str) → Option YY19 := ut8_
noncomputable def ubpr_ (next : (List YY3) × (List YY3) × Int × Int → Option (List YY3)) : (List YY3) × (List YY3) × Int × Int → Option (List YY3) := fun (l_3, t11, t12, t13) =>
 bif (decide (t13 < t12)) then
  (at? t11 t13).bind fun y2 =>
  (uxz_ y2.2.2.1).bind fun r3 =>
  (unw_ y2.2.2.2.1).bind fun r4 =>
  (unw_ y2.2.2.2.2).bind fun r5 =>
  (app? 120 l_3 ([(y2.1, (y2.2.1, (r3, (r4, r5))))] : List YY3)).bind fun l7 =>
  next (l7, t11, t12, (IntKind.i64.wrap (t13 + (1 : Int))))
 else
  some l_3
noncomputable def u7r_ : (List YY3) × (List YY3) × Int × Int → Option (List YY3) := loopN ubpr_ fuel
noncomputable def ubj6_ : Str × (List Str) × Str × Int × Bool × Str × (List YY3) → Option YY7 := fun a_0 =>
 (unw_ a_0.2.1).bind fun r1 =>
 (u7r_ (([] : List YY3), a_0.2.2.2.2.2.2, (a_0.2.2.2.2.2.2.length : Int), (0 : Int))).bind fun r8 =>
 some (a_0.1, (r1, (a_0.2.2.1, (a_0.2.2.2.1, (a_0.2.2.2.2.1, (a_0.2.2.2.2.2.1, r8))))))
noncomputable def ubru_ : YY7 × YY7 → Option (Int) := fun (a_0, b_1) =>
 (ucc_ (a_0.1, b_1.1)).bind fun r1 =>
 some r1
noncomputable def ubwf_ (next : YY20 × (List YY7) × Int × Int → Option YY20) : YY20 × (List YY7) × Int × Int → Option YY20 := fun (b_5, t15, t16, t17) =>
 bif (decide (t17 < t16)) then
  (at? t15 t17).bind fun y3 =>
  (ubj6_ y3).bind fun r4 =>
  (app? 168 b_5.2.1 ([r4] : List YY7)).bind fun l6 =>
  (app? 24 b_5.2.2 ([(0 : Int)] : List Int)).bind fun l7 =>
  next ((b_5.1, (l6, l7)), t15, t16, (IntKind.i64.wrap (t17 + (1 : Int))))
 else
  some (b_5.1, (b_5.2.1, b_5.2.2))
noncomputable def ubj7_ : YY20 × (List YY7) × Int × Int → Option YY20 := loopN ubwf_ fuel
noncomputable def ubwg_ (next : YY26 × YY20 × Int → Option (Sum (YY26 × YY20) (YY26 × Int))) : YY26 × YY20 × Int → Option (Sum (YY26 × YY20) (YY26 × Int)) := fun (t2, b_5, i_8) =>
 bif (decide (i_8 < (b_5.2.1.length : Int))) then
  (in? b_5.2.1.length i_8).bind fun _ =>
  (in? b_5.2.1.length (IntKind.i64.wrap (i_8 - (1 : Int)))).bind fun _ =>
  bif (eqS ((b_5.2.1.getD i_8.toNat (([] : Str), (([] : List Str), (([] : Str), ((0 : Int), (false, (([] : Str), ([] : List YY3)))))))).1) ((b_5.2.1.getD ((IntKind.i64.wrap (i_8 - (1 : Int))).toNat) (([] : Str), (([] : List Str), (([] : Str), ((0 : Int), (false, (([] : Str), ([] : List YY3)))))))).1)) then
   some (.inr (((0 : Int), (([] : List YY7), ([] : List Int))), (5 : Int)))
  else
   next (t2, (b_5.1, (b_5.2.1, b_5.2.2)), (IntKind.i64.wrap (i_8 + (1 : Int))))
 else
  some (.inl (t2, (b_5.1, (b_5.2.1, b_5.2.2))))
noncomputable def ubj8_ : YY26 × YY20 × Int → Option (Sum (YY26 × YY20) (YY26 × Int)) := loopN ubwg_ fuel
noncomputable def ubum_ : List YY7 → Option (YY26 × Int) := fun l_0 =>
 (u7q_ l_0).bind fun r1 =>
 bif (!(eqI r1 (0 : Int))) then
  some (((0 : Int), (([] : List YY7), ([] : List Int))), r1)
 else
  (ubj7_ (((0 : Int), (([] : List YY7), ([] : List Int))), l_0, (l_0.length : Int), (0 : Int))).bind fun r8 =>
  (uoc_ (r8.2.1, (fun x => (ubru_ x).bind fun r => some r))).bind fun r9 =>
  (ubj8_ (((0 : Int), (([] : List YY7), ([] : List Int))), (r8.1, (r9, r8.2.2)), (1 : Int))).bind fun r13 =>
  match r13 with
  | .inl y14 =>
    some ((y14.2.1, (y14.2.2.1, y14.2.2.2)), (0 : Int))
  | .inr y14' =>
    some (y14'.1, y14'.2)
noncomputable def ub3p_ : Unit → Option (Bool) := fun _ =>
 (u9y_ ([78, 72, 76, 76, 78, 78] : Str)).bind fun r1 =>
 (ubum_ ([(([65] : Str), (([] : List Str), (([120] : Str), ((0 : Int), (false, (([] : Str), ([] : List YY3)))))))] : List YY7)).bind fun r4 =>
 some ((((eqI r1.1 (34 : Int)) && (eqI r1.2 (0 : Int))) && (eqI r4.2 (0 : Int))) && (eqI (r4.1.2.1.length : Int) (1 : Int)))
noncomputable def u1q_ : YY13 × Str → Option (Bool × Int) := fun (r_0, s_1) =>
 (ucs_ r_0).bind fun r1 =>
 bif (!(eqI r1.2 (0 : Int))) then
  some (false, r1.2)
 else
  (udq_ (r_0.1, s_1)).bind fun r2 =>
  bif (!(eqI r2.2 (0 : Int))) then
   some (false, r2.2)
  else
   ((fun z => Sum.casesOn (motive := fun _ => Option Str) z (fun x => (uc7_ x).bind fun r => some r) (fun z => Sum.casesOn (motive := fun _ => Option Str) z (fun x => (uch_ x).bind fun r => some r) (fun z => Sum.casesOn (motive := fun _ => Option Str) z (fun x => (uc8_ x).bind fun r => some r) (fun z => Sum.casesOn (motive := fun _ => Option Str) z (fun x => (ubv_ x).bind fun r => some r) (fun z => Sum.casesOn (motive := fun _ => Option Str) z (fun x => (ud0_ x).bind fun r => some r) (fun _ => none)))))) r2.1).bind fun r3 =>
   (ui7_ (r1.1, r3)).bind fun r4 =>
   some ((decide ((0 : Int) ≤ r4)), (0 : Int))
noncomputable def u91_ : Int × Str × Str → Option (YY1 × YY1 × Int) := fun (kind_0, a_1, b_2) =>
 (udq_ (kind_0, a_1)).bind fun r1 =>
 bif (!(eqI r1.2 (0 : Int))) then
  some ((Sum.inr (Sum.inr (Sum.inr (Sum.inr (Sum.inr ()))))), (Sum.inr (Sum.inr (Sum.inr (Sum.inr (Sum.inr ()))))), r1.2)
 else
  (udq_ (kind_0, b_2)).bind fun r2 =>
  some (r1.1, r2.1, r2.2)
noncomputable def uq6_ : Int × Str × Str → Option (Int × Int) := fun (kind_0, a_1, b_2) =>
 (u91_ (kind_0, a_1, b_2)).bind fun r1 =>
 bif (!(eqI r1.2.2 (0 : Int))) then
  some ((0 : Int), r1.2.2)
 else
  ((fun z => Sum.casesOn (motive := fun _ => Option Str) z (fun x => (uc7_ x).bind fun r => some r) (fun z => Sum.casesOn (motive := fun _ => Option Str) z (fun x => (uch_ x).bind fun r => some r) (fun z => Sum.casesOn (motive := fun _ => Option Str) z (fun x => (uc8_ x).bind fun r => some r) (fun z => Sum.casesOn (motive := fun _ => Option Str) z (fun x => (ubv_ x).bind fun r => some r) (fun z => Sum.casesOn (motive := fun _ => Option Str) z (fun x => (ud0_ x).bind fun r => some r) (fun _ => none)))))) r1.1).bind fun r2 =>
  ((fun z => Sum.casesOn (motive := fun _ => Option Str) z (fun x => (uc7_ x).bind fun r => some r) (fun z => Sum.casesOn (motive := fun _ => Option Str) z (fun x => (uch_ x).bind fun r => some r) (fun z => Sum.casesOn (motive := fun _ => Option Str) z (fun x => (uc8_ x).bind fun r => some r) (fun z => Sum.casesOn (motive := fun _ => Option Str) z (fun x => (ubv_ x).bind fun r => some r) (fun z => Sum.casesOn (motive := fun _ => Option Str) z (fun x => (ud0_ x).bind fun r => some r) (fun _ => none)))))) r1.2.1).bind fun r3 =>
  (ucc_ (r2, r3)).bind fun r4 =>
  some (r4, (0 : Int))
noncomputable def uvt_ (next : Str × YY3 × Str × Bool × YY13 × (List Str) × Int × Int → Option YY21) : Str × YY3 × Str × Bool × YY13 × (List Str) × Int × Int → Option YY21 := fun (s_2, a_3, v_7, is_8, r_10, t40, t41, t42) =>
 bif (decide (t42 < t41)) then
  (at? t40 t42).bind fun y4 =>
  (u1q_ (r_10, y4)).bind fun r5 =>
  (uq6_ (a_3.2.1, y4, s_2)).bind fun r6 =>
  bif (r5.1 || (decide (r6.1 < (0 : Int)))) then
   bif (is_8 && (eqS y4 v_7)) then
    some (.inr false)
   else
    next (s_2, a_3, v_7, is_8, r_10, t40, t41, (IntKind.i64.wrap (t42 + (1 : Int))))
  else
   (uq6_ (a_3.2.1, v_7, y4)).bind fun r7 =>
   bif ((!is_8) || (decide ((0 : Int) < r7.1))) then
    some (.inr false)
   else
    next (s_2, a_3, v_7, is_8, r_10, t40, t41, (IntKind.i64.wrap (t42 + (1 : Int))))
 else
  some (.inl ())
noncomputable def um8_ : Str × YY3 × Str × Bool × YY13 × (List Str) × Int × Int → Option YY21 := loopN uvt_ fuel
noncomputable def uly_ : YY3 × (List Str) × Str → Option (Bool) := fun (a_0, l_1, s_2) =>
 (u9x_ (a_0, l_1, s_2)).bind fun r1 =>
 (ucr_ a_0).bind fun r2 =>
 bif ((!(eqI r1.2.2 (0 : Int))) || (!(eqI r2.2 (0 : Int)))) then
  (ub3p_ ()).bind fun r3 =>
  some r3
 else
  (um8_ (s_2, a_0, r1.1, r1.2.1, r2.1, l_1, (l_1.length : Int), (0 : Int))).bind fun r8 =>
  match r8 with
  | .inl y9 =>
    (bif (!(!r1.2.1)) then uds_ (l_1, r1.1) else some false).bind fun r10 =>
    (bif ((!r1.2.1) || r10) then ub3p_ () else some false).bind fun r11 =>
    some (((!r1.2.1) || r10) && r11)
  | .inr y9' =>
    some y9'
end Go.Ev.Pv
