/-
  A part of the proof: T1D.
-/
import Derived.Test.YtncjpbogjfibfaaGreatDoorEvN8
set_option linter.unusedVariables false
set_option linter.unusedSimpArgs false
set_option maxRecDepth 100000
set_option linter.unusedVariables false
namespace Go.Ev.Pv

def fuel : Nat := 18446744073709551616

/-- provender/provenderref5.outside -/
def f14 : Int × Int × Int → Option (Bool) := fun (n_0, low_1, high_2) =>
  some ((decide (n_0 < low_1)) || (decide (high_2 < n_0)))

/-- provender/advisory.Rating -/
def f9 : Int → Option (Int × Int) := fun score_0 =>
  bif ((decide (score_0 < (0 : Int))) || (decide ((100 : Int) < score_0))) then
    some ((0 : Int), (9 : Int))
  else
    bif (eqI score_0 (0 : Int)) then
      some ((0 : Int), (0 : Int))
    else
      bif (decide (score_0 < (40 : Int))) then
        some ((1 : Int), (0 : Int))
      else
        bif (decide (score_0 < (70 : Int))) then
          some ((2 : Int), (0 : Int))
        else
          bif (decide (score_0 < (90 : Int))) then
            some ((3 : Int), (0 : Int))
          else
            some ((4 : Int), (0 : Int))

/-- provender/provenderref5.Rating -/
def f10 : Int → Option (Int × Int) := fun score_0 =>
  (f14 (score_0, (0 : Int), (100 : Int))).bind fun r1 =>
  bif r1 then
    some ((0 : Int), (9 : Int))
  else
    bif (eqI score_0 (0 : Int)) then
      some ((0 : Int), (0 : Int))
    else
      bif (decide (score_0 ≤ (39 : Int))) then
        some ((1 : Int), (0 : Int))
      else
        bif (decide (score_0 ≤ (69 : Int))) then
          some ((2 : Int), (0 : Int))
        else
          bif (decide (score_0 ≤ (89 : Int))) then
            some ((3 : Int), (0 : Int))
          else
            some ((4 : Int), (0 : Int))

/-- slices.Index[[]byte,byte]: the round of a loop. -/
def f7_r0 (next : (List Int) × Int × Int × Int → Option (Sum (Unit) (Int))) : (List Int) × Int × Int × Int → Option (Sum (Unit) (Int)) := fun (s_0, v_1, t7, t8) =>
  bif (decide (t8 < t7)) then
    (at? s_0 t8).bind fun y1 =>
    bif (eqI v_1 y1) then
      some (.inr t8)
    else
      next (s_0, v_1, t7, (IntKind.i64.wrap (t8 + (1 : Int))))
  else
    some (.inl ())

def f7_l0 : (List Int) × Int × Int × Int → Option (Sum (Unit) (Int)) := loopN f7_r0 fuel

/-- slices.Index[[]byte,byte] -/
def f7 : (List Int) × Int → Option (Int) := fun (s_0, v_1) =>
  (f7_l0 (s_0, v_1, (s_0.length : Int), (0 : Int))).bind fun r2 =>
  match r2 with
  | .inl y3 =>
    some (-1 : Int)
  | .inr y3' =>
    some y3'

/-- provender/advisory.weights -/
def f11 : Unit → Option (List (List (Int × Int))) := fun _ =>
  let v1 := (putKV eqI (76 : Int) (22 : Int) (putKV eqI (72 : Int) (56 : Int) ([] : List (Int × Int))))
  some ([(putKV eqI (80 : Int) (20 : Int) (putKV eqI (76 : Int) (55 : Int) (putKV eqI (65 : Int) (62 : Int) (putKV eqI (78 : Int) (85 : Int) ([] : List (Int × Int)))))), (putKV eqI (72 : Int) (44 : Int) (putKV eqI (76 : Int) (77 : Int) ([] : List (Int × Int)))), (putKV eqI (72 : Int) (27 : Int) (putKV eqI (76 : Int) (62 : Int) (putKV eqI (78 : Int) (85 : Int) ([] : List (Int × Int))))), (putKV eqI (78 : Int) (0 : Int) v1), (putKV eqI (78 : Int) (0 : Int) v1), (putKV eqI (78 : Int) (0 : Int) v1)] : List (List (Int × Int)))

/-- provender/advisory.Score: the round of a loop. -/
def f5_r1 (next : (List UInt8) × (List Int) × (List (List (Int × Int))) × Int → Option (Sum (List Int) (Int × Int))) : (List UInt8) × (List Int) × (List (List (Int × Int))) × Int → Option (Sum (List Int) (Int × Int)) := fun (vector_0, w_5, t16, t17) =>
  bif (decide (t17 < (6 : Int))) then
    (at? t16 t17).bind fun y2 =>
    (at? vector_0 t17).bind fun b3 =>
    bif (!(findKV eqI (b3.toNat : Int) y2).isSome) then
      some (.inr ((0 : Int), (7 : Int)))
    else
      (in? 6 t17).bind fun _ =>
      next (vector_0, (w_5.set t17.toNat ((findKV eqI (b3.toNat : Int) y2).getD (0 : Int))), t16, (IntKind.i64.wrap (t17 + (1 : Int))))
  else
    some (.inl w_5)

def f5_l1 : (List UInt8) × (List Int) × (List (List (Int × Int))) × Int → Option (Sum (List Int) (Int × Int)) := loopN f5_r1 fuel

/-- provender/advisory.Score -/
def f5 : List UInt8 → Option (Int × Int) := fun vector_0 =>
  (f11 ()).bind fun r1 =>
  bif (!(eqI (vector_0.length : Int) (6 : Int))) then
    some ((0 : Int), (2 : Int))
  else
    (f5_l1 (vector_0, (List.replicate 6 (0 : Int)), r1, (0 : Int))).bind fun r4 =>
    match r4 with
    | .inl y5 =>
      let v7 := (IntKind.i64.wrap ((IntKind.i64.wrap ((IntKind.i64.wrap ((100 : Int) - (y5.getD 3 (0 : Int)))) * (IntKind.i64.wrap ((100 : Int) - (y5.getD 4 (0 : Int)))))) * (IntKind.i64.wrap ((100 : Int) - (y5.getD 5 (0 : Int))))))
      bif (eqI (IntKind.i64.wrap ((1000000 : Int) - v7)) (0 : Int)) then
        some ((0 : Int), (0 : Int))
      else
        (div? IntKind.i64 (IntKind.i64.wrap ((IntKind.i64.wrap ((IntKind.i64.wrap ((10 : Int) * (IntKind.i64.wrap ((IntKind.i64.wrap ((642 : Int) * (IntKind.i64.wrap ((1000000 : Int) - v7)))) + (IntKind.i64.wrap ((IntKind.i64.wrap ((IntKind.i64.wrap ((822 : Int) * (y5.getD 0 (0 : Int)))) * (y5.getD 1 (0 : Int)))) * (y5.getD 2 (0 : Int)))))))) + (100000000 : Int))) - (1 : Int))) (100000000 : Int)).bind fun q12 =>
        some ((minI (100 : Int) q12), (0 : Int))
    | .inr y5' =>
      some (y5'.1, y5'.2)

/-- provender/provenderref5.weight: the round of a loop. -/
def f13_r0 (next : Int × (List (List UInt8)) × (List (List Int)) × Int × Int → Option (Sum (Unit) (Int))) : Int × (List (List UInt8)) × (List (List Int)) × Int × Int → Option (Sum (Unit) (Int)) := fun (b_1, letters_5, weights_6, k_7, i_8) =>
  (in? 4 k_7).bind fun _ =>
  bif (decide (i_8 < ((letters_5.getD k_7.toNat ([] : List UInt8)).length : Int))) then
    (in? 4 k_7).bind fun _ =>
    (at? (letters_5.getD k_7.toNat ([] : List UInt8)) i_8).bind fun b5 =>
    bif (eqI (b5.toNat : Int) b_1) then
      (at? weights_6 k_7).bind fun y6 =>
      (at? y6 i_8).bind fun y7 =>
      some (.inr y7)
    else
      next (b_1, letters_5, weights_6, k_7, (IntKind.i64.wrap (i_8 + (1 : Int))))
  else
    some (.inl ())

def f13_l0 : Int × (List (List UInt8)) × (List (List Int)) × Int × Int → Option (Sum (Unit) (Int)) := loopN f13_r0 fuel

/-- provender/provenderref5.weight -/
def f13 : Int × Int → Option (Int) := fun (place_0, b_1) =>
  (f13_l0 (b_1, ([([78, 65, 76, 80] : List UInt8), ([76, 72] : List UInt8), ([78, 76, 72] : List UInt8), ([72, 76, 78] : List UInt8)] : List (List UInt8)), ([([(85 : Int), (62 : Int), (55 : Int), (20 : Int)] : List Int), ([(77 : Int), (44 : Int), (0 : Int), (0 : Int)] : List Int), ([(85 : Int), (62 : Int), (27 : Int), (0 : Int)] : List Int), ([(56 : Int), (22 : Int), (0 : Int), (0 : Int)] : List Int)] : List (List Int)), (minI place_0 (3 : Int)), (0 : Int))).bind fun r8 =>
  match r8 with
  | .inl y9 =>
    some (-1 : Int)
  | .inr y9' =>
    some y9'

/-- provender/provenderref5.Score: the round of a loop. -/
def f8_r1 (next : (List UInt8) × Int × Int × Int → Option (Sum (Int × Int) (Int × Int))) : (List UInt8) × Int × Int × Int → Option (Sum (Int × Int) (Int × Int)) := fun (vector_0, ease_4, left_5, i_6) =>
  bif (decide (i_6 < (6 : Int))) then
    (at? vector_0 i_6).bind fun b1 =>
    (f13 (i_6, (b1.toNat : Int))).bind fun r2 =>
    bif (decide (r2 < (0 : Int))) then
      some (.inr ((0 : Int), (7 : Int)))
    else
      bif (decide (i_6 < (3 : Int))) then
        next (vector_0, (IntKind.i64.wrap (ease_4 * r2)), left_5, (IntKind.i64.wrap (i_6 + (1 : Int))))
      else
        next (vector_0, ease_4, (IntKind.i64.wrap (left_5 * (IntKind.i64.wrap ((100 : Int) - r2)))), (IntKind.i64.wrap (i_6 + (1 : Int))))
  else
    some (.inl (ease_4, left_5))

def f8_l1 : (List UInt8) × Int × Int × Int → Option (Sum (Int × Int) (Int × Int)) := loopN f8_r1 fuel

/-- provender/provenderref5.Score -/
def f8 : List UInt8 → Option (Int × Int) := fun vector_0 =>
  bif (!(eqI (vector_0.length : Int) (6 : Int))) then
    some ((0 : Int), (2 : Int))
  else
    (f8_l1 (vector_0, (1 : Int), (1 : Int), (0 : Int))).bind fun r4 =>
    match r4 with
    | .inl y5 =>
      bif (eqI (IntKind.i64.wrap ((1000000 : Int) - y5.2)) (0 : Int)) then
        some ((0 : Int), (0 : Int))
      else
        (div? IntKind.i64 (IntKind.i64.wrap ((IntKind.i64.wrap ((IntKind.i64.wrap ((IntKind.i64.wrap ((642 : Int) * (IntKind.i64.wrap ((1000000 : Int) - y5.2)))) + (IntKind.i64.wrap ((822 : Int) * y5.1)))) + (10000000 : Int))) - (1 : Int))) (10000000 : Int)).bind fun q9 =>
        some ((minI q9 (100 : Int)), (0 : Int))
    | .inr y5' =>
      some (y5'.1, y5'.2)

/-- slices.Clone[[]string,string] -/
def f20n : Unit → Option (List (List UInt8)) := fun s_0 =>
  some ([] : List (List UInt8))

/-- slices.Clone[[]string,string] -/
def f20s : List (List UInt8) → Option (List (List UInt8)) := fun s_0 =>
  (app? 24 ([] : List (List UInt8)) s_0).bind fun l1 =>
  some l1

/-- slices.Clone[[]string,string] -/
def f20 : List (List UInt8) → Option (List (List UInt8)) := f20s

/-- slices.Clone[[]provender/api.Event,provender/api.Event] -/
def f21n : Unit → Option (List (Int × (List UInt8))) := fun s_0 =>
  some ([] : List (Int × (List UInt8)))

/-- slices.Clone[[]provender/api.Event,provender/api.Event] -/
def f21s : List (Int × (List UInt8)) → Option (List (Int × (List UInt8))) := fun s_0 =>
  (app? 48 ([] : List (Int × (List UInt8))) s_0).bind fun l1 =>
  some l1

/-- slices.Clone[[]provender/api.Event,provender/api.Event] -/
def f21 : List (Int × (List UInt8)) → Option (List (Int × (List UInt8))) := f21s

/-- provender/advisory.copied: the round of a loop. -/
def f16_r0 (next : (List ((List UInt8) × Int × (List (Int × (List UInt8))) × (List (List UInt8)) × (List (List UInt8)))) × (List ((List UInt8) × Int × (List (Int × (List UInt8))) × (List (List UInt8)) × (List (List UInt8)))) × Int × Int → Option (List ((List UInt8) × Int × (List (Int × (List UInt8))) × (List (List UInt8)) × (List (List UInt8))))) : (List ((List UInt8) × Int × (List (Int × (List UInt8))) × (List (List UInt8)) × (List (List UInt8)))) × (List ((List UInt8) × Int × (List (Int × (List UInt8))) × (List (List UInt8)) × (List (List UInt8)))) × Int × Int → Option (List ((List UInt8) × Int × (List (Int × (List UInt8))) × (List (List UInt8)) × (List (List UInt8)))) := fun (l_3, t11, t12, t13) =>
  bif (decide (t13 < t12)) then
    (at? t11 t13).bind fun y2 =>
    (f21 y2.2.2.1).bind fun r3 =>
    (f20 y2.2.2.2.1).bind fun r4 =>
    (f20 y2.2.2.2.2).bind fun r5 =>
    (app? 120 l_3 ([(y2.1, (y2.2.1, (r3, (r4, r5))))] : List ((List UInt8) × Int × (List (Int × (List UInt8))) × (List (List UInt8)) × (List (List UInt8))))).bind fun l7 =>
    next (l7, t11, t12, (IntKind.i64.wrap (t13 + (1 : Int))))
  else
    some l_3

def f16_l0 : (List ((List UInt8) × Int × (List (Int × (List UInt8))) × (List (List UInt8)) × (List (List UInt8)))) × (List ((List UInt8) × Int × (List (Int × (List UInt8))) × (List (List UInt8)) × (List (List UInt8)))) × Int × Int → Option (List ((List UInt8) × Int × (List (Int × (List UInt8))) × (List (List UInt8)) × (List (List UInt8)))) := loopN f16_r0 fuel

/-- provender/advisory.copied -/
def f16 : (List UInt8) × (List (List UInt8)) × (List UInt8) × Int × Bool × (List UInt8) × (List ((List UInt8) × Int × (List (Int × (List UInt8))) × (List (List UInt8)) × (List (List UInt8)))) → Option ((List UInt8) × (List (List UInt8)) × (List UInt8) × Int × Bool × (List UInt8) × (List ((List UInt8) × Int × (List (Int × (List UInt8))) × (List (List UInt8)) × (List (List UInt8))))) := fun a_0 =>
  (f20 a_0.2.1).bind fun r1 =>
  (f16_l0 (([] : List ((List UInt8) × Int × (List (Int × (List UInt8))) × (List (List UInt8)) × (List (List UInt8)))), a_0.2.2.2.2.2.2, (a_0.2.2.2.2.2.2.length : Int), (0 : Int))).bind fun r8 =>
  some (a_0.1, (r1, (a_0.2.2.1, (a_0.2.2.2.1, (a_0.2.2.2.2.1, (a_0.2.2.2.2.2.1, r8))))))

/-- cmp.isNaN[string] -/
def f36 : List UInt8 → Option (Bool) := fun x_0 =>
  some (!(eqS x_0 x_0))

/-- cmp.Compare[string] -/
def f24 : (List UInt8) × (List UInt8) → Option (Int) := fun (x_0, y_1) =>
  (f36 x_0).bind fun r1 =>
  (f36 y_1).bind fun r2 =>
  bif r1 then
    bif r2 then
      some (0 : Int)
    else
      some (-1 : Int)
  else
    bif r2 then
      some (1 : Int)
    else
      bif (Op.bytesLess x_0 y_1) then
        some (-1 : Int)
      else
        bif (!(Op.bytesLess x_0 y_1 || eqS x_0 y_1)) then
          some (1 : Int)
        else
          some (0 : Int)

/-- provender/advisory.byId -/
def f18 : ((List UInt8) × (List (List UInt8)) × (List UInt8) × Int × Bool × (List UInt8) × (List ((List UInt8) × Int × (List (Int × (List UInt8))) × (List (List UInt8)) × (List (List UInt8))))) × ((List UInt8) × (List (List UInt8)) × (List UInt8) × Int × Bool × (List UInt8) × (List ((List UInt8) × Int × (List (Int × (List UInt8))) × (List (List UInt8)) × (List (List UInt8))))) → Option (Int) := fun (a_0, b_1) =>
  (f24 (a_0.1, b_1.1)).bind fun r1 =>
  some r1

/-- provender/advisory.isId: the round of a loop. -/
def f37_r0 (next : (List UInt8) × Int × Int → Option (Sum (Unit) (Bool))) : (List UInt8) × Int × Int → Option (Sum (Unit) (Bool)) := fun (s_0, t6, t7) =>
  bif (decide (t7 < t6)) then
    (at? s_0 t7).bind fun b1 =>
    bif (!(((((((decide ((97 : Int) ≤ (b1.toNat : Int))) && (decide ((b1.toNat : Int) ≤ (122 : Int)))) || ((decide ((65 : Int) ≤ (b1.toNat : Int))) && (decide ((b1.toNat : Int) ≤ (90 : Int))))) || ((decide ((48 : Int) ≤ (b1.toNat : Int))) && (decide ((b1.toNat : Int) ≤ (57 : Int))))) || (eqI (b1.toNat : Int) (46 : Int))) || (eqI (b1.toNat : Int) (45 : Int))) || (eqI (b1.toNat : Int) (95 : Int)))) then
      some (.inr false)
    else
      next (s_0, t6, (IntKind.i64.wrap (t7 + (1 : Int))))
  else
    some (.inl ())

def f37_l0 : (List UInt8) × Int × Int → Option (Sum (Unit) (Bool)) := loopN f37_r0 fuel

/-- provender/advisory.isId -/
def f37 : List UInt8 → Option (Bool) := fun s_0 =>
  (f37_l0 (s_0, (s_0.length : Int), (0 : Int))).bind fun r6 =>
  match r6 with
  | .inl y7 =>
    some ((!(eqS s_0 ([] : List UInt8))) && (decide ((s_0.length : Int) ≤ (60 : Int))))
  | .inr y7' =>
    some y7'

/-- provender/advisory.checkAliases: the round of a loop. -/
def f38_r1 (next : ((List UInt8) × (List (List UInt8)) × (List UInt8) × Int × Bool × (List UInt8) × (List ((List UInt8) × Int × (List (Int × (List UInt8))) × (List (List UInt8)) × (List (List UInt8))))) × (List (List UInt8)) × Int × Int → Option (Sum (Unit) (Int))) : ((List UInt8) × (List (List UInt8)) × (List UInt8) × Int × Bool × (List UInt8) × (List ((List UInt8) × Int × (List (Int × (List UInt8))) × (List (List UInt8)) × (List (List UInt8))))) × (List (List UInt8)) × Int × Int → Option (Sum (Unit) (Int)) := fun (a_1, t10, t11, t12) =>
  bif (decide (t12 < t11)) then
    (at? t10 t12).bind fun y1 =>
    (f37 y1).bind fun r2 =>
    bif (!r2) then
      some (.inr (8 : Int))
    else
      bif (eqS y1 a_1.1) then
        some (.inr (5 : Int))
      else
        (bif (decide ((0 : Int) < t12)) then at? a_1.2.1 (IntKind.i64.wrap (t12 - (1 : Int))) else some ([] : List UInt8)).bind fun y3 =>
        bif ((decide ((0 : Int) < t12)) && (Op.bytesLess y1 y3 || eqS y1 y3)) then
          some (.inr (10 : Int))
        else
          next (a_1, t10, t11, (IntKind.i64.wrap (t12 + (1 : Int))))
  else
    some (.inl ())

def f38_l1 : ((List UInt8) × (List (List UInt8)) × (List UInt8) × Int × Bool × (List UInt8) × (List ((List UInt8) × Int × (List (Int × (List UInt8))) × (List (List UInt8)) × (List (List UInt8))))) × (List (List UInt8)) × Int × Int → Option (Sum (Unit) (Int)) := loopN f38_r1 fuel

/-- provender/advisory.checkAliases -/
def f38 : (List UInt8) × (List (List UInt8)) × (List UInt8) × Int × Bool × (List UInt8) × (List ((List UInt8) × Int × (List (Int × (List UInt8))) × (List (List UInt8)) × (List (List UInt8)))) → Option (Int) := fun a_0 =>
  bif (decide ((20 : Int) < (a_0.2.1.length : Int))) then
    some (3 : Int)
  else
    (f38_l1 (a_0, a_0.2.1, (a_0.2.1.length : Int), (0 : Int))).bind fun r5 =>
    match r5 with
    | .inl y6 =>
      some (0 : Int)
    | .inr y6' =>
      some y6'

def f25_p4 : ((List UInt8) × (List (List UInt8)) × (List UInt8) × Int × Bool × (List UInt8) × (List ((List UInt8) × Int × (List (Int × (List UInt8))) × (List (List UInt8)) × (List (List UInt8))))) × Bool → Option (Sum ((List UInt8) × (List (List UInt8)) × (List UInt8) × Int × Bool × (List UInt8) × (List ((List UInt8) × Int × (List (Int × (List UInt8))) × (List (List UInt8)) × (List (List UInt8))))) ((List (Int × (List ((Bool × Bool × (List UInt8)) × (Bool × Bool × (List UInt8)))))) × Int)) := fun (a_1, t37) =>
  bif t37 then
    (f5 a_1.2.2.2.2.2.1).bind fun r5 =>
    bif (!(eqI r5.2 (0 : Int))) then
      some (.inr (([] : List (Int × (List ((Bool × Bool × (List UInt8)) × (Bool × Bool × (List UInt8)))))), r5.2))
    else
      some (.inl a_1)
  else
    some (.inl a_1)

/-- provender/advisory.ranges: the round of a loop. -/
def f25_r7 (next : (List (Int × (List ((Bool × Bool × (List UInt8)) × (Bool × Bool × (List UInt8)))))) × (List ((List UInt8) × Int × (List (Int × (List UInt8))) × (List (List UInt8)) × (List (List UInt8)))) × Int × Int → Option (List (Int × (List ((Bool × Bool × (List UInt8)) × (Bool × Bool × (List UInt8))))))) : (List (Int × (List ((Bool × Bool × (List UInt8)) × (Bool × Bool × (List UInt8)))))) × (List ((List UInt8) × Int × (List (Int × (List UInt8))) × (List (List UInt8)) × (List (List UInt8)))) × Int × Int → Option (List (Int × (List ((Bool × Bool × (List UInt8)) × (Bool × Bool × (List UInt8)))))) := fun (out_7, t52, t53, t54) =>
  bif (decide (t54 < t53)) then
    (at? t52 t54).bind fun y9 =>
    none
  else
    some out_7

def f25_l7 : (List (Int × (List ((Bool × Bool × (List UInt8)) × (Bool × Bool × (List UInt8)))))) × (List ((List UInt8) × Int × (List (Int × (List UInt8))) × (List (List UInt8)) × (List (List UInt8)))) × Int × Int → Option (List (Int × (List ((Bool × Bool × (List UInt8)) × (Bool × Bool × (List UInt8)))))) := loopN f25_r7 fuel

/-- provender/advisory.ranges -/
def f25 : (List UInt8) × (List (List UInt8)) × (List UInt8) × Int × Bool × (List UInt8) × (List ((List UInt8) × Int × (List (Int × (List UInt8))) × (List (List UInt8)) × (List (List UInt8)))) → Option ((List (Int × (List ((Bool × Bool × (List UInt8)) × (Bool × Bool × (List UInt8)))))) × Int) := fun a_0 =>
  (f37 a_0.1).bind fun r1 =>
  bif (!r1) then
    some (([] : List (Int × (List ((Bool × Bool × (List UInt8)) × (Bool × Bool × (List UInt8)))))), (8 : Int))
  else
    (f38 a_0).bind fun r2 =>
    bif (!(eqI r2 (0 : Int))) then
      some (([] : List (Int × (List ((Bool × Bool × (List UInt8)) × (Bool × Bool × (List UInt8)))))), r2)
    else
      (f37 a_0.2.2.1).bind fun r3 =>
      bif (!r3) then
        some (([] : List (Int × (List ((Bool × Bool × (List UInt8)) × (Bool × Bool × (List UInt8)))))), (8 : Int))
      else
        bif ((decide (a_0.2.2.2.1 < (0 : Int))) || (decide ((1000000 : Int) < a_0.2.2.2.1))) then
          some (([] : List (Int × (List ((Bool × Bool × (List UInt8)) × (Bool × Bool × (List UInt8)))))), (9 : Int))
        else
          (f25_p4 (a_0, (!(eqS a_0.2.2.2.2.2.1 ([] : List UInt8))))).bind fun r6 =>
          match r6 with
          | .inl y7 =>
            bif (decide ((50 : Int) < (y7.2.2.2.2.2.2.length : Int))) then
              some (([] : List (Int × (List ((Bool × Bool × (List UInt8)) × (Bool × Bool × (List UInt8)))))), (3 : Int))
            else
              (f25_l7 (([] : List (Int × (List ((Bool × Bool × (List UInt8)) × (Bool × Bool × (List UInt8)))))), y7.2.2.2.2.2.2, (y7.2.2.2.2.2.2.length : Int), (0 : Int))).bind fun r10 =>
              some (r10, (0 : Int))
          | .inr y7' =>
            some (y7'.1, y7'.2)

/-- provender/advisory.Check -/
def f19 : (List UInt8) × (List (List UInt8)) × (List UInt8) × Int × Bool × (List UInt8) × (List ((List UInt8) × Int × (List (Int × (List UInt8))) × (List (List UInt8)) × (List (List UInt8)))) → Option (Int) := fun a_0 =>
  (f25 a_0).bind fun r1 =>
  some r1.2

/-- provender/advisory.checkList: the round of a loop. -/
def f15_r1 (next : (List ((List UInt8) × (List (List UInt8)) × (List UInt8) × Int × Bool × (List UInt8) × (List ((List UInt8) × Int × (List (Int × (List UInt8))) × (List (List UInt8)) × (List (List UInt8)))))) × Int × Int → Option (Sum (Unit) (Int))) : (List ((List UInt8) × (List (List UInt8)) × (List UInt8) × Int × Bool × (List UInt8) × (List ((List UInt8) × Int × (List (Int × (List UInt8))) × (List (List UInt8)) × (List (List UInt8)))))) × Int × Int → Option (Sum (Unit) (Int)) := fun (t9, t10, t11) =>
  bif (decide (t11 < t10)) then
    (at? t9 t11).bind fun y1 =>
    (f19 y1).bind fun r2 =>
    bif (!(eqI r2 (0 : Int))) then
      some (.inr r2)
    else
      next (t9, t10, (IntKind.i64.wrap (t11 + (1 : Int))))
  else
    some (.inl ())

def f15_l1 : (List ((List UInt8) × (List (List UInt8)) × (List UInt8) × Int × Bool × (List UInt8) × (List ((List UInt8) × Int × (List (Int × (List UInt8))) × (List (List UInt8)) × (List (List UInt8)))))) × Int × Int → Option (Sum (Unit) (Int)) := loopN f15_r1 fuel

/-- provender/advisory.checkList -/
def f15 : List ((List UInt8) × (List (List UInt8)) × (List UInt8) × Int × Bool × (List UInt8) × (List ((List UInt8) × Int × (List (Int × (List UInt8))) × (List (List UInt8)) × (List (List UInt8))))) → Option (Int) := fun l_0 =>
  bif (decide ((2000 : Int) < (l_0.length : Int))) then
    some (3 : Int)
  else
    (f15_l1 (l_0, (l_0.length : Int), (0 : Int))).bind fun r3 =>
    match r3 with
    | .inl y4 =>
      some (0 : Int)
    | .inr y4' =>
      some y4'

def f35_p0 : Int × Int × Bool → Option (Int × Int) := fun (x_0, n_2, t4) =>
  bif t4 then
    (shr? IntKind.u64 x_0 (32 : Int)).bind fun n1 =>
    some (n1, (32 : Int))
  else
    some (x_0, n_2)

def f35_p1 : Int × Int × Bool → Option (Int × Int) := fun (x_0, n_2, t8) =>
  bif t8 then
    (shr? IntKind.u64 x_0 (16 : Int)).bind fun n3 =>
    some (n3, (IntKind.i64.wrap (n_2 + (16 : Int))))
  else
    some (x_0, n_2)

/-- math/bits.Len64 -/
def f35 : Int → Option (Int) := fun x_0 =>
  (f35_p0 (x_0, (0 : Int), (decide ((4294967296 : Int) ≤ x_0)))).bind fun r2 =>
  (f35_p1 (r2.1, r2.2, (decide ((65536 : Int) ≤ r2.1)))).bind fun r4 =>
  bif (decide ((256 : Int) ≤ r4.1)) then
    (shr? IntKind.u64 r4.1 (8 : Int)).bind fun n5 =>
    (at? ([0, 1, 2, 2, 3, 3, 3, 3, 4, 4, 4, 4, 4, 4, 4, 4, 5, 5, 5, 5, 5, 5, 5, 5, 5, 5, 5, 5, 5, 5, 5, 5, 6, 6, 6, 6, 6, 6, 6, 6, 6, 6, 6, 6, 6, 6, 6, 6, 6, 6, 6, 6, 6, 6, 6, 6, 6, 6, 6, 6, 6, 6, 6, 6, 7, 7, 7, 7, 7, 7, 7, 7, 7, 7, 7, 7, 7, 7, 7, 7, 7, 7, 7, 7, 7, 7, 7, 7, 7, 7, 7, 7, 7, 7, 7, 7, 7, 7, 7, 7, 7, 7, 7, 7, 7, 7, 7, 7, 7, 7, 7, 7, 7, 7, 7, 7, 7, 7, 7, 7, 7, 7, 7, 7, 7, 7, 7, 7, 8, 8, 8, 8, 8, 8, 8, 8, 8, 8, 8, 8, 8, 8, 8, 8, 8, 8, 8, 8, 8, 8, 8, 8, 8, 8, 8, 8, 8, 8, 8, 8, 8, 8, 8, 8, 8, 8, 8, 8, 8, 8, 8, 8, 8, 8, 8, 8, 8, 8, 8, 8, 8, 8, 8, 8, 8, 8, 8, 8, 8, 8, 8, 8, 8, 8, 8, 8, 8, 8, 8, 8, 8, 8, 8, 8, 8, 8, 8, 8, 8, 8, 8, 8, 8, 8, 8, 8, 8, 8, 8, 8, 8, 8, 8, 8, 8, 8, 8, 8, 8, 8, 8, 8, 8, 8, 8, 8, 8, 8, 8, 8, 8, 8, 8, 8, 8, 8, 8, 8, 8, 8, 8, 8, 8, 8, 8, 8] : List UInt8) (IntKind.u8.wrap n5)).bind fun b6 =>
    some (IntKind.i64.wrap ((IntKind.i64.wrap (r4.2 + (8 : Int))) + (IntKind.i64.wrap (b6.toNat : Int))))
  else
    (at? ([0, 1, 2, 2, 3, 3, 3, 3, 4, 4, 4, 4, 4, 4, 4, 4, 5, 5, 5, 5, 5, 5, 5, 5, 5, 5, 5, 5, 5, 5, 5, 5, 6, 6, 6, 6, 6, 6, 6, 6, 6, 6, 6, 6, 6, 6, 6, 6, 6, 6, 6, 6, 6, 6, 6, 6, 6, 6, 6, 6, 6, 6, 6, 6, 7, 7, 7, 7, 7, 7, 7, 7, 7, 7, 7, 7, 7, 7, 7, 7, 7, 7, 7, 7, 7, 7, 7, 7, 7, 7, 7, 7, 7, 7, 7, 7, 7, 7, 7, 7, 7, 7, 7, 7, 7, 7, 7, 7, 7, 7, 7, 7, 7, 7, 7, 7, 7, 7, 7, 7, 7, 7, 7, 7, 7, 7, 7, 7, 8, 8, 8, 8, 8, 8, 8, 8, 8, 8, 8, 8, 8, 8, 8, 8, 8, 8, 8, 8, 8, 8, 8, 8, 8, 8, 8, 8, 8, 8, 8, 8, 8, 8, 8, 8, 8, 8, 8, 8, 8, 8, 8, 8, 8, 8, 8, 8, 8, 8, 8, 8, 8, 8, 8, 8, 8, 8, 8, 8, 8, 8, 8, 8, 8, 8, 8, 8, 8, 8, 8, 8, 8, 8, 8, 8, 8, 8, 8, 8, 8, 8, 8, 8, 8, 8, 8, 8, 8, 8, 8, 8, 8, 8, 8, 8, 8, 8, 8, 8, 8, 8, 8, 8, 8, 8, 8, 8, 8, 8, 8, 8, 8, 8, 8, 8, 8, 8, 8, 8, 8, 8, 8, 8, 8, 8, 8, 8] : List UInt8) (IntKind.u8.wrap r4.1)).bind fun b8 =>
    some (IntKind.i64.wrap (r4.2 + (IntKind.i64.wrap (b8.toNat : Int))))

def f34_p0 : Int × Int × Bool → Option (Int × Int) := fun (x_0, n_2, t4) =>
  bif t4 then
    (shr? IntKind.u32 x_0 (16 : Int)).bind fun n1 =>
    some (n1, (16 : Int))
  else
    some (x_0, n_2)

/-- math/bits.Len32 -/
def f34 : Int → Option (Int) := fun x_0 =>
  (f34_p0 (x_0, (0 : Int), (decide ((65536 : Int) ≤ x_0)))).bind fun r2 =>
  bif (decide ((256 : Int) ≤ r2.1)) then
    (shr? IntKind.u32 r2.1 (8 : Int)).bind fun n3 =>
    (at? ([0, 1, 2, 2, 3, 3, 3, 3, 4, 4, 4, 4, 4, 4, 4, 4, 5, 5, 5, 5, 5, 5, 5, 5, 5, 5, 5, 5, 5, 5, 5, 5, 6, 6, 6, 6, 6, 6, 6, 6, 6, 6, 6, 6, 6, 6, 6, 6, 6, 6, 6, 6, 6, 6, 6, 6, 6, 6, 6, 6, 6, 6, 6, 6, 7, 7, 7, 7, 7, 7, 7, 7, 7, 7, 7, 7, 7, 7, 7, 7, 7, 7, 7, 7, 7, 7, 7, 7, 7, 7, 7, 7, 7, 7, 7, 7, 7, 7, 7, 7, 7, 7, 7, 7, 7, 7, 7, 7, 7, 7, 7, 7, 7, 7, 7, 7, 7, 7, 7, 7, 7, 7, 7, 7, 7, 7, 7, 7, 8, 8, 8, 8, 8, 8, 8, 8, 8, 8, 8, 8, 8, 8, 8, 8, 8, 8, 8, 8, 8, 8, 8, 8, 8, 8, 8, 8, 8, 8, 8, 8, 8, 8, 8, 8, 8, 8, 8, 8, 8, 8, 8, 8, 8, 8, 8, 8, 8, 8, 8, 8, 8, 8, 8, 8, 8, 8, 8, 8, 8, 8, 8, 8, 8, 8, 8, 8, 8, 8, 8, 8, 8, 8, 8, 8, 8, 8, 8, 8, 8, 8, 8, 8, 8, 8, 8, 8, 8, 8, 8, 8, 8, 8, 8, 8, 8, 8, 8, 8, 8, 8, 8, 8, 8, 8, 8, 8, 8, 8, 8, 8, 8, 8, 8, 8, 8, 8, 8, 8, 8, 8, 8, 8, 8, 8, 8, 8] : List UInt8) (IntKind.u8.wrap n3)).bind fun b4 =>
    some (IntKind.i64.wrap ((IntKind.i64.wrap (r2.2 + (8 : Int))) + (IntKind.i64.wrap (b4.toNat : Int))))
  else
    (at? ([0, 1, 2, 2, 3, 3, 3, 3, 4, 4, 4, 4, 4, 4, 4, 4, 5, 5, 5, 5, 5, 5, 5, 5, 5, 5, 5, 5, 5, 5, 5, 5, 6, 6, 6, 6, 6, 6, 6, 6, 6, 6, 6, 6, 6, 6, 6, 6, 6, 6, 6, 6, 6, 6, 6, 6, 6, 6, 6, 6, 6, 6, 6, 6, 7, 7, 7, 7, 7, 7, 7, 7, 7, 7, 7, 7, 7, 7, 7, 7, 7, 7, 7, 7, 7, 7, 7, 7, 7, 7, 7, 7, 7, 7, 7, 7, 7, 7, 7, 7, 7, 7, 7, 7, 7, 7, 7, 7, 7, 7, 7, 7, 7, 7, 7, 7, 7, 7, 7, 7, 7, 7, 7, 7, 7, 7, 7, 7, 8, 8, 8, 8, 8, 8, 8, 8, 8, 8, 8, 8, 8, 8, 8, 8, 8, 8, 8, 8, 8, 8, 8, 8, 8, 8, 8, 8, 8, 8, 8, 8, 8, 8, 8, 8, 8, 8, 8, 8, 8, 8, 8, 8, 8, 8, 8, 8, 8, 8, 8, 8, 8, 8, 8, 8, 8, 8, 8, 8, 8, 8, 8, 8, 8, 8, 8, 8, 8, 8, 8, 8, 8, 8, 8, 8, 8, 8, 8, 8, 8, 8, 8, 8, 8, 8, 8, 8, 8, 8, 8, 8, 8, 8, 8, 8, 8, 8, 8, 8, 8, 8, 8, 8, 8, 8, 8, 8, 8, 8, 8, 8, 8, 8, 8, 8, 8, 8, 8, 8, 8, 8, 8, 8, 8, 8, 8, 8] : List UInt8) (IntKind.u8.wrap r2.1)).bind fun b6 =>
    some (IntKind.i64.wrap (r2.2 + (IntKind.i64.wrap (b6.toNat : Int))))

/-- math/bits.Len -/
def f23 : Int → Option (Int) := fun x_0 =>
  (f35 x_0).bind fun r1 =>
  some r1

/-- slices.insertionSortCmpFunc[provender/api.Advisory]: the round of a loop. -/
def f26_r2 (next : (List ((List UInt8) × (List (List UInt8)) × (List UInt8) × Int × Bool × (List UInt8) × (List ((List UInt8) × Int × (List (Int × (List UInt8))) × (List (List UInt8)) × (List (List UInt8)))))) × Int × ((((List UInt8) × (List (List UInt8)) × (List UInt8) × Int × Bool × (List UInt8) × (List ((List UInt8) × Int × (List (Int × (List UInt8))) × (List (List UInt8)) × (List (List UInt8))))) × ((List UInt8) × (List (List UInt8)) × (List UInt8) × Int × Bool × (List UInt8) × (List ((List UInt8) × Int × (List (Int × (List UInt8))) × (List (List UInt8)) × (List (List UInt8)))))) → Option Int) × Int → Option (List ((List UInt8) × (List (List UInt8)) × (List UInt8) × Int × Bool × (List UInt8) × (List ((List UInt8) × Int × (List (Int × (List UInt8))) × (List (List UInt8)) × (List (List UInt8))))))) : (List ((List UInt8) × (List (List UInt8)) × (List UInt8) × Int × Bool × (List UInt8) × (List ((List UInt8) × Int × (List (Int × (List UInt8))) × (List (List UInt8)) × (List (List UInt8)))))) × Int × ((((List UInt8) × (List (List UInt8)) × (List UInt8) × Int × Bool × (List UInt8) × (List ((List UInt8) × Int × (List (Int × (List UInt8))) × (List (List UInt8)) × (List (List UInt8))))) × ((List UInt8) × (List (List UInt8)) × (List UInt8) × Int × Bool × (List UInt8) × (List ((List UInt8) × Int × (List (Int × (List UInt8))) × (List (List UInt8)) × (List (List UInt8)))))) → Option Int) × Int → Option (List ((List UInt8) × (List (List UInt8)) × (List UInt8) × Int × Bool × (List UInt8) × (List ((List UInt8) × Int × (List (Int × (List UInt8))) × (List (List UInt8)) × (List (List UInt8)))))) := fun (data_0, a_1, cmp_3, j_9) =>
  (bif (decide (a_1 < j_9)) then in? data_0.length j_9 else some ()).bind fun _ =>
  (bif (decide (a_1 < j_9)) then in? data_0.length (IntKind.i64.wrap (j_9 - (1 : Int))) else some ()).bind fun _ =>
  (bif (decide (a_1 < j_9)) then cmp_3 ((data_0.getD j_9.toNat (([] : List UInt8), (([] : List (List UInt8)), (([] : List UInt8), ((0 : Int), (false, (([] : List UInt8), ([] : List ((List UInt8) × Int × (List (Int × (List UInt8))) × (List (List UInt8)) × (List (List UInt8))))))))))), (data_0.getD ((IntKind.i64.wrap (j_9 - (1 : Int))).toNat) (([] : List UInt8), (([] : List (List UInt8)), (([] : List UInt8), ((0 : Int), (false, (([] : List UInt8), ([] : List ((List UInt8) × Int × (List (Int × (List UInt8))) × (List (List UInt8)) × (List (List UInt8)))))))))))) else some (0 : Int)).bind fun r3 =>
  bif ((decide (a_1 < j_9)) && (decide (r3 < (0 : Int)))) then
    (in? data_0.length (IntKind.i64.wrap (j_9 - (1 : Int)))).bind fun _ =>
    let v4 := (data_0.getD ((IntKind.i64.wrap (j_9 - (1 : Int))).toNat) (([] : List UInt8), (([] : List (List UInt8)), (([] : List UInt8), ((0 : Int), (false, (([] : List UInt8), ([] : List ((List UInt8) × Int × (List (Int × (List UInt8))) × (List (List UInt8)) × (List (List UInt8)))))))))))
    (in? data_0.length j_9).bind fun _ =>
    (in? data_0.length j_9).bind fun _ =>
    (in? (data_0.set j_9.toNat v4).length (IntKind.i64.wrap (j_9 - (1 : Int)))).bind fun _ =>
    next (((data_0.set j_9.toNat v4).set ((IntKind.i64.wrap (j_9 - (1 : Int))).toNat) (data_0.getD j_9.toNat (([] : List UInt8), (([] : List (List UInt8)), (([] : List UInt8), ((0 : Int), (false, (([] : List UInt8), ([] : List ((List UInt8) × Int × (List (Int × (List UInt8))) × (List (List UInt8)) × (List (List UInt8)))))))))))), a_1, cmp_3, (IntKind.i64.wrap (j_9 - (1 : Int))))
  else
    some data_0

def f26_l2 : (List ((List UInt8) × (List (List UInt8)) × (List UInt8) × Int × Bool × (List UInt8) × (List ((List UInt8) × Int × (List (Int × (List UInt8))) × (List (List UInt8)) × (List (List UInt8)))))) × Int × ((((List UInt8) × (List (List UInt8)) × (List UInt8) × Int × Bool × (List UInt8) × (List ((List UInt8) × Int × (List (Int × (List UInt8))) × (List (List UInt8)) × (List (List UInt8))))) × ((List UInt8) × (List (List UInt8)) × (List UInt8) × Int × Bool × (List UInt8) × (List ((List UInt8) × Int × (List (Int × (List UInt8))) × (List (List UInt8)) × (List (List UInt8)))))) → Option Int) × Int → Option (List ((List UInt8) × (List (List UInt8)) × (List UInt8) × Int × Bool × (List UInt8) × (List ((List UInt8) × Int × (List (Int × (List UInt8))) × (List (List UInt8)) × (List (List UInt8)))))) := loopN f26_r2 fuel

/-- slices.insertionSortCmpFunc[provender/api.Advisory]: the round of a loop. -/
def f26_r0 (next : (List ((List UInt8) × (List (List UInt8)) × (List UInt8) × Int × Bool × (List UInt8) × (List ((List UInt8) × Int × (List (Int × (List UInt8))) × (List (List UInt8)) × (List (List UInt8)))))) × Int × Int × ((((List UInt8) × (List (List UInt8)) × (List UInt8) × Int × Bool × (List UInt8) × (List ((List UInt8) × Int × (List (Int × (List UInt8))) × (List (List UInt8)) × (List (List UInt8))))) × ((List UInt8) × (List (List UInt8)) × (List UInt8) × Int × Bool × (List UInt8) × (List ((List UInt8) × Int × (List (Int × (List UInt8))) × (List (List UInt8)) × (List (List UInt8)))))) → Option Int) × Int → Option (List ((List UInt8) × (List (List UInt8)) × (List UInt8) × Int × Bool × (List UInt8) × (List ((List UInt8) × Int × (List (Int × (List UInt8))) × (List (List UInt8)) × (List (List UInt8))))))) : (List ((List UInt8) × (List (List UInt8)) × (List UInt8) × Int × Bool × (List UInt8) × (List ((List UInt8) × Int × (List (Int × (List UInt8))) × (List (List UInt8)) × (List (List UInt8)))))) × Int × Int × ((((List UInt8) × (List (List UInt8)) × (List UInt8) × Int × Bool × (List UInt8) × (List ((List UInt8) × Int × (List (Int × (List UInt8))) × (List (List UInt8)) × (List (List UInt8))))) × ((List UInt8) × (List (List UInt8)) × (List UInt8) × Int × Bool × (List UInt8) × (List ((List UInt8) × Int × (List (Int × (List UInt8))) × (List (List UInt8)) × (List (List UInt8)))))) → Option Int) × Int → Option (List ((List UInt8) × (List (List UInt8)) × (List UInt8) × Int × Bool × (List UInt8) × (List ((List UInt8) × Int × (List (Int × (List UInt8))) × (List (List UInt8)) × (List (List UInt8)))))) := fun (data_0, a_1, b_2, cmp_3, i_8) =>
  bif (decide (i_8 < b_2)) then
    (f26_l2 (data_0, a_1, cmp_3, i_8)).bind fun r7 =>
    next (r7, a_1, b_2, cmp_3, (IntKind.i64.wrap (i_8 + (1 : Int))))
  else
    some data_0

def f26_l0 : (List ((List UInt8) × (List (List UInt8)) × (List UInt8) × Int × Bool × (List UInt8) × (List ((List UInt8) × Int × (List (Int × (List UInt8))) × (List (List UInt8)) × (List (List UInt8)))))) × Int × Int × ((((List UInt8) × (List (List UInt8)) × (List UInt8) × Int × Bool × (List UInt8) × (List ((List UInt8) × Int × (List (Int × (List UInt8))) × (List (List UInt8)) × (List (List UInt8))))) × ((List UInt8) × (List (List UInt8)) × (List UInt8) × Int × Bool × (List UInt8) × (List ((List UInt8) × Int × (List (Int × (List UInt8))) × (List (List UInt8)) × (List (List UInt8)))))) → Option Int) × Int → Option (List ((List UInt8) × (List (List UInt8)) × (List UInt8) × Int × Bool × (List UInt8) × (List ((List UInt8) × Int × (List (Int × (List UInt8))) × (List (List UInt8)) × (List (List UInt8)))))) := loopN f26_r0 fuel

/-- slices.insertionSortCmpFunc[provender/api.Advisory] -/
def f26 : (List ((List UInt8) × (List (List UInt8)) × (List UInt8) × Int × Bool × (List UInt8) × (List ((List UInt8) × Int × (List (Int × (List UInt8))) × (List (List UInt8)) × (List (List UInt8)))))) × Int × Int × ((((List UInt8) × (List (List UInt8)) × (List UInt8) × Int × Bool × (List UInt8) × (List ((List UInt8) × Int × (List (Int × (List UInt8))) × (List (List UInt8)) × (List (List UInt8))))) × ((List UInt8) × (List (List UInt8)) × (List UInt8) × Int × Bool × (List UInt8) × (List ((List UInt8) × Int × (List (Int × (List UInt8))) × (List (List UInt8)) × (List (List UInt8)))))) → Option Int) → Option (List ((List UInt8) × (List (List UInt8)) × (List UInt8) × Int × Bool × (List UInt8) × (List ((List UInt8) × Int × (List (Int × (List UInt8))) × (List (List UInt8)) × (List (List UInt8)))))) := fun (data_0, a_1, b_2, cmp_3) =>
  (f26_l0 (data_0, a_1, b_2, cmp_3, (IntKind.i64.wrap (a_1 + (1 : Int))))).bind fun r8 =>
  some r8

def f22_p3 : (List ((List UInt8) × (List (List UInt8)) × (List UInt8) × Int × Bool × (List UInt8) × (List ((List UInt8) × Int × (List (Int × (List UInt8))) × (List (List UInt8)) × (List (List UInt8)))))) × Int × Int × Int × ((((List UInt8) × (List (List UInt8)) × (List UInt8) × Int × Bool × (List UInt8) × (List ((List UInt8) × Int × (List (Int × (List UInt8))) × (List (List UInt8)) × (List (List UInt8))))) × ((List UInt8) × (List (List UInt8)) × (List UInt8) × Int × Bool × (List UInt8) × (List ((List UInt8) × Int × (List (Int × (List UInt8))) × (List (List UInt8)) × (List (List UInt8)))))) → Option Int) × Bool → Option ((List ((List UInt8) × (List (List UInt8)) × (List UInt8) × Int × Bool × (List UInt8) × (List ((List UInt8) × Int × (List (Int × (List UInt8))) × (List (List UInt8)) × (List (List UInt8)))))) × Int) := fun (data_0, a_1, b_2, limit_3, cmp_4, t39) =>
  bif t39 then
    none
  else
    some (data_0, limit_3)

/-- slices.pdqsortCmpFunc[provender/api.Advisory]: the round of a loop. -/
def f22_r0 (next : (List ((List UInt8) × (List (List UInt8)) × (List UInt8) × Int × Bool × (List UInt8) × (List ((List UInt8) × Int × (List (Int × (List UInt8))) × (List (List UInt8)) × (List (List UInt8)))))) × Int × Int × Int × ((((List UInt8) × (List (List UInt8)) × (List UInt8) × Int × Bool × (List UInt8) × (List ((List UInt8) × Int × (List (Int × (List UInt8))) × (List (List UInt8)) × (List (List UInt8))))) × ((List UInt8) × (List (List UInt8)) × (List UInt8) × Int × Bool × (List UInt8) × (List ((List UInt8) × Int × (List (Int × (List UInt8))) × (List (List UInt8)) × (List (List UInt8)))))) → Option Int) × Bool × Bool → Option (List ((List UInt8) × (List (List UInt8)) × (List UInt8) × Int × Bool × (List UInt8) × (List ((List UInt8) × Int × (List (Int × (List UInt8))) × (List (List UInt8)) × (List (List UInt8))))))) : (List ((List UInt8) × (List (List UInt8)) × (List UInt8) × Int × Bool × (List UInt8) × (List ((List UInt8) × Int × (List (Int × (List UInt8))) × (List (List UInt8)) × (List (List UInt8)))))) × Int × Int × Int × ((((List UInt8) × (List (List UInt8)) × (List UInt8) × Int × Bool × (List UInt8) × (List ((List UInt8) × Int × (List (Int × (List UInt8))) × (List (List UInt8)) × (List (List UInt8))))) × ((List UInt8) × (List (List UInt8)) × (List UInt8) × Int × Bool × (List UInt8) × (List ((List UInt8) × Int × (List (Int × (List UInt8))) × (List (List UInt8)) × (List (List UInt8)))))) → Option Int) × Bool × Bool → Option (List ((List UInt8) × (List (List UInt8)) × (List UInt8) × Int × Bool × (List UInt8) × (List ((List UInt8) × Int × (List (Int × (List UInt8))) × (List (List UInt8)) × (List (List UInt8)))))) := fun (data_0, a_1, b_2, limit_3, cmp_4, wasBalanced_10, wasPartitioned_11) =>
  bif (decide ((IntKind.i64.wrap (b_2 - a_1)) ≤ (12 : Int))) then
    (f26 (data_0, a_1, b_2, cmp_4)).bind fun r1 =>
    some r1
  else
    bif (eqI limit_3 (0 : Int)) then
      none
    else
      (f22_p3 (data_0, a_1, b_2, limit_3, cmp_4, (!wasBalanced_10))).bind fun r2 =>
      none

def f22_l0 : (List ((List UInt8) × (List (List UInt8)) × (List UInt8) × Int × Bool × (List UInt8) × (List ((List UInt8) × Int × (List (Int × (List UInt8))) × (List (List UInt8)) × (List (List UInt8)))))) × Int × Int × Int × ((((List UInt8) × (List (List UInt8)) × (List UInt8) × Int × Bool × (List UInt8) × (List ((List UInt8) × Int × (List (Int × (List UInt8))) × (List (List UInt8)) × (List (List UInt8))))) × ((List UInt8) × (List (List UInt8)) × (List UInt8) × Int × Bool × (List UInt8) × (List ((List UInt8) × Int × (List (Int × (List UInt8))) × (List (List UInt8)) × (List (List UInt8)))))) → Option Int) × Bool × Bool → Option (List ((List UInt8) × (List (List UInt8)) × (List UInt8) × Int × Bool × (List UInt8) × (List ((List UInt8) × Int × (List (Int × (List UInt8))) × (List (List UInt8)) × (List (List UInt8)))))) := loopN f22_r0 fuel

/-- slices.pdqsortCmpFunc[provender/api.Advisory] -/
def f22 : (List ((List UInt8) × (List (List UInt8)) × (List UInt8) × Int × Bool × (List UInt8) × (List ((List UInt8) × Int × (List (Int × (List UInt8))) × (List (List UInt8)) × (List (List UInt8)))))) × Int × Int × Int × ((((List UInt8) × (List (List UInt8)) × (List UInt8) × Int × Bool × (List UInt8) × (List ((List UInt8) × Int × (List (Int × (List UInt8))) × (List (List UInt8)) × (List (List UInt8))))) × ((List UInt8) × (List (List UInt8)) × (List UInt8) × Int × Bool × (List UInt8) × (List ((List UInt8) × Int × (List (Int × (List UInt8))) × (List (List UInt8)) × (List (List UInt8)))))) → Option Int) → Option (List ((List UInt8) × (List (List UInt8)) × (List UInt8) × Int × Bool × (List UInt8) × (List ((List UInt8) × Int × (List (Int × (List UInt8))) × (List (List UInt8)) × (List (List UInt8)))))) := fun (data_0, a_1, b_2, limit_3, cmp_4) =>
  (f22_l0 (data_0, a_1, b_2, limit_3, cmp_4, true, true)).bind fun r3 =>
  some r3

/-- slices.SortFunc[[]provender/api.Advisory,provender/api.Advisory] -/
def f17 : (List ((List UInt8) × (List (List UInt8)) × (List UInt8) × Int × Bool × (List UInt8) × (List ((List UInt8) × Int × (List (Int × (List UInt8))) × (List (List UInt8)) × (List (List UInt8)))))) × ((((List UInt8) × (List (List UInt8)) × (List UInt8) × Int × Bool × (List UInt8) × (List ((List UInt8) × Int × (List (Int × (List UInt8))) × (List (List UInt8)) × (List (List UInt8))))) × ((List UInt8) × (List (List UInt8)) × (List UInt8) × Int × Bool × (List UInt8) × (List ((List UInt8) × Int × (List (Int × (List UInt8))) × (List (List UInt8)) × (List (List UInt8)))))) → Option Int) → Option (List ((List UInt8) × (List (List UInt8)) × (List UInt8) × Int × Bool × (List UInt8) × (List ((List UInt8) × Int × (List (Int × (List UInt8))) × (List (List UInt8)) × (List (List UInt8)))))) := fun (x_0, cmp_1) =>
  (f23 (IntKind.u64.wrap (x_0.length : Int))).bind fun r1 =>
  (f22 (x_0, (0 : Int), (x_0.length : Int), r1, cmp_1)).bind fun r2 =>
  some r2

/-- provender/advisory.New: the round of a loop. -/
def f12_r1 (next : (Int × ((List ((List UInt8) × (List (List UInt8)) × (List UInt8) × Int × Bool × (List UInt8) × (List ((List UInt8) × Int × (List (Int × (List UInt8))) × (List (List UInt8)) × (List (List UInt8)))))) × (List Int))) × (List ((List UInt8) × (List (List UInt8)) × (List UInt8) × Int × Bool × (List UInt8) × (List ((List UInt8) × Int × (List (Int × (List UInt8))) × (List (List UInt8)) × (List (List UInt8)))))) × Int × Int → Option (Int × ((List ((List UInt8) × (List (List UInt8)) × (List UInt8) × Int × Bool × (List UInt8) × (List ((List UInt8) × Int × (List (Int × (List UInt8))) × (List (List UInt8)) × (List (List UInt8)))))) × (List Int)))) : (Int × ((List ((List UInt8) × (List (List UInt8)) × (List UInt8) × Int × Bool × (List UInt8) × (List ((List UInt8) × Int × (List (Int × (List UInt8))) × (List (List UInt8)) × (List (List UInt8)))))) × (List Int))) × (List ((List UInt8) × (List (List UInt8)) × (List UInt8) × Int × Bool × (List UInt8) × (List ((List UInt8) × Int × (List (Int × (List UInt8))) × (List (List UInt8)) × (List (List UInt8)))))) × Int × Int → Option (Int × ((List ((List UInt8) × (List (List UInt8)) × (List UInt8) × Int × Bool × (List UInt8) × (List ((List UInt8) × Int × (List (Int × (List UInt8))) × (List (List UInt8)) × (List (List UInt8)))))) × (List Int))) := fun (b_5, t15, t16, t17) =>
  bif (decide (t17 < t16)) then
    (at? t15 t17).bind fun y3 =>
    (f16 y3).bind fun r4 =>
    (app? 168 b_5.2.1 ([r4] : List ((List UInt8) × (List (List UInt8)) × (List UInt8) × Int × Bool × (List UInt8) × (List ((List UInt8) × Int × (List (Int × (List UInt8))) × (List (List UInt8)) × (List (List UInt8))))))).bind fun l6 =>
    (app? 24 b_5.2.2 ([(0 : Int)] : List Int)).bind fun l7 =>
    next ((b_5.1, (l6, l7)), t15, t16, (IntKind.i64.wrap (t17 + (1 : Int))))
  else
    some (b_5.1, (b_5.2.1, b_5.2.2))

def f12_l1 : (Int × ((List ((List UInt8) × (List (List UInt8)) × (List UInt8) × Int × Bool × (List UInt8) × (List ((List UInt8) × Int × (List (Int × (List UInt8))) × (List (List UInt8)) × (List (List UInt8)))))) × (List Int))) × (List ((List UInt8) × (List (List UInt8)) × (List UInt8) × Int × Bool × (List UInt8) × (List ((List UInt8) × Int × (List (Int × (List UInt8))) × (List (List UInt8)) × (List (List UInt8)))))) × Int × Int → Option (Int × ((List ((List UInt8) × (List (List UInt8)) × (List UInt8) × Int × Bool × (List UInt8) × (List ((List UInt8) × Int × (List (Int × (List UInt8))) × (List (List UInt8)) × (List (List UInt8)))))) × (List Int))) := loopN f12_r1 fuel

/-- provender/advisory.New: the round of a loop. -/
def f12_r3 (next : (Int × (List ((List UInt8) × (List (List UInt8)) × (List UInt8) × Int × Bool × (List UInt8) × (List ((List UInt8) × Int × (List (Int × (List UInt8))) × (List (List UInt8)) × (List (List UInt8)))))) × (List Int)) × (Int × ((List ((List UInt8) × (List (List UInt8)) × (List UInt8) × Int × Bool × (List UInt8) × (List ((List UInt8) × Int × (List (Int × (List UInt8))) × (List (List UInt8)) × (List (List UInt8)))))) × (List Int))) × Int → Option (Sum ((Int × (List ((List UInt8) × (List (List UInt8)) × (List UInt8) × Int × Bool × (List UInt8) × (List ((List UInt8) × Int × (List (Int × (List UInt8))) × (List (List UInt8)) × (List (List UInt8)))))) × (List Int)) × (Int × ((List ((List UInt8) × (List (List UInt8)) × (List UInt8) × Int × Bool × (List UInt8) × (List ((List UInt8) × Int × (List (Int × (List UInt8))) × (List (List UInt8)) × (List (List UInt8)))))) × (List Int)))) ((Int × (List ((List UInt8) × (List (List UInt8)) × (List UInt8) × Int × Bool × (List UInt8) × (List ((List UInt8) × Int × (List (Int × (List UInt8))) × (List (List UInt8)) × (List (List UInt8)))))) × (List Int)) × Int))) : (Int × (List ((List UInt8) × (List (List UInt8)) × (List UInt8) × Int × Bool × (List UInt8) × (List ((List UInt8) × Int × (List (Int × (List UInt8))) × (List (List UInt8)) × (List (List UInt8)))))) × (List Int)) × (Int × ((List ((List UInt8) × (List (List UInt8)) × (List UInt8) × Int × Bool × (List UInt8) × (List ((List UInt8) × Int × (List (Int × (List UInt8))) × (List (List UInt8)) × (List (List UInt8)))))) × (List Int))) × Int → Option (Sum ((Int × (List ((List UInt8) × (List (List UInt8)) × (List UInt8) × Int × Bool × (List UInt8) × (List ((List UInt8) × Int × (List (Int × (List UInt8))) × (List (List UInt8)) × (List (List UInt8)))))) × (List Int)) × (Int × ((List ((List UInt8) × (List (List UInt8)) × (List UInt8) × Int × Bool × (List UInt8) × (List ((List UInt8) × Int × (List (Int × (List UInt8))) × (List (List UInt8)) × (List (List UInt8)))))) × (List Int)))) ((Int × (List ((List UInt8) × (List (List UInt8)) × (List UInt8) × Int × Bool × (List UInt8) × (List ((List UInt8) × Int × (List (Int × (List UInt8))) × (List (List UInt8)) × (List (List UInt8)))))) × (List Int)) × Int)) := fun (t2, b_5, i_8) =>
  bif (decide (i_8 < (b_5.2.1.length : Int))) then
    (in? b_5.2.1.length i_8).bind fun _ =>
    (in? b_5.2.1.length (IntKind.i64.wrap (i_8 - (1 : Int)))).bind fun _ =>
    bif (eqS ((b_5.2.1.getD i_8.toNat (([] : List UInt8), (([] : List (List UInt8)), (([] : List UInt8), ((0 : Int), (false, (([] : List UInt8), ([] : List ((List UInt8) × Int × (List (Int × (List UInt8))) × (List (List UInt8)) × (List (List UInt8))))))))))).1) ((b_5.2.1.getD ((IntKind.i64.wrap (i_8 - (1 : Int))).toNat) (([] : List UInt8), (([] : List (List UInt8)), (([] : List UInt8), ((0 : Int), (false, (([] : List UInt8), ([] : List ((List UInt8) × Int × (List (Int × (List UInt8))) × (List (List UInt8)) × (List (List UInt8))))))))))).1)) then
      some (.inr (((0 : Int), (([] : List ((List UInt8) × (List (List UInt8)) × (List UInt8) × Int × Bool × (List UInt8) × (List ((List UInt8) × Int × (List (Int × (List UInt8))) × (List (List UInt8)) × (List (List UInt8)))))), ([] : List Int))), (5 : Int)))
    else
      next (t2, (b_5.1, (b_5.2.1, b_5.2.2)), (IntKind.i64.wrap (i_8 + (1 : Int))))
  else
    some (.inl (t2, (b_5.1, (b_5.2.1, b_5.2.2))))

def f12_l3 : (Int × (List ((List UInt8) × (List (List UInt8)) × (List UInt8) × Int × Bool × (List UInt8) × (List ((List UInt8) × Int × (List (Int × (List UInt8))) × (List (List UInt8)) × (List (List UInt8)))))) × (List Int)) × (Int × ((List ((List UInt8) × (List (List UInt8)) × (List UInt8) × Int × Bool × (List UInt8) × (List ((List UInt8) × Int × (List (Int × (List UInt8))) × (List (List UInt8)) × (List (List UInt8)))))) × (List Int))) × Int → Option (Sum ((Int × (List ((List UInt8) × (List (List UInt8)) × (List UInt8) × Int × Bool × (List UInt8) × (List ((List UInt8) × Int × (List (Int × (List UInt8))) × (List (List UInt8)) × (List (List UInt8)))))) × (List Int)) × (Int × ((List ((List UInt8) × (List (List UInt8)) × (List UInt8) × Int × Bool × (List UInt8) × (List ((List UInt8) × Int × (List (Int × (List UInt8))) × (List (List UInt8)) × (List (List UInt8)))))) × (List Int)))) ((Int × (List ((List UInt8) × (List (List UInt8)) × (List UInt8) × Int × Bool × (List UInt8) × (List ((List UInt8) × Int × (List (Int × (List UInt8))) × (List (List UInt8)) × (List (List UInt8)))))) × (List Int)) × Int)) := loopN f12_r3 fuel

/-- provender/advisory.New -/
def f12 : List ((List UInt8) × (List (List UInt8)) × (List UInt8) × Int × Bool × (List UInt8) × (List ((List UInt8) × Int × (List (Int × (List UInt8))) × (List (List UInt8)) × (List (List UInt8))))) → Option ((Int × (List ((List UInt8) × (List (List UInt8)) × (List UInt8) × Int × Bool × (List UInt8) × (List ((List UInt8) × Int × (List (Int × (List UInt8))) × (List (List UInt8)) × (List (List UInt8)))))) × (List Int)) × Int) := fun l_0 =>
  (f15 l_0).bind fun r1 =>
  bif (!(eqI r1 (0 : Int))) then
    some (((0 : Int), (([] : List ((List UInt8) × (List (List UInt8)) × (List UInt8) × Int × Bool × (List UInt8) × (List ((List UInt8) × Int × (List (Int × (List UInt8))) × (List (List UInt8)) × (List (List UInt8)))))), ([] : List Int))), r1)
  else
    (f12_l1 (((0 : Int), (([] : List ((List UInt8) × (List (List UInt8)) × (List UInt8) × Int × Bool × (List UInt8) × (List ((List UInt8) × Int × (List (Int × (List UInt8))) × (List (List UInt8)) × (List (List UInt8)))))), ([] : List Int))), l_0, (l_0.length : Int), (0 : Int))).bind fun r8 =>
    (f17 (r8.2.1, (fun x => (f18 x).bind fun r => some r))).bind fun r9 =>
    (f12_l3 (((0 : Int), (([] : List ((List UInt8) × (List (List UInt8)) × (List UInt8) × Int × Bool × (List UInt8) × (List ((List UInt8) × Int × (List (Int × (List UInt8))) × (List (List UInt8)) × (List (List UInt8)))))), ([] : List Int))), (r8.1, (r9, r8.2.2)), (1 : Int))).bind fun r13 =>
    match r13 with
    | .inl y14 =>
      some ((y14.2.1, (y14.2.2.1, y14.2.2.2)), (0 : Int))
    | .inr y14' =>
      some (y14'.1, y14'.2)

/-- provender/provenderlaw5.told -/
def f6 : Unit → Option (Bool) := fun _ =>
  (f5 ([78, 72, 76, 76, 78, 78] : List UInt8)).bind fun r1 =>
  (f12 ([(([65] : List UInt8), (([] : List (List UInt8)), (([120] : List UInt8), ((0 : Int), (false, (([] : List UInt8), ([] : List ((List UInt8) × Int × (List (Int × (List UInt8))) × (List (List UInt8)) × (List (List UInt8))))))))))] : List ((List UInt8) × (List (List UInt8)) × (List UInt8) × Int × Bool × (List UInt8) × (List ((List UInt8) × Int × (List (Int × (List UInt8))) × (List (List UInt8)) × (List (List UInt8))))))).bind fun r4 =>
  some ((((eqI r1.1 (34 : Int)) && (eqI r1.2 (0 : Int))) && (eqI r4.2 (0 : Int))) && (eqI (r4.1.2.1.length : Int) (1 : Int)))

/-- provender/provenderlaw5.AdvisoryScoreMatchesSpec -/
def f4 : (List UInt8) × Int → Option (Bool) := fun (vector_0, n_1) =>
  (f5 vector_0).bind fun r1 =>
  (f8 vector_0).bind fun r2 =>
  (f9 n_1).bind fun r3 =>
  (f10 n_1).bind fun r4 =>
  let v5 := ((((eqI r1.1 r2.1) && (eqI r1.2 r2.2)) && (eqI r3.1 r4.1)) && (eqI r3.2 r4.2))
  (bif v5 then f6 () else some false).bind fun r6 =>
  some (v5 && r6)

/-- provender/provenderlaw5.AdvisoryWorseIsNotLess -/
def f3 : (List UInt8) × Int × Int → Option (Bool) := fun (vector_0, place_1, letter_2) =>
  (f5 vector_0).bind fun r1 =>
  bif (((!(eqI r1.2 (0 : Int))) || (decide (place_1 < (0 : Int)))) || (decide ((5 : Int) < place_1))) then
    (f6 ()).bind fun r3 =>
    some r3
  else
    (cut? vector_0 (0 : Int) place_1).bind fun s4 =>
    (cat? [] (strOf ([letter_2] : List Int))).bind fun s5 =>
    (cat? s4 s5).bind fun s6 =>
    (cut? vector_0 (IntKind.i64.wrap (place_1 + (1 : Int))) (vector_0.length : Int)).bind fun s7 =>
    (cat? s6 s7).bind fun s8 =>
    (f5 s8).bind fun r9 =>
    (at? ([([78, 65, 76, 80] : List UInt8), ([76, 72] : List UInt8), ([78, 76, 72] : List UInt8), ([72, 76, 78] : List UInt8), ([72, 76, 78] : List UInt8), ([72, 76, 78] : List UInt8)] : List (List UInt8)) place_1).bind fun y11 =>
    (at? vector_0 place_1).bind fun b12 =>
    (f7 ((bytesOf y11), (b12.toNat : Int))).bind fun r13 =>
    (f7 ((bytesOf y11), letter_2)).bind fun r14 =>
    bif (decide (r14 < (0 : Int))) then
      (bif (eqI r9.2 (7 : Int)) then f6 () else some false).bind fun r15 =>
      some ((eqI r9.2 (7 : Int)) && r15)
    else
      let v16 := ((eqI r9.2 (0 : Int)) && ((decide (r13 < r14)) || (decide (r1.1 ≤ r9.1))))
      (bif (v16 && ((decide (r14 < r13)) || (decide (r9.1 ≤ r1.1)))) then f6 () else some false).bind fun r17 =>
      some ((v16 && ((decide (r14 < r13)) || (decide (r9.1 ≤ r1.1)))) && r17)

end Go.Ev.Pv
