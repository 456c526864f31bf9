/-
  A part of the proof: L1.
-/
import Derived.Test.YtncjpbogjfibfaaGreatDoorT1D
import Derived.KernelRfl
set_option linter.unusedVariables false
set_option linter.unusedSimpArgs false
set_option maxRecDepth 100000
namespace Go.Ev.Pv
theorem told_true : f6 () = some true := by kernel_rfl

/-! The weights. -/
def wl : Nat → List (Int × Int)
  | 0 => [(78, 85), (65, 62), (76, 55), (80, 20)]
  | 1 => [(76, 77), (72, 44)]
  | 2 => [(78, 85), (76, 62), (72, 27)]
  | _ => [(72, 56), (76, 22), (78, 0)]

def wt (k : Nat) (x : Int) : Option Int := findKV eqI x (wl k)

theorem eqI_comm (a b : Int) : eqI a b = eqI b a := by unfold eqI; exact Bool.beq_comm

def h2 (e1 e2 : Bool) (a b : Int) : Option Int :=
  (bif e1 then some (Sum.inr a) else bif e2 then some (Sum.inr b) else some (Sum.inl ())).bind fun r : Sum Unit Int => match r with
  | .inl _ => some (-1 : Int)
  | .inr y => some y
def h3 (e1 e2 e3 : Bool) (a b c : Int) : Option Int :=
  (bif e1 then some (Sum.inr a) else bif e2 then some (Sum.inr b) else bif e3 then some (Sum.inr c) else some (Sum.inl ())).bind fun r : Sum Unit Int => match r with
  | .inl _ => some (-1 : Int)
  | .inr y => some y
def h4 (e1 e2 e3 e4 : Bool) (a b c d : Int) : Option Int :=
  (bif e1 then some (Sum.inr a) else bif e2 then some (Sum.inr b) else bif e3 then some (Sum.inr c) else bif e4 then some (Sum.inr d) else some (Sum.inl ())).bind fun r : Sum Unit Int => match r with
  | .inl _ => some (-1 : Int)
  | .inr y => some y

theorem weight0 (x : Int) : f13 (0, x) = some ((wt 0 x).getD (-1)) := by
  have h : f13 (0, x) = h4 (eqI 78 x) (eqI 65 x) (eqI 76 x) (eqI 80 x) 85 62 55 20 := by kernel_rfl
  have g : wt 0 x = bif eqI x 78 then some 85 else bif eqI x 65 then some 62 else bif eqI x 76 then some 55 else bif eqI x 80 then some 20 else none := by kernel_rfl
  rw [h, g, eqI_comm x 78, eqI_comm x 65, eqI_comm x 76, eqI_comm x 80]
  cases eqI 78 x <;> cases eqI 65 x <;> cases eqI 76 x <;> cases eqI 80 x <;> rfl
theorem weight1 (x : Int) : f13 (1, x) = some ((wt 1 x).getD (-1)) := by
  have h : f13 (1, x) = h2 (eqI 76 x) (eqI 72 x) 77 44 := by kernel_rfl
  have g : wt 1 x = bif eqI x 76 then some 77 else bif eqI x 72 then some 44 else none := by kernel_rfl
  rw [h, g, eqI_comm x 76, eqI_comm x 72]
  cases eqI 76 x <;> cases eqI 72 x <;> rfl
theorem weight2 (x : Int) : f13 (2, x) = some ((wt 2 x).getD (-1)) := by
  have h : f13 (2, x) = h3 (eqI 78 x) (eqI 76 x) (eqI 72 x) 85 62 27 := by kernel_rfl
  have g : wt 2 x = bif eqI x 78 then some 85 else bif eqI x 76 then some 62 else bif eqI x 72 then some 27 else none := by kernel_rfl
  rw [h, g, eqI_comm x 78, eqI_comm x 76, eqI_comm x 72]
  cases eqI 78 x <;> cases eqI 76 x <;> cases eqI 72 x <;> rfl
theorem weight3 (k : Int) (hk : k = 3 ∨ k = 4 ∨ k = 5) (x : Int) : f13 (k, x) = some ((wt 3 x).getD (-1)) := by
  have h : f13 (k, x) = h3 (eqI 72 x) (eqI 76 x) (eqI 78 x) 56 22 0 := by
    rcases hk with rfl | rfl | rfl <;> kernel_rfl
  have g : wt 3 x = bif eqI x 72 then some 56 else bif eqI x 76 then some 22 else bif eqI x 78 then some 0 else none := by kernel_rfl
  rw [h, g, eqI_comm x 78, eqI_comm x 76, eqI_comm x 72]
  cases eqI 72 x <;> cases eqI 76 x <;> cases eqI 78 x <;> rfl

/-! The program's score. -/
def K5 (r4 : Sum (List Int) (Int × Int)) : Option (Int × Int) :=
    match r4 with
    | .inl y5 =>
      let v7 := (IntKind.i64.wrap ((IntKind.i64.wrap ((IntKind.i64.wrap ((100 : Int) - (y5.getD 3 (0 : Int)))) * (IntKind.i64.wrap ((100 : Int) - (y5.getD 4 (0 : Int)))))) * (IntKind.i64.wrap ((100 : Int) - (y5.getD 5 (0 : Int))))))
      bif (eqI (IntKind.i64.wrap ((1000000 : Int) - v7)) (0 : Int)) then
        some ((0 : Int), (0 : Int))
      else
        (div? IntKind.i64 (IntKind.i64.wrap ((IntKind.i64.wrap ((IntKind.i64.wrap ((10 : Int) * (IntKind.i64.wrap ((IntKind.i64.wrap ((642 : Int) * (IntKind.i64.wrap ((1000000 : Int) - v7)))) + (IntKind.i64.wrap ((IntKind.i64.wrap ((IntKind.i64.wrap ((822 : Int) * (y5.getD 0 (0 : Int)))) * (y5.getD 1 (0 : Int)))) * (y5.getD 2 (0 : Int)))))))) + (100000000 : Int))) - (1 : Int))) (100000000 : Int)).bind fun q12 =>
        some ((minI (100 : Int) q12), (0 : Int))
    | .inr y5' =>
      some (y5'.1, y5'.2)

def sP (o0 o1 o2 o3 o4 o5 : Option Int) : Option (Int × Int) :=
  (bif !o0.isSome then some (Sum.inr ((0 : Int), (7 : Int))) else bif !o1.isSome then some (Sum.inr ((0 : Int), (7 : Int))) else bif !o2.isSome then some (Sum.inr ((0 : Int), (7 : Int))) else
   bif !o3.isSome then some (Sum.inr ((0 : Int), (7 : Int))) else bif !o4.isSome then some (Sum.inr ((0 : Int), (7 : Int))) else bif !o5.isSome then some (Sum.inr ((0 : Int), (7 : Int))) else
   some (Sum.inl [o0.getD 0, o1.getD 0, o2.getD 0, o3.getD 0, o4.getD 0, o5.getD 0])).bind K5

theorem f5_six (b0 b1 b2 b3 b4 b5 : UInt8) : f5 [b0, b1, b2, b3, b4, b5] = sP (wt 0 b0.toNat) (wt 1 b1.toNat) (wt 2 b2.toNat) (wt 3 b3.toNat) (wt 3 b4.toNat) (wt 3 b5.toNat) := by kernel_rfl

/-! The document's score. -/
def K8 (r4 : Sum (Int × Int) (Int × Int)) : Option (Int × Int) :=
    match r4 with
    | .inl y5 =>
      bif (eqI (IntKind.i64.wrap ((1000000 : Int) - y5.2)) (0 : Int)) then
        some ((0 : Int), (0 : Int))
      else
        (div? IntKind.i64 (IntKind.i64.wrap ((IntKind.i64.wrap ((IntKind.i64.wrap ((IntKind.i64.wrap ((642 : Int) * (IntKind.i64.wrap ((1000000 : Int) - y5.2)))) + (IntKind.i64.wrap ((822 : Int) * y5.1)))) + (10000000 : Int))) - (1 : Int))) (10000000 : Int)).bind fun q9 =>
        some ((minI q9 (100 : Int)), (0 : Int))
    | .inr y5' =>
      some (y5'.1, y5'.2)

def sD (q0 q1 q2 q3 q4 q5 : Option Int) : Option (Int × Int) :=
  (q0.bind fun r0 => bif decide (r0 < (0 : Int)) then some (Sum.inr ((0 : Int), (7 : Int))) else
   q1.bind fun r1 => bif decide (r1 < (0 : Int)) then some (Sum.inr ((0 : Int), (7 : Int))) else
   q2.bind fun r2 => bif decide (r2 < (0 : Int)) then some (Sum.inr ((0 : Int), (7 : Int))) else
   q3.bind fun r3 => bif decide (r3 < (0 : Int)) then some (Sum.inr ((0 : Int), (7 : Int))) else
   q4.bind fun r4 => bif decide (r4 < (0 : Int)) then some (Sum.inr ((0 : Int), (7 : Int))) else
   q5.bind fun r5 => bif decide (r5 < (0 : Int)) then some (Sum.inr ((0 : Int), (7 : Int))) else
   some (Sum.inl (IntKind.i64.wrap (IntKind.i64.wrap (IntKind.i64.wrap ((1 : Int) * r0) * r1) * r2), IntKind.i64.wrap (IntKind.i64.wrap (IntKind.i64.wrap ((1 : Int) * IntKind.i64.wrap ((100 : Int) - r3)) * IntKind.i64.wrap ((100 : Int) - r4)) * IntKind.i64.wrap ((100 : Int) - r5))))).bind K8

theorem f8_six (b0 b1 b2 b3 b4 b5 : UInt8) : f8 [b0, b1, b2, b3, b4, b5] = sD (f13 (0, b0.toNat)) (f13 (1, b1.toNat)) (f13 (2, b2.toNat)) (f13 (3, b3.toNat)) (f13 (4, b4.toNat)) (f13 (5, b5.toNat)) := by kernel_rfl

/-! All weights that there are. -/
def L (k : Nat) : List (Option Int) := none :: (wl k).map fun p => some p.2

theorem wt_in (k : Nat) (x : Int) : wt k x ∈ L k := by
  unfold wt L
  have : ∀ l : List (Int × Int), findKV eqI x l = none ∨ findKV eqI x l ∈ l.map fun p => some p.2 := by
    intro l
    induction l with
    | nil => exact .inl rfl
    | cons p r ih =>
      simp only [findKV]
      cases eqI x p.1 with
      | true => exact .inr (by simp)
      | false => exact ih.imp id fun h => by simp only [cond_false, List.map_cons, List.mem_cons]; exact .inr h
  rcases this (wl k) with h | h
  · rw [h]; exact List.mem_cons_self
  · exact List.mem_cons_of_mem _ h

def eqO (a b : Option (Int × Int)) : Bool := match a, b with
  | some x, some y => eqI x.1 y.1 && eqI x.2 y.2
  | _, _ => false

theorem eqO_ok {a b : Option (Int × Int)} (h : eqO a b = true) : a = b := by
  unfold eqO at h
  split at h
  · simp only [eqI, Bool.and_eq_true, beq_iff_eq] at h
    exact congrArg some (Prod.ext h.1 h.2)
  · cases h

def m1 (o : Option Int) : Option Int := some (o.getD (-1))

theorem all_same : ((L 0).all fun o0 => (L 1).all fun o1 => (L 2).all fun o2 => (L 3).all fun o3 => (L 3).all fun o4 => (L 3).all fun o5 =>
    eqO (sP o0 o1 o2 o3 o4 o5) (sD (m1 o0) (m1 o1) (m1 o2) (m1 o3) (m1 o4) (m1 o5))) = true := by kernel_rfl

theorem score_same (v : List UInt8) : f5 v = f8 v ∧ ∃ r, f5 v = some r := by
  by_cases hl : v.length = 6
  · match v, hl with
    | [b0, b1, b2, b3, b4, b5], _ =>
      have h := all_same
      simp only [List.all_eq_true] at h
      have h := h _ (wt_in 0 b0.toNat) _ (wt_in 1 b1.toNat) _ (wt_in 2 b2.toNat) _ (wt_in 3 b3.toNat) _ (wt_in 3 b4.toNat) _ (wt_in 3 b5.toNat)
      have e : f5 [b0, b1, b2, b3, b4, b5] = f8 [b0, b1, b2, b3, b4, b5] := by
        rw [f5_six, f8_six, weight0, weight1, weight2, weight3 3 (by simp), weight3 4 (by simp), weight3 5 (by simp)]
        exact eqO_ok h
      refine ⟨e, ?_⟩
      rw [f5_six]
      unfold eqO at h
      split at h
      · rename_i x y hx hy
        exact ⟨x, hx⟩
      · cases h
  · have h6 : eqI (v.length : Int) 6 = false := by
      unfold eqI
      rw [beq_eq_false_iff_ne]
      intro h; exact hl (by omega)
    have h5 : f5 v = some (0, 2) := by
      have ht : f11 () = some [[(78, 85), (65, 62), (76, 55), (80, 20)], [(76, 77), (72, 44)], [(78, 85), (76, 62), (72, 27)], [(72, 56), (76, 22), (78, 0)], [(72, 56), (76, 22), (78, 0)], [(72, 56), (76, 22), (78, 0)]] := by kernel_rfl
      unfold f5
      simp only [ht, Option.bind_some, h6, Bool.not_false, cond_true]
    have h8 : f8 v = some (0, 2) := by
      unfold f8
      simp only [h6, Bool.not_false, cond_true]
    exact ⟨by rw [h5, h8], _, h5⟩

theorem rating_same (n : Int) : f9 n = f10 n ∧ ∃ r, f9 n = some r := by
  have h14 : ∀ a b c : Int, f14 (a, b, c) = some (decide (a < b) || decide (c < a)) := fun _ _ _ => rfl
  have e : f9 n = f10 n := by
    unfold f9 f10
    simp only [h14, Option.bind_some]
    have h1 : decide (n ≤ 39) = decide (n < 40) := by simp only [decide_eq_decide]; omega
    have h2 : decide (n ≤ 69) = decide (n < 70) := by simp only [decide_eq_decide]; omega
    have h3 : decide (n ≤ 89) = decide (n < 90) := by simp only [decide_eq_decide]; omega
    rw [h1, h2, h3]
  refine ⟨e, ?_⟩
  unfold f9
  simp only [cond_eq_ite]
  split
  · exact ⟨_, rfl⟩
  split
  · exact ⟨_, rfl⟩
  split
  · exact ⟨_, rfl⟩
  split
  · exact ⟨_, rfl⟩
  split <;> exact ⟨_, rfl⟩

/-- The law of row 3. -/
theorem score_law (v : List UInt8) (n : Int) : f4 (v, n) = some true := by
  obtain ⟨e1, ⟨a, b⟩, e2⟩ := score_same v
  obtain ⟨e3, ⟨c, d⟩, e4⟩ := rating_same n
  unfold f4
  simp only [← e1, ← e3, e2, e4, Option.bind_some]
  simp [eqI, told_true]

end Go.Ev.Pv
