/-
  That the plain functions give an answer, third part; versions in ranges, what is safe and what fixes; the law itself as plain Lean.
-/
import Derived.Test.YthepbdhoogphdaaGreatDoorA2
import Derived.KernelRfl
set_option linter.unusedVariables false
set_option linter.unusedSimpArgs false
set_option linter.unusedSectionVars false
set_option maxRecDepth 100000
namespace Go.Ev.Pv
theorem u4j_ (x : YY3 × YY19 × Int × Int) (h : 0 ≤ x.2.2.2 ∧ x.2.2.2 ≤ x.2.2.1 ∧ x.2.2.1 = x.2.1.length ∧ x.2.2.1 ≤ 281474976710656 ∧ (∀ v ∈ x.2.1, v.2.length ≤ 1048576) ∧ (∀ j : Nat, (j : Int) < x.2.2.2 → ∀ v, x.2.1[j]? = some v → 1 ≤ v.1 ∧ v.1 ≤ 3)) : Tot (um7_ x) (fun r : Sum (Unit) (Int) => (∀ y, r = .inl y → ∀ v ∈ x.2.1, 1 ≤ v.1 ∧ v.1 ≤ 3) ∧ ∀ y, r = .inr y → y ≠ 0) := by
 refine uv_ (R := fun r : Sum Unit Int => (∀ y, r = .inl y → ∀ v ∈ x.2.1, 1 ≤ v.1 ∧ v.1 ≤ 3) ∧ ∀ y, r = .inr y → y ≠ 0)
  (fun y : Af × YY19 × Int × Int => 0 ≤ y.2.2.2 ∧ y.2.2.2 ≤ y.2.2.1 ∧ y.2.2.1 = y.2.1.length ∧ y.2.2.1 ≤ 281474976710656 ∧ y.2.1 = x.2.1 ∧ (∀ v ∈ y.2.1, v.2.length ≤ 1048576) ∧ ∀ j : Nat, (j : Int) < y.2.2.2 → ∀ v, y.2.1[j]? = some v → 1 ≤ v.1 ∧ v.1 ≤ 3)
  (fun y => (y.2.2.1 - y.2.2.2).toNat) ?_ _ _ ⟨h.1, h.2.1, h.2.2.1, h.2.2.2.1, rfl, h.2.2.2.2⟩ (by unfold fuel; have := h.2.2.2.1; omega)
 rintro next ⟨a, l, n, i⟩ hI hn
 dsimp only at hI hn
 obtain ⟨i0, i1, i2, i3, i4, i5, i6⟩ := hI
 unfold uvs_
 dsimp only
 refine ug_.2 ⟨fun hc => ?_, fun hc => ub_.2 ⟨fun y _ v hv => ?_, fun y hy => (by cases hy)⟩⟩
 · have hc := of_decide_eq_true hc
   rw [ubm_ (by omega) (by omega)]
   refine ua_.2 (u8_.2 ⟨⟨i0, by omega⟩, fun v hv => ?_⟩)
   refine ug_.2 ⟨fun _ => ub_.2 ⟨fun y hy => (by cases hy), fun y hy => (by cases hy; decide)⟩, fun hk => ?_⟩
   have hk : 1 ≤ v.1 ∧ v.1 ≤ 3 := by
    have := Bool.or_eq_false_iff.1 hk
    have h1 := of_decide_eq_false this.1
    have h2 := of_decide_eq_false this.2
    omega
   have hstep : ∀ j : Nat, (j : Int) < i + 1 → ∀ v, l[j]? = some v → 1 ≤ v.1 ∧ v.1 ≤ 3 := by
    intro j hj w hw
    by_cases hj' : (j : Int) < i
    · exact i6 j hj' w hw
    · have : j = i.toNat := by omega
      subst this
      rw [hv] at hw
      cases hw
      exact hk
   have hgo : Tot (next (a, l, n, i + 1)) (fun r : Sum Unit Int => (∀ y, r = .inl y → ∀ v ∈ x.2.1, 1 ≤ v.1 ∧ v.1 ≤ 3) ∧ ∀ y, r = .inr y → y ≠ 0) :=
    hn _ ⟨by dsimp only; omega, by dsimp only; omega, i2, i3, i4, i5, hstep⟩ (by dsimp only; omega)
   refine ug_.2 ⟨fun _ => ug_.2 ⟨fun _ => ub_.2 ⟨fun y hy => (by cases hy), fun y hy => (by cases hy; decide)⟩, fun _ => hgo⟩, fun _ => ?_⟩
   refine ua_.2 ((ur0_ (a.2.1, v.2) (i5 v (u9f_ hv))).mono fun r _ => ?_)
   refine ug_.2 ⟨fun he => ub_.2 ⟨fun y hy => (by cases hy), fun y hy => ?_⟩, fun _ => hgo⟩
   cases hy
   rw [up_] at he
   simpa using he
 · have hc := of_decide_eq_false hc
   rw [← i4] at hv
   obtain ⟨j, hj, hjv⟩ := List.mem_iff_getElem.1 hv
   exact i6 j (by omega) v (by rw [← hjv]; exact List.getElem?_eq_getElem hj)
theorem ubby_ (x : Str × Int × YY19 × (List Str) × (List Str)) (h : AfB x) : Tot (ulu_ x) (fun r : Int => r = 0 → x.2.2.1.length ≤ 100 ∧ ∀ v ∈ x.2.2.1, 1 ≤ v.1 ∧ v.1 ≤ 3) := by
 unfold ulu_
 refine ug_.2 ⟨fun _ => ub_.2 fun h0 => absurd h0 (by decide), fun hc => ?_⟩
 have hc := of_decide_eq_false hc
 refine ua_.2 ((u4j_ _ ⟨Int.le_refl _, Int.natCast_nonneg _, rfl, by dsimp only; omega, h.2.2.1, fun j hj => by dsimp only at hj; omega⟩).mono fun r hr => ?_)
 rcases r with r | r
 · exact ub_.2 fun _ => ⟨by omega, hr.1 r rfl⟩
 · exact ub_.2 fun h0 => absurd h0 (hr.2 r rfl)
set_option maxHeartbeats 1000000 in
theorem uzl_ (x : Str × Bool × Int × Int) (h : 0 ≤ x.2.2.2 ∧ x.2.2.2 ≤ x.2.2.1 ∧ x.2.2.1 ≤ 281474976710656 ∧ x.2.2.1 = x.1.length ∧ x.2.2.1 ≤ 1048576) : Tot (ujl_ x) (fun r : Bool => True) := by
 refine uv_ (R := fun r : Bool => True) (fun y : Str × Bool × Int × Int => (0 ≤ y.2.2.2 ∧ y.2.2.2 ≤ y.2.2.1 ∧ y.2.2.1 ≤ 281474976710656 ∧ y.2.2.1 = y.1.length ∧ y.2.2.1 ≤ 1048576)) (fun y : Str × Bool × Int × Int => (y.2.2.1 - y.2.2.2).toNat) ?_ _ _ (by grind) (by unfold fuel; grind)
 rintro next ⟨s_4, bad_5, t25, t26⟩ h hn
 try dsimp only at h hn
 unfold uq3_
 repeat' first
  | with_reducible refine ug_.2 ⟨fun _ => ?_, fun _ => ?_⟩
  | with_reducible refine ua_.2 ?_
  | with_reducible refine ub_.2 ?_
  | with_reducible refine u8_.2 ⟨?_, fun _ _ => ?_⟩
  | with_reducible refine hn _ ?_ ?_
  | dsimp only
 all_goals grind [un_, uh_, ud_, uy_, up_, u4_, u3_, u8le, uj_, uf_, uw_, ut_, ux_, List.length_cons, List.length_nil, List.mem_of_mem_take, List.mem_of_mem_drop]
theorem uzm_ (x : (List Str) × (List Str) × Int × Int) (h : 0 ≤ x.2.2.2 ∧ x.2.2.2 ≤ x.2.2.1 ∧ x.2.2.1 = x.2.1.length ∧ x.2.2.1 ≤ 281474976710656 ∧ x.1 = x.2.1 ∧ ∀ s ∈ x.2.1, s.length ≤ 1048576) : Tot (ujm_ x) (fun r : Sum (Unit) (Int) => ∀ y, r = .inr y → y ≠ 0) := by
 refine uv_ (R := fun r : Sum Unit Int => ∀ y, r = .inr y → y ≠ 0)
  (fun y : (List Str) × (List Str) × Int × Int => 0 ≤ y.2.2.2 ∧ y.2.2.2 ≤ y.2.2.1 ∧ y.2.2.1 = y.2.1.length ∧ y.2.2.1 ≤ 281474976710656 ∧ y.1 = y.2.1 ∧ ∀ v ∈ y.2.1, v.length ≤ 1048576)
  (fun y => (y.2.2.1 - y.2.2.2).toNat) ?_ _ _ h (by unfold fuel; have := h.2.2.2.1; omega)
 rintro next ⟨a, l, n, i⟩ hI hn
 dsimp only at hI hn
 obtain ⟨i0, i1, i2, i3, i4, i5⟩ := hI
 subst i4
 unfold uq4_
 dsimp only
 refine ug_.2 ⟨fun hc => ?_, fun hc => ub_.2 fun y hy => (by cases hy)⟩
 have hc := of_decide_eq_true hc
 rw [ubm_ (n := i + 1) (by omega) (by omega), ubm_ (by omega) (by omega)]
 refine ua_.2 (u8_.2 ⟨⟨i0, by omega⟩, fun v hv => ?_⟩)
 have hvl := i5 v (u9f_ hv)
 refine ua_.2 ((uzl_ _ ⟨Int.le_refl _, Int.natCast_nonneg _, by dsimp only; omega, rfl, by dsimp only; omega⟩).mono fun r _ => ?_)
 refine ug_.2 ⟨fun _ => ub_.2 fun y hy => (by cases hy; decide), fun _ => ?_⟩
 refine ua_.2 (Tot.mono (P := fun _ => True) (ug_.2 ⟨fun hz => ?_, fun _ => ub_.2 trivial⟩) fun y7 _ => ?_)
 · have hz := of_decide_eq_true hz
   exact u8_.2 ⟨⟨by omega, by omega⟩, fun _ _ => trivial⟩
 · refine ug_.2 ⟨fun _ => ub_.2 fun y hy => (by cases hy; decide), fun _ => ?_⟩
   exact hn _ ⟨by dsimp only; omega, by dsimp only; omega, i2, i3, rfl, i5⟩ (by dsimp only; omega)
theorem u4k_ (x : List Str) (h : ∀ s ∈ x, s.length ≤ 1048576) : Tot (uh8_ x) (fun r : Int => True) := by
 unfold uh8_
 repeat' first
  | with_reducible refine ug_.2 ⟨fun _ => ?_, fun _ => ?_⟩
  | with_reducible refine ua_.2 ?_
  | with_reducible refine ub_.2 ?_
  | with_reducible refine (uzm_ _ ?_).mono fun _ _ => ?_
  | split
  | dsimp only
 all_goals grind [un_, uh_, ud_, uy_, up_, u4_, u3_, u8le, uj_, uf_, uw_, ut_, ux_, List.length_cons, List.length_nil, List.mem_of_mem_take, List.mem_of_mem_drop]
theorem u07_ (x : YY3 × (List Str) × Int × Int) (h : 0 ≤ x.2.2.2 ∧ x.2.2.2 ≤ x.2.2.1 ∧ x.2.2.1 = x.2.1.length ∧ x.2.2.1 ≤ 281474976710656 ∧ ∀ s ∈ x.2.1, s.length ≤ 1048576) : Tot (ukf_ x) (fun r : Sum YY3 (Int) => (∀ y, r = .inl y → y = x.1) ∧ ∀ y, r = .inr y → y ≠ 0) := by
 refine uv_ (R := fun r : Sum YY3 (Int) => (∀ y, r = .inl y → y = x.1) ∧ ∀ y, r = .inr y → y ≠ 0) (fun y : YY3 × (List Str) × Int × Int => (0 ≤ y.2.2.2 ∧ y.2.2.2 ≤ y.2.2.1 ∧ y.2.2.1 = y.2.1.length ∧ y.2.2.1 ≤ 281474976710656 ∧ ∀ s ∈ y.2.1, s.length ≤ 1048576) ∧ y.1 = x.1) (fun y : YY3 × (List Str) × Int × Int => (y.2.2.1 - y.2.2.2).toNat) ?_ _ _ (by grind) (by unfold fuel; grind)
 rintro next ⟨a_1, t32, t33, t34⟩ h hn
 try dsimp only at h hn
 unfold usx_
 repeat' first
  | with_reducible refine ug_.2 ⟨fun _ => ?_, fun _ => ?_⟩
  | with_reducible refine ua_.2 ?_
  | with_reducible refine ub_.2 ?_
  | with_reducible refine u8_.2 ⟨?_, fun _ _ => ?_⟩
  | with_reducible refine (ur0_ _ ?_).mono fun _ _ => ?_
  | with_reducible refine hn _ ?_ ?_
  | dsimp only
 all_goals grind [un_, uh_, ud_, uy_, up_, u4_, u3_, u8le, uj_, uf_, uw_, ut_, ux_, List.length_cons, List.length_nil, List.mem_of_mem_take, List.mem_of_mem_drop]
theorem urk_ (x : Str × Int × YY19 × (List Str) × (List Str)) (h : AfB x) : Tot (ui5_ x) (fun r : Int => r = 0 → AfK x) := by
 unfold ui5_
 refine ua_.2 ((ubrl_ _ h.1).mono fun r1 _ => ?_)
 refine ug_.2 ⟨fun _ => ub_.2 fun h0 => absurd h0 (by decide), fun _ => ?_⟩
 refine ug_.2 ⟨fun _ => ub_.2 fun h0 => absurd h0 (by decide), fun _ => ?_⟩
 refine ua_.2 ((ubby_ _ h).mono fun r3 h3 => ?_)
 refine ug_.2 ⟨fun he => ub_.2 fun h0 => ?_, fun he => ?_⟩
 · rw [up_, h0] at he; simp at he
 have h30 : r3 = 0 := by rw [up_] at he; simpa using he
 refine ug_.2 ⟨fun _ => ub_.2 fun h0 => absurd h0 (by decide), fun hc => ?_⟩
 have hc := of_decide_eq_false hc
 refine ua_.2 ((u07_ _ ⟨Int.le_refl _, Int.natCast_nonneg _, rfl, by dsimp only; omega, h.2.2.2.2.1⟩).mono fun r6 h6 => ?_)
 rcases r6 with y | y
 · have := h6.1 y rfl
   subst this
   exact ua_.2 ((u4k_ _ h.2.2.2.2.2.2).mono fun r8 _ => ub_.2 fun _ => ⟨(h3 h30).1, (h3 h30).2, by omega⟩)
 · exact ub_.2 fun h0 => absurd h0 (h6.2 y rfl)
theorem ubrm_ (x : Unit) (h : True) : Tot (u0s_ x) (fun r : List Int => r.length = 4) := by
 unfold u0s_
 repeat' first
  | with_reducible refine ub_.2 ?_
  | dsimp only
 all_goals grind [un_, uh_, ud_, uy_, up_, u4_, u3_, u8le, uj_, uf_, uw_, ut_, ux_, List.length_cons, List.length_nil, List.mem_of_mem_take, List.mem_of_mem_drop]
theorem u69_ (x : (Int → Option Str) × (List Int) × (List Int) × Int × Int) (h : 0 ≤ x.2.2.2.2 ∧ x.2.2.2.2 ≤ x.2.2.2.1 ∧ x.2.2.2.1 = x.2.2.1.length ∧ x.2.2.2.1 ≤ 281474976710656 ∧ (∀ n ∈ x.2.2.1, Tot (x.1 n) fun s => s.length ≤ 100) ∧ x.2.2.2.1 ≤ 1002 ∧ x.2.1.length ≤ 100 * x.2.2.2.2) : Tot (uoh_ x) (fun r : List Int => r.length ≤ 100200) := by
 refine uv_ (R := fun r : List Int => r.length ≤ 100200) (fun y : (Int → Option Str) × (List Int) × (List Int) × Int × Int => 0 ≤ y.2.2.2.2 ∧ y.2.2.2.2 ≤ y.2.2.2.1 ∧ y.2.2.2.1 = y.2.2.1.length ∧ y.2.2.2.1 ≤ 281474976710656 ∧ (∀ n ∈ y.2.2.1, Tot (y.1 n) fun s => s.length ≤ 100) ∧ y.2.2.2.1 ≤ 1002 ∧ y.2.1.length ≤ 100 * y.2.2.2.2)
  (fun y => (y.2.2.2.1 - y.2.2.2.2).toNat) ?_ _ _ h (by unfold fuel; have := h.2.2.2.1; omega)
 rintro next ⟨f, b, l, n, i⟩ hI hn
 dsimp only at hI hn
 obtain ⟨i0, i1, i2, i3, i4, i5, i6⟩ := hI
 unfold uxx_
 dsimp only
 refine ug_.2 ⟨fun hc => ?_, fun hc => ub_.2 (by omega)⟩
 have hc := of_decide_eq_true hc
 rw [ubm_ (by omega) (by omega)]
 refine ua_.2 (u8_.2 ⟨⟨i0, by omega⟩, fun v hv => ?_⟩)
 refine ua_.2 ((i4 v (u9f_ hv)).mono fun s hs => ?_)
 refine ua_.2 ((ucl_ _ ⟨by dsimp only; omega, by dsimp only; omega⟩).mono fun r3 h3 => ?_)
 dsimp only at h3
 exact hn _ ⟨by dsimp only; omega, by dsimp only; omega, i2, i3, i4, i5, by dsimp only; omega⟩ (by dsimp only; omega)
theorem uwl_ (x : (List Int) × Str × (Int → Option Str)) (h : (∀ n ∈ x.1, Tot (x.2.2 n) fun s => s.length ≤ 100) ∧ x.1.length ≤ 1002 ∧ x.2.1.length ≤ 10) : Tot (ui6_ x) (fun r : Str => r.length ≤ 100210) := by
 obtain ⟨l, e, f⟩ := x
 dsimp only at h ⊢
 unfold ui6_
 obtain ⟨h1, h2, h3⟩ := h
 dsimp only
 refine ua_.2 ((u69_ _ ⟨Int.le_refl _, Int.natCast_nonneg _, rfl, by dsimp only; omega, h1, by dsimp only; omega, by simp⟩).mono fun r hr => ?_)
 refine ua_.2 ((ub6_ _ trivial).mono fun s hs => ?_)
 exact ua_.2 (ueb_.2 ⟨by omega, ub_.2 (by rw [List.length_append]; omega)⟩)
theorem u08_ (x : (Str → Option Str) × (List Int) × (List Str) × Int × Int) (h : 0 ≤ x.2.2.2.2 ∧ x.2.2.2.2 ≤ x.2.2.2.1 ∧ x.2.2.2.1 = x.2.2.1.length ∧ x.2.2.2.1 ≤ 281474976710656 ∧ (∀ n ∈ x.2.2.1, Tot (x.1 n) fun s => s.length ≤ 3000) ∧ x.2.2.2.1 ≤ 1002 ∧ x.2.1.length ≤ 3000 * x.2.2.2.2) : Tot (ukg_ x) (fun r : List Int => r.length ≤ 3006000) := by
 refine uv_ (R := fun r : List Int => r.length ≤ 3006000) (fun y : (Str → Option Str) × (List Int) × (List Str) × Int × Int => 0 ≤ y.2.2.2.2 ∧ y.2.2.2.2 ≤ y.2.2.2.1 ∧ y.2.2.2.1 = y.2.2.1.length ∧ y.2.2.2.1 ≤ 281474976710656 ∧ (∀ n ∈ y.2.2.1, Tot (y.1 n) fun s => s.length ≤ 3000) ∧ y.2.2.2.1 ≤ 1002 ∧ y.2.1.length ≤ 3000 * y.2.2.2.2)
  (fun y => (y.2.2.2.1 - y.2.2.2.2).toNat) ?_ _ _ h (by unfold fuel; have := h.2.2.2.1; omega)
 rintro next ⟨f, b, l, n, i⟩ hI hn
 dsimp only at hI hn
 obtain ⟨i0, i1, i2, i3, i4, i5, i6⟩ := hI
 unfold usy_
 dsimp only
 refine ug_.2 ⟨fun hc => ?_, fun hc => ub_.2 (by omega)⟩
 have hc := of_decide_eq_true hc
 rw [ubm_ (by omega) (by omega)]
 refine ua_.2 (u8_.2 ⟨⟨i0, by omega⟩, fun v hv => ?_⟩)
 refine ua_.2 ((i4 v (u9f_ hv)).mono fun s hs => ?_)
 refine ua_.2 ((ucl_ _ ⟨by dsimp only; omega, by dsimp only; omega⟩).mono fun r3 h3 => ?_)
 dsimp only at h3
 exact hn _ ⟨by dsimp only; omega, by dsimp only; omega, i2, i3, i4, i5, by dsimp only; omega⟩ (by dsimp only; omega)
theorem url_ (x : (List Str) × Str × (Str → Option Str)) (h : (∀ n ∈ x.1, Tot (x.2.2 n) fun s => s.length ≤ 3000) ∧ x.1.length ≤ 1002 ∧ x.2.1.length ≤ 10) : Tot (ugn_ x) (fun r : Str => r.length ≤ 3006010) := by
 obtain ⟨l, e, f⟩ := x
 dsimp only at h ⊢
 unfold ugn_
 obtain ⟨h1, h2, h3⟩ := h
 dsimp only
 refine ua_.2 ((u08_ _ ⟨Int.le_refl _, Int.natCast_nonneg _, rfl, by dsimp only; omega, h1, by dsimp only; omega, by simp⟩).mono fun r hr => ?_)
 refine ua_.2 ((ub6_ _ trivial).mono fun s hs => ?_)
 exact ua_.2 (ueb_.2 ⟨by omega, ub_.2 (by rw [List.length_append]; omega)⟩)
theorem ubpe_ (x : Str) (h : x.length ≤ 1000) : Tot (uxk_ x) (fun r : Str => r.length ≤ 3000) := by
 unfold uxk_
 repeat' first
  | with_reducible refine ug_.2 ⟨fun _ => ?_, fun _ => ?_⟩
  | with_reducible refine ua_.2 ?_
  | with_reducible refine ub_.2 ?_
  | with_reducible refine u8_.2 ⟨?_, fun _ _ => ?_⟩
  | with_reducible refine ueb_.2 ⟨?_, ?_⟩
  | with_reducible refine (ubj_ _ ?_).mono fun _ _ => ?_
  | with_reducible refine (ubp_ _ ?_).mono fun _ _ => ?_
  | dsimp only
 all_goals grind [un_, uh_, ud_, uy_, up_, u4_, u3_, u8le, uj_, uf_, uw_, ut_, ux_, List.length_cons, List.length_nil, List.mem_of_mem_take, List.mem_of_mem_drop]
theorem upa_ (x : (List Int) × (List Str)) (h : DOK x) : Tot (uc7_ x) (fun r : Str => r.length ≤ 10000000) := by
 unfold uc7_
 obtain ⟨h1, h2, h3, h4⟩ := h
 refine ua_.2 (uo6_.2 ⟨⟨by omega, by omega, by omega⟩, ?_⟩)
 refine ua_.2 ((uwl_ _ ⟨fun n hn => ua_.2 ((ubp_ n (h2 n (uw_ hn))).mono fun r hr => ub_.2 (by omega)), by dsimp only; rw [ut_]; omega, by simp⟩).mono fun r2 hr2 => ?_)
 refine ug_.2 ⟨fun _ => ua_.2 (ueb_.2 ⟨by simp; omega, ub_.2 (by simp; omega)⟩), fun _ => ?_⟩
 refine ua_.2 (ueb_.2 ⟨by simp; omega, ?_⟩)
 refine ua_.2 ((url_ _ ⟨fun s hs => ua_.2 ((ubpe_ s (h4 s hs)).mono fun r hr => ub_.2 hr), h3, by simp⟩).mono fun r5 hr5 => ?_)
 exact ua_.2 (ueb_.2 ⟨by simp; omega, ub_.2 (by simp; omega)⟩)
theorem unq_ (x : Int × Str × Str × Bool) (h : ROK x) : Tot (uch_ x) (fun r : Str => r.length ≤ 10000000) := by
 unfold uch_
 repeat' first
  | with_reducible refine ua_.2 ?_
  | with_reducible refine ub_.2 ?_
  | with_reducible refine u8_.2 ⟨?_, fun _ _ => ?_⟩
  | with_reducible refine ueb_.2 ⟨?_, ?_⟩
  | with_reducible refine (ubp_ _ ?_).mono fun _ _ => ?_
  | with_reducible refine (uyv_ _ ?_).mono fun _ _ => ?_
  | with_reducible refine (uve_ _ ?_).mono fun _ _ => ?_
  | dsimp only
 all_goals grind [un_, uh_, ud_, uy_, up_, u4_, u3_, u8le, uj_, uf_, uw_, ut_, ux_, List.length_cons, List.length_nil, List.mem_of_mem_take, List.mem_of_mem_drop]
theorem u9l_ (x : Int) (h : 0 ≤ x ∧ x ≤ 999999999999999999) : Tot (uj0_ x) (fun r : Str => r.length ≤ 100) := by
 unfold uj0_
 repeat' first
  | with_reducible refine ua_.2 ?_
  | with_reducible refine ub_.2 ?_
  | with_reducible refine u8_.2 ⟨?_, fun _ _ => ?_⟩
  | with_reducible refine ueb_.2 ⟨?_, ?_⟩
  | with_reducible refine (ubp_ _ ?_).mono fun _ _ => ?_
  | dsimp only
 all_goals grind [un_, uh_, ud_, uy_, up_, u4_, u3_, u8le, uj_, uf_, uw_, ut_, ux_, List.length_cons, List.length_nil, List.mem_of_mem_take, List.mem_of_mem_drop]
theorem ubbz_ (x : Int × (List Int) × Int × Int × Int × Int × (List Str)) (h : 0 ≤ x.2.2.1 ∧ x.2.2.1 ≤ 3) : Tot (ulv_ x) (fun r : Int => 0 ≤ r ∧ r ≤ 4) := by
 unfold ulv_
 repeat' first
  | with_reducible refine ug_.2 ⟨fun _ => ?_, fun _ => ?_⟩
  | with_reducible refine ub_.2 ?_
  | dsimp only
 all_goals grind [un_, uh_, ud_, uy_, up_, u4_, u3_, u8le, uj_, uf_, uw_, ut_, ux_, List.length_cons, List.length_nil, List.mem_of_mem_take, List.mem_of_mem_drop]
theorem ubtj_ (x : Int) (h : x ≤ 999999999999999999) : Tot (u4t_ x) (fun r : Str => r.length ≤ 30) := by
 unfold u4t_
 repeat' first
  | with_reducible refine ug_.2 ⟨fun _ => ?_, fun _ => ?_⟩
  | with_reducible refine ua_.2 ?_
  | with_reducible refine ub_.2 ?_
  | with_reducible refine u8_.2 ⟨?_, fun _ _ => ?_⟩
  | with_reducible refine ueb_.2 ⟨?_, ?_⟩
  | with_reducible refine (ubp_ _ ?_).mono fun _ _ => ?_
  | dsimp only
 all_goals grind [un_, uh_, ud_, uy_, up_, u4_, u3_, u8le, uj_, uf_, uw_, ut_, ux_, List.length_cons, List.length_nil, List.mem_of_mem_take, List.mem_of_mem_drop]
theorem ubmr_ (x : Str) (h : x.length ≤ 1000) : Tot (ut1_ x) (fun r : Str => r.length ≤ 3000) := by
 unfold ut1_
 repeat' first
  | with_reducible refine ug_.2 ⟨fun _ => ?_, fun _ => ?_⟩
  | with_reducible refine ua_.2 ?_
  | with_reducible refine ub_.2 ?_
  | with_reducible refine u8_.2 ⟨?_, fun _ _ => ?_⟩
  | with_reducible refine ueb_.2 ⟨?_, ?_⟩
  | with_reducible refine (ubj_ _ ?_).mono fun _ _ => ?_
  | with_reducible refine (ubp_ _ ?_).mono fun _ _ => ?_
  | dsimp only
 all_goals grind [un_, uh_, ud_, uy_, up_, u4_, u3_, u8le, uj_, uf_, uw_, ut_, ux_, List.length_cons, List.length_nil, List.mem_of_mem_take, List.mem_of_mem_drop]
theorem u9m_ (x : YY9 × Str × Bool) (h : (x.2.2 = true → 0 ≤ x.1.2.2.2.2.2.1 ∧ x.1.2.2.2.2.2.1 ≤ 999999999999999999) ∧ x.2.1.length ≤ 10000000) : Tot (uj1_ x) (fun r : YY9 × Str => r.1 = x.1 ∧ r.2.length ≤ x.2.1.length + 30) := by
 obtain ⟨v_1, s_3, t27⟩ := x
 try dsimp only at h ⊢
 unfold uj1_
 repeat' first
  | with_reducible refine ug_.2 ⟨fun _ => ?_, fun _ => ?_⟩
  | with_reducible refine ua_.2 ?_
  | with_reducible refine ub_.2 ?_
  | with_reducible refine u8_.2 ⟨?_, fun _ _ => ?_⟩
  | with_reducible refine ueb_.2 ⟨?_, ?_⟩
  | with_reducible refine (ubp_ _ ?_).mono fun _ _ => ?_
  | dsimp only
 all_goals grind [un_, uh_, ud_, uy_, up_, u4_, u3_, u8le, uj_, uf_, uw_, ut_, ux_, List.length_cons, List.length_nil, List.mem_of_mem_take, List.mem_of_mem_drop]
theorem upb_ (x : Int × (List Int) × Int × Int × Int × Int × (List Str)) (h : SOK x) : Tot (uc8_ x) (fun r : Str => r.length ≤ 10000000) := by
 unfold uc8_
 obtain ⟨h1, h2, h3, h4, h5, h6, h7⟩ := h
 refine ua_.2 ((ubp_ _ h1).mono fun r1 g1 => ?_)
 refine ua_.2 ((u51_ _ h2).mono fun r2 g2 => ?_)
 refine ua_.2 ((uwl_ _ ⟨fun n hn => ua_.2 ((u9l_ n (g2.2 n hn)).mono fun r hr => ub_.2 hr), g2.1, by simp⟩).mono fun r3 g3 => ?_)
 refine ua_.2 (ueb_.2 ⟨by omega, ?_⟩)
 refine ua_.2 ((ubbz_ _ h3).mono fun r5 g5 => ?_)
 refine ua_.2 ((ubh_ _ trivial).mono fun r6 g6 => ?_)
 refine ua_.2 ((ubp_ _ h4).mono fun r7 g7 => ?_)
 refine ua_.2 (ueb_.2 ⟨by omega, ?_⟩)
 refine ua_.2 ((ubtj_ _ h5.2).mono fun r9 g9 => ?_)
 refine ua_.2 (ueb_.2 ⟨by rw [List.length_append]; omega, ?_⟩)
 refine ua_.2 (ueb_.2 ⟨by simp only [List.length_append]; omega, ?_⟩)
 refine ua_.2 ((u9m_ _ ⟨fun he => ⟨of_decide_eq_true he, h6.2⟩, by simp only [List.length_append]; omega⟩).mono fun r16 g16 => ?_)
 simp only [List.length_append] at g16
 refine ug_.2 ⟨fun _ => ua_.2 (ueb_.2 ⟨by simp; omega, ub_.2 (by simp; omega)⟩), fun _ => ?_⟩
 refine ua_.2 (ueb_.2 ⟨by simp; omega, ?_⟩)
 refine ua_.2 ((url_ _ ⟨fun s hs => ua_.2 ((ubmr_ s (h7.2 s (by rw [g16.1] at hs; exact hs))).mono fun r hr => ub_.2 hr), by dsimp only; rw [g16.1]; exact h7.1, by simp⟩).mono fun r19 g19 => ?_)
 exact ua_.2 (ueb_.2 ⟨by simp; omega, ub_.2 (by simp; omega)⟩)
theorem ubc3_ (x : Unit) (h : True) : Tot (uxy_ x) (fun r : List Str => r.length = 5) := by
 unfold uxy_
 repeat' first
  | with_reducible refine ub_.2 ?_
  | dsimp only
 all_goals grind [un_, uh_, ud_, uy_, up_, u4_, u3_, u8le, uj_, uf_, uw_, ut_, ux_, List.length_cons, List.length_nil, List.mem_of_mem_take, List.mem_of_mem_drop]
theorem u7a_ (x : (List Str) × Str × Int × Int) (h : 0 ≤ x.2.2.2 ∧ x.2.2.2 ≤ x.2.2.1 ∧ x.2.2.1 = x.1.length ∧ x.2.2.1 ≤ 281474976710656) : Tot (uoj_ x) (fun r : Sum (Unit) (Int) => ∀ y, r = .inr y → 0 ≤ y ∧ y < x.1.length) := by
 refine uv_ (R := fun r : Sum (Unit) (Int) => ∀ y, r = .inr y → 0 ≤ y ∧ y < x.1.length) (fun y : (List Str) × Str × Int × Int => (0 ≤ y.2.2.2 ∧ y.2.2.2 ≤ y.2.2.1 ∧ y.2.2.1 = y.1.length ∧ y.2.2.1 ≤ 281474976710656) ∧ y.1 = x.1) (fun y : (List Str) × Str × Int × Int => (y.2.2.1 - y.2.2.2).toNat) ?_ _ _ (by grind) (by unfold fuel; grind)
 rintro next ⟨s_0, v_1, t7, t8⟩ h hn
 try dsimp only at h hn
 unfold uoi_
 repeat' first
  | with_reducible refine ug_.2 ⟨fun _ => ?_, fun _ => ?_⟩
  | with_reducible refine ua_.2 ?_
  | with_reducible refine ub_.2 ?_
  | with_reducible refine u8_.2 ⟨?_, fun _ _ => ?_⟩
  | with_reducible refine hn _ ?_ ?_
  | dsimp only
 all_goals grind [un_, uh_, ud_, uy_, up_, u4_, u3_, u8le, uj_, uf_, uw_, ut_, ux_, List.length_cons, List.length_nil, List.mem_of_mem_take, List.mem_of_mem_drop]
theorem uwm_ (x : (List Str) × Str) (h : x.1.length ≤ 1048576) : Tot (ugz_ x) (fun r : Int => -1 ≤ r ∧ r < x.1.length) := by
 obtain ⟨s_0, v_1⟩ := x
 try dsimp only at h ⊢
 unfold ugz_
 repeat' first
  | with_reducible refine ua_.2 ?_
  | with_reducible refine ub_.2 ?_
  | with_reducible refine (u7a_ _ ?_).mono fun _ _ => ?_
  | split
  | dsimp only
 all_goals grind [un_, uh_, ud_, uy_, up_, u4_, u3_, u8le, uj_, uf_, uw_, ut_, ux_, List.length_cons, List.length_nil, List.mem_of_mem_take, List.mem_of_mem_drop]
theorem u7b_ (x : (List Str) × Str) (h : x.1.length ≤ 1048576) : Tot (uds_ x) (fun r : Bool => True) := by
 obtain ⟨s_0, v_1⟩ := x
 try dsimp only at h ⊢
 unfold uds_
 repeat' first
  | with_reducible refine ua_.2 ?_
  | with_reducible refine ub_.2 ?_
  | with_reducible refine (uwm_ _ ?_).mono fun _ _ => ?_
  | dsimp only
 all_goals grind [un_, uh_, ud_, uy_, up_, u4_, u3_, u8le, uj_, uf_, uw_, ut_, ux_, List.length_cons, List.length_nil, List.mem_of_mem_take, List.mem_of_mem_drop]
theorem uvh_ (x : Bool × Str × Int) (h : True) : Tot (uhw_ x) (fun r : Bool => True) := by
 unfold uhw_
 repeat' first
  | with_reducible refine ug_.2 ⟨fun _ => ?_, fun _ => ?_⟩
  | with_reducible refine ua_.2 ?_
  | with_reducible refine ub_.2 ?_
  | with_reducible refine (ubc3_ _ ?_).mono fun _ _ => ?_
  | with_reducible refine (u7b_ _ ?_).mono fun _ _ => ?_
  | dsimp only
 all_goals grind [un_, uh_, ud_, uy_, up_, u4_, u3_, u8le, uj_, uf_, uw_, ut_, ux_, List.length_cons, List.length_nil, List.mem_of_mem_take, List.mem_of_mem_drop]
theorem ubms_ (x : Bool × Str × Int) (h : x.2.1.length ≤ 5000 ∧ 0 ≤ x.2.2 ∧ x.2.2 ≤ 999999999999999999) : Tot (uok_ x) (fun r : Str => r.length ≤ 6000) := by
 unfold uok_
 repeat' first
  | with_reducible refine ug_.2 ⟨fun _ => ?_, fun _ => ?_⟩
  | with_reducible refine ua_.2 ?_
  | with_reducible refine ub_.2 ?_
  | with_reducible refine u8_.2 ⟨?_, fun _ _ => ?_⟩
  | with_reducible refine ueb_.2 ⟨?_, ?_⟩
  | with_reducible refine (ubp_ _ ?_).mono fun _ _ => ?_
  | with_reducible refine (uvh_ _ ?_).mono fun _ _ => ?_
  | with_reducible refine (ubc3_ _ ?_).mono fun _ _ => ?_
  | with_reducible refine (uwm_ _ ?_).mono fun _ _ => ?_
  | with_reducible refine (ubh_ _ ?_).mono fun _ _ => ?_
  | dsimp only
 all_goals grind [un_, uh_, ud_, uy_, up_, u4_, u3_, u8le, uj_, uf_, uw_, ut_, ux_, List.length_cons, List.length_nil, List.mem_of_mem_take, List.mem_of_mem_drop]
theorem u3a_ (x : Str × Int × (List YY16) × Int × Int) (h : 0 ≤ x.2.2.2.2 ∧ x.2.2.2.2 ≤ x.2.2.2.1 ∧ x.2.2.2.1 = x.2.2.1.length ∧ x.2.2.2.1 ≤ 281474976710656 ∧ x.1.length ≤ 7000 * x.2.2.2.2 ∧ 0 ≤ x.2.1 ∧ x.2.1 ≤ x.2.2.2.2 ∧ x.2.2.2.1 ≤ 1002 ∧ (∀ t ∈ x.2.2.1, t.2.1.length ≤ 5000 ∧ 0 ≤ t.2.2 ∧ t.2.2 ≤ 999999999999999999)) : Tot (ulw_ x) (fun r : Str => r.length ≤ 7014000) := by
 refine uv_ (R := fun r : Str => r.length ≤ 7014000) (fun y : Str × Int × (List YY16) × Int × Int => (0 ≤ y.2.2.2.2 ∧ y.2.2.2.2 ≤ y.2.2.2.1 ∧ y.2.2.2.1 = y.2.2.1.length ∧ y.2.2.2.1 ≤ 281474976710656 ∧ y.1.length ≤ 7000 * y.2.2.2.2 ∧ 0 ≤ y.2.1 ∧ y.2.1 ≤ y.2.2.2.2 ∧ y.2.2.2.1 ≤ 1002 ∧ (∀ t ∈ y.2.2.1, t.2.1.length ≤ 5000 ∧ 0 ≤ t.2.2 ∧ t.2.2 ≤ 999999999999999999))) (fun y : Str × Int × (List YY16) × Int × Int => (y.2.2.2.1 - y.2.2.2.2).toNat) ?_ _ _ (by grind) (by unfold fuel; grind)
 rintro next ⟨s_3, blanks_4, t8, t9, t10⟩ h hn
 try dsimp only at h hn
 unfold ut2_
 repeat' first
  | with_reducible refine ug_.2 ⟨fun _ => ?_, fun _ => ?_⟩
  | with_reducible refine ua_.2 ?_
  | with_reducible refine ub_.2 ?_
  | with_reducible refine u8_.2 ⟨?_, fun _ _ => ?_⟩
  | with_reducible refine ueb_.2 ⟨?_, ?_⟩
  | with_reducible refine (unp_ _ ?_).mono fun _ _ => ?_
  | with_reducible refine (uvh_ _ ?_).mono fun _ _ => ?_
  | with_reducible refine (ubh_ _ ?_).mono fun _ _ => ?_
  | with_reducible refine (ubms_ _ ?_).mono fun _ _ => ?_
  | with_reducible refine hn _ ?_ ?_
  | dsimp only
 all_goals grind [un_, uh_, ud_, uy_, up_, u4_, u3_, u8le, uj_, uf_, uw_, ut_, ux_, List.length_cons, List.length_nil, List.mem_of_mem_take, List.mem_of_mem_drop]
theorem uk9_ (x : List YY16) (h : TS x) : Tot (ubv_ x) (fun r : Str => r.length ≤ 10000000) := by
 unfold ubv_
 repeat' first
  | with_reducible refine ua_.2 ?_
  | with_reducible refine ub_.2 ?_
  | with_reducible refine u8_.2 ⟨?_, fun _ _ => ?_⟩
  | with_reducible refine ueb_.2 ⟨?_, ?_⟩
  | with_reducible refine (u3a_ _ ?_).mono fun _ _ => ?_
  | dsimp only
 all_goals grind [un_, uh_, ud_, uy_, up_, u4_, u3_, u8le, uj_, uf_, uw_, ut_, ux_, List.length_cons, List.length_nil, List.mem_of_mem_take, List.mem_of_mem_drop]
theorem uqy_ (x : Int) (h : 0 ≤ x ∧ x ≤ 999999999999999999) : Tot (ud0_ x) (fun r : Str => r.length ≤ 10000000) := by
 unfold ud0_
 repeat' first
  | with_reducible refine ua_.2 ?_
  | with_reducible refine ub_.2 ?_
  | with_reducible refine (ubp_ _ ?_).mono fun _ _ => ?_
  | dsimp only
 all_goals grind [un_, uh_, ud_, uy_, up_, u4_, u3_, u8le, uj_, uf_, uw_, ut_, ux_, List.length_cons, List.length_nil, List.mem_of_mem_take, List.mem_of_mem_drop]
theorem ubkz_ (x : Int × Str) (h : x.2.length ≤ 1048576) : Tot (upg_ x) (fun r : Str × Int => r.1.length ≤ 10000000) := by
 unfold upg_
 refine ua_.2 ((uk8_ _ h).mono fun r1 h1 => ?_)
 refine ug_.2 ⟨fun _ => ub_.2 (by simp), fun he => ?_⟩
 have h0 : r1.2 = 0 := by rw [up_] at he; simpa using he
 have hv := h1 h0
 revert hv
 generalize r1.1 = v
 intro hv
 refine ua_.2 (Tot.mono (P := fun r : Str => r.length ≤ 10000000) ?_ fun r2 hr => ub_.2 hr)
 · rcases v with x | x | x | x | x | x
   · exact ua_.2 ((upa_ _ hv).mono fun _ h => ub_.2 (by omega))
   · exact ua_.2 ((unq_ _ hv).mono fun _ h => ub_.2 (by omega))
   · exact ua_.2 ((upb_ _ hv).mono fun _ h => ub_.2 (by omega))
   · exact ua_.2 ((uk9_ _ hv).mono fun _ h => ub_.2 (by omega))
   · exact ua_.2 ((uqy_ _ hv).mono fun _ h => ub_.2 (by omega))
   · exact hv.elim
theorem ubtk_ (x : Int × (List Int) × Int × Int) (h : 0 ≤ x.2.2.2 ∧ x.2.2.2 ≤ x.2.2.1 ∧ x.2.2.1 = x.2.1.length ∧ x.2.2.1 ≤ 281474976710656) : Tot (ubez_ x) (fun r : Sum (Unit) (Int) => True) := by
 refine uv_ (R := fun r : Sum (Unit) (Int) => True) (fun y : Int × (List Int) × Int × Int => (0 ≤ y.2.2.2 ∧ y.2.2.2 ≤ y.2.2.1 ∧ y.2.2.1 = y.2.1.length ∧ y.2.2.1 ≤ 281474976710656)) (fun y : Int × (List Int) × Int × Int => (y.2.2.1 - y.2.2.2).toNat) ?_ _ _ (by grind) (by unfold fuel; grind)
 rintro next ⟨zero_3, t6, t7, t8⟩ h hn
 try dsimp only at h hn
 unfold ubrt_
 repeat' first
  | with_reducible refine ug_.2 ⟨fun _ => ?_, fun _ => ?_⟩
  | with_reducible refine ua_.2 ?_
  | with_reducible refine ub_.2 ?_
  | with_reducible refine u8_.2 ⟨?_, fun _ _ => ?_⟩
  | with_reducible refine hn _ ?_ ?_
  | dsimp only
 all_goals grind [un_, uh_, ud_, uy_, up_, u4_, u3_, u8le, uj_, uf_, uw_, ut_, ux_, List.length_cons, List.length_nil, List.mem_of_mem_take, List.mem_of_mem_drop]
theorem ubzn_ (x : List Int) (h : x.length ≤ 1048576) : Tot (ubne_ x) (fun r : Int => True) := by
 unfold ubne_
 repeat' first
  | with_reducible refine ua_.2 ?_
  | with_reducible refine ub_.2 ?_
  | with_reducible refine (ubtk_ _ ?_).mono fun _ _ => ?_
  | split
  | dsimp only
 all_goals grind [un_, uh_, ud_, uy_, up_, u4_, u3_, u8le, uj_, uf_, uw_, ut_, ux_, List.length_cons, List.length_nil, List.mem_of_mem_take, List.mem_of_mem_drop]
theorem uben_ (x : YY2 × YY2) (h : True) : Tot (unv_ x) (fun r : Int => True) := by
 obtain ⟨x_0, y_1⟩ := x
 try dsimp only at h ⊢
 unfold unv_
 repeat' first
  | with_reducible refine ua_.2 ?_
  | with_reducible refine ub_.2 ?_
  | with_reducible refine (uyw_ _ ?_).mono fun _ _ => ?_
  | with_reducible refine (ubpa_ _ ?_).mono fun _ _ => ?_
  | with_reducible refine (ubzn_ _ ?_).mono fun _ _ => ?_
  | dsimp only
 all_goals grind [un_, uh_, ud_, uy_, up_, u4_, u3_, u8le, uj_, uf_, uw_, ut_, ux_, List.length_cons, List.length_nil, List.mem_of_mem_take, List.mem_of_mem_drop]
theorem ubeo_ (x : YY3 × (List YY2) × YY19 × Int × Int) (h : 0 ≤ x.2.2.2.2 ∧ x.2.2.2.2 ≤ x.2.2.2.1 ∧ x.2.2.2.1 = x.2.2.1.length ∧ x.2.2.2.1 ≤ 281474976710656 ∧ x.2.1.length ≤ x.2.2.2.2 ∧ (∀ m ∈ x.2.1, m.2.2.1.length ≤ 100) ∧ (∀ v ∈ x.2.2.1, v.2.length ≤ 1048576 ∧ 1 ≤ v.1 ∧ v.1 ≤ 3) ∧ x.2.2.2.1 ≤ 100) : Tot (ut3_ x) (fun r : List YY2 => r.length ≤ 100 ∧ ∀ m ∈ r, m.2.2.1.length ≤ 100) := by
 refine uv_ (R := fun r : List YY2 => r.length ≤ 100 ∧ ∀ m ∈ r, m.2.2.1.length ≤ 100) (fun y : YY3 × (List YY2) × YY19 × Int × Int => (0 ≤ y.2.2.2.2 ∧ y.2.2.2.2 ≤ y.2.2.2.1 ∧ y.2.2.2.1 = y.2.2.1.length ∧ y.2.2.2.1 ≤ 281474976710656 ∧ y.2.1.length ≤ y.2.2.2.2 ∧ (∀ m ∈ y.2.1, m.2.2.1.length ≤ 100) ∧ (∀ v ∈ y.2.2.1, v.2.length ≤ 1048576 ∧ 1 ≤ v.1 ∧ v.1 ≤ 3) ∧ y.2.2.2.1 ≤ 100)) (fun y : YY3 × (List YY2) × YY19 × Int × Int => (y.2.2.2.1 - y.2.2.2.2).toNat) ?_ _ _ (by grind) (by unfold fuel; grind)
 rintro next ⟨a_1, out_3, t8, t9, t10⟩ h hn
 try dsimp only at h hn
 unfold u4v_
 repeat' first
  | with_reducible refine ug_.2 ⟨fun _ => ?_, fun _ => ?_⟩
  | with_reducible refine ua_.2 ?_
  | with_reducible refine ub_.2 ?_
  | with_reducible refine u8_.2 ⟨?_, fun _ _ => ?_⟩
  | with_reducible refine ulj_.2 ⟨?_, ?_⟩
  | with_reducible refine (ubrm_ _ ?_).mono fun _ _ => ?_
  | with_reducible refine (ubkz_ _ ?_).mono fun _ _ => ?_
  | with_reducible refine (ur0_ _ ?_).mono fun _ _ => ?_
  | with_reducible refine hn _ ?_ ?_
  | dsimp only
 all_goals grind [un_, uh_, ud_, uy_, up_, u4_, u3_, u8le, uj_, uf_, uw_, ut_, ux_, List.length_cons, List.length_nil, List.mem_of_mem_take, List.mem_of_mem_drop]
theorem ubmt_ (x : Str × Int × YY19 × (List Str) × (List Str)) (h : AfB x ∧ AfK x) : Tot (ut4_ x) (fun r : List YY2 => r.length ≤ 100 ∧ ∀ m ∈ r, m.2.2.1.length ≤ 100) := by
 unfold ut4_
 obtain ⟨h1, h2, h3, h4⟩ := h
 refine ua_.2 ((ubeo_ _ ⟨Int.le_refl _, Int.natCast_nonneg _, rfl, by dsimp only; omega, by simp, by simp, fun v hv => ⟨h1.2.2.1 v hv, h3 v hv⟩, by dsimp only; omega⟩).mono fun r hr => ?_)
 refine ua_.2 ((un8_ _ ⟨fun c => clo (uben_ c trivial), by dsimp only; omega⟩).mono fun r2 hr2 => ub_.2 ?_)
 dsimp only at hr2
 exact ⟨by omega, fun m hm => hr.2 m (hr2.2 m hm)⟩
theorem ubju_ (x : (List YY4) × Bool × YY22 × (List YY2) × Int × Int) (h : 0 ≤ x.2.2.2.2.2 ∧ x.2.2.2.2.2 ≤ x.2.2.2.2.1 ∧ x.2.2.2.2.1 = x.2.2.2.1.length ∧ x.2.2.2.2.1 ≤ 281474976710656 ∧ x.1.length ≤ x.2.2.2.2.2 ∧ (∀ s ∈ x.1, SpB s) ∧ x.2.2.1.2.2.length ≤ 100 ∧ x.2.2.2.2.1 ≤ 100 ∧ ∀ m ∈ x.2.2.2.1, m.2.2.1.length ≤ 100) : Tot (uy0_ x) (fun r : (List YY4) × Bool × YY22 => r.1.length ≤ 100 ∧ (∀ s ∈ r.1, SpB s) ∧ r.2.2.2.2.length ≤ 100) := by
 refine uv_ (R := fun r : (List YY4) × Bool × YY22 => r.1.length ≤ 100 ∧ (∀ s ∈ r.1, SpB s) ∧ r.2.2.2.2.length ≤ 100) (fun y : (List YY4) × Bool × YY22 × (List YY2) × Int × Int => (0 ≤ y.2.2.2.2.2 ∧ y.2.2.2.2.2 ≤ y.2.2.2.2.1 ∧ y.2.2.2.2.1 = y.2.2.2.1.length ∧ y.2.2.2.2.1 ≤ 281474976710656 ∧ y.1.length ≤ y.2.2.2.2.2 ∧ (∀ s ∈ y.1, SpB s) ∧ y.2.2.1.2.2.length ≤ 100 ∧ y.2.2.2.2.1 ≤ 100 ∧ ∀ m ∈ y.2.2.2.1, m.2.2.1.length ≤ 100)) (fun y : (List YY4) × Bool × YY22 × (List YY2) × Int × Int => (y.2.2.2.2.1 - y.2.2.2.2.2).toNat) ?_ _ _ (by grind) (by unfold fuel; grind)
 rintro next ⟨out_3, on_4, low_5, t15, t16, t17⟩ h hn
 try dsimp only at h hn
 unfold ubb3_
 repeat' first
  | with_reducible refine ug_.2 ⟨fun _ => ?_, fun _ => ?_⟩
  | with_reducible refine ua_.2 ?_
  | with_reducible refine ub_.2 ?_
  | with_reducible refine u8_.2 ⟨?_, fun _ _ => ?_⟩
  | with_reducible refine ulj_.2 ⟨?_, ?_⟩
  | with_reducible refine hn _ ?_ ?_
  | dsimp only
 all_goals grind [un_, uh_, ud_, uy_, up_, u4_, u3_, u8le, uj_, uf_, uw_, ut_, ux_, List.length_cons, List.length_nil, List.mem_of_mem_take, List.mem_of_mem_drop]
theorem ubjv_ (x : (List YY4) × YY22 × Bool) (h : x.1.length ≤ 100 ∧ (∀ s ∈ x.1, SpB s) ∧ x.2.1.2.2.length ≤ 100) : Tot (urs_ x) (fun r : List YY4 => r.length ≤ 101 ∧ (∀ s ∈ r, SpB s)) := by
 obtain ⟨out_3, low_5, t56⟩ := x
 try dsimp only at h ⊢
 unfold urs_
 repeat' first
  | with_reducible refine ug_.2 ⟨fun _ => ?_, fun _ => ?_⟩
  | with_reducible refine ua_.2 ?_
  | with_reducible refine ub_.2 ?_
  | with_reducible refine ulj_.2 ⟨?_, ?_⟩
  | dsimp only
 all_goals grind [un_, uh_, ud_, uy_, up_, u4_, u3_, u8le, uj_, uf_, uw_, ut_, ux_, List.length_cons, List.length_nil, List.mem_of_mem_take, List.mem_of_mem_drop]
theorem ubjw_ (x : YY3 × (List YY4) × (List Str) × Int × Int) (h : 0 ≤ x.2.2.2.2 ∧ x.2.2.2.2 ≤ x.2.2.2.1 ∧ x.2.2.2.1 = x.2.2.1.length ∧ x.2.2.2.1 ≤ 281474976710656 ∧ x.2.1.length ≤ 101 + x.2.2.2.2 ∧ (∀ s ∈ x.2.1, SpB s) ∧ x.2.2.2.1 ≤ 500 ∧ ∀ m ∈ x.2.2.1, m.length ≤ 1048576) : Tot (uy1_ x) (fun r : List YY4 => r.length ≤ 601 ∧ (∀ s ∈ r, SpB s)) := by
 refine uv_ (R := fun r : List YY4 => r.length ≤ 601 ∧ (∀ s ∈ r, SpB s)) (fun y : YY3 × (List YY4) × (List Str) × Int × Int => (0 ≤ y.2.2.2.2 ∧ y.2.2.2.2 ≤ y.2.2.2.1 ∧ y.2.2.2.1 = y.2.2.1.length ∧ y.2.2.2.1 ≤ 281474976710656 ∧ y.2.1.length ≤ 101 + y.2.2.2.2 ∧ (∀ s ∈ y.2.1, SpB s) ∧ y.2.2.2.1 ≤ 500 ∧ ∀ m ∈ y.2.2.1, m.length ≤ 1048576)) (fun y : YY3 × (List YY4) × (List Str) × Int × Int => (y.2.2.2.1 - y.2.2.2.2).toNat) ?_ _ _ (by grind) (by unfold fuel; grind)
 rintro next ⟨a_1, out_3, t63, t64, t65⟩ h hn
 try dsimp only at h hn
 unfold ubb4_
 repeat' first
  | with_reducible refine ug_.2 ⟨fun _ => ?_, fun _ => ?_⟩
  | with_reducible refine ua_.2 ?_
  | with_reducible refine ub_.2 ?_
  | with_reducible refine u8_.2 ⟨?_, fun _ _ => ?_⟩
  | with_reducible refine ulj_.2 ⟨?_, ?_⟩
  | with_reducible refine (ur0_ _ ?_).mono fun _ _ => ?_
  | with_reducible refine hn _ ?_ ?_
  | dsimp only
 all_goals grind [un_, uh_, ud_, uy_, up_, u4_, u3_, u8le, uj_, uf_, uw_, ut_, ux_, List.length_cons, List.length_nil, List.mem_of_mem_take, List.mem_of_mem_drop]
theorem u9n_ (x : Str × Int × YY19 × (List Str) × (List Str)) (h : AfB x ∧ AfK x) : Tot (u0t_ x) (fun r : List YY4 => r.length ≤ 601 ∧ (∀ s ∈ r, SpB s)) := by
 unfold u0t_
 refine ua_.2 ((ubmt_ _ h).mono fun r hr => ?_)
 obtain ⟨h1, h2, h3, h4⟩ := h
 refine ua_.2 ((ubju_ _ ⟨Int.le_refl _, Int.natCast_nonneg _, rfl, by dsimp only; omega, by simp, by simp, by simp, by dsimp only; omega, hr.2⟩).mono fun r5 h5 => ?_)
 refine ua_.2 ((ubjv_ _ h5).mono fun r8 h8 => ?_)
 exact ua_.2 ((ubjw_ _ ⟨Int.le_refl _, Int.natCast_nonneg _, rfl, by dsimp only; omega, by dsimp only; omega, h8.2, by dsimp only; omega, h1.2.2.2.2.1⟩).mono fun r13 h13 => ub_.2 h13)
theorem ugu_ (x : Int × YY22) (h : x.2.2.2.length ≤ 1048576) : Tot (uf7_ x) (fun r : Str × Int => True) := by
 unfold uf7_
 refine ug_.2 ⟨fun _ => ug_.2 ⟨fun _ => ub_.2 trivial, fun _ => ub_.2 trivial⟩, fun _ => ?_⟩
 refine ua_.2 ((uk8_ _ h).mono fun r1 h1 => ?_)
 refine ug_.2 ⟨fun _ => ub_.2 trivial, fun he => ?_⟩
 have h0 : r1.2 = 0 := by rw [up_] at he; simpa using he
 have hv := h1 h0
 revert hv
 generalize r1.1 = v
 intro hv
 refine ua_.2 (Tot.mono (P := fun r : Str => r.length ≤ 10000000) ?_ fun r2 hr => ?_)
 · rcases v with x | x | x | x | x | x
   · exact ua_.2 ((uvd_ _ hv).mono fun _ h => ub_.2 (by omega))
   · exact ua_.2 ((utf_ _ hv).mono fun _ h => ub_.2 (by omega))
   · exact ua_.2 ((uvf_ _ hv).mono fun _ h => ub_.2 (by omega))
   · exact ua_.2 ((up6_ _ hv).mono fun _ h => ub_.2 (by omega))
   · exact ua_.2 ((uwk_ _ trivial).mono fun _ h => ub_.2 (by omega))
   · exact hv.elim
 refine ug_.2 ⟨fun _ => ub_.2 trivial, fun _ => ?_⟩
 refine ua_.2 (Tot.mono (P := fun r : Str => r.length ≤ 10000000) ?_ fun r2 hr => ub_.2 trivial)
 · rcases v with x | x | x | x | x | x
   · exact ua_.2 ((upa_ _ hv).mono fun _ h => ub_.2 (by omega))
   · exact ua_.2 ((unq_ _ hv).mono fun _ h => ub_.2 (by omega))
   · exact ua_.2 ((upb_ _ hv).mono fun _ h => ub_.2 (by omega))
   · exact ua_.2 ((uk9_ _ hv).mono fun _ h => ub_.2 (by omega))
   · exact ua_.2 ((uqy_ _ hv).mono fun _ h => ub_.2 (by omega))
   · exact hv.elim
theorem uvi_ (x : YY22 × Str) (h : x.1.2.2.length ≤ 100) : Tot (uq5_ x) (fun r : Int × Str × Bool × Str => r.2.2.2.length ≤ 100) := by
 obtain ⟨b_0, key_1⟩ := x
 try dsimp only at h ⊢
 unfold uq5_
 repeat' first
  | with_reducible refine ug_.2 ⟨fun _ => ?_, fun _ => ?_⟩
  | with_reducible refine ub_.2 ?_
  | dsimp only
 all_goals grind [un_, uh_, ud_, uy_, up_, u4_, u3_, u8le, uj_, uf_, uw_, ut_, ux_, List.length_cons, List.length_nil, List.mem_of_mem_take, List.mem_of_mem_drop]
theorem usv_ (x : YY22 × Str) (h : x.1.2.2.length ≤ 100) : Tot (uol_ x) (fun r : Int × Str × Bool × Str => r.2.2.2.length ≤ 100) := by
 obtain ⟨b_0, key_1⟩ := x
 try dsimp only at h ⊢
 unfold uol_
 repeat' first
  | with_reducible refine ug_.2 ⟨fun _ => ?_, fun _ => ?_⟩
  | with_reducible refine ub_.2 ?_
  | dsimp only
 all_goals grind [un_, uh_, ud_, uy_, up_, u4_, u3_, u8le, uj_, uf_, uw_, ut_, ux_, List.length_cons, List.length_nil, List.mem_of_mem_take, List.mem_of_mem_drop]
theorem u4l_ (x : YY5 × Int × Bool) (h : x.1.1.2.2.2.length ≤ 100 ∧ x.2.1 = 0) : Tot (uh9_ x) (fun r : YY5 × Int => r.1 = x.1 ∧ 0 ≤ r.2 ∧ r.2 ≤ 1000000000000000000) := by
 obtain ⟨s_1, first_5, t10⟩ := x
 try dsimp only at h ⊢
 unfold uh9_
 repeat' first
  | with_reducible refine ug_.2 ⟨fun _ => ?_, fun _ => ?_⟩
  | with_reducible refine ua_.2 ?_
  | with_reducible refine ub_.2 ?_
  | with_reducible refine (ubj_ _ ?_).mono fun _ _ => ?_
  | dsimp only
 all_goals grind [un_, uh_, ud_, uy_, up_, u4_, u3_, u8le, uj_, uf_, uw_, ut_, ux_, List.length_cons, List.length_nil, List.mem_of_mem_take, List.mem_of_mem_drop]
set_option maxHeartbeats 1000000 in
theorem ubb0_ (x : YY27 × YY27) (h : x.1.2.2.2.length ≤ 100 ∧ x.2.2.2.2.length ≤ 100) : Tot (ulx_ x) (fun r : Int × Int × Bool => 0 ≤ r.1 ∧ r.2.1 ≤ 999999999999999999 ∧ (r.2.2 = true → r.1 ≤ r.2.1)) := by
 unfold ulx_
 repeat' first
  | with_reducible refine ug_.2 ⟨fun _ => ?_, fun _ => ?_⟩
  | with_reducible refine ua_.2 ?_
  | with_reducible refine ub_.2 ?_
  | with_reducible refine (u4l_ _ ?_).mono fun _ _ => ?_
  | with_reducible refine (ubj_ _ ?_).mono fun _ _ => ?_
  | dsimp only
 all_goals grind [un_, uh_, ud_, uy_, up_, u4_, u3_, u8le, uj_, uf_, uw_, ut_, ux_, List.length_cons, List.length_nil, List.mem_of_mem_take, List.mem_of_mem_drop]
theorem ubjx_ (x : Int × YY27 × Bool) (h : 0 ≤ x.1 ∧ x.1 ≤ 999999999999999999 ∧ x.2.1.2.2.2.length ≤ 100) : Tot (urt_ x) (fun r : Int × Str × Bool × Str => r.2.2.2.length ≤ 100) := by
 obtain ⟨last_8, high_10, t27⟩ := x
 try dsimp only at h ⊢
 unfold urt_
 repeat' first
  | with_reducible refine ug_.2 ⟨fun _ => ?_, fun _ => ?_⟩
  | with_reducible refine ua_.2 ?_
  | with_reducible refine ub_.2 ?_
  | with_reducible refine (ubp_ _ ?_).mono fun _ _ => ?_
  | with_reducible refine (ubh_ _ ?_).mono fun _ _ => ?_
  | dsimp only
 all_goals grind [un_, uh_, ud_, uy_, up_, u4_, u3_, u8le, uj_, uf_, uw_, ut_, ux_, List.length_cons, List.length_nil, List.mem_of_mem_take, List.mem_of_mem_drop]
theorem ubjy_ (x : (List YY5) × Int × (List YY5) × Int × Int) (h : 0 ≤ x.2.2.2.2 ∧ x.2.2.2.2 ≤ x.2.2.2.1 ∧ x.2.2.2.1 = x.2.2.1.length ∧ x.2.2.2.1 ≤ 281474976710656 ∧ x.1.length ≤ x.2.2.2.2 ∧ (∀ s ∈ x.1, StB s) ∧ (∀ s ∈ x.2.2.1, StB s) ∧ x.2.2.2.1 ≤ 1048576 ∧ -2 ≤ x.2.1 ∧ x.2.1 ≤ 999999999999999999) : Tot (uy2_ x) (fun r : List YY5 => r.length ≤ 1048576 ∧ ∀ s ∈ r, StB s) := by
 refine uv_ (R := fun r : List uhd_ => r.length ≤ 1048576 ∧ ∀ s ∈ r, StB s) (fun y : (List uhd_) × Int × (List uhd_) × Int × Int => 0 ≤ y.2.2.2.2 ∧ y.2.2.2.2 ≤ y.2.2.2.1 ∧ y.2.2.2.1 = y.2.2.1.length ∧ y.2.2.2.1 ≤ 281474976710656 ∧ y.1.length ≤ y.2.2.2.2 ∧ (∀ s ∈ y.1, StB s) ∧ (∀ s ∈ y.2.2.1, StB s) ∧ y.2.2.2.1 ≤ 1048576 ∧ -2 ≤ y.2.1 ∧ y.2.1 ≤ 999999999999999999)
  (fun y => (y.2.2.2.1 - y.2.2.2.2).toNat) ?_ _ _ h (by unfold fuel; have := h.2.2.2.1; omega)
 rintro next ⟨out, e, l, n, i⟩ hI hn
 dsimp only at hI hn
 obtain ⟨i0, i1, i2, i3, i4, i5, i6, i7, i8, i9⟩ := hI
 unfold ubb5_
 dsimp only
 refine ug_.2 ⟨fun hc => ?_, fun hc => ub_.2 ⟨by omega, i5⟩⟩
 have hc := of_decide_eq_true hc
 rw [ubm_ (n := i + 1) (by omega) (by omega), ubm_ (n := e + 1) (by omega) (by omega)]
 refine ua_.2 (u8_.2 ⟨⟨i0, by omega⟩, fun v hv => ?_⟩)
 have hvb := i6 v (u9f_ hv)
 refine ua_.2 ((ubb0_ _ hvb).mono fun r2 h2 => ?_)
 obtain ⟨j1, j2, j3⟩ := h2
 refine ug_.2 ⟨fun _ => hn _ ⟨by dsimp only; omega, by dsimp only; omega, i2, i3, by dsimp only; omega, i5, i6, i7, i8, i9⟩ (by dsimp only; omega), fun hb => ?_⟩
 have hle := j3 (by simpa using hb)
 refine ua_.2 (Tot.mono (P := fun r : Edge => r.2.2.2.length ≤ 100) ((ubjx_ _ ⟨by dsimp only; omega, by dsimp only; omega, by simp⟩)) fun r5 h5 => ?_)
 by_cases hl : (0 : Int) < out.length
 · rw [ubm_ (n := (out.length : Int) - 1) (by omega) (by omega)]
   refine ug_.2 ⟨fun _ => ?_, fun _ => ?_⟩
   · refine ua_.2 (uft_.2 ⟨⟨by omega, by omega⟩, ?_⟩)
     refine hn _ ⟨by dsimp only; omega, by dsimp only; omega, i2, i3, by dsimp only; rw [List.length_set]; omega, fun s hs => ?_, i6, i7, by dsimp only; omega, by dsimp only; omega⟩ (by dsimp only; omega)
     dsimp only at hs
     rcases uf_ hs with hs | hs
     · exact i5 s hs
     · subst hs
       exact ⟨(i5 _ (uj_ (by omega))).1, h5⟩
   · refine ua_.2 ((ubp_ _ ⟨j1, by omega⟩).mono fun r8 h8 => ?_)
     refine ua_.2 ((ubh_ _ trivial).mono fun r9 h9 => ?_)
     refine ua_.2 (ulj_.2 ⟨by simp only [List.length_cons, List.length_nil]; omega, ?_⟩)
     refine hn _ ⟨by dsimp only; omega, by dsimp only; omega, i2, i3, by dsimp only; rw [List.length_append]; simp only [List.length_cons, List.length_nil]; omega, fun s hs => ?_, i6, i7, by dsimp only; omega, by dsimp only; omega⟩ (by dsimp only; omega)
     dsimp only at hs
     rcases List.mem_append.1 hs with hs | hs
     · exact i5 s hs
     · rw [List.mem_singleton] at hs
       subst hs
       exact ⟨by dsimp only; omega, h5⟩
 · rw [decide_eq_false hl, Bool.false_and]
   simp only [cond_false]
   refine ua_.2 ((ubp_ _ ⟨j1, by omega⟩).mono fun r8 h8 => ?_)
   refine ua_.2 ((ubh_ _ trivial).mono fun r9 h9 => ?_)
   refine ua_.2 (ulj_.2 ⟨by simp only [List.length_cons, List.length_nil]; omega, ?_⟩)
   refine hn _ ⟨by dsimp only; omega, by dsimp only; omega, i2, i3, by dsimp only; rw [List.length_append]; simp only [List.length_cons, List.length_nil]; omega, fun s hs => ?_, i6, i7, by dsimp only; omega, by dsimp only; omega⟩ (by dsimp only; omega)
   dsimp only at hs
   rcases List.mem_append.1 hs with hs | hs
   · exact i5 s hs
   · rw [List.mem_singleton] at hs
     subst hs
     exact ⟨by dsimp only; omega, h5⟩
theorem ubrn_ (x : List YY5) (h : (∀ s ∈ x, StB s) ∧ x.length ≤ 1048576) : Tot (u0u_ x) (fun r : List YY5 => r.length ≤ 1048576 ∧ ∀ s ∈ r, StB s) := by
 unfold u0u_
 repeat' first
  | with_reducible refine ua_.2 ?_
  | with_reducible refine ub_.2 ?_
  | with_reducible refine (ubjy_ _ ?_).mono fun _ _ => ?_
  | dsimp only
 all_goals grind [un_, uh_, ud_, uy_, up_, u4_, u3_, u8le, uj_, uf_, uw_, ut_, ux_, List.length_cons, List.length_nil, List.mem_of_mem_take, List.mem_of_mem_drop]
theorem u52_ (x : (List YY5) × Bool) (h : (∀ s ∈ x.1, StB s) ∧ x.1.length ≤ 1048576) : Tot (uxl_ x) (fun r : List YY5 => r.length ≤ 1048576 ∧ ∀ s ∈ r, StB s) := by
 obtain ⟨l_1, t11⟩ := x
 try dsimp only at h ⊢
 unfold uxl_
 repeat' first
  | with_reducible refine ug_.2 ⟨fun _ => ?_, fun _ => ?_⟩
  | with_reducible refine ua_.2 ?_
  | with_reducible refine ub_.2 ?_
  | with_reducible refine (ubrn_ _ ?_).mono fun _ _ => ?_
  | dsimp only
 all_goals grind [un_, uh_, ud_, uy_, up_, u4_, u3_, u8le, uj_, uf_, uw_, ut_, ux_, List.length_cons, List.length_nil, List.mem_of_mem_take, List.mem_of_mem_drop]
theorem ubpf_ (x : YY5 × YY4 × Bool) (h : StB x.1 ∧ SpB x.2.1) : Tot (uxm_ x) (fun r : YY5 × YY4 => r.1 = x.1 ∧ SpB r.2) := by
 obtain ⟨s_8, x_9, t29⟩ := x
 try dsimp only at h ⊢
 unfold uxm_
 repeat' first
  | with_reducible refine ug_.2 ⟨fun _ => ?_, fun _ => ?_⟩
  | with_reducible refine ub_.2 ?_
  | dsimp only
 all_goals grind [un_, uh_, ud_, uy_, up_, u4_, u3_, u8le, uj_, uf_, uw_, ut_, ux_, List.length_cons, List.length_nil, List.mem_of_mem_take, List.mem_of_mem_drop]
set_option maxHeartbeats 1000000 in
theorem u53_ (x : YY13 × (List YY5) × Int × Int) (h : 0 ≤ x.2.2.2 ∧ x.2.2.2 ≤ x.2.2.1 ∧ x.2.2.1 = x.2.1.length ∧ x.2.2.1 ≤ 281474976710656 ∧ x.1.2.length ≤ x.2.2.2 ∧ x.2.2.1 ≤ 200 ∧ (∀ s ∈ x.2.1, StB s) ∧ (∀ s ∈ x.1.2, SpB s)) : Tot (u59_ x) (fun r : Int × (List YY4) => r.1 = x.1.1 ∧ r.2.length ≤ 200 ∧ ∀ s ∈ r.2, SpB s) := by
 refine uv_ (R := fun r : Int × (List YY4) => r.1 = x.1.1 ∧ r.2.length ≤ 200 ∧ ∀ s ∈ r.2, SpB s) (fun y : YY13 × (List YY5) × Int × Int => (0 ≤ y.2.2.2 ∧ y.2.2.2 ≤ y.2.2.1 ∧ y.2.2.1 = y.2.1.length ∧ y.2.2.1 ≤ 281474976710656 ∧ y.1.2.length ≤ y.2.2.2 ∧ y.2.2.1 ≤ 200 ∧ (∀ s ∈ y.2.1, StB s) ∧ (∀ s ∈ y.1.2, SpB s)) ∧ y.1.1 = x.1.1) (fun y : YY13 × (List YY5) × Int × Int => (y.2.2.1 - y.2.2.2).toNat) ?_ _ _ (by grind) (by unfold fuel; grind)
 rintro next ⟨r_6, t20, t21, t22⟩ h hn
 try dsimp only at h hn
 unfold ubj3_
 repeat' first
  | with_reducible refine ug_.2 ⟨fun _ => ?_, fun _ => ?_⟩
  | with_reducible refine ua_.2 ?_
  | with_reducible refine ub_.2 ?_
  | with_reducible refine u8_.2 ⟨?_, fun _ _ => ?_⟩
  | with_reducible refine ulj_.2 ⟨?_, ?_⟩
  | with_reducible refine (ubpf_ _ ?_).mono fun _ _ => ?_
  | with_reducible refine hn _ ?_ ?_
  | dsimp only
 all_goals grind [un_, uh_, ud_, uy_, up_, u4_, u3_, u8le, uj_, uf_, uw_, ut_, ux_, List.length_cons, List.length_nil, List.mem_of_mem_take, List.mem_of_mem_drop]
theorem ubwa_ (x : Int × (List YY5)) (h : (∀ s ∈ x.2, StB s) ∧ x.2.length ≤ 1048576) : Tot (uwv_ x) (fun r : YY13 × Int => r.1.2.length ≤ 200 ∧ ∀ s ∈ r.1.2, SpB s) := by
 obtain ⟨kind_0, l_1⟩ := x
 try dsimp only at h ⊢
 unfold uwv_
 repeat' first
  | with_reducible refine ug_.2 ⟨fun _ => ?_, fun _ => ?_⟩
  | with_reducible refine ua_.2 ?_
  | with_reducible refine ub_.2 ?_
  | with_reducible refine (u52_ _ ?_).mono fun _ _ => ?_
  | with_reducible refine (u53_ _ ?_).mono fun _ _ => ?_
  | dsimp only
 all_goals grind [un_, uh_, ud_, uy_, up_, u4_, u3_, u8le, uj_, uf_, uw_, ut_, ux_, List.length_cons, List.length_nil, List.mem_of_mem_take, List.mem_of_mem_drop]
set_option maxHeartbeats 1000000 in
theorem ubmu_ (x : Int × YY13 × (List YY5) × (List YY4) × Int × Int) (h : 0 ≤ x.2.2.2.2.2 ∧ x.2.2.2.2.2 ≤ x.2.2.2.2.1 ∧ x.2.2.2.2.1 = x.2.2.2.1.length ∧ x.2.2.2.2.1 ≤ 281474976710656 ∧ x.2.2.1.length ≤ x.2.2.2.2.2 ∧ (∀ s ∈ x.2.2.1, StB s) ∧ x.2.2.2.2.1 ≤ 1048576 ∧ (∀ s ∈ x.2.2.2.1, SpB s)) : Tot (ut5_ x) (fun r : Sum (YY13 × (List YY5)) (YY13 × Int) => (∀ y, r = .inl y → y.2.length ≤ 1048576 ∧ ∀ s ∈ y.2, StB s) ∧ ∀ y, r = .inr y → y.1.2 = []) := by
 refine uv_ (R := fun r : Sum (YY13 × (List YY5)) (YY13 × Int) => (∀ y, r = .inl y → y.2.length ≤ 1048576 ∧ ∀ s ∈ y.2, StB s) ∧ ∀ y, r = .inr y → y.1.2 = []) (fun y : Int × YY13 × (List YY5) × (List YY4) × Int × Int => (0 ≤ y.2.2.2.2.2 ∧ y.2.2.2.2.2 ≤ y.2.2.2.2.1 ∧ y.2.2.2.2.1 = y.2.2.2.1.length ∧ y.2.2.2.2.1 ≤ 281474976710656 ∧ y.2.2.1.length ≤ y.2.2.2.2.2 ∧ (∀ s ∈ y.2.2.1, StB s) ∧ y.2.2.2.2.1 ≤ 1048576 ∧ (∀ s ∈ y.2.2.2.1, SpB s))) (fun y : Int × YY13 × (List YY5) × (List YY4) × Int × Int => (y.2.2.2.2.1 - y.2.2.2.2.2).toNat) ?_ _ _ (by grind) (by unfold fuel; grind)
 rintro next ⟨kind_0, t4, all_6, t17, t18, t19⟩ h hn
 try dsimp only at h hn
 unfold u1k_
 repeat' first
  | with_reducible refine ug_.2 ⟨fun _ => ?_, fun _ => ?_⟩
  | with_reducible refine ua_.2 ?_
  | with_reducible refine ub_.2 ?_
  | with_reducible refine u8_.2 ⟨?_, fun _ _ => ?_⟩
  | with_reducible refine ulj_.2 ⟨?_, ?_⟩
  | with_reducible refine (ugu_ _ ?_).mono fun _ _ => ?_
  | with_reducible refine (uvi_ _ ?_).mono fun _ _ => ?_
  | with_reducible refine (usv_ _ ?_).mono fun _ _ => ?_
  | with_reducible refine (ucm_ _ ?_).mono fun _ _ => ?_
  | with_reducible refine hn _ ?_ ?_
  | dsimp only
 all_goals grind [un_, uh_, ud_, uy_, up_, u4_, u3_, u8le, uj_, uf_, uw_, ut_, ux_, List.length_cons, List.length_nil, List.mem_of_mem_take, List.mem_of_mem_drop]
theorem u3b_ (x : (List YY5) × (List YY5) × Int × Int) (h : 0 ≤ x.2.2.2 ∧ x.2.2.2 ≤ x.2.2.1 ∧ x.2.2.1 = x.2.1.length ∧ x.2.2.1 ≤ 281474976710656 ∧ x.1.length ≤ x.2.2.2 ∧ (∀ s ∈ x.1, StB s) ∧ x.2.2.1 ≤ 1048576 ∧ (∀ s ∈ x.2.1, StB s)) : Tot (u1l_ x) (fun r : List YY5 => r.length ≤ 1048576 ∧ ∀ s ∈ r, StB s) := by
 refine uv_ (R := fun r : List uhd_ => r.length ≤ 1048576 ∧ ∀ s ∈ r, StB s) (fun y : (List uhd_) × (List uhd_) × Int × Int => 0 ≤ y.2.2.2 ∧ y.2.2.2 ≤ y.2.2.1 ∧ y.2.2.1 = y.2.1.length ∧ y.2.2.1 ≤ 281474976710656 ∧ y.1.length ≤ y.2.2.2 ∧ (∀ s ∈ y.1, StB s) ∧ y.2.2.1 ≤ 1048576 ∧ (∀ s ∈ y.2.1, StB s))
  (fun y => (y.2.2.1 - y.2.2.2).toNat) ?_ _ _ h (by unfold fuel; have := h.2.2.2.1; omega)
 rintro next ⟨out, l, n, i⟩ hI hn
 dsimp only at hI hn
 obtain ⟨i0, i1, i2, i3, i4, i5, i6, i7⟩ := hI
 unfold ube0_
 dsimp only
 refine ug_.2 ⟨fun hc => ?_, fun hc => ub_.2 ⟨by omega, i5⟩⟩
 have hc := of_decide_eq_true hc
 rw [ubm_ (n := i + 1) (by omega) (by omega)]
 refine ua_.2 (uft_.2 ⟨⟨i0, by omega⟩, ?_⟩)
 have hv := i7 _ (uj_ (l := l) (i := i.toNat) (d := ((0, (([] : Str), (false, ([] : Str)))), (0, (([] : Str), (false, ([] : Str)))))) (by omega))
 generalize l.getD i.toNat ((0, (([] : Str), (false, ([] : Str)))), (0, (([] : Str), (false, ([] : Str))))) = v at hv
 have happ : ∀ (Q : List uhd_ → Prop), Q (out ++ [v]) → Tot (app? 192 out [v]) Q := fun Q hQ => ulj_.2 ⟨by simp only [List.length_cons, List.length_nil]; omega, hQ⟩
 have hgo : Tot (next (out ++ [v], l, n, i + 1)) (fun r : List uhd_ => r.length ≤ 1048576 ∧ ∀ s ∈ r, StB s) := by
  refine hn _ ⟨by dsimp only; omega, by dsimp only; omega, i2, i3, by dsimp only; rw [List.length_append]; simp only [List.length_cons, List.length_nil]; omega, fun s hs => ?_, i6, i7⟩ (by dsimp only; omega)
  dsimp only at hs
  rcases List.mem_append.1 hs with hs | hs
  · exact i5 s hs
  · rw [List.mem_singleton] at hs
    subst hs
    exact hv
 by_cases hl : (out.length : Int) = 0
 · have e : eqI (out.length : Int) 0 = true := by rw [up_]; exact decide_eq_true hl
   rw [e]
   simp only [Bool.not_true, cond_false, Bool.true_or, cond_true]
   refine ua_.2 (ub_.2 (ua_.2 (ub_.2 (ua_.2 (happ _ hgo)))))
 · have e : eqI (out.length : Int) 0 = false := by rw [up_]; exact decide_eq_false hl
   rw [e, ubm_ (n := (out.length : Int) - 1) (by omega) (by omega)]
   simp only [Bool.not_false, cond_true, Bool.false_or]
   refine ua_.2 (uft_.2 ⟨⟨by omega, by omega⟩, ?_⟩)
   refine ua_.2 ((ucm_ _ trivial).mono fun r16 _ => ?_)
   refine ug_.2 ⟨fun _ => ua_.2 (happ _ hgo), fun _ => ?_⟩
   refine ua_.2 (uft_.2 ⟨⟨by omega, by omega⟩, ?_⟩)
   refine ua_.2 ((ucm_ _ trivial).mono fun r21 _ => ?_)
   refine ug_.2 ⟨fun _ => ?_, fun _ => hn _ ⟨by dsimp only; omega, by dsimp only; omega, i2, i3, by dsimp only; omega, i5, i6, i7⟩ (by dsimp only; omega)⟩
   refine ua_.2 (uft_.2 ⟨⟨by omega, by omega⟩, ?_⟩)
   refine hn _ ⟨by dsimp only; omega, by dsimp only; omega, i2, i3, by dsimp only; rw [List.length_set]; omega, fun s hs => ?_, i6, i7⟩ (by dsimp only; omega)
   dsimp only at hs
   rcases uf_ hs with hs | hs
   · exact i5 s hs
   · subst hs
     exact ⟨(i5 _ (uj_ (by omega))).1, hv.2⟩
theorem ubtl_ (x : Int × (List YY4)) (h : (∀ s ∈ x.2, SpB s) ∧ x.2.length ≤ 1048576) : Tot (usz_ x) (fun r : YY13 × Int => r.1.2.length ≤ 200 ∧ ∀ s ∈ r.1.2, SpB s) := by
 unfold usz_
 obtain ⟨h1, h2⟩ := h
 refine ua_.2 ((ubmu_ _ ⟨Int.le_refl _, Int.natCast_nonneg _, rfl, by dsimp only; omega, by simp, by simp, by dsimp only; omega, h1⟩).mono fun r hr => ?_)
 rcases r with y | y
 · obtain ⟨g1, g2⟩ := hr.1 y rfl
   refine ua_.2 ((ub06_ y.2).mono fun r13 h13 => ?_)
   have l13 := h13.1.length_eq
   refine ua_.2 ((u3b_ _ ⟨Int.le_refl _, Int.natCast_nonneg _, rfl, by dsimp only; omega, by simp, by simp, by dsimp only; omega, fun s hs => g2 s (h13.1.mem_iff.1 hs)⟩).mono fun r23 h23 => ?_)
   exact ua_.2 ((ubwa_ _ ⟨h23.2, h23.1⟩).mono fun r24 h24 => ub_.2 h24)
 · have := hr.2 y rfl
   refine ub_.2 ?_
   dsimp only
   rw [this]
   simp
theorem u3c_ (x : Str × Int × YY19 × (List Str) × (List Str)) (h : AfB x) : Tot (ucr_ x) (fun r : YY13 × Int => r.1.2.length ≤ 200 ∧ (∀ s ∈ r.1.2, SpB s)) := by
 unfold ucr_
 refine ua_.2 ((urk_ _ h).mono fun r1 h1 => ?_)
 refine ug_.2 ⟨fun _ => ub_.2 (by simp), fun he => ?_⟩
 have h0 : r1 = 0 := by rw [up_] at he; simpa using he
 refine ua_.2 ((u9n_ _ ⟨h, h1 h0⟩).mono fun r3 h3 => ?_)
 exact ua_.2 ((ubtl_ _ ⟨h3.2, by dsimp only; omega⟩).mono fun r4 h4 => ub_.2 h4)
end Go.Ev.Pv
namespace Go.Ev.Pv
end Go.Ev.Pv
namespace Go.Ev.Pv
end Go.Ev.Pv
namespace Go.Ev.Pv
theorem told5 : ub3p_ () = some true := by kernel_rfl
theorem ubb1_ {α : Type} {l : List α} {i : Nat} {a : α} (h : l[i]? = some a) : l.take (i + 1) = l.take i ++ [a] := by
 rw [List.take_add_one, h]; rfl
theorem ub8h_ {α : Type} {l : List α} {i : Nat} {a : α} (h : l[i]? = some a) : l.drop i = a :: l.drop (i + 1) := by
 obtain ⟨h1, h2⟩ := List.getElem?_eq_some_iff.1 h
 rw [← h2]; exact List.drop_eq_getElem_cons h1
abbrev Rg := Int × (List Spn)
noncomputable def keyF (v : Vr) : Option Str := (fun z => Sum.casesOn (motive := fun _ => Option Str) z (fun x => (uc7_ x).bind fun r => some r) (fun z => Sum.casesOn (motive := fun _ => Option Str) z (fun x => (uch_ x).bind fun r => some r) (fun z => Sum.casesOn (motive := fun _ => Option Str) z (fun x => (uc8_ x).bind fun r => some r) (fun z => Sum.casesOn (motive := fun _ => Option Str) z (fun x => (ubv_ x).bind fun r => some r) (fun z => Sum.casesOn (motive := fun _ => Option Str) z (fun x => (ud0_ x).bind fun r => some r) (fun _ => none)))))) v
theorem ub6x_ {v : Vr} (hv : VOK v) : Tot (keyF v) (fun _ => True) := by
 unfold keyF
 rcases v with x | x | x | x | x | x
 · exact ua_.2 ((upa_ _ hv).mono fun _ h => ub_.2 trivial)
 · exact ua_.2 ((unq_ _ hv).mono fun _ h => ub_.2 trivial)
 · exact ua_.2 ((upb_ _ hv).mono fun _ h => ub_.2 trivial)
 · exact ua_.2 ((uk9_ _ hv).mono fun _ h => ub_.2 trivial)
 · exact ua_.2 ((uqy_ _ hv).mono fun _ h => ub_.2 trivial)
 · exact hv.elim
def Vs (k : Int) (w : Str) (v : Vr) (s : Str) : Prop := udq_ (k, w) = some (v, 0) ∧ keyF v = some s
theorem vs_of {k : Int} {w : Str} {v : Vr} (hw : w.length ≤ 1048576) (h : udq_ (k, w) = some (v, 0)) : ∃ s, Vs k w v s := by
 obtain ⟨r, h1, h2⟩ := uk8_ (k, w) hw
 rw [h] at h1
 cases h1
 obtain ⟨s, h3, _⟩ := ub6x_ (h2 rfl)
 exact ⟨s, h, h3⟩
theorem ubpg_ {k : Int} {w : Str} {v : Vr} {s : Str} (h : Vs k w v s) : upg_ (k, w) = some (s, 0) := by
 show ((udq_ (k, w)).bind fun r1 => bif (!(eqI r1.2 (0 : Int))) then some (([] : Str), r1.2) else (keyF r1.1).bind fun r2 => some (r2, (0 : Int))) = _
 rw [h.1]
 simp only [Option.bind_some, up_, decide_true, Bool.not_true, cond_false]
 rw [h.2]; rfl
theorem ubxj_ {k : Int} {w : Str} {s : Str} (hw : w.length ≤ 1048576) (h : upg_ (k, w) = some (s, 0)) : ∃ v, Vs k w v s := by
 obtain ⟨r, h1, h2⟩ := uk8_ (k, w) hw
 have h' : ((udq_ (k, w)).bind fun r1 => bif (!(eqI r1.2 (0 : Int))) then some (([] : Str), r1.2) else (keyF r1.1).bind fun r2 => some (r2, (0 : Int))) = some (s, 0) := h
 rw [h1] at h'
 simp only [Option.bind_some, up_] at h'
 obtain ⟨v, e⟩ := r
 by_cases he : e = 0
 · subst he
   simp only [decide_true, Bool.not_true, cond_false] at h'
   obtain ⟨t, h3, _⟩ := ub6x_ (h2 rfl)
   rw [h3] at h'
   simp only [Option.bind_some, Option.some.injEq, Prod.mk.injEq, and_true] at h'
   subst h'
   exact ⟨v, h1, h3⟩
 · simp only [he, decide_false, Bool.not_false, cond_true, Option.some.injEq, Prod.mk.injEq, and_false] at h'
theorem vs_ne {k : Int} {w : Str} {v : Vr} {s : Str} (h : Vs k w v s) : w ≠ [] := by
 rintro rfl
 have h1 := h.1
 unfold udq_ at h1
 dsimp only at h1
 have e : eqS ([] : Str) ([] : Str) = true := rfl
 rw [e] at h1
 cases hc : (decide (k < (1 : Int)) || decide ((5 : Int) < k)) with
 | true => rw [hc] at h1; simp at h1
 | false => rw [hc] at h1; simp at h1
noncomputable def ky (k : Int) (w : Str) : Str := ((upg_ (k, w)).getD ([], 0)).1
theorem vs_ky {k : Int} {w : Str} {v : Vr} {s : Str} (h : Vs k w v s) : ky k w = s := by unfold ky; rw [ubpg_ h]; rfl
def Ok (k : Int) (w : Str) : Prop := ∃ v, Vs k w v (ky k w)
theorem ok_of {k : Int} {w : Str} {v : Vr} {s : Str} (h : Vs k w v s) : Ok k w := ⟨v, by rw [vs_ky h]; exact h⟩
theorem ub8i_ (k : Int) (w : Str) (hw : w.length ≤ 1048576) : Tot (u4w_ (k, w)) (fun r => r = 0 → Ok k w) := by
 unfold u4w_
 dsimp only
 obtain ⟨⟨v, e⟩, h1, h2⟩ := uk8_ (k, w) hw
 rw [h1]
 refine ua_.2 (ub_.2 (ub_.2 fun he => ?_))
 dsimp only at he
 subst he
 obtain ⟨s, hs⟩ := vs_of hw h1
 exact ok_of hs
theorem ucbt_ (a : Af) (z : Rg) (l : List Str) (hl : l.length ≤ 1048576) (hw : ∀ w ∈ l, w.length ≤ 1048576) :
 Tot (u1m_ (a, z, l, (l.length : Int), 0)) (fun r => (∀ y, r = .inl y → ∀ w ∈ l, Ok a.2.1 w) ∧ ∀ y, r = .inr y → y.1.2 = [] ∧ y.2 ≠ 0) := by
 refine uv_ (R := fun r : Sum Rg (Rg × Int) => (∀ y, r = .inl y → ∀ w ∈ l, Ok a.2.1 w) ∧ ∀ y, r = .inr y → y.1.2 = [] ∧ y.2 ≠ 0)
  (fun y : Af × Rg × (List Str) × Int × Int => y.1 = a ∧ y.2.2.1 = l ∧ y.2.2.2.1 = l.length ∧ 0 ≤ y.2.2.2.2 ∧ y.2.2.2.2 ≤ l.length ∧ ∀ w ∈ l.take y.2.2.2.2.toNat, Ok a.2.1 w)
  (fun y => ((l.length : Int) - y.2.2.2.2).toNat) ?_ _ _ ⟨rfl, rfl, rfl, Int.le_refl _, Int.natCast_nonneg _, by simp⟩ (by unfold fuel; dsimp only; omega)
 rintro next ⟨a', z', l', n, i⟩ hI hn
 dsimp only at hI hn
 obtain ⟨rfl, rfl, rfl, i0, i1, h5⟩ := hI
 unfold ube1_
 dsimp only
 refine ug_.2 ⟨fun hc => ?_, fun hc => ub_.2 ⟨fun y _ => ?_, fun y e => (by cases e)⟩⟩
 · have hc := of_decide_eq_true hc
   rw [ubm_ (n := i + 1) (by omega) (by omega)]
   refine ua_.2 (u8_.2 ⟨⟨i0, hc⟩, fun w hx => ?_⟩)
   refine ua_.2 ((ub8i_ _ w (hw w (u9f_ hx))).mono fun r hr => ug_.2 ⟨fun he => ub_.2 ⟨fun y e => (by cases e), fun y e => ?_⟩, fun he => ?_⟩)
   · cases e; rw [up_] at he; exact ⟨rfl, by simpa using he⟩
   · have he : r = 0 := by rw [up_] at he; simpa using he
     refine hn _ ⟨rfl, rfl, rfl, by dsimp only; omega, by dsimp only; omega, fun u hu => ?_⟩ (by dsimp only; omega)
     dsimp only at hu
     rw [show (i + 1).toNat = i.toNat + 1 by omega, ubb1_ hx, List.mem_append] at hu
     rcases hu with hu | hu
     · exact h5 u hu
     · cases List.mem_singleton.1 hu; exact hr he
 · have hc := of_decide_eq_false hc
   rwa [List.take_of_length_le (by omega)] at h5
theorem ucai_ (a : Af) (l : List Str) (ha : AfB a) (hl : l.length ≤ 1048576) (hw : ∀ w ∈ l, w.length ≤ 1048576) :
 Tot (u4x_ (a, l)) (fun r => (∀ s ∈ r.1.2, SpB s) ∧ (r.2 = 0 → ucr_ a = some (r.1, 0) ∧ (∀ w ∈ l, Ok a.2.1 w))) := by
 unfold u4x_
 dsimp only
 obtain ⟨⟨r, e⟩, h1, _, h2⟩ := u3c_ a ha
 rw [h1]
 refine ua_.2 (ub_.2 (ug_.2 ⟨fun he => ub_.2 ⟨by simp, fun h0 => ?_⟩, fun he => ug_.2 ⟨fun _ => ub_.2 ⟨by simp, fun h0 => (by cases h0)⟩, fun _ => ?_⟩⟩))
 · dsimp only at h0 he; subst h0; simp [up_] at he
 · have he : e = 0 := by rw [up_] at he; simpa using he
   subst he
   refine ua_.2 ((ucbt_ a _ l hl hw).mono fun q hq => ?_)
   rcases q with y | y
   · exact ub_.2 ⟨h2, fun _ => ⟨rfl, hq.1 y rfl⟩⟩
   · obtain ⟨e1, e2⟩ := hq.2 y rfl
     refine ub_.2 ⟨?_, fun h0 => absurd h0 e2⟩
     rw [e1]; simp
theorem ubzo_ (s : Spn) (b : List uhd_) (hs : SpB s) (hb : ∀ x ∈ b, StB x) (hl : b.length ≤ 1048576) : Tot (uph_ (s, b)) (fun _ => True) := by
 unfold uph_
 dsimp only
 refine ug_.2 ⟨fun _ => ub_.2 trivial, fun _ => ug_.2 ⟨fun hc => ?_, fun _ => ub_.2 trivial⟩⟩
 have hc := of_decide_eq_true hc
 rw [ubm_ (n := (b.length : Int) - 1) (by omega) (by omega)]
 refine ua_.2 ((ubj_ _ (by have := hs.1; omega)).mono fun r hr => ua_.2 (u8_.2 ⟨⟨by omega, by omega⟩, fun y hy => ?_⟩))
 refine ua_.2 ((ubj_ _ (by have := (hb y (u9f_ hy)).2; omega)).mono fun r' hr' => ?_)
 exact ug_.2 ⟨fun _ => ub_.2 trivial, fun _ => ub_.2 trivial⟩
theorem ub2q_ (r : Rg) (hr : ∀ s ∈ r.2, SpB s) (hl : r.2.length ≤ 200) :
 Tot (ur6_ (r, ([] : List uhd_), r.2, (r.2.length : Int), 0)) (fun q => (∀ y, q = .inl y → y.length ≤ 200) ∧ ∀ y, q = .inr y → y.1 = [] ∧ y.2 ≠ 0) := by
 refine uv_ (R := fun q : Sum (List uhd_) ((List uhd_) × Int) => (∀ y, q = .inl y → y.length ≤ 200) ∧ ∀ y, q = .inr y → y.1 = [] ∧ y.2 ≠ 0)
  (fun y : Rg × (List uhd_) × (List Spn) × Int × Int => y.1 = r ∧ y.2.2.1 = r.2 ∧ y.2.2.2.1 = r.2.length ∧ 0 ≤ y.2.2.2.2 ∧ y.2.2.2.2 ≤ r.2.length ∧ y.2.1.length ≤ y.2.2.2.2 ∧ ∀ x ∈ y.2.1, StB x)
  (fun y => ((r.2.length : Int) - y.2.2.2.2).toNat) ?_ _ _ ⟨rfl, rfl, rfl, Int.le_refl _, Int.natCast_nonneg _, by simp, by simp⟩ (by unfold fuel; dsimp only; omega)
 rintro next ⟨r', o, l', n, i⟩ hI hn
 dsimp only at hI hn
 obtain ⟨rfl, rfl, rfl, i0, i1, h5, h6⟩ := hI
 unfold u1n_
 dsimp only
 refine ug_.2 ⟨fun hc => ?_, fun hc => ub_.2 ⟨fun y e => ?_, fun y e => (by cases e)⟩⟩
 · have hc := of_decide_eq_true hc
   rw [ubm_ (n := i + 1) (by omega) (by omega), ubm_ (n := (o.length : Int) - 1) (by omega) (by omega)]
   refine ua_.2 (u8_.2 ⟨⟨i0, hc⟩, fun s hx => ?_⟩)
   obtain ⟨s1, s2⟩ := hr s (u9f_ hx)
   refine ua_.2 ((ugu_ _ (by dsimp only; omega)).mono fun c1 _ => ug_.2 ⟨fun he => ub_.2 ⟨fun y e => (by cases e), fun y e => ?_⟩, fun _ => ?_⟩)
   · cases e; rw [up_] at he; exact ⟨rfl, by simpa using he⟩
   refine ua_.2 ((ugu_ _ (by dsimp only; omega)).mono fun c2 _ => ug_.2 ⟨fun he => ub_.2 ⟨fun y e => (by cases e), fun y e => ?_⟩, fun _ => ?_⟩)
   · cases e; rw [up_] at he; exact ⟨rfl, by simpa using he⟩
   refine ua_.2 ((uvi_ _ s1).mono fun e1 he1 => ua_.2 ((usv_ _ s2).mono fun e2 he2 => ?_))
   refine ua_.2 ((ucm_ _ trivial).mono fun r7 _ => ?_)
   refine ua_.2 (Tot.mono (P := fun _ => True) (ug_.2 ⟨fun hz => ?_, fun _ => ub_.2 trivial⟩) fun y8 _ => ?_)
   · have hz := of_decide_eq_true (Bool.and_eq_true_iff.1 hz).2
     exact u8_.2 ⟨⟨by omega, by omega⟩, fun _ _ => trivial⟩
   refine ua_.2 (Tot.mono (P := fun _ => True) (ug_.2 ⟨fun hz => ucm_ _ trivial, fun _ => ub_.2 trivial⟩) fun r9 _ => ?_)
   refine ug_.2 ⟨fun _ => ub_.2 ⟨fun y e => (by cases e), fun y e => (by cases e; exact ⟨rfl, by decide⟩)⟩, fun _ => ?_⟩
   have hgo : Tot (next (r', o ++ [(e1, e2)], r'.2, (r'.2.length : Int), i + 1)) (fun q : Sum (List uhd_) ((List uhd_) × Int) => (∀ y, q = .inl y → y.length ≤ 200) ∧ ∀ y, q = .inr y → y.1 = [] ∧ y.2 ≠ 0) := by
    refine hn _ ⟨rfl, rfl, rfl, by dsimp only; omega, by dsimp only; omega, ?_, fun x hx => ?_⟩ (by dsimp only; omega)
    · dsimp only; rw [List.length_append]; simp only [List.length_cons, List.length_nil]; omega
    · dsimp only at hx
      rw [List.mem_append] at hx
      rcases hx with hx | hx
      · exact h6 x hx
      · cases List.mem_singleton.1 hx; exact ⟨he1, he2⟩
   have hap : (o.length + 1) * 192 ≤ 70368744177664 := by omega
   refine ug_.2 ⟨fun _ => ?_, fun _ => ua_.2 (ulj_.2 ⟨hap, hgo⟩)⟩
   refine ua_.2 ((ubzo_ s o ⟨s1, s2⟩ h6 (by omega)).mono fun r11 _ => ug_.2 ⟨fun he => ub_.2 ⟨fun y e => (by cases e), fun y e => ?_⟩, fun _ => ua_.2 (ulj_.2 ⟨hap, hgo⟩)⟩)
   cases e; rw [up_] at he; exact ⟨rfl, by simpa using he⟩
 · cases e; omega
theorem ub08_ (r : Rg) (hr : ∀ s ∈ r.2, SpB s) : Tot (ucs_ r) (fun q => q.1.length ≤ 200) := by
 unfold ucs_
 refine ug_.2 ⟨fun _ => ub_.2 (by simp), fun _ => ug_.2 ⟨fun _ => ub_.2 (by simp), fun hc => ?_⟩⟩
 have hc := of_decide_eq_false hc
 refine ua_.2 ((ub2q_ r hr (by omega)).mono fun q hq => ?_)
 rcases q with y | y
 · exact ub_.2 (hq.1 y rfl)
 · refine ub_.2 ?_
   rw [(hq.2 y rfl).1]; simp
theorem ub09_ (l : List uhd_) (k : Str) (hl : l.length ≤ 1048576) : Tot (ui7_ (l, k)) (fun _ => True) := by
 unfold ui7_ uf8_
 dsimp only
 refine ua_.2 (ua_.2 (Tot.mono (P := fun _ => True) ?_ fun q _ => by rcases q with y | y <;> exact ub_.2 (ub_.2 trivial)))
 generalize hf : (fun x : uhd_ => (uru_ (x, (some ((0 : Int), (k, (false, ([] : Str))))))).bind fun r => some r) = f
 have hF : ∀ x, Tot (f x) fun _ => True := by
  intro x
  subst hf
  unfold uru_
  dsimp only
  refine ua_.2 (ua_.2 (ub_.2 (ua_.2 ((ucm_ _ trivial).mono fun r2 _ => ?_))))
  refine ua_.2 (Tot.mono (P := fun _ => True) (ug_.2 ⟨fun _ => ub_.2 trivial, fun _ => ub_.2 trivial⟩) fun p3 _ => ?_)
  exact ua_.2 (Tot.mono (P := fun _ => True) (ug_.2 ⟨fun _ => ucm_ _ trivial, fun _ => ub_.2 trivial⟩) fun r4 _ => ub_.2 (ub_.2 trivial))
 clear hf
 refine uv_ (R := fun _ : Sum Unit Int => True) (fun y : (List uhd_) × (uhd_ → Option Bool) × Int × Int => y.1 = l ∧ y.2.1 = f ∧ y.2.2.1 = l.length ∧ 0 ≤ y.2.2.2 ∧ y.2.2.2 ≤ l.length)
  (fun y => ((l.length : Int) - y.2.2.2).toNat) ?_ _ _ ⟨rfl, rfl, rfl, Int.le_refl _, Int.natCast_nonneg _⟩ (by unfold fuel; dsimp only; omega)
 rintro next ⟨l', f', n, i⟩ hI hn
 dsimp only at hI hn
 obtain ⟨rfl, rfl, rfl, i0, i1⟩ := hI
 unfold uih_
 dsimp only
 refine ug_.2 ⟨fun hc => ?_, fun hc => ub_.2 trivial⟩
 have hc := of_decide_eq_true hc
 rw [ubm_ (n := i + 1) (by omega) (by omega)]
 refine ua_.2 (u8_.2 ⟨⟨i0, hc⟩, fun s hx => ?_⟩)
 refine ua_.2 ((hF s).mono fun r _ => ug_.2 ⟨fun _ => ub_.2 trivial, fun _ => ?_⟩)
 exact hn _ ⟨rfl, rfl, rfl, by dsimp only; omega, by dsimp only; omega⟩ (by dsimp only; omega)
noncomputable def inn (L : List uhd_) (k : Int) (w : Str) : Bool := decide (0 ≤ (ui7_ (L, ky k w)).getD 0)
theorem ub4u_ (r : Rg) (l : List Str) (hl : l.length ≤ 10000) (hw : ∀ w ∈ l, w.length ≤ 1048576) (hok : ∀ w ∈ l, Ok r.1 w) :
 Tot (ut6_ (r, ([] : List Vr), l, (l.length : Int), 0)) (fun q => ∃ vs : List Vr, q = .inl vs ∧ vs.length = l.length ∧ ∀ (i : Nat) w v, l[i]? = some w → vs[i]? = some v → Vs r.1 w v (ky r.1 w)) := by
 refine uv_ (R := fun q : Sum (List Vr) ((List uhd_) × (List Vr) × Int) => ∃ vs : List Vr, q = .inl vs ∧ vs.length = l.length ∧ ∀ (i : Nat) w v, l[i]? = some w → vs[i]? = some v → Vs r.1 w v (ky r.1 w))
  (fun y : Rg × (List Vr) × (List Str) × Int × Int => y.1 = r ∧ y.2.2.1 = l ∧ y.2.2.2.1 = l.length ∧ 0 ≤ y.2.2.2.2 ∧ y.2.2.2.2 ≤ l.length ∧ (y.2.1.length : Int) = y.2.2.2.2 ∧ ∀ (i : Nat) w v, l[i]? = some w → y.2.1[i]? = some v → Vs r.1 w v (ky r.1 w))
  (fun y => ((l.length : Int) - y.2.2.2.2).toNat) ?_ _ _ ⟨rfl, rfl, rfl, Int.le_refl _, Int.natCast_nonneg _, rfl, by simp⟩ (by unfold fuel; dsimp only; omega)
 rintro next ⟨r', o, l', n, i⟩ hI hn
 dsimp only at hI hn
 obtain ⟨rfl, rfl, rfl, i0, i1, h5, h6⟩ := hI
 unfold u4y_
 dsimp only
 refine ug_.2 ⟨fun hc => ?_, fun hc => ub_.2 ⟨o, rfl, ?_, h6⟩⟩
 · have hc := of_decide_eq_true hc
   rw [ubm_ (n := i + 1) (by omega) (by omega)]
   refine ua_.2 (u8_.2 ⟨⟨i0, hc⟩, fun w hx => ?_⟩)
   obtain ⟨v, hv⟩ := hok w (u9f_ hx)
   rw [hv.1]
   refine ua_.2 (ub_.2 (ug_.2 ⟨fun he => by simp [up_] at he, fun _ => ua_.2 (ulj_.2 ⟨by simp only [List.length_cons, List.length_nil]; omega, ?_⟩)⟩))
   refine hn _ ⟨rfl, rfl, rfl, by dsimp only; omega, by dsimp only; omega, ?_, fun j u x hu hj => ?_⟩ (by dsimp only; omega)
   · dsimp only; rw [List.length_append]; simp only [List.length_cons, List.length_nil]; omega
   · dsimp only at hj
     rw [List.getElem?_append] at hj
     split at hj
     · exact h6 j u x hu hj
     · rename_i hj'
       have : j = i.toNat := by
        have := (List.getElem?_eq_some_iff.1 hj).1
        simp only [List.length_cons, List.length_nil] at this
        omega
       subst this
       rw [hx] at hu
       cases hu
       have e : i.toNat - o.length = 0 := by omega
       rw [e] at hj
       cases hj
       exact hv
 · have hc := of_decide_eq_false hc
   omega
theorem ub8j_ (k : Int) (L : List uhd_) (l : List Str) (vs : List Vr) (hL : L.length ≤ 200) (hl : l.length ≤ 10000) (hv : vs.length = l.length) (hvs : ∀ (i : Nat) w v, l[i]? = some w → vs[i]? = some v → Vs k w v (ky k w)) :
 Tot (uy3_ (l, L, ([] : List Str), vs, (vs.length : Int), 0)) (fun q => q = l.filter (inn L k)) := by
 refine uv_ (R := fun q : List Str => q = l.filter (inn L k))
  (fun y : (List Str) × (List uhd_) × (List Str) × (List Vr) × Int × Int => y.1 = l ∧ y.2.1 = L ∧ y.2.2.2.1 = vs ∧ y.2.2.2.2.1 = vs.length ∧ 0 ≤ y.2.2.2.2.2 ∧ y.2.2.2.2.2 ≤ l.length ∧ y.2.2.1 = (l.take y.2.2.2.2.2.toNat).filter (inn L k))
  (fun y => ((l.length : Int) - y.2.2.2.2.2).toNat) ?_ _ _ ⟨rfl, rfl, rfl, rfl, Int.le_refl _, Int.natCast_nonneg _, by simp⟩ (by unfold fuel; dsimp only; omega)
 rintro next ⟨l', L', o, vs', n, i⟩ hI hn
 dsimp only at hI hn
 obtain ⟨rfl, rfl, rfl, rfl, i0, i1, rfl⟩ := hI
 show Tot (bif (decide (i < (vs'.length : Int))) then
  (at? vs' i).bind fun y2 =>
  (keyF y2).bind fun r3 =>
  (ui7_ (L', r3)).bind fun r4 =>
  bif (decide ((0 : Int) ≤ r4)) then
   (at? l' i).bind fun y5 =>
   (app? 24 ((l'.take i.toNat).filter (inn L' k)) ([y5] : List Str)).bind fun l6 =>
   next (l', L', l6, vs', (vs'.length : Int), (IntKind.i64.wrap (i + (1 : Int))))
  else
   next (l', L', (l'.take i.toNat).filter (inn L' k), vs', (vs'.length : Int), (IntKind.i64.wrap (i + (1 : Int))))
 else
  some ((l'.take i.toNat).filter (inn L' k))) _
 refine ug_.2 ⟨fun hc => ?_, fun hc => ub_.2 ?_⟩
 · have hc := of_decide_eq_true hc
   rw [ubm_ (n := i + 1) (by omega) (by omega)]
   refine ua_.2 (u8_.2 ⟨⟨i0, hc⟩, fun v hx => ?_⟩)
   have hlt : i.toNat < l'.length := by omega
   have hw := List.getElem?_eq_getElem hlt
   generalize l'[i.toNat] = w at hw
   have hs := hvs _ _ _ hw hx
   rw [hs.2]
   obtain ⟨m, hm, _⟩ := ub09_ L' (ky k w) (by omega)
   have hin : inn L' k w = decide (0 ≤ m) := by unfold inn; rw [hm]; rfl
   refine ua_.2 (ub_.2 ?_)
   rw [hm]
   refine ua_.2 (ub_.2 (ug_.2 ⟨fun he => ?_, fun he => ?_⟩))
   · refine ua_.2 (u8_.2 ⟨⟨i0, by omega⟩, fun u hu => ?_⟩)
     rw [hw] at hu
     cases hu
     refine ua_.2 (ulj_.2 ⟨?_, ?_⟩)
     · refine Nat.le_trans (Nat.mul_le_mul_right _ (Nat.add_le_add_right (List.length_filter_le _ _) _)) ?_
       rw [List.length_take]; simp only [List.length_cons, List.length_nil]; omega
     · refine hn _ ⟨rfl, rfl, rfl, rfl, by dsimp only; omega, by dsimp only; omega, ?_⟩ (by dsimp only; omega)
       dsimp only
       rw [show (i + 1).toNat = i.toNat + 1 by omega, ubb1_ hw, List.filter_append]
       simp [hin, he]
   · refine hn _ ⟨rfl, rfl, rfl, rfl, by dsimp only; omega, by dsimp only; omega, ?_⟩ (by dsimp only; omega)
     dsimp only
     rw [show (i + 1).toNat = i.toNat + 1 by omega, ubb1_ hw, List.filter_append]
     simp [hin, he]
 · have hc := of_decide_eq_false hc
   rw [List.take_of_length_le (by omega)]
theorem ub6y_ (r : Rg) (l : List Str) (hr : ∀ s ∈ r.2, SpB s) (hw : ∀ w ∈ l, w.length ≤ 1048576) (hok : ∀ w ∈ l, Ok r.1 w) :
 Tot (u0v_ (r, l)) (fun q => q.2 = 0 → ∃ L, ucs_ r = some (L, 0) ∧ L.length ≤ 200 ∧ q.1 = l.filter (inn L r.1) ∧ l.length ≤ 10000) := by
 unfold u0v_ u1o_
 dsimp only
 obtain ⟨⟨L, e⟩, h1, h2⟩ := ub08_ r hr
 dsimp only at h2
 rw [h1]
 refine ua_.2 (ua_.2 (ub_.2 (ug_.2 ⟨fun he => ub_.2 (ug_.2 ⟨fun _ => ub_.2 fun h0 => ?_, fun h0 => ?_⟩), fun he => ug_.2 ⟨fun _ => ub_.2 (ug_.2 ⟨fun _ => ub_.2 fun h0 => ?_, fun h0 => ?_⟩), fun hc => ?_⟩⟩)))
 · dsimp only at h0 he; subst h0; simp [up_] at he
 · dsimp only at h0 he; rw [he] at h0; cases h0
 · cases h0
 · simp [up_] at h0
 · have he : e = 0 := by rw [up_] at he; simpa using he
   subst he
   have hc := of_decide_eq_false hc
   have hl : l.length ≤ 10000 := by omega
   refine ua_.2 ((ub4u_ r l hl hw hok).mono fun q hq => ?_)
   obtain ⟨vs, rfl, h3, h4⟩ := hq
   refine ub_.2 (ug_.2 ⟨fun h0 => by simp [up_] at h0, fun _ => ?_⟩)
   exact ua_.2 ((ub8j_ r.1 L l vs h2 hl h3 h4).mono fun q hq => ub_.2 fun _ => ⟨L, rfl, h2, hq, hl⟩)
end Go.Ev.Pv
namespace Go.Ev.Pv
theorem uccm_ (p : Str → Bool) (l : List Str) (hl : l.length ≤ 10000) :
 Tot (u1p_ (l.filter p, ([] : List Str), l, (l.length : Int), 0)) (fun q => q = l.filter (fun w => !p w)) := by
 refine uv_ (R := fun q : List Str => q = l.filter (fun w => !p w))
  (fun y : (List Str) × (List Str) × (List Str) × Int × Int => y.2.2.1 = l ∧ y.2.2.2.1 = l.length ∧ 0 ≤ y.2.2.2.2 ∧ y.2.2.2.2 ≤ l.length ∧ y.1 = (l.drop y.2.2.2.2.toNat).filter p ∧ y.2.1 = (l.take y.2.2.2.2.toNat).filter (fun w => !p w))
  (fun y => ((l.length : Int) - y.2.2.2.2).toNat) ?_ _ _ ⟨rfl, rfl, Int.le_refl _, Int.natCast_nonneg _, by simp, by simp⟩ (by unfold fuel; dsimp only; omega)
 rintro next ⟨f, o, l', n, i⟩ hI hn
 dsimp only at hI hn
 obtain ⟨rfl, rfl, i0, i1, rfl, rfl⟩ := hI
 unfold ube2_
 dsimp only
 refine ug_.2 ⟨fun hc => ?_, fun hc => ub_.2 ?_⟩
 · have hc := of_decide_eq_true hc
   rw [ubm_ (n := i + 1) (by omega) (by omega)]
   refine ua_.2 (u8_.2 ⟨⟨i0, hc⟩, fun w hx => ?_⟩)
   have hd := ub8h_ hx
   have hlen : ((l'.drop i.toNat).filter p).length ≤ l'.length := Nat.le_trans (List.length_filter_le _ _) (by rw [List.length_drop]; omega)
   cases hp : p w with
   | true =>
     have e : (l'.drop i.toNat).filter p = w :: (l'.drop (i.toNat + 1)).filter p := by rw [hd, List.filter_cons, hp]; rfl
     rw [e]
     have hpos : decide ((0 : Int) < ((w :: (l'.drop (i.toNat + 1)).filter p).length : Int)) = true := by simp only [List.length_cons]; exact decide_eq_true (by omega)
     rw [hpos]
     simp only [cond_true, Bool.true_and]
     refine ua_.2 (u8_.2 ⟨⟨by omega, by simp only [List.length_cons]; omega⟩, fun u hu => ?_⟩)
     have hu : w = u := by simpa using hu
     subst hu
     refine ug_.2 ⟨fun _ => ua_.2 (uo6_.2 ⟨⟨by omega, by simp only [List.length_cons]; omega, by omega⟩, ?_⟩), fun he => by rw [uy_] at he; simp at he⟩
     refine hn _ ⟨rfl, rfl, by dsimp only; omega, by dsimp only; omega, ?_, ?_⟩ (by dsimp only; omega)
     · dsimp only
       rw [show (i + 1).toNat = i.toNat + 1 by omega]
       simp
     · dsimp only
       rw [show (i + 1).toNat = i.toNat + 1 by omega, ubb1_ hx, List.filter_append]
       simp [hp]
   | false =>
     have e : (l'.drop i.toNat).filter p = (l'.drop (i.toNat + 1)).filter p := by rw [hd, List.filter_cons, hp]; rfl
     have hgo : Tot (next ((l'.drop i.toNat).filter p, (l'.take i.toNat).filter (fun w => !p w) ++ [w], l', (l'.length : Int), i + 1)) (fun q : List Str => q = l'.filter (fun w => !p w)) := by
      refine hn _ ⟨rfl, rfl, by dsimp only; omega, by dsimp only; omega, ?_, ?_⟩ (by dsimp only; omega)
      · dsimp only
        rw [show (i + 1).toNat = i.toNat + 1 by omega, e]
      · dsimp only
        rw [show (i + 1).toNat = i.toNat + 1 by omega, ubb1_ hx, List.filter_append]
        simp [hp]
     have hap : Tot (app? 24 ((l'.take i.toNat).filter (fun w => !p w)) ([w] : List Str)) (fun q => q = (l'.take i.toNat).filter (fun w => !p w) ++ [w]) := by
      refine ulj_.2 ⟨?_, rfl⟩
      refine Nat.le_trans (Nat.mul_le_mul_right _ (Nat.add_le_add_right (List.length_filter_le _ _) _)) ?_
      rw [List.length_take]; simp only [List.length_cons, List.length_nil]; omega
     refine ua_.2 (Tot.mono (P := fun u => decide ((0 : Int) < (((l'.drop i.toNat).filter p).length : Int)) = true → u ∈ (l'.drop i.toNat).filter p) (ug_.2 ⟨fun hz => ?_, fun hz => ub_.2 fun h0 => by rw [hz] at h0; cases h0⟩) fun u hu => ?_)
     · have hz := of_decide_eq_true hz
       exact u8_.2 ⟨⟨by omega, hz⟩, fun u hu _ => u9f_ hu⟩
     · refine ug_.2 ⟨fun hz => ?_, fun _ => ua_.2 (hap.mono fun q hq => by rw [hq]; exact hgo)⟩
       obtain ⟨z1, z2⟩ := Bool.and_eq_true_iff.1 hz
       have hm := (List.mem_filter.1 (hu z1)).2
       rw [uy_] at z2
       rw [of_decide_eq_true z2, hp] at hm
       cases hm
 · have hc := of_decide_eq_false hc
   rw [List.take_of_length_le (by omega)]
def SafeR (a : Af) (l : List Str) (q : (List Str) × Int) : Prop := q.2 = 0 → ∃ (r : Rg) (L : List uhd_), ucr_ a = some (r, 0) ∧ ucs_ r = some (L, 0) ∧ L.length ≤ 200 ∧ r.1 = a.2.1 ∧ l.length ≤ 10000 ∧ (∀ w ∈ l, Ok a.2.1 w) ∧ q.1 = l.filter (fun w => !inn L a.2.1 w)
theorem ucaj_ (k : Int) (z : Rg) (l : List Spn) (hl : l.length ≤ 1048576) (hs : ∀ s ∈ l, SpB s) :
 Tot (ut5_ (k, z, ([] : List uhd_), l, (l.length : Int), 0)) (fun q => (∀ y, q = .inl y → y.2.length ≤ 1048576 ∧ ∀ s ∈ y.2, StB s) ∧ ∀ y, q = .inr y → y.2 ≠ 0) := by
 refine uv_ (R := fun q : Sum (Rg × (List uhd_)) (Rg × Int) => (∀ y, q = .inl y → y.2.length ≤ 1048576 ∧ ∀ s ∈ y.2, StB s) ∧ ∀ y, q = .inr y → y.2 ≠ 0)
  (fun y : Int × Rg × (List uhd_) × (List Spn) × Int × Int => y.2.2.2.1 = l ∧ y.2.2.2.2.1 = l.length ∧ 0 ≤ y.2.2.2.2.2 ∧ y.2.2.2.2.2 ≤ l.length ∧ y.2.2.1.length ≤ y.2.2.2.2.2 ∧ ∀ s ∈ y.2.2.1, StB s)
  (fun y => ((l.length : Int) - y.2.2.2.2.2).toNat) ?_ _ _ ⟨rfl, rfl, Int.le_refl _, Int.natCast_nonneg _, by simp, by simp⟩ (by unfold fuel; dsimp only; omega)
 rintro next ⟨k', z', o, l', n, i⟩ hI hn
 dsimp only at hI hn
 obtain ⟨rfl, rfl, i0, i1, h5, h6⟩ := hI
 unfold u1k_
 dsimp only
 refine ug_.2 ⟨fun hc => ?_, fun hc => ub_.2 ⟨fun y e => ?_, fun y e => (by cases e)⟩⟩
 · have hc := of_decide_eq_true hc
   rw [ubm_ (n := i + 1) (by omega) (by omega)]
   refine ua_.2 (u8_.2 ⟨⟨i0, hc⟩, fun s hx => ?_⟩)
   obtain ⟨s1, s2⟩ := hs s (u9f_ hx)
   refine ua_.2 ((ugu_ _ (by dsimp only; omega)).mono fun c1 _ => ug_.2 ⟨fun he => ub_.2 ⟨fun y e => (by cases e), fun y e => ?_⟩, fun _ => ?_⟩)
   · cases e; rw [up_] at he; simpa using he
   refine ua_.2 ((ugu_ _ (by dsimp only; omega)).mono fun c2 _ => ug_.2 ⟨fun he => ub_.2 ⟨fun y e => (by cases e), fun y e => ?_⟩, fun _ => ?_⟩)
   · cases e; rw [up_] at he; simpa using he
   refine ua_.2 ((uvi_ _ s1).mono fun e1 he1 => ua_.2 ((usv_ _ s2).mono fun e2 he2 => ?_))
   refine ua_.2 ((ucm_ _ trivial).mono fun r7 _ => ?_)
   refine ug_.2 ⟨fun _ => ua_.2 (ulj_.2 ⟨by simp only [List.length_cons, List.length_nil]; omega, ?_⟩), fun _ => ?_⟩
   · refine hn _ ⟨rfl, rfl, by dsimp only; omega, by dsimp only; omega, ?_, fun x hx => ?_⟩ (by dsimp only; omega)
     · dsimp only; rw [List.length_append]; simp only [List.length_cons, List.length_nil]; omega
     · dsimp only at hx
       rw [List.mem_append] at hx
       rcases hx with hx | hx
       · exact h6 x hx
       · cases List.mem_singleton.1 hx; exact ⟨he1, he2⟩
   · exact hn _ ⟨rfl, rfl, by dsimp only; omega, by dsimp only; omega, by dsimp only; omega, h6⟩ (by dsimp only; omega)
 · cases e; exact ⟨by dsimp only; omega, h6⟩
theorem ub8k_ (k : Int) (l : List uhd_) (h : (∀ s ∈ l, StB s) ∧ l.length ≤ 1048576) : Tot (uwv_ (k, l)) (fun r => r.2 = 0 → r.1.1 = k) := by
 unfold uwv_
 dsimp only
 refine ua_.2 ((u52_ _ h).mono fun r2 h2 => ug_.2 ⟨fun _ => ub_.2 fun e => (by cases e), fun hc => ?_⟩)
 have hc := of_decide_eq_false hc
 exact ua_.2 ((u53_ _ ⟨Int.le_refl _, Int.natCast_nonneg _, rfl, by dsimp only; omega, by simp, by dsimp only; omega, h2.2, by simp⟩).mono fun r h => ub_.2 fun _ => h.1)
theorem ub6z_ (k : Int) (l : List Spn) (h : (∀ s ∈ l, SpB s) ∧ l.length ≤ 1048576) : Tot (usz_ (k, l)) (fun r => r.2 = 0 → r.1.1 = k) := by
 unfold usz_
 refine ua_.2 ((ucaj_ k _ l h.2 h.1).mono fun r hr => ?_)
 rcases r with y | y
 · obtain ⟨g1, g2⟩ := hr.1 y rfl
   refine ua_.2 ((ub06_ y.2).mono fun r13 h13 => ?_)
   have l13 := h13.1.length_eq
   refine ua_.2 ((u3b_ _ ⟨Int.le_refl _, Int.natCast_nonneg _, rfl, by dsimp only; omega, by simp, by simp, by dsimp only; omega, fun s hs => g2 s (h13.1.mem_iff.1 hs)⟩).mono fun r23 h23 => ?_)
   exact ua_.2 ((ub8k_ k _ ⟨h23.2, h23.1⟩).mono fun r24 h24 => ub_.2 h24)
 · exact ub_.2 fun e => absurd e (hr.2 y rfl)
theorem ub2r_ {a : Af} {r : Rg} (h : AfB a) (hr : ucr_ a = some (r, 0)) : r.1 = a.2.1 := by
 have : Tot (ucr_ a) (fun r => r.2 = 0 → r.1.1 = a.2.1) := by
  unfold ucr_
  refine ua_.2 ((urk_ _ h).mono fun r1 h1 => ?_)
  refine ug_.2 ⟨fun he => ub_.2 fun e => ?_, fun he => ?_⟩
  · dsimp only at e; rw [e] at he; simp [up_] at he
  have h0 : r1 = 0 := by rw [up_] at he; simpa using he
  refine ua_.2 ((u9n_ _ ⟨h, h1 h0⟩).mono fun r3 h3 => ?_)
  exact ua_.2 ((ub6z_ a.2.1 r3 ⟨h3.2, by omega⟩).mono fun r4 h4 => ub_.2 h4)
 obtain ⟨x, h1, h2⟩ := this
 rw [hr] at h1
 cases h1
 exact h2 rfl
theorem ucak_ (a : Af) (l : List Str) (ha : AfB a) (hl : l.length ≤ 1048576) (hw : ∀ w ∈ l, w.length ≤ 1048576) : Tot (u4z_ (a, l)) (SafeR a l) := by
 unfold u4z_
 dsimp only
 obtain ⟨⟨r, e⟩, h1, h2, h3⟩ := ucai_ a l ha hl hw
 rw [h1]
 refine ua_.2 (ub_.2 (ug_.2 ⟨fun he => ub_.2 fun h0 => ?_, fun he => ?_⟩))
 · dsimp only at h0 he; subst h0; simp [up_] at he
 have he : e = 0 := by rw [up_] at he; simpa using he
 subst he
 obtain ⟨g1, g2⟩ := h3 rfl
 have gk := ub2r_ ha g1
 dsimp only at g1 gk h2
 obtain ⟨⟨f, e⟩, f1, f2⟩ := ub6y_ r l h2 hw (by rw [gk]; exact g2)
 rw [f1]
 refine ua_.2 (ub_.2 (ug_.2 ⟨fun he => ub_.2 fun h0 => ?_, fun he => ?_⟩))
 · dsimp only at h0 he; subst h0; simp [up_] at he
 have he : e = 0 := by rw [up_] at he; simpa using he
 subst he
 obtain ⟨L, l1, l2, l3, l4⟩ := f2 rfl
 dsimp only at l3
 subst l3
 rw [gk]
 exact ua_.2 ((uccm_ (inn L a.2.1) l l4).mono fun q hq => ub_.2 fun _ => ⟨r, L, g1, l1, l2, gk, l4, g2, hq⟩)
def FixR (k : Int) (least : Str) (S : List Str) (b : Str) : Prop := (b = [] ∧ ∀ w ∈ S, ky k w < least) ∨ (b ∈ S ∧ ¬ ky k b < least ∧ ∀ w ∈ S, ¬ ky k w < least → ¬ ky k w < ky k b)
theorem fix_l (a : Af) (least : Str) (S : List Str) (hl : S.length ≤ 10000) (hS : ∀ w ∈ S, Ok a.2.1 w) :
 Tot (u6a_ (a, least, ([] : Str), ([] : Str), S, (S.length : Int), 0)) (FixR a.2.1 least S) := by
 refine uv_ (R := FixR a.2.1 least S)
  (fun y : Af × Str × Str × Str × (List Str) × Int × Int => y.1 = a ∧ y.2.1 = least ∧ y.2.2.2.2.1 = S ∧ y.2.2.2.2.2.1 = S.length ∧ 0 ≤ y.2.2.2.2.2.2 ∧ y.2.2.2.2.2.2 ≤ S.length ∧ FixR a.2.1 least (S.take y.2.2.2.2.2.2.toNat) y.2.2.1 ∧ (y.2.2.1 ≠ [] → y.2.2.2.1 = ky a.2.1 y.2.2.1))
  (fun y => ((S.length : Int) - y.2.2.2.2.2.2).toNat) ?_ _ _ ⟨rfl, rfl, rfl, rfl, Int.le_refl _, Int.natCast_nonneg _, Or.inl ⟨rfl, by simp⟩, fun h => absurd rfl h⟩ (by unfold fuel; dsimp only; omega)
 rintro next ⟨a', least', b, top, S', n, i⟩ hI hn
 dsimp only at hI hn
 obtain ⟨rfl, rfl, rfl, rfl, i0, i1, h5, h6⟩ := hI
 unfold ubj4_
 dsimp only
 refine ug_.2 ⟨fun hc => ?_, fun hc => ub_.2 ?_⟩
 · have hc := of_decide_eq_true hc
   rw [ubm_ (n := i + 1) (by omega) (by omega)]
   refine ua_.2 (u8_.2 ⟨⟨i0, hc⟩, fun w hx => ?_⟩)
   have hok := hS w (u9f_ hx)
   obtain ⟨v, hv⟩ := hok
   have hne := vs_ne hv
   rw [ubpg_ hv]
   refine ua_.2 (ub_.2 ?_)
   dsimp only
   rw [ub2p_, ub2p_, uy_]
   have hmem : ∀ u, u ∈ S'.take (i.toNat + 1) ↔ u ∈ S'.take i.toNat ∨ u = w := by
    intro u; rw [ubb1_ hx, List.mem_append, List.mem_singleton]
   refine ug_.2 ⟨fun hz => ?_, fun hz => ?_⟩
   · obtain ⟨z1, z2⟩ := Bool.and_eq_true_iff.1 hz
     have z1 : ¬ ky a'.2.1 w < least' := by simpa using z1
     have z2 : b = [] ∨ ky a'.2.1 w < top := by simpa using z2
     refine hn _ ⟨rfl, rfl, rfl, rfl, by dsimp only; omega, by dsimp only; omega, ?_, fun _ => rfl⟩ (by dsimp only; omega)
     dsimp only
     rw [show (i + 1).toNat = i.toNat + 1 by omega]
     refine Or.inr ⟨(hmem w).2 (Or.inr rfl), z1, fun u hu hul => ?_⟩
     rcases (hmem u).1 hu with hu | rfl
     · rcases h5 with ⟨_, g⟩ | ⟨g1, g2, g3⟩
       · exact absurd (g u hu) hul
       · have hb : b ≠ [] := by
          rintro rfl
          obtain ⟨v', hv'⟩ := hS _ (List.mem_of_mem_take g1)
          exact vs_ne hv' rfl
         have ht := h6 hb
         rcases z2 with z2 | z2
         · exact absurd z2 hb
         · rw [ht] at z2
           exact sntr (g3 u hu hul) (sasym z2)
     · exact sirr _
   · refine hn _ ⟨rfl, rfl, rfl, rfl, by dsimp only; omega, by dsimp only; omega, ?_, h6⟩ (by dsimp only; omega)
     dsimp only
     rw [show (i + 1).toNat = i.toNat + 1 by omega]
     have hz : ky a'.2.1 w < least' ∨ (b ≠ [] ∧ ¬ ky a'.2.1 w < top) := by
      by_cases g : ky a'.2.1 w < least'
      · exact Or.inl g
      · simp [g] at hz; exact Or.inr hz
     rcases h5 with ⟨rfl, g⟩ | ⟨g1, g2, g3⟩
     · rcases hz with hz | hz
       · refine Or.inl ⟨rfl, fun u hu => ?_⟩
         rcases (hmem u).1 hu with hu | rfl
         · exact g u hu
         · exact hz
       · exact absurd rfl hz.1
     · refine Or.inr ⟨(hmem b).2 (Or.inl g1), g2, fun u hu hul => ?_⟩
       rcases (hmem u).1 hu with hu | rfl
       · exact g3 u hu hul
       · rcases hz with hz | hz
         · exact absurd hz hul
         · rw [← h6 hz.1]; exact hz.2
 · have hc := of_decide_eq_false hc
   rwa [List.take_of_length_le (by omega)] at h5
def FixS (a : Af) (l : List Str) (s : Str) (q : Str × Bool × Int) : Prop := q.2.2 = 0 → Ok a.2.1 s ∧ q.2.1 = !(eqS q.1 []) ∧ ∃ (r : Rg) (L : List uhd_), ucr_ a = some (r, 0) ∧ ucs_ r = some (L, 0) ∧ L.length ≤ 200 ∧ r.1 = a.2.1 ∧ l.length ≤ 10000 ∧ (∀ w ∈ l, Ok a.2.1 w) ∧ FixR a.2.1 (ky a.2.1 s) (l.filter (fun w => !inn L a.2.1 w)) q.1
theorem ucbu_ (a : Af) (l : List Str) (s : Str) (ha : AfB a) (hl : l.length ≤ 1048576) (hw : ∀ w ∈ l, w.length ≤ 1048576) (hs : s.length ≤ 1048576) : Tot (u9x_ (a, l, s)) (FixS a l s) := by
 unfold u9x_
 dsimp only
 obtain ⟨⟨S, e⟩, h1, h2⟩ := ucak_ a l ha hl hw
 rw [h1]
 refine ua_.2 (ub_.2 (ug_.2 ⟨fun he => ub_.2 fun h0 => ?_, fun he => ?_⟩))
 · dsimp only at h0 he; subst h0; simp [up_] at he
 have he : e = 0 := by rw [up_] at he; simpa using he
 subst he
 obtain ⟨r, L, g1, g2, g3, g4, g5, g6, g7⟩ := h2 rfl
 dsimp only at g7
 subst g7
 obtain ⟨⟨y, e⟩, f1, _⟩ := ubkz_ (a.2.1, s) hs
 rw [f1]
 refine ua_.2 (ub_.2 (ug_.2 ⟨fun he => ub_.2 fun h0 => ?_, fun he => ?_⟩))
 · dsimp only at h0 he; subst h0; simp [up_] at he
 have he : e = 0 := by rw [up_] at he; simpa using he
 subst he
 obtain ⟨v, hv⟩ := ubxj_ hs f1
 have ek := vs_ky hv
 dsimp only
 refine ua_.2 ((fix_l a y _ (Nat.le_trans (List.length_filter_le _ _) g5) fun w hw => g6 w (List.mem_filter.1 hw).1).mono fun b hb => ub_.2 fun _ => ⟨ok_of hv, rfl, r, L, g1, g2, g3, g4, g5, g6, ?_⟩)
 rw [ek]; exact hb
theorem ub4v_ {r : Rg} {L : List uhd_} {w : Str} (h : ucs_ r = some (L, 0)) (hL : L.length ≤ 200) (hw : Ok r.1 w) : u1q_ (r, w) = some (inn L r.1 w, 0) := by
 obtain ⟨v, hv⟩ := hw
 show ((ucs_ r).bind fun r1 => bif (!(eqI r1.2 (0 : Int))) then some (false, r1.2) else (udq_ (r.1, w)).bind fun r2 => bif (!(eqI r2.2 (0 : Int))) then some (false, r2.2) else (keyF r2.1).bind fun r3 => (ui7_ (r1.1, r3)).bind fun r4 => some ((decide ((0 : Int) ≤ r4)), (0 : Int))) = _
 rw [h]
 simp only [Option.bind_some, up_, decide_true, Bool.not_true, cond_false]
 rw [hv.1]
 simp only [Option.bind_some, decide_true, Bool.not_true, cond_false]
 rw [hv.2]
 obtain ⟨m, hm, _⟩ := ub09_ L (ky r.1 w) (by omega)
 simp only [Option.bind_some]
 rw [hm]
 unfold inn
 rw [hm]; rfl
theorem ub4w_ (k : Int) (u w : Str) : uq6_ (k, u, w) = (u91_ (k, u, w)).bind fun r1 => bif (!(eqI r1.2.2 (0 : Int))) then some ((0 : Int), r1.2.2) else (keyF r1.1).bind fun r2 => (keyF r1.2.1).bind fun r3 => (ucc_ (r2, r3)).bind fun r4 => some (r4, (0 : Int)) := rfl
theorem ub1a_ {k : Int} {u w : Str} (hu : Ok k u) (hw : Ok k w) : uq6_ (k, u, w) = some (cmpS (ky k u) (ky k w), 0) := by
 obtain ⟨v, hv⟩ := hu
 obtain ⟨v', hv'⟩ := hw
 rw [ub4w_]
 unfold u91_
 dsimp only
 rw [hv.1]
 simp only [Option.bind_some, up_, decide_true, Bool.not_true, cond_false]
 rw [hv'.1]
 simp only [Option.bind_some, decide_true, Bool.not_true, cond_false]
 rw [hv.2, hv'.2]
 simp only [Option.bind_some]
 rw [u0o_]; rfl
theorem ub2s_ (l : List Str) (v : Str) (hl : l.length ≤ 1048576) : Tot (uds_ (l, v)) (fun q => v ∈ l → q = true) := by
 unfold uds_ ugz_
 dsimp only
 refine ua_.2 (ua_.2 (Tot.mono (P := fun q : Sum Unit Int => (∀ y, q = .inr y → 0 ≤ y) ∧ ∀ y, q = .inl y → v ∉ l) ?_ fun q hq => ?_))
 · refine uv_ (R := fun q : Sum Unit Int => (∀ y, q = .inr y → 0 ≤ y) ∧ ∀ y, q = .inl y → v ∉ l) (fun y : (List Str) × Str × Int × Int => y.1 = l ∧ y.2.1 = v ∧ y.2.2.1 = l.length ∧ 0 ≤ y.2.2.2 ∧ y.2.2.2 ≤ l.length ∧ v ∉ l.take y.2.2.2.toNat)
    (fun y => ((l.length : Int) - y.2.2.2).toNat) ?_ _ _ ⟨rfl, rfl, rfl, Int.le_refl _, Int.natCast_nonneg _, by simp⟩ (by unfold fuel; dsimp only; omega)
   rintro next ⟨l', v', n, i⟩ hI hn
   dsimp only at hI hn
   obtain ⟨rfl, rfl, rfl, i0, i1, h5⟩ := hI
   unfold uoi_
   dsimp only
   refine ug_.2 ⟨fun hc => ?_, fun hc => ub_.2 ⟨fun y e => (by cases e), fun y e => ?_⟩⟩
   · have hc := of_decide_eq_true hc
     rw [ubm_ (n := i + 1) (by omega) (by omega)]
     refine ua_.2 (u8_.2 ⟨⟨i0, hc⟩, fun w hx => ug_.2 ⟨fun _ => ub_.2 ⟨fun y e => (by cases e; exact i0), fun y e => (by cases e)⟩, fun he => ?_⟩⟩)
     refine hn _ ⟨rfl, rfl, rfl, by dsimp only; omega, by dsimp only; omega, ?_⟩ (by dsimp only; omega)
     dsimp only
     rw [show (i + 1).toNat = i.toNat + 1 by omega, ubb1_ hx, List.mem_append, List.mem_singleton]
     rw [uy_] at he
     exact fun h => h.elim h5 (of_decide_eq_false he)
   · have hc := of_decide_eq_false hc
     rwa [List.take_of_length_le (by omega)] at h5
 · rcases q with y | y
   · exact ub_.2 (ub_.2 fun h => absurd h (hq.2 y rfl))
   · exact ub_.2 (ub_.2 fun _ => decide_eq_true (hq.1 y rfl))
theorem law_l (a : Af) (l : List Str) (s v : Str) (is : Bool) (r : Rg) (L : List uhd_) (hw : ∀ w ∈ l, w.length ≤ 1048576) (g0 : Ok a.2.1 s) (gi : is = !(eqS v [])) (g2 : ucs_ r = some (L, 0)) (g3 : L.length ≤ 200) (g4 : r.1 = a.2.1) (g5 : l.length ≤ 10000) (g6 : ∀ w ∈ l, Ok a.2.1 w)
 (g7 : FixR a.2.1 (ky a.2.1 s) (l.filter (fun w => !inn L a.2.1 w)) v) : Tot (um8_ (s, a, v, is, r, l, (l.length : Int), 0)) (fun q => q = .inl ()) := by
 refine uv_ (R := fun q : Sum Unit Bool => q = .inl ()) (fun y : Str × Af × Str × Bool × Rg × (List Str) × Int × Int => y.1 = s ∧ y.2.1 = a ∧ y.2.2.1 = v ∧ y.2.2.2.1 = is ∧ y.2.2.2.2.1 = r ∧ y.2.2.2.2.2.1 = l ∧ y.2.2.2.2.2.2.1 = l.length ∧ 0 ≤ y.2.2.2.2.2.2.2 ∧ y.2.2.2.2.2.2.2 ≤ l.length)
  (fun y => ((l.length : Int) - y.2.2.2.2.2.2.2).toNat) ?_ _ _ ⟨rfl, rfl, rfl, rfl, rfl, rfl, rfl, Int.le_refl _, Int.natCast_nonneg _⟩ (by unfold fuel; dsimp only; omega)
 rintro next ⟨s', a', v', is', r', l', n, i⟩ hI hn
 dsimp only at hI hn
 obtain ⟨rfl, rfl, rfl, rfl, rfl, rfl, rfl, i0, i1⟩ := hI
 unfold uvt_
 dsimp only
 refine ug_.2 ⟨fun hc => ?_, fun hc => ub_.2 rfl⟩
 have hc := of_decide_eq_true hc
 rw [ubm_ (n := i + 1) (by omega) (by omega)]
 refine ua_.2 (u8_.2 ⟨⟨i0, hc⟩, fun w hx => ?_⟩)
 have hm := u9f_ hx
 have hok := g6 w hm
 rw [ub4v_ g2 g3 (by rw [g4]; exact hok), ub1a_ hok g0]
 refine ua_.2 (ub_.2 (ua_.2 (ub_.2 ?_)))
 dsimp only
 rw [g4]
 have hgo : Tot (next (s', a', v', is', r', l', (l'.length : Int), i + 1)) (fun q : Sum Unit Bool => q = .inl ()) :=
  hn _ ⟨rfl, rfl, rfl, rfl, rfl, rfl, rfl, by dsimp only; omega, by dsimp only; omega⟩ (by dsimp only; omega)
 have hin : is' = true → v' ∈ l'.filter (fun w => !inn L a'.2.1 w) ∧ ¬ ky a'.2.1 v' < ky a'.2.1 s' ∧ ∀ w ∈ l'.filter (fun w => !inn L a'.2.1 w), ¬ ky a'.2.1 w < ky a'.2.1 s' → ¬ ky a'.2.1 w < ky a'.2.1 v' := by
  intro h
  rcases g7 with ⟨rfl, _⟩ | g7
  · rw [h] at gi; cases gi
  · exact g7
 refine ug_.2 ⟨fun hz => ?_, fun hz => ?_⟩
 · refine ug_.2 ⟨fun hb => ?_, fun _ => hgo⟩
   obtain ⟨b1, b2⟩ := Bool.and_eq_true_iff.1 hb
   rw [uy_] at b2
   have b2 := of_decide_eq_true b2
   subst b2
   obtain ⟨c1, c2, _⟩ := hin b1
   rcases Bool.or_eq_true_iff.1 hz with hz | hz
   · have := (List.mem_filter.1 c1).2
     rw [hz] at this
     cases this
   · exact absurd ((ub6w_ _ _).1 (of_decide_eq_true hz)) c2
 · obtain ⟨z1, z2⟩ := Bool.or_eq_false_iff.1 hz
   have z2 : ¬ ky a'.2.1 w < ky a'.2.1 s' := fun h => of_decide_eq_false z2 ((ub6w_ _ _).2 h)
   have hwm : w ∈ l'.filter (fun w => !inn L a'.2.1 w) := List.mem_filter.2 ⟨hm, by rw [z1]; rfl⟩
   rcases g7 with ⟨_, g7⟩ | g7
   · exact absurd (g7 w hwm) z2
   · have hvl := (List.mem_filter.1 g7.1).1
     obtain ⟨x, hx⟩ := g6 _ hvl
     have hne := vs_ne hx
     rw [ub1a_ (g6 _ hvl) hok]
     refine ua_.2 (ub_.2 (ug_.2 ⟨fun hb => ?_, fun _ => hgo⟩))
     rw [gi, uy_, decide_eq_false hne] at hb
     simp only [Bool.not_false, Bool.not_true, Bool.false_or, decide_eq_true_eq] at hb
     unfold cmpS at hb
     split at hb
     · omega
     · rename_i n1
       split at hb
       · omega
       · rename_i n2
         rcases stri (ky a'.2.1 v') (ky a'.2.1 w) with h | h | h
         · exact absurd h n1
         · exact absurd h n2
         · exact absurd h (g7.2.2 w hwm z2)
theorem law11 (a : Af) (l : List Str) (s : Str) (ha : AfB a) (hl : l.length ≤ 1048576) (hw : ∀ w ∈ l, w.length ≤ 1048576) (hs : s.length ≤ 1048576) : uly_ (a, l, s) = some true := by
 suffices h : Tot (uly_ (a, l, s)) (fun q => q = true) by obtain ⟨q, h1, rfl⟩ := h; exact h1
 unfold uly_
 dsimp only
 obtain ⟨⟨v, is, e⟩, h1, h2⟩ := ucbu_ a l s ha hl hw hs
 obtain ⟨⟨r, e'⟩, h1', _⟩ := u3c_ a ha
 rw [h1, h1']
 refine ua_.2 (ub_.2 (ua_.2 (ub_.2 (ug_.2 ⟨fun _ => ?_, fun hc => ?_⟩))))
 · rw [told5]; exact ua_.2 (ub_.2 (ub_.2 rfl))
 · obtain ⟨c1, c2⟩ := Bool.or_eq_false_iff.1 hc
   have he : e = 0 := by rw [up_] at c1; simpa using c1
   have he' : e' = 0 := by rw [up_] at c2; simpa using c2
   subst he
   subst he'
   obtain ⟨g0, gi, r', L, g1, g2, g3, g4, g5, g6, g7⟩ := h2 rfl
   rw [h1'] at g1
   cases g1
   dsimp only at gi g7 ⊢
   refine ua_.2 ((law_l a l s v is r L hw g0 gi g2 g3 g4 g5 g6 g7).mono fun q hq => ?_)
   subst hq
   cases hi : is with
   | false =>
     simp only [Bool.not_false, Bool.not_true, cond_false, Bool.true_or, cond_true, Bool.true_and]
     rw [told5]
     exact ua_.2 (ub_.2 (ua_.2 (ub_.2 (ub_.2 rfl))))
   | true =>
     have hv : v ∈ l := by
      rcases g7 with ⟨rfl, _⟩ | g7
      · rw [hi] at gi; cases gi
      · exact (List.mem_filter.1 g7.1).1
     simp only [Bool.not_true, Bool.not_false, cond_true, Bool.false_or]
     refine ua_.2 ((ub2s_ l v (by omega)).mono fun q hq => ?_)
     rw [hq hv, told5]
     exact ua_.2 (ub_.2 (ub_.2 rfl))
end Go.Ev.Pv
