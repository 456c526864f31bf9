/-
  That the plain functions give an answer, third part; bases and deltas; the law itself as plain Lean.
-/
import Derived.Test.YthmppjbjlbaahaaGreatDoorA2
import Derived.KernelRfl
set_option linter.unusedVariables false
set_option linter.unusedSimpArgs false
set_option linter.unusedSectionVars false
set_option maxRecDepth 100000
namespace Go.Ev.Pv
theorem u5p_ (x : YY5 × YY23 × Int × Int) (h : 0 ≤ x.2.2.2 ∧ x.2.2.2 ≤ x.2.2.1 ∧ x.2.2.1 = x.2.1.length ∧ x.2.2.1 ≤ 281474976710656 ∧ (∀ v ∈ x.2.1, v.2.length ≤ 1048576) ∧ (∀ j : Nat, (j : Int) < x.2.2.2 → ∀ v, x.2.1[j]? = some v → 1 ≤ v.1 ∧ v.1 ≤ 3)) : Tot (unm_ x) (fun r : Sum (Unit) (Int) => (∀ y, r = .inl y → ∀ v ∈ x.2.1, 1 ≤ v.1 ∧ v.1 ≤ 3) ∧ ∀ y, r = .inr y → y ≠ 0) := by
 refine uu_ (R := fun r : Sum Unit Int => (∀ y, r = .inl y → ∀ v ∈ x.2.1, 1 ≤ v.1 ∧ v.1 ≤ 3) ∧ ∀ y, r = .inr y → y ≠ 0)
  (fun y : Af × YY23 × Int × Int => 0 ≤ y.2.2.2 ∧ y.2.2.2 ≤ y.2.2.1 ∧ y.2.2.1 = y.2.1.length ∧ y.2.2.1 ≤ 281474976710656 ∧ y.2.1 = x.2.1 ∧ (∀ v ∈ y.2.1, v.2.length ≤ 1048576) ∧ ∀ j : Nat, (j : Int) < y.2.2.2 → ∀ v, y.2.1[j]? = some v → 1 ≤ v.1 ∧ v.1 ≤ 3)
  (fun y => (y.2.2.1 - y.2.2.2).toNat) ?_ _ _ ⟨h.1, h.2.1, h.2.2.1, h.2.2.2.1, rfl, h.2.2.2.2⟩ (by unfold fuel; have := h.2.2.2.1; omega)
 rintro next ⟨a, l, n, i⟩ hI hn
 dsimp only at hI hn
 obtain ⟨i0, i1, i2, i3, i4, i5, i6⟩ := hI
 unfold uwg_
 dsimp only
 refine uh_.2 ⟨fun hc => ?_, fun hc => ub_.2 ⟨fun y _ v hv => ?_, fun y hy => (by cases hy)⟩⟩
 · have hc := of_decide_eq_true hc
   rw [ubj_ (by omega) (by omega)]
   refine ua_.2 (u2_.2 ⟨⟨i0, by omega⟩, fun v hv => ?_⟩)
   refine uh_.2 ⟨fun _ => ub_.2 ⟨fun y hy => (by cases hy), fun y hy => (by cases hy; decide)⟩, fun hk => ?_⟩
   have hk : 1 ≤ v.1 ∧ v.1 ≤ 3 := by
    have := Bool.or_eq_false_iff.1 hk
    have h1 := of_decide_eq_false this.1
    have h2 := of_decide_eq_false this.2
    omega
   have hstep : ∀ j : Nat, (j : Int) < i + 1 → ∀ v, l[j]? = some v → 1 ≤ v.1 ∧ v.1 ≤ 3 := by
    intro j hj w hw
    by_cases hj' : (j : Int) < i
    · exact i6 j hj' w hw
    · have : j = i.toNat := by omega
      subst this
      rw [hv] at hw
      cases hw
      exact hk
   have hgo : Tot (next (a, l, n, i + 1)) (fun r : Sum Unit Int => (∀ y, r = .inl y → ∀ v ∈ x.2.1, 1 ≤ v.1 ∧ v.1 ≤ 3) ∧ ∀ y, r = .inr y → y ≠ 0) :=
    hn _ ⟨by dsimp only; omega, by dsimp only; omega, i2, i3, i4, i5, hstep⟩ (by dsimp only; omega)
   refine uh_.2 ⟨fun _ => uh_.2 ⟨fun _ => ub_.2 ⟨fun y hy => (by cases hy), fun y hy => (by cases hy; decide)⟩, fun _ => hgo⟩, fun _ => ?_⟩
   refine ua_.2 ((usj_ (a.2.1, v.2) (i5 v (uzx_ hv))).mono fun r _ => ?_)
   refine uh_.2 ⟨fun he => ub_.2 ⟨fun y hy => (by cases hy), fun y hy => ?_⟩, fun _ => hgo⟩
   cases hy
   rw [up_] at he
   simpa using he
 · have hc := of_decide_eq_false hc
   rw [← i4] at hv
   obtain ⟨j, hj, hjv⟩ := List.mem_iff_getElem.1 hv
   exact i6 j (by omega) v (by rw [← hjv]; exact List.getElem?_eq_getElem hj)
theorem ubc4_ (x : Str × Int × YY23 × (List Str) × (List Str)) (h : AfB x) : Tot (ul2_ x) (fun r : Int => r = 0 → x.2.2.1.length ≤ 100 ∧ ∀ v ∈ x.2.2.1, 1 ≤ v.1 ∧ v.1 ≤ 3) := by
 unfold ul2_
 refine uh_.2 ⟨fun _ => ub_.2 fun h0 => absurd h0 (by decide), fun hc => ?_⟩
 have hc := of_decide_eq_false hc
 refine ua_.2 ((u5p_ _ ⟨Int.le_refl _, Int.natCast_nonneg _, rfl, by dsimp only; omega, h.2.2.1, fun j hj => by dsimp only at hj; omega⟩).mono fun r hr => ?_)
 rcases r with r | r
 · exact ub_.2 fun _ => ⟨by omega, hr.1 r rfl⟩
 · exact ub_.2 fun h0 => absurd h0 (hr.2 r rfl)
set_option maxHeartbeats 1000000 in
theorem u0s_ (x : Str × Bool × Int × Int) (h : 0 ≤ x.2.2.2 ∧ x.2.2.2 ≤ x.2.2.1 ∧ x.2.2.1 ≤ 281474976710656 ∧ x.2.2.1 = x.1.length ∧ x.2.2.1 ≤ 1048576) : Tot (uji_ x) (fun r : Bool => True) := by
 refine uu_ (R := fun r : Bool => True) (fun y : Str × Bool × Int × Int => (0 ≤ y.2.2.2 ∧ y.2.2.2 ≤ y.2.2.1 ∧ y.2.2.1 ≤ 281474976710656 ∧ y.2.2.1 = y.1.length ∧ y.2.2.1 ≤ 1048576)) (fun y : Str × Bool × Int × Int => (y.2.2.1 - y.2.2.2).toNat) ?_ _ _ (by grind) (by unfold fuel; grind)
 rintro next ⟨s_4, bad_5, t25, t26⟩ h hn
 try dsimp only at h hn
 unfold uro_
 repeat' first
  | with_reducible refine uh_.2 ⟨fun _ => ?_, fun _ => ?_⟩
  | with_reducible refine ua_.2 ?_
  | with_reducible refine ub_.2 ?_
  | with_reducible refine u2_.2 ⟨?_, fun _ _ => ?_⟩
  | with_reducible refine hn _ ?_ ?_
  | dsimp only
 all_goals grind [um_, ug_, ud_, ux_, up_, u0_, uz_, u8le, ui_, ue_, uv_, us_, uy_, List.length_cons, List.length_nil, List.mem_of_mem_take, List.mem_of_mem_drop]
theorem u0t_ (x : (List Str) × (List Str) × Int × Int) (h : 0 ≤ x.2.2.2 ∧ x.2.2.2 ≤ x.2.2.1 ∧ x.2.2.1 = x.2.1.length ∧ x.2.2.1 ≤ 281474976710656 ∧ x.1 = x.2.1 ∧ ∀ s ∈ x.2.1, s.length ≤ 1048576) : Tot (ujj_ x) (fun r : Sum (Unit) (Int) => ∀ y, r = .inr y → y ≠ 0) := by
 refine uu_ (R := fun r : Sum Unit Int => ∀ y, r = .inr y → y ≠ 0)
  (fun y : (List Str) × (List Str) × Int × Int => 0 ≤ y.2.2.2 ∧ y.2.2.2 ≤ y.2.2.1 ∧ y.2.2.1 = y.2.1.length ∧ y.2.2.1 ≤ 281474976710656 ∧ y.1 = y.2.1 ∧ ∀ v ∈ y.2.1, v.length ≤ 1048576)
  (fun y => (y.2.2.1 - y.2.2.2).toNat) ?_ _ _ h (by unfold fuel; have := h.2.2.2.1; omega)
 rintro next ⟨a, l, n, i⟩ hI hn
 dsimp only at hI hn
 obtain ⟨i0, i1, i2, i3, i4, i5⟩ := hI
 subst i4
 unfold urp_
 dsimp only
 refine uh_.2 ⟨fun hc => ?_, fun hc => ub_.2 fun y hy => (by cases hy)⟩
 have hc := of_decide_eq_true hc
 rw [ubj_ (n := i + 1) (by omega) (by omega), ubj_ (by omega) (by omega)]
 refine ua_.2 (u2_.2 ⟨⟨i0, by omega⟩, fun v hv => ?_⟩)
 have hvl := i5 v (uzx_ hv)
 refine ua_.2 ((u0s_ _ ⟨Int.le_refl _, Int.natCast_nonneg _, by dsimp only; omega, rfl, by dsimp only; omega⟩).mono fun r _ => ?_)
 refine uh_.2 ⟨fun _ => ub_.2 fun y hy => (by cases hy; decide), fun _ => ?_⟩
 refine ua_.2 (Tot.mono (P := fun _ => True) (uh_.2 ⟨fun hz => ?_, fun _ => ub_.2 trivial⟩) fun y7 _ => ?_)
 · have hz := of_decide_eq_true hz
   exact u2_.2 ⟨⟨by omega, by omega⟩, fun _ _ => trivial⟩
 · refine uh_.2 ⟨fun _ => ub_.2 fun y hy => (by cases hy; decide), fun _ => ?_⟩
   exact hn _ ⟨by dsimp only; omega, by dsimp only; omega, i2, i3, rfl, i5⟩ (by dsimp only; omega)
theorem u5q_ (x : List Str) (h : ∀ s ∈ x, s.length ≤ 1048576) : Tot (uh1_ x) (fun r : Int => True) := by
 unfold uh1_
 repeat' first
  | with_reducible refine uh_.2 ⟨fun _ => ?_, fun _ => ?_⟩
  | with_reducible refine ua_.2 ?_
  | with_reducible refine ub_.2 ?_
  | with_reducible refine (u0t_ _ ?_).mono fun _ _ => ?_
  | split
  | dsimp only
 all_goals grind [um_, ug_, ud_, ux_, up_, u0_, uz_, u8le, ui_, ue_, uv_, us_, uy_, List.length_cons, List.length_nil, List.mem_of_mem_take, List.mem_of_mem_drop]
theorem u2g_ (x : YY5 × (List Str) × Int × Int) (h : 0 ≤ x.2.2.2 ∧ x.2.2.2 ≤ x.2.2.1 ∧ x.2.2.1 = x.2.1.length ∧ x.2.2.1 ≤ 281474976710656 ∧ ∀ s ∈ x.2.1, s.length ≤ 1048576) : Tot (ukj_ x) (fun r : Sum YY5 (Int) => (∀ y, r = .inl y → y = x.1) ∧ ∀ y, r = .inr y → y ≠ 0) := by
 refine uu_ (R := fun r : Sum YY5 (Int) => (∀ y, r = .inl y → y = x.1) ∧ ∀ y, r = .inr y → y ≠ 0) (fun y : YY5 × (List Str) × Int × Int => (0 ≤ y.2.2.2 ∧ y.2.2.2 ≤ y.2.2.1 ∧ y.2.2.1 = y.2.1.length ∧ y.2.2.1 ≤ 281474976710656 ∧ ∀ s ∈ y.2.1, s.length ≤ 1048576) ∧ y.1 = x.1) (fun y : YY5 × (List Str) × Int × Int => (y.2.2.1 - y.2.2.2).toNat) ?_ _ _ (by grind) (by unfold fuel; grind)
 rintro next ⟨a_1, t32, t33, t34⟩ h hn
 try dsimp only at h hn
 unfold utf_
 repeat' first
  | with_reducible refine uh_.2 ⟨fun _ => ?_, fun _ => ?_⟩
  | with_reducible refine ua_.2 ?_
  | with_reducible refine ub_.2 ?_
  | with_reducible refine u2_.2 ⟨?_, fun _ _ => ?_⟩
  | with_reducible refine (usj_ _ ?_).mono fun _ _ => ?_
  | with_reducible refine hn _ ?_ ?_
  | dsimp only
 all_goals grind [um_, ug_, ud_, ux_, up_, u0_, uz_, u8le, ui_, ue_, uv_, us_, uy_, List.length_cons, List.length_nil, List.mem_of_mem_take, List.mem_of_mem_drop]
theorem u8e_ (x : Str × Int × YY23 × (List Str) × (List Str)) (h : AfB x) : Tot (uiu_ x) (fun r : Int => r = 0 → AfK x) := by
 unfold uiu_
 refine ua_.2 ((ubsh_ _ h.1).mono fun r1 _ => ?_)
 refine uh_.2 ⟨fun _ => ub_.2 fun h0 => absurd h0 (by decide), fun _ => ?_⟩
 refine uh_.2 ⟨fun _ => ub_.2 fun h0 => absurd h0 (by decide), fun _ => ?_⟩
 refine ua_.2 ((ubc4_ _ h).mono fun r3 h3 => ?_)
 refine uh_.2 ⟨fun he => ub_.2 fun h0 => ?_, fun he => ?_⟩
 · rw [up_, h0] at he; simp at he
 have h30 : r3 = 0 := by rw [up_] at he; simpa using he
 refine uh_.2 ⟨fun _ => ub_.2 fun h0 => absurd h0 (by decide), fun hc => ?_⟩
 have hc := of_decide_eq_false hc
 refine ua_.2 ((u2g_ _ ⟨Int.le_refl _, Int.natCast_nonneg _, rfl, by dsimp only; omega, h.2.2.2.2.1⟩).mono fun r6 h6 => ?_)
 rcases r6 with y | y
 · have := h6.1 y rfl
   subst this
   exact ua_.2 ((u5q_ _ h.2.2.2.2.2.2).mono fun r8 _ => ub_.2 fun _ => ⟨(h3 h30).1, (h3 h30).2, by omega⟩)
 · exact ub_.2 fun h0 => absurd h0 (h6.2 y rfl)
theorem ubsi_ (x : Unit) (h : True) : Tot (u12_ x) (fun r : List Int => r.length = 4) := by
 unfold u12_
 repeat' first
  | with_reducible refine ub_.2 ?_
  | dsimp only
 all_goals grind [um_, ug_, ud_, ux_, up_, u0_, uz_, u8le, ui_, ue_, uv_, us_, uy_, List.length_cons, List.length_nil, List.mem_of_mem_take, List.mem_of_mem_drop]
theorem u8f_ (x : (Int → Option Str) × (List Int) × (List Int) × Int × Int) (h : 0 ≤ x.2.2.2.2 ∧ x.2.2.2.2 ≤ x.2.2.2.1 ∧ x.2.2.2.1 = x.2.2.1.length ∧ x.2.2.2.1 ≤ 281474976710656 ∧ (∀ n ∈ x.2.2.1, Tot (x.1 n) fun s => s.length ≤ 100) ∧ x.2.2.2.1 ≤ 1002 ∧ x.2.1.length ≤ 100 * x.2.2.2.2) : Tot (uow_ x) (fun r : List Int => r.length ≤ 100200) := by
 refine uu_ (R := fun r : List Int => r.length ≤ 100200) (fun y : (Int → Option Str) × (List Int) × (List Int) × Int × Int => 0 ≤ y.2.2.2.2 ∧ y.2.2.2.2 ≤ y.2.2.2.1 ∧ y.2.2.2.1 = y.2.2.1.length ∧ y.2.2.2.1 ≤ 281474976710656 ∧ (∀ n ∈ y.2.2.1, Tot (y.1 n) fun s => s.length ≤ 100) ∧ y.2.2.2.1 ≤ 1002 ∧ y.2.1.length ≤ 100 * y.2.2.2.2)
  (fun y => (y.2.2.2.1 - y.2.2.2.2).toNat) ?_ _ _ h (by unfold fuel; have := h.2.2.2.1; omega)
 rintro next ⟨f, b, l, n, i⟩ hI hn
 dsimp only at hI hn
 obtain ⟨i0, i1, i2, i3, i4, i5, i6⟩ := hI
 unfold uyu_
 dsimp only
 refine uh_.2 ⟨fun hc => ?_, fun hc => ub_.2 (by omega)⟩
 have hc := of_decide_eq_true hc
 rw [ubj_ (by omega) (by omega)]
 refine ua_.2 (u2_.2 ⟨⟨i0, by omega⟩, fun v hv => ?_⟩)
 refine ua_.2 ((i4 v (uzx_ hv)).mono fun s hs => ?_)
 refine ua_.2 ((ucq_ _ ⟨by dsimp only; omega, by dsimp only; omega⟩).mono fun r3 h3 => ?_)
 dsimp only at h3
 exact hn _ ⟨by dsimp only; omega, by dsimp only; omega, i2, i3, i4, i5, by dsimp only; omega⟩ (by dsimp only; omega)
theorem uw9_ (x : (List Int) × Str × (Int → Option Str)) (h : (∀ n ∈ x.1, Tot (x.2.2 n) fun s => s.length ≤ 100) ∧ x.1.length ≤ 1002 ∧ x.2.1.length ≤ 10) : Tot (uiv_ x) (fun r : Str => r.length ≤ 100210) := by
 obtain ⟨l, e, f⟩ := x
 dsimp only at h ⊢
 unfold uiv_
 obtain ⟨h1, h2, h3⟩ := h
 dsimp only
 refine ua_.2 ((u8f_ _ ⟨Int.le_refl _, Int.natCast_nonneg _, rfl, by dsimp only; omega, h1, by dsimp only; omega, by simp⟩).mono fun r hr => ?_)
 refine ua_.2 ((ub7_ _ trivial).mono fun s hs => ?_)
 exact ua_.2 (ud9_.2 ⟨by omega, ub_.2 (by rw [List.length_append]; omega)⟩)
theorem u2h_ (x : (Str → Option Str) × (List Int) × (List Str) × Int × Int) (h : 0 ≤ x.2.2.2.2 ∧ x.2.2.2.2 ≤ x.2.2.2.1 ∧ x.2.2.2.1 = x.2.2.1.length ∧ x.2.2.2.1 ≤ 281474976710656 ∧ (∀ n ∈ x.2.2.1, Tot (x.1 n) fun s => s.length ≤ 3000) ∧ x.2.2.2.1 ≤ 1002 ∧ x.2.1.length ≤ 3000 * x.2.2.2.2) : Tot (ukk_ x) (fun r : List Int => r.length ≤ 3006000) := by
 refine uu_ (R := fun r : List Int => r.length ≤ 3006000) (fun y : (Str → Option Str) × (List Int) × (List Str) × Int × Int => 0 ≤ y.2.2.2.2 ∧ y.2.2.2.2 ≤ y.2.2.2.1 ∧ y.2.2.2.1 = y.2.2.1.length ∧ y.2.2.2.1 ≤ 281474976710656 ∧ (∀ n ∈ y.2.2.1, Tot (y.1 n) fun s => s.length ≤ 3000) ∧ y.2.2.2.1 ≤ 1002 ∧ y.2.1.length ≤ 3000 * y.2.2.2.2)
  (fun y => (y.2.2.2.1 - y.2.2.2.2).toNat) ?_ _ _ h (by unfold fuel; have := h.2.2.2.1; omega)
 rintro next ⟨f, b, l, n, i⟩ hI hn
 dsimp only at hI hn
 obtain ⟨i0, i1, i2, i3, i4, i5, i6⟩ := hI
 unfold utg_
 dsimp only
 refine uh_.2 ⟨fun hc => ?_, fun hc => ub_.2 (by omega)⟩
 have hc := of_decide_eq_true hc
 rw [ubj_ (by omega) (by omega)]
 refine ua_.2 (u2_.2 ⟨⟨i0, by omega⟩, fun v hv => ?_⟩)
 refine ua_.2 ((i4 v (uzx_ hv)).mono fun s hs => ?_)
 refine ua_.2 ((ucq_ _ ⟨by dsimp only; omega, by dsimp only; omega⟩).mono fun r3 h3 => ?_)
 dsimp only at h3
 exact hn _ ⟨by dsimp only; omega, by dsimp only; omega, i2, i3, i4, i5, by dsimp only; omega⟩ (by dsimp only; omega)
theorem ur3_ (x : (List Str) × Str × (Str → Option Str)) (h : (∀ n ∈ x.1, Tot (x.2.2 n) fun s => s.length ≤ 3000) ∧ x.1.length ≤ 1002 ∧ x.2.1.length ≤ 10) : Tot (ugl_ x) (fun r : Str => r.length ≤ 3006010) := by
 obtain ⟨l, e, f⟩ := x
 dsimp only at h ⊢
 unfold ugl_
 obtain ⟨h1, h2, h3⟩ := h
 dsimp only
 refine ua_.2 ((u2h_ _ ⟨Int.le_refl _, Int.natCast_nonneg _, rfl, by dsimp only; omega, h1, by dsimp only; omega, by simp⟩).mono fun r hr => ?_)
 refine ua_.2 ((ub7_ _ trivial).mono fun s hs => ?_)
 exact ua_.2 (ud9_.2 ⟨by omega, ub_.2 (by rw [List.length_append]; omega)⟩)
theorem ubqd_ (x : Str) (h : x.length ≤ 1000) : Tot (uyf_ x) (fun r : Str => r.length ≤ 3000) := by
 unfold uyf_
 repeat' first
  | with_reducible refine uh_.2 ⟨fun _ => ?_, fun _ => ?_⟩
  | with_reducible refine ua_.2 ?_
  | with_reducible refine ub_.2 ?_
  | with_reducible refine u2_.2 ⟨?_, fun _ _ => ?_⟩
  | with_reducible refine ud9_.2 ⟨?_, ?_⟩
  | with_reducible refine (ub3_ _ ?_).mono fun _ _ => ?_
  | with_reducible refine (ubr_ _ ?_).mono fun _ _ => ?_
  | dsimp only
 all_goals grind [um_, ug_, ud_, ux_, up_, u0_, uz_, u8le, ui_, ue_, uv_, us_, uy_, List.length_cons, List.length_nil, List.mem_of_mem_take, List.mem_of_mem_drop]
theorem uz1_ (x : (List Int) × (List Str)) (h : DOK x) : Tot (ukl_ x) (fun r : Str => r.length ≤ 10000000) := by
 unfold ukl_
 obtain ⟨h1, h2, h3, h4⟩ := h
 refine ua_.2 (uqo_.2 ⟨⟨by omega, by omega, by omega⟩, ?_⟩)
 refine ua_.2 ((uw9_ _ ⟨fun n hn => ua_.2 ((ubr_ n (h2 n (uv_ hn))).mono fun r hr => ub_.2 (by omega)), by dsimp only; rw [us_]; omega, by simp⟩).mono fun r2 hr2 => ?_)
 refine uh_.2 ⟨fun _ => ua_.2 (ud9_.2 ⟨by simp; omega, ub_.2 (by simp; omega)⟩), fun _ => ?_⟩
 refine ua_.2 (ud9_.2 ⟨by simp; omega, ?_⟩)
 refine ua_.2 ((ur3_ _ ⟨fun s hs => ua_.2 ((ubqd_ s (h4 s hs)).mono fun r hr => ub_.2 hr), h3, by simp⟩).mono fun r5 hr5 => ?_)
 exact ua_.2 (ud9_.2 ⟨by simp; omega, ub_.2 (by simp; omega)⟩)
theorem uxa_ (x : Int × Str × Str × Bool) (h : ROK x) : Tot (uiw_ x) (fun r : Str => r.length ≤ 10000000) := by
 unfold uiw_
 repeat' first
  | with_reducible refine ua_.2 ?_
  | with_reducible refine ub_.2 ?_
  | with_reducible refine u2_.2 ⟨?_, fun _ _ => ?_⟩
  | with_reducible refine ud9_.2 ⟨?_, ?_⟩
  | with_reducible refine (ubr_ _ ?_).mono fun _ _ => ?_
  | with_reducible refine (uzz_ _ ?_).mono fun _ _ => ?_
  | with_reducible refine (uv2_ _ ?_).mono fun _ _ => ?_
  | dsimp only
 all_goals grind [um_, ug_, ud_, ux_, up_, u0_, uz_, u8le, ui_, ue_, uv_, us_, uy_, List.length_cons, List.length_nil, List.mem_of_mem_take, List.mem_of_mem_drop]
theorem ubat_ (x : Int) (h : 0 ≤ x ∧ x ≤ 999999999999999999) : Tot (uj3_ x) (fun r : Str => r.length ≤ 100) := by
 unfold uj3_
 repeat' first
  | with_reducible refine ua_.2 ?_
  | with_reducible refine ub_.2 ?_
  | with_reducible refine u2_.2 ⟨?_, fun _ _ => ?_⟩
  | with_reducible refine ud9_.2 ⟨?_, ?_⟩
  | with_reducible refine (ubr_ _ ?_).mono fun _ _ => ?_
  | dsimp only
 all_goals grind [um_, ug_, ud_, ux_, up_, u0_, uz_, u8le, ui_, ue_, uv_, us_, uy_, List.length_cons, List.length_nil, List.mem_of_mem_take, List.mem_of_mem_drop]
theorem ubc5_ (x : Int × (List Int) × Int × Int × Int × Int × (List Str)) (h : 0 ≤ x.2.2.1 ∧ x.2.2.1 ≤ 3) : Tot (ul3_ x) (fun r : Int => 0 ≤ r ∧ r ≤ 4) := by
 unfold ul3_
 repeat' first
  | with_reducible refine uh_.2 ⟨fun _ => ?_, fun _ => ?_⟩
  | with_reducible refine ub_.2 ?_
  | dsimp only
 all_goals grind [um_, ug_, ud_, ux_, up_, u0_, uz_, u8le, ui_, ue_, uv_, us_, uy_, List.length_cons, List.length_nil, List.mem_of_mem_take, List.mem_of_mem_drop]
theorem ubuh_ (x : Int) (h : x ≤ 999999999999999999) : Tot (u5z_ x) (fun r : Str => r.length ≤ 30) := by
 unfold u5z_
 repeat' first
  | with_reducible refine uh_.2 ⟨fun _ => ?_, fun _ => ?_⟩
  | with_reducible refine ua_.2 ?_
  | with_reducible refine ub_.2 ?_
  | with_reducible refine u2_.2 ⟨?_, fun _ _ => ?_⟩
  | with_reducible refine ud9_.2 ⟨?_, ?_⟩
  | with_reducible refine (ubr_ _ ?_).mono fun _ _ => ?_
  | dsimp only
 all_goals grind [um_, ug_, ud_, ux_, up_, u0_, uz_, u8le, ui_, ue_, uv_, us_, uy_, List.length_cons, List.length_nil, List.mem_of_mem_take, List.mem_of_mem_drop]
theorem ubnp_ (x : Str) (h : x.length ≤ 1000) : Tot (uuo_ x) (fun r : Str => r.length ≤ 3000) := by
 unfold uuo_
 repeat' first
  | with_reducible refine uh_.2 ⟨fun _ => ?_, fun _ => ?_⟩
  | with_reducible refine ua_.2 ?_
  | with_reducible refine ub_.2 ?_
  | with_reducible refine u2_.2 ⟨?_, fun _ _ => ?_⟩
  | with_reducible refine ud9_.2 ⟨?_, ?_⟩
  | with_reducible refine (ub3_ _ ?_).mono fun _ _ => ?_
  | with_reducible refine (ubr_ _ ?_).mono fun _ _ => ?_
  | dsimp only
 all_goals grind [um_, ug_, ud_, ux_, up_, u0_, uz_, u8le, ui_, ue_, uv_, us_, uy_, List.length_cons, List.length_nil, List.mem_of_mem_take, List.mem_of_mem_drop]
theorem ubau_ (x : YY9 × Str × Bool) (h : (x.2.2 = true → 0 ≤ x.1.2.2.2.2.2.1 ∧ x.1.2.2.2.2.2.1 ≤ 999999999999999999) ∧ x.2.1.length ≤ 10000000) : Tot (uj4_ x) (fun r : YY9 × Str => r.1 = x.1 ∧ r.2.length ≤ x.2.1.length + 30) := by
 obtain ⟨v_1, s_3, t27⟩ := x
 try dsimp only at h ⊢
 unfold uj4_
 repeat' first
  | with_reducible refine uh_.2 ⟨fun _ => ?_, fun _ => ?_⟩
  | with_reducible refine ua_.2 ?_
  | with_reducible refine ub_.2 ?_
  | with_reducible refine u2_.2 ⟨?_, fun _ _ => ?_⟩
  | with_reducible refine ud9_.2 ⟨?_, ?_⟩
  | with_reducible refine (ubr_ _ ?_).mono fun _ _ => ?_
  | dsimp only
 all_goals grind [um_, ug_, ud_, ux_, up_, u0_, uz_, u8le, ui_, ue_, uv_, us_, uy_, List.length_cons, List.length_nil, List.mem_of_mem_take, List.mem_of_mem_drop]
theorem uz2_ (x : Int × (List Int) × Int × Int × Int × Int × (List Str)) (h : SOK x) : Tot (ukm_ x) (fun r : Str => r.length ≤ 10000000) := by
 unfold ukm_
 obtain ⟨h1, h2, h3, h4, h5, h6, h7⟩ := h
 refine ua_.2 ((ubr_ _ h1).mono fun r1 g1 => ?_)
 refine ua_.2 ((u64_ _ h2).mono fun r2 g2 => ?_)
 refine ua_.2 ((uw9_ _ ⟨fun n hn => ua_.2 ((ubat_ n (g2.2 n hn)).mono fun r hr => ub_.2 hr), g2.1, by simp⟩).mono fun r3 g3 => ?_)
 refine ua_.2 (ud9_.2 ⟨by omega, ?_⟩)
 refine ua_.2 ((ubc5_ _ h3).mono fun r5 g5 => ?_)
 refine ua_.2 ((ubi_ _ trivial).mono fun r6 g6 => ?_)
 refine ua_.2 ((ubr_ _ h4).mono fun r7 g7 => ?_)
 refine ua_.2 (ud9_.2 ⟨by omega, ?_⟩)
 refine ua_.2 ((ubuh_ _ h5.2).mono fun r9 g9 => ?_)
 refine ua_.2 (ud9_.2 ⟨by rw [List.length_append]; omega, ?_⟩)
 refine ua_.2 (ud9_.2 ⟨by simp only [List.length_append]; omega, ?_⟩)
 refine ua_.2 ((ubau_ _ ⟨fun he => ⟨of_decide_eq_true he, h6.2⟩, by simp only [List.length_append]; omega⟩).mono fun r16 g16 => ?_)
 simp only [List.length_append] at g16
 refine uh_.2 ⟨fun _ => ua_.2 (ud9_.2 ⟨by simp; omega, ub_.2 (by simp; omega)⟩), fun _ => ?_⟩
 refine ua_.2 (ud9_.2 ⟨by simp; omega, ?_⟩)
 refine ua_.2 ((ur3_ _ ⟨fun s hs => ua_.2 ((ubnp_ s (h7.2 s (by rw [g16.1] at hs; exact hs))).mono fun r hr => ub_.2 hr), by dsimp only; rw [g16.1]; exact h7.1, by simp⟩).mono fun r19 g19 => ?_)
 exact ua_.2 (ud9_.2 ⟨by simp; omega, ub_.2 (by simp; omega)⟩)
theorem ubea_ (x : Unit) (h : True) : Tot (uyv_ x) (fun r : List Str => r.length = 5) := by
 unfold uyv_
 repeat' first
  | with_reducible refine ub_.2 ?_
  | dsimp only
 all_goals grind [um_, ug_, ud_, ux_, up_, u0_, uz_, u8le, ui_, ue_, uv_, us_, uy_, List.length_cons, List.length_nil, List.mem_of_mem_take, List.mem_of_mem_drop]
theorem u8g_ (x : (List Str) × Str × Int × Int) (h : 0 ≤ x.2.2.2 ∧ x.2.2.2 ≤ x.2.2.1 ∧ x.2.2.1 = x.1.length ∧ x.2.2.1 ≤ 281474976710656) : Tot (uox_ x) (fun r : Sum (Unit) (Int) => ∀ y, r = .inr y → 0 ≤ y ∧ y < x.1.length) := by
 refine uu_ (R := fun r : Sum (Unit) (Int) => ∀ y, r = .inr y → 0 ≤ y ∧ y < x.1.length) (fun y : (List Str) × Str × Int × Int => (0 ≤ y.2.2.2 ∧ y.2.2.2 ≤ y.2.2.1 ∧ y.2.2.1 = y.1.length ∧ y.2.2.1 ≤ 281474976710656) ∧ y.1 = x.1) (fun y : (List Str) × Str × Int × Int => (y.2.2.1 - y.2.2.2).toNat) ?_ _ _ (by grind) (by unfold fuel; grind)
 rintro next ⟨s_0, v_1, t7, t8⟩ h hn
 try dsimp only at h hn
 unfold uyw_
 repeat' first
  | with_reducible refine uh_.2 ⟨fun _ => ?_, fun _ => ?_⟩
  | with_reducible refine ua_.2 ?_
  | with_reducible refine ub_.2 ?_
  | with_reducible refine u2_.2 ⟨?_, fun _ _ => ?_⟩
  | with_reducible refine hn _ ?_ ?_
  | dsimp only
 all_goals grind [um_, ug_, ud_, ux_, up_, u0_, uz_, u8le, ui_, ue_, uv_, us_, uy_, List.length_cons, List.length_nil, List.mem_of_mem_take, List.mem_of_mem_drop]
theorem uxb_ (x : (List Str) × Str) (h : x.1.length ≤ 1048576) : Tot (uix_ x) (fun r : Int => -1 ≤ r ∧ r < x.1.length) := by
 obtain ⟨s_0, v_1⟩ := x
 try dsimp only at h ⊢
 unfold uix_
 repeat' first
  | with_reducible refine ua_.2 ?_
  | with_reducible refine ub_.2 ?_
  | with_reducible refine (u8g_ _ ?_).mono fun _ _ => ?_
  | split
  | dsimp only
 all_goals grind [um_, ug_, ud_, ux_, up_, u0_, uz_, u8le, ui_, ue_, uv_, us_, uy_, List.length_cons, List.length_nil, List.mem_of_mem_take, List.mem_of_mem_drop]
theorem u8h_ (x : (List Str) × Str) (h : x.1.length ≤ 1048576) : Tot (uiy_ x) (fun r : Bool => True) := by
 obtain ⟨s_0, v_1⟩ := x
 try dsimp only at h ⊢
 unfold uiy_
 repeat' first
  | with_reducible refine ua_.2 ?_
  | with_reducible refine ub_.2 ?_
  | with_reducible refine (uxb_ _ ?_).mono fun _ _ => ?_
  | dsimp only
 all_goals grind [um_, ug_, ud_, ux_, up_, u0_, uz_, u8le, ui_, ue_, uv_, us_, uy_, List.length_cons, List.length_nil, List.mem_of_mem_take, List.mem_of_mem_drop]
theorem uv5_ (x : Bool × Str × Int) (h : True) : Tot (uhq_ x) (fun r : Bool => True) := by
 unfold uhq_
 repeat' first
  | with_reducible refine uh_.2 ⟨fun _ => ?_, fun _ => ?_⟩
  | with_reducible refine ua_.2 ?_
  | with_reducible refine ub_.2 ?_
  | with_reducible refine (ubea_ _ ?_).mono fun _ _ => ?_
  | with_reducible refine (u8h_ _ ?_).mono fun _ _ => ?_
  | dsimp only
 all_goals grind [um_, ug_, ud_, ux_, up_, u0_, uz_, u8le, ui_, ue_, uv_, us_, uy_, List.length_cons, List.length_nil, List.mem_of_mem_take, List.mem_of_mem_drop]
theorem ubnq_ (x : Bool × Str × Int) (h : x.2.1.length ≤ 5000 ∧ 0 ≤ x.2.2 ∧ x.2.2 ≤ 999999999999999999) : Tot (uoy_ x) (fun r : Str => r.length ≤ 6000) := by
 unfold uoy_
 repeat' first
  | with_reducible refine uh_.2 ⟨fun _ => ?_, fun _ => ?_⟩
  | with_reducible refine ua_.2 ?_
  | with_reducible refine ub_.2 ?_
  | with_reducible refine u2_.2 ⟨?_, fun _ _ => ?_⟩
  | with_reducible refine ud9_.2 ⟨?_, ?_⟩
  | with_reducible refine (ubr_ _ ?_).mono fun _ _ => ?_
  | with_reducible refine (uv5_ _ ?_).mono fun _ _ => ?_
  | with_reducible refine (ubea_ _ ?_).mono fun _ _ => ?_
  | with_reducible refine (uxb_ _ ?_).mono fun _ _ => ?_
  | with_reducible refine (ubi_ _ ?_).mono fun _ _ => ?_
  | dsimp only
 all_goals grind [um_, ug_, ud_, ux_, up_, u0_, uz_, u8le, ui_, ue_, uv_, us_, uy_, List.length_cons, List.length_nil, List.mem_of_mem_take, List.mem_of_mem_drop]
theorem u4h_ (x : Str × Int × (List YY18) × Int × Int) (h : 0 ≤ x.2.2.2.2 ∧ x.2.2.2.2 ≤ x.2.2.2.1 ∧ x.2.2.2.1 = x.2.2.1.length ∧ x.2.2.2.1 ≤ 281474976710656 ∧ x.1.length ≤ 7000 * x.2.2.2.2 ∧ 0 ≤ x.2.1 ∧ x.2.1 ≤ x.2.2.2.2 ∧ x.2.2.2.1 ≤ 1002 ∧ (∀ t ∈ x.2.2.1, t.2.1.length ≤ 5000 ∧ 0 ≤ t.2.2 ∧ t.2.2 ≤ 999999999999999999)) : Tot (ul4_ x) (fun r : Str => r.length ≤ 7014000) := by
 refine uu_ (R := fun r : Str => r.length ≤ 7014000) (fun y : Str × Int × (List YY18) × Int × Int => (0 ≤ y.2.2.2.2 ∧ y.2.2.2.2 ≤ y.2.2.2.1 ∧ y.2.2.2.1 = y.2.2.1.length ∧ y.2.2.2.1 ≤ 281474976710656 ∧ y.1.length ≤ 7000 * y.2.2.2.2 ∧ 0 ≤ y.2.1 ∧ y.2.1 ≤ y.2.2.2.2 ∧ y.2.2.2.1 ≤ 1002 ∧ (∀ t ∈ y.2.2.1, t.2.1.length ≤ 5000 ∧ 0 ≤ t.2.2 ∧ t.2.2 ≤ 999999999999999999))) (fun y : Str × Int × (List YY18) × Int × Int => (y.2.2.2.1 - y.2.2.2.2).toNat) ?_ _ _ (by grind) (by unfold fuel; grind)
 rintro next ⟨s_3, blanks_4, t8, t9, t10⟩ h hn
 try dsimp only at h hn
 unfold uup_
 repeat' first
  | with_reducible refine uh_.2 ⟨fun _ => ?_, fun _ => ?_⟩
  | with_reducible refine ua_.2 ?_
  | with_reducible refine ub_.2 ?_
  | with_reducible refine u2_.2 ⟨?_, fun _ _ => ?_⟩
  | with_reducible refine ud9_.2 ⟨?_, ?_⟩
  | with_reducible refine (un7_ _ ?_).mono fun _ _ => ?_
  | with_reducible refine (uv5_ _ ?_).mono fun _ _ => ?_
  | with_reducible refine (ubi_ _ ?_).mono fun _ _ => ?_
  | with_reducible refine (ubnq_ _ ?_).mono fun _ _ => ?_
  | with_reducible refine hn _ ?_ ?_
  | dsimp only
 all_goals grind [um_, ug_, ud_, ux_, up_, u0_, uz_, u8le, ui_, ue_, uv_, us_, uy_, List.length_cons, List.length_nil, List.mem_of_mem_take, List.mem_of_mem_drop]
theorem ut0_ (x : List YY18) (h : TS x) : Tot (uhb_ x) (fun r : Str => r.length ≤ 10000000) := by
 unfold uhb_
 repeat' first
  | with_reducible refine ua_.2 ?_
  | with_reducible refine ub_.2 ?_
  | with_reducible refine u2_.2 ⟨?_, fun _ _ => ?_⟩
  | with_reducible refine ud9_.2 ⟨?_, ?_⟩
  | with_reducible refine (u4h_ _ ?_).mono fun _ _ => ?_
  | dsimp only
 all_goals grind [um_, ug_, ud_, ux_, up_, u0_, uz_, u8le, ui_, ue_, uv_, us_, uy_, List.length_cons, List.length_nil, List.mem_of_mem_take, List.mem_of_mem_drop]
theorem u1z_ (x : Int) (h : 0 ≤ x ∧ x ≤ 999999999999999999) : Tot (umz_ x) (fun r : Str => r.length ≤ 10000000) := by
 unfold umz_
 repeat' first
  | with_reducible refine ua_.2 ?_
  | with_reducible refine ub_.2 ?_
  | with_reducible refine (ubr_ _ ?_).mono fun _ _ => ?_
  | dsimp only
 all_goals grind [um_, ug_, ud_, ux_, up_, u0_, uz_, u8le, ui_, ue_, uv_, us_, uy_, List.length_cons, List.length_nil, List.mem_of_mem_take, List.mem_of_mem_drop]
theorem ubx9_ (x : Int × Str) (h : x.2.length ≤ 1048576) : Tot (ubiy_ x) (fun r : Str × Int => r.1.length ≤ 10000000) := by
 unfold ubiy_
 refine ua_.2 ((u4f_ _ h).mono fun r1 h1 => ?_)
 refine uh_.2 ⟨fun _ => ub_.2 (by simp), fun he => ?_⟩
 have h0 : r1.2 = 0 := by rw [up_] at he; simpa using he
 have hv := h1 h0
 revert hv
 generalize r1.1 = v
 intro hv
 refine ua_.2 (Tot.mono (P := fun r : Str => r.length ≤ 10000000) ?_ fun r2 hr => ub_.2 hr)
 · rcases v with x | x | x | x | x | x
   · exact ua_.2 ((uz1_ _ hv).mono fun _ h => ub_.2 (by omega))
   · exact ua_.2 ((uxa_ _ hv).mono fun _ h => ub_.2 (by omega))
   · exact ua_.2 ((uz2_ _ hv).mono fun _ h => ub_.2 (by omega))
   · exact ua_.2 ((ut0_ _ hv).mono fun _ h => ub_.2 (by omega))
   · exact ua_.2 ((u1z_ _ hv).mono fun _ h => ub_.2 (by omega))
   · exact hv.elim
theorem ubui_ (x : Int × (List Int) × Int × Int) (h : 0 ≤ x.2.2.2 ∧ x.2.2.2 ≤ x.2.2.1 ∧ x.2.2.1 = x.2.1.length ∧ x.2.2.1 ≤ 281474976710656) : Tot (ubf4_ x) (fun r : Sum (Unit) (Int) => True) := by
 refine uu_ (R := fun r : Sum (Unit) (Int) => True) (fun y : Int × (List Int) × Int × Int => (0 ≤ y.2.2.2 ∧ y.2.2.2 ≤ y.2.2.1 ∧ y.2.2.1 = y.2.1.length ∧ y.2.2.1 ≤ 281474976710656)) (fun y : Int × (List Int) × Int × Int => (y.2.2.1 - y.2.2.2).toNat) ?_ _ _ (by grind) (by unfold fuel; grind)
 rintro next ⟨zero_3, t6, t7, t8⟩ h hn
 try dsimp only at h hn
 unfold ubss_
 repeat' first
  | with_reducible refine uh_.2 ⟨fun _ => ?_, fun _ => ?_⟩
  | with_reducible refine ua_.2 ?_
  | with_reducible refine ub_.2 ?_
  | with_reducible refine u2_.2 ⟨?_, fun _ _ => ?_⟩
  | with_reducible refine hn _ ?_ ?_
  | dsimp only
 all_goals grind [um_, ug_, ud_, ux_, up_, u0_, uz_, u8le, ui_, ue_, uv_, us_, uy_, List.length_cons, List.length_nil, List.mem_of_mem_take, List.mem_of_mem_drop]
theorem ub0f_ (x : List Int) (h : x.length ≤ 1048576) : Tot (uboh_ x) (fun r : Int => True) := by
 unfold uboh_
 repeat' first
  | with_reducible refine ua_.2 ?_
  | with_reducible refine ub_.2 ?_
  | with_reducible refine (ubui_ _ ?_).mono fun _ _ => ?_
  | split
  | dsimp only
 all_goals grind [um_, ug_, ud_, ux_, up_, u0_, uz_, u8le, ui_, ue_, uv_, us_, uy_, List.length_cons, List.length_nil, List.mem_of_mem_take, List.mem_of_mem_drop]
theorem ubfr_ (x : YY2 × YY2) (h : True) : Tot (uoc_ x) (fun r : Int => True) := by
 obtain ⟨x_0, y_1⟩ := x
 try dsimp only at h ⊢
 unfold uoc_
 repeat' first
  | with_reducible refine ua_.2 ?_
  | with_reducible refine ub_.2 ?_
  | with_reducible refine (uz0_ _ ?_).mono fun _ _ => ?_
  | with_reducible refine (ubp9_ _ ?_).mono fun _ _ => ?_
  | with_reducible refine (ub0f_ _ ?_).mono fun _ _ => ?_
  | dsimp only
 all_goals grind [um_, ug_, ud_, ux_, up_, u0_, uz_, u8le, ui_, ue_, uv_, us_, uy_, List.length_cons, List.length_nil, List.mem_of_mem_take, List.mem_of_mem_drop]
theorem ubfs_ (x : YY5 × (List YY2) × YY23 × Int × Int) (h : 0 ≤ x.2.2.2.2 ∧ x.2.2.2.2 ≤ x.2.2.2.1 ∧ x.2.2.2.1 = x.2.2.1.length ∧ x.2.2.2.1 ≤ 281474976710656 ∧ x.2.1.length ≤ x.2.2.2.2 ∧ (∀ m ∈ x.2.1, m.2.2.1.length ≤ 100) ∧ (∀ v ∈ x.2.2.1, v.2.length ≤ 1048576 ∧ 1 ≤ v.1 ∧ v.1 ≤ 3) ∧ x.2.2.2.1 ≤ 100) : Tot (uuq_ x) (fun r : List YY2 => r.length ≤ 100 ∧ ∀ m ∈ r, m.2.2.1.length ≤ 100) := by
 refine uu_ (R := fun r : List YY2 => r.length ≤ 100 ∧ ∀ m ∈ r, m.2.2.1.length ≤ 100) (fun y : YY5 × (List YY2) × YY23 × Int × Int => (0 ≤ y.2.2.2.2 ∧ y.2.2.2.2 ≤ y.2.2.2.1 ∧ y.2.2.2.1 = y.2.2.1.length ∧ y.2.2.2.1 ≤ 281474976710656 ∧ y.2.1.length ≤ y.2.2.2.2 ∧ (∀ m ∈ y.2.1, m.2.2.1.length ≤ 100) ∧ (∀ v ∈ y.2.2.1, v.2.length ≤ 1048576 ∧ 1 ≤ v.1 ∧ v.1 ≤ 3) ∧ y.2.2.2.1 ≤ 100)) (fun y : YY5 × (List YY2) × YY23 × Int × Int => (y.2.2.2.1 - y.2.2.2.2).toNat) ?_ _ _ (by grind) (by unfold fuel; grind)
 rintro next ⟨a_1, out_3, t8, t9, t10⟩ h hn
 try dsimp only at h hn
 unfold u51_
 repeat' first
  | with_reducible refine uh_.2 ⟨fun _ => ?_, fun _ => ?_⟩
  | with_reducible refine ua_.2 ?_
  | with_reducible refine ub_.2 ?_
  | with_reducible refine u2_.2 ⟨?_, fun _ _ => ?_⟩
  | with_reducible refine ulb_.2 ⟨?_, ?_⟩
  | with_reducible refine (ubsi_ _ ?_).mono fun _ _ => ?_
  | with_reducible refine (ubx9_ _ ?_).mono fun _ _ => ?_
  | with_reducible refine (usj_ _ ?_).mono fun _ _ => ?_
  | with_reducible refine hn _ ?_ ?_
  | dsimp only
 all_goals grind [um_, ug_, ud_, ux_, up_, u0_, uz_, u8le, ui_, ue_, uv_, us_, uy_, List.length_cons, List.length_nil, List.mem_of_mem_take, List.mem_of_mem_drop]
theorem ubnr_ (x : Str × Int × YY23 × (List Str) × (List Str)) (h : AfB x ∧ AfK x) : Tot (uur_ x) (fun r : List YY2 => r.length ≤ 100 ∧ ∀ m ∈ r, m.2.2.1.length ≤ 100) := by
 unfold uur_
 obtain ⟨h1, h2, h3, h4⟩ := h
 refine ua_.2 ((ubfs_ _ ⟨Int.le_refl _, Int.natCast_nonneg _, rfl, by dsimp only; omega, by simp, by simp, fun v hv => ⟨h1.2.2.1 v hv, h3 v hv⟩, by dsimp only; omega⟩).mono fun r hr => ?_)
 refine ua_.2 ((uon_ _ ⟨fun c => clo (ubfr_ c trivial), by dsimp only; omega⟩).mono fun r2 hr2 => ub_.2 ?_)
 dsimp only at hr2
 exact ⟨by omega, fun m hm => hr.2 m (hr2.2 m hm)⟩
theorem ubk1_ (x : (List YY4) × Bool × YY25 × (List YY2) × Int × Int) (h : 0 ≤ x.2.2.2.2.2 ∧ x.2.2.2.2.2 ≤ x.2.2.2.2.1 ∧ x.2.2.2.2.1 = x.2.2.2.1.length ∧ x.2.2.2.2.1 ≤ 281474976710656 ∧ x.1.length ≤ x.2.2.2.2.2 ∧ (∀ s ∈ x.1, SpB s) ∧ x.2.2.1.2.2.length ≤ 100 ∧ x.2.2.2.2.1 ≤ 100 ∧ ∀ m ∈ x.2.2.2.1, m.2.2.1.length ≤ 100) : Tot (uz7_ x) (fun r : (List YY4) × Bool × YY25 => r.1.length ≤ 100 ∧ (∀ s ∈ r.1, SpB s) ∧ r.2.2.2.2.length ≤ 100) := by
 refine uu_ (R := fun r : (List YY4) × Bool × YY25 => r.1.length ≤ 100 ∧ (∀ s ∈ r.1, SpB s) ∧ r.2.2.2.2.length ≤ 100) (fun y : (List YY4) × Bool × YY25 × (List YY2) × Int × Int => (0 ≤ y.2.2.2.2.2 ∧ y.2.2.2.2.2 ≤ y.2.2.2.2.1 ∧ y.2.2.2.2.1 = y.2.2.2.1.length ∧ y.2.2.2.2.1 ≤ 281474976710656 ∧ y.1.length ≤ y.2.2.2.2.2 ∧ (∀ s ∈ y.1, SpB s) ∧ y.2.2.1.2.2.length ≤ 100 ∧ y.2.2.2.2.1 ≤ 100 ∧ ∀ m ∈ y.2.2.2.1, m.2.2.1.length ≤ 100)) (fun y : (List YY4) × Bool × YY25 × (List YY2) × Int × Int => (y.2.2.2.2.1 - y.2.2.2.2.2).toNat) ?_ _ _ (by grind) (by unfold fuel; grind)
 rintro next ⟨out_3, on_4, low_5, t15, t16, t17⟩ h hn
 try dsimp only at h hn
 unfold ubc9_
 repeat' first
  | with_reducible refine uh_.2 ⟨fun _ => ?_, fun _ => ?_⟩
  | with_reducible refine ua_.2 ?_
  | with_reducible refine ub_.2 ?_
  | with_reducible refine u2_.2 ⟨?_, fun _ _ => ?_⟩
  | with_reducible refine ulb_.2 ⟨?_, ?_⟩
  | with_reducible refine hn _ ?_ ?_
  | dsimp only
 all_goals grind [um_, ug_, ud_, ux_, up_, u0_, uz_, u8le, ui_, ue_, uv_, us_, uy_, List.length_cons, List.length_nil, List.mem_of_mem_take, List.mem_of_mem_drop]
theorem ubk2_ (x : (List YY4) × YY25 × Bool) (h : x.1.length ≤ 100 ∧ (∀ s ∈ x.1, SpB s) ∧ x.2.1.2.2.length ≤ 100) : Tot (usa_ x) (fun r : List YY4 => r.length ≤ 101 ∧ (∀ s ∈ r, SpB s)) := by
 obtain ⟨out_3, low_5, t56⟩ := x
 try dsimp only at h ⊢
 unfold usa_
 repeat' first
  | with_reducible refine uh_.2 ⟨fun _ => ?_, fun _ => ?_⟩
  | with_reducible refine ua_.2 ?_
  | with_reducible refine ub_.2 ?_
  | with_reducible refine ulb_.2 ⟨?_, ?_⟩
  | dsimp only
 all_goals grind [um_, ug_, ud_, ux_, up_, u0_, uz_, u8le, ui_, ue_, uv_, us_, uy_, List.length_cons, List.length_nil, List.mem_of_mem_take, List.mem_of_mem_drop]
theorem ubk3_ (x : YY5 × (List YY4) × (List Str) × Int × Int) (h : 0 ≤ x.2.2.2.2 ∧ x.2.2.2.2 ≤ x.2.2.2.1 ∧ x.2.2.2.1 = x.2.2.1.length ∧ x.2.2.2.1 ≤ 281474976710656 ∧ x.2.1.length ≤ 101 + x.2.2.2.2 ∧ (∀ s ∈ x.2.1, SpB s) ∧ x.2.2.2.1 ≤ 500 ∧ ∀ m ∈ x.2.2.1, m.length ≤ 1048576) : Tot (uz8_ x) (fun r : List YY4 => r.length ≤ 601 ∧ (∀ s ∈ r, SpB s)) := by
 refine uu_ (R := fun r : List YY4 => r.length ≤ 601 ∧ (∀ s ∈ r, SpB s)) (fun y : YY5 × (List YY4) × (List Str) × Int × Int => (0 ≤ y.2.2.2.2 ∧ y.2.2.2.2 ≤ y.2.2.2.1 ∧ y.2.2.2.1 = y.2.2.1.length ∧ y.2.2.2.1 ≤ 281474976710656 ∧ y.2.1.length ≤ 101 + y.2.2.2.2 ∧ (∀ s ∈ y.2.1, SpB s) ∧ y.2.2.2.1 ≤ 500 ∧ ∀ m ∈ y.2.2.1, m.length ≤ 1048576)) (fun y : YY5 × (List YY4) × (List Str) × Int × Int => (y.2.2.2.1 - y.2.2.2.2).toNat) ?_ _ _ (by grind) (by unfold fuel; grind)
 rintro next ⟨a_1, out_3, t63, t64, t65⟩ h hn
 try dsimp only at h hn
 unfold ubda_
 repeat' first
  | with_reducible refine uh_.2 ⟨fun _ => ?_, fun _ => ?_⟩
  | with_reducible refine ua_.2 ?_
  | with_reducible refine ub_.2 ?_
  | with_reducible refine u2_.2 ⟨?_, fun _ _ => ?_⟩
  | with_reducible refine ulb_.2 ⟨?_, ?_⟩
  | with_reducible refine (usj_ _ ?_).mono fun _ _ => ?_
  | with_reducible refine hn _ ?_ ?_
  | dsimp only
 all_goals grind [um_, ug_, ud_, ux_, up_, u0_, uz_, u8le, ui_, ue_, uv_, us_, uy_, List.length_cons, List.length_nil, List.mem_of_mem_take, List.mem_of_mem_drop]
theorem ubsj_ (x : Str × Int × YY23 × (List Str) × (List Str)) (h : AfB x ∧ AfK x) : Tot (u13_ x) (fun r : List YY4 => r.length ≤ 601 ∧ (∀ s ∈ r, SpB s)) := by
 unfold u13_
 refine ua_.2 ((ubnr_ _ h).mono fun r hr => ?_)
 obtain ⟨h1, h2, h3, h4⟩ := h
 refine ua_.2 ((ubk1_ _ ⟨Int.le_refl _, Int.natCast_nonneg _, rfl, by dsimp only; omega, by simp, by simp, by simp, by dsimp only; omega, hr.2⟩).mono fun r5 h5 => ?_)
 refine ua_.2 ((ubk2_ _ h5).mono fun r8 h8 => ?_)
 exact ua_.2 ((ubk3_ _ ⟨Int.le_refl _, Int.natCast_nonneg _, rfl, by dsimp only; omega, by dsimp only; omega, h8.2, by dsimp only; omega, h1.2.2.2.2.1⟩).mono fun r13 h13 => ub_.2 h13)
theorem ubio_ (x : Int × YY25) (h : x.2.2.2.length ≤ 1048576) : Tot (ukn_ x) (fun r : Str × Int => True) := by
 unfold ukn_
 refine uh_.2 ⟨fun _ => uh_.2 ⟨fun _ => ub_.2 trivial, fun _ => ub_.2 trivial⟩, fun _ => ?_⟩
 refine ua_.2 ((u4f_ _ h).mono fun r1 h1 => ?_)
 refine uh_.2 ⟨fun _ => ub_.2 trivial, fun he => ?_⟩
 have h0 : r1.2 = 0 := by rw [up_] at he; simpa using he
 have hv := h1 h0
 revert hv
 generalize r1.1 = v
 intro hv
 refine ua_.2 (Tot.mono (P := fun r : Str => r.length ≤ 10000000) ?_ fun r2 hr => ?_)
 · rcases v with x | x | x | x | x | x
   · exact ua_.2 ((uv1_ _ hv).mono fun _ h => ub_.2 (by omega))
   · exact ua_.2 ((utz_ _ hv).mono fun _ h => ub_.2 (by omega))
   · exact ua_.2 ((uv3_ _ hv).mono fun _ h => ub_.2 (by omega))
   · exact ua_.2 ((uqp_ _ hv).mono fun _ h => ub_.2 (by omega))
   · exact ua_.2 ((uw8_ _ trivial).mono fun _ h => ub_.2 (by omega))
   · exact hv.elim
 refine uh_.2 ⟨fun _ => ub_.2 trivial, fun _ => ?_⟩
 refine ua_.2 (Tot.mono (P := fun r : Str => r.length ≤ 10000000) ?_ fun r2 hr => ub_.2 trivial)
 · rcases v with x | x | x | x | x | x
   · exact ua_.2 ((uz1_ _ hv).mono fun _ h => ub_.2 (by omega))
   · exact ua_.2 ((uxa_ _ hv).mono fun _ h => ub_.2 (by omega))
   · exact ua_.2 ((uz2_ _ hv).mono fun _ h => ub_.2 (by omega))
   · exact ua_.2 ((ut0_ _ hv).mono fun _ h => ub_.2 (by omega))
   · exact ua_.2 ((u1z_ _ hv).mono fun _ h => ub_.2 (by omega))
   · exact hv.elim
theorem ubqe_ (x : YY25 × Str) (h : x.1.2.2.length ≤ 100) : Tot (uyg_ x) (fun r : Int × Str × Bool × Str => r.2.2.2.length ≤ 100) := by
 obtain ⟨b_0, key_1⟩ := x
 try dsimp only at h ⊢
 unfold uyg_
 repeat' first
  | with_reducible refine uh_.2 ⟨fun _ => ?_, fun _ => ?_⟩
  | with_reducible refine ub_.2 ?_
  | dsimp only
 all_goals grind [um_, ug_, ud_, ux_, up_, u0_, uz_, u8le, ui_, ue_, uv_, us_, uy_, List.length_cons, List.length_nil, List.mem_of_mem_take, List.mem_of_mem_drop]
theorem ubns_ (x : YY25 × Str) (h : x.1.2.2.length ≤ 100) : Tot (uus_ x) (fun r : Int × Str × Bool × Str => r.2.2.2.length ≤ 100) := by
 obtain ⟨b_0, key_1⟩ := x
 try dsimp only at h ⊢
 unfold uus_
 repeat' first
  | with_reducible refine uh_.2 ⟨fun _ => ?_, fun _ => ?_⟩
  | with_reducible refine ub_.2 ?_
  | dsimp only
 all_goals grind [um_, ug_, ud_, ux_, up_, u0_, uz_, u8le, ui_, ue_, uv_, us_, uy_, List.length_cons, List.length_nil, List.mem_of_mem_take, List.mem_of_mem_drop]
theorem u5r_ (x : YY7 × Int × Bool) (h : x.1.1.2.2.2.length ≤ 100 ∧ x.2.1 = 0) : Tot (uh2_ x) (fun r : YY7 × Int => r.1 = x.1 ∧ 0 ≤ r.2 ∧ r.2 ≤ 1000000000000000000) := by
 obtain ⟨s_1, first_5, t10⟩ := x
 try dsimp only at h ⊢
 unfold uh2_
 repeat' first
  | with_reducible refine uh_.2 ⟨fun _ => ?_, fun _ => ?_⟩
  | with_reducible refine ua_.2 ?_
  | with_reducible refine ub_.2 ?_
  | with_reducible refine (ub3_ _ ?_).mono fun _ _ => ?_
  | dsimp only
 all_goals grind [um_, ug_, ud_, ux_, up_, u0_, uz_, u8le, ui_, ue_, uv_, us_, uy_, List.length_cons, List.length_nil, List.mem_of_mem_take, List.mem_of_mem_drop]
set_option maxHeartbeats 1000000 in
theorem ubc6_ (x : YY31 × YY31) (h : x.1.2.2.2.length ≤ 100 ∧ x.2.2.2.2.length ≤ 100) : Tot (ul5_ x) (fun r : Int × Int × Bool => 0 ≤ r.1 ∧ r.2.1 ≤ 999999999999999999 ∧ (r.2.2 = true → r.1 ≤ r.2.1)) := by
 unfold ul5_
 repeat' first
  | with_reducible refine uh_.2 ⟨fun _ => ?_, fun _ => ?_⟩
  | with_reducible refine ua_.2 ?_
  | with_reducible refine ub_.2 ?_
  | with_reducible refine (u5r_ _ ?_).mono fun _ _ => ?_
  | with_reducible refine (ub3_ _ ?_).mono fun _ _ => ?_
  | dsimp only
 all_goals grind [um_, ug_, ud_, ux_, up_, u0_, uz_, u8le, ui_, ue_, uv_, us_, uy_, List.length_cons, List.length_nil, List.mem_of_mem_take, List.mem_of_mem_drop]
theorem ubk4_ (x : Int × YY31 × Bool) (h : 0 ≤ x.1 ∧ x.1 ≤ 999999999999999999 ∧ x.2.1.2.2.2.length ≤ 100) : Tot (usb_ x) (fun r : Int × Str × Bool × Str => r.2.2.2.length ≤ 100) := by
 obtain ⟨last_8, high_10, t27⟩ := x
 try dsimp only at h ⊢
 unfold usb_
 repeat' first
  | with_reducible refine uh_.2 ⟨fun _ => ?_, fun _ => ?_⟩
  | with_reducible refine ua_.2 ?_
  | with_reducible refine ub_.2 ?_
  | with_reducible refine (ubr_ _ ?_).mono fun _ _ => ?_
  | with_reducible refine (ubi_ _ ?_).mono fun _ _ => ?_
  | dsimp only
 all_goals grind [um_, ug_, ud_, ux_, up_, u0_, uz_, u8le, ui_, ue_, uv_, us_, uy_, List.length_cons, List.length_nil, List.mem_of_mem_take, List.mem_of_mem_drop]
theorem ubk5_ (x : (List YY7) × Int × (List YY7) × Int × Int) (h : 0 ≤ x.2.2.2.2 ∧ x.2.2.2.2 ≤ x.2.2.2.1 ∧ x.2.2.2.1 = x.2.2.1.length ∧ x.2.2.2.1 ≤ 281474976710656 ∧ x.1.length ≤ x.2.2.2.2 ∧ (∀ s ∈ x.1, StB s) ∧ (∀ s ∈ x.2.2.1, StB s) ∧ x.2.2.2.1 ≤ 1048576 ∧ -2 ≤ x.2.1 ∧ x.2.1 ≤ 999999999999999999) : Tot (uz9_ x) (fun r : List YY7 => r.length ≤ 1048576 ∧ ∀ s ∈ r, StB s) := by
 refine uu_ (R := fun r : List ubii_ => r.length ≤ 1048576 ∧ ∀ s ∈ r, StB s) (fun y : (List ubii_) × Int × (List ubii_) × Int × Int => 0 ≤ y.2.2.2.2 ∧ y.2.2.2.2 ≤ y.2.2.2.1 ∧ y.2.2.2.1 = y.2.2.1.length ∧ y.2.2.2.1 ≤ 281474976710656 ∧ y.1.length ≤ y.2.2.2.2 ∧ (∀ s ∈ y.1, StB s) ∧ (∀ s ∈ y.2.2.1, StB s) ∧ y.2.2.2.1 ≤ 1048576 ∧ -2 ≤ y.2.1 ∧ y.2.1 ≤ 999999999999999999)
  (fun y => (y.2.2.2.1 - y.2.2.2.2).toNat) ?_ _ _ h (by unfold fuel; have := h.2.2.2.1; omega)
 rintro next ⟨out, e, l, n, i⟩ hI hn
 dsimp only at hI hn
 obtain ⟨i0, i1, i2, i3, i4, i5, i6, i7, i8, i9⟩ := hI
 unfold ubdb_
 dsimp only
 refine uh_.2 ⟨fun hc => ?_, fun hc => ub_.2 ⟨by omega, i5⟩⟩
 have hc := of_decide_eq_true hc
 rw [ubj_ (n := i + 1) (by omega) (by omega), ubj_ (n := e + 1) (by omega) (by omega)]
 refine ua_.2 (u2_.2 ⟨⟨i0, by omega⟩, fun v hv => ?_⟩)
 have hvb := i6 v (uzx_ hv)
 refine ua_.2 ((ubc6_ _ hvb).mono fun r2 h2 => ?_)
 obtain ⟨j1, j2, j3⟩ := h2
 refine uh_.2 ⟨fun _ => hn _ ⟨by dsimp only; omega, by dsimp only; omega, i2, i3, by dsimp only; omega, i5, i6, i7, i8, i9⟩ (by dsimp only; omega), fun hb => ?_⟩
 have hle := j3 (by simpa using hb)
 refine ua_.2 (Tot.mono (P := fun r : Edge => r.2.2.2.length ≤ 100) ((ubk4_ _ ⟨by dsimp only; omega, by dsimp only; omega, by simp⟩)) fun r5 h5 => ?_)
 by_cases hl : (0 : Int) < out.length
 · rw [ubj_ (n := (out.length : Int) - 1) (by omega) (by omega)]
   refine uh_.2 ⟨fun _ => ?_, fun _ => ?_⟩
   · refine ua_.2 (ufp_.2 ⟨⟨by omega, by omega⟩, ?_⟩)
     refine hn _ ⟨by dsimp only; omega, by dsimp only; omega, i2, i3, by dsimp only; rw [List.length_set]; omega, fun s hs => ?_, i6, i7, by dsimp only; omega, by dsimp only; omega⟩ (by dsimp only; omega)
     dsimp only at hs
     rcases ue_ hs with hs | hs
     · exact i5 s hs
     · subst hs
       exact ⟨(i5 _ (ui_ (by omega))).1, h5⟩
   · refine ua_.2 ((ubr_ _ ⟨j1, by omega⟩).mono fun r8 h8 => ?_)
     refine ua_.2 ((ubi_ _ trivial).mono fun r9 h9 => ?_)
     refine ua_.2 (ulb_.2 ⟨by simp only [List.length_cons, List.length_nil]; omega, ?_⟩)
     refine hn _ ⟨by dsimp only; omega, by dsimp only; omega, i2, i3, by dsimp only; rw [List.length_append]; simp only [List.length_cons, List.length_nil]; omega, fun s hs => ?_, i6, i7, by dsimp only; omega, by dsimp only; omega⟩ (by dsimp only; omega)
     dsimp only at hs
     rcases List.mem_append.1 hs with hs | hs
     · exact i5 s hs
     · rw [List.mem_singleton] at hs
       subst hs
       exact ⟨by dsimp only; omega, h5⟩
 · rw [decide_eq_false hl, Bool.false_and]
   simp only [cond_false]
   refine ua_.2 ((ubr_ _ ⟨j1, by omega⟩).mono fun r8 h8 => ?_)
   refine ua_.2 ((ubi_ _ trivial).mono fun r9 h9 => ?_)
   refine ua_.2 (ulb_.2 ⟨by simp only [List.length_cons, List.length_nil]; omega, ?_⟩)
   refine hn _ ⟨by dsimp only; omega, by dsimp only; omega, i2, i3, by dsimp only; rw [List.length_append]; simp only [List.length_cons, List.length_nil]; omega, fun s hs => ?_, i6, i7, by dsimp only; omega, by dsimp only; omega⟩ (by dsimp only; omega)
   dsimp only at hs
   rcases List.mem_append.1 hs with hs | hs
   · exact i5 s hs
   · rw [List.mem_singleton] at hs
     subst hs
     exact ⟨by dsimp only; omega, h5⟩
theorem ubsk_ (x : List YY7) (h : (∀ s ∈ x, StB s) ∧ x.length ≤ 1048576) : Tot (u14_ x) (fun r : List YY7 => r.length ≤ 1048576 ∧ ∀ s ∈ r, StB s) := by
 unfold u14_
 repeat' first
  | with_reducible refine ua_.2 ?_
  | with_reducible refine ub_.2 ?_
  | with_reducible refine (ubk5_ _ ?_).mono fun _ _ => ?_
  | dsimp only
 all_goals grind [um_, ug_, ud_, ux_, up_, u0_, uz_, u8le, ui_, ue_, uv_, us_, uy_, List.length_cons, List.length_nil, List.mem_of_mem_take, List.mem_of_mem_drop]
theorem ubqf_ (x : (List YY7) × Bool) (h : (∀ s ∈ x.1, StB s) ∧ x.1.length ≤ 1048576) : Tot (uyh_ x) (fun r : List YY7 => r.length ≤ 1048576 ∧ ∀ s ∈ r, StB s) := by
 obtain ⟨l_1, t11⟩ := x
 try dsimp only at h ⊢
 unfold uyh_
 repeat' first
  | with_reducible refine uh_.2 ⟨fun _ => ?_, fun _ => ?_⟩
  | with_reducible refine ua_.2 ?_
  | with_reducible refine ub_.2 ?_
  | with_reducible refine (ubsk_ _ ?_).mono fun _ _ => ?_
  | dsimp only
 all_goals grind [um_, ug_, ud_, ux_, up_, u0_, uz_, u8le, ui_, ue_, uv_, us_, uy_, List.length_cons, List.length_nil, List.mem_of_mem_take, List.mem_of_mem_drop]
theorem ubqg_ (x : YY7 × YY4 × Bool) (h : StB x.1 ∧ SpB x.2.1) : Tot (uyi_ x) (fun r : YY7 × YY4 => r.1 = x.1 ∧ SpB r.2) := by
 obtain ⟨s_8, x_9, t29⟩ := x
 try dsimp only at h ⊢
 unfold uyi_
 repeat' first
  | with_reducible refine uh_.2 ⟨fun _ => ?_, fun _ => ?_⟩
  | with_reducible refine ub_.2 ?_
  | dsimp only
 all_goals grind [um_, ug_, ud_, ux_, up_, u0_, uz_, u8le, ui_, ue_, uv_, us_, uy_, List.length_cons, List.length_nil, List.mem_of_mem_take, List.mem_of_mem_drop]
set_option maxHeartbeats 1000000 in
theorem ubqh_ (x : YY14 × (List YY7) × Int × Int) (h : 0 ≤ x.2.2.2 ∧ x.2.2.2 ≤ x.2.2.1 ∧ x.2.2.1 = x.2.1.length ∧ x.2.2.1 ≤ 281474976710656 ∧ x.1.2.length ≤ x.2.2.2 ∧ x.2.2.1 ≤ 200 ∧ (∀ s ∈ x.2.1, StB s) ∧ (∀ s ∈ x.1.2, SpB s)) : Tot (u7b_ x) (fun r : Int × (List YY4) => r.1 = x.1.1 ∧ r.2.length ≤ 200 ∧ ∀ s ∈ r.2, SpB s) := by
 refine uu_ (R := fun r : Int × (List YY4) => r.1 = x.1.1 ∧ r.2.length ≤ 200 ∧ ∀ s ∈ r.2, SpB s) (fun y : YY14 × (List YY7) × Int × Int => (0 ≤ y.2.2.2 ∧ y.2.2.2 ≤ y.2.2.1 ∧ y.2.2.1 = y.2.1.length ∧ y.2.2.1 ≤ 281474976710656 ∧ y.1.2.length ≤ y.2.2.2 ∧ y.2.2.1 ≤ 200 ∧ (∀ s ∈ y.2.1, StB s) ∧ (∀ s ∈ y.1.2, SpB s)) ∧ y.1.1 = x.1.1) (fun y : YY14 × (List YY7) × Int × Int => (y.2.2.1 - y.2.2.2).toNat) ?_ _ _ (by grind) (by unfold fuel; grind)
 rintro next ⟨r_6, t20, t21, t22⟩ h hn
 try dsimp only at h hn
 unfold ublb_
 repeat' first
  | with_reducible refine uh_.2 ⟨fun _ => ?_, fun _ => ?_⟩
  | with_reducible refine ua_.2 ?_
  | with_reducible refine ub_.2 ?_
  | with_reducible refine u2_.2 ⟨?_, fun _ _ => ?_⟩
  | with_reducible refine ulb_.2 ⟨?_, ?_⟩
  | with_reducible refine (ubqg_ _ ?_).mono fun _ _ => ?_
  | with_reducible refine hn _ ?_ ?_
  | dsimp only
 all_goals grind [um_, ug_, ud_, ux_, up_, u0_, uz_, u8le, ui_, ue_, uv_, us_, uy_, List.length_cons, List.length_nil, List.mem_of_mem_take, List.mem_of_mem_drop]
theorem ubw3_ (x : Int × (List YY7)) (h : (∀ s ∈ x.2, StB s) ∧ x.2.length ≤ 1048576) : Tot (uba5_ x) (fun r : YY14 × Int => r.1.2.length ≤ 200 ∧ ∀ s ∈ r.1.2, SpB s) := by
 obtain ⟨kind_0, l_1⟩ := x
 try dsimp only at h ⊢
 unfold uba5_
 repeat' first
  | with_reducible refine uh_.2 ⟨fun _ => ?_, fun _ => ?_⟩
  | with_reducible refine ua_.2 ?_
  | with_reducible refine ub_.2 ?_
  | with_reducible refine (ubqf_ _ ?_).mono fun _ _ => ?_
  | with_reducible refine (ubqh_ _ ?_).mono fun _ _ => ?_
  | dsimp only
 all_goals grind [um_, ug_, ud_, ux_, up_, u0_, uz_, u8le, ui_, ue_, uv_, us_, uy_, List.length_cons, List.length_nil, List.mem_of_mem_take, List.mem_of_mem_drop]
set_option maxHeartbeats 1000000 in
theorem ubnt_ (x : Int × YY14 × (List YY7) × (List YY4) × Int × Int) (h : 0 ≤ x.2.2.2.2.2 ∧ x.2.2.2.2.2 ≤ x.2.2.2.2.1 ∧ x.2.2.2.2.1 = x.2.2.2.1.length ∧ x.2.2.2.2.1 ≤ 281474976710656 ∧ x.2.2.1.length ≤ x.2.2.2.2.2 ∧ (∀ s ∈ x.2.2.1, StB s) ∧ x.2.2.2.2.1 ≤ 1048576 ∧ (∀ s ∈ x.2.2.2.1, SpB s)) : Tot (u2u_ x) (fun r : Sum (YY14 × (List YY7)) (YY14 × Int) => (∀ y, r = .inl y → y.2.length ≤ 1048576 ∧ ∀ s ∈ y.2, StB s) ∧ ∀ y, r = .inr y → y.1.2 = []) := by
 refine uu_ (R := fun r : Sum (YY14 × (List YY7)) (YY14 × Int) => (∀ y, r = .inl y → y.2.length ≤ 1048576 ∧ ∀ s ∈ y.2, StB s) ∧ ∀ y, r = .inr y → y.1.2 = []) (fun y : Int × YY14 × (List YY7) × (List YY4) × Int × Int => (0 ≤ y.2.2.2.2.2 ∧ y.2.2.2.2.2 ≤ y.2.2.2.2.1 ∧ y.2.2.2.2.1 = y.2.2.2.1.length ∧ y.2.2.2.2.1 ≤ 281474976710656 ∧ y.2.2.1.length ≤ y.2.2.2.2.2 ∧ (∀ s ∈ y.2.2.1, StB s) ∧ y.2.2.2.2.1 ≤ 1048576 ∧ (∀ s ∈ y.2.2.2.1, SpB s))) (fun y : Int × YY14 × (List YY7) × (List YY4) × Int × Int => (y.2.2.2.2.1 - y.2.2.2.2.2).toNat) ?_ _ _ (by grind) (by unfold fuel; grind)
 rintro next ⟨kind_0, t4, all_6, t17, t18, t19⟩ h hn
 try dsimp only at h hn
 unfold ubf5_
 repeat' first
  | with_reducible refine uh_.2 ⟨fun _ => ?_, fun _ => ?_⟩
  | with_reducible refine ua_.2 ?_
  | with_reducible refine ub_.2 ?_
  | with_reducible refine u2_.2 ⟨?_, fun _ _ => ?_⟩
  | with_reducible refine ulb_.2 ⟨?_, ?_⟩
  | with_reducible refine (ubio_ _ ?_).mono fun _ _ => ?_
  | with_reducible refine (ubqe_ _ ?_).mono fun _ _ => ?_
  | with_reducible refine (ubns_ _ ?_).mono fun _ _ => ?_
  | with_reducible refine (ups_ _ ?_).mono fun _ _ => ?_
  | with_reducible refine hn _ ?_ ?_
  | dsimp only
 all_goals grind [um_, ug_, ud_, ux_, up_, u0_, uz_, u8le, ui_, ue_, uv_, us_, uy_, List.length_cons, List.length_nil, List.mem_of_mem_take, List.mem_of_mem_drop]
theorem ubnu_ (x : (List YY7) × (List YY7) × Int × Int) (h : 0 ≤ x.2.2.2 ∧ x.2.2.2 ≤ x.2.2.1 ∧ x.2.2.1 = x.2.1.length ∧ x.2.2.1 ≤ 281474976710656 ∧ x.1.length ≤ x.2.2.2 ∧ (∀ s ∈ x.1, StB s) ∧ x.2.2.1 ≤ 1048576 ∧ (∀ s ∈ x.2.1, StB s)) : Tot (u2v_ x) (fun r : List YY7 => r.length ≤ 1048576 ∧ ∀ s ∈ r, StB s) := by
 refine uu_ (R := fun r : List ubii_ => r.length ≤ 1048576 ∧ ∀ s ∈ r, StB s) (fun y : (List ubii_) × (List ubii_) × Int × Int => 0 ≤ y.2.2.2 ∧ y.2.2.2 ≤ y.2.2.1 ∧ y.2.2.1 = y.2.1.length ∧ y.2.2.1 ≤ 281474976710656 ∧ y.1.length ≤ y.2.2.2 ∧ (∀ s ∈ y.1, StB s) ∧ y.2.2.1 ≤ 1048576 ∧ (∀ s ∈ y.2.1, StB s))
  (fun y => (y.2.2.1 - y.2.2.2).toNat) ?_ _ _ h (by unfold fuel; have := h.2.2.2.1; omega)
 rintro next ⟨out, l, n, i⟩ hI hn
 dsimp only at hI hn
 obtain ⟨i0, i1, i2, i3, i4, i5, i6, i7⟩ := hI
 unfold ubf6_
 dsimp only
 refine uh_.2 ⟨fun hc => ?_, fun hc => ub_.2 ⟨by omega, i5⟩⟩
 have hc := of_decide_eq_true hc
 rw [ubj_ (n := i + 1) (by omega) (by omega)]
 refine ua_.2 (ufp_.2 ⟨⟨i0, by omega⟩, ?_⟩)
 have hv := i7 _ (ui_ (l := l) (i := i.toNat) (d := ((0, (([] : Str), (false, ([] : Str)))), (0, (([] : Str), (false, ([] : Str)))))) (by omega))
 generalize l.getD i.toNat ((0, (([] : Str), (false, ([] : Str)))), (0, (([] : Str), (false, ([] : Str))))) = v at hv
 have happ : ∀ (Q : List ubii_ → Prop), Q (out ++ [v]) → Tot (app? 192 out [v]) Q := fun Q hQ => ulb_.2 ⟨by simp only [List.length_cons, List.length_nil]; omega, hQ⟩
 have hgo : Tot (next (out ++ [v], l, n, i + 1)) (fun r : List ubii_ => r.length ≤ 1048576 ∧ ∀ s ∈ r, StB s) := by
  refine hn _ ⟨by dsimp only; omega, by dsimp only; omega, i2, i3, by dsimp only; rw [List.length_append]; simp only [List.length_cons, List.length_nil]; omega, fun s hs => ?_, i6, i7⟩ (by dsimp only; omega)
  dsimp only at hs
  rcases List.mem_append.1 hs with hs | hs
  · exact i5 s hs
  · rw [List.mem_singleton] at hs
    subst hs
    exact hv
 by_cases hl : (out.length : Int) = 0
 · have e : eqI (out.length : Int) 0 = true := by rw [up_]; exact decide_eq_true hl
   rw [e]
   simp only [Bool.not_true, cond_false, Bool.true_or, cond_true]
   refine ua_.2 (ub_.2 (ua_.2 (ub_.2 (ua_.2 (happ _ hgo)))))
 · have e : eqI (out.length : Int) 0 = false := by rw [up_]; exact decide_eq_false hl
   rw [e, ubj_ (n := (out.length : Int) - 1) (by omega) (by omega)]
   simp only [Bool.not_false, cond_true, Bool.false_or]
   refine ua_.2 (ufp_.2 ⟨⟨by omega, by omega⟩, ?_⟩)
   refine ua_.2 ((ups_ _ trivial).mono fun r16 _ => ?_)
   refine uh_.2 ⟨fun _ => ua_.2 (happ _ hgo), fun _ => ?_⟩
   refine ua_.2 (ufp_.2 ⟨⟨by omega, by omega⟩, ?_⟩)
   refine ua_.2 ((ups_ _ trivial).mono fun r21 _ => ?_)
   refine uh_.2 ⟨fun _ => ?_, fun _ => hn _ ⟨by dsimp only; omega, by dsimp only; omega, i2, i3, by dsimp only; omega, i5, i6, i7⟩ (by dsimp only; omega)⟩
   refine ua_.2 (ufp_.2 ⟨⟨by omega, by omega⟩, ?_⟩)
   refine hn _ ⟨by dsimp only; omega, by dsimp only; omega, i2, i3, by dsimp only; rw [List.length_set]; omega, fun s hs => ?_, i6, i7⟩ (by dsimp only; omega)
   dsimp only at hs
   rcases ue_ hs with hs | hs
   · exact i5 s hs
   · subst hs
     exact ⟨(i5 _ (ui_ (by omega))).1, hv.2⟩
theorem ubuj_ (x : Int × (List YY4)) (h : (∀ s ∈ x.2, SpB s) ∧ x.2.length ≤ 1048576) : Tot (u52_ x) (fun r : YY14 × Int => r.1.2.length ≤ 200 ∧ ∀ s ∈ r.1.2, SpB s) := by
 unfold u52_
 obtain ⟨h1, h2⟩ := h
 refine ua_.2 ((ubnt_ _ ⟨Int.le_refl _, Int.natCast_nonneg _, rfl, by dsimp only; omega, by simp, by simp, by dsimp only; omega, h1⟩).mono fun r hr => ?_)
 rcases r with y | y
 · obtain ⟨g1, g2⟩ := hr.1 y rfl
   refine ua_.2 ((ub7y_ y.2).mono fun r13 h13 => ?_)
   have l13 := h13.1.length_eq
   refine ua_.2 ((ubnu_ _ ⟨Int.le_refl _, Int.natCast_nonneg _, rfl, by dsimp only; omega, by simp, by simp, by dsimp only; omega, fun s hs => g2 s (h13.1.mem_iff.1 hs)⟩).mono fun r23 h23 => ?_)
   exact ua_.2 ((ubw3_ _ ⟨h23.2, h23.1⟩).mono fun r24 h24 => ub_.2 h24)
 · have := hr.2 y rfl
   refine ub_.2 ?_
   dsimp only
   rw [this]
   simp
theorem ubnv_ (x : Str × Int × YY23 × (List Str) × (List Str)) (h : AfB x) : Tot (uut_ x) (fun r : YY14 × Int => r.1.2.length ≤ 200 ∧ (∀ s ∈ r.1.2, SpB s)) := by
 unfold uut_
 refine ua_.2 ((u8e_ _ h).mono fun r1 h1 => ?_)
 refine uh_.2 ⟨fun _ => ub_.2 (by simp), fun he => ?_⟩
 have h0 : r1 = 0 := by rw [up_] at he; simpa using he
 refine ua_.2 ((ubsj_ _ ⟨h, h1 h0⟩).mono fun r3 h3 => ?_)
 exact ua_.2 ((ubuj_ _ ⟨h3.2, by dsimp only; omega⟩).mono fun r4 h4 => ub_.2 h4)
end Go.Ev.Pv
namespace Go.Ev.Pv
theorem u4i_ (x : YY1 × (List Str) × Int × Int) (h : 0 ≤ x.2.2.2 ∧ x.2.2.2 ≤ x.2.2.1 ∧ x.2.2.1 = x.2.1.length ∧ x.2.2.1 ≤ 281474976710656 ∧ (∀ s ∈ x.2.1, s.length ≤ 1048576) ∧ x.2.1 = x.1.2.1) : Tot (uls_ x) (fun r : Sum (Unit) (Int) => True) := by
 refine uu_ (R := fun r : Sum Unit Int => True)
  (fun y : Adv × (List Str) × Int × Int => 0 ≤ y.2.2.2 ∧ y.2.2.2 ≤ y.2.2.1 ∧ y.2.2.1 = y.2.1.length ∧ y.2.2.1 ≤ 281474976710656 ∧ (∀ v ∈ y.2.1, v.length ≤ 1048576) ∧ y.2.1 = y.1.2.1)
  (fun y => (y.2.2.1 - y.2.2.2).toNat) ?_ _ _ h (by unfold fuel; have := h.2.2.2.1; omega)
 rintro next ⟨a, l, n, i⟩ hI hn
 dsimp only at hI hn
 obtain ⟨i0, i1, i2, i3, i4, i5⟩ := hI
 unfold ut7_
 dsimp only
 refine uh_.2 ⟨fun hc => ?_, fun hc => ub_.2 trivial⟩
 have hc := of_decide_eq_true hc
 rw [ubj_ (n := i + 1) (by omega) (by omega), ubj_ (by omega) (by omega)]
 refine ua_.2 (u2_.2 ⟨⟨i0, by omega⟩, fun v hv => ?_⟩)
 have hvl := i4 v (uzx_ hv)
 refine ua_.2 ((ubd6_ _ (by omega)).mono fun r _ => ?_)
 refine uh_.2 ⟨fun _ => ub_.2 trivial, fun _ => ?_⟩
 refine uh_.2 ⟨fun _ => ub_.2 trivial, fun _ => ?_⟩
 refine ua_.2 (Tot.mono (P := fun _ => True) (uh_.2 ⟨fun hz => ?_, fun _ => ub_.2 trivial⟩) fun y7 _ => ?_)
 · have hz := of_decide_eq_true hz
   exact u2_.2 ⟨⟨by omega, by rw [← i5]; omega⟩, fun _ _ => trivial⟩
 · refine uh_.2 ⟨fun _ => ub_.2 trivial, fun _ => ?_⟩
   exact hn _ ⟨by dsimp only; omega, by dsimp only; omega, i2, i3, i4, i5⟩ (by dsimp only; omega)
theorem ubav_ (x : Str × (List Str) × Str × Int × Bool × Str × (List YY5)) (h : ∀ s ∈ x.2.1, s.length ≤ 1048576) : Tot (ujx_ x) (fun r : Int => True) := by
 unfold ujx_
 repeat' first
  | with_reducible refine uh_.2 ⟨fun _ => ?_, fun _ => ?_⟩
  | with_reducible refine ua_.2 ?_
  | with_reducible refine ub_.2 ?_
  | with_reducible refine (u4i_ _ ?_).mono fun _ _ => ?_
  | split
  | dsimp only
 all_goals grind [um_, ug_, ud_, ux_, up_, u0_, uz_, u8le, ui_, ue_, uv_, us_, uy_, List.length_cons, List.length_nil, List.mem_of_mem_take, List.mem_of_mem_drop]
theorem ubnw_ (x : Unit) (h : True) : Tot (ut8_ x) (fun r : List (List (Int × Int)) => r.length = 6) := by
 unfold ut8_
 repeat' first
  | with_reducible refine ub_.2 ?_
  | dsimp only
 all_goals grind [um_, ug_, ud_, ux_, up_, u0_, uz_, u8le, ui_, ue_, uv_, us_, uy_, List.length_cons, List.length_nil, List.mem_of_mem_take, List.mem_of_mem_drop]
theorem ubk6_ (x : Str × (List Int) × YY35 × Int) (h : 0 ≤ x.2.2.2 ∧ x.2.2.2 ≤ 6 ∧ x.2.2.1.length = 6 ∧ x.1.length = 6) : Tot (uz5_ x) (fun r : Sum (List Int) (Int × Int) => True) := by
 refine uu_ (R := fun r : Sum (List Int) (Int × Int) => True) (fun y : Str × (List Int) × YY35 × Int => (0 ≤ y.2.2.2 ∧ y.2.2.2 ≤ 6 ∧ y.2.2.1.length = 6 ∧ y.1.length = 6)) (fun y : Str × (List Int) × YY35 × Int => (6 - y.2.2.2).toNat) ?_ _ _ (by grind) (by unfold fuel; grind)
 rintro next ⟨vector_0, w_5, t16, t17⟩ h hn
 try dsimp only at h hn
 unfold ubc7_
 repeat' first
  | with_reducible refine uh_.2 ⟨fun _ => ?_, fun _ => ?_⟩
  | with_reducible refine ua_.2 ?_
  | with_reducible refine ub_.2 ?_
  | with_reducible refine u2_.2 ⟨?_, fun _ _ => ?_⟩
  | with_reducible refine ufp_.2 ⟨?_, ?_⟩
  | with_reducible refine hn _ ?_ ?_
  | dsimp only
 all_goals grind [um_, ug_, ud_, ux_, up_, u0_, uz_, u8le, ui_, ue_, uv_, us_, uy_, List.length_cons, List.length_nil, List.mem_of_mem_take, List.mem_of_mem_drop]
theorem ubsl_ (x : Str) (h : True) : Tot (ut9_ x) (fun r : Int × Int => True) := by
 unfold ut9_
 repeat' first
  | with_reducible refine uh_.2 ⟨fun _ => ?_, fun _ => ?_⟩
  | with_reducible refine ua_.2 ?_
  | with_reducible refine ub_.2 ?_
  | with_reducible refine (ubnw_ _ ?_).mono fun _ _ => ?_
  | with_reducible refine (ubk6_ _ ?_).mono fun _ _ => ?_
  | with_reducible refine div8.2 ⟨?_, ?_⟩
  | split
  | dsimp only
 all_goals grind [um_, ug_, ud_, ux_, up_, u0_, uz_, u8le, ui_, ue_, uv_, us_, uy_, List.length_cons, List.length_nil, List.mem_of_mem_take, List.mem_of_mem_drop]
theorem ubip_ (x : YY1 × Bool) (h : True) : Tot (upy_ x) (fun r : Sum YY1 ((List YY14) × Int) => ∀ y, r = .inl y → y = x.1) := by
 obtain ⟨a_1, t37⟩ := x
 try dsimp only at h ⊢
 unfold upy_
 repeat' first
  | with_reducible refine uh_.2 ⟨fun _ => ?_, fun _ => ?_⟩
  | with_reducible refine ua_.2 ?_
  | with_reducible refine ub_.2 ?_
  | with_reducible refine (ubsl_ _ ?_).mono fun _ _ => ?_
  | dsimp only
 all_goals grind [um_, ug_, ud_, ux_, up_, u0_, uz_, u8le, ui_, ue_, uv_, us_, uy_, List.length_cons, List.length_nil, List.mem_of_mem_take, List.mem_of_mem_drop]
theorem ubiq_ (x : (List YY14) × (List YY5) × Int × Int) (h : 0 ≤ x.2.2.2 ∧ x.2.2.2 ≤ x.2.2.1 ∧ x.2.2.1 = x.2.1.length ∧ x.2.2.1 ≤ 281474976710656 ∧ x.2.2.1 ≤ 50 ∧ x.1.length ≤ x.2.2.2 ∧ ∀ z ∈ x.2.1, AfB z) : Tot (uxl_ x) (fun r : Sum (List YY14) ((List YY14) × Int) => True) := by
 refine uu_ (R := fun r : Sum (List YY14) ((List YY14) × Int) => True) (fun y : (List YY14) × (List YY5) × Int × Int => (0 ≤ y.2.2.2 ∧ y.2.2.2 ≤ y.2.2.1 ∧ y.2.2.1 = y.2.1.length ∧ y.2.2.1 ≤ 281474976710656 ∧ y.2.2.1 ≤ 50 ∧ y.1.length ≤ y.2.2.2 ∧ ∀ z ∈ y.2.1, AfB z)) (fun y : (List YY14) × (List YY5) × Int × Int => (y.2.2.1 - y.2.2.2).toNat) ?_ _ _ (by grind) (by unfold fuel; grind)
 rintro next ⟨out_7, t52, t53, t54⟩ h hn
 try dsimp only at h hn
 unfold u8u_
 repeat' first
  | with_reducible refine uh_.2 ⟨fun _ => ?_, fun _ => ?_⟩
  | with_reducible refine ua_.2 ?_
  | with_reducible refine ub_.2 ?_
  | with_reducible refine u2_.2 ⟨?_, fun _ _ => ?_⟩
  | with_reducible refine ulb_.2 ⟨?_, ?_⟩
  | with_reducible refine (ubnv_ _ ?_).mono fun _ _ => ?_
  | with_reducible refine hn _ ?_ ?_
  | dsimp only
 all_goals grind [um_, ug_, ud_, ux_, up_, u0_, uz_, u8le, ui_, ue_, uv_, us_, uy_, List.length_cons, List.length_nil, List.mem_of_mem_take, List.mem_of_mem_drop]
theorem ubqi_ (x : Str × (List Str) × Str × Int × Bool × Str × (List YY5)) (h : AdB x) : Tot (uyj_ x) (fun r : (List YY14) × Int => True) := by
 unfold uyj_
 repeat' first
  | with_reducible refine uh_.2 ⟨fun _ => ?_, fun _ => ?_⟩
  | with_reducible refine ua_.2 ?_
  | with_reducible refine ub_.2 ?_
  | with_reducible refine (ubd6_ _ ?_).mono fun _ _ => ?_
  | with_reducible refine (ubav_ _ ?_).mono fun _ _ => ?_
  | with_reducible refine (ubip_ _ ?_).mono fun _ _ => ?_
  | with_reducible refine (ubiq_ _ ?_).mono fun _ _ => ?_
  | split
  | dsimp only
 all_goals grind [um_, ug_, ud_, ux_, up_, u0_, uz_, u8le, ui_, ue_, uv_, us_, uy_, List.length_cons, List.length_nil, List.mem_of_mem_take, List.mem_of_mem_drop, AdB]
theorem ubsm_ (x : Str × (List Str) × Str × Int × Bool × Str × (List YY5)) (h : AdB x) : Tot (uiz_ x) (fun r : Int => True) := by
 unfold uiz_
 repeat' first
  | with_reducible refine ua_.2 ?_
  | with_reducible refine ub_.2 ?_
  | with_reducible refine (ubqi_ _ ?_).mono fun _ _ => ?_
  | dsimp only
 all_goals grind [um_, ug_, ud_, ux_, up_, u0_, uz_, u8le, ui_, ue_, uv_, us_, uy_, List.length_cons, List.length_nil, List.mem_of_mem_take, List.mem_of_mem_drop]
end Go.Ev.Pv
namespace Go.Ev.Pv
abbrev Bs := Int × (List Adv) × (List Int)
abbrev Dl := Int × Int × (List Adv) × (List Str)
abbrev En := Adv × Int
noncomputable def chk (a : Adv) : Int := (uiz_ a).getD 1
theorem uccx_ {a : Adv} (h : AdB a) : uiz_ a = some (chk a) := by
 obtain ⟨r, hr, _⟩ := ubsm_ a h
 unfold chk
 rw [hr]; rfl
def okR (l : List Adv) (i : Nat) : Prop := ∀ a, l[i]? = some a → chk a = 0 ∧ (0 < i → ∀ a', l[i - 1]? = some a' → a'.1 < a.1)
def okB (b : Bs) (i : Nat) : Prop := okR b.2.1 i ∧ ∀ s, b.2.2[i]? = some s → 0 ≤ s ∧ s ≤ b.1
theorem ub98_ (a b : Str) : (Op.bytesLess a b || eqS a b) = !decide (b < a) := by
 rw [ub7u_, ux_]
 rcases stri a b with h | h | h
 · simp [h, sasym h]
 · subst h; simp [sirr]
 · have : a ≠ b := fun e => by subst e; exact sirr _ h
   simp [h, sasym h, this]
theorem cb_l3 (b : Bs) (hb : ∀ a ∈ b.2.1, AdB a) (hl : b.2.2.length = b.2.1.length) (hm : b.2.1.length ≤ 2000) :
 Tot (uqu_ (b, b.2.1, (b.2.1.length : Int), 0)) (fun r => (∀ u, r = .inl u → ∀ j, j < b.2.1.length → okB b j) ∧ ∀ e, r = .inr e → e ≠ 0 ∧ ¬ ∀ j, j < b.2.1.length → okB b j) := by
 refine uu_ (R := fun r : Sum Unit Int => (∀ u, r = .inl u → ∀ j, j < b.2.1.length → okB b j) ∧ ∀ e, r = .inr e → e ≠ 0 ∧ ¬ ∀ j, j < b.2.1.length → okB b j)
  (fun y : Bs × (List Adv) × Int × Int => y.1 = b ∧ y.2.1 = b.2.1 ∧ y.2.2.1 = b.2.1.length ∧ 0 ≤ y.2.2.2 ∧ y.2.2.2 ≤ b.2.1.length ∧ ∀ j : Nat, (j : Int) < y.2.2.2 → okB b j)
  (fun y => ((b.2.1.length : Int) - y.2.2.2).toNat) ?_ _ _ ⟨rfl, rfl, rfl, Int.le_refl _, Int.natCast_nonneg _, fun j hj => by dsimp only at hj; omega⟩ (by unfold fuel; dsimp only; omega)
 rintro next ⟨b', l, n, i⟩ hI hn
 dsimp only at hI hn
 obtain ⟨rfl, rfl, rfl, i0, i1, i2⟩ := hI
 unfold u0z_
 dsimp only
 refine uh_.2 ⟨fun hc => ?_, fun hc => ub_.2 ⟨fun u _ j hj => ?_, fun e he => (by cases he)⟩⟩
 · have hc := of_decide_eq_true hc
   rw [ubj_ (n := i + 1) (by omega) (by omega), ubj_ (by omega) (by omega)]
   refine ua_.2 (u2_.2 ⟨⟨i0, hc⟩, fun a ha => ?_⟩)
   rw [uccx_ (hb a (uzx_ ha))]
   refine ua_.2 (ub_.2 ?_)
   have hlt : i.toNat < b'.2.1.length := by omega
   refine uh_.2 ⟨fun he => ub_.2 ⟨fun u hu => (by cases hu), fun e he' => ?_⟩, fun he => ?_⟩
   · cases he'
     rw [up_] at he
     have he : ¬ chk a = 0 := by simpa using he
     exact ⟨he, fun h => he ((h i.toNat hlt).1 a ha).1⟩
   have hk : chk a = 0 := by rw [up_] at he; simpa using he
   refine ua_.2 (Tot.mono (P := fun y4 : Adv => 0 < i → b'.2.1[i.toNat - 1]? = some y4) (uh_.2 ⟨fun hz => ?_, fun hz => ub_.2 fun h0 => absurd h0 (of_decide_eq_false hz)⟩) fun y4 h4 => ?_)
   · have hz := of_decide_eq_true hz
     refine u2_.2 ⟨⟨by omega, by omega⟩, fun w hw _ => ?_⟩
     rw [show i.toNat - 1 = (i - 1).toNat by omega]
     exact hw
   rw [ub98_]
   refine uh_.2 ⟨fun he2 => ub_.2 ⟨fun u hu => (by cases hu), fun e he' => ?_⟩, fun he2 => ?_⟩
   · cases he'
     have h2 := Bool.and_eq_true_iff.1 he2
     have hz := of_decide_eq_true h2.1
     have hnl : ¬ y4.1 < a.1 := by simpa using h2.2
     exact ⟨by decide, fun h => hnl (((h i.toNat hlt).1 a ha).2 (by omega) y4 (h4 hz))⟩
   have hasc : 0 < i.toNat → ∀ a', b'.2.1[i.toNat - 1]? = some a' → a'.1 < a.1 := by
    intro hz a' ha'
    have hz' : 0 < i := by omega
    rw [h4 hz'] at ha'
    cases ha'
    rw [decide_eq_true hz', Bool.true_and] at he2
    simpa using he2
   refine ua_.2 (u2_.2 ⟨⟨i0, by omega⟩, fun s hs => ?_⟩)
   refine ua_.2 (Tot.mono (P := fun y7 : Int => 0 ≤ s → y7 = s) (uh_.2 ⟨fun hz => u2_.2 ⟨⟨i0, by omega⟩, fun w hw _ => ?_⟩, fun hz => ub_.2 fun h0 => ?_⟩) fun y7 h7 => ?_)
   · rw [hs] at hw; cases hw; rfl
   · exfalso
     simp at hz
     omega
   refine uh_.2 ⟨fun he3 => ub_.2 ⟨fun u hu => (by cases hu), fun e he' => ?_⟩, fun he3 => ?_⟩
   · cases he'
     refine ⟨by decide, fun h => ?_⟩
     have h8 := (h i.toNat hlt).2 s hs
     have h9 := h7 h8.1
     rw [h9] at he3
     simp at he3
     omega
   · have h8 := Bool.or_eq_false_iff.1 he3
     have h9 := of_decide_eq_false h8.1
     have h10 := of_decide_eq_false h8.2
     have h11 := h7 (by omega)
     refine hn _ ⟨rfl, rfl, rfl, by dsimp only; omega, by dsimp only; omega, fun j hj => ?_⟩ (by dsimp only; omega)
     dsimp only at hj
     by_cases hj' : (j : Int) < i
     · exact i2 j hj'
     · have : j = i.toNat := by omega
       subst this
       refine ⟨fun a' ha' => ?_, fun s' hs' => ?_⟩
       · rw [ha] at ha'; cases ha'; exact ⟨hk, hasc⟩
       · rw [hs] at hs'; cases hs'; omega
 · have hc := of_decide_eq_false hc
   exact i2 j (by omega)
def BB (b : Bs) : Prop := ∀ a ∈ b.2.1, AdB a
def CBok (b : Bs) : Prop := (0 ≤ b.1 ∧ b.1 ≤ 1000000000) ∧ b.2.1.length ≤ 2000 ∧ b.2.2.length = b.2.1.length ∧ ∀ j, j < b.2.1.length → okB b j
theorem ub4n_ (b : Bs) (hb : BB b) : Tot (uko_ b) (fun r => r = 0 ↔ CBok b) := by
 unfold uko_ CBok
 refine uh_.2 ⟨fun h => ub_.2 ⟨fun h0 => absurd h0 (by decide), fun hk => ?_⟩, fun h1 => ?_⟩
 · simp at h; omega
 have h1' := Bool.or_eq_false_iff.1 h1
 have g1 := of_decide_eq_false h1'.1
 have g2 := of_decide_eq_false h1'.2
 refine uh_.2 ⟨fun h => ub_.2 ⟨fun h0 => absurd h0 (by decide), fun hk => ?_⟩, fun h2 => ?_⟩
 · have := of_decide_eq_true h; omega
 have g3 := of_decide_eq_false h2
 refine uh_.2 ⟨fun h => ub_.2 ⟨fun h0 => absurd h0 (by decide), fun hk => ?_⟩, fun h3 => ?_⟩
 · rw [up_, hk.2.2.1] at h; simp at h
 have g4 : b.2.2.length = b.2.1.length := by
  rw [up_] at h3
  have : ((b.2.2.length : Nat) : Int) = b.2.1.length := by simpa using h3
  omega
 refine ua_.2 ((cb_l3 b hb g4 (by omega)).mono fun r hr => ?_)
 rcases r with r | r
 · exact ub_.2 ⟨fun _ => ⟨by omega, by omega, g4, hr.1 r rfl⟩, fun _ => rfl⟩
 · exact ub_.2 ⟨fun h0 => absurd h0 (hr.2 r rfl).1, fun hk => absurd hk.2.2.2 (hr.2 r rfl).2⟩
def DB (d : Dl) : Prop := d.2.2.1.length ≤ 1048576 ∧ ∀ a ∈ d.2.2.1, AdB a
def CDok (b : Bs) (d : Dl) : Prop := d.1 = b.1 ∧ d.1 < d.2.1 ∧ d.2.1 ≤ 1000000000 ∧ ∀ j, j < d.2.2.1.length → okR d.2.2.1 j
theorem cd_l2 (d : Dl) (hd : DB d) :
 Tot (uoz_ (d, ([] : List (Str × Bool)), d.2.2.1, (d.2.2.1.length : Int), 0)) (fun r => (∀ u, r = .inl u → u.1 = d ∧ ∀ j, j < d.2.2.1.length → okR d.2.2.1 j) ∧ ∀ e, r = .inr e → e ≠ 0 ∧ ¬ ∀ j, j < d.2.2.1.length → okR d.2.2.1 j) := by
 refine uu_ (R := fun r : Sum (Dl × YY20) Int => (∀ u, r = .inl u → u.1 = d ∧ ∀ j, j < d.2.2.1.length → okR d.2.2.1 j) ∧ ∀ e, r = .inr e → e ≠ 0 ∧ ¬ ∀ j, j < d.2.2.1.length → okR d.2.2.1 j)
  (fun y : Dl × YY20 × (List Adv) × Int × Int => y.1 = d ∧ y.2.2.1 = d.2.2.1 ∧ y.2.2.2.1 = d.2.2.1.length ∧ 0 ≤ y.2.2.2.2 ∧ y.2.2.2.2 ≤ d.2.2.1.length ∧ ∀ j : Nat, (j : Int) < y.2.2.2.2 → okR d.2.2.1 j)
  (fun y => ((d.2.2.1.length : Int) - y.2.2.2.2).toNat) ?_ _ _ ⟨rfl, rfl, rfl, Int.le_refl _, Int.natCast_nonneg _, fun j hj => by dsimp only at hj; omega⟩ (by unfold fuel; dsimp only; have := hd.1; omega)
 rintro next ⟨d', m, l, n, i⟩ hI hn
 dsimp only at hI hn
 obtain ⟨rfl, rfl, rfl, i0, i1, i2⟩ := hI
 have hB := hd.1
 unfold uyx_
 dsimp only
 refine uh_.2 ⟨fun hc => ?_, fun hc => ub_.2 ⟨fun u hu => ?_, fun e he => (by cases he)⟩⟩
 · have hc := of_decide_eq_true hc
   rw [ubj_ (n := i + 1) (by omega) (by omega), ubj_ (by omega) (by omega)]
   refine ua_.2 (u2_.2 ⟨⟨i0, hc⟩, fun a ha => ?_⟩)
   rw [uccx_ (hd.2 a (uzx_ ha))]
   refine ua_.2 (ub_.2 ?_)
   have hlt : i.toNat < d'.2.2.1.length := by omega
   refine uh_.2 ⟨fun he => ub_.2 ⟨fun u hu => (by cases hu), fun e he' => ?_⟩, fun he => ?_⟩
   · cases he'
     rw [up_] at he
     have he : ¬ chk a = 0 := by simpa using he
     exact ⟨he, fun h => he (h i.toNat hlt a ha).1⟩
   have hk : chk a = 0 := by rw [up_] at he; simpa using he
   refine ua_.2 (Tot.mono (P := fun y4 : Adv => 0 < i → d'.2.2.1[i.toNat - 1]? = some y4) (uh_.2 ⟨fun hz => ?_, fun hz => ub_.2 fun h0 => absurd h0 (of_decide_eq_false hz)⟩) fun y4 h4 => ?_)
   · have hz := of_decide_eq_true hz
     refine u2_.2 ⟨⟨by omega, by omega⟩, fun w hw _ => ?_⟩
     rw [show i.toNat - 1 = (i - 1).toNat by omega]
     exact hw
   rw [ub98_]
   refine uh_.2 ⟨fun he2 => ub_.2 ⟨fun u hu => (by cases hu), fun e he' => ?_⟩, fun he2 => ?_⟩
   · cases he'
     have h2 := Bool.and_eq_true_iff.1 he2
     have hz := of_decide_eq_true h2.1
     have hnl : ¬ y4.1 < a.1 := by simpa using h2.2
     exact ⟨by decide, fun h => hnl ((h i.toNat hlt a ha).2 (by omega) y4 (h4 hz))⟩
   refine hn _ ⟨rfl, rfl, rfl, by dsimp only; omega, by dsimp only; omega, fun j hj => ?_⟩ (by dsimp only; omega)
   dsimp only at hj
   by_cases hj' : (j : Int) < i
   · exact i2 j hj'
   · have : j = i.toNat := by omega
     subst this
     intro a' ha'
     rw [ha] at ha'
     cases ha'
     refine ⟨hk, fun hz a' ha' => ?_⟩
     have hz' : 0 < i := by omega
     rw [h4 hz'] at ha'
     cases ha'
     rw [decide_eq_true hz', Bool.true_and] at he2
     simpa using he2
 · have hc := of_decide_eq_false hc
   cases hu
   exact ⟨rfl, fun j hj => i2 j (by omega)⟩
theorem cd_l6 (m : List (Str × Bool)) (l : List Adv) (hl : l.length ≤ 1048576) : Tot (uo0_ (m, l, (l.length : Int), 0)) (fun _ => True) := by
 refine uu_ (R := fun _ => True) (fun y : YY20 × (List Adv) × Int × Int => y.2.1 = l ∧ y.2.2.1 = l.length ∧ 0 ≤ y.2.2.2 ∧ y.2.2.2 ≤ l.length)
  (fun y => ((l.length : Int) - y.2.2.2).toNat) ?_ _ _ ⟨rfl, rfl, Int.le_refl _, Int.natCast_nonneg _⟩ (by unfold fuel; dsimp only; omega)
 rintro next ⟨m', l', n, i⟩ hI hn
 dsimp only at hI hn
 obtain ⟨rfl, rfl, i0, i1⟩ := hI
 unfold uyy_
 dsimp only
 refine uh_.2 ⟨fun hc => ?_, fun hc => ub_.2 trivial⟩
 have hc := of_decide_eq_true hc
 rw [ubj_ (n := i + 1) (by omega) (by omega)]
 exact ua_.2 (u2_.2 ⟨⟨i0, hc⟩, fun a ha => hn _ ⟨rfl, rfl, by dsimp only; omega, by dsimp only; omega⟩ (by dsimp only; omega)⟩)
theorem ub14_ {α β : Type} (r : (α → Option β) → α → Option β) (x : α) : loopN r fuel x = r (loopN r (fuel - 1)) x := by
 have e : fuel = (fuel - 1) + 1 := by unfold fuel; omega
 rw [e]; rfl
theorem ub5s_ (b : Bs) (d : Dl) (hb : b.2.1.length ≤ 1048576) (hd : DB d) (h0 : d.2.2.2 = []) : Tot (uod_ (b, d)) (fun r => r = 0 ↔ CDok b d) := by
 unfold uod_ CDok
 dsimp only
 refine uh_.2 ⟨fun h => ub_.2 ⟨fun h0 => absurd h0 (by decide), fun hk => ?_⟩, fun h1 => ?_⟩
 · rw [up_, hk.1] at h; simp at h
 have g1 : d.1 = b.1 := by rw [up_] at h1; simpa using h1
 refine uh_.2 ⟨fun h => ub_.2 ⟨fun h0 => absurd h0 (by decide), fun hk => ?_⟩, fun h2 => ?_⟩
 · simp at h; omega
 have h2' := Bool.or_eq_false_iff.1 h2
 have g2 := of_decide_eq_false h2'.1
 have g3 := of_decide_eq_false h2'.2
 refine ua_.2 ((cd_l2 d hd).mono fun r hr => ?_)
 rcases r with r | r
 · obtain ⟨hr1, hr2⟩ := hr.1 r rfl
   refine ua_.2 ((cd_l6 _ _ hb).mono fun r9 _ => ?_)
   rw [hr1, h0]
   have e : ui0_ (d, r.2, r9, ([] : List Str), (([] : List Str).length : Int), 0) = some (.inl ()) := by
    unfold ui0_
    rw [ub14_]
    rfl
   rw [e]
   exact ua_.2 (ub_.2 (ub_.2 ⟨fun _ => ⟨g1, by omega, by omega, hr2⟩, fun _ => rfl⟩))
 · exact ub_.2 ⟨fun h0 => absurd h0 (hr.2 r rfl).1, fun hk => absurd hk.2.2.2 (hr.2 r rfl).2⟩
theorem ub99_ {α : Type} {B : Nat} (l : List α) (h : l.length * B ≤ 70368744177664) : app? B [] l = some l := by
 unfold app?
 rw [decide_eq_true (by simpa using h)]
 rfl
theorem ub7z_ {l : List Str} (h : l.length ≤ 1048576) : ugz_ l = some l := by
 unfold ugz_ uqv_
 rw [ub99_ l (by omega)]; rfl
theorem uccy_ {l : List (Int × Str)} (h : l.length ≤ 1048576) : ui1_ l = some l := by
 unfold ui1_ ul6_
 rw [ub99_ l (by omega)]; rfl
theorem u65_ {α : Type} {l : List α} {i : Nat} {a : α} (h : l[i]? = some a) : l.take (i + 1) = l.take i ++ [a] := by
 rw [List.take_add_one, h]; rfl
theorem ub9k_ (l : List Af) (hl : l.length ≤ 1048576) (hb : ∀ a ∈ l, AfB a) : Tot (uxm_ (([] : List Af), l, (l.length : Int), 0)) (fun r => r = l) := by
 refine uu_ (R := fun r : List Af => r = l) (fun y : (List Af) × (List Af) × Int × Int => y.1 = l.take y.2.2.2.toNat ∧ y.2.1 = l ∧ y.2.2.1 = l.length ∧ 0 ≤ y.2.2.2 ∧ y.2.2.2 ≤ l.length)
  (fun y => ((l.length : Int) - y.2.2.2).toNat) ?_ _ _ ⟨rfl, rfl, rfl, Int.le_refl _, Int.natCast_nonneg _⟩ (by unfold fuel; dsimp only; omega)
 rintro next ⟨m', l', n, i⟩ hI hn
 dsimp only at hI hn
 obtain ⟨rfl, rfl, rfl, i0, i1⟩ := hI
 unfold u8v_
 dsimp only
 refine uh_.2 ⟨fun hc => ?_, fun hc => ub_.2 ?_⟩
 · have hc := of_decide_eq_true hc
   rw [ubj_ (n := i + 1) (by omega) (by omega)]
   refine ua_.2 (u2_.2 ⟨⟨i0, hc⟩, fun a ha => ?_⟩)
   obtain ⟨b1, b2, b3, b4, b5, b6, b7⟩ := hb a (uzx_ ha)
   rw [uccy_ b2, ub7z_ b4, ub7z_ b6]
   refine ua_.2 (ub_.2 (ua_.2 (ub_.2 (ua_.2 (ub_.2 (ua_.2 (ulb_.2 ⟨?_, ?_⟩)))))))
   · rw [List.length_take]; simp only [List.length_cons, List.length_nil]; omega
   refine hn _ ⟨?_, rfl, rfl, by dsimp only; omega, by dsimp only; omega⟩ (by dsimp only; omega)
   dsimp only
   rw [show (i + 1).toNat = i.toNat + 1 by omega, u65_ ha]
 · have hc := of_decide_eq_false hc
   exact List.take_of_length_le (by omega)
theorem ub0g_ {a : Adv} (h : AdB a) : ujk_ a = some a := by
 unfold ujk_
 obtain ⟨b1, b2, b3, b4, b5, b6, b7⟩ := h
 rw [ub7z_ b2]
 obtain ⟨r, hr, rfl⟩ := ub9k_ a.2.2.2.2.2.2 b6 b7
 rw [Option.bind_some, hr]; rfl
end Go.Ev.Pv
namespace Go.Ev.Pv
theorem ucbm_ (k k' : Str) (v : Bool) : ∀ m : List (Str × Bool), uyn_ eqS k (putKV eqS k' v m) = if k = k' then some v else uyn_ eqS k m := by
 intro m
 induction m with
 | nil =>
   unfold putKV uyn_
   rw [ux_]
   by_cases h : k = k' <;> simp [h, uyn_]
 | cons e r ih =>
   unfold putKV
   rw [ux_]
   by_cases h1 : k' = e.1
   · rw [decide_eq_true h1]
     simp only [cond_true]
     unfold uyn_
     rw [ux_, ux_]
     by_cases h : k = k'
     · simp [h]
     · have : ¬ k = e.1 := fun e' => h (e'.trans h1.symm)
       simp [h, this]
   · rw [decide_eq_false h1]
     simp only [cond_false]
     unfold uyn_
     rw [ux_, ih]
     by_cases h : k = e.1
     · have h2 : ¬ e.1 = k' := fun e' => h1 e'.symm
       simp [h, h2]
     · simp [h]
def isIn (l : List Adv) (s : Str) : Bool := decide (s ∈ l.map (·.1))
theorem ub9l_ (l : List Adv) (a : Adv) (s : Str) : isIn (l ++ [a]) s = (isIn l s || decide (s = a.1)) := by
 unfold isIn
 have : (s ∈ (l ++ [a]).map (·.1)) ↔ (s ∈ l.map (·.1) ∨ s = a.1) := by rw [List.map_append, List.mem_append]; simp
 rw [decide_eq_decide.2 this, Bool.decide_or]
theorem ap_l4 (d : Dl) (hd : DB d) : Tot (u0a_ (d, ([] : List (Str × Bool)), ([] : List En), d.2.2.1, (d.2.2.1.length : Int), 0)) (fun r => r.1 = d ∧ r.2.2 = d.2.2.1.map (fun a => (a, d.2.1)) ∧ ∀ s, (uyn_ eqS s r.2.1).getD false = isIn d.2.2.1 s) := by
 refine uu_ (R := fun r : Dl × YY20 × (List En) => r.1 = d ∧ r.2.2 = d.2.2.1.map (fun a => (a, d.2.1)) ∧ ∀ s, (uyn_ eqS s r.2.1).getD false = isIn d.2.2.1 s)
  (fun y : Dl × YY20 × (List En) × (List Adv) × Int × Int => y.1 = d ∧ y.2.2.1 = (d.2.2.1.take y.2.2.2.2.2.toNat).map (fun a => (a, d.2.1)) ∧ (∀ s, (uyn_ eqS s y.2.1).getD false = isIn (d.2.2.1.take y.2.2.2.2.2.toNat) s) ∧ y.2.2.2.1 = d.2.2.1 ∧ y.2.2.2.2.1 = d.2.2.1.length ∧ 0 ≤ y.2.2.2.2.2 ∧ y.2.2.2.2.2 ≤ d.2.2.1.length)
  (fun y => ((d.2.2.1.length : Int) - y.2.2.2.2.2).toNat) ?_ _ _ ⟨rfl, rfl, fun s => rfl, rfl, rfl, Int.le_refl _, Int.natCast_nonneg _⟩ (by unfold fuel; dsimp only; have := hd.1; omega)
 rintro next ⟨d', g, al, l, n, i⟩ hI hn
 dsimp only at hI hn
 obtain ⟨rfl, rfl, h3, rfl, rfl, i0, i1⟩ := hI
 have hB := hd.1
 unfold ubdc_
 dsimp only
 refine uh_.2 ⟨fun hc => ?_, fun hc => ub_.2 ?_⟩
 · have hc := of_decide_eq_true hc
   rw [ubj_ (n := i + 1) (by omega) (by omega)]
   refine ua_.2 (u2_.2 ⟨⟨i0, hc⟩, fun a ha => ?_⟩)
   rw [ub0g_ (hd.2 a (uzx_ ha))]
   refine ua_.2 (ub_.2 (ua_.2 (ulb_.2 ⟨?_, ?_⟩)))
   · rw [List.length_map, List.length_take]; simp only [List.length_cons, List.length_nil]; omega
   refine hn _ ⟨rfl, ?_, fun s => ?_, rfl, rfl, by dsimp only; omega, by dsimp only; omega⟩ (by dsimp only; omega)
   · dsimp only
     rw [show (i + 1).toNat = i.toNat + 1 by omega, u65_ ha, List.map_append]; rfl
   · dsimp only
     rw [show (i + 1).toNat = i.toNat + 1 by omega, u65_ ha, ub9l_, ucbm_, ← h3 s]
     by_cases h : s = a.1 <;> simp [h]
 · have hc := of_decide_eq_false hc
   have e : d'.2.2.1.take i.toNat = d'.2.2.1 := List.take_of_length_le (by omega)
   rw [e] at h3 ⊢
   exact ⟨rfl, rfl, h3⟩
theorem ucaa_ {l : List Adv} {m : List Int} {i : Nat} {a : Adv} {s : Int} (h1 : l[i]? = some a) (h2 : m[i]? = some s) : (l.zip m)[i]? = some (a, s) := by
 rw [List.getElem?_zip_eq_some]
 exact ⟨h1, h2⟩
theorem ap_l6 (b : Bs) (g : List (Str × Bool)) (al : List En) (hb : BB b) (hl : b.2.2.length = b.2.1.length) (hn : b.2.1.length ≤ 2000) (ha : al.length ≤ 1048576) :
 Tot (u0b_ (b, g, al, b.2.1, (b.2.1.length : Int), 0)) (fun r => r = al ++ (b.2.1.zip b.2.2).filter (fun e => !(uyn_ eqS e.1.1 g).getD false)) := by
 have hz : (b.2.1.zip b.2.2).length = b.2.1.length := by rw [List.length_zip]; omega
 refine uu_ (R := fun r : List En => r = al ++ (b.2.1.zip b.2.2).filter (fun e => !(uyn_ eqS e.1.1 g).getD false))
  (fun y : Bs × YY20 × (List En) × (List Adv) × Int × Int => y.1 = b ∧ y.2.1 = g ∧ y.2.2.1 = al ++ ((b.2.1.zip b.2.2).take y.2.2.2.2.2.toNat).filter (fun e => !(uyn_ eqS e.1.1 g).getD false) ∧ y.2.2.2.1 = b.2.1 ∧ y.2.2.2.2.1 = b.2.1.length ∧ 0 ≤ y.2.2.2.2.2 ∧ y.2.2.2.2.2 ≤ b.2.1.length)
  (fun y => ((b.2.1.length : Int) - y.2.2.2.2.2).toNat) ?_ _ _ ⟨rfl, rfl, by simp, rfl, rfl, Int.le_refl _, Int.natCast_nonneg _⟩ (by unfold fuel; dsimp only; omega)
 rintro next ⟨b', g', al', l, n, i⟩ hI hn
 dsimp only at hI hn
 obtain ⟨rfl, rfl, rfl, rfl, rfl, i0, i1⟩ := hI
 unfold ubdd_
 dsimp only
 refine uh_.2 ⟨fun hc => ?_, fun hc => ub_.2 ?_⟩
 · have hc := of_decide_eq_true hc
   rw [ubj_ (n := i + 1) (by omega) (by omega)]
   refine ua_.2 (u2_.2 ⟨⟨i0, hc⟩, fun a ha' => ?_⟩)
   have hs : b'.2.2[i.toNat]? = some (b'.2.2[i.toNat]'(by omega)) := List.getElem?_eq_getElem (by omega)
   have hzi := ucaa_ ha' hs
   refine uh_.2 ⟨fun hf => ?_, fun hf => ?_⟩
   · rw [ub0g_ (hb a (uzx_ ha'))]
     refine ua_.2 (ub_.2 (ua_.2 (u2_.2 ⟨⟨i0, by omega⟩, fun s hs' => ?_⟩)))
     rw [hs] at hs'
     cases hs'
     refine ua_.2 (ulb_.2 ⟨?_, ?_⟩)
     · rw [List.length_append]
       refine Nat.le_trans (Nat.mul_le_mul_right _ (Nat.add_le_add_right (Nat.add_le_add_left (List.length_filter_le _ _) _) _)) ?_
       rw [List.length_take]; simp only [List.length_cons, List.length_nil]; omega
     refine hn _ ⟨rfl, rfl, ?_, rfl, rfl, by dsimp only; omega, by dsimp only; omega⟩ (by dsimp only; omega)
     dsimp only
     rw [show (i + 1).toNat = i.toNat + 1 by omega, u65_ hzi, List.filter_append, List.append_assoc]
     congr 2
     rw [List.filter_cons]
     dsimp only
     rw [hf]
     rfl
   · refine hn _ ⟨rfl, rfl, ?_, rfl, rfl, by dsimp only; omega, by dsimp only; omega⟩ (by dsimp only; omega)
     dsimp only
     rw [show (i + 1).toNat = i.toNat + 1 by omega, u65_ hzi, List.filter_append]
     congr 1
     rw [List.filter_cons]
     dsimp only
     rw [hf]
     simp
 · have hc := of_decide_eq_false hc
   rw [List.take_of_length_le (by omega)]
theorem ucdv_ (t : Int) (s : List En) (hs : s.length ≤ 1048576) :
 Tot (uxn_ ((t, (([] : List Adv), ([] : List Int))), s, (s.length : Int), 0)) (fun r => r = (t, (s.map (·.1), s.map (·.2)))) := by
 refine uu_ (R := fun r : Bs => r = (t, (s.map (·.1), s.map (·.2)))) (fun y : Bs × (List En) × Int × Int => y.1 = (t, ((s.take y.2.2.2.toNat).map (·.1), (s.take y.2.2.2.toNat).map (·.2))) ∧ y.2.1 = s ∧ y.2.2.1 = s.length ∧ 0 ≤ y.2.2.2 ∧ y.2.2.2 ≤ s.length)
  (fun y => ((s.length : Int) - y.2.2.2).toNat) ?_ _ _ ⟨rfl, rfl, rfl, Int.le_refl _, Int.natCast_nonneg _⟩ (by unfold fuel; dsimp only; omega)
 rintro next ⟨o, l, n, i⟩ hI hn
 dsimp only at hI hn
 obtain ⟨rfl, rfl, rfl, i0, i1⟩ := hI
 unfold u8w_
 dsimp only
 refine uh_.2 ⟨fun hc => ?_, fun hc => ub_.2 ?_⟩
 · have hc := of_decide_eq_true hc
   rw [ubj_ (n := i + 1) (by omega) (by omega)]
   refine ua_.2 (ufp_.2 ⟨⟨i0, hc⟩, ?_⟩)
   have hlt : i.toNat < l.length := by omega
   rw [List.getD_eq_getElem?_getD, List.getElem?_eq_getElem hlt, Option.getD_some]
   refine ua_.2 (ulb_.2 ⟨?_, ua_.2 (ulb_.2 ⟨?_, ?_⟩)⟩)
   · rw [List.length_map, List.length_take]; simp only [List.length_cons, List.length_nil]; omega
   · rw [List.length_map, List.length_take]; simp only [List.length_cons, List.length_nil]; omega
   refine hn _ ⟨?_, rfl, rfl, by dsimp only; omega, by dsimp only; omega⟩ (by dsimp only; omega)
   dsimp only
   rw [show (i + 1).toNat = i.toNat + 1 by omega, u65_ (List.getElem?_eq_getElem hlt), List.map_append, List.map_append]; rfl
 · have hc := of_decide_eq_false hc
   rw [List.take_of_length_le (by omega)]
def allE (b : Bs) (d : Dl) : List En := d.2.2.1.map (fun a => (a, d.2.1)) ++ (b.2.1.zip b.2.2).filter (fun e => !isIn d.2.2.1 e.1.1)
def ub4o_ (s : List En) : Prop := s.Pairwise (fun x y => ¬ y.1.1 < x.1.1)
def AppR (b : Bs) (d : Dl) (r : Bs × Int) : Prop :=
 (r.2 = 0 ↔ CBok b ∧ CDok b d ∧ (allE b d).length ≤ 2000) ∧ (r.2 = 0 → ∃ s : List En, s.Perm (allE b d) ∧ ub4o_ s ∧ r.1 = (d.2.1, (s.map (·.1), s.map (·.2))))
theorem ubw4_ (b : Bs) (d : Dl) (hb : BB b) (hbl : b.2.1.length ≤ 1048576) (hd : DB d) (h0 : d.2.2.2 = []) : Tot (ul7_ (b, d)) (AppR b d) := by
 unfold ul7_
 refine ua_.2 ((ub4n_ b hb).mono fun r1 h1 => ?_)
 refine uh_.2 ⟨fun he => ub_.2 ?_, fun he => ?_⟩
 · rw [up_] at he
   have he : ¬ r1 = 0 := by simpa using he
   exact ⟨⟨fun h => absurd h he, fun h => absurd (h1.2 h.1) he⟩, fun h => absurd h he⟩
 have g1 := h1.1 (by rw [up_] at he; simpa using he)
 refine ua_.2 ((ub5s_ b d hbl hd h0).mono fun r3 h3 => ?_)
 refine uh_.2 ⟨fun he => ub_.2 ?_, fun he => ?_⟩
 · rw [up_] at he
   have he : ¬ r3 = 0 := by simpa using he
   exact ⟨⟨fun h => absurd h he, fun h => absurd (h3.2 h.2.1) he⟩, fun h => absurd h he⟩
 have g3 := h3.1 (by rw [up_] at he; simpa using he)
 rw [h0]
 have e2 : usc_ (([] : List (Str × Bool)), ([] : List Str), (([] : List Str).length : Int), 0) = some [] := by
  unfold usc_
  rw [ub14_]
  rfl
 rw [e2]
 refine ua_.2 (ub_.2 ?_)
 refine ua_.2 ((ap_l4 d hd).mono fun r11 h11 => ?_)
 obtain ⟨k1, k2, k3⟩ := h11
 refine ua_.2 ((ap_l6 b r11.2.1 r11.2.2 hb g1.2.2.1 g1.2.1 (by rw [k2, List.length_map]; exact hd.1)).mono fun r17 h17 => ?_)
 have e17 : r17 = allE b d := by
  rw [h17, k2]
  unfold allE
  congr 1
  exact List.filter_congr fun e _ => by rw [k3]
 subst e17
 have hal : (allE b d).length ≤ 2097152 := by
  unfold allE
  rw [List.length_append, List.length_map]
  refine Nat.le_trans (Nat.add_le_add_left (List.length_filter_le _ _) _) ?_
  rw [List.length_zip]
  have := hd.1
  have := g1.2.1
  omega
 refine uh_.2 ⟨fun hc => ub_.2 ?_, fun hc => ?_⟩
 · have hc := of_decide_eq_true hc
   exact ⟨⟨fun h => absurd h (by decide), fun h => by have := h.2.2; omega⟩, fun h => absurd h (by decide)⟩
 have hc := of_decide_eq_false hc
 have hF : ∀ a c : En, (um0_ (a, c)).bind (fun r => some r) = some (cmpS a.1.1 c.1.1) := by
  intro a c
  unfold um0_ u53_
  dsimp only
  rw [u1x_]; rfl
 refine ua_.2 ((ub7x_ (allE b d) (fun x => (um0_ x).bind fun r => some r) (fun e => e.1.1) hF).mono fun r19 h19 => ?_)
 rw [k1]
 refine ua_.2 ((ucdv_ d.2.1 r19 (by rw [h19.1.length_eq]; omega)).mono fun r24 h24 => ub_.2 ?_)
 subst h24
 exact ⟨⟨fun _ => ⟨g1, g3, by omega⟩, fun _ => rfl⟩, fun _ => ⟨r19, h19.1, h19.2, rfl⟩⟩
theorem de_l2 (rev : Int) (b : Bs) (hb : BB b) (hl : b.2.2.length = b.2.1.length) (hn : b.2.1.length ≤ 2000) :
 Tot (u0c_ (rev, b, (rev, (b.1, (([] : List Adv), ([] : List Str)))), b.2.1, (b.2.1.length : Int), 0)) (fun r => r = (rev, (b.1, (((b.2.1.zip b.2.2).filter (fun e => decide (rev < e.2))).map (·.1), ([] : List Str))))) := by
 have hz : (b.2.1.zip b.2.2).length = b.2.1.length := by rw [List.length_zip]; omega
 refine uu_ (R := fun r : Dl => r = (rev, (b.1, (((b.2.1.zip b.2.2).filter (fun e => decide (rev < e.2))).map (·.1), ([] : List Str)))))
  (fun y : Int × Bs × Dl × (List Adv) × Int × Int => y.1 = rev ∧ y.2.1 = b ∧ y.2.2.1 = (rev, (b.1, ((((b.2.1.zip b.2.2).take y.2.2.2.2.2.toNat).filter (fun e => decide (rev < e.2))).map (·.1), ([] : List Str)))) ∧ y.2.2.2.1 = b.2.1 ∧ y.2.2.2.2.1 = b.2.1.length ∧ 0 ≤ y.2.2.2.2.2 ∧ y.2.2.2.2.2 ≤ b.2.1.length)
  (fun y => ((b.2.1.length : Int) - y.2.2.2.2.2).toNat) ?_ _ _ ⟨rfl, rfl, by simp, rfl, rfl, Int.le_refl _, Int.natCast_nonneg _⟩ (by unfold fuel; dsimp only; omega)
 rintro next ⟨rv, b', o, l, n, i⟩ hI hn
 dsimp only at hI hn
 obtain ⟨rfl, rfl, rfl, rfl, rfl, i0, i1⟩ := hI
 unfold ubde_
 dsimp only
 refine uh_.2 ⟨fun hc => ?_, fun hc => ub_.2 ?_⟩
 · have hc := of_decide_eq_true hc
   rw [ubj_ (n := i + 1) (by omega) (by omega)]
   refine ua_.2 (u2_.2 ⟨⟨i0, hc⟩, fun a ha' => ?_⟩)
   have hs : b'.2.2[i.toNat]? = some (b'.2.2[i.toNat]'(by omega)) := List.getElem?_eq_getElem (by omega)
   have hzi := ucaa_ ha' hs
   refine ua_.2 (u2_.2 ⟨⟨i0, by omega⟩, fun s hs' => ?_⟩)
   rw [hs] at hs'
   cases hs'
   refine uh_.2 ⟨fun hf => ?_, fun hf => ?_⟩
   · rw [ub0g_ (hb a (uzx_ ha'))]
     refine ua_.2 (ub_.2 (ua_.2 (ulb_.2 ⟨?_, ?_⟩)))
     · rw [List.length_map]
       refine Nat.le_trans (Nat.mul_le_mul_right _ (Nat.add_le_add_right (List.length_filter_le _ _) _)) ?_
       rw [List.length_take]; simp only [List.length_cons, List.length_nil]; omega
     refine hn _ ⟨rfl, rfl, ?_, rfl, rfl, by dsimp only; omega, by dsimp only; omega⟩ (by dsimp only; omega)
     dsimp only
     rw [show (i + 1).toNat = i.toNat + 1 by omega, u65_ hzi, List.filter_append, List.map_append]
     rw [List.filter_cons]
     dsimp only
     rw [hf]
     rfl
   · refine hn _ ⟨rfl, rfl, ?_, rfl, rfl, by dsimp only; omega, by dsimp only; omega⟩ (by dsimp only; omega)
     dsimp only
     rw [show (i + 1).toNat = i.toNat + 1 by omega, u65_ hzi, List.filter_append, List.map_append]
     rw [List.filter_cons]
     dsimp only
     rw [hf]
     simp
 · have hc := of_decide_eq_false hc
   rw [List.take_of_length_le (by omega)]
theorem ub15_ (c : Bs) (rev : Int) (hc : BB c) : Tot (uuu_ (c, rev)) (fun r => CBok c → 0 ≤ rev → rev ≤ c.1 → r = ((rev, (c.1, (((c.2.1.zip c.2.2).filter (fun e => decide (rev < e.2))).map (·.1), ([] : List Str)))), 0)) := by
 unfold uuu_
 refine ua_.2 ((ub4n_ c hc).mono fun r1 h1 => ?_)
 refine uh_.2 ⟨fun he => ub_.2 fun hk => ?_, fun he => ?_⟩
 · rw [up_, h1.2 hk] at he; simp at he
 have g1 := h1.1 (by rw [up_] at he; simpa using he)
 refine uh_.2 ⟨fun he => ub_.2 fun _ a1 a2 => ?_, fun he => ?_⟩
 · simp at he; omega
 refine ua_.2 ((de_l2 rev c hc g1.2.2.1 g1.2.1).mono fun r h => ub_.2 fun _ _ _ => ?_)
 rw [h]
theorem ucbn_ (l : List Str) (h : l.length ≤ 1048576) : ug0_ (l, l) = some true := by
 have : Tot (uo1_ (l, l, (l.length : Int), 0)) (fun r => r = .inl ()) := by
  refine uu_ (R := fun r : Sum Unit Bool => r = .inl ()) (fun y : (List Str) × (List Str) × Int × Int => y.1 = l ∧ y.2.1 = l ∧ y.2.2.1 = l.length ∧ 0 ≤ y.2.2.2 ∧ y.2.2.2 ≤ l.length) (fun y => ((l.length : Int) - y.2.2.2).toNat) ?_ _ _ ⟨rfl, rfl, rfl, Int.le_refl _, Int.natCast_nonneg _⟩ (by unfold fuel; dsimp only; omega)
  rintro next ⟨a, b, n, i⟩ hI hn
  dsimp only at hI hn
  obtain ⟨rfl, rfl, rfl, i0, i1⟩ := hI
  unfold uyz_
  dsimp only
  refine uh_.2 ⟨fun hc => ?_, fun _ => ub_.2 rfl⟩
  have hc := of_decide_eq_true hc
  rw [ubj_ (by omega) (by omega)]
  refine ua_.2 (u2_.2 ⟨⟨i0, hc⟩, fun y hy => ua_.2 (u2_.2 ⟨⟨i0, hc⟩, fun z hz => ?_⟩)⟩)
  rw [hy] at hz
  cases hz
  rw [ux_]
  simp only [decide_true, Bool.not_true, cond_false]
  exact hn _ ⟨rfl, rfl, rfl, by dsimp only; omega, by dsimp only; omega⟩ (by dsimp only; omega)
 obtain ⟨r, hr, rfl⟩ := this
 unfold ug0_
 dsimp only
 rw [up_, hr]
 simp
theorem eq_ev (l : List (Int × Str)) (h : l.length ≤ 1048576) : ui2_ (l, l) = some true := by
 have : Tot (ukp_ (l, l, (l.length : Int), 0)) (fun r => r = .inl ()) := by
  refine uu_ (R := fun r : Sum Unit Bool => r = .inl ()) (fun y : YY23 × YY23 × Int × Int => y.1 = l ∧ y.2.1 = l ∧ y.2.2.1 = l.length ∧ 0 ≤ y.2.2.2 ∧ y.2.2.2 ≤ l.length) (fun y => ((l.length : Int) - y.2.2.2).toNat) ?_ _ _ ⟨rfl, rfl, rfl, Int.le_refl _, Int.natCast_nonneg _⟩ (by unfold fuel; dsimp only; omega)
  rintro next ⟨a, b, n, i⟩ hI hn
  dsimp only at hI hn
  obtain ⟨rfl, rfl, rfl, i0, i1⟩ := hI
  unfold uth_
  dsimp only
  refine uh_.2 ⟨fun hc => ?_, fun _ => ub_.2 rfl⟩
  have hc := of_decide_eq_true hc
  rw [ubj_ (by omega) (by omega)]
  refine ua_.2 (u2_.2 ⟨⟨i0, hc⟩, fun y hy => ua_.2 (u2_.2 ⟨⟨i0, hc⟩, fun z hz => ?_⟩)⟩)
  rw [hy] at hz
  cases hz
  rw [ux_, up_]
  simp only [decide_true, Bool.and_self, Bool.not_true, cond_false]
  exact hn _ ⟨rfl, rfl, rfl, by dsimp only; omega, by dsimp only; omega⟩ (by dsimp only; omega)
 obtain ⟨r, hr, rfl⟩ := this
 unfold ui2_
 dsimp only
 rw [up_, hr]
 simp
theorem ucdw_ (l : List Int) (h : l.length ≤ 1048576) : uuw_ (l, l) = some true := by
 have : Tot (uuv_ (l, l, (l.length : Int), 0)) (fun r => r = .inl ()) := by
  refine uu_ (R := fun r : Sum Unit Bool => r = .inl ()) (fun y : (List Int) × (List Int) × Int × Int => y.1 = l ∧ y.2.1 = l ∧ y.2.2.1 = l.length ∧ 0 ≤ y.2.2.2 ∧ y.2.2.2 ≤ l.length) (fun y => ((l.length : Int) - y.2.2.2).toNat) ?_ _ _ ⟨rfl, rfl, rfl, Int.le_refl _, Int.natCast_nonneg _⟩ (by unfold fuel; dsimp only; omega)
  rintro next ⟨a, b, n, i⟩ hI hn
  dsimp only at hI hn
  obtain ⟨rfl, rfl, rfl, i0, i1⟩ := hI
  unfold u54_
  dsimp only
  refine uh_.2 ⟨fun hc => ?_, fun _ => ub_.2 rfl⟩
  have hc := of_decide_eq_true hc
  rw [ubj_ (by omega) (by omega)]
  refine ua_.2 (u2_.2 ⟨⟨i0, hc⟩, fun y hy => ua_.2 (u2_.2 ⟨⟨i0, hc⟩, fun z hz => ?_⟩)⟩)
  rw [hy] at hz
  cases hz
  rw [up_]
  simp only [decide_true, Bool.not_true, cond_false]
  exact hn _ ⟨rfl, rfl, rfl, by dsimp only; omega, by dsimp only; omega⟩ (by dsimp only; omega)
 obtain ⟨r, hr, rfl⟩ := this
 unfold uuw_
 dsimp only
 rw [up_, hr]
 simp
theorem uccz_ {a : Af} (h : AfB a) : ujl_ (a, a) = some true := by
 obtain ⟨b1, b2, b3, b4, b5, b6, b7⟩ := h
 unfold ujl_
 dsimp only
 rw [ux_, up_, eq_ev _ b2, ucbn_ _ b4, ucbn_ _ b6]
 simp
theorem ucdx_ (l : List Af) (h : l.length ≤ 1048576) (hb : ∀ a ∈ l, AfB a) : ubv_ (l, l, (fun x => (ujl_ x).bind fun r => some r)) = some true := by
 have : Tot (ucn_ (l, (fun x => (ujl_ x).bind fun r => some r), l, (l.length : Int), 0)) (fun r => r = .inl ()) := by
  refine uu_ (R := fun r : Sum Unit Bool => r = .inl ()) (fun y : (List Af) × (Af × Af → Option Bool) × (List Af) × Int × Int => y.1 = l ∧ y.2.1 = (fun x => (ujl_ x).bind fun r => some r) ∧ y.2.2.1 = l ∧ y.2.2.2.1 = l.length ∧ 0 ≤ y.2.2.2.2 ∧ y.2.2.2.2 ≤ l.length) (fun y => ((l.length : Int) - y.2.2.2.2).toNat) ?_ _ _ ⟨rfl, rfl, rfl, rfl, Int.le_refl _, Int.natCast_nonneg _⟩ (by unfold fuel; dsimp only; omega)
  rintro next ⟨a, f, b, n, i⟩ hI hn
  dsimp only at hI hn
  obtain ⟨rfl, rfl, rfl, rfl, i0, i1⟩ := hI
  unfold ue8_
  dsimp only
  refine uh_.2 ⟨fun hc => ?_, fun _ => ub_.2 rfl⟩
  have hc := of_decide_eq_true hc
  rw [ubj_ (by omega) (by omega)]
  refine ua_.2 (u2_.2 ⟨⟨i0, hc⟩, fun y hy => ua_.2 (u2_.2 ⟨⟨i0, hc⟩, fun z hz => ?_⟩)⟩)
  rw [hy] at hz
  cases hz
  rw [uccz_ (hb y (uzx_ hy))]
  refine ua_.2 (ub_.2 ?_)
  simp only [Bool.not_true, cond_false]
  exact hn _ ⟨rfl, rfl, rfl, rfl, by dsimp only; omega, by dsimp only; omega⟩ (by dsimp only; omega)
 obtain ⟨r, hr, rfl⟩ := this
 unfold ubv_
 dsimp only
 rw [up_, hr]
 simp
theorem ucbo_ (b : Bool) : eqB b b = true := by cases b <;> rfl
theorem ucc0_ {a : Adv} (h : AdB a) : ubst_ (a, a) = some true := by
 obtain ⟨b1, b2, b3, b4, b5, b6, b7⟩ := h
 unfold ubst_
 dsimp only
 rw [ux_, ux_, ux_, up_, ucbo_, ucbn_ _ b2, ucdx_ _ b6 b7]
 simp
theorem ucc1_ (l : List Adv) (h : l.length ≤ 1048576) (hb : ∀ a ∈ l, AdB a) : ubg_ (l, l, (fun x => (ubst_ x).bind fun r => some r)) = some true := by
 have : Tot (ucm_ (l, (fun x => (ubst_ x).bind fun r => some r), l, (l.length : Int), 0)) (fun r => r = .inl ()) := by
  refine uu_ (R := fun r : Sum Unit Bool => r = .inl ()) (fun y : (List Adv) × (Adv × Adv → Option Bool) × (List Adv) × Int × Int => y.1 = l ∧ y.2.1 = (fun x => (ubst_ x).bind fun r => some r) ∧ y.2.2.1 = l ∧ y.2.2.2.1 = l.length ∧ 0 ≤ y.2.2.2.2 ∧ y.2.2.2.2 ≤ l.length) (fun y => ((l.length : Int) - y.2.2.2.2).toNat) ?_ _ _ ⟨rfl, rfl, rfl, rfl, Int.le_refl _, Int.natCast_nonneg _⟩ (by unfold fuel; dsimp only; omega)
  rintro next ⟨a, f, b, n, i⟩ hI hn
  dsimp only at hI hn
  obtain ⟨rfl, rfl, rfl, rfl, i0, i1⟩ := hI
  unfold ue7_
  dsimp only
  refine uh_.2 ⟨fun hc => ?_, fun _ => ub_.2 rfl⟩
  have hc := of_decide_eq_true hc
  rw [ubj_ (by omega) (by omega)]
  refine ua_.2 (u2_.2 ⟨⟨i0, hc⟩, fun y hy => ua_.2 (u2_.2 ⟨⟨i0, hc⟩, fun z hz => ?_⟩)⟩)
  rw [hy] at hz
  cases hz
  rw [ucc0_ (hb y (uzx_ hy))]
  refine ua_.2 (ub_.2 ?_)
  simp only [Bool.not_true, cond_false]
  exact hn _ ⟨rfl, rfl, rfl, rfl, by dsimp only; omega, by dsimp only; omega⟩ (by dsimp only; omega)
 obtain ⟨r, hr, rfl⟩ := this
 unfold ubg_
 dsimp only
 rw [up_, hr]
 simp
theorem ucdy_ {b : Bs} (h1 : b.2.1.length ≤ 1048576) (h2 : b.2.2.length ≤ 1048576) (h : BB b) : ubiz_ (b, b) = some true := by
 unfold ubiz_
 dsimp only
 rw [up_, ucc1_ _ h1 h, ucdw_ _ h2]
 simp
end Go.Ev.Pv
namespace Go.Ev.Pv
theorem told5 : ub1d_ () = some true := by kernel_rfl
def StrE (s : List En) : Prop := s.Pairwise (fun x y => x.1.1 < y.1.1)
theorem ub70_ {l : List Adv} (h : ∀ j, j < l.length → okR l j) : l.Pairwise (fun x y => x.1 < y.1) := by
 rw [List.pairwise_iff_getElem]
 have step : ∀ (k i : Nat) (hi : i < l.length) (hj : i + k + 1 < l.length), l[i].1 < l[i + k + 1].1 := by
  intro k
  induction k with
  | zero => intro i hi hj; exact (h (i + 1) hj _ (List.getElem?_eq_getElem hj)).2 (by omega) _ (List.getElem?_eq_getElem (by omega))
  | succ k ih =>
    intro i hi hj
    have h1 := ih i hi (by omega)
    have h2 := (h (i + (k + 1) + 1) hj _ (List.getElem?_eq_getElem hj)).2 (by omega) l[i + k + 1] (List.getElem?_eq_getElem (by omega))
    exact ub7v_ h1 h2
 intro i j hi hj hij
 have := step (j - i - 1) i hi (by omega)
 have e : i + (j - i - 1) + 1 = j := by omega
 simp only [e] at this
 exact this
theorem ucab_ {l : List Adv} (h : l.Pairwise (fun x y => x.1 < y.1)) (hk : ∀ a ∈ l, chk a = 0) : ∀ j, j < l.length → okR l j := by
 intro j hj a ha
 refine ⟨hk a (uzx_ ha), fun h0 a' ha' => ?_⟩
 rw [List.pairwise_iff_getElem] at h
 have h1 := h (j - 1) j (by omega) hj (by omega)
 rw [List.getElem?_eq_getElem hj] at ha
 rw [List.getElem?_eq_getElem (by omega)] at ha'
 cases ha
 cases ha'
 exact h1
theorem ucc2_ {l : List Adv} (h : ∀ j, j < l.length → okR l j) : ∀ a ∈ l, chk a = 0 := by
 intro a ha
 obtain ⟨j, hj, rfl⟩ := List.mem_iff_getElem.1 ha
 exact (h j hj _ (List.getElem?_eq_getElem hj)).1
theorem ubyq_ {s : List En} : (s.map (·.1)).Pairwise (fun x y => x.1 < y.1) ↔ StrE s := by unfold StrE; rw [List.pairwise_map]
def NdE (s : List En) : Prop := s.Pairwise (fun x y => x.1.1 ≠ y.1.1)
theorem ub9m_ {s : List En} (h : StrE s) : NdE s := h.imp fun {a b} h e => by rw [e] at h; exact sirr _ h
theorem ub4p_ {s t : List En} (h : s.Perm t) : NdE s ↔ NdE t := h.pairwise_iff fun h e => h e.symm
theorem ubuq_ {s : List En} (h : ub4o_ s) (hn : NdE s) : StrE s := by
 unfold ub4o_ at h
 unfold NdE at hn
 unfold StrE
 exact (List.Pairwise.and h hn).imp fun {a b} ⟨h1, h2⟩ => by
  rcases stri a.1.1 b.1.1 with g | g | g
  · exact g
  · exact absurd g h2
  · exact absurd g h1
theorem ub4q_ {α : Type} {f : α → Str} {s t : List α} (h : s.Perm t) (h1 : s.Pairwise (fun x y => f x < f y)) (h2 : t.Pairwise (fun x y => f x < f y)) : s = t :=
 List.Perm.eq_of_pairwise (le := fun x y => f x < f y) (fun a b _ _ g1 g2 => absurd g2 (sasym g1)) h1 h2 h
theorem ubnx_ (s : List En) : (s.map (·.1)).zip (s.map (·.2)) = s := by
 rw [List.zip_map']
 simp
theorem ubw5_ (l : List Adv) (s : Str) : isIn l s = true ↔ ∃ a ∈ l, a.1 = s := by
 unfold isIn
 simp
section
variable {b : Bs} {d : Dl} (hb : BB b) (hbl : b.2.1.length ≤ 1048576) (hd : DB d) (h0 : d.2.2.2 = [])
theorem ucbp_ (h : CBok b) : StrE (b.2.1.zip b.2.2) := by
 have := ub70_ fun j hj => (h.2.2.2 j hj).1
 rw [← List.map_fst_zip (l₁ := b.2.1) (l₂ := b.2.2) (by have := h.2.2.1; omega)] at this
 exact ubyq_.1 this
theorem ub3m_ (h : CBok b) : ∀ e ∈ b.2.1.zip b.2.2, chk e.1 = 0 ∧ 0 ≤ e.2 ∧ e.2 ≤ b.1 := by
 intro e he
 obtain ⟨j, hj⟩ := List.mem_iff_getElem?.1 he
 obtain ⟨h1, h2⟩ := List.getElem?_zip_eq_some.1 hj
 have hlt := (List.getElem?_eq_some_iff.1 h1).1
 have := h.2.2.2 j hlt
 exact ⟨(this.1 _ h1).1, this.2 _ h2⟩
theorem ub4r_ (h : CBok b) (hk : CDok b d) : NdE (allE b d) := by
 unfold NdE allE
 rw [List.pairwise_append]
 refine ⟨?_, ?_, ?_⟩
 · rw [List.pairwise_map]
   exact (ub70_ hk.2.2.2).imp fun {x y} h e => by dsimp only at e; rw [e] at h; exact sirr _ h
 · exact (ub9m_ (ucbp_ h)).filter _
 · intro x hx y hy e
   obtain ⟨a, ha, rfl⟩ := List.mem_map.1 hx
   have hy2 := (List.mem_filter.1 hy).2
   have : isIn d.2.2.1 y.1.1 = true := (ubw5_ _ _).2 ⟨a, ha, e⟩
   rw [this] at hy2
   cases hy2
theorem ub71_ (h : CBok b) (hk : CDok b d) : ∀ e ∈ allE b d, chk e.1 = 0 ∧ 0 ≤ e.2 ∧ e.2 ≤ d.2.1 := by
 intro e he
 unfold allE at he
 rcases List.mem_append.1 he with he | he
 · obtain ⟨a, ha, rfl⟩ := List.mem_map.1 he
   have := h.1.1
   have := hk.1
   have := hk.2.1
   exact ⟨ucc2_ hk.2.2.2 a ha, by dsimp only; omega, Int.le_refl _⟩
 · have := ub3m_ h e (List.mem_filter.1 he).1
   have := hk.1
   have := hk.2.1
   omega
theorem ucc3_ (h : CBok b) (hk : CDok b d) {s : List En} (hs : s.Perm (allE b d)) (ho : ub4o_ s) (hl : (allE b d).length ≤ 2000) : CBok (d.2.1, (s.map (·.1), s.map (·.2))) := by
 have hst : StrE s := ubuq_ ho ((ub4p_ hs).2 (ub4r_ h hk))
 have h1 := h.1.1
 have h2 := hk.1
 have h3 := hk.2.1
 have h4 := hk.2.2.1
 have hsl := hs.length_eq
 refine ⟨⟨by dsimp only; omega, by dsimp only; omega⟩, by dsimp only; rw [List.length_map]; omega, by dsimp only; rw [List.length_map, List.length_map], fun j hj => ?_⟩
 refine ⟨?_, ?_⟩
 · refine ucab_ (ubyq_.2 hst) (fun a ha => ?_) j hj
   obtain ⟨e, he, rfl⟩ := List.mem_map.1 ha
   exact (ub71_ h hk e (hs.mem_iff.1 he)).1
 · intro x hx
   dsimp only at hx
   rw [List.getElem?_map] at hx
   obtain ⟨e, he, rfl⟩ := Option.map_eq_some_iff.1 hx
   exact (ub71_ h hk e (hs.mem_iff.1 (uzx_ he))).2
theorem newer (h : CBok b) (hk : CDok b d) : (allE b d).filter (fun e => decide (b.1 < e.2)) = d.2.2.1.map (fun a => (a, d.2.1)) := by
 unfold allE
 rw [List.filter_append]
 have e1 : (d.2.2.1.map (fun a => (a, d.2.1))).filter (fun e => decide (b.1 < e.2)) = d.2.2.1.map (fun a => (a, d.2.1)) := by
  rw [List.filter_eq_self]
  intro e he
  obtain ⟨a, ha, rfl⟩ := List.mem_map.1 he
  have := hk.1
  have := hk.2.1
  exact decide_eq_true (by dsimp only; omega)
 have e2 : ((b.2.1.zip b.2.2).filter (fun e => !isIn d.2.2.1 e.1.1)).filter (fun e => decide (b.1 < e.2)) = [] := by
  rw [List.filter_eq_nil_iff]
  intro e he
  have := (ub3m_ h e (List.mem_filter.1 he).1).2.2
  simp only [decide_eq_true_eq]
  omega
 rw [e1, e2, List.append_nil]
theorem ucac_ : BB b → DB d → ∀ e ∈ allE b d, AdB e.1 := by
 intro hb hd e he
 unfold allE at he
 rcases List.mem_append.1 he with he | he
 · obtain ⟨a, ha, rfl⟩ := List.mem_map.1 he
   exact hd.2 a ha
 · obtain ⟨j, hj⟩ := List.mem_iff_getElem?.1 (List.mem_filter.1 he).1
   exact hb _ (uzx_ (List.getElem?_zip_eq_some.1 hj).1)
end
theorem ucbq_ {b : Bs} {d x : Dl} {s1 s2 : List En} (h : CBok b) (hk : CDok b d) (hs1 : s1.Perm (allE b d)) (hc : CBok (d.2.1, (s1.map (·.1), s1.map (·.2)))) (hkx : CDok (d.2.1, (s1.map (·.1), s1.map (·.2))) x)
 (hs2 : s2.Perm (allE (d.2.1, (s1.map (·.1), s1.map (·.2))) x)) (P : List Adv) (hP : P = (s2.filter (fun e => decide (b.1 < e.2))).map (·.1)) :
 (P ++ ((b.2.1.zip b.2.2).filter (fun e => !isIn P e.1.1)).map (·.1)).Perm (s2.map (·.1)) := by
 have hbt : b.1 < d.2.1 := by have := hk.1; have := hk.2.1; omega
 have hxt : d.2.1 < x.2.1 := by have := hkx.1; have := hkx.2.1; dsimp only at *; omega
 have hall : allE (d.2.1, (s1.map (·.1), s1.map (·.2))) x = x.2.2.1.map (fun a => (a, x.2.1)) ++ s1.filter (fun e => !isIn x.2.2.1 e.1.1) := by
  unfold allE
  dsimp only
  rw [ubnx_]
 rw [hall] at hs2
 have hn1 : (s2.filter (fun e => decide (b.1 < e.2))).Perm (x.2.2.1.map (fun a => (a, x.2.1)) ++ (d.2.2.1.map (fun a => (a, d.2.1))).filter (fun e => !isIn x.2.2.1 e.1.1)) := by
  refine (hs2.filter _).trans ?_
  rw [List.filter_append]
  have e1 : (x.2.2.1.map (fun a => (a, x.2.1))).filter (fun e => decide (b.1 < e.2)) = x.2.2.1.map (fun a => (a, x.2.1)) := by
   rw [List.filter_eq_self]
   intro e he
   obtain ⟨a, ha, rfl⟩ := List.mem_map.1 he
   exact decide_eq_true (by dsimp only; omega)
  rw [e1]
  refine List.Perm.append_left _ ?_
  rw [List.filter_filter]
  have e2 : (fun e : En => decide (b.1 < e.2) && !isIn x.2.2.1 e.1.1) = fun e => (!isIn x.2.2.1 e.1.1) && decide (b.1 < e.2) := by funext e; rw [Bool.and_comm]
  rw [e2, ← List.filter_filter]
  refine ((hs1.filter _).filter _).trans ?_
  rw [newer h hk]
 have ho1 : (s2.filter (fun e => !decide (b.1 < e.2))).Perm ((b.2.1.zip b.2.2).filter (fun e => !isIn d.2.2.1 e.1.1 && !isIn x.2.2.1 e.1.1)) := by
  refine (hs2.filter _).trans ?_
  rw [List.filter_append]
  have e1 : (x.2.2.1.map (fun a => (a, x.2.1))).filter (fun e => !decide (b.1 < e.2)) = [] := by
   rw [List.filter_eq_nil_iff]
   intro e he
   obtain ⟨a, ha, rfl⟩ := List.mem_map.1 he
   have : b.1 < x.2.1 := by omega
   simp [this]
  rw [e1, List.nil_append]
  refine ((hs1.filter _).filter _).trans ?_
  unfold allE
  rw [List.filter_append, List.filter_append]
  have e3 : ((d.2.2.1.map (fun a => (a, d.2.1))).filter (fun e => !isIn x.2.2.1 e.1.1)).filter (fun e => !decide (b.1 < e.2)) = [] := by
   rw [List.filter_eq_nil_iff]
   intro e he
   obtain ⟨a, ha, rfl⟩ := List.mem_map.1 (List.mem_filter.1 he).1
   simp [hbt]
  rw [e3, List.nil_append, List.filter_filter, List.filter_filter]
  refine List.Perm.of_eq (List.filter_congr fun e he => ?_)
  have := (ub3m_ h e he).2.2
  have hf : decide (b.1 < e.2) = false := decide_eq_false (by omega)
  rw [hf, Bool.not_false, Bool.true_and, Bool.and_comm]
 have hpin : ∀ s : Str, isIn P s = true ↔ (isIn x.2.2.1 s = true ∨ isIn d.2.2.1 s = true) := by
  intro s
  rw [ubw5_, ubw5_, ubw5_, hP]
  constructor
  · rintro ⟨a, ha, rfl⟩
    obtain ⟨e, he, rfl⟩ := List.mem_map.1 ha
    rcases List.mem_append.1 (hn1.mem_iff.1 he) with h1 | h1
    · obtain ⟨a', ha', e'⟩ := List.mem_map.1 h1; exact Or.inl ⟨a', ha', by rw [← e']⟩
    · obtain ⟨a', ha', e'⟩ := List.mem_map.1 (List.mem_filter.1 h1).1; exact Or.inr ⟨a', ha', by rw [← e']⟩
  · intro hor
    by_cases hx : ∃ a ∈ x.2.2.1, a.1 = s
    · obtain ⟨a, ha, rfl⟩ := hx
      exact ⟨a, List.mem_map.2 ⟨(a, x.2.1), hn1.mem_iff.2 (List.mem_append_left _ (List.mem_map.2 ⟨a, ha, rfl⟩)), rfl⟩, rfl⟩
    · rcases hor with hor | ⟨a, ha, rfl⟩
      · exact absurd hor hx
      · refine ⟨a, List.mem_map.2 ⟨(a, d.2.1), hn1.mem_iff.2 (List.mem_append_right _ (List.mem_filter.2 ⟨List.mem_map.2 ⟨a, ha, rfl⟩, ?_⟩)), rfl⟩, rfl⟩
        have : ¬ isIn x.2.2.1 a.1 = true := fun e => hx ((ubw5_ _ _).1 e)
        simpa using this
 have e4 : (b.2.1.zip b.2.2).filter (fun e => !isIn P e.1.1) = (b.2.1.zip b.2.2).filter (fun e => !isIn d.2.2.1 e.1.1 && !isIn x.2.2.1 e.1.1) := by
  refine List.filter_congr fun e _ => ?_
  have := hpin e.1.1
  revert this
  generalize isIn P e.1.1 = u
  generalize isIn x.2.2.1 e.1.1 = v
  generalize isIn d.2.2.1 e.1.1 = w
  cases u <;> cases v <;> cases w <;> simp
 rw [e4]
 have hsplit : (s2.filter (fun e => decide (b.1 < e.2)) ++ s2.filter (fun e => !decide (b.1 < e.2))).Perm s2 := List.filter_append_perm _ _
 rw [hP]
 refine (List.Perm.append_left _ (ho1.symm.map _)).trans ?_
 rw [← List.map_append]
 exact hsplit.map _
theorem law6 (b : Bs) (d x : Dl) (hb : BB b) (hbl : b.2.1.length ≤ 1048576) (hd : DB d) (hx : DB x) : uo2_ (b, d, x) = some true := by
 unfold uo2_
 dsimp only
 have hd' : DB (d.1, (d.2.1, (d.2.2.1, ([] : List Str)))) := hd
 obtain ⟨r1, e1, a1⟩ := ubw4_ b (d.1, (d.2.1, (d.2.2.1, ([] : List Str)))) hb hbl hd' rfl
 rw [e1, Option.bind_some]
 by_cases hr1 : r1.2 = 0
 case neg =>
  have : eqI r1.2 0 = false := by rw [up_]; exact decide_eq_false hr1
  rw [this, told5]; rfl
 have g1 : eqI r1.2 0 = true := by rw [up_]; exact decide_eq_true hr1
 obtain ⟨hk, hkd, hl1⟩ := a1.1.1 hr1
 obtain ⟨s1, p1, o1, q1⟩ := a1.2 hr1
 obtain ⟨c, ec⟩ : ∃ c, c = r1.1 := ⟨_, rfl⟩
 rw [g1, ← ec]
 rw [← ec] at q1
 dsimp only at q1
 simp only [Bool.not_true, cond_false]
 have hc : CBok c := by rw [q1]; exact ucc3_ hk hkd p1 o1 hl1
 have hcB : BB c := by
  intro a ha
  rw [q1] at ha
  obtain ⟨e, he, rfl⟩ := List.mem_map.1 ha
  exact ucac_ hb hd' e (p1.mem_iff.1 he)
 have hc1 : c.1 = d.2.1 := by rw [q1]
 have hb1 : b.1 < c.1 := by have := hkd.1; have := hkd.2.1; dsimp only at *; omega
 obtain ⟨r3, e3, a3⟩ := ub15_ c b.1 hcB
 have a3 := a3 hc hk.1.1 (by omega)
 rw [e3, Option.bind_some, a3]
 have hs1 : StrE s1 := ubuq_ o1 ((ub4p_ p1).2 (ub4r_ hk hkd))
 have hput : ((c.2.1.zip c.2.2).filter (fun e => decide (b.1 < e.2))).map (·.1) = d.2.2.1 := by
  rw [q1]
  dsimp only
  rw [ubnx_]
  have hp : (s1.filter (fun e => decide (b.1 < e.2))).Perm (d.2.2.1.map (fun a => (a, d.2.1))) := by
   have := p1.filter (fun e => decide (b.1 < e.2))
   rwa [newer hk hkd] at this
  have hp2 := hp.map (fun e : En => e.1)
  rw [List.map_map] at hp2
  have e5 : d.2.2.1.map ((fun e : En => e.1) ∘ fun a => (a, d.2.1)) = d.2.2.1 := by
   rw [show ((fun e : En => e.1) ∘ fun a => (a, d.2.1)) = id from rfl, List.map_id]
  rw [e5] at hp2
  refine ub4q_ (f := fun a : Adv => a.1) hp2 ?_ (ub70_ hkd.2.2.2)
  exact ubyq_.2 (hs1.filter _)
 have et : ((b.1, (c.1, (((c.2.1.zip c.2.2).filter (fun e => decide (b.1 < e.2))).map (·.1), ([] : List Str)))) : Dl) = (d.1, (d.2.1, (d.2.2.1, []))) := by
  rw [hput, hc1, ← hkd.1]
 dsimp only
 rw [et, e1, Option.bind_some]
 simp only [up_, hr1, decide_true, Bool.not_true, cond_false, Bool.not_false, cond_true]
 rw [← ec]
 have hcl : c.2.1.length ≤ 2000 := hc.2.1
 rw [ucdy_ (by omega) (by rw [hc.2.2.1]; omega) hcB, Option.bind_some]
 simp only [Bool.not_true, Bool.or_false, cond_false]
 have hx' : DB (c.1, (x.2.1, (x.2.2.1, ([] : List Str)))) := hx
 obtain ⟨r6, e6, a6⟩ := ubw4_ c (c.1, (x.2.1, (x.2.2.1, ([] : List Str)))) hcB (by omega) hx' rfl
 rw [e6, Option.bind_some]
 by_cases hr6 : r6.2 = 0
 case neg => rw [decide_eq_false hr6, told5]; rfl
 obtain ⟨_, hkx, hl6⟩ := a6.1.1 hr6
 obtain ⟨s2, p2, o2, q2⟩ := a6.2 hr6
 obtain ⟨y, ey⟩ : ∃ y, y = r6.1 := ⟨_, rfl⟩
 rw [decide_eq_true hr6, ← ey]
 rw [← ey] at q2
 dsimp only at q2
 simp only [Bool.not_true, cond_false]
 have hy : CBok y := by rw [q2]; exact ucc3_ hc hkx p2 o2 hl6
 have hyB : BB y := by
  intro a ha
  rw [q2] at ha
  obtain ⟨e, he, rfl⟩ := List.mem_map.1 ha
  exact ucac_ hcB hx' e (p2.mem_iff.1 he)
 have hy1 : y.1 = x.2.1 := by rw [q2]
 have hcy : c.1 < y.1 := by have := hkx.1; have := hkx.2.1; dsimp only at *; omega
 obtain ⟨r8, e8, a8⟩ := ub15_ y b.1 hyB
 have a8 := a8 hy hk.1.1 (by omega)
 rw [e8, Option.bind_some, a8]
 dsimp only
 obtain ⟨P, eP⟩ : ∃ P, P = ((y.2.1.zip y.2.2).filter (fun e => decide (b.1 < e.2))).map (·.1) := ⟨_, rfl⟩
 rw [← eP]
 have hs2 : StrE s2 := ubuq_ o2 ((ub4p_ p2).2 (ub4r_ hc hkx))
 have eP2 : P = (s2.filter (fun e => decide (b.1 < e.2))).map (·.1) := by
  rw [eP, q2]
  dsimp only
  rw [ubnx_]
 have hPstr : P.Pairwise (fun x y => x.1 < y.1) := by rw [eP2]; exact ubyq_.2 (hs2.filter _)
 have hPm : ∀ a ∈ P, a ∈ s2.map (·.1) := by
  intro a ha
  rw [eP2] at ha
  obtain ⟨e, he, rfl⟩ := List.mem_map.1 ha
  exact List.mem_map.2 ⟨e, (List.mem_filter.1 he).1, rfl⟩
 have hys : y.2.1 = s2.map (·.1) := by rw [q2]
 have hPl : P.length ≤ 2000 := by
  have h1 : P.length ≤ s2.length := by rw [eP2, List.length_map]; exact List.length_filter_le _ _
  have h2 : s2.length = y.2.1.length := by rw [hys, List.length_map]
  have := hy.2.1
  omega
 have hPD : DB (b.1, (y.1, (P, ([] : List Str)))) := ⟨by dsimp only; omega, fun a ha => hyB a (by rw [hys]; exact hPm a ha)⟩
 have hPk : CDok b (b.1, (y.1, (P, ([] : List Str)))) := by
  refine ⟨rfl, by dsimp only; omega, hy.1.2, ?_⟩
  refine ucab_ hPstr fun a ha => ?_
  have := hPm a ha
  rw [← hys] at this
  exact ucc2_ (fun j hj => (hy.2.2.2 j hj).1) a this
 have hperm : (P ++ ((b.2.1.zip b.2.2).filter (fun e => !isIn P e.1.1)).map (·.1)).Perm y.2.1 := by
  rw [hys]
  rw [q1] at p2 hc hkx
  exact ucbq_ hk hkd p1 hc hkx p2 P eP2
 obtain ⟨r9, e9, a9⟩ := ubw4_ b (b.1, (y.1, (P, ([] : List Str)))) hb hbl hPD rfl
 have hmapall : (allE b (b.1, (y.1, (P, ([] : List Str))))).map (·.1) = P ++ ((b.2.1.zip b.2.2).filter (fun e => !isIn P e.1.1)).map (·.1) := by
  unfold allE
  dsimp only
  rw [List.map_append, List.map_map]
  congr 1
  rw [show ((fun e : En => e.1) ∘ fun a => (a, y.1)) = id from rfl, List.map_id]
 have hl9 : (allE b (b.1, (y.1, (P, ([] : List Str))))).length ≤ 2000 := by
  have h1 : ((allE b (b.1, (y.1, (P, ([] : List Str))))).map (·.1)).length = y.2.1.length := by rw [hmapall]; exact hperm.length_eq
  rw [List.length_map] at h1
  have := hy.2.1
  omega
 have hr9 : r9.2 = 0 := a9.1.2 ⟨hk, hPk, hl9⟩
 obtain ⟨s3, p3, o3, q3⟩ := a9.2 hr9
 rw [e9, Option.bind_some]
 dsimp only at q3
 have hz : r9.1.2.1 = y.2.1 := by
  rw [q3]
  dsimp only
  refine ub4q_ (f := fun a : Adv => a.1) ?_ (ubyq_.2 (ubuq_ o3 ((ub4p_ p3).2 (ub4r_ hk hPk)))) (by rw [hys]; exact ubyq_.2 hs2)
  have := p3.map (fun e : En => e.1)
  rw [hmapall] at this
  exact this.trans hperm
 have hz1 : r9.1.1 = y.1 := by rw [q3]
 have hyl : y.2.1.length ≤ 1048576 := by have := hy.2.1; omega
 rw [hr9, hz1, hz, ucc1_ _ hyl hyB, told5]
 simp
end Go.Ev.Pv
