/-
  That the plain functions give an answer, second part: versions.
-/
import Derived.Test.YthmppjbjlbaahaaGreatDoorA1
import Derived.Sort.AssemblyPlain
set_option linter.unusedVariables false
set_option linter.unusedSimpArgs false
set_option linter.unusedSectionVars false
set_option maxRecDepth 100000
namespace Go.Ev.Pv
theorem ub7u_ : ∀ (x y : Str), Op.bytesLess x y = decide (x < y) := by
 intro x
 induction x with
 | nil => intro y; cases y <;> simp [Op.bytesLess]
 | cons a x ih =>
   intro y
   cases y with
   | nil => simp [Op.bytesLess]
   | cons b y =>
     rw [Op.bytesLess, ih y]
     simp only [List.cons_lt_cons_iff]
     by_cases h1 : a < b <;> by_cases h2 : a = b <;> by_cases h3 : x < y <;> simp [h1, h2, h3]
theorem sirr (a : Str) : ¬ a < a := List.lt_irrefl a
theorem ub7v_ {a b c : Str} (h1 : a < b) (h2 : b < c) : a < c := List.lt_trans h1 h2
theorem stri (a b : Str) : a < b ∨ a = b ∨ b < a := by
 by_cases h1 : a < b
 · exact Or.inl h1
 · by_cases h2 : b < a
   · exact Or.inr (Or.inr h2)
   · exact Or.inr (Or.inl (List.le_antisymm (List.not_lt.1 h2) (List.not_lt.1 h1)))
theorem sntr {a b c : Str} (h1 : ¬ a < b) (h2 : ¬ b < c) : ¬ a < c := by
 intro h
 rcases stri a b with h3 | h3 | h3
 · exact h1 h3
 · subst h3; exact h2 h
 · exact h2 (ub7v_ h3 h)
theorem sasym {a b : Str} (h1 : a < b) : ¬ b < a := fun h2 => sirr a (ub7v_ h1 h2)
def cmpS (a b : Str) : Int := if a < b then -1 else if a = b then 0 else 1
theorem u1x_ (a b : Str) : ud3_ (a, b) = some (cmpS a b) := by
 unfold ud3_ uki_ cmpS
 have e : ∀ s : Str, eqS s s = true := fun s => by rw [ux_]; simp
 simp only [e, Bool.not_true, Option.bind_some, cond_false, ub7u_, ux_]
 by_cases h2 : a = b
 · subst h2; simp [sirr]
 · by_cases h1 : a < b <;> simp [h1, h2]
theorem ub7w_ (a b : Str) : cmpS a b < 0 ↔ a < b := by
 unfold cmpS
 by_cases h2 : a = b
 · subst h2; simp [sirr]
 · by_cases h1 : a < b <;> simp [h1, h2]
def cmpI (a b : Int) : Int := if a < b then -1 else if b < a then 1 else 0
theorem uban_ (a b : Int) : unh_ (a, b) = some (cmpI a b) := by
 unfold unh_ u50_ cmpI
 have e : ∀ s : Int, eqI s s = true := fun s => by rw [up_]; simp
 simp only [e, Bool.not_true, Option.bind_some, cond_false]
 by_cases h1 : a < b <;> by_cases h2 : b < a <;> simp [h1, h2]
section
variable {T : Type}
theorem ubyp_ (xs : List T) (F : T × T → Option Int) (h : ubqs_ xs F) : Tot (ubxa_ xs F) (fun r => r.Perm xs ∧ r.Pairwise (fun a b => ∀ c, F (b, a) = some c → 0 ≤ c)) := by
 unfold ubxa_
 split
 · rename_i h0
   unfold ifB
   rw [decide_eq_true h]
   refine ub_.2 ?_
   letI : Inhabited (Fin xs.length) := ⟨⟨0, h0⟩⟩
   have hs : Sort.SWO (ltAt xs F) := ⟨h.2.1, h.2.2.1, h.2.2.2⟩
   have hp := Sort.pdq_sorts (ltAt xs F) hs (Array.ofFn id) 0 xs.length (Lib.bitLen xs.length) true true (Nat.zero_le _) (by simp) (Or.inl rfl)
   have e : ubl0_ xs F h0 = Sort.pdq (ltAt xs F) (Array.ofFn id) 0 xs.length (Lib.bitLen xs.length) true true := ub4j_ xs F h0
   rw [e]
   generalize Sort.pdq (ltAt xs F) (Array.ofFn id) 0 xs.length (Lib.bitLen xs.length) true true = d at hp
   obtain ⟨⟨h1, _, h3⟩, h4⟩ := hp
   have hsz : d.size = xs.length := by rw [h1]; simp
   have e1 : d.extract 0 xs.length = d := by
    have := Array.extract_size (xs := d)
    rwa [hsz] at this
   have e2 : (Array.ofFn (id : Fin xs.length → Fin xs.length)).extract 0 xs.length = Array.ofFn id := by
    have := Array.extract_size (xs := Array.ofFn (id : Fin xs.length → Fin xs.length))
    rwa [Array.size_ofFn] at this
   rw [e1, e2] at h3
   constructor
   · have h5 := h3.map xs.get
     have e3 : (Array.ofFn (id : Fin xs.length → Fin xs.length)).toList.map xs.get = xs := by
      rw [Array.toList_ofFn, List.map_ofFn]
      apply List.ext_getElem
      · simp
      · intro i h1 h2; simp
     rwa [e3] at h5
   · rw [List.pairwise_map, List.pairwise_iff_getElem]
     intro i j hi hj hij c hc
     have hl : d.toList.length = xs.length := by rw [Array.length_toList]; exact hsz
     have h6 := h4 i j (Nat.zero_le _) hij (by omega)
     rw [getElem!_pos d i (by omega), getElem!_pos d j (by omega)] at h6
     unfold ltAt cfAt at h6
     rw [Array.getElem_toList, Array.getElem_toList] at hc
     rw [hc] at h6
     simpa using h6
 · rename_i h0
   have : xs = [] := List.length_eq_zero_iff.1 (by omega)
   subst this
   exact ub_.2 ⟨List.Perm.refl _, List.Pairwise.nil⟩
theorem ub3l_ (xs : List T) (F : T × T → Option Int) (key : T → Str) (hF : ∀ a b, F (a, b) = some (cmpS (key a) (key b))) : ubqs_ xs F := by
 have e : ∀ i j, ltAt xs F i j = decide (key (xs.get i) < key (xs.get j)) := by
  intro i j
  unfold ltAt cfAt
  rw [hF]
  simp [ub7w_]
 refine ⟨fun i j => by rw [hF]; rfl, fun i => ?_, fun i j k => ?_, fun i j k => ?_⟩
 · rw [e]; simp [sirr]
 · rw [e, e, e]; simp only [decide_eq_true_eq]; exact ub7v_
 · rw [e, e, e]; simp only [decide_eq_false_iff_not]; exact sntr
theorem ub7x_ (xs : List T) (F : T × T → Option Int) (key : T → Str) (hF : ∀ a b, F (a, b) = some (cmpS (key a) (key b))) :
 Tot (ubxa_ xs F) (fun r => r.Perm xs ∧ r.Pairwise (fun a b => ¬ key b < key a)) :=
 (ubyp_ xs F (ub3l_ xs F key hF)).mono fun r hr => ⟨hr.1, hr.2.imp fun {a b} h hlt => by
  have := h _ (hF b a)
  have := (ub7w_ (key b) (key a)).2 hlt
  omega⟩
end
abbrev Edge := Int × Str × Bool × Str
abbrev ubii_ := Edge × Edge
def eo (a b : Edge) : Int := if a.1 ≠ b.1 ∨ a.1 ≠ 0 then cmpI a.1 b.1 else if cmpS a.2.1 b.2.1 ≠ 0 ∨ a.2.2.1 = b.2.2.1 then cmpS a.2.1 b.2.1 else if a.2.2.1 then 1 else -1
theorem u1y_ (a b : Edge) : uev_ (a, b) = some (eo a b) := by
 unfold uev_ eo
 dsimp only
 rw [uban_, u1x_]
 simp only [Option.bind_some, up_]
 by_cases h1 : a.1 = b.1
 · by_cases h2 : a.1 = 0
   · have hb : eqB a.2.2.1 b.2.2.1 = decide (a.2.2.1 = b.2.2.1) := by cases a.2.2.1 <;> cases b.2.2.1 <;> rfl
     rw [hb]
     by_cases h3 : cmpS a.2.1 b.2.1 = 0 <;> by_cases h4 : a.2.2.1 = b.2.2.1 <;> simp [← h1, h2, h3, h4] <;> (cases a.2.2.1 <;> simp)
   · simp [← h1, h2]
 · simp [h1]
def elt (a b : Edge) : Prop := a.1 < b.1 ∨ (a.1 = b.1 ∧ a.1 = 0 ∧ (a.2.1 < b.2.1 ∨ (a.2.1 = b.2.1 ∧ a.2.2.1 = false ∧ b.2.2.1 = true)))
theorem uccu_ (a b : Edge) : eo a b < 0 ↔ elt a b := by
 unfold eo elt cmpI
 by_cases h1 : a.1 = b.1
 · by_cases h2 : a.1 = 0
   · have hb : b.1 = 0 := by omega
     have g1 : ¬ (a.1 ≠ b.1 ∨ a.1 ≠ 0) := by omega
     rw [if_neg g1]
     rcases stri a.2.1 b.2.1 with h3 | h3 | h3
     · have : cmpS a.2.1 b.2.1 = -1 := by unfold cmpS; rw [if_pos h3]
       rw [this]; simp [h1, hb, h3]
     · have : cmpS a.2.1 b.2.1 = 0 := by unfold cmpS; rw [if_neg (by rw [h3]; exact sirr _), if_pos h3]
       rw [this, h3]
       cases ha : a.2.2.1 <;> cases hb' : b.2.2.1 <;> simp [h1, hb, sirr]
     · have e : ¬ a.2.1 = b.2.1 := fun e => by rw [e] at h3; exact sirr _ h3
       have : cmpS a.2.1 b.2.1 = 1 := by unfold cmpS; rw [if_neg (sasym h3), if_neg e]
       rw [this]; simp [h1, hb, sasym h3, e]
   · have hb : ¬ b.1 = 0 := by omega
     simp [h1, hb]
 · simp only [ne_eq, h1, not_false_eq_true, true_or, if_true, false_and, or_false]
   by_cases h2 : a.1 < b.1
   · simp [h2]
   · by_cases h3 : b.1 < a.1
     · simp [h2, h3]
     · omega
instance (a b : Edge) : Decidable (elt a b) := by unfold elt; infer_instance
theorem uccv_ (a : Edge) : ¬ elt a a := by
 rintro (h | ⟨_, _, h | ⟨_, h1, h2⟩⟩)
 · omega
 · exact sirr _ h
 · rw [h1] at h2; cases h2
theorem ub9j_ {a b c : Edge} (h1 : elt a b) (h2 : elt b c) : elt a c := by
 unfold elt at *
 rcases h1 with h1 | ⟨p1, p2, p3⟩
 · rcases h2 with h2 | ⟨q1, q2, q3⟩ <;> exact Or.inl (by omega)
 · rcases h2 with h2 | ⟨q1, q2, q3⟩
   · exact Or.inl (by omega)
   · refine Or.inr ⟨by omega, p2, ?_⟩
     rcases p3 with p3 | ⟨p3, p4, p5⟩
     · rcases q3 with q3 | ⟨q3, q4, q5⟩
       · exact Or.inl (ub7v_ p3 q3)
       · exact Or.inl (q3 ▸ p3)
     · rcases q3 with q3 | ⟨q3, q4, q5⟩
       · exact Or.inl (p3 ▸ q3)
       · rw [p5] at q4; cases q4
theorem uccw_ {a b c : Edge} (h1 : ¬ elt a b) (h2 : ¬ elt b c) : ¬ elt a c := by
 intro h
 unfold elt at *
 simp only [not_or, not_and] at h1 h2
 obtain ⟨a1, a2⟩ := h1
 obtain ⟨b1, b2⟩ := h2
 rcases h with h | ⟨p1, p2, p3⟩
 · omega
 · have e1 : a.1 = b.1 := by omega
   have e2 : b.1 = c.1 := by omega
   obtain ⟨a3, a4⟩ := a2 e1 p2
   obtain ⟨b3, b4⟩ := b2 e2 (by omega)
   rcases p3 with p3 | ⟨p3, p4, p5⟩
   · exact sntr a3 b3 p3
   · rcases stri a.2.1 b.2.1 with g | g | g
     · exact a3 g
     · have g2 : b.2.1 = c.2.1 := g ▸ p3
       have := a4 g p4
       have := b4 g2 (by cases hb : b.2.2.1 <;> simp_all)
       exact this p5
     · exact b3 (p3 ▸ g)
theorem ub7y_ (xs : List ubii_) : Tot (ugk_ (xs, fun x => (ufk_ x).bind fun r => some r)) (fun r => r.Perm xs ∧ r.Pairwise fun a b => ¬ elt b.1 a.1) := by
 have hF : ∀ a b : ubii_, (ufk_ (a, b)).bind (fun r => some r) = some (eo a.1 b.1) := by
  intro a b
  unfold ufk_
  dsimp only
  rw [u1y_]
  rfl
 have e : ∀ i j, ltAt xs (fun x => (ufk_ x).bind fun r => some r) i j = decide (elt (xs.get i).1 (xs.get j).1) := by
  intro i j
  unfold ltAt cfAt
  show decide ((((ufk_ (xs.get i, xs.get j)).bind fun r => some r).getD 0) < 0) = _
  rw [hF]
  simp only [Option.getD_some]
  exact decide_eq_decide.2 (uccu_ _ _)
 have hs : ubqs_ xs (fun x => (ufk_ x).bind fun r => some r) := by
  refine ⟨fun i j => by show ((ufk_ (xs.get i, xs.get j)).bind fun r => some r).isSome = true; rw [hF]; rfl, fun i => ?_, fun i j k => ?_, fun i j k => ?_⟩
  · rw [e]; simp [uccv_]
  · rw [e, e, e]; simp only [decide_eq_true_eq]; exact ub9j_
  · rw [e, e, e]; simp only [decide_eq_false_iff_not]; exact uccw_
 refine (ubyp_ xs _ hs).mono fun r hr => ⟨hr.1, hr.2.imp fun {a b} h hlt => ?_⟩
 have := h _ (hF b a)
 have := (uccu_ b.1 a.1).2 hlt
 omega
end Go.Ev.Pv
namespace Go.Ev.Pv
abbrev Af := Str × Int × YY23 × (List Str) × (List Str)
abbrev Adv := Str × (List Str) × Str × Int × Bool × Str × (List Af)
abbrev Bnd := Bool × Bool × Str
abbrev Spn := Bnd × Bnd
def AfB (a : Af) : Prop := a.1.length ≤ 1048576 ∧ a.2.2.1.length ≤ 1048576 ∧ (∀ v ∈ a.2.2.1, v.2.length ≤ 1048576) ∧ a.2.2.2.1.length ≤ 1048576 ∧ (∀ s ∈ a.2.2.2.1, s.length ≤ 1048576) ∧ a.2.2.2.2.length ≤ 1048576 ∧ (∀ s ∈ a.2.2.2.2, s.length ≤ 1048576)
def AfK (a : Af) : Prop := a.2.2.1.length ≤ 100 ∧ (∀ v ∈ a.2.2.1, 1 ≤ v.1 ∧ v.1 ≤ 3) ∧ a.2.2.2.1.length ≤ 500
def AdB (a : Adv) : Prop := a.1.length ≤ 1048576 ∧ a.2.1.length ≤ 1048576 ∧ (∀ s ∈ a.2.1, s.length ≤ 1048576) ∧ a.2.2.1.length ≤ 1048576 ∧ a.2.2.2.2.2.1.length ≤ 1048576 ∧ a.2.2.2.2.2.2.length ≤ 1048576 ∧ ∀ x ∈ a.2.2.2.2.2.2, AfB x
abbrev SpB (s : Spn) : Prop := s.1.2.2.length ≤ 100 ∧ s.2.2.2.length ≤ 100
abbrev StB (s : ubii_) : Prop := s.1.2.2.2.length ≤ 100 ∧ s.2.2.2.2.length ≤ 100
theorem uzx_ {α : Type} {l : List α} {i : Nat} {x : α} (h : l[i]? = some x) : x ∈ l := List.mem_of_getElem? h
theorem ubp9_ (x : Int × Int) (h : True) : Tot (unh_ x) fun _ => True := ⟨_, uban_ x.1 x.2, trivial⟩
theorem ups_ (x : Edge × Edge) (h : True) : Tot (uev_ x) fun _ => True := ⟨_, u1y_ x.1 x.2, trivial⟩
end Go.Ev.Pv
namespace Go.Ev.Pv
theorem uh6_ (x : Str) (h : x.length ≤ 1048576) : Tot (ufi_ x) (fun r : Int × Bool => 0 ≤ r.1 ∧ r.1 ≤ 999999999999999999) := by
 unfold ufi_
 repeat' first
  | with_reducible refine uh_.2 ⟨fun _ => ?_, fun _ => ?_⟩
  | with_reducible refine ua_.2 ?_
  | with_reducible refine ub_.2 ?_
  | with_reducible refine u2_.2 ⟨?_, fun _ _ => ?_⟩
  | with_reducible refine (ub3_ _ ?_).mono fun _ _ => ?_
  | dsimp only
 all_goals grind [um_, ug_, ud_, ux_, up_, u0_, uz_, u8le, ui_, ue_, uv_, us_, uy_, List.length_cons, List.length_nil, List.mem_of_mem_take, List.mem_of_mem_drop]
theorem ur1_ (x : Int) (h : True) : Tot (uin_ x) (fun r : Bool => True) := by
 unfold uin_
 repeat' first
  | with_reducible refine uh_.2 ⟨fun _ => ?_, fun _ => ?_⟩
  | with_reducible refine ua_.2 ?_
  | with_reducible refine ub_.2 ?_
  | with_reducible refine (uq_ _ ?_).mono fun _ _ => ?_
  | with_reducible refine (u4_ _ ?_).mono fun _ _ => ?_
  | dsimp only
 all_goals grind [um_, ug_, ud_, ux_, up_, u0_, uz_, u8le, ui_, ue_, uv_, us_, uy_, List.length_cons, List.length_nil, List.mem_of_mem_take, List.mem_of_mem_drop]
theorem u8a_ (x : (List Str) × Int × Int) (h : 0 ≤ x.2.2 ∧ x.2.2 ≤ x.2.1 ∧ x.2.1 = x.1.length ∧ x.2.1 ≤ 281474976710656 ∧ ∀ s ∈ x.1, s.length ≤ 1000) : Tot (uos_ x) (fun r : Sum (Unit) YY28 => ∀ y, r = .inr y → y.1 = [] ∧ y.2 = false) := by
 refine uu_ (R := fun r : Sum (Unit) YY28 => ∀ y, r = .inr y → y.1 = [] ∧ y.2 = false) (fun y : (List Str) × Int × Int => (0 ≤ y.2.2 ∧ y.2.2 ≤ y.2.1 ∧ y.2.1 = y.1.length ∧ y.2.1 ≤ 281474976710656 ∧ ∀ s ∈ y.1, s.length ≤ 1000)) (fun y : (List Str) × Int × Int => (y.2.1 - y.2.2).toNat) ?_ _ _ (by grind) (by unfold fuel; grind)
 rintro next ⟨t9, t10, t11⟩ h hn
 try dsimp only at h hn
 unfold uyr_
 repeat' first
  | with_reducible refine uh_.2 ⟨fun _ => ?_, fun _ => ?_⟩
  | with_reducible refine ua_.2 ?_
  | with_reducible refine ub_.2 ?_
  | with_reducible refine u2_.2 ⟨?_, fun _ _ => ?_⟩
  | with_reducible refine (ur1_ _ ?_).mono fun _ _ => ?_
  | with_reducible refine (uc5_ _ ?_ ?_).mono fun _ _ => ?_
  | exact fun c => clo (uq_ c trivial)
  | exact fun c => clo (u4_ c trivial)
  | exact fun c => clo (ur1_ c trivial)
  | with_reducible refine hn _ ?_ ?_
  | dsimp only
 all_goals grind [um_, ug_, ud_, ux_, up_, u0_, uz_, u8le, ui_, ue_, uv_, us_, uy_, List.length_cons, List.length_nil, List.mem_of_mem_take, List.mem_of_mem_drop]
theorem uw6_ (x : Str) (h : x.length ≤ 1000) : Tot (uio_ x) (fun r : (List Str) × Bool => LS r.1) := by
 unfold uio_
 repeat' first
  | with_reducible refine ua_.2 ?_
  | with_reducible refine ub_.2 ?_
  | with_reducible refine (ubd9_ _ ?_).mono fun _ _ => ?_
  | with_reducible refine (u8a_ _ ?_).mono fun _ _ => ?_
  | split
  | dsimp only
 all_goals grind [um_, ug_, ud_, ux_, up_, u0_, uz_, u8le, ui_, ue_, uv_, us_, uy_, List.length_cons, List.length_nil, List.mem_of_mem_take, List.mem_of_mem_drop]
theorem ubfo_ (x : (List Str) × Int × Int) (h : 0 ≤ x.2.2 ∧ x.2.2 ≤ x.2.1 ∧ x.2.1 = x.1.length ∧ x.2.1 ≤ 281474976710656 ∧ ∀ s ∈ x.1, s.length ≤ 1000) : Tot (uuj_ x) (fun r : Sum (Unit) YY28 => ∀ y, r = .inr y → y.1 = [] ∧ y.2 = false) := by
 refine uu_ (R := fun r : Sum (Unit) YY28 => ∀ y, r = .inr y → y.1 = [] ∧ y.2 = false) (fun y : (List Str) × Int × Int => (0 ≤ y.2.2 ∧ y.2.2 ≤ y.2.1 ∧ y.2.1 = y.1.length ∧ y.2.1 ≤ 281474976710656 ∧ ∀ s ∈ y.1, s.length ≤ 1000)) (fun y : (List Str) × Int × Int => (y.2.1 - y.2.2).toNat) ?_ _ _ (by grind) (by unfold fuel; grind)
 rintro next ⟨t15, t16, t17⟩ h hn
 try dsimp only at h hn
 unfold u5x_
 repeat' first
  | with_reducible refine uh_.2 ⟨fun _ => ?_, fun _ => ?_⟩
  | with_reducible refine ua_.2 ?_
  | with_reducible refine ub_.2 ?_
  | with_reducible refine u2_.2 ⟨?_, fun _ _ => ?_⟩
  | with_reducible refine (uq_ _ ?_).mono fun _ _ => ?_
  | with_reducible refine (uh6_ _ ?_).mono fun _ _ => ?_
  | with_reducible refine (uc5_ _ ?_ ?_).mono fun _ _ => ?_
  | exact fun c => clo (uq_ c trivial)
  | exact fun c => clo (u4_ c trivial)
  | with_reducible refine hn _ ?_ ?_
  | dsimp only
 all_goals grind [um_, ug_, ud_, ux_, up_, u0_, uz_, u8le, ui_, ue_, uv_, us_, uy_, List.length_cons, List.length_nil, List.mem_of_mem_take, List.mem_of_mem_drop]
theorem ubnm_ (x : Str) (h : x.length ≤ 1000) : Tot (uuk_ x) (fun r : (List Str) × Bool => LS r.1) := by
 unfold uuk_
 repeat' first
  | with_reducible refine ua_.2 ?_
  | with_reducible refine ub_.2 ?_
  | with_reducible refine (uw6_ _ ?_).mono fun _ _ => ?_
  | with_reducible refine (ubfo_ _ ?_).mono fun _ _ => ?_
  | split
  | dsimp only
 all_goals grind [um_, ug_, ud_, ux_, up_, u0_, uz_, u8le, ui_, ue_, uv_, us_, uy_, List.length_cons, List.length_nil, List.mem_of_mem_take, List.mem_of_mem_drop]
theorem ubw0_ (x : Str) (h : x.length ≤ 1000) : Tot (uba3_ x) (fun r : (List Str) × Bool => LS r.1) := by
 unfold uba3_
 repeat' first
  | with_reducible refine uh_.2 ⟨fun _ => ?_, fun _ => ?_⟩
  | with_reducible refine ua_.2 ?_
  | with_reducible refine ub_.2 ?_
  | with_reducible refine u2_.2 ⟨?_, fun _ _ => ?_⟩
  | with_reducible refine uqo_.2 ⟨?_, ?_⟩
  | with_reducible refine (ublz_ _ ?_).mono fun _ _ => ?_
  | with_reducible refine (uw6_ _ ?_).mono fun _ _ => ?_
  | with_reducible refine (ubnm_ _ ?_).mono fun _ _ => ?_
  | dsimp only
 all_goals grind [um_, ug_, ud_, ux_, up_, u0_, uz_, u8le, ui_, ue_, uv_, us_, uy_, List.length_cons, List.length_nil, List.mem_of_mem_take, List.mem_of_mem_drop]
theorem ubao_ (x : Str × Int × Bool) (h : 0 ≤ x.2.1 ∧ x.2.1 ≤ x.1.length ∧ x.1.length ≤ 1000) : Tot (ujz_ x) (fun r : Sum (Int) (YY3 × Bool) => (∀ y, r = .inl y → 0 ≤ y ∧ y ≤ x.1.length) ∧ ∀ y, r = .inr y → y.2 = false) := by
 obtain ⟨s_0, at_5, t16⟩ := x
 try dsimp only at h ⊢
 unfold ujz_
 repeat' first
  | with_reducible refine uh_.2 ⟨fun _ => ?_, fun _ => ?_⟩
  | with_reducible refine ua_.2 ?_
  | with_reducible refine ub_.2 ?_
  | with_reducible refine u2_.2 ⟨?_, fun _ _ => ?_⟩
  | dsimp only
 all_goals grind [um_, ug_, ud_, ux_, up_, u0_, uz_, u8le, ui_, ue_, uv_, us_, uy_, List.length_cons, List.length_nil, List.mem_of_mem_take, List.mem_of_mem_drop]
theorem ubap_ (x : Str × YY26 × Int × Int) (h : 0 ≤ x.2.2.2 ∧ x.2.2.2 ≤ 3 ∧ 0 ≤ x.2.2.1 ∧ x.2.2.1 ≤ x.1.length ∧ x.1.length ≤ 1000 ∧ x.2.1.1.length = 3 ∧ (∀ n ∈ x.2.1.1, 0 ≤ n ∧ n ≤ 999999999999999999)) : Tot (uqs_ x) (fun r : Sum (YY26 × Int) (YY3 × Bool) => (∀ y, r = .inl y → y.1.1.length = 3 ∧ (∀ n ∈ y.1.1, 0 ≤ n ∧ n ≤ 999999999999999999) ∧ 0 ≤ y.2 ∧ y.2 ≤ x.1.length) ∧ ∀ y, r = .inr y → y.2 = false) := by
 refine uu_ (R := fun r : Sum (YY26 × Int) (YY3 × Bool) => (∀ y, r = .inl y → y.1.1.length = 3 ∧ (∀ n ∈ y.1.1, 0 ≤ n ∧ n ≤ 999999999999999999) ∧ 0 ≤ y.2 ∧ y.2 ≤ x.1.length) ∧ ∀ y, r = .inr y → y.2 = false) (fun y : Str × YY26 × Int × Int => (0 ≤ y.2.2.2 ∧ y.2.2.2 ≤ 3 ∧ 0 ≤ y.2.2.1 ∧ y.2.2.1 ≤ y.1.length ∧ y.1.length ≤ 1000 ∧ y.2.1.1.length = 3 ∧ (∀ n ∈ y.2.1.1, 0 ≤ n ∧ n ≤ 999999999999999999)) ∧ y.1 = x.1) (fun y : Str × YY26 × Int × Int => (3 - y.2.2.2).toNat) ?_ _ _ (by grind) (by unfold fuel; grind)
 rintro next ⟨s_0, v_4, at_5, t12⟩ h hn
 try dsimp only at h hn
 unfold u0x_
 repeat' first
  | with_reducible refine uh_.2 ⟨fun _ => ?_, fun _ => ?_⟩
  | with_reducible refine ua_.2 ?_
  | with_reducible refine ub_.2 ?_
  | with_reducible refine ufp_.2 ⟨?_, ?_⟩
  | with_reducible refine uqo_.2 ⟨?_, ?_⟩
  | with_reducible refine (ubao_ _ ?_).mono fun _ _ => ?_
  | with_reducible refine (uq_ _ ?_).mono fun _ _ => ?_
  | with_reducible refine (uh6_ _ ?_).mono fun _ _ => ?_
  | with_reducible refine (uc5_ _ ?_ ?_).mono fun _ _ => ?_
  | exact fun c => clo (uq_ c trivial)
  | exact fun c => clo (u4_ c trivial)
  | with_reducible refine hn _ ?_ ?_
  | split
  | dsimp only
 all_goals grind [um_, ug_, ud_, ux_, up_, u0_, uz_, u8le, ui_, ue_, uv_, us_, uy_, List.length_cons, List.length_nil, List.mem_of_mem_take, List.mem_of_mem_drop]
theorem ubij_ (x : Str) (h : x.length ≤ 1000) : Tot (upv_ x) (fun r : YY3 × Bool => r.2 = true → VOK r.1) := by
 unfold upv_
 repeat' first
  | with_reducible refine ua_.2 ?_
  | with_reducible refine ub_.2 ?_
  | with_reducible refine uqo_.2 ⟨?_, ?_⟩
  | with_reducible refine (ubap_ _ ?_).mono fun _ _ => ?_
  | with_reducible refine (ubw0_ _ ?_).mono fun _ _ => ?_
  | split
  | dsimp only
 all_goals grind [um_, ug_, ud_, ux_, up_, u0_, uz_, u8le, ui_, ue_, uv_, us_, uy_, List.length_cons, List.length_nil, List.mem_of_mem_take, List.mem_of_mem_drop, vok_d]
theorem ur2_ (x : Int) (h : True) : Tot (uip_ x) (fun r : Bool => True) := by
 unfold uip_
 repeat' first
  | with_reducible refine uh_.2 ⟨fun _ => ?_, fun _ => ?_⟩
  | with_reducible refine ua_.2 ?_
  | with_reducible refine ub_.2 ?_
  | with_reducible refine (uq_ _ ?_).mono fun _ _ => ?_
  | with_reducible refine (u4_ _ ?_).mono fun _ _ => ?_
  | with_reducible refine (uhd_ _ ?_).mono fun _ _ => ?_
  | dsimp only
 all_goals grind [um_, ug_, ud_, ux_, up_, u0_, uz_, u8le, ui_, ue_, uv_, us_, uy_, List.length_cons, List.length_nil, List.mem_of_mem_take, List.mem_of_mem_drop]
theorem ubcx_ (x : Str × Int) (h : 0 ≤ x.2 ∧ x.2 ≤ x.1.length ∧ x.1.length ≤ 1000) : Tot (usm_ x) (fun r : Sum (Unit) (Bool) => True) := by
 refine uu_ (R := fun r : Sum (Unit) (Bool) => True) (fun y : Str × Int => (0 ≤ y.2 ∧ y.2 ≤ y.1.length ∧ y.1.length ≤ 1000) ∧ y.1 = x.1) (fun y : Str × Int => (y.1.length - y.2 : Int).toNat) ?_ _ _ (by grind) (by unfold fuel; grind)
 rintro next ⟨s_0, at_3⟩ h hn
 try dsimp only at h hn
 unfold u2r_
 repeat' first
  | with_reducible refine uh_.2 ⟨fun _ => ?_, fun _ => ?_⟩
  | with_reducible refine ua_.2 ?_
  | with_reducible refine ub_.2 ?_
  | with_reducible refine (uq_ _ ?_).mono fun _ _ => ?_
  | with_reducible refine (uc5_ _ ?_ ?_).mono fun _ _ => ?_
  | exact fun c => clo (uq_ c trivial)
  | exact fun c => clo (u4_ c trivial)
  | with_reducible refine hn _ ?_ ?_
  | dsimp only
 all_goals grind [um_, ug_, ud_, ux_, up_, u0_, uz_, u8le, ui_, ue_, uv_, us_, uy_, List.length_cons, List.length_nil, List.mem_of_mem_take, List.mem_of_mem_drop, maxI]
theorem ubkx_ (x : Str) (h : x.length ≤ 1000) : Tot (ur6_ x) (fun r : Bool => True) := by
 unfold ur6_
 repeat' first
  | with_reducible refine ua_.2 ?_
  | with_reducible refine ub_.2 ?_
  | with_reducible refine (ubcx_ _ ?_).mono fun _ _ => ?_
  | split
  | dsimp only
 all_goals grind [um_, ug_, ud_, ux_, up_, u0_, uz_, u8le, ui_, ue_, uv_, us_, uy_, List.length_cons, List.length_nil, List.mem_of_mem_take, List.mem_of_mem_drop]
theorem u8b_ (x : Str × YY30 × Str × Str × Bool) (h : x.1.length ≤ 1000 ∧ x.2.2.2.1.length ≤ 1000 ∧ x.2.2.1.length ≤ 1000 ∧ x.2.1.1 = 0) : Tot (uiq_ x) (fun r : Sum (Str × YY30) (YY3 × Bool) => (∀ y, r = .inl y → y.1.length ≤ 1000 ∧ 0 ≤ y.2.1 ∧ y.2.1 ≤ 999999999999999999 ∧ y.2.2 = x.2.1.2) ∧ ∀ y, r = .inr y → y.2 = false) := by
 obtain ⟨s_0, v_4, epoch_5, rest_6, t18⟩ := x
 try dsimp only at h ⊢
 unfold uiq_
 repeat' first
  | with_reducible refine uh_.2 ⟨fun _ => ?_, fun _ => ?_⟩
  | with_reducible refine ua_.2 ?_
  | with_reducible refine ub_.2 ?_
  | with_reducible refine (uh6_ _ ?_).mono fun _ _ => ?_
  | dsimp only
 all_goals grind [um_, ug_, ud_, ux_, up_, u0_, uz_, u8le, ui_, ue_, uv_, us_, uy_, List.length_cons, List.length_nil, List.mem_of_mem_take, List.mem_of_mem_drop]
set_option maxHeartbeats 4000000 in
theorem ubfp_ (x : Str) (h : x.length ≤ 1000) : Tot (uob_ x) (fun r : YY3 × Bool => r.2 = true → VOK r.1) := by
 unfold uob_
 repeat' first
  | with_reducible refine uh_.2 ⟨fun _ => ?_, fun _ => ?_⟩
  | with_reducible refine ua_.2 ?_
  | with_reducible refine ub_.2 ?_
  | with_reducible refine u2_.2 ⟨?_, fun _ _ => ?_⟩
  | with_reducible refine uqo_.2 ⟨?_, ?_⟩
  | with_reducible refine (ublz_ _ ?_).mono fun _ _ => ?_
  | with_reducible refine (u8b_ _ ?_).mono fun _ _ => ?_
  | with_reducible refine (uq_ _ ?_).mono fun _ _ => ?_
  | with_reducible refine (ur2_ _ ?_).mono fun _ _ => ?_
  | with_reducible refine (ubkx_ _ ?_).mono fun _ _ => ?_
  | with_reducible refine (ubam_ _ ?_).mono fun _ _ => ?_
  | with_reducible refine (uhd_ _ ?_).mono fun _ _ => ?_
  | with_reducible refine (uc5_ _ ?_ ?_).mono fun _ _ => ?_
  | exact fun c => clo (uq_ c trivial)
  | exact fun c => clo (u4_ c trivial)
  | exact fun c => clo (ur2_ c trivial)
  | split
  | dsimp only
 all_goals grind [um_, ug_, ud_, ux_, up_, u0_, uz_, u8le, ui_, ue_, uv_, us_, uy_, List.length_cons, List.length_nil, List.mem_of_mem_take, List.mem_of_mem_drop, vok_r]
theorem ubcy_ (x : Str × (List Int)) (h : x.1.length ≤ 1000 ∧ x.2.length + x.1.length ≤ 1001 ∧ (∀ n ∈ x.2, 0 ≤ n ∧ n ≤ 999999999999999999)) : Tot (usn_ x) (fun r : (List Int) × Str × Bool => NS r.1 ∧ r.2.1.length ≤ 1000) := by
 refine uu_ (R := fun r : (List Int) × Str × Bool => NS r.1 ∧ r.2.1.length ≤ 1000) (fun y : Str × (List Int) => (y.1.length ≤ 1000 ∧ y.2.length + y.1.length ≤ 1001 ∧ (∀ n ∈ y.2, 0 ≤ n ∧ n ≤ 999999999999999999))) (fun y : Str × (List Int) => y.1.length) ?_ _ _ (by grind) (by unfold fuel; grind)
 rintro next ⟨s_0, out_5⟩ h hn
 try dsimp only at h hn
 unfold u2s_
 repeat' first
  | with_reducible refine uh_.2 ⟨fun _ => ?_, fun _ => ?_⟩
  | with_reducible refine ua_.2 ?_
  | with_reducible refine ub_.2 ?_
  | with_reducible refine u2_.2 ⟨?_, fun _ _ => ?_⟩
  | with_reducible refine uqo_.2 ⟨?_, ?_⟩
  | with_reducible refine ulb_.2 ⟨?_, ?_⟩
  | with_reducible refine (uq_ _ ?_).mono fun _ _ => ?_
  | with_reducible refine (ub3_ _ ?_).mono fun _ _ => ?_
  | with_reducible refine (uc5_ _ ?_ ?_).mono fun _ _ => ?_
  | exact fun c => clo (uq_ c trivial)
  | exact fun c => clo (u4_ c trivial)
  | with_reducible refine hn _ ?_ ?_
  | dsimp only
 all_goals grind [um_, ug_, ud_, ux_, up_, u0_, uz_, u8le, ui_, ue_, uv_, us_, uy_, List.length_cons, List.length_nil, List.mem_of_mem_take, List.mem_of_mem_drop]
theorem ubky_ (x : Str) (h : x.length ≤ 1000) : Tot (ur7_ x) (fun r : (List Int) × Str × Bool => NS r.1 ∧ r.2.1.length ≤ 1000) := by
 unfold ur7_
 repeat' first
  | with_reducible refine ua_.2 ?_
  | with_reducible refine ub_.2 ?_
  | with_reducible refine (ubcy_ _ ?_).mono fun _ _ => ?_
  | dsimp only
 all_goals grind [um_, ug_, ud_, ux_, up_, u0_, uz_, u8le, ui_, ue_, uv_, us_, uy_, List.length_cons, List.length_nil, List.mem_of_mem_take, List.mem_of_mem_drop]
theorem ubsg_ (x : Str × YY34) (h : ∀ c, Tot (x.2 c) fun _ => True) : Tot (uul_ x) (fun r : Int => 0 ≤ r ∧ r ≤ 1 ∧ r ≤ x.1.length) := by
 obtain ⟨s_0, is_1⟩ := x
 try dsimp only at h ⊢
 unfold uul_
 repeat' first
  | with_reducible refine uh_.2 ⟨fun _ => ?_, fun _ => ?_⟩
  | with_reducible refine ua_.2 ?_
  | with_reducible refine ub_.2 ?_
  | with_reducible refine u2_.2 ⟨?_, fun _ _ => ?_⟩
  | with_reducible refine (ubsf_ _ ?_).mono fun _ _ => ?_
  | with_reducible refine (h _).mono fun _ _ => ?_
  | dsimp only
 all_goals grind [um_, ug_, ud_, ux_, up_, u0_, uz_, u8le, ui_, ue_, uv_, us_, uy_, List.length_cons, List.length_nil, List.mem_of_mem_take, List.mem_of_mem_drop]
theorem ubcz_ (x : Str × Str × (List Str) × Int × Int) (h : 0 ≤ x.2.2.2.2 ∧ x.2.2.2.2 ≤ x.2.2.2.1 ∧ x.2.2.2.1 = x.2.2.1.length ∧ x.2.2.2.1 ≤ 281474976710656 ∧ x.2.1 = []) : Tot (uso_ x) (fun r : Str => r.length ≤ x.1.length) := by
 refine uu_ (R := fun r : Str => r.length ≤ x.1.length) (fun y : Str × Str × (List Str) × Int × Int => (0 ≤ y.2.2.2.2 ∧ y.2.2.2.2 ≤ y.2.2.2.1 ∧ y.2.2.2.1 = y.2.2.1.length ∧ y.2.2.2.1 ≤ 281474976710656 ∧ y.2.1 = []) ∧ y.1 = x.1 ∧ y.2.1 = x.2.1) (fun y : Str × Str × (List Str) × Int × Int => (y.2.2.2.1 - y.2.2.2.2).toNat) ?_ _ _ (by grind) (by unfold fuel; grind)
 rintro next ⟨s_0, word_2, t7, t8, t9⟩ h hn
 try dsimp only at h hn
 unfold u2t_
 repeat' first
  | with_reducible refine uh_.2 ⟨fun _ => ?_, fun _ => ?_⟩
  | with_reducible refine ua_.2 ?_
  | with_reducible refine ub_.2 ?_
  | with_reducible refine u2_.2 ⟨?_, fun _ _ => ?_⟩
  | with_reducible refine (ubkv_ _ ?_).mono fun _ _ => ?_
  | with_reducible refine hn _ ?_ ?_
  | dsimp only
 all_goals grind [um_, ug_, ud_, ux_, up_, u0_, uz_, u8le, ui_, ue_, uv_, us_, uy_, List.length_cons, List.length_nil, List.mem_of_mem_take, List.mem_of_mem_drop]
theorem ubc0_ (x : Str × Bool) (h : True) : Tot (ulw_ x) (fun r : Bool => True) := by
 obtain ⟨t18, t21⟩ := x
 try dsimp only at h ⊢
 unfold ulw_
 repeat' first
  | with_reducible refine uh_.2 ⟨fun _ => ?_, fun _ => ?_⟩
  | with_reducible refine ub_.2 ?_
  | dsimp only
 all_goals grind [um_, ug_, ud_, ux_, up_, u0_, uz_, u8le, ui_, ue_, uv_, us_, uy_, List.length_cons, List.length_nil, List.mem_of_mem_take, List.mem_of_mem_drop]
theorem ubc1_ (x : Str × Bool) (h : True) : Tot (ulx_ x) (fun r : Bool => True) := by
 obtain ⟨t18, t25⟩ := x
 try dsimp only at h ⊢
 unfold ulx_
 repeat' first
  | with_reducible refine uh_.2 ⟨fun _ => ?_, fun _ => ?_⟩
  | with_reducible refine ub_.2 ?_
  | dsimp only
 all_goals grind [um_, ug_, ud_, ux_, up_, u0_, uz_, u8le, ui_, ue_, uv_, us_, uy_, List.length_cons, List.length_nil, List.mem_of_mem_take, List.mem_of_mem_drop]
theorem ubc2_ (x : Str × Bool) (h : True) : Tot (uly_ x) (fun r : Bool => True) := by
 obtain ⟨t18, t29⟩ := x
 try dsimp only at h ⊢
 unfold uly_
 repeat' first
  | with_reducible refine uh_.2 ⟨fun _ => ?_, fun _ => ?_⟩
  | with_reducible refine ub_.2 ?_
  | dsimp only
 all_goals grind [um_, ug_, ud_, ux_, up_, u0_, uz_, u8le, ui_, ue_, uv_, us_, uy_, List.length_cons, List.length_nil, List.mem_of_mem_take, List.mem_of_mem_drop]
theorem ubkz_ (x : Str) (h : True) : Tot (ur8_ x) (fun r : Str × Int × Int => x.length ≤ 281474976710656 → r.1.length ≤ x.length ∧ (r.1 ≠ [] → 1 ≤ r.2.1) ∧ r.2.1 ≤ 3 ∧ 0 ≤ r.2.2 ∧ r.2.2 ≤ 3) := by
 unfold ur8_
 repeat' first
  | with_reducible refine uh_.2 ⟨fun _ => ?_, fun _ => ?_⟩
  | with_reducible refine ua_.2 ?_
  | with_reducible refine ub_.2 ?_
  | with_reducible refine (ubcz_ _ ?_).mono fun _ _ => ?_
  | with_reducible refine (ubc0_ _ ?_).mono fun _ _ => ?_
  | with_reducible refine (ubc1_ _ ?_).mono fun _ _ => ?_
  | with_reducible refine (ubc2_ _ ?_).mono fun _ _ => ?_
  | dsimp only
 all_goals grind [um_, ug_, ud_, ux_, up_, u0_, uz_, u8le, ui_, ue_, uv_, us_, uy_, List.length_cons, List.length_nil, List.mem_of_mem_take, List.mem_of_mem_drop]
theorem u5g_ (x : Str × Int × Int × Bool) (h : 0 ≤ x.2.2.1 ∧ x.2.2.1 ≤ x.1.length ∧ x.1.length ≤ 1000 ∧ 0 ≤ x.2.1 ∧ x.2.1 ≤ 999999999999999999) : Tot (uhu_ x) (fun r : Sum (Str × Int) (Str × Bool) => (∀ y, r = .inl y → y.1.length ≤ x.1.length ∧ 0 ≤ y.2 ∧ y.2 ≤ 999999999999999999) ∧ ∀ y, r = .inr y → y.2 = false ∧ y.1 = []) := by
 obtain ⟨rest_7, n_11, k_12, t49⟩ := x
 try dsimp only at h ⊢
 unfold uhu_
 repeat' first
  | with_reducible refine uh_.2 ⟨fun _ => ?_, fun _ => ?_⟩
  | with_reducible refine ua_.2 ?_
  | with_reducible refine ub_.2 ?_
  | with_reducible refine uqo_.2 ⟨?_, ?_⟩
  | with_reducible refine (uq_ _ ?_).mono fun _ _ => ?_
  | with_reducible refine (ub3_ _ ?_).mono fun _ _ => ?_
  | with_reducible refine (uc5_ _ ?_ ?_).mono fun _ _ => ?_
  | exact fun c => clo (uq_ c trivial)
  | exact fun c => clo (u4_ c trivial)
  | dsimp only
 all_goals grind [um_, ug_, ud_, ux_, up_, u0_, uz_, u8le, ui_, ue_, uv_, us_, uy_, List.length_cons, List.length_nil, List.mem_of_mem_take, List.mem_of_mem_drop]
set_option maxHeartbeats 1000000 in
theorem u5h_ (x : YY9 × Str × Int) (h : x.2.1.length ≤ 1000 ∧ 0 ≤ x.2.2 ∧ x.2.2 ≤ 3 ∧ SOK x.1) : Tot (unk_ x) (fun r : YY9 × Str × Bool => SOK r.1 ∧ r.2.1.length ≤ 1000) := by
 refine uu_ (R := fun r : YY9 × Str × Bool => SOK r.1 ∧ r.2.1.length ≤ 1000) (fun y : YY9 × Str × Int => (y.2.1.length ≤ 1000 ∧ 0 ≤ y.2.2 ∧ y.2.2 ≤ 3 ∧ SOK y.1)) (fun y : YY9 × Str × Int => (4 - y.2.2).toNat) ?_ _ _ (by grind) (by unfold fuel; grind)
 rintro next ⟨v_0, s_1, last_6⟩ h hn
 try dsimp only at h hn
 unfold uwe_
 repeat' first
  | with_reducible refine uh_.2 ⟨fun _ => ?_, fun _ => ?_⟩
  | with_reducible refine ua_.2 ?_
  | with_reducible refine ub_.2 ?_
  | with_reducible refine u2_.2 ⟨?_, fun _ _ => ?_⟩
  | with_reducible refine uqo_.2 ⟨?_, ?_⟩
  | with_reducible refine (ubsg_ _ ?_).mono fun _ _ => ?_
  | with_reducible refine (u4_ _ ?_).mono fun _ _ => ?_
  | with_reducible refine (ubkz_ _ ?_).mono fun _ _ => ?_
  | with_reducible refine (uq_ _ ?_).mono fun _ _ => ?_
  | with_reducible refine (u5g_ _ ?_).mono fun _ _ => ?_
  | exact fun c => clo (uq_ c trivial)
  | exact fun c => clo (u4_ c trivial)
  | with_reducible refine hn _ ?_ ?_
  | split
  | dsimp only
 all_goals grind [um_, ug_, ud_, ux_, up_, u0_, uz_, u8le, ui_, ue_, uv_, us_, uy_, List.length_cons, List.length_nil, List.mem_of_mem_take, List.mem_of_mem_drop]
theorem ubc3_ (x : YY9 × Str) (h : x.2.length ≤ 1000 ∧ SOK x.1) : Tot (ulz_ x) (fun r : Str × Bool × YY9 => r.1.length ≤ 1000 ∧ SOK r.2.2) := by
 obtain ⟨v_0, s_1⟩ := x
 try dsimp only at h ⊢
 unfold ulz_
 repeat' first
  | with_reducible refine ua_.2 ?_
  | with_reducible refine ub_.2 ?_
  | with_reducible refine (u5h_ _ ?_).mono fun _ _ => ?_
  | dsimp only
 all_goals grind [um_, ug_, ud_, ux_, up_, u0_, uz_, u8le, ui_, ue_, uv_, us_, uy_, List.length_cons, List.length_nil, List.mem_of_mem_take, List.mem_of_mem_drop]
theorem uzy_ (x : Int) (h : True) : Tot (upw_ x) (fun r : Bool => True) := by
 unfold upw_
 repeat' first
  | with_reducible refine uh_.2 ⟨fun _ => ?_, fun _ => ?_⟩
  | with_reducible refine ua_.2 ?_
  | with_reducible refine ub_.2 ?_
  | with_reducible refine (uq_ _ ?_).mono fun _ _ => ?_
  | with_reducible refine (u4_ _ ?_).mono fun _ _ => ?_
  | dsimp only
 all_goals grind [um_, ug_, ud_, ux_, up_, u0_, uz_, u8le, ui_, ue_, uv_, us_, uy_, List.length_cons, List.length_nil, List.mem_of_mem_take, List.mem_of_mem_drop]
theorem ubik_ (x : Int × (List Str) × Int × Int) (h : 0 ≤ x.2.2.2 ∧ x.2.2.2 ≤ x.2.2.1 ∧ x.2.2.1 = x.2.1.length ∧ x.2.2.1 ≤ 281474976710656 ∧ 0 ≤ x.1 ∧ x.1 ≤ 1048576 + 1000 * x.2.2.2 ∧ (∀ s ∈ x.2.1, s.length ≤ 1000) ∧ x.2.2.1 ≤ 1048576) : Tot (uxh_ x) (fun r : Sum (Int) YY28 => ∀ y, r = .inr y → y.1 = []) := by
 refine uu_ (R := fun r : Sum (Int) YY28 => ∀ y, r = .inr y → y.1 = []) (fun y : Int × (List Str) × Int × Int => (0 ≤ y.2.2.2 ∧ y.2.2.2 ≤ y.2.2.1 ∧ y.2.2.1 = y.2.1.length ∧ y.2.2.1 ≤ 281474976710656 ∧ 0 ≤ y.1 ∧ y.1 ≤ 1048576 + 1000 * y.2.2.2 ∧ (∀ s ∈ y.2.1, s.length ≤ 1000) ∧ y.2.2.1 ≤ 1048576)) (fun y : Int × (List Str) × Int × Int => (y.2.2.1 - y.2.2.2).toNat) ?_ _ _ (by grind) (by unfold fuel; grind)
 rintro next ⟨n_5, t13, t14, t15⟩ h hn
 try dsimp only at h hn
 unfold u8r_
 repeat' first
  | with_reducible refine uh_.2 ⟨fun _ => ?_, fun _ => ?_⟩
  | with_reducible refine ua_.2 ?_
  | with_reducible refine ub_.2 ?_
  | with_reducible refine u2_.2 ⟨?_, fun _ _ => ?_⟩
  | with_reducible refine (uq_ _ ?_).mono fun _ _ => ?_
  | with_reducible refine (uzy_ _ ?_).mono fun _ _ => ?_
  | with_reducible refine (uc5_ _ ?_ ?_).mono fun _ _ => ?_
  | exact fun c => clo (uq_ c trivial)
  | exact fun c => clo (u4_ c trivial)
  | exact fun c => clo (uzy_ c trivial)
  | with_reducible refine hn _ ?_ ?_
  | dsimp only
 all_goals grind [um_, ug_, ud_, ux_, up_, u0_, uz_, u8le, ui_, ue_, uv_, us_, uy_, List.length_cons, List.length_nil, List.mem_of_mem_take, List.mem_of_mem_drop]
theorem ubqa_ (x : Str) (h : x.length ≤ 1000) : Tot (uyc_ x) (fun r : (List Str) × Bool => LS r.1) := by
 unfold uyc_
 repeat' first
  | with_reducible refine ua_.2 ?_
  | with_reducible refine ub_.2 ?_
  | with_reducible refine (uzw_ _ ?_).mono fun _ _ => ?_
  | with_reducible refine (ubik_ _ ?_).mono fun _ _ => ?_
  | with_reducible refine (ubih_ _ ⟨?_, ?_⟩).mono fun _ _ => ?_
  | exact fun c => clo (uzw_ c trivial)
  | split
  | dsimp only
 all_goals grind [um_, ug_, ud_, ux_, up_, u0_, uz_, u8le, ui_, ue_, uv_, us_, uy_, List.length_cons, List.length_nil, List.mem_of_mem_take, List.mem_of_mem_drop]
theorem ubaq_ (x : Str × YY9 × Int × Bool) (h : x.1.length ≤ 1000 ∧ x.2.1.1 = 0 ∧ 0 ≤ x.2.2.1 ∧ x.2.2.1 ≤ x.1.length ∧ (x.2.2.2 = true → x.2.2.1 < x.1.length)) : Tot (uj0_ x) (fun r : Sum (Str × YY9) (YY3 × Bool) => (∀ y, r = .inl y → y.1.length ≤ 1000 ∧ 0 ≤ y.2.1 ∧ y.2.1 ≤ 999999999999999999 ∧ y.2.2 = x.2.1.2) ∧ ∀ y, r = .inr y → y.2 = false) := by
 obtain ⟨s_0, v_4, n_5, t29⟩ := x
 try dsimp only at h ⊢
 unfold uj0_
 repeat' first
  | with_reducible refine uh_.2 ⟨fun _ => ?_, fun _ => ?_⟩
  | with_reducible refine ua_.2 ?_
  | with_reducible refine ub_.2 ?_
  | with_reducible refine uqo_.2 ⟨?_, ?_⟩
  | with_reducible refine (ub3_ _ ?_).mono fun _ _ => ?_
  | dsimp only
 all_goals grind [um_, ug_, ud_, ux_, up_, u0_, uz_, u8le, ui_, ue_, uv_, us_, uy_, List.length_cons, List.length_nil, List.mem_of_mem_take, List.mem_of_mem_drop]
theorem ubil_ (x : Str) (h : x.length ≤ 1000) : Tot (upx_ x) (fun r : YY3 × Bool => r.2 = true → VOK r.1) := by
 unfold upx_
 repeat' first
  | with_reducible refine uh_.2 ⟨fun _ => ?_, fun _ => ?_⟩
  | with_reducible refine ua_.2 ?_
  | with_reducible refine ub_.2 ?_
  | with_reducible refine u2_.2 ⟨?_, fun _ _ => ?_⟩
  | with_reducible refine (ubig_ _ ?_).mono fun _ _ => ?_
  | with_reducible refine (uq_ _ ?_).mono fun _ _ => ?_
  | with_reducible refine (ubaq_ _ ?_).mono fun _ _ => ?_
  | with_reducible refine (ubky_ _ ?_).mono fun _ _ => ?_
  | with_reducible refine (ubc3_ _ ?_).mono fun _ _ => ?_
  | with_reducible refine (ubkw_ _ ?_).mono fun _ _ => ?_
  | with_reducible refine (ubqa_ _ ?_).mono fun _ _ => ?_
  | with_reducible refine (uc5_ _ ?_ ?_).mono fun _ _ => ?_
  | exact fun c => clo (uq_ c trivial)
  | exact fun c => clo (u4_ c trivial)
  | split
  | dsimp only
 all_goals grind [um_, ug_, ud_, ux_, up_, u0_, uz_, u8le, ui_, ue_, uv_, us_, uy_, List.length_cons, List.length_nil, List.mem_of_mem_take, List.mem_of_mem_drop, vok_s]
theorem ubug_ (x : Str × Bool) (h : x.1.length ≤ 1000) : Tot (u5y_ x) (fun r : Str => r.length ≤ 5000) := by
 obtain ⟨w_0, followed_1⟩ := x
 try dsimp only at h ⊢
 unfold u5y_
 repeat' first
  | with_reducible refine uh_.2 ⟨fun _ => ?_, fun _ => ?_⟩
  | with_reducible refine ua_.2 ?_
  | with_reducible refine ub_.2 ?_
  | with_reducible refine (u63_ _ ?_).mono fun _ _ => ?_
  | dsimp only
 all_goals grind [um_, ug_, ud_, ux_, up_, u0_, uz_, u8le, ui_, ue_, uv_, us_, uy_, List.length_cons, List.length_nil, List.mem_of_mem_take, List.mem_of_mem_drop]
theorem un7_ (x : Bool × Str × Int) (h : True) : Tot (ugu_ x) (fun r : Bool => True) := by
 unfold ugu_
 repeat' first
  | with_reducible refine ub_.2 ?_
  | dsimp only
 all_goals grind [um_, ug_, ud_, ux_, up_, u0_, uz_, u8le, ui_, ue_, uv_, us_, uy_, List.length_cons, List.length_nil, List.mem_of_mem_take, List.mem_of_mem_drop]
theorem u4c_ (x : Str × Int × Bool) (h : 0 ≤ x.2.1 ∧ x.2.1 < x.1.length ∧ x.1.length ≤ 1000) : Tot (uhe_ x) (fun r : Sum (Int) (YY3 × Bool) => (∀ y, r = .inl y → x.2.1 ≤ y ∧ y ≤ x.1.length) ∧ ∀ y, r = .inr y → y.2 = false) := by
 obtain ⟨s_0, at_5, t24⟩ := x
 try dsimp only at h ⊢
 unfold uhe_
 repeat' first
  | with_reducible refine uh_.2 ⟨fun _ => ?_, fun _ => ?_⟩
  | with_reducible refine ua_.2 ?_
  | with_reducible refine ub_.2 ?_
  | with_reducible refine u2_.2 ⟨?_, fun _ _ => ?_⟩
  | with_reducible refine (uq_ _ ?_).mono fun _ _ => ?_
  | with_reducible refine (u4_ _ ?_).mono fun _ _ => ?_
  | dsimp only
 all_goals grind [um_, ug_, ud_, ux_, up_, u0_, uz_, u8le, ui_, ue_, uv_, us_, uy_, List.length_cons, List.length_nil, List.mem_of_mem_take, List.mem_of_mem_drop]
set_option maxHeartbeats 1000000 in
theorem u4d_ (x : Str × (List YY18) × Int) (h : 0 ≤ x.2.2 ∧ (x.1.length : Int) ≤ 281474976710656 ∧ x.2.2 ≤ (x.1.length : Int) ∧ x.1.length ≤ 1000 ∧ x.2.1.length ≤ x.2.2 ∧ (∀ t ∈ x.2.1, t.2.1.length ≤ 5000 ∧ 0 ≤ t.2.2 ∧ t.2.2 ≤ 999999999999999999)) : Tot (ul0_ x) (fun r : Sum (List YY18) (YY3 × Bool) => (∀ y, r = .inl y → TS y) ∧ ∀ y, r = .inr y → y.2 = false) := by
 refine uu_ (R := fun r : Sum (List YY18) (YY3 × Bool) => (∀ y, r = .inl y → TS y) ∧ ∀ y, r = .inr y → y.2 = false) (fun y : Str × (List YY18) × Int => (0 ≤ y.2.2 ∧ (y.1.length : Int) ≤ 281474976710656 ∧ y.2.2 ≤ (y.1.length : Int) ∧ y.1.length ≤ 1000 ∧ y.2.1.length ≤ y.2.2 ∧ (∀ t ∈ y.2.1, t.2.1.length ≤ 5000 ∧ 0 ≤ t.2.2 ∧ t.2.2 ≤ 999999999999999999))) (fun y : Str × (List YY18) × Int => ((y.1.length : Int) - y.2.2).toNat) ?_ _ _ (by grind) (by unfold fuel; grind)
 rintro next ⟨s_0, v_4, at_5⟩ h hn
 try dsimp only at h hn
 unfold uum_
 repeat' first
  | with_reducible refine uh_.2 ⟨fun _ => ?_, fun _ => ?_⟩
  | with_reducible refine ua_.2 ?_
  | with_reducible refine ub_.2 ?_
  | with_reducible refine u2_.2 ⟨?_, fun _ _ => ?_⟩
  | with_reducible refine uqo_.2 ⟨?_, ?_⟩
  | with_reducible refine ulb_.2 ⟨?_, ?_⟩
  | with_reducible refine (u4c_ _ ?_).mono fun _ _ => ?_
  | with_reducible refine (uq_ _ ?_).mono fun _ _ => ?_
  | with_reducible refine (ub3_ _ ?_).mono fun _ _ => ?_
  | with_reducible refine (u4_ _ ?_).mono fun _ _ => ?_
  | with_reducible refine (ubug_ _ ?_).mono fun _ _ => ?_
  | with_reducible refine (uc5_ _ ?_ ?_).mono fun _ _ => ?_
  | exact fun c => clo (uq_ c trivial)
  | exact fun c => clo (u4_ c trivial)
  | with_reducible refine hn _ ?_ ?_
  | split
  | dsimp only
 all_goals grind [um_, ug_, ud_, ux_, up_, u0_, uz_, u8le, ui_, ue_, uv_, us_, uy_, List.length_cons, List.length_nil, List.mem_of_mem_take, List.mem_of_mem_drop]
theorem u4e_ (x : List YY18) (h : TS x) : Tot (ul1_ x) (fun r : List YY18 => TS r) := by
 refine uu_ (R := fun r => TS r) (fun y => TS y) (fun y => y.length) ?_ _ _ h (by unfold fuel; have := h.1; omega)
 intro next v h hn
 unfold uun_
 by_cases hc : (0 : Int) < v.length
 · rw [ubj_ (by omega) (by have := h.1; omega), decide_eq_true hc]
   simp only [cond_true, Bool.true_and]
   refine ua_.2 (u2_.2 ⟨⟨by omega, by omega⟩, fun b hb => ?_⟩)
   refine ua_.2 ((un7_ _ trivial).mono fun r _ => ?_)
   refine uh_.2 ⟨fun _ => ua_.2 (uqo_.2 ⟨⟨by omega, by omega, by omega⟩, ?_⟩), fun _ => ub_.2 h⟩
   refine hn _ ⟨?_, fun t ht => h.2 t (uv_ ht)⟩ ?_
   · rw [us_]; have := h.1; omega
   · rw [us_]; omega
 · rw [decide_eq_false hc]
   simp only [cond_false, Bool.false_and]
   exact ua_.2 (ub_.2 (ua_.2 (ub_.2 (ub_.2 h))))
theorem ubar_ (x : Str) (h : x.length ≤ 1000) : Tot (uj1_ x) (fun r : YY3 × Bool => r.2 = true → VOK r.1) := by
 unfold uj1_
 repeat' first
  | with_reducible refine ua_.2 ?_
  | with_reducible refine ub_.2 ?_
  | with_reducible refine (u4d_ _ ?_).mono fun _ _ => ?_
  | with_reducible refine (u4e_ _ ?_).mono fun _ _ => ?_
  | split
  | dsimp only
 all_goals grind [um_, ug_, ud_, ux_, up_, u0_, uz_, u8le, ui_, ue_, uv_, us_, uy_, List.length_cons, List.length_nil, List.mem_of_mem_take, List.mem_of_mem_drop, vok_q]
theorem ubk0_ (x : Str) (h : x.length ≤ 1000) : Tot (ur9_ x) (fun r : YY3 × Bool => r.2 = true → VOK r.1) := by
 unfold ur9_
 repeat' first
  | with_reducible refine ua_.2 ?_
  | with_reducible refine ub_.2 ?_
  | with_reducible refine (uh6_ _ ?_).mono fun _ _ => ?_
  | dsimp only
 all_goals grind [um_, ug_, ud_, ux_, up_, u0_, uz_, u8le, ui_, ue_, uv_, us_, uy_, List.length_cons, List.length_nil, List.mem_of_mem_take, List.mem_of_mem_drop, vok_p]
theorem u4f_ (x : Int × Str) (h : x.2.length ≤ 1048576) : Tot (uxi_ x) (fun r : YY3 × Int => r.2 = 0 → VOK r.1) := by
 obtain ⟨kind_0, s_1⟩ := x
 try dsimp only at h ⊢
 unfold uxi_
 repeat' first
  | with_reducible refine uh_.2 ⟨fun _ => ?_, fun _ => ?_⟩
  | with_reducible refine ua_.2 ?_
  | with_reducible refine ub_.2 ?_
  | with_reducible refine (ubij_ _ ?_).mono fun _ _ => ?_
  | with_reducible refine (ubfp_ _ ?_).mono fun _ _ => ?_
  | with_reducible refine (u63_ _ ?_).mono fun _ _ => ?_
  | with_reducible refine (ubil_ _ ?_).mono fun _ _ => ?_
  | with_reducible refine (ubar_ _ ?_).mono fun _ _ => ?_
  | with_reducible refine (ubk0_ _ ?_).mono fun _ _ => ?_
  | dsimp only
 all_goals grind [um_, ug_, ud_, ux_, up_, u0_, uz_, u8le, ui_, ue_, uv_, us_, uy_, List.length_cons, List.length_nil, List.mem_of_mem_take, List.mem_of_mem_drop]
end Go.Ev.Pv
namespace Go.Ev.Pv
theorem u8c_ (x : (List Str) × (List Int) × Int × Int) (h : 0 ≤ x.2.2.2 ∧ x.2.2.2 ≤ x.2.2.1 ∧ x.2.2.1 = x.2.1.length ∧ x.2.2.1 ≤ 281474976710656 ∧ x.1.length ≤ x.2.2.2 ∧ (∀ s ∈ x.1, s.length ≤ 21) ∧ x.2.2.1 ≤ 1002) : Tot (uot_ x) (fun r : List Str => r.length ≤ 1002 ∧ ∀ s ∈ r, s.length ≤ 21) := by
 refine uu_ (R := fun r : List Str => r.length ≤ 1002 ∧ ∀ s ∈ r, s.length ≤ 21) (fun y : (List Str) × (List Int) × Int × Int => (0 ≤ y.2.2.2 ∧ y.2.2.2 ≤ y.2.2.1 ∧ y.2.2.1 = y.2.1.length ∧ y.2.2.1 ≤ 281474976710656 ∧ y.1.length ≤ y.2.2.2 ∧ (∀ s ∈ y.1, s.length ≤ 21) ∧ y.2.2.1 ≤ 1002)) (fun y : (List Str) × (List Int) × Int × Int => (y.2.2.1 - y.2.2.2).toNat) ?_ _ _ (by grind) (by unfold fuel; grind)
 rintro next ⟨parts_3, t6, t7, t8⟩ h hn
 try dsimp only at h hn
 unfold uys_
 repeat' first
  | with_reducible refine uh_.2 ⟨fun _ => ?_, fun _ => ?_⟩
  | with_reducible refine ua_.2 ?_
  | with_reducible refine ub_.2 ?_
  | with_reducible refine u2_.2 ⟨?_, fun _ _ => ?_⟩
  | with_reducible refine ulb_.2 ⟨?_, ?_⟩
  | with_reducible refine (ubi_ _ ?_).mono fun _ _ => ?_
  | with_reducible refine hn _ ?_ ?_
  | dsimp only
 all_goals grind [um_, ug_, ud_, ux_, up_, u0_, uz_, u8le, ui_, ue_, uv_, us_, uy_, List.length_cons, List.length_nil, List.mem_of_mem_take, List.mem_of_mem_drop]
theorem uw7_ (x : List Int) (h : x.length ≤ 1002) : Tot (uir_ x) (fun r : Str => r.length ≤ 30000) := by
 unfold uir_
 refine ua_.2 ((u8c_ _ ⟨by simp, by simp, rfl, by simp; omega, by simp, by simp, by simp; omega⟩).mono fun r hr => ?_)
 have hj : (Lib.join r [46]).length ≤ 1002 * (21 + 1) := ub4l_ hr.2 hr.1 (by simp)
 exact ua_.2 ((ulc_ _ ⟨by simp; omega, by dsimp only; omega⟩).mono fun s hs => ub_.2 (by rw [hs]; dsimp only; omega))
theorem uv1_ (x : (List Int) × (List Str)) (h : DOK x) : Tot (uhn_ x) (fun r : Str => r.length ≤ 1048576) := by
 unfold uhn_
 obtain ⟨h1, h2, h3, h4⟩ := h
 have hj : (Lib.join x.2 [46]).length ≤ 1002 * (1000 + 1) := ub4l_ h4 h3 (by simp)
 refine ua_.2 (uqo_.2 ⟨⟨by omega, by omega, by omega⟩, ?_⟩)
 refine ua_.2 ((uw7_ _ (by rw [us_]; omega)).mono fun r hr => ?_)
 refine uh_.2 ⟨fun _ => ?_, fun _ => ub_.2 (by omega)⟩
 refine ua_.2 ((ulc_ _ ⟨by dsimp only; omega, by dsimp only; omega⟩).mono fun s hs => ?_)
 dsimp only at hs
 rw [← hs] at hj
 refine ua_.2 (ud9_.2 ⟨by simp; omega, ?_⟩)
 refine ua_.2 (ud9_.2 ⟨by simp; omega, ?_⟩)
 exact ub_.2 (by simp; omega)
theorem u8d_ (x : Str × (List Int) × Int) (h : 0 ≤ x.2.2 ∧ x.2.2 ≤ x.1.length ∧ x.1.length ≤ 1000 ∧ x.2.1.length ≤ 21 * x.2.2) : Tot (uou_ x) (fun r : List Int => r.length ≤ 21000) := by
 refine uu_ (R := fun r : List Int => r.length ≤ 21000) (fun y : Str × (List Int) × Int => (0 ≤ y.2.2 ∧ y.2.2 ≤ y.1.length ∧ y.1.length ≤ 1000 ∧ y.2.1.length ≤ 21 * y.2.2) ∧ y.1 = x.1) (fun y : Str × (List Int) × Int => (y.1.length - y.2.2 : Int).toNat) ?_ _ _ (by grind) (by unfold fuel; grind)
 rintro next ⟨s_0, b_3, at_4⟩ h hn
 try dsimp only at h hn
 unfold uyt_
 repeat' first
  | with_reducible refine uh_.2 ⟨fun _ => ?_, fun _ => ?_⟩
  | with_reducible refine ua_.2 ?_
  | with_reducible refine ub_.2 ?_
  | with_reducible refine u2_.2 ⟨?_, fun _ _ => ?_⟩
  | with_reducible refine uqo_.2 ⟨?_, ?_⟩
  | with_reducible refine (uq_ _ ?_).mono fun _ _ => ?_
  | with_reducible refine (udm_ _ ?_).mono fun _ _ => ?_
  | with_reducible refine (ub3_ _ ?_).mono fun _ _ => ?_
  | with_reducible refine (ubi_ _ ?_).mono fun _ _ => ?_
  | with_reducible refine (ucq_ _ ?_).mono fun _ _ => ?_
  | with_reducible refine (uc5_ _ ?_ ?_).mono fun _ _ => ?_
  | exact fun c => clo (uq_ c trivial)
  | exact fun c => clo (u4_ c trivial)
  | with_reducible refine hn _ ?_ ?_
  | dsimp only
 all_goals grind [um_, ug_, ud_, ux_, up_, u0_, uz_, u8le, ui_, ue_, uv_, us_, uy_, List.length_cons, List.length_nil, List.mem_of_mem_take, List.mem_of_mem_drop]
theorem ubfq_ (x : Str) (h : x.length ≤ 1000) : Tot (uis_ x) (fun r : Str => r.length ≤ 21000) := by
 unfold uis_
 repeat' first
  | with_reducible refine ua_.2 ?_
  | with_reducible refine ub_.2 ?_
  | with_reducible refine (u8d_ _ ?_).mono fun _ _ => ?_
  | with_reducible refine (ub7_ _ ?_).mono fun _ _ => ?_
  | dsimp only
 all_goals grind [um_, ug_, ud_, ux_, up_, u0_, uz_, u8le, ui_, ue_, uv_, us_, uy_, List.length_cons, List.length_nil, List.mem_of_mem_take, List.mem_of_mem_drop]
theorem uv2_ (x : Int × Str × Str × Bool) (h : ROK x) : Tot (uho_ x) (fun r : Str => r.length ≤ 1000) := by
 unfold uho_
 repeat' first
  | with_reducible refine uh_.2 ⟨fun _ => ?_, fun _ => ?_⟩
  | with_reducible refine ub_.2 ?_
  | dsimp only
 all_goals grind [um_, ug_, ud_, ux_, up_, u0_, uz_, u8le, ui_, ue_, uv_, us_, uy_, List.length_cons, List.length_nil, List.mem_of_mem_take, List.mem_of_mem_drop]
theorem ubim_ (x : Str × (List Int) × Int × Int) (h : 0 ≤ x.2.2.2 ∧ x.2.2.2 ≤ x.2.2.1 ∧ x.2.2.1 = x.1.length ∧ x.2.2.1 ≤ 281474976710656 ∧ x.2.2.1 ≤ 1000 ∧ x.2.1.length ≤ x.2.2.2) : Tot (uxj_ x) (fun r : List Int => r.length ≤ x.1.length) := by
 refine uu_ (R := fun r : List Int => r.length ≤ x.1.length) (fun y : Str × (List Int) × Int × Int => (0 ≤ y.2.2.2 ∧ y.2.2.2 ≤ y.2.2.1 ∧ y.2.2.1 = y.1.length ∧ y.2.2.1 ≤ 281474976710656 ∧ y.2.2.1 ≤ 1000 ∧ y.2.1.length ≤ y.2.2.2) ∧ y.1 = x.1) (fun y : Str × (List Int) × Int × Int => (y.2.2.1 - y.2.2.2).toNat) ?_ _ _ (by grind) (by unfold fuel; grind)
 rintro next ⟨s_0, b_3, t6, t7⟩ h hn
 try dsimp only at h hn
 unfold u8s_
 repeat' first
  | with_reducible refine uh_.2 ⟨fun _ => ?_, fun _ => ?_⟩
  | with_reducible refine ua_.2 ?_
  | with_reducible refine ub_.2 ?_
  | with_reducible refine u2_.2 ⟨?_, fun _ _ => ?_⟩
  | with_reducible refine (udm_ _ ?_).mono fun _ _ => ?_
  | with_reducible refine (u4_ _ ?_).mono fun _ _ => ?_
  | with_reducible refine hn _ ?_ ?_
  | dsimp only
 all_goals grind [um_, ug_, ud_, ux_, up_, u0_, uz_, u8le, ui_, ue_, uv_, us_, uy_, List.length_cons, List.length_nil, List.mem_of_mem_take, List.mem_of_mem_drop]
theorem ubqb_ (x : Str) (h : x.length ≤ 1000) : Tot (uyd_ x) (fun r : Str => r.length ≤ x.length + 1) := by
 unfold uyd_
 repeat' first
  | with_reducible refine ua_.2 ?_
  | with_reducible refine ub_.2 ?_
  | with_reducible refine u2_.2 ⟨?_, fun _ _ => ?_⟩
  | with_reducible refine ud9_.2 ⟨?_, ?_⟩
  | with_reducible refine (ubim_ _ ?_).mono fun _ _ => ?_
  | with_reducible refine (ub7_ _ ?_).mono fun _ _ => ?_
  | dsimp only
 all_goals grind [um_, ug_, ud_, ux_, up_, u0_, uz_, u8le, ui_, ue_, uv_, us_, uy_, List.length_cons, List.length_nil, List.mem_of_mem_take, List.mem_of_mem_drop]
theorem ubr_ (x : Int) (h : 0 ≤ x ∧ x ≤ 999999999999999999) : Tot (udr_ x) (fun r : Str => r.length = 18) := by
 unfold udr_
 repeat' first
  | with_reducible refine ua_.2 ?_
  | with_reducible refine ub_.2 ?_
  | with_reducible refine u2_.2 ⟨?_, fun _ _ => ?_⟩
  | with_reducible refine ud9_.2 ⟨?_, ?_⟩
  | with_reducible refine (ubi_ _ ?_).mono fun _ _ => ?_
  | with_reducible refine (ubsd_ _ ?_).mono fun _ _ => ?_
  | dsimp only
 all_goals grind [um_, ug_, ud_, ux_, up_, u0_, uz_, u8le, ui_, ue_, uv_, us_, uy_, List.length_cons, List.length_nil, List.mem_of_mem_take, List.mem_of_mem_drop]
theorem ubas_ (x : Str × (List Int)) (h : x.1.length ≤ 1000 ∧ x.2.length + 40 * x.1.length ≤ 50000) : Tot (uqt_ x) (fun r : List Int => r.length ≤ 50000) := by
 refine uu_ (R := fun r : List Int => r.length ≤ 50000) (fun y : Str × (List Int) => y.1.length ≤ 1000 ∧ y.2.length + 40 * y.1.length ≤ 50000) (fun y : Str × (List Int) => y.1.length) ?_ _ _ h (by unfold fuel; have := h.1; omega)
 rintro next ⟨s, b⟩ h hn
 dsimp only at h hn
 unfold u0y_
 dsimp only
 refine uh_.2 ⟨fun hc => ?_, fun _ => ub_.2 (by omega)⟩
 have hne : 0 < s.length := by
  rw [uy_] at hc
  simp only [Bool.not_eq_true', decide_eq_false_iff_not] at hc
  omega
 have f1 : ∀ c, Tot ((uj2_ c).bind fun r => some r) fun _ => True := fun c => ⟨_, rfl, trivial⟩
 refine ua_.2 ((uym_ _ ⟨Int.le_refl _, by dsimp only; omega, by dsimp only; omega, f1⟩).mono fun r1 hr1 => ?_)
 dsimp only at hr1
 obtain ⟨a0, a1, _, a3⟩ := hr1
 rw [Int.zero_add] at a1 a3
 refine ua_.2 ((uym_ _ ⟨a0, by dsimp only; omega, by dsimp only; omega, ub4m_⟩).mono fun r2 hr2 => ?_)
 dsimp only at hr2
 obtain ⟨b0, b1, _, b3⟩ := hr2
 have hpos : 0 < r1 + r2 := by
  rcases Int.lt_or_le 0 (r1 + r2) with h' | h'
  · exact h'
  · exfalso
    have e1 : r1 = 0 := by omega
    have e2 : r2 = 0 := by omega
    subst e1 e2
    have g : s[(0 : Int).toNat]? = some (s[0]'hne) := List.getElem?_eq_getElem hne
    have g1 := a3 _ g
    have g2 := b3 _ g
    unfold uj2_ at g1
    unfold u6_ at g1 g2
    simp at g1 g2
    omega
 rw [ubj_ (by omega) (by omega)]
 refine ua_.2 (uqo_.2 ⟨⟨by omega, by omega, by omega⟩, ?_⟩)
 refine ua_.2 ((ub3_ _ (by rw [us_]; omega)).mono fun r4 h4 => ?_)
 refine ua_.2 (uqo_.2 ⟨⟨by omega, by omega, by omega⟩, ?_⟩)
 refine ua_.2 ((ubqb_ _ (by rw [us_]; omega)).mono fun r6 h6 => ?_)
 rw [us_] at h6
 refine ua_.2 ((ubr_ _ h4).mono fun r7 h7 => ?_)
 refine ua_.2 (ud9_.2 ⟨by omega, ?_⟩)
 refine ua_.2 ((ucq_ _ ⟨by dsimp only; omega, by dsimp only; rw [List.length_append]; omega⟩).mono fun r9 h9 => ?_)
 dsimp only at h9
 rw [List.length_append] at h9
 refine ua_.2 (uqo_.2 ⟨⟨by omega, by omega, by omega⟩, ?_⟩)
 refine hn _ ⟨?_, ?_⟩ ?_ <;> (dsimp only; rw [us_]; omega)
theorem uzz_ (x : Str) (h : x.length ≤ 1000) : Tot (uf7_ x) (fun r : Str => r.length ≤ 50010) := by
 unfold uf7_
 repeat' first
  | with_reducible refine ua_.2 ?_
  | with_reducible refine ub_.2 ?_
  | with_reducible refine u2_.2 ⟨?_, fun _ _ => ?_⟩
  | with_reducible refine ud9_.2 ⟨?_, ?_⟩
  | with_reducible refine (ubas_ _ ?_).mono fun _ _ => ?_
  | with_reducible refine (ub7_ _ ?_).mono fun _ _ => ?_
  | dsimp only
 all_goals grind [um_, ug_, ud_, ux_, up_, u0_, uz_, u8le, ui_, ue_, uv_, us_, uy_, List.length_cons, List.length_nil, List.mem_of_mem_take, List.mem_of_mem_drop]
theorem u4g_ (x : YY30 × Str × Bool) (h : x.2.1.length ≤ 1000000) : Tot (uhf_ x) (fun r : YY30 × Str => r.1 = x.1 ∧ r.2.length ≤ x.2.1.length + 30) := by
 obtain ⟨v_1, s_3, t9⟩ := x
 try dsimp only at h ⊢
 unfold uhf_
 repeat' first
  | with_reducible refine uh_.2 ⟨fun _ => ?_, fun _ => ?_⟩
  | with_reducible refine ua_.2 ?_
  | with_reducible refine ub_.2 ?_
  | with_reducible refine u2_.2 ⟨?_, fun _ _ => ?_⟩
  | with_reducible refine ud9_.2 ⟨?_, ?_⟩
  | with_reducible refine (ubi_ _ ?_).mono fun _ _ => ?_
  | dsimp only
 all_goals grind [um_, ug_, ud_, ux_, up_, u0_, uz_, u8le, ui_, ue_, uv_, us_, uy_, List.length_cons, List.length_nil, List.mem_of_mem_take, List.mem_of_mem_drop]
theorem utz_ (x : Int × Str × Str × Bool) (h : ROK x) : Tot (uha_ x) (fun r : Str => r.length ≤ 1048576) := by
 unfold uha_
 repeat' first
  | with_reducible refine uh_.2 ⟨fun _ => ?_, fun _ => ?_⟩
  | with_reducible refine ua_.2 ?_
  | with_reducible refine ub_.2 ?_
  | with_reducible refine u2_.2 ⟨?_, fun _ _ => ?_⟩
  | with_reducible refine ud9_.2 ⟨?_, ?_⟩
  | with_reducible refine (ubfq_ _ ?_).mono fun _ _ => ?_
  | with_reducible refine (u4g_ _ ?_).mono fun _ _ => ?_
  | with_reducible refine (uv2_ _ ?_).mono fun _ _ => ?_
  | with_reducible refine (uzz_ _ ?_).mono fun _ _ => ?_
  | dsimp only
 all_goals grind [um_, ug_, ud_, ux_, up_, u0_, uz_, u8le, ui_, ue_, uv_, us_, uy_, List.length_cons, List.length_nil, List.mem_of_mem_take, List.mem_of_mem_drop]
theorem ubin_ (x : List Int) (h : NS x) : Tot (uxk_ x) (fun r : List Int => NS r) := by
 refine uu_ (R := fun r => NS r) (fun y => NS y) (fun y => y.length) ?_ _ _ h (by unfold fuel; have := h.1; omega)
 intro next v h hn
 unfold u8t_
 by_cases hc : (0 : Int) < v.length
 · rw [ubj_ (by omega) (by have := h.1; omega), decide_eq_true hc]
   simp only [cond_true, Bool.true_and]
   refine ua_.2 (u2_.2 ⟨⟨by omega, by omega⟩, fun b hb => ?_⟩)
   refine uh_.2 ⟨fun _ => ua_.2 (uqo_.2 ⟨⟨by omega, by omega, by omega⟩, ?_⟩), fun _ => ub_.2 h⟩
   refine hn _ ⟨?_, fun t ht => h.2 t (uv_ ht)⟩ ?_
   · rw [us_]; have := h.1; omega
   · rw [us_]; omega
 · rw [decide_eq_false hc]
   simp only [cond_false, Bool.false_and]
   exact ua_.2 (ub_.2 (ub_.2 h))
theorem u64_ (x : List Int) (h : NS x) : Tot (urm_ x) (fun r : List Int => NS r) := by
 unfold urm_
 repeat' first
  | with_reducible refine ua_.2 ?_
  | with_reducible refine ub_.2 ?_
  | with_reducible refine (ubin_ _ ?_).mono fun _ _ => ?_
  | dsimp only
 all_goals grind [um_, ug_, ud_, ux_, up_, u0_, uz_, u8le, ui_, ue_, uv_, us_, uy_, List.length_cons, List.length_nil, List.mem_of_mem_take, List.mem_of_mem_drop]
theorem u5i_ (x : YY9 × Str × Bool) (h : x.2.1.length ≤ 10) : Tot (uhv_ x) (fun r : YY9 × Str => r.1 = x.1 ∧ r.2.length ≤ 30) := by
 obtain ⟨v_1, s_3, t11⟩ := x
 try dsimp only at h ⊢
 unfold uhv_
 repeat' first
  | with_reducible refine uh_.2 ⟨fun _ => ?_, fun _ => ?_⟩
  | with_reducible refine ua_.2 ?_
  | with_reducible refine ub_.2 ?_
  | with_reducible refine u2_.2 ⟨?_, fun _ _ => ?_⟩
  | with_reducible refine ud9_.2 ⟨?_, ?_⟩
  | with_reducible refine (ubi_ _ ?_).mono fun _ _ => ?_
  | dsimp only
 all_goals grind [um_, ug_, ud_, ux_, up_, u0_, uz_, u8le, ui_, ue_, uv_, us_, uy_, List.length_cons, List.length_nil, List.mem_of_mem_take, List.mem_of_mem_drop]
theorem u5j_ (x : Str × (List Int) × Bool) (h : x.1.length ≤ 30 ∧ x.2.1.length ≤ 1002) : Tot (uhw_ x) (fun r : Str => r.length ≤ 31000) := by
 obtain ⟨s_3, l_4, t21⟩ := x
 try dsimp only at h ⊢
 unfold uhw_
 repeat' first
  | with_reducible refine uh_.2 ⟨fun _ => ?_, fun _ => ?_⟩
  | with_reducible refine ua_.2 ?_
  | with_reducible refine ub_.2 ?_
  | with_reducible refine u2_.2 ⟨?_, fun _ _ => ?_⟩
  | with_reducible refine ud9_.2 ⟨?_, ?_⟩
  | with_reducible refine (uw7_ _ ?_).mono fun _ _ => ?_
  | dsimp only
 all_goals grind [um_, ug_, ud_, ux_, up_, u0_, uz_, u8le, ui_, ue_, uv_, us_, uy_, List.length_cons, List.length_nil, List.mem_of_mem_take, List.mem_of_mem_drop]
theorem u5k_ (x : YY9 × Str × Bool) (h : x.2.1.length ≤ 31000 ∧ 0 ≤ x.1.2.2.1 ∧ x.1.2.2.1 ≤ 3) : Tot (uhx_ x) (fun r : YY9 × Str => r.1 = x.1 ∧ r.2.length ≤ 31100) := by
 obtain ⟨v_1, s_3, t30⟩ := x
 try dsimp only at h ⊢
 unfold uhx_
 repeat' first
  | with_reducible refine uh_.2 ⟨fun _ => ?_, fun _ => ?_⟩
  | with_reducible refine ua_.2 ?_
  | with_reducible refine ub_.2 ?_
  | with_reducible refine u2_.2 ⟨?_, fun _ _ => ?_⟩
  | with_reducible refine ud9_.2 ⟨?_, ?_⟩
  | with_reducible refine (ubi_ _ ?_).mono fun _ _ => ?_
  | dsimp only
 all_goals grind [um_, ug_, ud_, ux_, up_, u0_, uz_, u8le, ui_, ue_, uv_, us_, uy_, List.length_cons, List.length_nil, List.mem_of_mem_take, List.mem_of_mem_drop]
theorem u5l_ (x : YY9 × Str × Bool) (h : x.2.1.length ≤ 31100) : Tot (uhy_ x) (fun r : YY9 × Str => r.1 = x.1 ∧ r.2.length ≤ 31200) := by
 obtain ⟨v_1, s_3, t44⟩ := x
 try dsimp only at h ⊢
 unfold uhy_
 repeat' first
  | with_reducible refine uh_.2 ⟨fun _ => ?_, fun _ => ?_⟩
  | with_reducible refine ua_.2 ?_
  | with_reducible refine ub_.2 ?_
  | with_reducible refine u2_.2 ⟨?_, fun _ _ => ?_⟩
  | with_reducible refine ud9_.2 ⟨?_, ?_⟩
  | with_reducible refine (ubi_ _ ?_).mono fun _ _ => ?_
  | dsimp only
 all_goals grind [um_, ug_, ud_, ux_, up_, u0_, uz_, u8le, ui_, ue_, uv_, us_, uy_, List.length_cons, List.length_nil, List.mem_of_mem_take, List.mem_of_mem_drop]
theorem u5m_ (x : YY9 × Str × Bool) (h : x.2.1.length ≤ 31200) : Tot (uhz_ x) (fun r : YY9 × Str => r.1 = x.1 ∧ r.2.length ≤ 31300) := by
 obtain ⟨v_1, s_3, t53⟩ := x
 try dsimp only at h ⊢
 unfold uhz_
 repeat' first
  | with_reducible refine uh_.2 ⟨fun _ => ?_, fun _ => ?_⟩
  | with_reducible refine ua_.2 ?_
  | with_reducible refine ub_.2 ?_
  | with_reducible refine u2_.2 ⟨?_, fun _ _ => ?_⟩
  | with_reducible refine ud9_.2 ⟨?_, ?_⟩
  | with_reducible refine (ubi_ _ ?_).mono fun _ _ => ?_
  | dsimp only
 all_goals grind [um_, ug_, ud_, ux_, up_, u0_, uz_, u8le, ui_, ue_, uv_, us_, uy_, List.length_cons, List.length_nil, List.mem_of_mem_take, List.mem_of_mem_drop]
theorem u5n_ (x : Str × Int × Bool) (h : True) : Tot (uh0_ x) (fun r : Str => r.length ≤ x.1.length + 21) := by
 obtain ⟨p_6, n_7, t73⟩ := x
 try dsimp only at h ⊢
 unfold uh0_
 repeat' first
  | with_reducible refine uh_.2 ⟨fun _ => ?_, fun _ => ?_⟩
  | with_reducible refine ua_.2 ?_
  | with_reducible refine ub_.2 ?_
  | with_reducible refine (ubi_ _ ?_).mono fun _ _ => ?_
  | dsimp only
 all_goals grind [um_, ug_, ud_, ux_, up_, u0_, uz_, u8le, ui_, ue_, uv_, us_, uy_, List.length_cons, List.length_nil, List.mem_of_mem_take, List.mem_of_mem_drop]
theorem u5o_ (x : Str × (List Str) × Int × Int) (h : 0 ≤ x.2.2.2 ∧ x.2.2.2 ≤ x.2.2.1 ∧ x.2.2.1 = x.2.1.length ∧ x.2.2.1 ≤ 281474976710656 ∧ x.1.length ≤ 40000 + 1030 * x.2.2.2 ∧ x.2.2.1 ≤ 1002 ∧ ∀ s ∈ x.2.1, s.length ≤ 1000) : Tot (unl_ x) (fun r : Str => r.length ≤ 10000000) := by
 refine uu_ (R := fun r : Str => r.length ≤ 10000000) (fun y : Str × (List Str) × Int × Int => (0 ≤ y.2.2.2 ∧ y.2.2.2 ≤ y.2.2.1 ∧ y.2.2.1 = y.2.1.length ∧ y.2.2.1 ≤ 281474976710656 ∧ y.1.length ≤ 40000 + 1030 * y.2.2.2 ∧ y.2.2.1 ≤ 1002 ∧ ∀ s ∈ y.2.1, s.length ≤ 1000)) (fun y : Str × (List Str) × Int × Int => (y.2.2.1 - y.2.2.2).toNat) ?_ _ _ (by grind) (by unfold fuel; grind)
 rintro next ⟨s_3, t61, t62, t63⟩ h hn
 try dsimp only at h hn
 unfold uwf_
 repeat' first
  | with_reducible refine uh_.2 ⟨fun _ => ?_, fun _ => ?_⟩
  | with_reducible refine ua_.2 ?_
  | with_reducible refine ub_.2 ?_
  | with_reducible refine u2_.2 ⟨?_, fun _ _ => ?_⟩
  | with_reducible refine ud9_.2 ⟨?_, ?_⟩
  | with_reducible refine (ub3_ _ ?_).mono fun _ _ => ?_
  | with_reducible refine (u5n_ _ ?_).mono fun _ _ => ?_
  | with_reducible refine hn _ ?_ ?_
  | dsimp only
 all_goals grind [um_, ug_, ud_, ux_, up_, u0_, uz_, u8le, ui_, ue_, uv_, us_, uy_, List.length_cons, List.length_nil, List.mem_of_mem_take, List.mem_of_mem_drop]
theorem uv3_ (x : Int × (List Int) × Int × Int × Int × Int × (List Str)) (h : SOK x) : Tot (uhp_ x) (fun r : Str => r.length ≤ 10000000) := by
 unfold uhp_
 repeat' first
  | with_reducible refine ua_.2 ?_
  | with_reducible refine ub_.2 ?_
  | with_reducible refine (u5i_ _ ?_).mono fun _ _ => ?_
  | with_reducible refine (u64_ _ ?_).mono fun _ _ => ?_
  | with_reducible refine (u5j_ _ ?_).mono fun _ _ => ?_
  | with_reducible refine (u5k_ _ ?_).mono fun _ _ => ?_
  | with_reducible refine (u5l_ _ ?_).mono fun _ _ => ?_
  | with_reducible refine (u5m_ _ ?_).mono fun _ _ => ?_
  | with_reducible refine (u5o_ _ ?_).mono fun _ _ => ?_
  | dsimp only
 all_goals grind [um_, ug_, ud_, ux_, up_, u0_, uz_, u8le, ui_, ue_, uv_, us_, uy_, List.length_cons, List.length_nil, List.mem_of_mem_take, List.mem_of_mem_drop]
theorem u0r_ (x : (List Str) × (List YY18) × Int × Int) (h : 0 ≤ x.2.2.2 ∧ x.2.2.2 ≤ x.2.2.1 ∧ x.2.2.1 = x.2.1.length ∧ x.2.2.1 ≤ 281474976710656 ∧ x.1.length ≤ x.2.2.2 ∧ (∀ s ∈ x.1, s.length ≤ 5000) ∧ x.2.2.1 ≤ 1002 ∧ ∀ t ∈ x.2.1, t.2.1.length ≤ 5000) : Tot (ujh_ x) (fun r : List Str => r.length ≤ 1002 ∧ ∀ s ∈ r, s.length ≤ 5000) := by
 refine uu_ (R := fun r : List Str => r.length ≤ 1002 ∧ ∀ s ∈ r, s.length ≤ 5000) (fun y : (List Str) × (List YY18) × Int × Int => (0 ≤ y.2.2.2 ∧ y.2.2.2 ≤ y.2.2.1 ∧ y.2.2.1 = y.2.1.length ∧ y.2.2.1 ≤ 281474976710656 ∧ y.1.length ≤ y.2.2.2 ∧ (∀ s ∈ y.1, s.length ≤ 5000) ∧ y.2.2.1 ≤ 1002 ∧ ∀ t ∈ y.2.1, t.2.1.length ≤ 5000)) (fun y : (List Str) × (List YY18) × Int × Int => (y.2.2.1 - y.2.2.2).toNat) ?_ _ _ (by grind) (by unfold fuel; grind)
 rintro next ⟨l_3, t7, t8, t9⟩ h hn
 try dsimp only at h hn
 unfold urn_
 repeat' first
  | with_reducible refine uh_.2 ⟨fun _ => ?_, fun _ => ?_⟩
  | with_reducible refine ua_.2 ?_
  | with_reducible refine ub_.2 ?_
  | with_reducible refine u2_.2 ⟨?_, fun _ _ => ?_⟩
  | with_reducible refine ulb_.2 ⟨?_, ?_⟩
  | with_reducible refine (un7_ _ ?_).mono fun _ _ => ?_
  | with_reducible refine (ubi_ _ ?_).mono fun _ _ => ?_
  | with_reducible refine hn _ ?_ ?_
  | dsimp only
 all_goals grind [um_, ug_, ud_, ux_, up_, u0_, uz_, u8le, ui_, ue_, uv_, us_, uy_, List.length_cons, List.length_nil, List.mem_of_mem_take, List.mem_of_mem_drop]
theorem uqp_ (x : List YY18) (h : TS x) : Tot (ufv_ x) (fun r : Str => r.length ≤ 10000000) := by
 unfold ufv_
 refine ua_.2 ((u0r_ _ ⟨by simp, by simp, rfl, by have := h.1; simp; omega, by simp, by simp, by have := h.1; simp; omega, fun t ht => (h.2 t ht).1⟩).mono fun r hr => ?_)
 have hj : (Lib.join r [45]).length ≤ 1002 * (5000 + 1) := ub4l_ hr.2 hr.1 (by simp)
 refine uh_.2 ⟨fun _ => ub_.2 (by simp), fun _ => ?_⟩
 exact ua_.2 ((ulc_ _ ⟨by dsimp only; omega, by dsimp only; omega⟩).mono fun s hs => ub_.2 (by rw [hs]; dsimp only; omega))
theorem uw8_ (x : Int) (h : True) : Tot (uit_ x) (fun r : Str => r.length ≤ 10000000) := by
 unfold uit_
 repeat' first
  | with_reducible refine ua_.2 ?_
  | with_reducible refine ub_.2 ?_
  | with_reducible refine (ubi_ _ ?_).mono fun _ _ => ?_
  | dsimp only
 all_goals grind [um_, ug_, ud_, ux_, up_, u0_, uz_, u8le, ui_, ue_, uv_, us_, uy_, List.length_cons, List.length_nil, List.mem_of_mem_take, List.mem_of_mem_drop]
theorem ubqc_ (x : Sum YY26 (Sum YY30 (Sum YY9 (Sum (List YY18) (Sum Int Unit))))) (h : VOK x) : Tot (uye_ x) (fun r : Str × Int => r.1.length ≤ 100) := by
 unfold uye_
 refine ua_.2 (Tot.mono (P := fun r : Str => r.length ≤ 10000000) ?_ fun r1 hr => ?_)
 · rcases x with x | x | x | x | x | x
   · exact ua_.2 ((uv1_ _ h).mono fun _ h => ub_.2 (by omega))
   · exact ua_.2 ((utz_ _ h).mono fun _ h => ub_.2 (by omega))
   · exact ua_.2 ((uv3_ _ h).mono fun _ h => ub_.2 h)
   · exact ua_.2 ((uqp_ _ h).mono fun _ h => ub_.2 h)
   · exact ua_.2 ((uw8_ _ trivial).mono fun _ h => ub_.2 h)
   · exact h.elim
 · refine uh_.2 ⟨fun _ => ub_.2 (by simp), fun hc => ub_.2 ?_⟩
   have := of_decide_eq_false hc
   dsimp only
   omega
theorem usj_ (x : Int × Str) (h : x.2.length ≤ 1048576) : Tot (uov_ x) (fun r : Str × Int => r.1.length ≤ 100) := by
 obtain ⟨kind_0, s_1⟩ := x
 try dsimp only at h ⊢
 unfold uov_
 repeat' first
  | with_reducible refine uh_.2 ⟨fun _ => ?_, fun _ => ?_⟩
  | with_reducible refine ua_.2 ?_
  | with_reducible refine ub_.2 ?_
  | with_reducible refine (u4f_ _ ?_).mono fun _ _ => ?_
  | with_reducible refine (ubqc_ _ ?_).mono fun _ _ => ?_
  | dsimp only
 all_goals grind [um_, ug_, ud_, ux_, up_, u0_, uz_, u8le, ui_, ue_, uv_, us_, uy_, List.length_cons, List.length_nil, List.mem_of_mem_take, List.mem_of_mem_drop]
end Go.Ev.Pv
namespace Go.Ev.Pv
theorem uta_ (x : YY6 × Int × YY8 × Int × Int × Int) (h : (∀ p, Tot (x.2.2.1 p) fun _ => True) ∧ x.2.2.2.1 = 20 ∧ 0 ≤ x.2.2.2.2.1 ∧ x.2.2.2.2.2 = x.2.2.2.2.1 + 20 ∧ x.2.1 = x.1.length ∧ x.2.1 ≤ 1048576 ∧ x.2.2.2.2.1 ≤ x.2.1) : Tot (uf4_ x) (fun r : YY6 × Int => r.1.length = x.1.length ∧ (∀ q ∈ r.1, q ∈ x.1) ∧ 0 ≤ r.2 ∧ r.2 ≤ x.2.1) := by
 refine uu_ (R := fun r : YY6 × Int => r.1.length = x.1.length ∧ (∀ q ∈ r.1, q ∈ x.1) ∧ 0 ≤ r.2 ∧ r.2 ≤ x.2.1) (fun y : YY6 × Int × YY8 × Int × Int × Int => ((∀ p, Tot (y.2.2.1 p) fun _ => True) ∧ y.2.2.2.1 = 20 ∧ 0 ≤ y.2.2.2.2.1 ∧ y.2.2.2.2.2 = y.2.2.2.2.1 + 20 ∧ y.2.1 = y.1.length ∧ y.2.1 ≤ 1048576 ∧ y.2.2.2.2.1 ≤ y.2.1) ∧ y.2.1 = x.2.1 ∧ y.2.2.1 = x.2.2.1 ∧ y.2.2.2.1 = x.2.2.2.1 ∧ y.1.length = x.1.length ∧ ∀ q ∈ y.1, q ∈ x.1) (fun y : YY6 × Int × YY8 × Int × Int × Int => (y.2.1 - y.2.2.2.2.1).toNat) ?_ _ _ (by grind) (by unfold fuel; grind)
 rintro next ⟨data_0, n_1, cmp_2, blockSize_6, a_7, b_8⟩ h hn
 try dsimp only at h hn
 unfold ukf_
 repeat' first
  | with_reducible refine uh_.2 ⟨fun _ => ?_, fun _ => ?_⟩
  | with_reducible refine ua_.2 ?_
  | with_reducible refine ub_.2 ?_
  | with_reducible refine (ugq_ _ ?_).mono fun _ _ => ?_
  | with_reducible refine hn _ ?_ ?_
  | dsimp only
 all_goals grind [um_, ug_, ud_, ux_, up_, u0_, uz_, u8le, ui_, ue_, uv_, us_, uy_, List.length_cons, List.length_nil, List.mem_of_mem_take, List.mem_of_mem_drop]
theorem utb_ (x : YY6 × Int × YY8 × Int × Int × Int) (h : (∀ p, Tot (x.2.2.1 p) fun _ => True) ∧ 0 < x.2.2.2.1 ∧ x.2.2.2.1 < x.2.1 ∧ 0 ≤ x.2.2.2.2.1 ∧ x.2.2.2.2.2 = x.2.2.2.2.1 + 2 * x.2.2.2.1 ∧ x.2.1 = x.1.length ∧ x.2.1 ≤ 1048576 ∧ x.2.2.2.2.1 ≤ x.2.1) : Tot (uf5_ x) (fun r : YY6 × Int => r.1.length = x.1.length ∧ (∀ q ∈ r.1, q ∈ x.1) ∧ 0 ≤ r.2 ∧ r.2 ≤ x.2.1) := by
 refine uu_ (R := fun r : YY6 × Int => r.1.length = x.1.length ∧ (∀ q ∈ r.1, q ∈ x.1) ∧ 0 ≤ r.2 ∧ r.2 ≤ x.2.1) (fun y : YY6 × Int × YY8 × Int × Int × Int => ((∀ p, Tot (y.2.2.1 p) fun _ => True) ∧ 0 < y.2.2.2.1 ∧ y.2.2.2.1 < y.2.1 ∧ 0 ≤ y.2.2.2.2.1 ∧ y.2.2.2.2.2 = y.2.2.2.2.1 + 2 * y.2.2.2.1 ∧ y.2.1 = y.1.length ∧ y.2.1 ≤ 1048576 ∧ y.2.2.2.2.1 ≤ y.2.1) ∧ y.2.1 = x.2.1 ∧ y.2.2.1 = x.2.2.1 ∧ y.2.2.2.1 = x.2.2.2.1 ∧ y.1.length = x.1.length ∧ ∀ q ∈ y.1, q ∈ x.1) (fun y : YY6 × Int × YY8 × Int × Int × Int => (y.2.1 - y.2.2.2.2.1).toNat) ?_ _ _ (by grind) (by unfold fuel; grind)
 rintro next ⟨data_0, n_1, cmp_2, blockSize_6, a_7, b_8⟩ h hn
 try dsimp only at h hn
 unfold ukg_
 repeat' first
  | with_reducible refine uh_.2 ⟨fun _ => ?_, fun _ => ?_⟩
  | with_reducible refine ua_.2 ?_
  | with_reducible refine ub_.2 ?_
  | with_reducible refine (uic_ _ ?_).mono fun _ _ => ?_
  | with_reducible refine hn _ ?_ ?_
  | dsimp only
 all_goals grind [um_, ug_, ud_, ux_, up_, u0_, uz_, u8le, ui_, ue_, uv_, us_, uy_, List.length_cons, List.length_nil, List.mem_of_mem_take, List.mem_of_mem_drop]
theorem utc_ (x : YY6 × Int × YY8 × Int) (h : (∀ p, Tot (x.2.2.1 p) fun _ => True) ∧ 0 < x.2.2.2 ∧ x.2.2.2 ≤ 2097152 ∧ x.2.1 = x.1.length ∧ x.2.1 ≤ 1048576) : Tot (uf6_ x) (fun r : List (Str × Str) => r.length = x.1.length ∧ (∀ q ∈ r, q ∈ x.1)) := by
 refine uu_ (R := fun r : List (Str × Str) => r.length = x.1.length ∧ (∀ q ∈ r, q ∈ x.1)) (fun y : YY6 × Int × YY8 × Int => ((∀ p, Tot (y.2.2.1 p) fun _ => True) ∧ 0 < y.2.2.2 ∧ y.2.2.2 ≤ 2097152 ∧ y.2.1 = y.1.length ∧ y.2.1 ≤ 1048576) ∧ y.2.1 = x.2.1 ∧ y.2.2.1 = x.2.2.1 ∧ y.1.length = x.1.length ∧ ∀ q ∈ y.1, q ∈ x.1) (fun y : YY6 × Int × YY8 × Int => (2097153 - y.2.2.2).toNat) ?_ _ _ (by grind) (by unfold fuel; grind)
 rintro next ⟨data_0, n_1, cmp_2, blockSize_6⟩ h hn
 try dsimp only at h hn
 unfold ukh_
 repeat' first
  | with_reducible refine uh_.2 ⟨fun _ => ?_, fun _ => ?_⟩
  | with_reducible refine ua_.2 ?_
  | with_reducible refine ub_.2 ?_
  | with_reducible refine (utb_ _ ?_).mono fun _ _ => ?_
  | with_reducible refine (uic_ _ ?_).mono fun _ _ => ?_
  | with_reducible refine hn _ ?_ ?_
  | dsimp only
 all_goals grind [um_, ug_, ud_, ux_, up_, u0_, uz_, u8le, ui_, ue_, uv_, us_, uy_, List.length_cons, List.length_nil, List.mem_of_mem_take, List.mem_of_mem_drop]
theorem uwb_ (x : YY6 × Int × YY8) (h : (∀ p, Tot (x.2.2 p) fun _ => True) ∧ x.2.1 = x.1.length ∧ x.2.1 ≤ 1048576) : Tot (ue0_ x) (fun r : List (Str × Str) => r.length = x.1.length ∧ (∀ q ∈ r, q ∈ x.1)) := by
 obtain ⟨data_0, n_1, cmp_2⟩ := x
 try dsimp only at h ⊢
 unfold ue0_
 repeat' first
  | with_reducible refine ua_.2 ?_
  | with_reducible refine ub_.2 ?_
  | with_reducible refine (uta_ _ ?_).mono fun _ _ => ?_
  | with_reducible refine (ugq_ _ ?_).mono fun _ _ => ?_
  | with_reducible refine (utc_ _ ?_).mono fun _ _ => ?_
  | dsimp only
 all_goals grind [um_, ug_, ud_, ux_, up_, u0_, uz_, u8le, ui_, ue_, uv_, us_, uy_, List.length_cons, List.length_nil, List.mem_of_mem_take, List.mem_of_mem_drop]
theorem uv4_ (x : YY6 × YY8) (h : (∀ p, Tot (x.2 p) fun _ => True) ∧ x.1.length ≤ 1048576) : Tot (uef_ x) (fun r : List (Str × Str) => r.length = x.1.length ∧ (∀ q ∈ r, q ∈ x.1)) := by
 obtain ⟨x_0, cmp_1⟩ := x
 try dsimp only at h ⊢
 unfold uef_
 repeat' first
  | with_reducible refine ua_.2 ?_
  | with_reducible refine ub_.2 ?_
  | with_reducible refine (uwb_ _ ?_).mono fun _ _ => ?_
  | dsimp only
 all_goals grind [um_, ug_, ud_, ux_, up_, u0_, uz_, u8le, ui_, ue_, uv_, us_, uy_, List.length_cons, List.length_nil, List.mem_of_mem_take, List.mem_of_mem_drop]
theorem une_ (x : (List YY2) × Int × YY11 × Int × Int × Int) (h : (∀ p, Tot (x.2.2.1 p) fun _ => True) ∧ x.2.2.2.1 = 20 ∧ 0 ≤ x.2.2.2.2.1 ∧ x.2.2.2.2.2 = x.2.2.2.2.1 + 20 ∧ x.2.1 = x.1.length ∧ x.2.1 ≤ 1048576 ∧ x.2.2.2.2.1 ≤ x.2.1) : Tot (ud5_ x) (fun r : (List YY2) × Int => r.1.length = x.1.length ∧ (∀ q ∈ r.1, q ∈ x.1) ∧ 0 ≤ r.2 ∧ r.2 ≤ x.2.1) := by
 refine uu_ (R := fun r : (List YY2) × Int => r.1.length = x.1.length ∧ (∀ q ∈ r.1, q ∈ x.1) ∧ 0 ≤ r.2 ∧ r.2 ≤ x.2.1) (fun y : (List YY2) × Int × YY11 × Int × Int × Int => ((∀ p, Tot (y.2.2.1 p) fun _ => True) ∧ y.2.2.2.1 = 20 ∧ 0 ≤ y.2.2.2.2.1 ∧ y.2.2.2.2.2 = y.2.2.2.2.1 + 20 ∧ y.2.1 = y.1.length ∧ y.2.1 ≤ 1048576 ∧ y.2.2.2.2.1 ≤ y.2.1) ∧ y.2.1 = x.2.1 ∧ y.2.2.1 = x.2.2.1 ∧ y.2.2.2.1 = x.2.2.2.1 ∧ y.1.length = x.1.length ∧ ∀ q ∈ y.1, q ∈ x.1) (fun y : (List YY2) × Int × YY11 × Int × Int × Int => (y.2.1 - y.2.2.2.2.1).toNat) ?_ _ _ (by grind) (by unfold fuel; grind)
 rintro next ⟨data_0, n_1, cmp_2, blockSize_6, a_7, b_8⟩ h hn
 try dsimp only at h hn
 unfold ugw_
 repeat' first
  | with_reducible refine uh_.2 ⟨fun _ => ?_, fun _ => ?_⟩
  | with_reducible refine ua_.2 ?_
  | with_reducible refine ub_.2 ?_
  | with_reducible refine (uej_ _ ?_).mono fun _ _ => ?_
  | with_reducible refine hn _ ?_ ?_
  | dsimp only
 all_goals grind [um_, ug_, ud_, ux_, up_, u0_, uz_, u8le, ui_, ue_, uv_, us_, uy_, List.length_cons, List.length_nil, List.mem_of_mem_take, List.mem_of_mem_drop]
theorem unf_ (x : (List YY2) × Int × YY11 × Int × Int × Int) (h : (∀ p, Tot (x.2.2.1 p) fun _ => True) ∧ 0 < x.2.2.2.1 ∧ x.2.2.2.1 < x.2.1 ∧ 0 ≤ x.2.2.2.2.1 ∧ x.2.2.2.2.2 = x.2.2.2.2.1 + 2 * x.2.2.2.1 ∧ x.2.1 = x.1.length ∧ x.2.1 ≤ 1048576 ∧ x.2.2.2.2.1 ≤ x.2.1) : Tot (ud6_ x) (fun r : (List YY2) × Int => r.1.length = x.1.length ∧ (∀ q ∈ r.1, q ∈ x.1) ∧ 0 ≤ r.2 ∧ r.2 ≤ x.2.1) := by
 refine uu_ (R := fun r : (List YY2) × Int => r.1.length = x.1.length ∧ (∀ q ∈ r.1, q ∈ x.1) ∧ 0 ≤ r.2 ∧ r.2 ≤ x.2.1) (fun y : (List YY2) × Int × YY11 × Int × Int × Int => ((∀ p, Tot (y.2.2.1 p) fun _ => True) ∧ 0 < y.2.2.2.1 ∧ y.2.2.2.1 < y.2.1 ∧ 0 ≤ y.2.2.2.2.1 ∧ y.2.2.2.2.2 = y.2.2.2.2.1 + 2 * y.2.2.2.1 ∧ y.2.1 = y.1.length ∧ y.2.1 ≤ 1048576 ∧ y.2.2.2.2.1 ≤ y.2.1) ∧ y.2.1 = x.2.1 ∧ y.2.2.1 = x.2.2.1 ∧ y.2.2.2.1 = x.2.2.2.1 ∧ y.1.length = x.1.length ∧ ∀ q ∈ y.1, q ∈ x.1) (fun y : (List YY2) × Int × YY11 × Int × Int × Int => (y.2.1 - y.2.2.2.2.1).toNat) ?_ _ _ (by grind) (by unfold fuel; grind)
 rintro next ⟨data_0, n_1, cmp_2, blockSize_6, a_7, b_8⟩ h hn
 try dsimp only at h hn
 unfold ugx_
 repeat' first
  | with_reducible refine uh_.2 ⟨fun _ => ?_, fun _ => ?_⟩
  | with_reducible refine ua_.2 ?_
  | with_reducible refine ub_.2 ?_
  | with_reducible refine (uf1_ _ ?_).mono fun _ _ => ?_
  | with_reducible refine hn _ ?_ ?_
  | dsimp only
 all_goals grind [um_, ug_, ud_, ux_, up_, u0_, uz_, u8le, ui_, ue_, uv_, us_, uy_, List.length_cons, List.length_nil, List.mem_of_mem_take, List.mem_of_mem_drop]
theorem ung_ (x : (List YY2) × Int × YY11 × Int) (h : (∀ p, Tot (x.2.2.1 p) fun _ => True) ∧ 0 < x.2.2.2 ∧ x.2.2.2 ≤ 2097152 ∧ x.2.1 = x.1.length ∧ x.2.1 ≤ 1048576) : Tot (ud7_ x) (fun r : List YY2 => r.length = x.1.length ∧ (∀ q ∈ r, q ∈ x.1)) := by
 refine uu_ (R := fun r : List YY2 => r.length = x.1.length ∧ (∀ q ∈ r, q ∈ x.1)) (fun y : (List YY2) × Int × YY11 × Int => ((∀ p, Tot (y.2.2.1 p) fun _ => True) ∧ 0 < y.2.2.2 ∧ y.2.2.2 ≤ 2097152 ∧ y.2.1 = y.1.length ∧ y.2.1 ≤ 1048576) ∧ y.2.1 = x.2.1 ∧ y.2.2.1 = x.2.2.1 ∧ y.1.length = x.1.length ∧ ∀ q ∈ y.1, q ∈ x.1) (fun y : (List YY2) × Int × YY11 × Int => (2097153 - y.2.2.2).toNat) ?_ _ _ (by grind) (by unfold fuel; grind)
 rintro next ⟨data_0, n_1, cmp_2, blockSize_6⟩ h hn
 try dsimp only at h hn
 unfold ugy_
 repeat' first
  | with_reducible refine uh_.2 ⟨fun _ => ?_, fun _ => ?_⟩
  | with_reducible refine ua_.2 ?_
  | with_reducible refine ub_.2 ?_
  | with_reducible refine (unf_ _ ?_).mono fun _ _ => ?_
  | with_reducible refine (uf1_ _ ?_).mono fun _ _ => ?_
  | with_reducible refine hn _ ?_ ?_
  | dsimp only
 all_goals grind [um_, ug_, ud_, ux_, up_, u0_, uz_, u8le, ui_, ue_, uv_, us_, uy_, List.length_cons, List.length_nil, List.mem_of_mem_take, List.mem_of_mem_drop]
theorem upt_ (x : (List YY2) × Int × YY11) (h : (∀ p, Tot (x.2.2 p) fun _ => True) ∧ x.2.1 = x.1.length ∧ x.2.1 ≤ 1048576) : Tot (uct_ x) (fun r : List YY2 => r.length = x.1.length ∧ (∀ q ∈ r, q ∈ x.1)) := by
 obtain ⟨data_0, n_1, cmp_2⟩ := x
 try dsimp only at h ⊢
 unfold uct_
 repeat' first
  | with_reducible refine ua_.2 ?_
  | with_reducible refine ub_.2 ?_
  | with_reducible refine (une_ _ ?_).mono fun _ _ => ?_
  | with_reducible refine (uej_ _ ?_).mono fun _ _ => ?_
  | with_reducible refine (ung_ _ ?_).mono fun _ _ => ?_
  | dsimp only
 all_goals grind [um_, ug_, ud_, ux_, up_, u0_, uz_, u8le, ui_, ue_, uv_, us_, uy_, List.length_cons, List.length_nil, List.mem_of_mem_take, List.mem_of_mem_drop]
theorem uon_ (x : (List YY2) × YY11) (h : (∀ p, Tot (x.2 p) fun _ => True) ∧ x.1.length ≤ 1048576) : Tot (uck_ x) (fun r : List YY2 => r.length = x.1.length ∧ (∀ q ∈ r, q ∈ x.1)) := by
 obtain ⟨x_0, cmp_1⟩ := x
 try dsimp only at h ⊢
 unfold uck_
 repeat' first
  | with_reducible refine ua_.2 ?_
  | with_reducible refine ub_.2 ?_
  | with_reducible refine (upt_ _ ?_).mono fun _ _ => ?_
  | dsimp only
 all_goals grind [um_, ug_, ud_, ux_, up_, u0_, uz_, u8le, ui_, ue_, uv_, us_, uy_, List.length_cons, List.length_nil, List.mem_of_mem_take, List.mem_of_mem_drop]
theorem ubnn_ (x : Str) (h : True) : Tot (uki_ x) (fun r : Bool => True) := by
 unfold uki_
 repeat' first
  | with_reducible refine ub_.2 ?_
  | dsimp only
 all_goals grind [um_, ug_, ud_, ux_, up_, u0_, uz_, u8le, ui_, ue_, uv_, us_, uy_, List.length_cons, List.length_nil, List.mem_of_mem_take, List.mem_of_mem_drop]
theorem uz0_ (x : Str × Str) (h : True) : Tot (ud3_ x) (fun r : Int => -1 ≤ r ∧ r ≤ 1) := by
 obtain ⟨x_0, y_1⟩ := x
 try dsimp only at h ⊢
 unfold ud3_
 repeat' first
  | with_reducible refine uh_.2 ⟨fun _ => ?_, fun _ => ?_⟩
  | with_reducible refine ua_.2 ?_
  | with_reducible refine ub_.2 ?_
  | with_reducible refine (ubnn_ _ ?_).mono fun _ _ => ?_
  | dsimp only
 all_goals grind [um_, ug_, ud_, ux_, up_, u0_, uz_, u8le, ui_, ue_, uv_, us_, uy_, List.length_cons, List.length_nil, List.mem_of_mem_take, List.mem_of_mem_drop]
theorem ubw1_ (x : (Str × Str) × (Str × Str)) (h : True) : Tot (ubay_ x) (fun r : Int => True) := by
 obtain ⟨a_0, b_1⟩ := x
 try dsimp only at h ⊢
 unfold ubay_
 repeat' first
  | with_reducible refine ua_.2 ?_
  | with_reducible refine ub_.2 ?_
  | with_reducible refine (uz0_ _ ?_).mono fun _ _ => ?_
  | dsimp only
 all_goals grind [um_, ug_, ud_, ux_, up_, u0_, uz_, u8le, ui_, ue_, uv_, us_, uy_, List.length_cons, List.length_nil, List.mem_of_mem_take, List.mem_of_mem_drop]
theorem ubno_ (x : Str × Int × Int) (h : x.1.length ≤ 3000 ∧ x.2.1 = 0 ∧ x.2.2 = -1) : Tot (uug_ x) (fun r : YY12 × YY10 => r.1.2.2.2.2.1.length ≤ 1048576) := by
 unfold uug_
 obtain ⟨g1, g2, g3⟩ := h
 refine ua_.2 ((ubnl_ _ ⟨by dsimp only; omega, by dsimp only; omega, by dsimp only; omega⟩).mono fun r1 h1 => ?_)
 dsimp only at h1
 refine uh_.2 ⟨fun _ => ub_.2 (by simp), fun _ => ?_⟩
 refine ua_.2 ((u1w_ _ ⟨by rw [h1.1]; omega, h1.2.1, by rw [h1.1]; exact h1.2.2.1⟩).mono fun r2 h2 => ?_)
 obtain ⟨a1, a2, a3, a4, a5, a6⟩ := h2
 rw [h1.1] at a1 a3
 rw [ubj_ (by omega) (by omega)]
 refine ua_.2 (uqo_.2 ⟨⟨by omega, by omega, by omega⟩, ?_⟩)
 have hj : (Lib.join ((r2.1.take ((r2.1.length : Int) - 1).toNat).drop (0 : Int).toNat) [47]).length ≤ 1048577 * (1048576 + 1) := ub4l_ (fun s hs => a6 s (uv_ hs)) (by rw [us_]; omega) (by simp)
 refine ua_.2 ((ulc_ _ ⟨by dsimp only; rw [us_]; omega, by dsimp only; omega⟩).mono fun r4 h4 => ?_)
 refine ua_.2 (u2_.2 ⟨⟨by omega, by omega⟩, fun y5 hy5 => ?_⟩)
 refine ua_.2 (Tot.mono (P := fun r6 : Int => r6 = 0 ∨ r2.2.2.1 < r2.2.1.length) ?_ fun r6 h6 => ?_)
 · refine uh_.2 ⟨fun _ => (ugc_ _ ⟨_, rfl, by omega⟩).mono fun r hr => ?_, fun _ => ub_.2 (Or.inl rfl)⟩
   rcases hr.2 with h | ⟨y, hy, h⟩
   · exact Or.inl h
   · cases hy; exact Or.inr h
 refine ua_.2 ((ubfl_ _ ⟨by dsimp only; rw [a1]; omega, by dsimp only; omega, by dsimp only; rw [a1]; omega, fun he => ?_, by simp⟩).mono fun r8 h8 => ?_)
 · dsimp only at he ⊢
   rcases h6 with h6 | h6
   · subst h6
     simp [up_] at he
   · exact h6
 dsimp only at h8
 obtain ⟨b1, b2, b3, b4, b5, b6, b7, b8⟩ := h8
 rw [a1] at b1 b3
 refine ua_.2 ((ubfm_ _ ⟨by dsimp only; rw [b1]; omega, by dsimp only; omega, by dsimp only; rw [b1]; omega, ?_, by dsimp only; omega, ?_⟩).mono fun r13 h13 => ?_)
 · dsimp only; rw [b8]; simp; omega
 · dsimp only; rw [b8]; simp
 dsimp only at h13
 obtain ⟨c1, c2, c3, c4, c5, c6, c7, c8, c9, c10⟩ := h13
 rw [b1] at c1 c3
 refine ua_.2 (Tot.mono (P := fun r14 : Int => r14 = 0 ∨ r13.1.2.1 < r13.1.1.length) ?_ fun r14 h14 => ?_)
 · refine uh_.2 ⟨fun _ => (ugc_ _ ⟨_, rfl, by omega⟩).mono fun r hr => ?_, fun _ => ub_.2 (Or.inl rfl)⟩
   rcases hr.2 with h | ⟨y, hy, h⟩
   · exact Or.inl h
   · cases hy; exact Or.inr h
 refine ua_.2 ((ubfn_ _ ⟨by dsimp only; rw [c1]; omega, by dsimp only; omega, by dsimp only; rw [c1]; omega, fun he => ?_, ?_⟩).mono fun r17 h17 => ?_)
 · dsimp only at he ⊢
   rcases h14 with h14 | h14
   · subst h14
     simp [up_] at he
   · exact h14
 · dsimp only; rw [c8, b8]; simp
 dsimp only at h17
 obtain ⟨d1, d2, d3, d4, d5, d6, d7, d8, d9⟩ := h17
 refine uh_.2 ⟨fun _ => ua_.2 ((ugb_ _ trivial).mono fun r19 _ => ub_.2 ?_), fun _ => ub_.2 ?_⟩ <;>
 · dsimp only; rw [d8]; exact c9
theorem ubw2_ (x : YY15 × YY12 × Int) (h : 1 ≤ x.2.2 ∧ x.2.1.2.2.2.2.1.length ≤ 1048576) : Tot (ubl3_ x) (fun r : Sum (YY15 × YY12) (YY15 × Int × Int) => (∀ y, r = .inl y → y.2.2.2.2.2.1.length ≤ 1048576) ∧ ∀ y, r = .inr y → y.2.2 ≠ 0) := by
 refine uu_ (R := fun r : Sum (YY15 × YY12) (YY15 × Int × Int) => (∀ y, r = .inl y → y.2.2.2.2.2.1.length ≤ 1048576) ∧ ∀ y, r = .inr y → y.2.2 ≠ 0)
  (fun y : YY15 × YY12 × Int => 1 ≤ y.2.2 ∧ y.2.1.2.2.2.2.1.length ≤ 1048576) (fun y : YY15 × YY12 × Int => (y.2.1.2.2.2.2.1.length - y.2.2 : Int).toNat) ?_ _ _ h (by unfold fuel; omega)
 rintro next ⟨t2, p, i⟩ h hn
 dsimp only at h hn
 unfold ubvg_
 dsimp only
 refine uh_.2 ⟨fun hc => ?_, fun _ => ub_.2 ⟨fun y hy => by cases hy; exact h.2, fun y hy => by cases hy⟩⟩
 have hc := of_decide_eq_true hc
 rw [ubj_ (by omega) (by omega), ubj_ (by omega) (by omega)]
 refine ua_.2 (ufp_.2 ⟨⟨by omega, by omega⟩, ?_⟩)
 refine ua_.2 (ufp_.2 ⟨⟨by omega, by omega⟩, ?_⟩)
 refine uh_.2 ⟨fun _ => ub_.2 ⟨fun y hy => (by cases hy), fun y hy => (by cases hy; simp)⟩, fun _ => ?_⟩
 exact hn _ ⟨by dsimp only; omega, by dsimp only; omega⟩ (by dsimp only; omega)
theorem ub13_ (x : Str) (h : x.length ≤ 1048576) : Tot (ubuo_ x) (fun r : YY15 × Int × Int => r.2.2 = 0 → r.1.2.2.2.2.1.length ≤ 1048576) := by
 unfold ubuo_
 refine uh_.2 ⟨fun _ => ub_.2 (by simp), fun hc => ?_⟩
 have hc := of_decide_eq_false hc
 refine ua_.2 ((ubno_ _ ⟨by dsimp only; omega, rfl, rfl⟩).mono fun r2 h2 => ?_)
 refine uh_.2 ⟨fun _ => ub_.2 (by simp), fun _ => ?_⟩
 refine ua_.2 ((uv4_ _ ⟨fun c => clo (ubw1_ c trivial), h2⟩).mono fun r4 h4 => ?_)
 refine ua_.2 ((ubw2_ _ ⟨by dsimp only; omega, by dsimp only; rw [h4.1]; exact h2⟩).mono fun r8 h8 => ?_)
 rcases r8 with y | y
 · have hy := h8.1 y rfl
   refine ua_.2 ((ubp7_ _ hy).mono fun r11 h11 => ?_)
   refine uh_.2 ⟨fun he => ub_.2 fun h0 => ?_, fun he => ?_⟩
   · dsimp only at h0
     rw [h0, up_] at he
     simp at he
   · rw [up_] at he
     have h0 : r11 = 0 := by simpa using he
     have hb := h11 h0
     refine ua_.2 ((ubal_ _ hb).mono fun r14 h14 => ub_.2 fun _ => ?_)
     have := h14.2.2.2.2.2.1
     dsimp only
     omega
 · exact ub_.2 fun h0 => absurd h0 (h8.2 y rfl)
theorem ubsh_ (x : Str) (h : x.length ≤ 1048576) : Tot (u11_ x) (fun r : Bool => True) := by
 unfold u11_
 repeat' first
  | with_reducible refine uh_.2 ⟨fun _ => ?_, fun _ => ?_⟩
  | with_reducible refine ua_.2 ?_
  | with_reducible refine ub_.2 ?_
  | with_reducible refine (ub13_ _ ?_).mono fun _ _ => ?_
  | with_reducible refine (ub3j_ _ ?_).mono fun _ _ => ?_
  | dsimp only
 all_goals grind [um_, ug_, ud_, ux_, up_, u0_, uz_, u8le, ui_, ue_, uv_, us_, uy_, List.length_cons, List.length_nil, List.mem_of_mem_take, List.mem_of_mem_drop]
end Go.Ev.Pv
