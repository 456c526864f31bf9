/-
  That the plain functions give an answer, second part: versions.
-/
import Derived.Test.YthepbdhoogphdaaGreatDoorA1
import Derived.Sort.AssemblyPlain
set_option linter.unusedVariables false
set_option linter.unusedSimpArgs false
set_option linter.unusedSectionVars false
set_option maxRecDepth 100000
namespace Go.Ev.Pv
theorem ub2p_ : ∀ (x y : Str), Op.bytesLess x y = decide (x < y) := by
 intro x
 induction x with
 | nil => intro y; cases y <;> simp [Op.bytesLess]
 | cons a x ih =>
   intro y
   cases y with
   | nil => simp [Op.bytesLess]
   | cons b y =>
     rw [Op.bytesLess, ih y]
     simp only [List.cons_lt_cons_iff]
     by_cases h1 : a < b <;> by_cases h2 : a = b <;> by_cases h3 : x < y <;> simp [h1, h2, h3]
theorem sirr (a : Str) : ¬ a < a := List.lt_irrefl a
theorem ucah_ {a b c : Str} (h1 : a < b) (h2 : b < c) : a < c := List.lt_trans h1 h2
theorem stri (a b : Str) : a < b ∨ a = b ∨ b < a := by
 by_cases h1 : a < b
 · exact Or.inl h1
 · by_cases h2 : b < a
   · exact Or.inr (Or.inr h2)
   · exact Or.inr (Or.inl (List.le_antisymm (List.not_lt.1 h2) (List.not_lt.1 h1)))
theorem sntr {a b c : Str} (h1 : ¬ a < b) (h2 : ¬ b < c) : ¬ a < c := by
 intro h
 rcases stri a b with h3 | h3 | h3
 · exact h1 h3
 · subst h3; exact h2 h
 · exact h2 (ucah_ h3 h)
theorem sasym {a b : Str} (h1 : a < b) : ¬ b < a := fun h2 => sirr a (ucah_ h1 h2)
def cmpS (a b : Str) : Int := if a < b then -1 else if a = b then 0 else 1
theorem u0o_ (a b : Str) : ucc_ (a, b) = some (cmpS a b) := by
 unfold ucc_ uke_ cmpS
 have e : ∀ s : Str, eqS s s = true := fun s => by rw [uy_]; simp
 simp only [e, Bool.not_true, Option.bind_some, cond_false, ub2p_, uy_]
 by_cases h2 : a = b
 · subst h2; simp [sirr]
 · by_cases h1 : a < b <;> simp [h1, h2]
theorem ub6w_ (a b : Str) : cmpS a b < 0 ↔ a < b := by
 unfold cmpS
 by_cases h2 : a = b
 · subst h2; simp [sirr]
 · by_cases h1 : a < b <;> simp [h1, h2]
def cmpI (a b : Int) : Int := if a < b then -1 else if b < a then 1 else 0
theorem u9e_ (a b : Int) : um2_ (a, b) = some (cmpI a b) := by
 unfold um2_ u4u_ cmpI
 have e : ∀ s : Int, eqI s s = true := fun s => by rw [up_]; simp
 simp only [e, Bool.not_true, Option.bind_some, cond_false]
 by_cases h1 : a < b <;> by_cases h2 : b < a <;> simp [h1, h2]
section
variable {T : Type}
theorem ub4t_ (xs : List T) (F : T × T → Option Int) (h : ubug_ xs F) : Tot (ub0l_ xs F) (fun r => r.Perm xs ∧ r.Pairwise (fun a b => ∀ c, F (b, a) = some c → 0 ≤ c)) := by
 unfold ub0l_
 split
 · rename_i h0
   unfold ifB
   rw [decide_eq_true h]
   refine ub_.2 ?_
   letI : Inhabited (Fin xs.length) := ⟨⟨0, h0⟩⟩
   have hs : Sort.SWO (ltAt xs F) := ⟨h.2.1, h.2.2.1, h.2.2.2⟩
   have hp := Sort.pdq_sorts (ltAt xs F) hs (Array.ofFn id) 0 xs.length (Lib.bitLen xs.length) true true (Nat.zero_le _) (by simp) (Or.inl rfl)
   have e : ubk0_ xs F h0 = Sort.pdq (ltAt xs F) (Array.ofFn id) 0 xs.length (Lib.bitLen xs.length) true true := ub3o_ xs F h0
   rw [e]
   generalize Sort.pdq (ltAt xs F) (Array.ofFn id) 0 xs.length (Lib.bitLen xs.length) true true = d at hp
   obtain ⟨⟨h1, _, h3⟩, h4⟩ := hp
   have hsz : d.size = xs.length := by rw [h1]; simp
   have e1 : d.extract 0 xs.length = d := by
    have := Array.extract_size (xs := d)
    rwa [hsz] at this
   have e2 : (Array.ofFn (id : Fin xs.length → Fin xs.length)).extract 0 xs.length = Array.ofFn id := by
    have := Array.extract_size (xs := Array.ofFn (id : Fin xs.length → Fin xs.length))
    rwa [Array.size_ofFn] at this
   rw [e1, e2] at h3
   constructor
   · have h5 := h3.map xs.get
     have e3 : (Array.ofFn (id : Fin xs.length → Fin xs.length)).toList.map xs.get = xs := by
      rw [Array.toList_ofFn, List.map_ofFn]
      apply List.ext_getElem
      · simp
      · intro i h1 h2; simp
     rwa [e3] at h5
   · rw [List.pairwise_map, List.pairwise_iff_getElem]
     intro i j hi hj hij c hc
     have hl : d.toList.length = xs.length := by rw [Array.length_toList]; exact hsz
     have h6 := h4 i j (Nat.zero_le _) hij (by omega)
     rw [getElem!_pos d i (by omega), getElem!_pos d j (by omega)] at h6
     unfold ltAt cfAt at h6
     rw [Array.getElem_toList, Array.getElem_toList] at hc
     rw [hc] at h6
     simpa using h6
 · rename_i h0
   have : xs = [] := List.length_eq_zero_iff.1 (by omega)
   subst this
   exact ub_.2 ⟨List.Perm.refl _, List.Pairwise.nil⟩
end
abbrev Edge := Int × Str × Bool × Str
abbrev uhd_ := Edge × Edge
def eo (a b : Edge) : Int := if a.1 ≠ b.1 ∨ a.1 ≠ 0 then cmpI a.1 b.1 else if cmpS a.2.1 b.2.1 ≠ 0 ∨ a.2.2.1 = b.2.2.1 then cmpS a.2.1 b.2.1 else if a.2.2.1 then 1 else -1
theorem u0p_ (a b : Edge) : uby_ (a, b) = some (eo a b) := by
 unfold uby_ eo
 dsimp only
 rw [u9e_, u0o_]
 simp only [Option.bind_some, up_]
 by_cases h1 : a.1 = b.1
 · by_cases h2 : a.1 = 0
   · have hb : eqB a.2.2.1 b.2.2.1 = decide (a.2.2.1 = b.2.2.1) := by cases a.2.2.1 <;> cases b.2.2.1 <;> rfl
     rw [hb]
     by_cases h3 : cmpS a.2.1 b.2.1 = 0 <;> by_cases h4 : a.2.2.1 = b.2.2.1 <;> simp [← h1, h2, h3, h4] <;> (cases a.2.2.1 <;> simp)
   · simp [← h1, h2]
 · simp [h1]
def elt (a b : Edge) : Prop := a.1 < b.1 ∨ (a.1 = b.1 ∧ a.1 = 0 ∧ (a.2.1 < b.2.1 ∨ (a.2.1 = b.2.1 ∧ a.2.2.1 = false ∧ b.2.2.1 = true)))
theorem ucbq_ (a b : Edge) : eo a b < 0 ↔ elt a b := by
 unfold eo elt cmpI
 by_cases h1 : a.1 = b.1
 · by_cases h2 : a.1 = 0
   · have hb : b.1 = 0 := by omega
     have g1 : ¬ (a.1 ≠ b.1 ∨ a.1 ≠ 0) := by omega
     rw [if_neg g1]
     rcases stri a.2.1 b.2.1 with h3 | h3 | h3
     · have : cmpS a.2.1 b.2.1 = -1 := by unfold cmpS; rw [if_pos h3]
       rw [this]; simp [h1, hb, h3]
     · have : cmpS a.2.1 b.2.1 = 0 := by unfold cmpS; rw [if_neg (by rw [h3]; exact sirr _), if_pos h3]
       rw [this, h3]
       cases ha : a.2.2.1 <;> cases hb' : b.2.2.1 <;> simp [h1, hb, sirr]
     · have e : ¬ a.2.1 = b.2.1 := fun e => by rw [e] at h3; exact sirr _ h3
       have : cmpS a.2.1 b.2.1 = 1 := by unfold cmpS; rw [if_neg (sasym h3), if_neg e]
       rw [this]; simp [h1, hb, sasym h3, e]
   · have hb : ¬ b.1 = 0 := by omega
     simp [h1, hb]
 · simp only [ne_eq, h1, not_false_eq_true, true_or, if_true, false_and, or_false]
   by_cases h2 : a.1 < b.1
   · simp [h2]
   · by_cases h3 : b.1 < a.1
     · simp [h2, h3]
     · omega
instance (a b : Edge) : Decidable (elt a b) := by unfold elt; infer_instance
theorem ucbr_ (a : Edge) : ¬ elt a a := by
 rintro (h | ⟨_, _, h | ⟨_, h1, h2⟩⟩)
 · omega
 · exact sirr _ h
 · rw [h1] at h2; cases h2
theorem ub8g_ {a b c : Edge} (h1 : elt a b) (h2 : elt b c) : elt a c := by
 unfold elt at *
 rcases h1 with h1 | ⟨p1, p2, p3⟩
 · rcases h2 with h2 | ⟨q1, q2, q3⟩ <;> exact Or.inl (by omega)
 · rcases h2 with h2 | ⟨q1, q2, q3⟩
   · exact Or.inl (by omega)
   · refine Or.inr ⟨by omega, p2, ?_⟩
     rcases p3 with p3 | ⟨p3, p4, p5⟩
     · rcases q3 with q3 | ⟨q3, q4, q5⟩
       · exact Or.inl (ucah_ p3 q3)
       · exact Or.inl (q3 ▸ p3)
     · rcases q3 with q3 | ⟨q3, q4, q5⟩
       · exact Or.inl (p3 ▸ q3)
       · rw [p5] at q4; cases q4
theorem ucbs_ {a b c : Edge} (h1 : ¬ elt a b) (h2 : ¬ elt b c) : ¬ elt a c := by
 intro h
 unfold elt at *
 simp only [not_or, not_and] at h1 h2
 obtain ⟨a1, a2⟩ := h1
 obtain ⟨b1, b2⟩ := h2
 rcases h with h | ⟨p1, p2, p3⟩
 · omega
 · have e1 : a.1 = b.1 := by omega
   have e2 : b.1 = c.1 := by omega
   obtain ⟨a3, a4⟩ := a2 e1 p2
   obtain ⟨b3, b4⟩ := b2 e2 (by omega)
   rcases p3 with p3 | ⟨p3, p4, p5⟩
   · exact sntr a3 b3 p3
   · rcases stri a.2.1 b.2.1 with g | g | g
     · exact a3 g
     · have g2 : b.2.1 = c.2.1 := g ▸ p3
       have := a4 g p4
       have := b4 g2 (by cases hb : b.2.2.1 <;> simp_all)
       exact this p5
     · exact b3 (p3 ▸ g)
theorem ub06_ (xs : List uhd_) : Tot (ugm_ (xs, fun x => (uff_ x).bind fun r => some r)) (fun r => r.Perm xs ∧ r.Pairwise fun a b => ¬ elt b.1 a.1) := by
 have hF : ∀ a b : uhd_, (uff_ (a, b)).bind (fun r => some r) = some (eo a.1 b.1) := by
  intro a b
  unfold uff_
  dsimp only
  rw [u0p_]
  rfl
 have e : ∀ i j, ltAt xs (fun x => (uff_ x).bind fun r => some r) i j = decide (elt (xs.get i).1 (xs.get j).1) := by
  intro i j
  unfold ltAt cfAt
  show decide ((((uff_ (xs.get i, xs.get j)).bind fun r => some r).getD 0) < 0) = _
  rw [hF]
  simp only [Option.getD_some]
  exact decide_eq_decide.2 (ucbq_ _ _)
 have hs : ubug_ xs (fun x => (uff_ x).bind fun r => some r) := by
  refine ⟨fun i j => by show ((uff_ (xs.get i, xs.get j)).bind fun r => some r).isSome = true; rw [hF]; rfl, fun i => ?_, fun i j k => ?_, fun i j k => ?_⟩
  · rw [e]; simp [ucbr_]
  · rw [e, e, e]; simp only [decide_eq_true_eq]; exact ub8g_
  · rw [e, e, e]; simp only [decide_eq_false_iff_not]; exact ucbs_
 refine (ub4t_ xs _ hs).mono fun r hr => ⟨hr.1, hr.2.imp fun {a b} h hlt => ?_⟩
 have := h _ (hF b a)
 have := (ucbq_ b.1 a.1).2 hlt
 omega
end Go.Ev.Pv
namespace Go.Ev.Pv
abbrev Af := Str × Int × YY19 × (List Str) × (List Str)
abbrev Bnd := Bool × Bool × Str
abbrev Spn := Bnd × Bnd
def AfB (a : Af) : Prop := a.1.length ≤ 1048576 ∧ a.2.2.1.length ≤ 1048576 ∧ (∀ v ∈ a.2.2.1, v.2.length ≤ 1048576) ∧ a.2.2.2.1.length ≤ 1048576 ∧ (∀ s ∈ a.2.2.2.1, s.length ≤ 1048576) ∧ a.2.2.2.2.length ≤ 1048576 ∧ (∀ s ∈ a.2.2.2.2, s.length ≤ 1048576)
def AfK (a : Af) : Prop := a.2.2.1.length ≤ 100 ∧ (∀ v ∈ a.2.2.1, 1 ≤ v.1 ∧ v.1 ≤ 3) ∧ a.2.2.2.1.length ≤ 500
abbrev SpB (s : Spn) : Prop := s.1.2.2.length ≤ 100 ∧ s.2.2.2.length ≤ 100
abbrev StB (s : uhd_) : Prop := s.1.2.2.2.length ≤ 100 ∧ s.2.2.2.2.length ≤ 100
theorem u9f_ {α : Type} {l : List α} {i : Nat} {x : α} (h : l[i]? = some x) : x ∈ l := List.mem_of_getElem? h
theorem ubpa_ (x : Int × Int) (h : True) : Tot (um2_ x) fun _ => True := ⟨_, u9e_ x.1 x.2, trivial⟩
theorem ucm_ (x : Edge × Edge) (h : True) : Tot (uby_ x) fun _ => True := ⟨_, u0p_ x.1 x.2, trivial⟩
end Go.Ev.Pv
namespace Go.Ev.Pv
theorem uid_ (x : Str) (h : x.length ≤ 1048576) : Tot (ufd_ x) (fun r : Int × Bool => 0 ≤ r.1 ∧ r.1 ≤ 999999999999999999) := by
 unfold ufd_
 repeat' first
  | with_reducible refine ug_.2 ⟨fun _ => ?_, fun _ => ?_⟩
  | with_reducible refine ua_.2 ?_
  | with_reducible refine ub_.2 ?_
  | with_reducible refine u8_.2 ⟨?_, fun _ _ => ?_⟩
  | with_reducible refine (ubj_ _ ?_).mono fun _ _ => ?_
  | dsimp only
 all_goals grind [un_, uh_, ud_, uy_, up_, u4_, u3_, u8le, uj_, uf_, uw_, ut_, ux_, List.length_cons, List.length_nil, List.mem_of_mem_take, List.mem_of_mem_drop]
theorem uri_ (x : Int) (h : True) : Tot (uiy_ x) (fun r : Bool => True) := by
 unfold uiy_
 repeat' first
  | with_reducible refine ug_.2 ⟨fun _ => ?_, fun _ => ?_⟩
  | with_reducible refine ua_.2 ?_
  | with_reducible refine ub_.2 ?_
  | with_reducible refine (uq_ _ ?_).mono fun _ _ => ?_
  | with_reducible refine (u2_ _ ?_).mono fun _ _ => ?_
  | dsimp only
 all_goals grind [un_, uh_, ud_, uy_, up_, u4_, u3_, u8le, uj_, uf_, uw_, ut_, ux_, List.length_cons, List.length_nil, List.mem_of_mem_take, List.mem_of_mem_drop]
theorem u65_ (x : (List Str) × Int × Int) (h : 0 ≤ x.2.2 ∧ x.2.2 ≤ x.2.1 ∧ x.2.1 = x.1.length ∧ x.2.1 ≤ 281474976710656 ∧ ∀ s ∈ x.1, s.length ≤ 1000) : Tot (uod_ x) (fun r : Sum (Unit) YY25 => ∀ y, r = .inr y → y.1 = [] ∧ y.2 = false) := by
 refine uv_ (R := fun r : Sum (Unit) YY25 => ∀ y, r = .inr y → y.1 = [] ∧ y.2 = false) (fun y : (List Str) × Int × Int => (0 ≤ y.2.2 ∧ y.2.2 ≤ y.2.1 ∧ y.2.1 = y.1.length ∧ y.2.1 ≤ 281474976710656 ∧ ∀ s ∈ y.1, s.length ≤ 1000)) (fun y : (List Str) × Int × Int => (y.2.1 - y.2.2).toNat) ?_ _ _ (by grind) (by unfold fuel; grind)
 rintro next ⟨t9, t10, t11⟩ h hn
 try dsimp only at h hn
 unfold uxu_
 repeat' first
  | with_reducible refine ug_.2 ⟨fun _ => ?_, fun _ => ?_⟩
  | with_reducible refine ua_.2 ?_
  | with_reducible refine ub_.2 ?_
  | with_reducible refine u8_.2 ⟨?_, fun _ _ => ?_⟩
  | with_reducible refine (uri_ _ ?_).mono fun _ _ => ?_
  | with_reducible refine (uc1_ _ ?_ ?_).mono fun _ _ => ?_
  | exact fun c => clo (uq_ c trivial)
  | exact fun c => clo (u2_ c trivial)
  | exact fun c => clo (uri_ c trivial)
  | with_reducible refine hn _ ?_ ?_
  | dsimp only
 all_goals grind [un_, uh_, ud_, uy_, up_, u4_, u3_, u8le, uj_, uf_, uw_, ut_, ux_, List.length_cons, List.length_nil, List.mem_of_mem_take, List.mem_of_mem_drop]
theorem uwi_ (x : Str) (h : x.length ≤ 1000) : Tot (uiz_ x) (fun r : (List Str) × Bool => LS r.1) := by
 unfold uiz_
 repeat' first
  | with_reducible refine ua_.2 ?_
  | with_reducible refine ub_.2 ?_
  | with_reducible refine (ubc2_ _ ?_).mono fun _ _ => ?_
  | with_reducible refine (u65_ _ ?_).mono fun _ _ => ?_
  | split
  | dsimp only
 all_goals grind [un_, uh_, ud_, uy_, up_, u4_, u3_, u8le, uj_, uf_, uw_, ut_, ux_, List.length_cons, List.length_nil, List.mem_of_mem_take, List.mem_of_mem_drop]
theorem ubek_ (x : (List Str) × Int × Int) (h : 0 ≤ x.2.2 ∧ x.2.2 ≤ x.2.1 ∧ x.2.1 = x.1.length ∧ x.2.1 ≤ 281474976710656 ∧ ∀ s ∈ x.1, s.length ≤ 1000) : Tot (utw_ x) (fun r : Sum (Unit) YY25 => ∀ y, r = .inr y → y.1 = [] ∧ y.2 = false) := by
 refine uv_ (R := fun r : Sum (Unit) YY25 => ∀ y, r = .inr y → y.1 = [] ∧ y.2 = false) (fun y : (List Str) × Int × Int => (0 ≤ y.2.2 ∧ y.2.2 ≤ y.2.1 ∧ y.2.1 = y.1.length ∧ y.2.1 ≤ 281474976710656 ∧ ∀ s ∈ y.1, s.length ≤ 1000)) (fun y : (List Str) × Int × Int => (y.2.1 - y.2.2).toNat) ?_ _ _ (by grind) (by unfold fuel; grind)
 rintro next ⟨t15, t16, t17⟩ h hn
 try dsimp only at h hn
 unfold u4r_
 repeat' first
  | with_reducible refine ug_.2 ⟨fun _ => ?_, fun _ => ?_⟩
  | with_reducible refine ua_.2 ?_
  | with_reducible refine ub_.2 ?_
  | with_reducible refine u8_.2 ⟨?_, fun _ _ => ?_⟩
  | with_reducible refine (uq_ _ ?_).mono fun _ _ => ?_
  | with_reducible refine (uid_ _ ?_).mono fun _ _ => ?_
  | with_reducible refine (uc1_ _ ?_ ?_).mono fun _ _ => ?_
  | exact fun c => clo (uq_ c trivial)
  | exact fun c => clo (u2_ c trivial)
  | with_reducible refine hn _ ?_ ?_
  | dsimp only
 all_goals grind [un_, uh_, ud_, uy_, up_, u4_, u3_, u8le, uj_, uf_, uw_, ut_, ux_, List.length_cons, List.length_nil, List.mem_of_mem_take, List.mem_of_mem_drop]
theorem ubmo_ (x : Str) (h : x.length ≤ 1000) : Tot (utx_ x) (fun r : (List Str) × Bool => LS r.1) := by
 unfold utx_
 repeat' first
  | with_reducible refine ua_.2 ?_
  | with_reducible refine ub_.2 ?_
  | with_reducible refine (uwi_ _ ?_).mono fun _ _ => ?_
  | with_reducible refine (ubek_ _ ?_).mono fun _ _ => ?_
  | split
  | dsimp only
 all_goals grind [un_, uh_, ud_, uy_, up_, u4_, u3_, u8le, uj_, uf_, uw_, ut_, ux_, List.length_cons, List.length_nil, List.mem_of_mem_take, List.mem_of_mem_drop]
theorem ubv7_ (x : Str) (h : x.length ≤ 1000) : Tot (u9v_ x) (fun r : (List Str) × Bool => LS r.1) := by
 unfold u9v_
 repeat' first
  | with_reducible refine ug_.2 ⟨fun _ => ?_, fun _ => ?_⟩
  | with_reducible refine ua_.2 ?_
  | with_reducible refine ub_.2 ?_
  | with_reducible refine u8_.2 ⟨?_, fun _ _ => ?_⟩
  | with_reducible refine uo6_.2 ⟨?_, ?_⟩
  | with_reducible refine (ubky_ _ ?_).mono fun _ _ => ?_
  | with_reducible refine (uwi_ _ ?_).mono fun _ _ => ?_
  | with_reducible refine (ubmo_ _ ?_).mono fun _ _ => ?_
  | dsimp only
 all_goals grind [un_, uh_, ud_, uy_, up_, u4_, u3_, u8le, uj_, uf_, uw_, ut_, ux_, List.length_cons, List.length_nil, List.mem_of_mem_take, List.mem_of_mem_drop]
theorem u9g_ (x : Str × Int × Bool) (h : 0 ≤ x.2.1 ∧ x.2.1 ≤ x.1.length ∧ x.1.length ≤ 1000) : Tot (ujw_ x) (fun r : Sum (Int) (YY1 × Bool) => (∀ y, r = .inl y → 0 ≤ y ∧ y ≤ x.1.length) ∧ ∀ y, r = .inr y → y.2 = false) := by
 obtain ⟨s_0, at_5, t16⟩ := x
 try dsimp only at h ⊢
 unfold ujw_
 repeat' first
  | with_reducible refine ug_.2 ⟨fun _ => ?_, fun _ => ?_⟩
  | with_reducible refine ua_.2 ?_
  | with_reducible refine ub_.2 ?_
  | with_reducible refine u8_.2 ⟨?_, fun _ _ => ?_⟩
  | dsimp only
 all_goals grind [un_, uh_, ud_, uy_, up_, u4_, u3_, u8le, uj_, uf_, uw_, ut_, ux_, List.length_cons, List.length_nil, List.mem_of_mem_take, List.mem_of_mem_drop]
theorem u9h_ (x : Str × YY23 × Int × Int) (h : 0 ≤ x.2.2.2 ∧ x.2.2.2 ≤ 3 ∧ 0 ≤ x.2.2.1 ∧ x.2.2.1 ≤ x.1.length ∧ x.1.length ≤ 1000 ∧ x.2.1.1.length = 3 ∧ (∀ n ∈ x.2.1.1, 0 ≤ n ∧ n ≤ 999999999999999999)) : Tot (up9_ x) (fun r : Sum (YY23 × Int) (YY1 × Bool) => (∀ y, r = .inl y → y.1.1.length = 3 ∧ (∀ n ∈ y.1.1, 0 ≤ n ∧ n ≤ 999999999999999999) ∧ 0 ≤ y.2 ∧ y.2 ≤ x.1.length) ∧ ∀ y, r = .inr y → y.2 = false) := by
 refine uv_ (R := fun r : Sum (YY23 × Int) (YY1 × Bool) => (∀ y, r = .inl y → y.1.1.length = 3 ∧ (∀ n ∈ y.1.1, 0 ≤ n ∧ n ≤ 999999999999999999) ∧ 0 ≤ y.2 ∧ y.2 ≤ x.1.length) ∧ ∀ y, r = .inr y → y.2 = false) (fun y : Str × YY23 × Int × Int => (0 ≤ y.2.2.2 ∧ y.2.2.2 ≤ 3 ∧ 0 ≤ y.2.2.1 ∧ y.2.2.1 ≤ y.1.length ∧ y.1.length ≤ 1000 ∧ y.2.1.1.length = 3 ∧ (∀ n ∈ y.2.1.1, 0 ≤ n ∧ n ≤ 999999999999999999)) ∧ y.1 = x.1) (fun y : Str × YY23 × Int × Int => (3 - y.2.2.2).toNat) ?_ _ _ (by grind) (by unfold fuel; grind)
 rintro next ⟨s_0, v_4, at_5, t12⟩ h hn
 try dsimp only at h hn
 unfold uzq_
 repeat' first
  | with_reducible refine ug_.2 ⟨fun _ => ?_, fun _ => ?_⟩
  | with_reducible refine ua_.2 ?_
  | with_reducible refine ub_.2 ?_
  | with_reducible refine uft_.2 ⟨?_, ?_⟩
  | with_reducible refine uo6_.2 ⟨?_, ?_⟩
  | with_reducible refine (u9g_ _ ?_).mono fun _ _ => ?_
  | with_reducible refine (uq_ _ ?_).mono fun _ _ => ?_
  | with_reducible refine (uid_ _ ?_).mono fun _ _ => ?_
  | with_reducible refine (uc1_ _ ?_ ?_).mono fun _ _ => ?_
  | exact fun c => clo (uq_ c trivial)
  | exact fun c => clo (u2_ c trivial)
  | with_reducible refine hn _ ?_ ?_
  | split
  | dsimp only
 all_goals grind [un_, uh_, ud_, uy_, up_, u4_, u3_, u8le, uj_, uf_, uw_, ut_, ux_, List.length_cons, List.length_nil, List.mem_of_mem_take, List.mem_of_mem_drop]
theorem ubhl_ (x : Str) (h : x.length ≤ 1000) : Tot (upd_ x) (fun r : YY1 × Bool => r.2 = true → VOK r.1) := by
 unfold upd_
 repeat' first
  | with_reducible refine ua_.2 ?_
  | with_reducible refine ub_.2 ?_
  | with_reducible refine uo6_.2 ⟨?_, ?_⟩
  | with_reducible refine (u9h_ _ ?_).mono fun _ _ => ?_
  | with_reducible refine (ubv7_ _ ?_).mono fun _ _ => ?_
  | split
  | dsimp only
 all_goals grind [un_, uh_, ud_, uy_, up_, u4_, u3_, u8le, uj_, uf_, uw_, ut_, ux_, List.length_cons, List.length_nil, List.mem_of_mem_take, List.mem_of_mem_drop, vok_d]
theorem urj_ (x : Int) (h : True) : Tot (ui0_ x) (fun r : Bool => True) := by
 unfold ui0_
 repeat' first
  | with_reducible refine ug_.2 ⟨fun _ => ?_, fun _ => ?_⟩
  | with_reducible refine ua_.2 ?_
  | with_reducible refine ub_.2 ?_
  | with_reducible refine (uq_ _ ?_).mono fun _ _ => ?_
  | with_reducible refine (u2_ _ ?_).mono fun _ _ => ?_
  | with_reducible refine (uhj_ _ ?_).mono fun _ _ => ?_
  | dsimp only
 all_goals grind [un_, uh_, ud_, uy_, up_, u4_, u3_, u8le, uj_, uf_, uw_, ut_, ux_, List.length_cons, List.length_nil, List.mem_of_mem_take, List.mem_of_mem_drop]
theorem ubbr_ (x : Str × Int) (h : 0 ≤ x.2 ∧ x.2 ≤ x.1.length ∧ x.1.length ≤ 1000) : Tot (ur3_ x) (fun r : Sum (Unit) (Bool) => True) := by
 refine uv_ (R := fun r : Sum (Unit) (Bool) => True) (fun y : Str × Int => (0 ≤ y.2 ∧ y.2 ≤ y.1.length ∧ y.1.length ≤ 1000) ∧ y.1 = x.1) (fun y : Str × Int => (y.1.length - y.2 : Int).toNat) ?_ _ _ (by grind) (by unfold fuel; grind)
 rintro next ⟨s_0, at_3⟩ h hn
 try dsimp only at h hn
 unfold u1h_
 repeat' first
  | with_reducible refine ug_.2 ⟨fun _ => ?_, fun _ => ?_⟩
  | with_reducible refine ua_.2 ?_
  | with_reducible refine ub_.2 ?_
  | with_reducible refine (uq_ _ ?_).mono fun _ _ => ?_
  | with_reducible refine (uc1_ _ ?_ ?_).mono fun _ _ => ?_
  | exact fun c => clo (uq_ c trivial)
  | exact fun c => clo (u2_ c trivial)
  | with_reducible refine hn _ ?_ ?_
  | dsimp only
 all_goals grind [un_, uh_, ud_, uy_, up_, u4_, u3_, u8le, uj_, uf_, uw_, ut_, ux_, List.length_cons, List.length_nil, List.mem_of_mem_take, List.mem_of_mem_drop, maxI]
theorem ubjq_ (x : Str) (h : x.length ≤ 1000) : Tot (uro_ x) (fun r : Bool => True) := by
 unfold uro_
 repeat' first
  | with_reducible refine ua_.2 ?_
  | with_reducible refine ub_.2 ?_
  | with_reducible refine (ubbr_ _ ?_).mono fun _ _ => ?_
  | split
  | dsimp only
 all_goals grind [un_, uh_, ud_, uy_, up_, u4_, u3_, u8le, uj_, uf_, uw_, ut_, ux_, List.length_cons, List.length_nil, List.mem_of_mem_take, List.mem_of_mem_drop]
theorem u66_ (x : Str × YY29 × Str × Str × Bool) (h : x.1.length ≤ 1000 ∧ x.2.2.2.1.length ≤ 1000 ∧ x.2.2.1.length ≤ 1000 ∧ x.2.1.1 = 0) : Tot (ui1_ x) (fun r : Sum (Str × YY29) (YY1 × Bool) => (∀ y, r = .inl y → y.1.length ≤ 1000 ∧ 0 ≤ y.2.1 ∧ y.2.1 ≤ 999999999999999999 ∧ y.2.2 = x.2.1.2) ∧ ∀ y, r = .inr y → y.2 = false) := by
 obtain ⟨s_0, v_4, epoch_5, rest_6, t18⟩ := x
 try dsimp only at h ⊢
 unfold ui1_
 repeat' first
  | with_reducible refine ug_.2 ⟨fun _ => ?_, fun _ => ?_⟩
  | with_reducible refine ua_.2 ?_
  | with_reducible refine ub_.2 ?_
  | with_reducible refine (uid_ _ ?_).mono fun _ _ => ?_
  | dsimp only
 all_goals grind [un_, uh_, ud_, uy_, up_, u4_, u3_, u8le, uj_, uf_, uw_, ut_, ux_, List.length_cons, List.length_nil, List.mem_of_mem_take, List.mem_of_mem_drop]
set_option maxHeartbeats 4000000 in
theorem ubel_ (x : Str) (h : x.length ≤ 1000) : Tot (unu_ x) (fun r : YY1 × Bool => r.2 = true → VOK r.1) := by
 unfold unu_
 repeat' first
  | with_reducible refine ug_.2 ⟨fun _ => ?_, fun _ => ?_⟩
  | with_reducible refine ua_.2 ?_
  | with_reducible refine ub_.2 ?_
  | with_reducible refine u8_.2 ⟨?_, fun _ _ => ?_⟩
  | with_reducible refine uo6_.2 ⟨?_, ?_⟩
  | with_reducible refine (ubky_ _ ?_).mono fun _ _ => ?_
  | with_reducible refine (u66_ _ ?_).mono fun _ _ => ?_
  | with_reducible refine (uq_ _ ?_).mono fun _ _ => ?_
  | with_reducible refine (urj_ _ ?_).mono fun _ _ => ?_
  | with_reducible refine (ubjq_ _ ?_).mono fun _ _ => ?_
  | with_reducible refine (u9d_ _ ?_).mono fun _ _ => ?_
  | with_reducible refine (uhj_ _ ?_).mono fun _ _ => ?_
  | with_reducible refine (uc1_ _ ?_ ?_).mono fun _ _ => ?_
  | exact fun c => clo (uq_ c trivial)
  | exact fun c => clo (u2_ c trivial)
  | exact fun c => clo (urj_ c trivial)
  | split
  | dsimp only
 all_goals grind [un_, uh_, ud_, uy_, up_, u4_, u3_, u8le, uj_, uf_, uw_, ut_, ux_, List.length_cons, List.length_nil, List.mem_of_mem_take, List.mem_of_mem_drop, vok_r]
theorem ubbs_ (x : Str × (List Int)) (h : x.1.length ≤ 1000 ∧ x.2.length + x.1.length ≤ 1001 ∧ (∀ n ∈ x.2, 0 ≤ n ∧ n ≤ 999999999999999999)) : Tot (ur4_ x) (fun r : (List Int) × Str × Bool => NS r.1 ∧ r.2.1.length ≤ 1000) := by
 refine uv_ (R := fun r : (List Int) × Str × Bool => NS r.1 ∧ r.2.1.length ≤ 1000) (fun y : Str × (List Int) => (y.1.length ≤ 1000 ∧ y.2.length + y.1.length ≤ 1001 ∧ (∀ n ∈ y.2, 0 ≤ n ∧ n ≤ 999999999999999999))) (fun y : Str × (List Int) => y.1.length) ?_ _ _ (by grind) (by unfold fuel; grind)
 rintro next ⟨s_0, out_5⟩ h hn
 try dsimp only at h hn
 unfold u1i_
 repeat' first
  | with_reducible refine ug_.2 ⟨fun _ => ?_, fun _ => ?_⟩
  | with_reducible refine ua_.2 ?_
  | with_reducible refine ub_.2 ?_
  | with_reducible refine u8_.2 ⟨?_, fun _ _ => ?_⟩
  | with_reducible refine uo6_.2 ⟨?_, ?_⟩
  | with_reducible refine ulj_.2 ⟨?_, ?_⟩
  | with_reducible refine (uq_ _ ?_).mono fun _ _ => ?_
  | with_reducible refine (ubj_ _ ?_).mono fun _ _ => ?_
  | with_reducible refine (uc1_ _ ?_ ?_).mono fun _ _ => ?_
  | exact fun c => clo (uq_ c trivial)
  | exact fun c => clo (u2_ c trivial)
  | with_reducible refine hn _ ?_ ?_
  | dsimp only
 all_goals grind [un_, uh_, ud_, uy_, up_, u4_, u3_, u8le, uj_, uf_, uw_, ut_, ux_, List.length_cons, List.length_nil, List.mem_of_mem_take, List.mem_of_mem_drop]
theorem ubjr_ (x : Str) (h : x.length ≤ 1000) : Tot (urp_ x) (fun r : (List Int) × Str × Bool => NS r.1 ∧ r.2.1.length ≤ 1000) := by
 unfold urp_
 repeat' first
  | with_reducible refine ua_.2 ?_
  | with_reducible refine ub_.2 ?_
  | with_reducible refine (ubbs_ _ ?_).mono fun _ _ => ?_
  | dsimp only
 all_goals grind [un_, uh_, ud_, uy_, up_, u4_, u3_, u8le, uj_, uf_, uw_, ut_, ux_, List.length_cons, List.length_nil, List.mem_of_mem_take, List.mem_of_mem_drop]
theorem ubrk_ (x : Str × YY30) (h : ∀ c, Tot (x.2 c) fun _ => True) : Tot (uty_ x) (fun r : Int => 0 ≤ r ∧ r ≤ 1 ∧ r ≤ x.1.length) := by
 obtain ⟨s_0, is_1⟩ := x
 try dsimp only at h ⊢
 unfold uty_
 repeat' first
  | with_reducible refine ug_.2 ⟨fun _ => ?_, fun _ => ?_⟩
  | with_reducible refine ua_.2 ?_
  | with_reducible refine ub_.2 ?_
  | with_reducible refine u8_.2 ⟨?_, fun _ _ => ?_⟩
  | with_reducible refine (ubrj_ _ ?_).mono fun _ _ => ?_
  | with_reducible refine (h _).mono fun _ _ => ?_
  | dsimp only
 all_goals grind [un_, uh_, ud_, uy_, up_, u4_, u3_, u8le, uj_, uf_, uw_, ut_, ux_, List.length_cons, List.length_nil, List.mem_of_mem_take, List.mem_of_mem_drop]
theorem ubbt_ (x : Str × Str × (List Str) × Int × Int) (h : 0 ≤ x.2.2.2.2 ∧ x.2.2.2.2 ≤ x.2.2.2.1 ∧ x.2.2.2.1 = x.2.2.1.length ∧ x.2.2.2.1 ≤ 281474976710656 ∧ x.2.1 = []) : Tot (ur5_ x) (fun r : Str => r.length ≤ x.1.length) := by
 refine uv_ (R := fun r : Str => r.length ≤ x.1.length) (fun y : Str × Str × (List Str) × Int × Int => (0 ≤ y.2.2.2.2 ∧ y.2.2.2.2 ≤ y.2.2.2.1 ∧ y.2.2.2.1 = y.2.2.1.length ∧ y.2.2.2.1 ≤ 281474976710656 ∧ y.2.1 = []) ∧ y.1 = x.1 ∧ y.2.1 = x.2.1) (fun y : Str × Str × (List Str) × Int × Int => (y.2.2.2.1 - y.2.2.2.2).toNat) ?_ _ _ (by grind) (by unfold fuel; grind)
 rintro next ⟨s_0, word_2, t7, t8, t9⟩ h hn
 try dsimp only at h hn
 unfold u1j_
 repeat' first
  | with_reducible refine ug_.2 ⟨fun _ => ?_, fun _ => ?_⟩
  | with_reducible refine ua_.2 ?_
  | with_reducible refine ub_.2 ?_
  | with_reducible refine u8_.2 ⟨?_, fun _ _ => ?_⟩
  | with_reducible refine (ubjo_ _ ?_).mono fun _ _ => ?_
  | with_reducible refine hn _ ?_ ?_
  | dsimp only
 all_goals grind [un_, uh_, ud_, uy_, up_, u4_, u3_, u8le, uj_, uf_, uw_, ut_, ux_, List.length_cons, List.length_nil, List.mem_of_mem_take, List.mem_of_mem_drop]
theorem ubbu_ (x : Str × Bool) (h : True) : Tot (ulo_ x) (fun r : Bool => True) := by
 obtain ⟨t18, t21⟩ := x
 try dsimp only at h ⊢
 unfold ulo_
 repeat' first
  | with_reducible refine ug_.2 ⟨fun _ => ?_, fun _ => ?_⟩
  | with_reducible refine ub_.2 ?_
  | dsimp only
 all_goals grind [un_, uh_, ud_, uy_, up_, u4_, u3_, u8le, uj_, uf_, uw_, ut_, ux_, List.length_cons, List.length_nil, List.mem_of_mem_take, List.mem_of_mem_drop]
theorem ubbv_ (x : Str × Bool) (h : True) : Tot (ulp_ x) (fun r : Bool => True) := by
 obtain ⟨t18, t25⟩ := x
 try dsimp only at h ⊢
 unfold ulp_
 repeat' first
  | with_reducible refine ug_.2 ⟨fun _ => ?_, fun _ => ?_⟩
  | with_reducible refine ub_.2 ?_
  | dsimp only
 all_goals grind [un_, uh_, ud_, uy_, up_, u4_, u3_, u8le, uj_, uf_, uw_, ut_, ux_, List.length_cons, List.length_nil, List.mem_of_mem_take, List.mem_of_mem_drop]
theorem ubbw_ (x : Str × Bool) (h : True) : Tot (ulq_ x) (fun r : Bool => True) := by
 obtain ⟨t18, t29⟩ := x
 try dsimp only at h ⊢
 unfold ulq_
 repeat' first
  | with_reducible refine ug_.2 ⟨fun _ => ?_, fun _ => ?_⟩
  | with_reducible refine ub_.2 ?_
  | dsimp only
 all_goals grind [un_, uh_, ud_, uy_, up_, u4_, u3_, u8le, uj_, uf_, uw_, ut_, ux_, List.length_cons, List.length_nil, List.mem_of_mem_take, List.mem_of_mem_drop]
theorem ubjs_ (x : Str) (h : True) : Tot (urq_ x) (fun r : Str × Int × Int => x.length ≤ 281474976710656 → r.1.length ≤ x.length ∧ (r.1 ≠ [] → 1 ≤ r.2.1) ∧ r.2.1 ≤ 3 ∧ 0 ≤ r.2.2 ∧ r.2.2 ≤ 3) := by
 unfold urq_
 repeat' first
  | with_reducible refine ug_.2 ⟨fun _ => ?_, fun _ => ?_⟩
  | with_reducible refine ua_.2 ?_
  | with_reducible refine ub_.2 ?_
  | with_reducible refine (ubbt_ _ ?_).mono fun _ _ => ?_
  | with_reducible refine (ubbu_ _ ?_).mono fun _ _ => ?_
  | with_reducible refine (ubbv_ _ ?_).mono fun _ _ => ?_
  | with_reducible refine (ubbw_ _ ?_).mono fun _ _ => ?_
  | dsimp only
 all_goals grind [un_, uh_, ud_, uy_, up_, u4_, u3_, u8le, uj_, uf_, uw_, ut_, ux_, List.length_cons, List.length_nil, List.mem_of_mem_take, List.mem_of_mem_drop]
theorem u4a_ (x : Str × Int × Int × Bool) (h : 0 ≤ x.2.2.1 ∧ x.2.2.1 ≤ x.1.length ∧ x.1.length ≤ 1000 ∧ 0 ≤ x.2.1 ∧ x.2.1 ≤ 999999999999999999) : Tot (uh1_ x) (fun r : Sum (Str × Int) (Str × Bool) => (∀ y, r = .inl y → y.1.length ≤ x.1.length ∧ 0 ≤ y.2 ∧ y.2 ≤ 999999999999999999) ∧ ∀ y, r = .inr y → y.2 = false ∧ y.1 = []) := by
 obtain ⟨rest_7, n_11, k_12, t49⟩ := x
 try dsimp only at h ⊢
 unfold uh1_
 repeat' first
  | with_reducible refine ug_.2 ⟨fun _ => ?_, fun _ => ?_⟩
  | with_reducible refine ua_.2 ?_
  | with_reducible refine ub_.2 ?_
  | with_reducible refine uo6_.2 ⟨?_, ?_⟩
  | with_reducible refine (uq_ _ ?_).mono fun _ _ => ?_
  | with_reducible refine (ubj_ _ ?_).mono fun _ _ => ?_
  | with_reducible refine (uc1_ _ ?_ ?_).mono fun _ _ => ?_
  | exact fun c => clo (uq_ c trivial)
  | exact fun c => clo (u2_ c trivial)
  | dsimp only
 all_goals grind [un_, uh_, ud_, uy_, up_, u4_, u3_, u8le, uj_, uf_, uw_, ut_, ux_, List.length_cons, List.length_nil, List.mem_of_mem_take, List.mem_of_mem_drop]
set_option maxHeartbeats 1000000 in
theorem u4b_ (x : YY9 × Str × Int) (h : x.2.1.length ≤ 1000 ∧ 0 ≤ x.2.2 ∧ x.2.2 ≤ 3 ∧ SOK x.1) : Tot (um5_ x) (fun r : YY9 × Str × Bool => SOK r.1 ∧ r.2.1.length ≤ 1000) := by
 refine uv_ (R := fun r : YY9 × Str × Bool => SOK r.1 ∧ r.2.1.length ≤ 1000) (fun y : YY9 × Str × Int => (y.2.1.length ≤ 1000 ∧ 0 ≤ y.2.2 ∧ y.2.2 ≤ 3 ∧ SOK y.1)) (fun y : YY9 × Str × Int => (4 - y.2.2).toNat) ?_ _ _ (by grind) (by unfold fuel; grind)
 rintro next ⟨v_0, s_1, last_6⟩ h hn
 try dsimp only at h hn
 unfold uvq_
 repeat' first
  | with_reducible refine ug_.2 ⟨fun _ => ?_, fun _ => ?_⟩
  | with_reducible refine ua_.2 ?_
  | with_reducible refine ub_.2 ?_
  | with_reducible refine u8_.2 ⟨?_, fun _ _ => ?_⟩
  | with_reducible refine uo6_.2 ⟨?_, ?_⟩
  | with_reducible refine (ubrk_ _ ?_).mono fun _ _ => ?_
  | with_reducible refine (u2_ _ ?_).mono fun _ _ => ?_
  | with_reducible refine (ubjs_ _ ?_).mono fun _ _ => ?_
  | with_reducible refine (uq_ _ ?_).mono fun _ _ => ?_
  | with_reducible refine (u4a_ _ ?_).mono fun _ _ => ?_
  | exact fun c => clo (uq_ c trivial)
  | exact fun c => clo (u2_ c trivial)
  | with_reducible refine hn _ ?_ ?_
  | split
  | dsimp only
 all_goals grind [un_, uh_, ud_, uy_, up_, u4_, u3_, u8le, uj_, uf_, uw_, ut_, ux_, List.length_cons, List.length_nil, List.mem_of_mem_take, List.mem_of_mem_drop]
theorem ubbx_ (x : YY9 × Str) (h : x.2.length ≤ 1000 ∧ SOK x.1) : Tot (ulr_ x) (fun r : Str × Bool × YY9 => r.1.length ≤ 1000 ∧ SOK r.2.2) := by
 obtain ⟨v_0, s_1⟩ := x
 try dsimp only at h ⊢
 unfold ulr_
 repeat' first
  | with_reducible refine ua_.2 ?_
  | with_reducible refine ub_.2 ?_
  | with_reducible refine (u4b_ _ ?_).mono fun _ _ => ?_
  | dsimp only
 all_goals grind [un_, uh_, ud_, uy_, up_, u4_, u3_, u8le, uj_, uf_, uw_, ut_, ux_, List.length_cons, List.length_nil, List.mem_of_mem_take, List.mem_of_mem_drop]
theorem uyu_ (x : Int) (h : True) : Tot (upe_ x) (fun r : Bool => True) := by
 unfold upe_
 repeat' first
  | with_reducible refine ug_.2 ⟨fun _ => ?_, fun _ => ?_⟩
  | with_reducible refine ua_.2 ?_
  | with_reducible refine ub_.2 ?_
  | with_reducible refine (uq_ _ ?_).mono fun _ _ => ?_
  | with_reducible refine (u2_ _ ?_).mono fun _ _ => ?_
  | dsimp only
 all_goals grind [un_, uh_, ud_, uy_, up_, u4_, u3_, u8le, uj_, uf_, uw_, ut_, ux_, List.length_cons, List.length_nil, List.mem_of_mem_take, List.mem_of_mem_drop]
theorem ubhm_ (x : Int × (List Str) × Int × Int) (h : 0 ≤ x.2.2.2 ∧ x.2.2.2 ≤ x.2.2.1 ∧ x.2.2.1 = x.2.1.length ∧ x.2.2.1 ≤ 281474976710656 ∧ 0 ≤ x.1 ∧ x.1 ≤ 1048576 + 1000 * x.2.2.2 ∧ (∀ s ∈ x.2.1, s.length ≤ 1000) ∧ x.2.2.1 ≤ 1048576) : Tot (uws_ x) (fun r : Sum (Int) YY25 => ∀ y, r = .inr y → y.1 = []) := by
 refine uv_ (R := fun r : Sum (Int) YY25 => ∀ y, r = .inr y → y.1 = []) (fun y : Int × (List Str) × Int × Int => (0 ≤ y.2.2.2 ∧ y.2.2.2 ≤ y.2.2.1 ∧ y.2.2.1 = y.2.1.length ∧ y.2.2.1 ≤ 281474976710656 ∧ 0 ≤ y.1 ∧ y.1 ≤ 1048576 + 1000 * y.2.2.2 ∧ (∀ s ∈ y.2.1, s.length ≤ 1000) ∧ y.2.2.1 ≤ 1048576)) (fun y : Int × (List Str) × Int × Int => (y.2.2.1 - y.2.2.2).toNat) ?_ _ _ (by grind) (by unfold fuel; grind)
 rintro next ⟨n_5, t13, t14, t15⟩ h hn
 try dsimp only at h hn
 unfold u7l_
 repeat' first
  | with_reducible refine ug_.2 ⟨fun _ => ?_, fun _ => ?_⟩
  | with_reducible refine ua_.2 ?_
  | with_reducible refine ub_.2 ?_
  | with_reducible refine u8_.2 ⟨?_, fun _ _ => ?_⟩
  | with_reducible refine (uq_ _ ?_).mono fun _ _ => ?_
  | with_reducible refine (uyu_ _ ?_).mono fun _ _ => ?_
  | with_reducible refine (uc1_ _ ?_ ?_).mono fun _ _ => ?_
  | exact fun c => clo (uq_ c trivial)
  | exact fun c => clo (u2_ c trivial)
  | exact fun c => clo (uyu_ c trivial)
  | with_reducible refine hn _ ?_ ?_
  | dsimp only
 all_goals grind [un_, uh_, ud_, uy_, up_, u4_, u3_, u8le, uj_, uf_, uw_, ut_, ux_, List.length_cons, List.length_nil, List.mem_of_mem_take, List.mem_of_mem_drop]
theorem ubpb_ (x : Str) (h : x.length ≤ 1000) : Tot (uxh_ x) (fun r : (List Str) × Bool => LS r.1) := by
 unfold uxh_
 repeat' first
  | with_reducible refine ua_.2 ?_
  | with_reducible refine ub_.2 ?_
  | with_reducible refine (uyt_ _ ?_).mono fun _ _ => ?_
  | with_reducible refine (ubhm_ _ ?_).mono fun _ _ => ?_
  | with_reducible refine (ubhk_ _ ⟨?_, ?_⟩).mono fun _ _ => ?_
  | exact fun c => clo (uyt_ c trivial)
  | split
  | dsimp only
 all_goals grind [un_, uh_, ud_, uy_, up_, u4_, u3_, u8le, uj_, uf_, uw_, ut_, ux_, List.length_cons, List.length_nil, List.mem_of_mem_take, List.mem_of_mem_drop]
theorem u9i_ (x : Str × YY9 × Int × Bool) (h : x.1.length ≤ 1000 ∧ x.2.1.1 = 0 ∧ 0 ≤ x.2.2.1 ∧ x.2.2.1 ≤ x.1.length ∧ (x.2.2.2 = true → x.2.2.1 < x.1.length)) : Tot (ujx_ x) (fun r : Sum (Str × YY9) (YY1 × Bool) => (∀ y, r = .inl y → y.1.length ≤ 1000 ∧ 0 ≤ y.2.1 ∧ y.2.1 ≤ 999999999999999999 ∧ y.2.2 = x.2.1.2) ∧ ∀ y, r = .inr y → y.2 = false) := by
 obtain ⟨s_0, v_4, n_5, t29⟩ := x
 try dsimp only at h ⊢
 unfold ujx_
 repeat' first
  | with_reducible refine ug_.2 ⟨fun _ => ?_, fun _ => ?_⟩
  | with_reducible refine ua_.2 ?_
  | with_reducible refine ub_.2 ?_
  | with_reducible refine uo6_.2 ⟨?_, ?_⟩
  | with_reducible refine (ubj_ _ ?_).mono fun _ _ => ?_
  | dsimp only
 all_goals grind [un_, uh_, ud_, uy_, up_, u4_, u3_, u8le, uj_, uf_, uw_, ut_, ux_, List.length_cons, List.length_nil, List.mem_of_mem_take, List.mem_of_mem_drop]
theorem ubhn_ (x : Str) (h : x.length ≤ 1000) : Tot (upf_ x) (fun r : YY1 × Bool => r.2 = true → VOK r.1) := by
 unfold upf_
 repeat' first
  | with_reducible refine ug_.2 ⟨fun _ => ?_, fun _ => ?_⟩
  | with_reducible refine ua_.2 ?_
  | with_reducible refine ub_.2 ?_
  | with_reducible refine u8_.2 ⟨?_, fun _ _ => ?_⟩
  | with_reducible refine (ubhj_ _ ?_).mono fun _ _ => ?_
  | with_reducible refine (uq_ _ ?_).mono fun _ _ => ?_
  | with_reducible refine (u9i_ _ ?_).mono fun _ _ => ?_
  | with_reducible refine (ubjr_ _ ?_).mono fun _ _ => ?_
  | with_reducible refine (ubbx_ _ ?_).mono fun _ _ => ?_
  | with_reducible refine (ubjp_ _ ?_).mono fun _ _ => ?_
  | with_reducible refine (ubpb_ _ ?_).mono fun _ _ => ?_
  | with_reducible refine (uc1_ _ ?_ ?_).mono fun _ _ => ?_
  | exact fun c => clo (uq_ c trivial)
  | exact fun c => clo (u2_ c trivial)
  | split
  | dsimp only
 all_goals grind [un_, uh_, ud_, uy_, up_, u4_, u3_, u8le, uj_, uf_, uw_, ut_, ux_, List.length_cons, List.length_nil, List.mem_of_mem_take, List.mem_of_mem_drop, vok_s]
theorem ubti_ (x : Str × Bool) (h : x.1.length ≤ 1000) : Tot (u4s_ x) (fun r : Str => r.length ≤ 5000) := by
 obtain ⟨w_0, followed_1⟩ := x
 try dsimp only at h ⊢
 unfold u4s_
 repeat' first
  | with_reducible refine ug_.2 ⟨fun _ => ?_, fun _ => ?_⟩
  | with_reducible refine ua_.2 ?_
  | with_reducible refine ub_.2 ?_
  | with_reducible refine (u50_ _ ?_).mono fun _ _ => ?_
  | dsimp only
 all_goals grind [un_, uh_, ud_, uy_, up_, u4_, u3_, u8le, uj_, uf_, uw_, ut_, ux_, List.length_cons, List.length_nil, List.mem_of_mem_take, List.mem_of_mem_drop]
theorem unp_ (x : Bool × Str × Int) (h : True) : Tot (ugy_ x) (fun r : Bool => True) := by
 unfold ugy_
 repeat' first
  | with_reducible refine ub_.2 ?_
  | dsimp only
 all_goals grind [un_, uh_, ud_, uy_, up_, u4_, u3_, u8le, uj_, uf_, uw_, ut_, ux_, List.length_cons, List.length_nil, List.mem_of_mem_take, List.mem_of_mem_drop]
theorem u26_ (x : Str × Int × Bool) (h : 0 ≤ x.2.1 ∧ x.2.1 < x.1.length ∧ x.1.length ≤ 1000) : Tot (uhk_ x) (fun r : Sum (Int) (YY1 × Bool) => (∀ y, r = .inl y → x.2.1 ≤ y ∧ y ≤ x.1.length) ∧ ∀ y, r = .inr y → y.2 = false) := by
 obtain ⟨s_0, at_5, t24⟩ := x
 try dsimp only at h ⊢
 unfold uhk_
 repeat' first
  | with_reducible refine ug_.2 ⟨fun _ => ?_, fun _ => ?_⟩
  | with_reducible refine ua_.2 ?_
  | with_reducible refine ub_.2 ?_
  | with_reducible refine u8_.2 ⟨?_, fun _ _ => ?_⟩
  | with_reducible refine (uq_ _ ?_).mono fun _ _ => ?_
  | with_reducible refine (u2_ _ ?_).mono fun _ _ => ?_
  | dsimp only
 all_goals grind [un_, uh_, ud_, uy_, up_, u4_, u3_, u8le, uj_, uf_, uw_, ut_, ux_, List.length_cons, List.length_nil, List.mem_of_mem_take, List.mem_of_mem_drop]
set_option maxHeartbeats 1000000 in
theorem u27_ (x : Str × (List YY16) × Int) (h : 0 ≤ x.2.2 ∧ (x.1.length : Int) ≤ 281474976710656 ∧ x.2.2 ≤ (x.1.length : Int) ∧ x.1.length ≤ 1000 ∧ x.2.1.length ≤ x.2.2 ∧ (∀ t ∈ x.2.1, t.2.1.length ≤ 5000 ∧ 0 ≤ t.2.2 ∧ t.2.2 ≤ 999999999999999999)) : Tot (uls_ x) (fun r : Sum (List YY16) (YY1 × Bool) => (∀ y, r = .inl y → TS y) ∧ ∀ y, r = .inr y → y.2 = false) := by
 refine uv_ (R := fun r : Sum (List YY16) (YY1 × Bool) => (∀ y, r = .inl y → TS y) ∧ ∀ y, r = .inr y → y.2 = false) (fun y : Str × (List YY16) × Int => (0 ≤ y.2.2 ∧ (y.1.length : Int) ≤ 281474976710656 ∧ y.2.2 ≤ (y.1.length : Int) ∧ y.1.length ≤ 1000 ∧ y.2.1.length ≤ y.2.2 ∧ (∀ t ∈ y.2.1, t.2.1.length ≤ 5000 ∧ 0 ≤ t.2.2 ∧ t.2.2 ≤ 999999999999999999))) (fun y : Str × (List YY16) × Int => ((y.1.length : Int) - y.2.2).toNat) ?_ _ _ (by grind) (by unfold fuel; grind)
 rintro next ⟨s_0, v_4, at_5⟩ h hn
 try dsimp only at h hn
 unfold utz_
 repeat' first
  | with_reducible refine ug_.2 ⟨fun _ => ?_, fun _ => ?_⟩
  | with_reducible refine ua_.2 ?_
  | with_reducible refine ub_.2 ?_
  | with_reducible refine u8_.2 ⟨?_, fun _ _ => ?_⟩
  | with_reducible refine uo6_.2 ⟨?_, ?_⟩
  | with_reducible refine ulj_.2 ⟨?_, ?_⟩
  | with_reducible refine (u26_ _ ?_).mono fun _ _ => ?_
  | with_reducible refine (uq_ _ ?_).mono fun _ _ => ?_
  | with_reducible refine (ubj_ _ ?_).mono fun _ _ => ?_
  | with_reducible refine (u2_ _ ?_).mono fun _ _ => ?_
  | with_reducible refine (ubti_ _ ?_).mono fun _ _ => ?_
  | with_reducible refine (uc1_ _ ?_ ?_).mono fun _ _ => ?_
  | exact fun c => clo (uq_ c trivial)
  | exact fun c => clo (u2_ c trivial)
  | with_reducible refine hn _ ?_ ?_
  | split
  | dsimp only
 all_goals grind [un_, uh_, ud_, uy_, up_, u4_, u3_, u8le, uj_, uf_, uw_, ut_, ux_, List.length_cons, List.length_nil, List.mem_of_mem_take, List.mem_of_mem_drop]
theorem u28_ (x : List YY16) (h : TS x) : Tot (ult_ x) (fun r : List YY16 => TS r) := by
 refine uv_ (R := fun r => TS r) (fun y => TS y) (fun y => y.length) ?_ _ _ h (by unfold fuel; have := h.1; omega)
 intro next v h hn
 unfold ut0_
 by_cases hc : (0 : Int) < v.length
 · rw [ubm_ (by omega) (by have := h.1; omega), decide_eq_true hc]
   simp only [cond_true, Bool.true_and]
   refine ua_.2 (u8_.2 ⟨⟨by omega, by omega⟩, fun b hb => ?_⟩)
   refine ua_.2 ((unp_ _ trivial).mono fun r _ => ?_)
   refine ug_.2 ⟨fun _ => ua_.2 (uo6_.2 ⟨⟨by omega, by omega, by omega⟩, ?_⟩), fun _ => ub_.2 h⟩
   refine hn _ ⟨?_, fun t ht => h.2 t (uw_ ht)⟩ ?_
   · rw [ut_]; have := h.1; omega
   · rw [ut_]; omega
 · rw [decide_eq_false hc]
   simp only [cond_false, Bool.false_and]
   exact ua_.2 (ub_.2 (ua_.2 (ub_.2 (ub_.2 h))))
theorem u9j_ (x : Str) (h : x.length ≤ 1000) : Tot (ujy_ x) (fun r : YY1 × Bool => r.2 = true → VOK r.1) := by
 unfold ujy_
 repeat' first
  | with_reducible refine ua_.2 ?_
  | with_reducible refine ub_.2 ?_
  | with_reducible refine (u27_ _ ?_).mono fun _ _ => ?_
  | with_reducible refine (u28_ _ ?_).mono fun _ _ => ?_
  | split
  | dsimp only
 all_goals grind [un_, uh_, ud_, uy_, up_, u4_, u3_, u8le, uj_, uf_, uw_, ut_, ux_, List.length_cons, List.length_nil, List.mem_of_mem_take, List.mem_of_mem_drop, vok_q]
theorem ubjt_ (x : Str) (h : x.length ≤ 1000) : Tot (urr_ x) (fun r : YY1 × Bool => r.2 = true → VOK r.1) := by
 unfold urr_
 repeat' first
  | with_reducible refine ua_.2 ?_
  | with_reducible refine ub_.2 ?_
  | with_reducible refine (uid_ _ ?_).mono fun _ _ => ?_
  | dsimp only
 all_goals grind [un_, uh_, ud_, uy_, up_, u4_, u3_, u8le, uj_, uf_, uw_, ut_, ux_, List.length_cons, List.length_nil, List.mem_of_mem_take, List.mem_of_mem_drop, vok_p]
theorem uk8_ (x : Int × Str) (h : x.2.length ≤ 1048576) : Tot (udq_ x) (fun r : YY1 × Int => r.2 = 0 → VOK r.1) := by
 obtain ⟨kind_0, s_1⟩ := x
 try dsimp only at h ⊢
 unfold udq_
 repeat' first
  | with_reducible refine ug_.2 ⟨fun _ => ?_, fun _ => ?_⟩
  | with_reducible refine ua_.2 ?_
  | with_reducible refine ub_.2 ?_
  | with_reducible refine (ubhl_ _ ?_).mono fun _ _ => ?_
  | with_reducible refine (ubel_ _ ?_).mono fun _ _ => ?_
  | with_reducible refine (u50_ _ ?_).mono fun _ _ => ?_
  | with_reducible refine (ubhn_ _ ?_).mono fun _ _ => ?_
  | with_reducible refine (u9j_ _ ?_).mono fun _ _ => ?_
  | with_reducible refine (ubjt_ _ ?_).mono fun _ _ => ?_
  | dsimp only
 all_goals grind [un_, uh_, ud_, uy_, up_, u4_, u3_, u8le, uj_, uf_, uw_, ut_, ux_, List.length_cons, List.length_nil, List.mem_of_mem_take, List.mem_of_mem_drop]
end Go.Ev.Pv
namespace Go.Ev.Pv
theorem u67_ (x : (List Str) × (List Int) × Int × Int) (h : 0 ≤ x.2.2.2 ∧ x.2.2.2 ≤ x.2.2.1 ∧ x.2.2.1 = x.2.1.length ∧ x.2.2.1 ≤ 281474976710656 ∧ x.1.length ≤ x.2.2.2 ∧ (∀ s ∈ x.1, s.length ≤ 21) ∧ x.2.2.1 ≤ 1002) : Tot (uoe_ x) (fun r : List Str => r.length ≤ 1002 ∧ ∀ s ∈ r, s.length ≤ 21) := by
 refine uv_ (R := fun r : List Str => r.length ≤ 1002 ∧ ∀ s ∈ r, s.length ≤ 21) (fun y : (List Str) × (List Int) × Int × Int => (0 ≤ y.2.2.2 ∧ y.2.2.2 ≤ y.2.2.1 ∧ y.2.2.1 = y.2.1.length ∧ y.2.2.1 ≤ 281474976710656 ∧ y.1.length ≤ y.2.2.2 ∧ (∀ s ∈ y.1, s.length ≤ 21) ∧ y.2.2.1 ≤ 1002)) (fun y : (List Str) × (List Int) × Int × Int => (y.2.2.1 - y.2.2.2).toNat) ?_ _ _ (by grind) (by unfold fuel; grind)
 rintro next ⟨parts_3, t6, t7, t8⟩ h hn
 try dsimp only at h hn
 unfold uxv_
 repeat' first
  | with_reducible refine ug_.2 ⟨fun _ => ?_, fun _ => ?_⟩
  | with_reducible refine ua_.2 ?_
  | with_reducible refine ub_.2 ?_
  | with_reducible refine u8_.2 ⟨?_, fun _ _ => ?_⟩
  | with_reducible refine ulj_.2 ⟨?_, ?_⟩
  | with_reducible refine (ubh_ _ ?_).mono fun _ _ => ?_
  | with_reducible refine hn _ ?_ ?_
  | dsimp only
 all_goals grind [un_, uh_, ud_, uy_, up_, u4_, u3_, u8le, uj_, uf_, uw_, ut_, ux_, List.length_cons, List.length_nil, List.mem_of_mem_take, List.mem_of_mem_drop]
theorem uwj_ (x : List Int) (h : x.length ≤ 1002) : Tot (ui2_ x) (fun r : Str => r.length ≤ 30000) := by
 unfold ui2_
 refine ua_.2 ((u67_ _ ⟨by simp, by simp, rfl, by simp; omega, by simp, by simp, by simp; omega⟩).mono fun r hr => ?_)
 have hj : (Lib.join r [46]).length ≤ 1002 * (21 + 1) := ub3r_ hr.2 hr.1 (by simp)
 exact ua_.2 ((uk3_ _ ⟨by simp; omega, by dsimp only; omega⟩).mono fun s hs => ub_.2 (by rw [hs]; dsimp only; omega))
theorem uvd_ (x : (List Int) × (List Str)) (h : DOK x) : Tot (uht_ x) (fun r : Str => r.length ≤ 1048576) := by
 unfold uht_
 obtain ⟨h1, h2, h3, h4⟩ := h
 have hj : (Lib.join x.2 [46]).length ≤ 1002 * (1000 + 1) := ub3r_ h4 h3 (by simp)
 refine ua_.2 (uo6_.2 ⟨⟨by omega, by omega, by omega⟩, ?_⟩)
 refine ua_.2 ((uwj_ _ (by rw [ut_]; omega)).mono fun r hr => ?_)
 refine ug_.2 ⟨fun _ => ?_, fun _ => ub_.2 (by omega)⟩
 refine ua_.2 ((uk3_ _ ⟨by dsimp only; omega, by dsimp only; omega⟩).mono fun s hs => ?_)
 dsimp only at hs
 rw [← hs] at hj
 refine ua_.2 (ueb_.2 ⟨by simp; omega, ?_⟩)
 refine ua_.2 (ueb_.2 ⟨by simp; omega, ?_⟩)
 exact ub_.2 (by simp; omega)
theorem u68_ (x : Str × (List Int) × Int) (h : 0 ≤ x.2.2 ∧ x.2.2 ≤ x.1.length ∧ x.1.length ≤ 1000 ∧ x.2.1.length ≤ 21 * x.2.2) : Tot (uof_ x) (fun r : List Int => r.length ≤ 21000) := by
 refine uv_ (R := fun r : List Int => r.length ≤ 21000) (fun y : Str × (List Int) × Int => (0 ≤ y.2.2 ∧ y.2.2 ≤ y.1.length ∧ y.1.length ≤ 1000 ∧ y.2.1.length ≤ 21 * y.2.2) ∧ y.1 = x.1) (fun y : Str × (List Int) × Int => (y.1.length - y.2.2 : Int).toNat) ?_ _ _ (by grind) (by unfold fuel; grind)
 rintro next ⟨s_0, b_3, at_4⟩ h hn
 try dsimp only at h hn
 unfold uxw_
 repeat' first
  | with_reducible refine ug_.2 ⟨fun _ => ?_, fun _ => ?_⟩
  | with_reducible refine ua_.2 ?_
  | with_reducible refine ub_.2 ?_
  | with_reducible refine u8_.2 ⟨?_, fun _ _ => ?_⟩
  | with_reducible refine uo6_.2 ⟨?_, ?_⟩
  | with_reducible refine (uq_ _ ?_).mono fun _ _ => ?_
  | with_reducible refine (udl_ _ ?_).mono fun _ _ => ?_
  | with_reducible refine (ubj_ _ ?_).mono fun _ _ => ?_
  | with_reducible refine (ubh_ _ ?_).mono fun _ _ => ?_
  | with_reducible refine (ucl_ _ ?_).mono fun _ _ => ?_
  | with_reducible refine (uc1_ _ ?_ ?_).mono fun _ _ => ?_
  | exact fun c => clo (uq_ c trivial)
  | exact fun c => clo (u2_ c trivial)
  | with_reducible refine hn _ ?_ ?_
  | dsimp only
 all_goals grind [un_, uh_, ud_, uy_, up_, u4_, u3_, u8le, uj_, uf_, uw_, ut_, ux_, List.length_cons, List.length_nil, List.mem_of_mem_take, List.mem_of_mem_drop]
theorem ubem_ (x : Str) (h : x.length ≤ 1000) : Tot (ui3_ x) (fun r : Str => r.length ≤ 21000) := by
 unfold ui3_
 repeat' first
  | with_reducible refine ua_.2 ?_
  | with_reducible refine ub_.2 ?_
  | with_reducible refine (u68_ _ ?_).mono fun _ _ => ?_
  | with_reducible refine (ub6_ _ ?_).mono fun _ _ => ?_
  | dsimp only
 all_goals grind [un_, uh_, ud_, uy_, up_, u4_, u3_, u8le, uj_, uf_, uw_, ut_, ux_, List.length_cons, List.length_nil, List.mem_of_mem_take, List.mem_of_mem_drop]
theorem uve_ (x : Int × Str × Str × Bool) (h : ROK x) : Tot (uhu_ x) (fun r : Str => r.length ≤ 1000) := by
 unfold uhu_
 repeat' first
  | with_reducible refine ug_.2 ⟨fun _ => ?_, fun _ => ?_⟩
  | with_reducible refine ub_.2 ?_
  | dsimp only
 all_goals grind [un_, uh_, ud_, uy_, up_, u4_, u3_, u8le, uj_, uf_, uw_, ut_, ux_, List.length_cons, List.length_nil, List.mem_of_mem_take, List.mem_of_mem_drop]
theorem ubho_ (x : Str × (List Int) × Int × Int) (h : 0 ≤ x.2.2.2 ∧ x.2.2.2 ≤ x.2.2.1 ∧ x.2.2.1 = x.1.length ∧ x.2.2.1 ≤ 281474976710656 ∧ x.2.2.1 ≤ 1000 ∧ x.2.1.length ≤ x.2.2.2) : Tot (uwt_ x) (fun r : List Int => r.length ≤ x.1.length) := by
 refine uv_ (R := fun r : List Int => r.length ≤ x.1.length) (fun y : Str × (List Int) × Int × Int => (0 ≤ y.2.2.2 ∧ y.2.2.2 ≤ y.2.2.1 ∧ y.2.2.1 = y.1.length ∧ y.2.2.1 ≤ 281474976710656 ∧ y.2.2.1 ≤ 1000 ∧ y.2.1.length ≤ y.2.2.2) ∧ y.1 = x.1) (fun y : Str × (List Int) × Int × Int => (y.2.2.1 - y.2.2.2).toNat) ?_ _ _ (by grind) (by unfold fuel; grind)
 rintro next ⟨s_0, b_3, t6, t7⟩ h hn
 try dsimp only at h hn
 unfold u7m_
 repeat' first
  | with_reducible refine ug_.2 ⟨fun _ => ?_, fun _ => ?_⟩
  | with_reducible refine ua_.2 ?_
  | with_reducible refine ub_.2 ?_
  | with_reducible refine u8_.2 ⟨?_, fun _ _ => ?_⟩
  | with_reducible refine (udl_ _ ?_).mono fun _ _ => ?_
  | with_reducible refine (u2_ _ ?_).mono fun _ _ => ?_
  | with_reducible refine hn _ ?_ ?_
  | dsimp only
 all_goals grind [un_, uh_, ud_, uy_, up_, u4_, u3_, u8le, uj_, uf_, uw_, ut_, ux_, List.length_cons, List.length_nil, List.mem_of_mem_take, List.mem_of_mem_drop]
theorem ubpc_ (x : Str) (h : x.length ≤ 1000) : Tot (uxi_ x) (fun r : Str => r.length ≤ x.length + 1) := by
 unfold uxi_
 repeat' first
  | with_reducible refine ua_.2 ?_
  | with_reducible refine ub_.2 ?_
  | with_reducible refine u8_.2 ⟨?_, fun _ _ => ?_⟩
  | with_reducible refine ueb_.2 ⟨?_, ?_⟩
  | with_reducible refine (ubho_ _ ?_).mono fun _ _ => ?_
  | with_reducible refine (ub6_ _ ?_).mono fun _ _ => ?_
  | dsimp only
 all_goals grind [un_, uh_, ud_, uy_, up_, u4_, u3_, u8le, uj_, uf_, uw_, ut_, ux_, List.length_cons, List.length_nil, List.mem_of_mem_take, List.mem_of_mem_drop]
theorem ubp_ (x : Int) (h : 0 ≤ x ∧ x ≤ 999999999999999999) : Tot (udr_ x) (fun r : Str => r.length = 18) := by
 unfold udr_
 repeat' first
  | with_reducible refine ua_.2 ?_
  | with_reducible refine ub_.2 ?_
  | with_reducible refine u8_.2 ⟨?_, fun _ _ => ?_⟩
  | with_reducible refine ueb_.2 ⟨?_, ?_⟩
  | with_reducible refine (ubh_ _ ?_).mono fun _ _ => ?_
  | with_reducible refine (ubrh_ _ ?_).mono fun _ _ => ?_
  | dsimp only
 all_goals grind [un_, uh_, ud_, uy_, up_, u4_, u3_, u8le, uj_, uf_, uw_, ut_, ux_, List.length_cons, List.length_nil, List.mem_of_mem_take, List.mem_of_mem_drop]
theorem u9k_ (x : Str × (List Int)) (h : x.1.length ≤ 1000 ∧ x.2.length + 40 * x.1.length ≤ 50000) : Tot (uqa_ x) (fun r : List Int => r.length ≤ 50000) := by
 refine uv_ (R := fun r : List Int => r.length ≤ 50000) (fun y : Str × (List Int) => y.1.length ≤ 1000 ∧ y.2.length + 40 * y.1.length ≤ 50000) (fun y : Str × (List Int) => y.1.length) ?_ _ _ h (by unfold fuel; have := h.1; omega)
 rintro next ⟨s, b⟩ h hn
 dsimp only at h hn
 unfold uzr_
 dsimp only
 refine ug_.2 ⟨fun hc => ?_, fun _ => ub_.2 (by omega)⟩
 have hne : 0 < s.length := by
  rw [ux_] at hc
  simp only [Bool.not_eq_true', decide_eq_false_iff_not] at hc
  omega
 have f1 : ∀ c, Tot ((ujz_ c).bind fun r => some r) fun _ => True := fun c => ⟨_, rfl, trivial⟩
 refine ua_.2 ((uxq_ _ ⟨Int.le_refl _, by dsimp only; omega, by dsimp only; omega, f1⟩).mono fun r1 hr1 => ?_)
 dsimp only at hr1
 obtain ⟨a0, a1, _, a3⟩ := hr1
 rw [Int.zero_add] at a1 a3
 refine ua_.2 ((uxq_ _ ⟨a0, by dsimp only; omega, by dsimp only; omega, ub3s_⟩).mono fun r2 hr2 => ?_)
 dsimp only at hr2
 obtain ⟨b0, b1, _, b3⟩ := hr2
 have hpos : 0 < r1 + r2 := by
  rcases Int.lt_or_le 0 (r1 + r2) with h' | h'
  · exact h'
  · exfalso
    have e1 : r1 = 0 := by omega
    have e2 : r2 = 0 := by omega
    subst e1 e2
    have g : s[(0 : Int).toNat]? = some (s[0]'hne) := List.getElem?_eq_getElem hne
    have g1 := a3 _ g
    have g2 := b3 _ g
    unfold ujz_ at g1
    unfold u5_ at g1 g2
    simp at g1 g2
    omega
 rw [ubm_ (by omega) (by omega)]
 refine ua_.2 (uo6_.2 ⟨⟨by omega, by omega, by omega⟩, ?_⟩)
 refine ua_.2 ((ubj_ _ (by rw [ut_]; omega)).mono fun r4 h4 => ?_)
 refine ua_.2 (uo6_.2 ⟨⟨by omega, by omega, by omega⟩, ?_⟩)
 refine ua_.2 ((ubpc_ _ (by rw [ut_]; omega)).mono fun r6 h6 => ?_)
 rw [ut_] at h6
 refine ua_.2 ((ubp_ _ h4).mono fun r7 h7 => ?_)
 refine ua_.2 (ueb_.2 ⟨by omega, ?_⟩)
 refine ua_.2 ((ucl_ _ ⟨by dsimp only; omega, by dsimp only; rw [List.length_append]; omega⟩).mono fun r9 h9 => ?_)
 dsimp only at h9
 rw [List.length_append] at h9
 refine ua_.2 (uo6_.2 ⟨⟨by omega, by omega, by omega⟩, ?_⟩)
 refine hn _ ⟨?_, ?_⟩ ?_ <;> (dsimp only; rw [ut_]; omega)
theorem uyv_ (x : Str) (h : x.length ≤ 1000) : Tot (uf6_ x) (fun r : Str => r.length ≤ 50010) := by
 unfold uf6_
 repeat' first
  | with_reducible refine ua_.2 ?_
  | with_reducible refine ub_.2 ?_
  | with_reducible refine u8_.2 ⟨?_, fun _ _ => ?_⟩
  | with_reducible refine ueb_.2 ⟨?_, ?_⟩
  | with_reducible refine (u9k_ _ ?_).mono fun _ _ => ?_
  | with_reducible refine (ub6_ _ ?_).mono fun _ _ => ?_
  | dsimp only
 all_goals grind [un_, uh_, ud_, uy_, up_, u4_, u3_, u8le, uj_, uf_, uw_, ut_, ux_, List.length_cons, List.length_nil, List.mem_of_mem_take, List.mem_of_mem_drop]
theorem u29_ (x : YY29 × Str × Bool) (h : x.2.1.length ≤ 1000000) : Tot (uhl_ x) (fun r : YY29 × Str => r.1 = x.1 ∧ r.2.length ≤ x.2.1.length + 30) := by
 obtain ⟨v_1, s_3, t9⟩ := x
 try dsimp only at h ⊢
 unfold uhl_
 repeat' first
  | with_reducible refine ug_.2 ⟨fun _ => ?_, fun _ => ?_⟩
  | with_reducible refine ua_.2 ?_
  | with_reducible refine ub_.2 ?_
  | with_reducible refine u8_.2 ⟨?_, fun _ _ => ?_⟩
  | with_reducible refine ueb_.2 ⟨?_, ?_⟩
  | with_reducible refine (ubh_ _ ?_).mono fun _ _ => ?_
  | dsimp only
 all_goals grind [un_, uh_, ud_, uy_, up_, u4_, u3_, u8le, uj_, uf_, uw_, ut_, ux_, List.length_cons, List.length_nil, List.mem_of_mem_take, List.mem_of_mem_drop]
theorem utf_ (x : Int × Str × Str × Bool) (h : ROK x) : Tot (uhe_ x) (fun r : Str => r.length ≤ 1048576) := by
 unfold uhe_
 repeat' first
  | with_reducible refine ug_.2 ⟨fun _ => ?_, fun _ => ?_⟩
  | with_reducible refine ua_.2 ?_
  | with_reducible refine ub_.2 ?_
  | with_reducible refine u8_.2 ⟨?_, fun _ _ => ?_⟩
  | with_reducible refine ueb_.2 ⟨?_, ?_⟩
  | with_reducible refine (ubem_ _ ?_).mono fun _ _ => ?_
  | with_reducible refine (u29_ _ ?_).mono fun _ _ => ?_
  | with_reducible refine (uve_ _ ?_).mono fun _ _ => ?_
  | with_reducible refine (uyv_ _ ?_).mono fun _ _ => ?_
  | dsimp only
 all_goals grind [un_, uh_, ud_, uy_, up_, u4_, u3_, u8le, uj_, uf_, uw_, ut_, ux_, List.length_cons, List.length_nil, List.mem_of_mem_take, List.mem_of_mem_drop]
theorem ubhp_ (x : List Int) (h : NS x) : Tot (uwu_ x) (fun r : List Int => NS r) := by
 refine uv_ (R := fun r => NS r) (fun y => NS y) (fun y => y.length) ?_ _ _ h (by unfold fuel; have := h.1; omega)
 intro next v h hn
 unfold u7n_
 by_cases hc : (0 : Int) < v.length
 · rw [ubm_ (by omega) (by have := h.1; omega), decide_eq_true hc]
   simp only [cond_true, Bool.true_and]
   refine ua_.2 (u8_.2 ⟨⟨by omega, by omega⟩, fun b hb => ?_⟩)
   refine ug_.2 ⟨fun _ => ua_.2 (uo6_.2 ⟨⟨by omega, by omega, by omega⟩, ?_⟩), fun _ => ub_.2 h⟩
   refine hn _ ⟨?_, fun t ht => h.2 t (uw_ ht)⟩ ?_
   · rw [ut_]; have := h.1; omega
   · rw [ut_]; omega
 · rw [decide_eq_false hc]
   simp only [cond_false, Bool.false_and]
   exact ua_.2 (ub_.2 (ub_.2 h))
theorem u51_ (x : List Int) (h : NS x) : Tot (uq1_ x) (fun r : List Int => NS r) := by
 unfold uq1_
 repeat' first
  | with_reducible refine ua_.2 ?_
  | with_reducible refine ub_.2 ?_
  | with_reducible refine (ubhp_ _ ?_).mono fun _ _ => ?_
  | dsimp only
 all_goals grind [un_, uh_, ud_, uy_, up_, u4_, u3_, u8le, uj_, uf_, uw_, ut_, ux_, List.length_cons, List.length_nil, List.mem_of_mem_take, List.mem_of_mem_drop]
theorem u4c_ (x : YY9 × Str × Bool) (h : x.2.1.length ≤ 10) : Tot (uh2_ x) (fun r : YY9 × Str => r.1 = x.1 ∧ r.2.length ≤ 30) := by
 obtain ⟨v_1, s_3, t11⟩ := x
 try dsimp only at h ⊢
 unfold uh2_
 repeat' first
  | with_reducible refine ug_.2 ⟨fun _ => ?_, fun _ => ?_⟩
  | with_reducible refine ua_.2 ?_
  | with_reducible refine ub_.2 ?_
  | with_reducible refine u8_.2 ⟨?_, fun _ _ => ?_⟩
  | with_reducible refine ueb_.2 ⟨?_, ?_⟩
  | with_reducible refine (ubh_ _ ?_).mono fun _ _ => ?_
  | dsimp only
 all_goals grind [un_, uh_, ud_, uy_, up_, u4_, u3_, u8le, uj_, uf_, uw_, ut_, ux_, List.length_cons, List.length_nil, List.mem_of_mem_take, List.mem_of_mem_drop]
theorem u4d_ (x : Str × (List Int) × Bool) (h : x.1.length ≤ 30 ∧ x.2.1.length ≤ 1002) : Tot (uh3_ x) (fun r : Str => r.length ≤ 31000) := by
 obtain ⟨s_3, l_4, t21⟩ := x
 try dsimp only at h ⊢
 unfold uh3_
 repeat' first
  | with_reducible refine ug_.2 ⟨fun _ => ?_, fun _ => ?_⟩
  | with_reducible refine ua_.2 ?_
  | with_reducible refine ub_.2 ?_
  | with_reducible refine u8_.2 ⟨?_, fun _ _ => ?_⟩
  | with_reducible refine ueb_.2 ⟨?_, ?_⟩
  | with_reducible refine (uwj_ _ ?_).mono fun _ _ => ?_
  | dsimp only
 all_goals grind [un_, uh_, ud_, uy_, up_, u4_, u3_, u8le, uj_, uf_, uw_, ut_, ux_, List.length_cons, List.length_nil, List.mem_of_mem_take, List.mem_of_mem_drop]
theorem u4e_ (x : YY9 × Str × Bool) (h : x.2.1.length ≤ 31000 ∧ 0 ≤ x.1.2.2.1 ∧ x.1.2.2.1 ≤ 3) : Tot (uh4_ x) (fun r : YY9 × Str => r.1 = x.1 ∧ r.2.length ≤ 31100) := by
 obtain ⟨v_1, s_3, t30⟩ := x
 try dsimp only at h ⊢
 unfold uh4_
 repeat' first
  | with_reducible refine ug_.2 ⟨fun _ => ?_, fun _ => ?_⟩
  | with_reducible refine ua_.2 ?_
  | with_reducible refine ub_.2 ?_
  | with_reducible refine u8_.2 ⟨?_, fun _ _ => ?_⟩
  | with_reducible refine ueb_.2 ⟨?_, ?_⟩
  | with_reducible refine (ubh_ _ ?_).mono fun _ _ => ?_
  | dsimp only
 all_goals grind [un_, uh_, ud_, uy_, up_, u4_, u3_, u8le, uj_, uf_, uw_, ut_, ux_, List.length_cons, List.length_nil, List.mem_of_mem_take, List.mem_of_mem_drop]
theorem u4f_ (x : YY9 × Str × Bool) (h : x.2.1.length ≤ 31100) : Tot (uh5_ x) (fun r : YY9 × Str => r.1 = x.1 ∧ r.2.length ≤ 31200) := by
 obtain ⟨v_1, s_3, t44⟩ := x
 try dsimp only at h ⊢
 unfold uh5_
 repeat' first
  | with_reducible refine ug_.2 ⟨fun _ => ?_, fun _ => ?_⟩
  | with_reducible refine ua_.2 ?_
  | with_reducible refine ub_.2 ?_
  | with_reducible refine u8_.2 ⟨?_, fun _ _ => ?_⟩
  | with_reducible refine ueb_.2 ⟨?_, ?_⟩
  | with_reducible refine (ubh_ _ ?_).mono fun _ _ => ?_
  | dsimp only
 all_goals grind [un_, uh_, ud_, uy_, up_, u4_, u3_, u8le, uj_, uf_, uw_, ut_, ux_, List.length_cons, List.length_nil, List.mem_of_mem_take, List.mem_of_mem_drop]
theorem u4g_ (x : YY9 × Str × Bool) (h : x.2.1.length ≤ 31200) : Tot (uh6_ x) (fun r : YY9 × Str => r.1 = x.1 ∧ r.2.length ≤ 31300) := by
 obtain ⟨v_1, s_3, t53⟩ := x
 try dsimp only at h ⊢
 unfold uh6_
 repeat' first
  | with_reducible refine ug_.2 ⟨fun _ => ?_, fun _ => ?_⟩
  | with_reducible refine ua_.2 ?_
  | with_reducible refine ub_.2 ?_
  | with_reducible refine u8_.2 ⟨?_, fun _ _ => ?_⟩
  | with_reducible refine ueb_.2 ⟨?_, ?_⟩
  | with_reducible refine (ubh_ _ ?_).mono fun _ _ => ?_
  | dsimp only
 all_goals grind [un_, uh_, ud_, uy_, up_, u4_, u3_, u8le, uj_, uf_, uw_, ut_, ux_, List.length_cons, List.length_nil, List.mem_of_mem_take, List.mem_of_mem_drop]
theorem u4h_ (x : Str × Int × Bool) (h : True) : Tot (uh7_ x) (fun r : Str => r.length ≤ x.1.length + 21) := by
 obtain ⟨p_6, n_7, t73⟩ := x
 try dsimp only at h ⊢
 unfold uh7_
 repeat' first
  | with_reducible refine ug_.2 ⟨fun _ => ?_, fun _ => ?_⟩
  | with_reducible refine ua_.2 ?_
  | with_reducible refine ub_.2 ?_
  | with_reducible refine (ubh_ _ ?_).mono fun _ _ => ?_
  | dsimp only
 all_goals grind [un_, uh_, ud_, uy_, up_, u4_, u3_, u8le, uj_, uf_, uw_, ut_, ux_, List.length_cons, List.length_nil, List.mem_of_mem_take, List.mem_of_mem_drop]
theorem u4i_ (x : Str × (List Str) × Int × Int) (h : 0 ≤ x.2.2.2 ∧ x.2.2.2 ≤ x.2.2.1 ∧ x.2.2.1 = x.2.1.length ∧ x.2.2.1 ≤ 281474976710656 ∧ x.1.length ≤ 40000 + 1030 * x.2.2.2 ∧ x.2.2.1 ≤ 1002 ∧ ∀ s ∈ x.2.1, s.length ≤ 1000) : Tot (um6_ x) (fun r : Str => r.length ≤ 10000000) := by
 refine uv_ (R := fun r : Str => r.length ≤ 10000000) (fun y : Str × (List Str) × Int × Int => (0 ≤ y.2.2.2 ∧ y.2.2.2 ≤ y.2.2.1 ∧ y.2.2.1 = y.2.1.length ∧ y.2.2.1 ≤ 281474976710656 ∧ y.1.length ≤ 40000 + 1030 * y.2.2.2 ∧ y.2.2.1 ≤ 1002 ∧ ∀ s ∈ y.2.1, s.length ≤ 1000)) (fun y : Str × (List Str) × Int × Int => (y.2.2.1 - y.2.2.2).toNat) ?_ _ _ (by grind) (by unfold fuel; grind)
 rintro next ⟨s_3, t61, t62, t63⟩ h hn
 try dsimp only at h hn
 unfold uvr_
 repeat' first
  | with_reducible refine ug_.2 ⟨fun _ => ?_, fun _ => ?_⟩
  | with_reducible refine ua_.2 ?_
  | with_reducible refine ub_.2 ?_
  | with_reducible refine u8_.2 ⟨?_, fun _ _ => ?_⟩
  | with_reducible refine ueb_.2 ⟨?_, ?_⟩
  | with_reducible refine (ubj_ _ ?_).mono fun _ _ => ?_
  | with_reducible refine (u4h_ _ ?_).mono fun _ _ => ?_
  | with_reducible refine hn _ ?_ ?_
  | dsimp only
 all_goals grind [un_, uh_, ud_, uy_, up_, u4_, u3_, u8le, uj_, uf_, uw_, ut_, ux_, List.length_cons, List.length_nil, List.mem_of_mem_take, List.mem_of_mem_drop]
theorem uvf_ (x : Int × (List Int) × Int × Int × Int × Int × (List Str)) (h : SOK x) : Tot (uhv_ x) (fun r : Str => r.length ≤ 10000000) := by
 unfold uhv_
 repeat' first
  | with_reducible refine ua_.2 ?_
  | with_reducible refine ub_.2 ?_
  | with_reducible refine (u4c_ _ ?_).mono fun _ _ => ?_
  | with_reducible refine (u51_ _ ?_).mono fun _ _ => ?_
  | with_reducible refine (u4d_ _ ?_).mono fun _ _ => ?_
  | with_reducible refine (u4e_ _ ?_).mono fun _ _ => ?_
  | with_reducible refine (u4f_ _ ?_).mono fun _ _ => ?_
  | with_reducible refine (u4g_ _ ?_).mono fun _ _ => ?_
  | with_reducible refine (u4i_ _ ?_).mono fun _ _ => ?_
  | dsimp only
 all_goals grind [un_, uh_, ud_, uy_, up_, u4_, u3_, u8le, uj_, uf_, uw_, ut_, ux_, List.length_cons, List.length_nil, List.mem_of_mem_take, List.mem_of_mem_drop]
theorem uzk_ (x : (List Str) × (List YY16) × Int × Int) (h : 0 ≤ x.2.2.2 ∧ x.2.2.2 ≤ x.2.2.1 ∧ x.2.2.1 = x.2.1.length ∧ x.2.2.1 ≤ 281474976710656 ∧ x.1.length ≤ x.2.2.2 ∧ (∀ s ∈ x.1, s.length ≤ 5000) ∧ x.2.2.1 ≤ 1002 ∧ ∀ t ∈ x.2.1, t.2.1.length ≤ 5000) : Tot (ujk_ x) (fun r : List Str => r.length ≤ 1002 ∧ ∀ s ∈ r, s.length ≤ 5000) := by
 refine uv_ (R := fun r : List Str => r.length ≤ 1002 ∧ ∀ s ∈ r, s.length ≤ 5000) (fun y : (List Str) × (List YY16) × Int × Int => (0 ≤ y.2.2.2 ∧ y.2.2.2 ≤ y.2.2.1 ∧ y.2.2.1 = y.2.1.length ∧ y.2.2.1 ≤ 281474976710656 ∧ y.1.length ≤ y.2.2.2 ∧ (∀ s ∈ y.1, s.length ≤ 5000) ∧ y.2.2.1 ≤ 1002 ∧ ∀ t ∈ y.2.1, t.2.1.length ≤ 5000)) (fun y : (List Str) × (List YY16) × Int × Int => (y.2.2.1 - y.2.2.2).toNat) ?_ _ _ (by grind) (by unfold fuel; grind)
 rintro next ⟨l_3, t7, t8, t9⟩ h hn
 try dsimp only at h hn
 unfold uq2_
 repeat' first
  | with_reducible refine ug_.2 ⟨fun _ => ?_, fun _ => ?_⟩
  | with_reducible refine ua_.2 ?_
  | with_reducible refine ub_.2 ?_
  | with_reducible refine u8_.2 ⟨?_, fun _ _ => ?_⟩
  | with_reducible refine ulj_.2 ⟨?_, ?_⟩
  | with_reducible refine (unp_ _ ?_).mono fun _ _ => ?_
  | with_reducible refine (ubh_ _ ?_).mono fun _ _ => ?_
  | with_reducible refine hn _ ?_ ?_
  | dsimp only
 all_goals grind [un_, uh_, ud_, uy_, up_, u4_, u3_, u8le, uj_, uf_, uw_, ut_, ux_, List.length_cons, List.length_nil, List.mem_of_mem_take, List.mem_of_mem_drop]
theorem up6_ (x : List YY16) (h : TS x) : Tot (ufu_ x) (fun r : Str => r.length ≤ 10000000) := by
 unfold ufu_
 refine ua_.2 ((uzk_ _ ⟨by simp, by simp, rfl, by have := h.1; simp; omega, by simp, by simp, by have := h.1; simp; omega, fun t ht => (h.2 t ht).1⟩).mono fun r hr => ?_)
 have hj : (Lib.join r [45]).length ≤ 1002 * (5000 + 1) := ub3r_ hr.2 hr.1 (by simp)
 refine ug_.2 ⟨fun _ => ub_.2 (by simp), fun _ => ?_⟩
 exact ua_.2 ((uk3_ _ ⟨by dsimp only; omega, by dsimp only; omega⟩).mono fun s hs => ub_.2 (by rw [hs]; dsimp only; omega))
theorem uwk_ (x : Int) (h : True) : Tot (ui4_ x) (fun r : Str => r.length ≤ 10000000) := by
 unfold ui4_
 repeat' first
  | with_reducible refine ua_.2 ?_
  | with_reducible refine ub_.2 ?_
  | with_reducible refine (ubh_ _ ?_).mono fun _ _ => ?_
  | dsimp only
 all_goals grind [un_, uh_, ud_, uy_, up_, u4_, u3_, u8le, uj_, uf_, uw_, ut_, ux_, List.length_cons, List.length_nil, List.mem_of_mem_take, List.mem_of_mem_drop]
theorem ubpd_ (x : Sum YY23 (Sum YY29 (Sum YY9 (Sum (List YY16) (Sum Int Unit))))) (h : VOK x) : Tot (uxj_ x) (fun r : Str × Int => r.1.length ≤ 100) := by
 unfold uxj_
 refine ua_.2 (Tot.mono (P := fun r : Str => r.length ≤ 10000000) ?_ fun r1 hr => ?_)
 · rcases x with x | x | x | x | x | x
   · exact ua_.2 ((uvd_ _ h).mono fun _ h => ub_.2 (by omega))
   · exact ua_.2 ((utf_ _ h).mono fun _ h => ub_.2 (by omega))
   · exact ua_.2 ((uvf_ _ h).mono fun _ h => ub_.2 h)
   · exact ua_.2 ((up6_ _ h).mono fun _ h => ub_.2 h)
   · exact ua_.2 ((uwk_ _ trivial).mono fun _ h => ub_.2 h)
   · exact h.elim
 · refine ug_.2 ⟨fun _ => ub_.2 (by simp), fun hc => ub_.2 ?_⟩
   have := of_decide_eq_false hc
   dsimp only
   omega
theorem ur0_ (x : Int × Str) (h : x.2.length ≤ 1048576) : Tot (uog_ x) (fun r : Str × Int => r.1.length ≤ 100) := by
 obtain ⟨kind_0, s_1⟩ := x
 try dsimp only at h ⊢
 unfold uog_
 repeat' first
  | with_reducible refine ug_.2 ⟨fun _ => ?_, fun _ => ?_⟩
  | with_reducible refine ua_.2 ?_
  | with_reducible refine ub_.2 ?_
  | with_reducible refine (uk8_ _ ?_).mono fun _ _ => ?_
  | with_reducible refine (ubpd_ _ ?_).mono fun _ _ => ?_
  | dsimp only
 all_goals grind [un_, uh_, ud_, uy_, up_, u4_, u3_, u8le, uj_, uf_, uw_, ut_, ux_, List.length_cons, List.length_nil, List.mem_of_mem_take, List.mem_of_mem_drop]
end Go.Ev.Pv
namespace Go.Ev.Pv
theorem uss_ (x : YY6 × Int × YY8 × Int × Int × Int) (h : (∀ p, Tot (x.2.2.1 p) fun _ => True) ∧ x.2.2.2.1 = 20 ∧ 0 ≤ x.2.2.2.2.1 ∧ x.2.2.2.2.2 = x.2.2.2.2.1 + 20 ∧ x.2.1 = x.1.length ∧ x.2.1 ≤ 1048576 ∧ x.2.2.2.2.1 ≤ x.2.1) : Tot (uf3_ x) (fun r : YY6 × Int => r.1.length = x.1.length ∧ (∀ q ∈ r.1, q ∈ x.1) ∧ 0 ≤ r.2 ∧ r.2 ≤ x.2.1) := by
 refine uv_ (R := fun r : YY6 × Int => r.1.length = x.1.length ∧ (∀ q ∈ r.1, q ∈ x.1) ∧ 0 ≤ r.2 ∧ r.2 ≤ x.2.1) (fun y : YY6 × Int × YY8 × Int × Int × Int => ((∀ p, Tot (y.2.2.1 p) fun _ => True) ∧ y.2.2.2.1 = 20 ∧ 0 ≤ y.2.2.2.2.1 ∧ y.2.2.2.2.2 = y.2.2.2.2.1 + 20 ∧ y.2.1 = y.1.length ∧ y.2.1 ≤ 1048576 ∧ y.2.2.2.2.1 ≤ y.2.1) ∧ y.2.1 = x.2.1 ∧ y.2.2.1 = x.2.2.1 ∧ y.2.2.2.1 = x.2.2.2.1 ∧ y.1.length = x.1.length ∧ ∀ q ∈ y.1, q ∈ x.1) (fun y : YY6 × Int × YY8 × Int × Int × Int => (y.2.1 - y.2.2.2.2.1).toNat) ?_ _ _ (by grind) (by unfold fuel; grind)
 rintro next ⟨data_0, n_1, cmp_2, blockSize_6, a_7, b_8⟩ h hn
 try dsimp only at h hn
 unfold ukb_
 repeat' first
  | with_reducible refine ug_.2 ⟨fun _ => ?_, fun _ => ?_⟩
  | with_reducible refine ua_.2 ?_
  | with_reducible refine ub_.2 ?_
  | with_reducible refine (ugt_ _ ?_).mono fun _ _ => ?_
  | with_reducible refine hn _ ?_ ?_
  | dsimp only
 all_goals grind [un_, uh_, ud_, uy_, up_, u4_, u3_, u8le, uj_, uf_, uw_, ut_, ux_, List.length_cons, List.length_nil, List.mem_of_mem_take, List.mem_of_mem_drop]
theorem ust_ (x : YY6 × Int × YY8 × Int × Int × Int) (h : (∀ p, Tot (x.2.2.1 p) fun _ => True) ∧ 0 < x.2.2.2.1 ∧ x.2.2.2.1 < x.2.1 ∧ 0 ≤ x.2.2.2.2.1 ∧ x.2.2.2.2.2 = x.2.2.2.2.1 + 2 * x.2.2.2.1 ∧ x.2.1 = x.1.length ∧ x.2.1 ≤ 1048576 ∧ x.2.2.2.2.1 ≤ x.2.1) : Tot (uf4_ x) (fun r : YY6 × Int => r.1.length = x.1.length ∧ (∀ q ∈ r.1, q ∈ x.1) ∧ 0 ≤ r.2 ∧ r.2 ≤ x.2.1) := by
 refine uv_ (R := fun r : YY6 × Int => r.1.length = x.1.length ∧ (∀ q ∈ r.1, q ∈ x.1) ∧ 0 ≤ r.2 ∧ r.2 ≤ x.2.1) (fun y : YY6 × Int × YY8 × Int × Int × Int => ((∀ p, Tot (y.2.2.1 p) fun _ => True) ∧ 0 < y.2.2.2.1 ∧ y.2.2.2.1 < y.2.1 ∧ 0 ≤ y.2.2.2.2.1 ∧ y.2.2.2.2.2 = y.2.2.2.2.1 + 2 * y.2.2.2.1 ∧ y.2.1 = y.1.length ∧ y.2.1 ≤ 1048576 ∧ y.2.2.2.2.1 ≤ y.2.1) ∧ y.2.1 = x.2.1 ∧ y.2.2.1 = x.2.2.1 ∧ y.2.2.2.1 = x.2.2.2.1 ∧ y.1.length = x.1.length ∧ ∀ q ∈ y.1, q ∈ x.1) (fun y : YY6 × Int × YY8 × Int × Int × Int => (y.2.1 - y.2.2.2.2.1).toNat) ?_ _ _ (by grind) (by unfold fuel; grind)
 rintro next ⟨data_0, n_1, cmp_2, blockSize_6, a_7, b_8⟩ h hn
 try dsimp only at h hn
 unfold ukc_
 repeat' first
  | with_reducible refine ug_.2 ⟨fun _ => ?_, fun _ => ?_⟩
  | with_reducible refine ua_.2 ?_
  | with_reducible refine ub_.2 ?_
  | with_reducible refine (uin_ _ ?_).mono fun _ _ => ?_
  | with_reducible refine hn _ ?_ ?_
  | dsimp only
 all_goals grind [un_, uh_, ud_, uy_, up_, u4_, u3_, u8le, uj_, uf_, uw_, ut_, ux_, List.length_cons, List.length_nil, List.mem_of_mem_take, List.mem_of_mem_drop]
theorem usu_ (x : YY6 × Int × YY8 × Int) (h : (∀ p, Tot (x.2.2.1 p) fun _ => True) ∧ 0 < x.2.2.2 ∧ x.2.2.2 ≤ 2097152 ∧ x.2.1 = x.1.length ∧ x.2.1 ≤ 1048576) : Tot (uf5_ x) (fun r : List (Str × Str) => r.length = x.1.length ∧ (∀ q ∈ r, q ∈ x.1)) := by
 refine uv_ (R := fun r : List (Str × Str) => r.length = x.1.length ∧ (∀ q ∈ r, q ∈ x.1)) (fun y : YY6 × Int × YY8 × Int => ((∀ p, Tot (y.2.2.1 p) fun _ => True) ∧ 0 < y.2.2.2 ∧ y.2.2.2 ≤ 2097152 ∧ y.2.1 = y.1.length ∧ y.2.1 ≤ 1048576) ∧ y.2.1 = x.2.1 ∧ y.2.2.1 = x.2.2.1 ∧ y.1.length = x.1.length ∧ ∀ q ∈ y.1, q ∈ x.1) (fun y : YY6 × Int × YY8 × Int => (2097153 - y.2.2.2).toNat) ?_ _ _ (by grind) (by unfold fuel; grind)
 rintro next ⟨data_0, n_1, cmp_2, blockSize_6⟩ h hn
 try dsimp only at h hn
 unfold ukd_
 repeat' first
  | with_reducible refine ug_.2 ⟨fun _ => ?_, fun _ => ?_⟩
  | with_reducible refine ua_.2 ?_
  | with_reducible refine ub_.2 ?_
  | with_reducible refine (ust_ _ ?_).mono fun _ _ => ?_
  | with_reducible refine (uin_ _ ?_).mono fun _ _ => ?_
  | with_reducible refine hn _ ?_ ?_
  | dsimp only
 all_goals grind [un_, uh_, ud_, uy_, up_, u4_, u3_, u8le, uj_, uf_, uw_, ut_, ux_, List.length_cons, List.length_nil, List.mem_of_mem_take, List.mem_of_mem_drop]
theorem uvn_ (x : YY6 × Int × YY8) (h : (∀ p, Tot (x.2.2 p) fun _ => True) ∧ x.2.1 = x.1.length ∧ x.2.1 ≤ 1048576) : Tot (ue1_ x) (fun r : List (Str × Str) => r.length = x.1.length ∧ (∀ q ∈ r, q ∈ x.1)) := by
 obtain ⟨data_0, n_1, cmp_2⟩ := x
 try dsimp only at h ⊢
 unfold ue1_
 repeat' first
  | with_reducible refine ua_.2 ?_
  | with_reducible refine ub_.2 ?_
  | with_reducible refine (uss_ _ ?_).mono fun _ _ => ?_
  | with_reducible refine (ugt_ _ ?_).mono fun _ _ => ?_
  | with_reducible refine (usu_ _ ?_).mono fun _ _ => ?_
  | dsimp only
 all_goals grind [un_, uh_, ud_, uy_, up_, u4_, u3_, u8le, uj_, uf_, uw_, ut_, ux_, List.length_cons, List.length_nil, List.mem_of_mem_take, List.mem_of_mem_drop]
theorem uvg_ (x : YY6 × YY8) (h : (∀ p, Tot (x.2 p) fun _ => True) ∧ x.1.length ≤ 1048576) : Tot (ueh_ x) (fun r : List (Str × Str) => r.length = x.1.length ∧ (∀ q ∈ r, q ∈ x.1)) := by
 obtain ⟨x_0, cmp_1⟩ := x
 try dsimp only at h ⊢
 unfold ueh_
 repeat' first
  | with_reducible refine ua_.2 ?_
  | with_reducible refine ub_.2 ?_
  | with_reducible refine (uvn_ _ ?_).mono fun _ _ => ?_
  | dsimp only
 all_goals grind [un_, uh_, ud_, uy_, up_, u4_, u3_, u8le, uj_, uf_, uw_, ut_, ux_, List.length_cons, List.length_nil, List.mem_of_mem_take, List.mem_of_mem_drop]
theorem umz_ (x : (List YY2) × Int × YY11 × Int × Int × Int) (h : (∀ p, Tot (x.2.2.1 p) fun _ => True) ∧ x.2.2.2.1 = 20 ∧ 0 ≤ x.2.2.2.2.1 ∧ x.2.2.2.2.2 = x.2.2.2.2.1 + 20 ∧ x.2.1 = x.1.length ∧ x.2.1 ≤ 1048576 ∧ x.2.2.2.2.1 ≤ x.2.1) : Tot (ud6_ x) (fun r : (List YY2) × Int => r.1.length = x.1.length ∧ (∀ q ∈ r.1, q ∈ x.1) ∧ 0 ≤ r.2 ∧ r.2 ≤ x.2.1) := by
 refine uv_ (R := fun r : (List YY2) × Int => r.1.length = x.1.length ∧ (∀ q ∈ r.1, q ∈ x.1) ∧ 0 ≤ r.2 ∧ r.2 ≤ x.2.1) (fun y : (List YY2) × Int × YY11 × Int × Int × Int => ((∀ p, Tot (y.2.2.1 p) fun _ => True) ∧ y.2.2.2.1 = 20 ∧ 0 ≤ y.2.2.2.2.1 ∧ y.2.2.2.2.2 = y.2.2.2.2.1 + 20 ∧ y.2.1 = y.1.length ∧ y.2.1 ≤ 1048576 ∧ y.2.2.2.2.1 ≤ y.2.1) ∧ y.2.1 = x.2.1 ∧ y.2.2.1 = x.2.2.1 ∧ y.2.2.2.1 = x.2.2.2.1 ∧ y.1.length = x.1.length ∧ ∀ q ∈ y.1, q ∈ x.1) (fun y : (List YY2) × Int × YY11 × Int × Int × Int => (y.2.1 - y.2.2.2.2.1).toNat) ?_ _ _ (by grind) (by unfold fuel; grind)
 rintro next ⟨data_0, n_1, cmp_2, blockSize_6, a_7, b_8⟩ h hn
 try dsimp only at h hn
 unfold ug1_
 repeat' first
  | with_reducible refine ug_.2 ⟨fun _ => ?_, fun _ => ?_⟩
  | with_reducible refine ua_.2 ?_
  | with_reducible refine ub_.2 ?_
  | with_reducible refine (uej_ _ ?_).mono fun _ _ => ?_
  | with_reducible refine hn _ ?_ ?_
  | dsimp only
 all_goals grind [un_, uh_, ud_, uy_, up_, u4_, u3_, u8le, uj_, uf_, uw_, ut_, ux_, List.length_cons, List.length_nil, List.mem_of_mem_take, List.mem_of_mem_drop]
theorem um0_ (x : (List YY2) × Int × YY11 × Int × Int × Int) (h : (∀ p, Tot (x.2.2.1 p) fun _ => True) ∧ 0 < x.2.2.2.1 ∧ x.2.2.2.1 < x.2.1 ∧ 0 ≤ x.2.2.2.2.1 ∧ x.2.2.2.2.2 = x.2.2.2.2.1 + 2 * x.2.2.2.1 ∧ x.2.1 = x.1.length ∧ x.2.1 ≤ 1048576 ∧ x.2.2.2.2.1 ≤ x.2.1) : Tot (ud7_ x) (fun r : (List YY2) × Int => r.1.length = x.1.length ∧ (∀ q ∈ r.1, q ∈ x.1) ∧ 0 ≤ r.2 ∧ r.2 ≤ x.2.1) := by
 refine uv_ (R := fun r : (List YY2) × Int => r.1.length = x.1.length ∧ (∀ q ∈ r.1, q ∈ x.1) ∧ 0 ≤ r.2 ∧ r.2 ≤ x.2.1) (fun y : (List YY2) × Int × YY11 × Int × Int × Int => ((∀ p, Tot (y.2.2.1 p) fun _ => True) ∧ 0 < y.2.2.2.1 ∧ y.2.2.2.1 < y.2.1 ∧ 0 ≤ y.2.2.2.2.1 ∧ y.2.2.2.2.2 = y.2.2.2.2.1 + 2 * y.2.2.2.1 ∧ y.2.1 = y.1.length ∧ y.2.1 ≤ 1048576 ∧ y.2.2.2.2.1 ≤ y.2.1) ∧ y.2.1 = x.2.1 ∧ y.2.2.1 = x.2.2.1 ∧ y.2.2.2.1 = x.2.2.2.1 ∧ y.1.length = x.1.length ∧ ∀ q ∈ y.1, q ∈ x.1) (fun y : (List YY2) × Int × YY11 × Int × Int × Int => (y.2.1 - y.2.2.2.2.1).toNat) ?_ _ _ (by grind) (by unfold fuel; grind)
 rintro next ⟨data_0, n_1, cmp_2, blockSize_6, a_7, b_8⟩ h hn
 try dsimp only at h hn
 unfold ug2_
 repeat' first
  | with_reducible refine ug_.2 ⟨fun _ => ?_, fun _ => ?_⟩
  | with_reducible refine ua_.2 ?_
  | with_reducible refine ub_.2 ?_
  | with_reducible refine (uf0_ _ ?_).mono fun _ _ => ?_
  | with_reducible refine hn _ ?_ ?_
  | dsimp only
 all_goals grind [un_, uh_, ud_, uy_, up_, u4_, u3_, u8le, uj_, uf_, uw_, ut_, ux_, List.length_cons, List.length_nil, List.mem_of_mem_take, List.mem_of_mem_drop]
theorem um1_ (x : (List YY2) × Int × YY11 × Int) (h : (∀ p, Tot (x.2.2.1 p) fun _ => True) ∧ 0 < x.2.2.2 ∧ x.2.2.2 ≤ 2097152 ∧ x.2.1 = x.1.length ∧ x.2.1 ≤ 1048576) : Tot (ud8_ x) (fun r : List YY2 => r.length = x.1.length ∧ (∀ q ∈ r, q ∈ x.1)) := by
 refine uv_ (R := fun r : List YY2 => r.length = x.1.length ∧ (∀ q ∈ r, q ∈ x.1)) (fun y : (List YY2) × Int × YY11 × Int => ((∀ p, Tot (y.2.2.1 p) fun _ => True) ∧ 0 < y.2.2.2 ∧ y.2.2.2 ≤ 2097152 ∧ y.2.1 = y.1.length ∧ y.2.1 ≤ 1048576) ∧ y.2.1 = x.2.1 ∧ y.2.2.1 = x.2.2.1 ∧ y.1.length = x.1.length ∧ ∀ q ∈ y.1, q ∈ x.1) (fun y : (List YY2) × Int × YY11 × Int => (2097153 - y.2.2.2).toNat) ?_ _ _ (by grind) (by unfold fuel; grind)
 rintro next ⟨data_0, n_1, cmp_2, blockSize_6⟩ h hn
 try dsimp only at h hn
 unfold ug3_
 repeat' first
  | with_reducible refine ug_.2 ⟨fun _ => ?_, fun _ => ?_⟩
  | with_reducible refine ua_.2 ?_
  | with_reducible refine ub_.2 ?_
  | with_reducible refine (um0_ _ ?_).mono fun _ _ => ?_
  | with_reducible refine (uf0_ _ ?_).mono fun _ _ => ?_
  | with_reducible refine hn _ ?_ ?_
  | dsimp only
 all_goals grind [un_, uh_, ud_, uy_, up_, u4_, u3_, u8le, uj_, uf_, uw_, ut_, ux_, List.length_cons, List.length_nil, List.mem_of_mem_take, List.mem_of_mem_drop]
theorem uo9_ (x : (List YY2) × Int × YY11) (h : (∀ p, Tot (x.2.2 p) fun _ => True) ∧ x.2.1 = x.1.length ∧ x.2.1 ≤ 1048576) : Tot (uco_ x) (fun r : List YY2 => r.length = x.1.length ∧ (∀ q ∈ r, q ∈ x.1)) := by
 obtain ⟨data_0, n_1, cmp_2⟩ := x
 try dsimp only at h ⊢
 unfold uco_
 repeat' first
  | with_reducible refine ua_.2 ?_
  | with_reducible refine ub_.2 ?_
  | with_reducible refine (umz_ _ ?_).mono fun _ _ => ?_
  | with_reducible refine (uej_ _ ?_).mono fun _ _ => ?_
  | with_reducible refine (um1_ _ ?_).mono fun _ _ => ?_
  | dsimp only
 all_goals grind [un_, uh_, ud_, uy_, up_, u4_, u3_, u8le, uj_, uf_, uw_, ut_, ux_, List.length_cons, List.length_nil, List.mem_of_mem_take, List.mem_of_mem_drop]
theorem un8_ (x : (List YY2) × YY11) (h : (∀ p, Tot (x.2 p) fun _ => True) ∧ x.1.length ≤ 1048576) : Tot (uci_ x) (fun r : List YY2 => r.length = x.1.length ∧ (∀ q ∈ r, q ∈ x.1)) := by
 obtain ⟨x_0, cmp_1⟩ := x
 try dsimp only at h ⊢
 unfold uci_
 repeat' first
  | with_reducible refine ua_.2 ?_
  | with_reducible refine ub_.2 ?_
  | with_reducible refine (uo9_ _ ?_).mono fun _ _ => ?_
  | dsimp only
 all_goals grind [un_, uh_, ud_, uy_, up_, u4_, u3_, u8le, uj_, uf_, uw_, ut_, ux_, List.length_cons, List.length_nil, List.mem_of_mem_take, List.mem_of_mem_drop]
theorem ubmp_ (x : Str) (h : True) : Tot (uke_ x) (fun r : Bool => True) := by
 unfold uke_
 repeat' first
  | with_reducible refine ub_.2 ?_
  | dsimp only
 all_goals grind [un_, uh_, ud_, uy_, up_, u4_, u3_, u8le, uj_, uf_, uw_, ut_, ux_, List.length_cons, List.length_nil, List.mem_of_mem_take, List.mem_of_mem_drop]
theorem uyw_ (x : Str × Str) (h : True) : Tot (ucc_ x) (fun r : Int => -1 ≤ r ∧ r ≤ 1) := by
 obtain ⟨x_0, y_1⟩ := x
 try dsimp only at h ⊢
 unfold ucc_
 repeat' first
  | with_reducible refine ug_.2 ⟨fun _ => ?_, fun _ => ?_⟩
  | with_reducible refine ua_.2 ?_
  | with_reducible refine ub_.2 ?_
  | with_reducible refine (ubmp_ _ ?_).mono fun _ _ => ?_
  | dsimp only
 all_goals grind [un_, uh_, ud_, uy_, up_, u4_, u3_, u8le, uj_, uf_, uw_, ut_, ux_, List.length_cons, List.length_nil, List.mem_of_mem_take, List.mem_of_mem_drop]
theorem ubv8_ (x : (Str × Str) × (Str × Str)) (h : True) : Tot (u9q_ x) (fun r : Int => True) := by
 obtain ⟨a_0, b_1⟩ := x
 try dsimp only at h ⊢
 unfold u9q_
 repeat' first
  | with_reducible refine ua_.2 ?_
  | with_reducible refine ub_.2 ?_
  | with_reducible refine (uyw_ _ ?_).mono fun _ _ => ?_
  | dsimp only
 all_goals grind [un_, uh_, ud_, uy_, up_, u4_, u3_, u8le, uj_, uf_, uw_, ut_, ux_, List.length_cons, List.length_nil, List.mem_of_mem_take, List.mem_of_mem_drop]
theorem ubmq_ (x : Str × Int × Int) (h : x.1.length ≤ 3000 ∧ x.2.1 = 0 ∧ x.2.2 = -1) : Tot (utt_ x) (fun r : YY12 × YY10 => r.1.2.2.2.2.1.length ≤ 1048576) := by
 unfold utt_
 obtain ⟨g1, g2, g3⟩ := h
 refine ua_.2 ((ubmn_ _ ⟨by dsimp only; omega, by dsimp only; omega, by dsimp only; omega⟩).mono fun r1 h1 => ?_)
 dsimp only at h1
 refine ug_.2 ⟨fun _ => ub_.2 (by simp), fun _ => ?_⟩
 refine ua_.2 ((u0n_ _ ⟨by rw [h1.1]; omega, h1.2.1, by rw [h1.1]; exact h1.2.2.1⟩).mono fun r2 h2 => ?_)
 obtain ⟨a1, a2, a3, a4, a5, a6⟩ := h2
 rw [h1.1] at a1 a3
 rw [ubm_ (by omega) (by omega)]
 refine ua_.2 (uo6_.2 ⟨⟨by omega, by omega, by omega⟩, ?_⟩)
 have hj : (Lib.join ((r2.1.take ((r2.1.length : Int) - 1).toNat).drop (0 : Int).toNat) [47]).length ≤ 1048577 * (1048576 + 1) := ub3r_ (fun s hs => a6 s (uw_ hs)) (by rw [ut_]; omega) (by simp)
 refine ua_.2 ((uk3_ _ ⟨by dsimp only; rw [ut_]; omega, by dsimp only; omega⟩).mono fun r4 h4 => ?_)
 refine ua_.2 (u8_.2 ⟨⟨by omega, by omega⟩, fun y5 hy5 => ?_⟩)
 refine ua_.2 (Tot.mono (P := fun r6 : Int => r6 = 0 ∨ r2.2.2.1 < r2.2.1.length) ?_ fun r6 h6 => ?_)
 · refine ug_.2 ⟨fun _ => (uge_ _ ⟨_, rfl, by omega⟩).mono fun r hr => ?_, fun _ => ub_.2 (Or.inl rfl)⟩
   rcases hr.2 with h | ⟨y, hy, h⟩
   · exact Or.inl h
   · cases hy; exact Or.inr h
 refine ua_.2 ((ubeh_ _ ⟨by dsimp only; rw [a1]; omega, by dsimp only; omega, by dsimp only; rw [a1]; omega, fun he => ?_, by simp⟩).mono fun r8 h8 => ?_)
 · dsimp only at he ⊢
   rcases h6 with h6 | h6
   · subst h6
     simp [up_] at he
   · exact h6
 dsimp only at h8
 obtain ⟨b1, b2, b3, b4, b5, b6, b7, b8⟩ := h8
 rw [a1] at b1 b3
 refine ua_.2 ((ubei_ _ ⟨by dsimp only; rw [b1]; omega, by dsimp only; omega, by dsimp only; rw [b1]; omega, ?_, by dsimp only; omega, ?_⟩).mono fun r13 h13 => ?_)
 · dsimp only; rw [b8]; simp; omega
 · dsimp only; rw [b8]; simp
 dsimp only at h13
 obtain ⟨c1, c2, c3, c4, c5, c6, c7, c8, c9, c10⟩ := h13
 rw [b1] at c1 c3
 refine ua_.2 (Tot.mono (P := fun r14 : Int => r14 = 0 ∨ r13.1.2.1 < r13.1.1.length) ?_ fun r14 h14 => ?_)
 · refine ug_.2 ⟨fun _ => (uge_ _ ⟨_, rfl, by omega⟩).mono fun r hr => ?_, fun _ => ub_.2 (Or.inl rfl)⟩
   rcases hr.2 with h | ⟨y, hy, h⟩
   · exact Or.inl h
   · cases hy; exact Or.inr h
 refine ua_.2 ((ubej_ _ ⟨by dsimp only; rw [c1]; omega, by dsimp only; omega, by dsimp only; rw [c1]; omega, fun he => ?_, ?_⟩).mono fun r17 h17 => ?_)
 · dsimp only at he ⊢
   rcases h14 with h14 | h14
   · subst h14
     simp [up_] at he
   · exact h14
 · dsimp only; rw [c8, b8]; simp
 dsimp only at h17
 obtain ⟨d1, d2, d3, d4, d5, d6, d7, d8, d9⟩ := h17
 refine ug_.2 ⟨fun _ => ua_.2 ((ugd_ _ trivial).mono fun r19 _ => ub_.2 ?_), fun _ => ub_.2 ?_⟩ <;>
 · dsimp only; rw [d8]; exact c9
theorem ubv9_ (x : YY15 × YY12 × Int) (h : 1 ≤ x.2.2 ∧ x.2.1.2.2.2.2.1.length ≤ 1048576) : Tot (ubk3_ x) (fun r : Sum (YY15 × YY12) (YY15 × Int × Int) => (∀ y, r = .inl y → y.2.2.2.2.2.1.length ≤ 1048576) ∧ ∀ y, r = .inr y → y.2.2 ≠ 0) := by
 refine uv_ (R := fun r : Sum (YY15 × YY12) (YY15 × Int × Int) => (∀ y, r = .inl y → y.2.2.2.2.2.1.length ≤ 1048576) ∧ ∀ y, r = .inr y → y.2.2 ≠ 0)
  (fun y : YY15 × YY12 × Int => 1 ≤ y.2.2 ∧ y.2.1.2.2.2.2.1.length ≤ 1048576) (fun y : YY15 × YY12 × Int => (y.2.1.2.2.2.2.1.length - y.2.2 : Int).toNat) ?_ _ _ h (by unfold fuel; omega)
 rintro next ⟨t2, p, i⟩ h hn
 dsimp only at h hn
 unfold ubuj_
 dsimp only
 refine ug_.2 ⟨fun hc => ?_, fun _ => ub_.2 ⟨fun y hy => by cases hy; exact h.2, fun y hy => by cases hy⟩⟩
 have hc := of_decide_eq_true hc
 rw [ubm_ (by omega) (by omega), ubm_ (by omega) (by omega)]
 refine ua_.2 (uft_.2 ⟨⟨by omega, by omega⟩, ?_⟩)
 refine ua_.2 (uft_.2 ⟨⟨by omega, by omega⟩, ?_⟩)
 refine ug_.2 ⟨fun _ => ub_.2 ⟨fun y hy => (by cases hy), fun y hy => (by cases hy; simp)⟩, fun _ => ?_⟩
 exact hn _ ⟨by dsimp only; omega, by dsimp only; omega⟩ (by dsimp only; omega)
theorem ub07_ (x : Str) (h : x.length ≤ 1048576) : Tot (ubtq_ x) (fun r : YY15 × Int × Int => r.2.2 = 0 → r.1.2.2.2.2.1.length ≤ 1048576) := by
 unfold ubtq_
 refine ug_.2 ⟨fun _ => ub_.2 (by simp), fun hc => ?_⟩
 have hc := of_decide_eq_false hc
 refine ua_.2 ((ubmq_ _ ⟨by dsimp only; omega, rfl, rfl⟩).mono fun r2 h2 => ?_)
 refine ug_.2 ⟨fun _ => ub_.2 (by simp), fun _ => ?_⟩
 refine ua_.2 ((uvg_ _ ⟨fun c => clo (ubv8_ c trivial), h2⟩).mono fun r4 h4 => ?_)
 refine ua_.2 ((ubv9_ _ ⟨by dsimp only; omega, by dsimp only; rw [h4.1]; exact h2⟩).mono fun r8 h8 => ?_)
 rcases r8 with y | y
 · have hy := h8.1 y rfl
   refine ua_.2 ((ubo8_ _ hy).mono fun r11 h11 => ?_)
   refine ug_.2 ⟨fun he => ub_.2 fun h0 => ?_, fun he => ?_⟩
   · dsimp only at h0
     rw [h0, up_] at he
     simp at he
   · rw [up_] at he
     have h0 : r11 = 0 := by simpa using he
     have hb := h11 h0
     refine ua_.2 ((u9c_ _ hb).mono fun r14 h14 => ub_.2 fun _ => ?_)
     have := h14.2.2.2.2.2.1
     dsimp only
     omega
 · exact ub_.2 fun h0 => absurd h0 (h8.2 y rfl)
theorem ubrl_ (x : Str) (h : x.length ≤ 1048576) : Tot (u0r_ x) (fun r : Bool => True) := by
 unfold u0r_
 repeat' first
  | with_reducible refine ug_.2 ⟨fun _ => ?_, fun _ => ?_⟩
  | with_reducible refine ua_.2 ?_
  | with_reducible refine ub_.2 ?_
  | with_reducible refine (ub07_ _ ?_).mono fun _ _ => ?_
  | with_reducible refine (ub2n_ _ ?_).mono fun _ _ => ?_
  | dsimp only
 all_goals grind [un_, uh_, ud_, uy_, up_, u4_, u3_, u8le, uj_, uf_, uw_, ut_, ux_, List.length_cons, List.length_nil, List.mem_of_mem_take, List.mem_of_mem_drop]
end Go.Ev.Pv
