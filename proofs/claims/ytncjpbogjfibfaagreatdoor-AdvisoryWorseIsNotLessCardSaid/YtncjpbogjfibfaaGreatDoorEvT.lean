/-
  DATA TAKEN OUT OF VALUES, AND PARTS OF THEM.
-/
import Derived.Test.YtncjpbogjfibfaaGreatDoorEvS
set_option linter.unusedVariables false
set_option linter.unusedSimpArgs false
namespace Go.Ev
section
variable {P : Program} {w : World} {G : Gh} {I : Im}

theorem Rel.cast {t u : Ty} {x : t.T} {y : u.T} {cs : List Value} (h : Ty.cast? t u x = some y) (hr : Rel w I t x cs) : Rel w I u y cs := by
  obtain ⟨e, he⟩ := Ty.cast?_some h
  subst e; subst he; exact hr

theorem VRel.cast {t u : Ty} {x : t.T} {y : u.T} {v : Value} (h : Ty.cast? t u x = some y) (hr : VRel w I t x v) : VRel w I u y v := by
  obtain ⟨e, he⟩ := Ty.cast?_some h
  subst e; subst he; exact hr

theorem Rel.iface_dflt : ∀ {t : Ty}, t.isIface = true → Rel w I t t.dflt [.nilIface] := by
  intro t
  induction t with
  | inil => intro _; rfl
  | ialt i a r iha ihr => intro h; exact ⟨rfl, ihr h⟩
  | _ => intro h; exact absurd h (by simp [Ty.isIface])

theorem asCells_one {t : Ty} {v : Value} (h : t.isIface = true) : asCells t v [v] := by
  cases t <;> first | rfl | (simp [Ty.isIface] at h)

theorem as_ok {t : Ty} {s : SV} {x : t.T} {v : Value} (hs : s.as t = some x) (hr : SR P w G s v) : VRel w G.im t x v := by
  obtain ⟨c, h1, h2⟩ := hr
  cases s with
  | val u y => exact VRel.cast hs ⟨c, h1, h2⟩
  | nilS =>
    cases t with
    | slice e =>
      have hx : x = ([] : List e.T) := (Option.some.inj hs).symm
      subst hx
      refine ⟨c, h1, ?_⟩
      rw [show c = _ from h2]
      exact ⟨none, 0, rfl, ⟨Nat.le_refl _, Nat.zero_le _⟩, fun _ => ⟨rfl, rfl⟩, fun ad h => by cases h⟩
    | _ => simp [SV.as] at hs
  | nilP =>
    cases t with
    | ptr e =>
      have hx : x = (none : Option e.T) := (Option.some.inj hs).symm
      subst hx
      exact ⟨c, h1, h2⟩
    | _ => simp [SV.as] at hs
  | nilI =>
    simp only [SV.as] at hs
    split at hs
    · rename_i hi
      simp only [Option.some.injEq] at hs
      subst hs
      have h1' : c = [v] := h1
      have h2' : c = [.nilIface] := h2
      rw [h1'] at h2'
      injection h2' with h3 _
      subst h3
      exact ⟨_, asCells_one hi, Rel.iface_dflt hi⟩
    · cases hs
  | ref u y =>
    cases t with
    | ptr e =>
      simp only [SV.as] at hs
      cases hc : Ty.cast? u e y with
      | none => rw [hc] at hs; cases hs
      | some z =>
        rw [hc] at hs
        have hx : x = (some z : Option e.T) := (Option.some.inj hs).symm
        subst hx
        obtain ⟨ad, d, h3, h4, h5, h6⟩ := h2
        obtain ⟨ee, he⟩ := Ty.cast?_some hc
        subst ee; subst he
        exact ⟨c, h1, ad, h3, h4, d, h5, h6⟩
    | _ => simp [SV.as] at hs
  | nns e y => exact VRel.cast hs ⟨c, h1, h2.1⟩
  | _ => simp [SV.as] at hs

/-- What a handle stands for, as data that no more turn. -/
theorem sl_rel {fr : Fr} {el : Nat} {t : Ty} {xs : List t.T} {v : Value} (h : SlOK fr w I el t xs false v) : Rel w I (.slice t) xs [v] := by
  rcases h with ⟨rfl, rfl⟩ | ⟨b, cap, cs, rfl, h1, h2, h3, h4, _, _, h5, _⟩
  · exact ⟨none, 0, rfl, ⟨Nat.le_refl _, Nat.zero_le _⟩, fun _ => ⟨rfl, rfl⟩, fun ad h => by cases h⟩
  · refine ⟨some ⟨b, 0, none⟩, cap, rfl, h1, (fun h => by cases h), fun ad had => ?_⟩
    cases had
    refine ⟨rfl, fun i x hx => ⟨_, ⟨?_, fun j hj => ?_⟩, h4 i x hx⟩⟩
    · exact (h4 i x hx).length
    · have hi : i < xs.length := (List.getElem?_eq_some_iff.1 hx).1
      have hb : i * t.sz + j < xs.length * t.sz := by
        have : (i + 1) * t.sz ≤ xs.length * t.sz := Nat.mul_le_mul_right _ hi
        rw [Nat.succ_mul] at this; omega
      refine ⟨(h5 rfl _).1 (by simpa using hb), ?_⟩
      simp only [World.cell?, h2, Option.isSome_none, Bool.false_eq_true, if_false, Nat.zero_add]
      rw [List.getElem?_take, if_pos hj, List.getElem?_drop, Array.getElem?_toList]

/-- A map that no more turns, as data. -/
theorem mp_rel {fr : Fr} {a b : Ty} {es : List (a.T × b.T)} {v : Value} (h : MpOK fr w I a b es false v) : Rel w I (.map a b) es [v] := by
  obtain ⟨b', ents, clock, rfl, h1, h2, h3, h4, _⟩ := h
  refine ⟨some b', rfl, (fun h => by cases h), fun b2 hb2 => ?_⟩
  cases hb2
  exact ⟨h4.2 rfl, ents, clock, h1, h2, fun i x e hx he => h3 i x e hx he⟩

theorem viewA_ok {fr : Fr} {σ : Nat → Option Obj} (ho : ∀ k o, σ k = some o → ObjOK P fr w G k o) {k g : Nat} {t : Ty} {x : t.T} {v : Value}
    (hs : viewA σ k g t = some x) (hv : G.val k g = some v) : Rel w G.im t x [v] := by
  unfold viewA at hs
  split at hs
  · rename_i id e xs g' wr hk
    split at hs
    · rename_i hg
      simp only [Bool.and_eq_true, Bool.not_eq_true'] at hg
      have hgg := Nat.eq_of_beq_eq_true hg.1
      subst hgg
      have hw : wr = false := hg.2
      subst hw
      obtain ⟨_, v', h1, h2⟩ := ho k _ hk
      rw [hv] at h1
      cases h1
      exact Rel.cast hs (sl_rel h2)
    · cases hs
  · rename_i a b es wr hk
    split at hs
    · rename_i hg
      simp only [Bool.and_eq_true, Bool.not_eq_true'] at hg
      have hgg := Nat.eq_of_beq_eq_true hg.1
      subst hgg
      have hw : wr = false := hg.2
      subst hw
      obtain ⟨v', h1, h2⟩ := ho k _ hk
      rw [hv] at h1
      cases h1
      exact Rel.cast hs (mp_rel h2)
    · cases hs
  · cases hs

theorem asCells_of_map {a b : Ty} {es : List (a.T × b.T)} {u : Ty} {y : u.T} {v : Value} (h : Ty.cast? (.map a b) u es = some y) : asCells u v [v] := by
  obtain ⟨e, _⟩ := Ty.cast?_some h
  subst e; rfl

theorem asCells_of_slice {t : Ty} {xs : List t.T} {u : Ty} {y : u.T} {v : Value} (h : Ty.cast? (.slice t) u xs = some y) : asCells u v [v] := by
  obtain ⟨e, _⟩ := Ty.cast?_some h
  subst e; rfl

theorem viewA_cells {σ : Nat → Option Obj} {k g : Nat} {t : Ty} {x : t.T} {v : Value} (hs : viewA σ k g t = some x) : asCells t v [v] := by
  unfold viewA at hs
  split at hs
  · split at hs
    · exact asCells_of_slice hs
    · cases hs
  · split at hs
    · exact asCells_of_map hs
    · cases hs
  · cases hs

theorem asV_eq {σ : Nat → Option Obj} {t : Ty} {s : SV} (h : ∀ k g, s ≠ .obj k g) : s.asV σ t = s.as t := by
  cases s <;> first | rfl | exact absurd rfl (h _ _)

theorem asV_ok {fr : Fr} {σ : Nat → Option Obj} (ho : ∀ k o, σ k = some o → ObjOK P fr w G k o) {t : Ty} {s : SV} {x : t.T} {v : Value}
    (hs : s.asV σ t = some x) (hr : SR P w G s v) : VRel w G.im t x v := by
  cases s with
  | obj k g =>
    obtain ⟨c, h1, v', h2, _, h3⟩ := hr
    have h1' : c = [v] := h1
    rw [h1'] at h3
    injection h3 with h4 _
    subst h4
    have hs' : viewA σ k g t = some x := hs
    exact ⟨_, viewA_cells hs', viewA_ok ho hs' h2⟩
  | _ => rw [asV_eq (by intro k g h; cases h)] at hs; exact as_ok hs hr

/-- At a leaf of a box the cells are the value's. -/
theorem cr_of_val {u : Ty} {y : u.T} {cs : List Value} (h : CR P w G (.val u y) cs) : Rel w G.im u y cs := h

theorem as_cells {t : Ty} {s : SV} {x : t.T} {cs : List Value} (hs : s.as t = some x) (hr : CR P w G s cs) : Rel w G.im t x cs := by
  cases s with
  | val u y => exact Rel.cast hs hr
  | nilS =>
    have hc : cs = [.slice none 0 0] := hr
    obtain ⟨c, h1, h2⟩ := as_ok (P := P) (w := w) (G := G) hs (v := .slice none 0 0) ⟨_, rfl, rfl⟩
    cases t with
    | slice e => subst hc; rw [show c = [_] from h1] at h2; exact h2
    | _ => simp [SV.as] at hs
  | nilP =>
    have hc : cs = [.pointer none] := hr
    obtain ⟨c, h1, h2⟩ := as_ok (P := P) (w := w) (G := G) hs (v := .pointer none) ⟨_, rfl, rfl⟩
    cases t with
    | ptr e => subst hc; rw [show c = [_] from h1] at h2; exact h2
    | _ => simp [SV.as] at hs
  | nilI =>
    have hc : cs = [.nilIface] := hr
    simp only [SV.as] at hs
    split at hs
    · rename_i hi
      simp only [Option.some.injEq] at hs
      subst hs hc
      exact Rel.iface_dflt hi
    · cases hs
  | ref u y =>
    obtain ⟨ad, d, h3, h4, h5, h6⟩ := hr
    obtain ⟨c, h1, h2⟩ := as_ok (P := P) (w := w) (G := G) hs (v := .pointer (some ad)) ⟨_, rfl, ad, d, rfl, h4, h5, h6⟩
    cases t with
    | ptr e => subst h3; rw [show c = [_] from h1] at h2; exact h2
    | _ => simp [SV.as] at hs
  | nns e y => exact Rel.cast hs hr.1
  | _ => simp [SV.as] at hs

theorem asV_cells {fr : Fr} {σ : Nat → Option Obj} (ho : ∀ k o, σ k = some o → ObjOK P fr w G k o) {t : Ty} {s : SV} {x : t.T} {cs : List Value}
    (hs : s.asV σ t = some x) (hr : CR P w G s cs) : Rel w G.im t x cs := by
  cases s with
  | obj k g =>
    obtain ⟨v, h1, _, h2⟩ := hr
    rw [h2]; exact viewA_ok ho hs h1
  | _ => rw [asV_eq (by intro k g h; cases h)] at hs; exact as_cells hs hr

theorem castBare_ok {u p : Ty} {y : u.T} {x : p.T} {cs : List Value} (h : castBare u p y = some x) (hr : Rel w I u y cs) : Rel w I p x cs := by
  cases u with
  | agg q => exact Rel.cast (t := q) h hr
  | _ => exact Rel.cast h hr

theorem asL_eq {σ : Nat → Option Obj} {t : Ty} {s : SV} (h : ∀ u x, s ≠ .val u x) : s.asL σ t = s.asV σ t := by
  cases s <;> first | rfl | exact absurd rfl (h _ _)

theorem asL_ok {fr : Fr} {σ : Nat → Option Obj} (ho : ∀ k o, σ k = some o → ObjOK P fr w G k o) {t : Ty} {s : SV} {x : t.T} {cs : List Value}
    (hs : s.asL σ t = some x) (hr : CR P w G s cs) : Rel w G.im t x cs := by
  cases s with
  | val u y => exact castBare_ok (p := t) hs hr
  | _ => rw [asL_eq (by intro k g h; cases h)] at hs; exact asV_cells ho hs hr

theorem castL_ok {u t : Ty} {y : u.T} {x : t.T} {cs : List Value} (h : castL u t y = some x) (hr : Rel w I u y cs) : Rel w I t x cs := by
  unfold castL at h
  split at h
  · exact Rel.cast h hr
  · exact castBare_ok h hr

theorem asC_ok {fr : Fr} {σ : Nat → Option Obj} (ho : ∀ k o, σ k = some o → ObjOK P fr w G k o) : ∀ {t : Ty} {s : SV} {x : t.T} {cs : List Value},
    s.asC σ t = some x → CR P w G s cs → Rel w G.im t x cs := by
  intro t
  induction t with
  | prod a b iha ihb =>
    intro s x cs hs hr
    simp only [SV.asC] at hs
    split at hs
    · split at hs
      · rename_i p q hp hq
        have hx := Option.some.inj hs
        subst hx
        obtain ⟨c, d, h1, h2, h3⟩ := hr
        exact ⟨c, d, h1, iha hp h2, ihb hq h3⟩
      · cases hs
    · exact castBare_ok (p := .prod a b) hs hr
    · exact as_cells hs hr
  | agg p ih =>
    intro s x cs hs hr
    simp only [SV.asC] at hs
    show Rel w G.im p x cs
    cases s with
    | val u y => exact castBare_ok (p := p) hs hr
    | _ => exact ih hs hr
  | _ =>
    intro s x cs hs hr
    exact asL_ok ho hs hr
end
end Go.Ev
