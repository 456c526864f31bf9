/-
  PLACES: what lies at a place of a box, and what a store leaves.
-/
import Derived.Test.YtncjpbogjfibfaaGreatDoorEvT
set_option linter.unusedVariables false
set_option linter.unusedSimpArgs false
namespace Go.Ev
section
variable {P : Program} {w : World} {G : Gh} {I : Im}

theorem Fit.len : ∀ {c : SV} {t : Ty} {cs : List Value}, Fit c t → CR P w G c cs → cs.length = t.sz := by
  intro c
  induction c with
  | val u y =>
    intro t cs hf hr
    have h1 : u.bare = t.bare := hf
    rw [Rel.length (show Rel w G.im u y cs from hr), ← Ty.sz_bare, h1, Ty.sz_bare]
  | pr a b iha ihb =>
    intro t cs hf hr
    obtain ⟨x, y, h1, h2, h3⟩ := hf
    obtain ⟨c, d, h4, h5, h6⟩ := hr
    rw [h4, List.length_append, iha h2 h5, ihb h3 h6, ← Ty.sz_bare t, h1]; rfl
  | obj k g => intro t cs hf hr; obtain ⟨v, _, _, h⟩ := hr; rw [h]; exact (show t.sz = 1 from hf).symm
  | ptr k p u => intro t cs hf hr; obtain ⟨b, t', o, _, _, _, h⟩ := hr; rw [h]; exact (show t.sz = 1 from hf).symm
  | nilS => intro t cs hf hr; rw [show cs = _ from hr]; exact (show t.sz = 1 from hf).symm
  | fn f c => intro t cs hf hr; obtain ⟨vs, h, _⟩ := hr; rw [h]; exact (show t.sz = 1 from hf).symm
  | hof d c F => intro t cs hf hr; obtain ⟨f, vs, h, _⟩ := hr; rw [h]; exact (show t.sz = 1 from hf).symm
  | nns e x =>
    intro t cs hf hr
    obtain ⟨_, ad, n, m, h⟩ := hr
    rw [h]; exact (show t.sz = 1 from hf).symm
  | _ => intro t cs hf; exact absurd hf (by simp [Fit])

theorem Ty.off_bare (t : Ty) (i : Bool) (r : List Bool) : t.off (i :: r) = t.bare.off (i :: r) := by cases t <;> rfl
theorem Ty.sub_bare (t : Ty) (i : Bool) (r : List Bool) : t.sub (i :: r) = t.bare.sub (i :: r) := by cases t <;> rfl

theorem halves_ok {c x y : SV} {t : Ty} {cs : List Value} (hf : Fit c t) (hr : CR P w G c cs) (hh : c.halves = some (x, y)) :
    ∃ tx ty c1 c2, t.bare = .prod tx ty ∧ Fit x tx ∧ Fit y ty ∧ cs = c1 ++ c2 ∧ CR P w G x c1 ∧ CR P w G y c2 ∧ c1.length = tx.sz ∧ c2.length = ty.sz := by
  cases c with
  | pr a b =>
    simp only [SV.halves, Option.some.injEq, Prod.mk.injEq] at hh
    obtain ⟨rfl, rfl⟩ := hh
    obtain ⟨u, v, h1, h2, h3⟩ := hf
    obtain ⟨c, d, h4, h5, h6⟩ := hr
    exact ⟨u, v, c, d, h1, h2, h3, h4, h5, h6, h2.len h5, h3.len h6⟩
  | val u z =>
    cases u with
    | prod a b =>
      simp only [SV.halves, Option.some.injEq, Prod.mk.injEq] at hh
      obtain ⟨rfl, rfl⟩ := hh
      obtain ⟨c, d, h4, h5, h6⟩ := hr
      exact ⟨a, b, c, d, (show (Ty.prod a b).bare = t.bare from hf).symm, rfl, rfl, h4, h5, h6, h5.length, h6.length⟩
    | agg q =>
      cases q with
      | prod a b =>
        simp only [SV.halves, Option.some.injEq, Prod.mk.injEq] at hh
        obtain ⟨rfl, rfl⟩ := hh
        obtain ⟨c, d, h4, h5, h6⟩ := (show Rel w G.im (.prod a b) z cs from hr)
        exact ⟨a, b, c, d, (show (Ty.agg (.prod a b)).bare = t.bare from hf).symm, rfl, rfl, h4, h5, h6, h5.length, h6.length⟩
      | _ => simp [SV.halves] at hh
    | _ => simp [SV.halves] at hh
  | _ => simp [SV.halves] at hh

theorem take_drop_left {c1 c2 : List Value} {o n : Nat} (h : o + n ≤ c1.length) : ((c1 ++ c2).drop o).take n = (c1.drop o).take n := by
  rw [List.drop_append_of_le_length (by omega), List.take_append_of_le_length (by simp; omega)]

theorem take_drop_right {c1 c2 : List Value} {o n : Nat} : ((c1 ++ c2).drop (c1.length + o)).take n = (c2.drop o).take n := by
  rw [List.drop_append, List.drop_of_length_le (by omega)]
  simp

theorem getAt_ok : ∀ {p : List Bool} {c s : SV} {t : Ty} {cs : List Value}, Fit c t → CR P w G c cs → c.getAt p = some s →
    ∃ o u, t.off p = some o ∧ t.sub p = some u ∧ Fit s u ∧ o + u.sz ≤ t.sz ∧ CR P w G s ((cs.drop o).take u.sz) := by
  intro p
  induction p with
  | nil =>
    intro c s t cs hf hr hg
    simp only [SV.getAt, Option.some.injEq] at hg
    subst hg
    refine ⟨0, t, by cases t <;> rfl, by cases t <;> rfl, hf, by omega, ?_⟩
    rw [List.drop_zero, List.take_of_length_le (by rw [hf.len hr]; omega)]
    exact hr
  | cons i r ih =>
    intro c s t cs hf hr hg
    simp only [SV.getAt] at hg
    cases hh : c.halves with
    | none => rw [hh] at hg; cases hg
    | some xy =>
      obtain ⟨x, y⟩ := xy
      rw [hh] at hg
      obtain ⟨tx, ty, c1, c2, h1, h2, h3, h4, h5, h6, h7, h8⟩ := halves_ok hf hr hh
      have hsz : t.sz = tx.sz + ty.sz := by rw [← Ty.sz_bare, h1]; rfl
      cases i with
      | false =>
        obtain ⟨o, u, k1, k2, k3, k4, k5⟩ := ih h2 h5 hg
        refine ⟨o, u, by rw [Ty.off_bare, h1]; exact k1, by rw [Ty.sub_bare, h1]; exact k2, k3, by omega, ?_⟩
        rw [h4, take_drop_left (by omega)]; exact k5
      | true =>
        obtain ⟨o, u, k1, k2, k3, k4, k5⟩ := ih h3 h6 hg
        refine ⟨tx.sz + o, u, by rw [Ty.off_bare, h1]; simp [Ty.off, k1], by rw [Ty.sub_bare, h1]; exact k2, k3, by omega, ?_⟩
        rw [h4, ← h7, take_drop_right]; exact k5

/-- Cells with some of them turned. -/
def splice (cs : List Value) (o : Nat) (ds : List Value) : List Value := cs.take o ++ (ds ++ cs.drop (o + ds.length))

theorem splice_left {c1 c2 ds : List Value} {o : Nat} (h : o + ds.length ≤ c1.length) : splice (c1 ++ c2) o ds = splice c1 o ds ++ c2 := by
  unfold splice
  rw [List.take_append_of_le_length (by omega), List.drop_append_of_le_length h]
  simp

theorem splice_right {c1 c2 ds : List Value} {o : Nat} : splice (c1 ++ c2) (c1.length + o) ds = c1 ++ splice c2 o ds := by
  unfold splice
  rw [List.take_append, List.take_of_length_le (by omega), List.drop_append, List.drop_of_length_le (by omega)]
  simp [Nat.add_assoc]

theorem splice_len {cs ds : List Value} {o : Nat} (h : o + ds.length ≤ cs.length) : (splice cs o ds).length = cs.length := by
  unfold splice; simp; omega

theorem setAt_ok : ∀ {p : List Bool} {c c' s : SV} {t u : Ty} {cs ds : List Value} {o : Nat}, Fit c t → CR P w G c cs → c.setAt p s = some c' →
    t.off p = some o → t.sub p = some u → Fit s u → CR P w G s ds →
    Fit c' t ∧ o + u.sz ≤ t.sz ∧ CR P w G c' (splice cs o ds) := by
  intro p
  induction p with
  | nil =>
    intro c c' s t u cs ds o hf hr hs ho hu hfs hrs
    simp only [SV.setAt, Option.some.injEq] at hs
    subst hs
    have hu' : t = u := by cases t <;> exact Option.some.inj hu
    subst hu'
    have ho' : 0 = o := by cases t <;> exact Option.some.inj ho
    subst ho'
    refine ⟨hfs, by omega, ?_⟩
    have : splice cs 0 ds = ds := by
      unfold splice
      rw [List.drop_of_length_le (by rw [hf.len hr, hfs.len hrs]; omega)]; simp
    rw [this]; exact hrs
  | cons i r ih =>
    intro c c' s t u cs ds o hf hr hs ho hu hfs hrs
    simp only [SV.setAt] at hs
    cases hh : c.halves with
    | none => rw [hh] at hs; cases hs
    | some xy =>
      obtain ⟨x, y⟩ := xy
      rw [hh] at hs
      obtain ⟨tx, ty, c1, c2, h1, h2, h3, h4, h5, h6, h7, h8⟩ := halves_ok hf hr hh
      have hsz : t.sz = tx.sz + ty.sz := by rw [← Ty.sz_bare, h1]; rfl
      rw [Ty.off_bare, h1] at ho
      rw [Ty.sub_bare, h1] at hu
      have hds := hfs.len hrs
      cases i with
      | false =>
        simp only [cond_false] at hs
        cases hx : x.setAt r s with
        | none => rw [hx] at hs; cases hs
        | some x' =>
          rw [hx] at hs
          simp only [Option.map_some, Option.some.injEq] at hs
          subst hs
          obtain ⟨k1, k2, k3⟩ := ih h2 h5 hx ho hu hfs hrs
          refine ⟨⟨tx, ty, h1, k1, h3⟩, by omega, _, _, ?_, k3, h6⟩
          rw [h4, splice_left (by omega)]
      | true =>
        simp only [cond_true] at hs
        cases hy : y.setAt r s with
        | none => rw [hy] at hs; cases hs
        | some y' =>
          rw [hy] at hs
          simp only [Option.map_some, Option.some.injEq] at hs
          subst hs
          simp only [Ty.off, cond_true] at ho
          cases ho' : ty.off r with
          | none => rw [ho'] at ho; cases ho
          | some o' =>
            rw [ho'] at ho
            simp only [Option.map_some, Option.some.injEq] at ho
            subst ho
            obtain ⟨k1, k2, k3⟩ := ih h3 h6 hy ho' hu hfs hrs
            refine ⟨⟨tx, ty, h1, h2, k1⟩, by omega, _, _, ?_, h5, k3⟩
            rw [h4, ← h7, splice_right]

theorem at_ok : ∀ {t : Ty} {p : List Bool} {x : t.T} {u : Ty} {y : u.T} {cs : List Value}, Rel w I t x cs → Ty.at t p x = some ⟨u, y⟩ →
    ∃ o, t.off p = some o ∧ t.sub p = some u ∧ o + u.sz ≤ t.sz ∧ Rel w I u y ((cs.drop o).take u.sz) := by
  intro t
  have base : ∀ {t : Ty} {x : t.T} {u : Ty} {y : u.T} {cs : List Value}, Rel w I t x cs → (some ⟨t, x⟩ : Option ((u : Ty) × u.T)) = some ⟨u, y⟩ →
      ∃ o, t.off [] = some o ∧ t.sub [] = some u ∧ o + u.sz ≤ t.sz ∧ Rel w I u y ((cs.drop o).take u.sz) := by
    intro t x u y cs hr h
    cases h
    refine ⟨0, by cases t <;> rfl, by cases t <;> rfl, by omega, ?_⟩
    rw [List.drop_zero, List.take_of_length_le (by rw [hr.length]; omega)]; exact hr
  have step : ∀ {a b : Ty} (iha : ∀ {p : List Bool} {x : a.T} {u : Ty} {y : u.T} {cs : List Value}, Rel w I a x cs → Ty.at a p x = some ⟨u, y⟩ →
        ∃ o, a.off p = some o ∧ a.sub p = some u ∧ o + u.sz ≤ a.sz ∧ Rel w I u y ((cs.drop o).take u.sz))
      (ihb : ∀ {p : List Bool} {x : b.T} {u : Ty} {y : u.T} {cs : List Value}, Rel w I b x cs → Ty.at b p x = some ⟨u, y⟩ →
        ∃ o, b.off p = some o ∧ b.sub p = some u ∧ o + u.sz ≤ b.sz ∧ Rel w I u y ((cs.drop o).take u.sz))
      {i : Bool} {r : List Bool} {x : a.T × b.T} {u : Ty} {y : u.T} {cs : List Value}, Rel w I (.prod a b) x cs →
      (bif i then Ty.at b r x.2 else Ty.at a r x.1) = some ⟨u, y⟩ →
      ∃ o, (Ty.prod a b).off (i :: r) = some o ∧ (Ty.prod a b).sub (i :: r) = some u ∧ o + u.sz ≤ (Ty.prod a b).sz ∧ Rel w I u y ((cs.drop o).take u.sz) := by
    intro a b iha ihb i r x u y cs hr h
    obtain ⟨c1, c2, h1, h2, h3⟩ := hr
    have hsz : (Ty.prod a b).sz = a.sz + b.sz := rfl
    cases i with
    | false =>
      obtain ⟨o, k1, k2, k3, k4⟩ := iha h2 h
      refine ⟨o, k1, k2, by omega, ?_⟩
      rw [h1, take_drop_left (by rw [h2.length]; omega)]; exact k4
    | true =>
      obtain ⟨o, k1, k2, k3, k4⟩ := ihb h3 h
      refine ⟨a.sz + o, by simp [Ty.off, k1], k2, by omega, ?_⟩
      rw [h1, ← h2.length, take_drop_right]; exact k4
  induction t with
  | prod a b iha ihb =>
    intro p x u y cs hr h
    cases p with
    | nil => exact base hr h
    | cons i r => exact step iha ihb hr h
  | agg q ih =>
    intro p x u y cs hr h
    cases p with
    | nil => exact base hr h
    | cons i r =>
      cases q with
      | prod a b =>
        have h' : Ty.at (.prod a b) (i :: r) x = some ⟨u, y⟩ := h
        obtain ⟨o, k1, k2, k3, k4⟩ := ih (p := i :: r) (show Rel w I (.prod a b) x cs from hr) h'
        exact ⟨o, k1, k2, k3, k4⟩
      | _ => simp [Ty.at] at h
  | _ =>
    intro p x u y cs hr h
    cases p with
    | nil => exact base hr h
    | cons i r => simp [Ty.at] at h

theorem put_ok : ∀ {t : Ty} {p : List Bool} {x z : t.T} {u : Ty} {y : u.T} {cs ds : List Value} {o : Nat}, Rel w I t x cs → Ty.put t p x u y = some z →
    t.off p = some o → Rel w I u y ds → t.sub p = some u ∧ o + u.sz ≤ t.sz ∧ Rel w I t z (splice cs o ds) := by
  intro t
  have base : ∀ {t : Ty} {x z : t.T} {u : Ty} {y : u.T} {cs ds : List Value} {o : Nat}, Rel w I t x cs → Ty.cast? u t y = some z → t.off [] = some o → Rel w I u y ds →
      t.sub [] = some u ∧ o + u.sz ≤ t.sz ∧ Rel w I t z (splice cs o ds) := by
    intro t x z u y cs ds o hr h ho hd
    have ho' : 0 = o := by cases t <;> exact Option.some.inj ho
    subst ho'
    have hd' := Rel.cast h hd
    obtain ⟨e, he⟩ := Ty.cast?_some h
    subst e
    refine ⟨by cases u <;> rfl, by omega, ?_⟩
    have : splice cs 0 ds = ds := by
      unfold splice
      rw [List.drop_of_length_le (by rw [hr.length, hd.length]; omega)]; simp
    rw [this]; exact hd'
  have step : ∀ {a b : Ty} (iha : ∀ {p : List Bool} {x z : a.T} {u : Ty} {y : u.T} {cs ds : List Value} {o : Nat}, Rel w I a x cs → Ty.put a p x u y = some z →
        a.off p = some o → Rel w I u y ds → a.sub p = some u ∧ o + u.sz ≤ a.sz ∧ Rel w I a z (splice cs o ds))
      (ihb : ∀ {p : List Bool} {x z : b.T} {u : Ty} {y : u.T} {cs ds : List Value} {o : Nat}, Rel w I b x cs → Ty.put b p x u y = some z →
        b.off p = some o → Rel w I u y ds → b.sub p = some u ∧ o + u.sz ≤ b.sz ∧ Rel w I b z (splice cs o ds))
      {i : Bool} {r : List Bool} {x z : a.T × b.T} {u : Ty} {y : u.T} {cs ds : List Value} {o : Nat}, Rel w I (.prod a b) x cs →
      (bif i then (Ty.put b r x.2 u y).map (fun z => (x.1, z)) else (Ty.put a r x.1 u y).map (fun z => (z, x.2))) = some z →
      (Ty.prod a b).off (i :: r) = some o → Rel w I u y ds →
      (Ty.prod a b).sub (i :: r) = some u ∧ o + u.sz ≤ (Ty.prod a b).sz ∧ Rel w I (.prod a b) z (splice cs o ds) := by
    intro a b iha ihb i r x z u y cs ds o hr h ho hd
    obtain ⟨c1, c2, h1, h2, h3⟩ := hr
    have hsz : (Ty.prod a b).sz = a.sz + b.sz := rfl
    have hdl := hd.length
    cases i with
    | false =>
      simp only [cond_false] at h
      cases hq : Ty.put a r x.1 u y with
      | none => rw [hq] at h; cases h
      | some q =>
        rw [hq] at h
        simp only [Option.map_some, Option.some.injEq] at h
        subst h
        obtain ⟨k1, k2, k3⟩ := iha h2 hq ho hd
        refine ⟨k1, by omega, _, _, ?_, k3, h3⟩
        rw [h1, splice_left (by rw [h2.length]; omega)]
    | true =>
      simp only [cond_true] at h
      cases hq : Ty.put b r x.2 u y with
      | none => rw [hq] at h; cases h
      | some q =>
        rw [hq] at h
        simp only [Option.map_some, Option.some.injEq] at h
        subst h
        simp only [Ty.off, cond_true] at ho
        cases ho' : b.off r with
        | none => rw [ho'] at ho; cases ho
        | some o' =>
          rw [ho'] at ho
          simp only [Option.map_some, Option.some.injEq] at ho
          subst ho
          obtain ⟨k1, k2, k3⟩ := ihb h3 hq ho' hd
          refine ⟨k1, by omega, _, _, ?_, h2, k3⟩
          rw [h1, ← h2.length, splice_right]
  induction t with
  | prod a b iha ihb =>
    intro p x z u y cs ds o hr h ho hd
    cases p with
    | nil => exact base hr h ho hd
    | cons i r => exact step iha ihb hr h ho hd
  | agg q ih =>
    intro p x z u y cs ds o hr h ho hd
    cases p with
    | nil => exact base hr h ho hd
    | cons i r =>
      cases q with
      | prod a b =>
        have h' : Ty.put (.prod a b) (i :: r) x u y = some z := h
        exact ih (p := i :: r) (show Rel w I (.prod a b) x cs from hr) h' ho hd
      | _ => simp [Ty.put] at h
  | _ =>
    intro p x z u y cs ds o hr h ho hd
    cases p with
    | nil => exact base hr h ho hd
    | cons i r => simp [Ty.put] at h

end
end Go.Ev
