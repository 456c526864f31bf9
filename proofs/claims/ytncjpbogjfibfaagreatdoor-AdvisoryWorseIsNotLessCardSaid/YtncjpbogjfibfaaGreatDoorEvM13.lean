/-
  Type assertions.
-/
import Derived.Test.YtncjpbogjfibfaaGreatDoorEvM12
set_option linter.unusedVariables false
set_option linter.unusedSimpArgs false
namespace Go.Ev

section
variable {P : Program} {fr : Fr} {free free' : Nat → Prop} {self : Nat} {σ σ' : Nat → Option Obj} {w w' : World} {G G' : Gh} {I : Im}

theorem castF_ok {a t : Ty} {g : a.T → t.T} (h : castF a t = some g) {y : a.T} {v : Value} (hr : VRel w I a y v) : VRel w I t (g y) v := by
  unfold castF at h
  split at h
  · rename_i hs
    have e := Ty.same_eq hs
    subst e
    have h := Option.some.inj h
    subst h
    exact hr
  · cases h

theorem project_ok {id : Nat} {t : Ty} : ∀ {u : Ty} {f : u.T → Option t.T} {y : u.T} {v : Value}, project id t u = some f → Rel w I u y [v] →
    (f y = none ∧ (v = .nilIface ∨ ∃ j x, v = .iface j x ∧ j ≠ id)) ∨ ∃ q x, f y = some q ∧ v = .iface id x ∧ VRel w I t q x := by
  intro u
  induction u with
  | inil =>
    intro f y v h hr
    have h := Option.some.inj h
    subst h
    have hr : [v] = [.nilIface] := hr
    exact .inl ⟨rfl, .inl (List.singleton_inj.1 hr)⟩
  | ialt j a r iha ihr =>
    intro f y v h hr
    simp only [project] at h
    split at h
    · rename_i fr hfr
      cases hb : Nat.beq id j with
      | true =>
        rw [hb] at h
        simp only [cond_true] at h
        have e := Nat.eq_of_beq_eq_true hb
        subst e
        split at h
        · rename_i g hg
          have h := Option.some.inj h
          subst h
          cases y with
          | inl z =>
            obtain ⟨x, c, h1, h2, h3⟩ := hr
            exact .inr ⟨g z, x, rfl, List.singleton_inj.1 h1, castF_ok hg ⟨c, h2, h3⟩⟩
          | inr z => exact ihr hfr hr.2
        · cases h
      | false =>
        rw [hb] at h
        simp only [cond_false] at h
        have h := Option.some.inj h
        subst h
        cases y with
        | inl z =>
          obtain ⟨x, c, h1, h2, h3⟩ := hr
          refine .inl ⟨rfl, .inr ⟨j, x, List.singleton_inj.1 h1, fun e => ?_⟩⟩
          rw [e, Nat.beq_refl] at hb; cases hb
        | inr z => exact ihr hfr hr.2
    · cases h
  | _ => intro f y v h; cases h

theorem project_cells {id : Nat} {t u : Ty} {f : u.T → Option t.T} {y : u.T} {v : Value} (h : project id t u = some f) (hr : VRel w I u y v) : Rel w I u y [v] := by
  obtain ⟨c, h1, h2⟩ := hr
  have : c = [v] := by
    cases u <;> first | exact h1 | cases h
  rw [← this]; exact h2

theorem Lay.conc {t : Ty} {id : Nat} (hl : Lay P t id) (ht : t.isIface = false) : ∃ d, P.underlying id = some d ∧ ∀ ms, d ≠ .interface ms := by
  cases t with
  | bool => exact ⟨_, hl.bool, fun _ h => by cases h⟩
  | int k => exact ⟨_, hl.int, fun _ h => by cases h⟩
  | str => exact ⟨_, hl.str, fun _ h => by cases h⟩
  | slice e => obtain ⟨_, h, _⟩ := hl.slice; exact ⟨_, h, fun _ h => by cases h⟩
  | agg p => obtain ⟨_, h, _⟩ := hl.agg; exact ⟨_, h, fun _ h => by cases h⟩
  | arr n e => obtain ⟨_, h, _⟩ := hl.arr; exact ⟨_, h, fun _ h => by cases h⟩
  | ptr e => obtain ⟨_, h, _⟩ := hl.ptr; exact ⟨_, h, fun _ h => by cases h⟩
  | map a b => obtain ⟨_, _, h, _⟩ := hl.map; exact ⟨_, h, fun _ h => by cases h⟩
  | unit => simp [Lay, layB] at hl
  | prod a b => simp [Lay, layB] at hl
  | inil => simp [Ty.isIface] at ht
  | ialt i a r =>
    obtain ⟨_, d, hd, hc⟩ := lay_one hl
    split at hc
    · rw [hc] at ht; cases ht
    · cases hc

theorem typeAssert_ok {t u : Ty} {id xt : Nat} (hl : Lay P t id) (ht : t.isIface = false) {f : u.T → Option t.T} {y : u.T} {v : Value} (hf : project id t u = some f) (hv : VRel w G.im u y v) :
    ∃ z, (Instr.typeAssert v xt id true).run P w = .ok z w ∧ SR P w G (.tup (.scons (.val t ((f y).getD t.dflt)) (.scons (.val .bool (f y).isSome) .snil))) z := by
  obtain ⟨d, hd, hn⟩ := hl.conc ht
  obtain ⟨zv, hz, hzr⟩ := zeroValue_ok (P := P) (w := w) (G := G) hl
  rcases project_ok hf (project_cells hf hv) with ⟨h1, h2⟩ | ⟨q, x, h1, rfl, h3⟩
  · have hrun : (Instr.typeAssert v xt id true).run P w = .ok (.tuple #[zv, .bool false]) w := by
      rcases h2 with rfl | ⟨j, x, rfl, hj⟩
      · cases d <;> first | exact absurd rfl (hn _) | simp [Instr.typeAssert, run_underlying hd, hz]
      · cases d <;> first | exact absurd rfl (hn _) | simp [Instr.typeAssert, run_underlying hd, hz, hj]
    refine ⟨_, hrun, _, rfl, _, rfl, _, _, rfl, ?_, _, _, rfl, ?_, rfl⟩
    · rw [h1]; exact hzr
    · rw [h1]; exact ⟨_, rfl, rfl⟩
  · have hrun : (Instr.typeAssert (.iface id x) xt id true).run P w = .ok (.tuple #[x, .bool true]) w := by
      cases d <;> first | exact absurd rfl (hn _) | simp [Instr.typeAssert, run_underlying hd]
    refine ⟨_, hrun, _, rfl, _, rfl, _, _, rfl, ?_, _, _, rfl, ?_, rfl⟩
    · rw [h1]; exact h3
    · rw [h1]; exact ⟨_, rfl, rfl⟩

end
end Go.Ev
