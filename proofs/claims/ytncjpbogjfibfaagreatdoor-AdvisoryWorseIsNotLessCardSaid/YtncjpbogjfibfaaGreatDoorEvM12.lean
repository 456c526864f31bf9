/-
  Interfaces, min, max, function values, nil checks, further conversions.
-/
import Derived.Test.YtncjpbogjfibfaaGreatDoorEvM11
set_option linter.unusedVariables false
set_option linter.unusedSimpArgs false
namespace Go.Ev

section
variable {P : Program} {fr : Fr} {free free' : Nat → Prop} {self : Nat} {σ σ' : Nat → Option Obj} {w w' : World} {G G' : Gh} {I : Im}

theorem inject_ok {id : Nat} {t : Ty} {x : t.T} {v : Value} (h : VRel w I t x v) : ∀ {u : Ty} {y : u.T}, inject id t x u = some y → Rel w I u y [.iface id v] := by
  intro u
  induction u with
  | ialt j a r iha ihr =>
    intro y hy
    simp only [inject] at hy
    cases hb : Nat.beq id j with
    | true =>
      rw [hb] at hy
      simp only [cond_true] at hy
      have := Nat.eq_of_beq_eq_true hb
      subst this
      cases hc : Ty.cast? t a x with
      | none => rw [hc] at hy; cases hy
      | some z =>
        rw [hc] at hy
        have hy := Option.some.inj hy
        subst hy
        obtain ⟨c, h1, h2⟩ := VRel.cast hc h
        exact ⟨v, c, rfl, h1, h2⟩
    | false =>
      rw [hb] at hy
      simp only [cond_false] at hy
      cases hc : inject id t x r with
      | none => rw [hc] at hy; cases hy
      | some z =>
        rw [hc] at hy
        have hy := Option.some.inj hy
        subst hy
        exact ⟨rfl, ihr hc⟩
  | _ => intro y hy; simp [inject] at hy

theorem inject_iface {id : Nat} {t : Ty} {x : t.T} : ∀ {u : Ty} {y : u.T}, inject id t x u = some y → ∀ v : Value, slotCells (.val u y) v [v] := by
  intro u y h v
  cases u <;> first | exact rfl | (simp [inject] at h; done)

theorem makeInterface_ok {t u : Ty} {id : Nat} (hl : Lay P t id) (ht : t.isIface = false) {x : t.T} {y : u.T} {v : Value} (h : VRel w G.im t x v) (hy : inject id t x u = some y) :
    ∃ z, (Instr.makeInterface id v).run P w = .ok z w ∧ SR P w G (.val u y) z := by
  have hrun : (Instr.makeInterface id v).run P w = .ok (.iface id v) w := by
    have key : ∃ d, P.underlying id = some d ∧ ∀ ms, d ≠ .interface ms := by
      cases t with
      | bool => exact ⟨_, hl.bool, fun _ h => by cases h⟩
      | int k => exact ⟨_, hl.int, fun _ h => by cases h⟩
      | str => exact ⟨_, hl.str, fun _ h => by cases h⟩
      | slice e => obtain ⟨_, h, _⟩ := hl.slice; exact ⟨_, h, fun _ h => by cases h⟩
      | agg p => obtain ⟨_, h, _⟩ := hl.agg; exact ⟨_, h, fun _ h => by cases h⟩
      | arr n e => obtain ⟨_, h, _⟩ := hl.arr; exact ⟨_, h, fun _ h => by cases h⟩
      | ptr e => obtain ⟨_, h, _⟩ := hl.ptr; exact ⟨_, h, fun _ h => by cases h⟩
      | map a b => obtain ⟨_, _, h, _⟩ := hl.map; exact ⟨_, h, fun _ h => by cases h⟩
      | unit => simp [Lay, layB] at hl
      | prod a b => simp [Lay, layB] at hl
      | inil => simp [Ty.isIface] at ht
      | ialt i a r =>
        obtain ⟨_, d, hd, hc⟩ := lay_one hl
        split at hc
        · rw [hc] at ht; cases ht
        · cases hc
    obtain ⟨d, hd, hn⟩ := key
    simp only [Instr.makeInterface, Sem.run_bind, run_underlying hd, Result.andThen_ok]
    cases d <;> first | rfl | exact absurd rfl (hn _)
  exact ⟨_, hrun, _, inject_iface hy _, inject_ok h hy⟩

theorem minI_ok {k : IntKind} {a b : Int} (ts : Array TypeId) (ty : Nat) (ha : inKind k a) (hb : inKind k b) :
    ∃ z, (Builtin.min_ ts ty #[.int k a, .int k b]).run P w = .ok z w ∧ SR P w G (.val (.int k) (minI a b)) z := by
  refine ⟨.int k (if b < a then b else a), by simp [Builtin.min_, Builtin.min2], ?_⟩
  unfold minI
  by_cases h : b < a
  · simp only [if_pos h, decide_eq_true h, cond_true]; exact SR.mk_int hb
  · simp only [if_neg h, decide_eq_false h, cond_false]; exact SR.mk_int ha

theorem maxI_ok {k : IntKind} {a b : Int} (ts : Array TypeId) (ty : Nat) (ha : inKind k a) (hb : inKind k b) :
    ∃ z, (Builtin.max_ ts ty #[.int k a, .int k b]).run P w = .ok z w ∧ SR P w G (.val (.int k) (maxI a b)) z := by
  refine ⟨.int k (if b > a then b else a), by simp [Builtin.max_, Builtin.max2], ?_⟩
  unfold maxI
  by_cases h : a < b
  · simp only [gt_iff_lt, if_pos h, decide_eq_true h, cond_true]; exact SR.mk_int hb
  · simp only [gt_iff_lt, if_neg h, decide_eq_false h, cond_false]; exact SR.mk_int ha

theorem caps_ok : ∀ {ss : List SV} {vs : List Value}, ss.length = vs.length → (∀ (j : Nat) (s : SV) (v : Value), ss[j]? = some s → vs[j]? = some v → SR P w G s v) → CR P w G (SV.ofList ss) vs := by
  intro ss
  induction ss with
  | nil => intro vs hl _; exact List.eq_nil_of_length_eq_zero hl.symm
  | cons s ss ih =>
    intro vs hl h
    cases vs with
    | nil => cases hl
    | cons v vs => exact ⟨v, vs, rfl, h 0 s v rfl rfl, ih (by simpa using hl) (fun j s v h1 h2 => h (j + 1) s v (by simpa using h1) (by simpa using h2))⟩

theorem convTo_ok {t : Ty} {id src : Nat} (hl : Lay P t id) (hsrc : ∃ d, P.underlying src = some d) {s : SV} {v : Value} {r : OpRes} {u : Upd} (hr : convTo t s = some r) (hu : Gives r u) (h : SR P w G s v) :
    u.wr = [] ∧ ∃ z, (convert src id v).run P w = .ok z w ∧ SR P w G u.sv z := by
  obtain ⟨d, hd⟩ := hsrc
  unfold convTo at hr
  split at hr
  · rename_i k n
    split at hr
    · rename_i k'
      cases hr
      rw [hu.v_inv]
      obtain ⟨rfl, _⟩ := h.int
      exact ⟨rfl, _, by simp [convert, run_underlying hd, run_underlying hl.int, Conv.intToInt], SR.mk_int (wrap_in _ _)⟩
    · cases hr
  · rename_i x
    split at hr
    · cases hr
      rw [hu.v_inv]
      obtain ⟨rfl, hx⟩ := h.str
      exact ⟨rfl, _, by simp [convert, run_underlying hd, run_underlying hl.str], SR.mk_str hx⟩
    · cases hr
  · cases hr

end
end Go.Ev
