/-
  Calls of values.
-/
import Derived.Test.YtncjpbogjfibfaaGreatDoorEvF6
set_option linter.unusedVariables false
set_option linter.unusedSimpArgs false
namespace Go.Ev

section
variable {P : Program} {fr : Fr} {free free' : Nat → Prop} {self : Nat} {σ σ' : Nat → Option Obj} {w w' : World} {G G' : Gh} {I : Im}

theorem exec_call {o : Oper} {a : Act} {fo : Operand} {as : Array Operand} {ts : Array TypeId} (ho : o.op = .call ⟨.value fo, as, ts⟩) {f : Nat} {caps : Array Value} (hf : a.eval fo = .func (.func f) #[] caps) (he : Enters P f) :
    (execOp a.eval o).run P w = .ok (.enter f (as.map a.eval ++ caps)) w := by
  obtain ⟨fn, c, h1, h2, h3⟩ := he
  have h2' : fn.name ≠ "runtime.NumGoroutine" := by simpa using h2
  have : (callFunc f (as.map a.eval ++ caps)).run P w = .ok (.enter f (as.map a.eval ++ caps)) w := by simp [callFunc, h1, h2', h3]
  simp [execOp, ho, resolve, hf, Deferred.ofValue, invoke, this]

theorem caps_list : ∀ {l : SV} {vs : List Value}, CR P w G l vs → l.list.length ≤ vs.length → ∀ (j : Nat) (s : SV) (v : Value), l.list[j]? = some s → vs[j]? = some v → SR P w G s v := by
  intro l
  induction l with
  | scons a b iha ihb =>
    intro vs h hl j s v hj hv
    obtain ⟨v', r, rfl, ⟨c, h2, h3⟩, h4⟩ := h
    cases j with
    | zero =>
      have e1 : a = s := by simpa [SV.list] using hj
      have e2 : v' = v := by simpa using hv
      subst e1 e2
      exact ⟨c, h2, h3⟩
    | succ j => exact ihb h4 (by simpa [SV.list] using hl) j s v (by simpa [SV.list] using hj) (by simpa using hv)
  | _ => intro vs h hl j s v hj; simp [SV.list] at hj

theorem okCaps_len : ∀ {l : SV} {vs : List Value}, CR P w G l vs → okCaps l = true → l.list.length = vs.length := by
  intro l
  induction l with
  | snil => intro vs h _; have h : vs = [] := h; rw [h]; rfl
  | scons a b iha ihb =>
    intro vs h hk
    obtain ⟨v', r, rfl, _, h4⟩ := h
    simp [SV.list, ihb h4 hk]
  | _ => intro vs h hk; cases hk

theorem parseArgs_ok {σ : Nat → Option Obj} (ho : ∀ k o, σ k = some o → ObjOK P fr w G k o) : ∀ {d : Ty} {l : List SV} {x : d.T} {vs : List Value}, parseArgs σ d l = some x → l.length = vs.length →
    (∀ (j : Nat) (s : SV) (v : Value), l[j]? = some s → vs[j]? = some v → SR P w G s v) → ArgsV w G.im d x vs := by
  have one : ∀ {d : Ty} {l : List SV} {x : d.T} {vs : List Value}, (match l with | [s] => s.asV σ d | _ => none) = some x → l.length = vs.length →
      (∀ (j : Nat) (s : SV) (v : Value), l[j]? = some s → vs[j]? = some v → SR P w G s v) → ∃ v, vs = [v] ∧ VRel w G.im d x v := by
    intro d l x vs h hl hs
    rcases l with _ | ⟨s, _ | ⟨_, _⟩⟩ <;> first | (cases h; done) | skip
    rcases vs with _ | ⟨v, _ | ⟨_, _⟩⟩ <;> first | (cases hl; done) | skip
    exact ⟨v, rfl, asV_ok ho h (hs 0 s v rfl rfl)⟩
  intro d
  induction d with
  | prod a b iha ihb =>
    intro l x vs h hl hs
    cases l with
    | nil => cases h
    | cons s r =>
      cases vs with
      | nil => cases hl
      | cons v vs =>
        simp only [parseArgs] at h
        split at h
        · rename_i y z h1 h2
          cases h
          exact ⟨v, vs, rfl, asV_ok ho h1 (hs 0 s v rfl rfl), ihb h2 (by simpa using hl) fun j s v h1 h2 => hs (j + 1) s v (by simpa using h1) (by simpa using h2)⟩
        · cases h
  | _ =>
    intro l x vs h hl hs
    refine one ?_ hl hs
    rcases l with _ | ⟨s, _ | ⟨_, _⟩⟩ <;> exact h

theorem opCallV_ok {fs : Nat → Option FSpec} (hE : ∀ f sp, fs f = some sp → Enters P f ∧ FunOK P f sp) (hm : MemS P fr free σ w G) (hσ : ∀ k o, σ' k = some o → σ k = some o) (hfree : ∀ k, self ≤ k → k < self + 8 → free k)
    {o : Oper} {a : Act} {fo : Operand} {as : Array Operand} {ts : Array TypeId} (ho : o.op = .call ⟨.value fo, as, ts⟩) {sf : SV} (hsf : SR P w G sf (a.eval fo)) {args : List SV} {r : OpRes} {u : Upd}
    (hlen : args.length = as.toList.length) (hs : ∀ (j : Nat) (s : SV) (x : Operand), args[j]? = some s → as.toList[j]? = some x → SR P w G s (a.eval x)) (hr : opCallV fs σ' self sf args = some r) (hu : Gives r u) :
    Done P o a w (Res P fr free self σ w G u) := by
  unfold opCallV at hr
  split at hr
  · rename_i f caps
    cases hk : okCaps caps with
    | false => rw [hk] at hr; cases hr
    | true =>
      rw [hk] at hr
      obtain ⟨cc, hcc, vs, h1, h2⟩ := hsf
      have hf : a.eval fo = .func (.func f) #[] vs := List.singleton_inj.1 ((show cc = [a.eval fo] from hcc).symm.trans h1)
      have hcl := okCaps_len h2 hk
      have hall : ∀ (j : Nat) (s : SV) (v : Value), (args ++ caps.list)[j]? = some s → (as.toList.map a.eval ++ vs.toList)[j]? = some v → SR P w G s v := by
        intro j s v hj hv
        by_cases hlt : j < args.length
        · rw [List.getElem?_append_left hlt] at hj
          rw [List.getElem?_append_left (by rw [List.length_map, ← hlen]; exact hlt), List.getElem?_map] at hv
          cases hx : as.toList[j]? with
          | none => rw [hx] at hv; cases hv
          | some x =>
            rw [hx] at hv
            cases hv
            exact hs j s x hj hx
        · have hle : args.length ≤ j := Nat.le_of_not_lt hlt
          rw [List.getElem?_append_right hle] at hj
          rw [List.getElem?_append_right (by rw [List.length_map, ← hlen]; exact hle), List.length_map, ← hlen] at hv
          exact caps_list h2 (by omega) _ s v hj hv
      obtain ⟨he, hcall⟩ := opCall_ok hE hm hσ hfree (vals := as.toList.map a.eval ++ vs.toList) (by simp [hlen, hcl]) hall hr hu
      refine Done.enter (exec_call ho hf he) ?_
      have e : (as.toList.map a.eval ++ vs.toList).toArray = as.map a.eval ++ vs := by
        apply Array.ext'
        simp
      rw [e] at hcall
      exact hcall
  · rename_i d c F
    split at hr
    · rename_i x hx
      cases hr
      obtain ⟨y, hy, rfl⟩ := hu.may_inv
      obtain ⟨cc, hcc, f, vs, h1, he, h2⟩ := hsf
      have hf : a.eval fo = .func (.func f) #[] vs := List.singleton_inj.1 ((show cc = [a.eval fo] from hcc).symm.trans h1)
      have hv := parseArgs_ok (fun k o h => hm.objs k o (hσ k o h)) hx (vs := as.toList.map a.eval) (by simp [hlen]) (fun j s v hj hv => by
        rw [List.getElem?_map] at hv
        cases hx : as.toList[j]? with
        | none => rw [hx] at hv; cases hv
        | some x =>
          rw [hx] at hv
          cases hv
          exact hs j s x hj hx)
      refine Done.enter (exec_call ho hf he) ?_
      have hargs : as.map a.eval ++ vs = (as.toList.map a.eval).toArray ++ vs := by
        apply Array.ext'
        simp
      rw [hargs]
      refine Calls.mono (h2 w G.im (Ext.refl _ _) hm.after.mem x _ hv y hy) fun e w' hq => ?_
      obtain ⟨rv, I', rfl, ha, hrv⟩ := hq
      obtain ⟨g1, g2⟩ := hm.called (ks := []) (bs := []) (fun b hb => by cases hb) (ha.mono fun b hb => absurd hb id)
      exact ⟨rv, rfl, _, g1, g2.shrink fun _ h => h.1, hrv⟩
    · cases hr
  · cases hr

end
end Go.Ev
