/-
  ONE STEP OF A REGION.
-/
import Derived.Test.YtncjpbogjfibfaaGreatDoorEvFz
import Derived.Orders
set_option linter.unusedVariables false
set_option linter.unusedSimpArgs false
namespace Go.Ev

section
variable {P : Program} {fr : Fr} {free free' : Nat → Prop} {self : Nat} {σ σ' : Nat → Option Obj} {w w' : World} {G G' : Gh} {I : Im}

theorem inKindB_ok {k : IntKind} {n : Int} (h : inKindB k n = true) : inKind k n := by
  simp only [inKindB, Bool.and_eq_true, decide_eq_true_eq] at h; exact h

theorem SR.undef (v : Value) : SR P w G .undef v := ⟨[v], rfl, trivial⟩

theorem ofConst_ok (v : Value) : SR P w G (ofConst v) v := by
  unfold ofConst
  split
  · exact SR.mk_bool _
  · rename_i k n
    cases h : inKindB k n with
    | true => exact SR.mk_int (inKindB_ok h)
    | false => exact SR.undef _
  · rename_i s
    cases h : Nat.ble s.data.toList.length 281474976710656 with
    | true => exact SR.mk_str (Nat.le_of_ble_eq_true h)
    | false => exact SR.undef _
  · exact ⟨_, rfl, rfl⟩
  · exact ⟨_, rfl, rfl⟩
  · exact ⟨_, rfl, rfl⟩
  · exact ⟨_, rfl, rfl⟩
  · exact ⟨_, rfl, rfl⟩
  · exact SR.undef _

theorem SR.not_grd {tk : List (Nat × Bool)} {g : Bool} {s : SV} {v : Value} (h : SR P w G (.grd tk g s) v) : False := by
  obtain ⟨_, _, h⟩ := h; exact h

theorem SR.strip {s : SV} {v : Value} {tk : List (Nat × Bool)} (h : SR P w G s v) : SR P w G (s.strip tk) v := by
  cases s <;> first | exact h | exact h.not_grd.elim

theorem SR.slotOK {s : SV} {v : Value} {a : Act} (h : SR P w G s v) : SlotOK P w G a s v := by
  cases s <;> first | exact h | exact h.not_grd.elim

theorem hasTok_ok {t : Nat × Bool} : ∀ {tk : List (Nat × Bool)}, hasTok t tk = true → t ∈ tk := by
  intro tk
  induction tk with
  | nil => intro h; cases h
  | cons u r ih =>
    intro h
    simp only [hasTok, Bool.or_eq_true, Bool.and_eq_true] at h
    rcases h with ⟨h1, h2⟩ | h
    · have e1 := Nat.eq_of_beq_eq_true h1
      have e2 : t.2 = u.2 := by
        cases h3 : t.2 <;> cases h4 : u.2 <;> rw [h3, h4] at h2 <;> first | rfl | cases h2
      have : t = u := Prod.ext e1 e2
      rw [this]; exact List.mem_cons_self
    · exact List.mem_cons_of_mem _ (ih h)

theorem SlotOK.strip {s : SV} {v : Value} {a : Act} {tk : List (Nat × Bool)} (h : SlotOK P w G a s v) (hk : holds a tk) : SR P w G (s.strip tk) v := by
  cases s with
  | grd tk' g s =>
    simp only [SV.strip]
    cases ha : tk'.all (hasTok · tk) with
    | false => exact SR.undef _
    | true =>
      rw [List.all_eq_true] at ha
      exact (h.1 fun t ht => hk t (hasTok_ok (ha t ht))).2
  | _ => exact h

theorem SlotOK.mono {s : SV} {v : Value} {a a' : Act} (h : SlotOK P w G a s v) (e : GLe w G w' G') (ht : ∀ tk g s', s = .grd tk g s' → (holds a' tk ↔ holds a tk)) : SlotOK P w' G' a' s v := by
  cases s with
  | grd tk g s =>
    have ht := ht tk g s rfl
    exact ⟨fun hh => ⟨(h.1 (ht.1 hh)).1, (h.1 (ht.1 hh)).2.mono e⟩, fun hh => h.2 fun hk => hh (ht.2 hk)⟩
  | _ => exact SR.mono h e

/-- An operand's value. -/
theorem operand_ok {a : Act} {sl : Nat → SV} {x : Operand} {tk : List (Nat × Bool)} (hs : ∀ t, x = .tmp t → SlotOK P w G a (sl t) (a.tmps.getD t undef)) (hk : holds a tk) :
    SR P w G ((evalO sl x).strip tk) (a.eval x) := by
  cases x with
  | tmp t => exact (hs t rfl).strip hk
  | const v => exact (ofConst_ok v).strip
  | func f => exact ⟨_, rfl, #[], rfl, rfl⟩
  | global g => exact SR.undef _

/-- The slots that an operation names: its operands, and its guard's. -/
def guardSlots (all : Array Oper) (o : Oper) : List Nat := match o.guard with
  | some (j, _) => match all[j]? with
    | some p => p.dst.toList
    | none => []
  | none => []

def argSlots (o : Oper) : List Nat := o.op.operands.toList.filterMap fun | .tmp t => some t | _ => none

theorem mem_argSlots {o : Oper} {t : Nat} (h : Operand.tmp t ∈ o.op.operands) : t ∈ argSlots o := by
  unfold argSlots
  rw [List.mem_filterMap]
  exact ⟨.tmp t, by simpa using h, rfl⟩

theorem holds_cons {a : Act} {t : Nat} {b : Bool} {tk : List (Nat × Bool)} : holds a ((t, b) :: tk) ↔ a.tmps.getD t undef = .bool b ∧ holds a tk := by
  constructor
  · intro h
    exact ⟨h _ List.mem_cons_self, fun p hp => h p (List.mem_cons_of_mem _ hp)⟩
  · intro h p hp
    rcases List.mem_cons.1 hp with rfl | hp
    · exact h.1
    · exact h.2 p hp

theorem holds_nil (a : Act) : holds a [] := fun _ h => by cases h

theorem undef_ne_bool (b : Bool) : undef ≠ .bool b := by intro h; cases h

theorem wanted_iff {all : Array Oper} {o p : Oper} {j t : Nat} {b : Bool} {a : Act} (hg : o.guard = some (j, b)) (hp : all[j]? = some p) (ht : p.dst = some t) :
    Region.wanted o (yielded all a.tmps) = true ↔ a.tmps.getD t undef = .bool b := by
  unfold Region.wanted yielded
  simp only [hg, hp, Option.bind_some, ht]
  cases h : a.tmps[t]? with
  | none => simp [h, undef]
  | some v =>
    have : a.tmps.getD t undef = v := by simp [h]
    rw [this]
    cases v <;> simp

theorem guard_ok {all : Array Oper} {o : Oper} {sl : Nat → SV} {a : Act} {tk : List (Nat × Bool)} {g : Bool} (h : guardToks all sl o = some (tk, g))
    (hs : ∀ t ∈ guardSlots all o, SlotOK P w G a (sl t) (a.tmps.getD t undef)) :
    (Region.wanted o (yielded all a.tmps) = true ↔ holds a tk) ∧ (holds a tk → g = true) ∧ (o.guard = none → tk = []) ∧
      ∀ p ∈ tk, p.1 ∈ guardSlots all o ∨ ∃ t ∈ guardSlots all o, ∃ tk' g' s', sl t = .grd tk' g' s' ∧ p ∈ tk' := by
  unfold guardToks at h
  split at h
  · rename_i hg
    simp only [Option.some.injEq, Prod.mk.injEq] at h
    obtain ⟨rfl, rfl⟩ := h
    exact ⟨by simp [Region.wanted, hg, holds_nil], fun _ => rfl, fun _ => rfl, fun p hp => by cases hp⟩
  · rename_i j b hg
    split at h
    · rename_i p hp
      split at h
      · rename_i t ht
        have hsl : guardSlots all o = [t] := by simp [guardSlots, hg, hp, ht]
        have hst := hs t (by rw [hsl]; simp)
        have hwi := wanted_iff (a := a) hg hp ht
        split at h
        · rename_i c hc
          simp only [Option.some.injEq, Prod.mk.injEq] at h
          obtain ⟨rfl, rfl⟩ := h
          rw [hc] at hst
          have hv := SR.bool hst
          refine ⟨by rw [hwi, holds_cons]; simp [holds_nil], fun hh => ?_, fun h => (by rw [hg] at h; cases h), fun q hq => .inl ?_⟩
          · have := (holds_cons.1 hh).1
            rw [hv] at this
            cases this
            cases b <;> rfl
          · have : q = (t, b) := by simpa using hq
            rw [this, hsl]; simp
        · rename_i tk' g' c hc
          simp only [Option.some.injEq, Prod.mk.injEq] at h
          obtain ⟨rfl, rfl⟩ := h
          rw [hc] at hst
          have key : a.tmps.getD t undef = .bool b → holds a tk' := by
            intro h1
            apply Classical.byContradiction
            intro h2
            rw [hst.2 h2] at h1
            exact undef_ne_bool _ h1
          refine ⟨?_, fun hh => ?_, fun h => (by rw [hg] at h; cases h), fun q hq => ?_⟩
          · rw [hwi, holds_cons]
            exact ⟨fun h1 => ⟨h1, key h1⟩, fun h1 => h1.1⟩
          · obtain ⟨h1, h2⟩ := holds_cons.1 hh
            obtain ⟨h3, h4⟩ := hst.1 h2
            have hv := SR.bool h4
            rw [hv] at h1
            cases h1
            rw [h3]
            cases b <;> rfl
          · rcases List.mem_cons.1 hq with rfl | hq
            · exact .inl (by rw [hsl]; simp)
            · exact .inr ⟨t, by rw [hsl]; simp, tk', g', _, hc, hq⟩
        · cases h
      · cases h
    · cases h

/-- A state, inside a region. 'D': the slots that tokens name. -/
structure SimF (P : Program) (N : Nat) (fr : Fr) (free D : Nat → Prop) (sl : Nat → SV) (σ : Nat → Option Obj) (a : Act) (w : World) (G : Gh) : Prop where
  slots : ∀ t, SlotOK P w G a (sl t) (a.tmps.getD t undef)
  defs : a.defers = []
  size : a.tmps.size = N
  fix : ∀ t v, fr.fx t = some v → a.tmps.getD t undef = v
  toks : ∀ t tk g s, sl t = .grd tk g s → tk ≠ [] ∧ ∀ p ∈ tk, D p.1
  mem : MemS P fr free σ w G

theorem put_getD {a : Act} {N : Nat} (hN : a.tmps.size = N) {dst : Option Nat} (hd : ∀ d, dst = some d → d < N) (v : Value) (t : Nat) :
    (a.put dst v).tmps.getD t undef = if dst = some t then v else a.tmps.getD t undef := by
  cases dst with
  | none => simp [Act.put]
  | some d =>
    have hd := hd d rfl
    by_cases h : d = t
    · subst h
      simp [Act.put, hN, hd]
    · simp [Act.put, h, Array.getElem?_setIfInBounds_ne h]

theorem put_defers (a : Act) (dst : Option Nat) (v : Value) : (a.put dst v).defers = a.defers := by cases dst <;> rfl
theorem put_size (a : Act) (dst : Option Nat) (v : Value) : (a.put dst v).tmps.size = a.tmps.size := by cases dst <;> simp [Act.put]

theorem putSlot_eq (sl : Nat → SV) (dst : Option Nat) (s : SV) (t : Nat) : putSlot sl dst s t = if dst = some t then s else sl t := by
  cases dst with
  | none => simp [putSlot]
  | some d =>
    simp only [putSlot]
    by_cases h : t = d
    · subst h; simp [Nat.beq_refl]
    · have : Nat.beq t d = false := by rw [← Bool.not_eq_true]; exact fun hh => h (Nat.eq_of_beq_eq_true hh)
      rw [this]
      have h' : ¬ d = t := fun e => h e.symm
      simp [h']

theorem calm_cons {tk : List (Nat × Bool)} {u : Upd} (h : calm tk u = true) (ht : tk ≠ []) : u.wr = [] := by
  cases tk with
  | nil => exact absurd rfl ht
  | cons p r =>
    simp only [calm] at h
    split at h
    · assumption
    · cases h

theorem holds_put {a : Act} {N : Nat} (hN : a.tmps.size = N) {dst : Option Nat} (hd : ∀ d, dst = some d → d < N) {v : Value} {tk : List (Nat × Bool)} (h : ∀ p ∈ tk, dst ≠ some p.1) :
    holds (a.put dst v) tk ↔ holds a tk := by
  unfold holds
  constructor
  · intro hh p hp
    have := hh p hp
    rw [put_getD hN hd, if_neg (h p hp)] at this
    exact this
  · intro hh p hp
    rw [put_getD hN hd, if_neg (h p hp)]
    exact hh p hp

theorem op_step {E : Env} (hE : EnvOK P E) {all : Array Oper} {i N : Nat} {o : Oper} (ho : all[i]? = some o) {D : Nat → Prop} {sl sl0 : Nat → SV} {a : Act}
    (hs : SimF P N fr free D sl σ a w G) (hag : ∀ t, t ∈ argSlots o ∨ t ∈ guardSlots all o → sl0 t = sl t)
    (hgd : ∀ t ∈ guardSlots all o, D t) (hdst : ∀ d, o.dst = some d → (d < N ∧ fr.fx d = none) ∧ ¬ D d)
    {tk : List (Nat × Bool)} {g : Bool} (hg : guardToks all sl0 o = some (tk, g))
    (hσ : ∀ k ob, σ' k = some ob → σ k = some ob) (hfree : ∀ k, self ≤ k → k < self + 8 → free k)
    {r : OpRes} (hr : opF E (fun x => (evalO sl0 x).strip tk)
      (match o.op with | .pick c _ _ => fun x => (evalO sl0 x).strip (pickTok c true tk) | _ => fun x => (evalO sl0 x).strip tk)
      (match o.op with | .pick c _ _ => fun x => (evalO sl0 x).strip (pickTok c false tk) | _ => fun x => (evalO sl0 x).strip tk) σ' self o = some r)
    {u : Upd} (hu : g = true → Gives r u) (hu' : tk = [] → Gives r u) (hcalm : calm tk u = true) {K : Act → World → Prop} {Q : Exit → Act → World → Prop}
    (hK : ∀ a' w' G', GLe w G w' G' → SimF P N fr (freeBut free self) D (putSlot sl o.dst (mkGrd tk g u.sv)) (putSto σ u.wr) a' w' G' → K a' w') :
    wpOp P all Q i K a w := by
  have hgs : ∀ t ∈ guardSlots all o, SlotOK P w G a (sl0 t) (a.tmps.getD t undef) := fun t ht => by rw [hag t (.inr ht)]; exact hs.slots t
  obtain ⟨g1, g2, g3, g4⟩ := guard_ok hg hgs
  have htk : ∀ p ∈ tk, D p.1 := by
    intro p hp
    rcases g4 p hp with h | ⟨t, ht, tk', g', s', h1, h2⟩
    · exact hgd _ h
    · rw [hag t (.inr ht)] at h1
      exact (hs.toks t tk' g' s' h1).2 p h2
  have hdN : ∀ d, o.dst = some d → d < N := fun d hd => (hdst d hd).1.1
  have hnd : ∀ {tk' : List (Nat × Bool)}, (∀ p ∈ tk', D p.1) → ∀ p ∈ tk', o.dst ≠ some p.1 := fun h p hp e => (hdst _ e).2 (h p hp)
  -- what is known behind it
  have fin : ∀ (v : Value) (w' : World) (G' : Gh), GLe w G w' G' → MemS P fr (freeBut free self) (putSto σ u.wr) w' G' →
      ((holds a tk → g = true ∧ SR P w' G' u.sv v) ∧ (¬ holds a tk → v = Go.undef)) → K (a.put o.dst v) w' := by
    intro v w' G' hle hm hv
    refine hK _ w' G' hle ⟨fun t => ?_, ?_, ?_, ?_, ?_, hm⟩
    · rw [putSlot_eq, put_getD hs.size hdN]
      by_cases h : o.dst = some t
      · rw [if_pos h, if_pos h]
        cases tk with
        | nil => exact (hv.1 (holds_nil a)).2.slotOK
        | cons p r =>
          have := holds_put (v := v) hs.size hdN (hnd htk)
          exact ⟨fun hh => hv.1 (this.1 hh), fun hh => hv.2 fun hk => hh (this.2 hk)⟩
      · rw [if_neg h, if_neg h]
        refine (hs.slots t).mono hle fun tk' g' s' h' => ?_
        exact holds_put hs.size hdN (hnd (hs.toks t tk' g' s' h').2)
    · rw [put_defers]; exact hs.defs
    · rw [put_size]; exact hs.size
    · intro t v' h
      rw [put_getD hs.size hdN, if_neg (fun e => by have := (hdst t e).1.2; rw [h] at this; cases this)]
      exact hs.fix t v' h
    · intro t tk' g' s' h
      rw [putSlot_eq] at h
      by_cases hd : o.dst = some t
      · rw [if_pos hd] at h
        cases htk' : tk with
        | nil =>
          rw [htk'] at h hv
          have h : u.sv = .grd tk' g' s' := h
          have := (hv.1 (holds_nil a)).2
          rw [h] at this
          exact this.not_grd.elim
        | cons q r =>
          rw [htk'] at h
          have h : SV.grd (q :: r) g u.sv = .grd tk' g' s' := h
          injection h with h1 _ _
          exact ⟨by rw [← h1]; simp, fun p hp => htk p (by rw [htk', h1]; exact hp)⟩
      · rw [if_neg hd] at h
        exact hs.toks t tk' g' s' h
  unfold wpOp
  simp only [ho]
  by_cases hw : Region.wanted o (yielded all a.tmps) = true
  · rw [if_pos hw]
    have hh := g1.1 hw
    have hgt := g2 hh
    left
    have hop : ∀ {tk' : List (Nat × Bool)}, holds a tk' → ∀ x ∈ o.op.operands, SR P w G ((evalO sl0 x).strip tk') (a.eval x) := by
      intro tk' hh' x hx
      refine operand_ok (fun t ht => ?_) hh'
      subst ht
      rw [hag t (.inl (mem_argSlots hx))]
      exact hs.slots t
    have hdone : Done P o a w (Res P fr free self σ w G u) := by
      refine opF_ok hE hs.mem hσ hfree (fun _ x hx => hop hh x hx) ?_ hr (hu hgt)
      intro c x y hpk
      refine ⟨hop hh c (by simp [hpk, Op.operands]), fun hc => ?_, fun hc => ?_⟩
      · simp only [hpk]
        refine hop ?_ x (by simp [hpk, Op.operands])
        cases c with
        | tmp t => exact holds_cons.2 ⟨hc, hh⟩
        | _ => exact hh
      · simp only [hpk]
        refine hop ?_ y (by simp [hpk, Op.operands])
        cases c with
        | tmp t => exact holds_cons.2 ⟨hc, hh⟩
        | _ => exact hh
    refine hdone Q K fun v w' hres => ?_
    obtain ⟨G', h1, h2, h3⟩ := hres
    exact fin v w' G' h1 h2 ⟨fun _ => ⟨hgt, h3⟩, fun hn => absurd hh hn⟩
  · rw [if_neg hw]
    have hnh : ¬ holds a tk := fun h => hw (g1.2 h)
    have hne : tk ≠ [] := fun e => by subst e; exact hnh (holds_nil a)
    have hwr := calm_cons hcalm hne
    refine fin Go.undef w G (GLe.refl _ _) ?_ ⟨fun h => absurd h hnh, fun _ => rfl⟩
    rw [hwr]
    exact hs.mem.shrink fun _ h => h.1

theorem SimF.drawn {N : Nat} {D : Nat → Prop} {sl : Nat → SV} {a : Act} (h : SimF P N fr free D sl σ a w G) (n : Nat) : SimF P N fr free D sl σ a { w with drawn := n } G := by
  have hle : GLe w G { w with drawn := n } G := ⟨⟨fun _ _ h => ⟨h, rfl⟩, fun _ h => ⟨h, rfl⟩⟩, fun _ _ _ h => h, fun _ _ h => h, fun _ _ h => h⟩
  refine ⟨fun t => (h.slots t).mono hle fun _ _ _ _ => Iff.rfl, h.defs, h.size, h.fix, h.toks, ⟨fun k o ho => ?_, h.mem.sep, ?_, h.mem.fresh⟩⟩
  · exact (h.mem.objs k o ho).keep hle fun b _ => ⟨rfl, fun _ h => h, fun h => h⟩
  · exact ⟨⟨fun b o hb => h.mem.after.ext.cell b o hb, fun b hb => h.mem.after.ext.obj b hb⟩, h.mem.after.heap, h.mem.after.size, h.mem.after.newC, h.mem.after.newO, h.mem.after.inC, h.mem.after.inO,
      h.mem.after.os, h.mem.after.tape, h.mem.after.output⟩

end
end Go.Ev
