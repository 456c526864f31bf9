/-
  OBJECTS THAT NO MORE TURN.
-/
import Derived.Test.YtncjpbogjfibfaaGreatDoorEvN2
set_option linter.unusedVariables false
set_option linter.unusedSimpArgs false
namespace Go.Ev

section
variable {P : Program} {fr : Fr} {free free' : Nat → Prop} {self : Nat} {σ σ' : Nat → Option Obj} {w w' : World} {G G' : Gh} {I : Im}

/-- Another object in the place of one, of the same block. -/
theorem MemS.swap (hm : MemS P fr free σ w G) {k : Nat} {o o' : Obj} (hk : σ k = some o) (ho : ObjOK P fr w G k o') (hb : ∀ b, blk G k o' = some b → blk G k o = some b) :
    MemS P fr free (putSto σ [(k, some o')]) w G := by
  refine ⟨fun j p h => ?_, fun i j o1 o2 b' hi hj hbi hbj => ?_, hm.after, fun j hj => ?_⟩
  · rw [putSto_one] at h
    by_cases e : j = k
    · rw [if_pos e] at h; cases h; subst e; exact ho
    · rw [if_neg e] at h; exact hm.objs j p h
  · rw [putSto_one] at hi hj
    by_cases e1 : i = k <;> by_cases e2 : j = k
    · rw [e1, e2]
    · rw [if_pos e1] at hi; rw [if_neg e2] at hj
      cases hi; subst e1
      exact hm.sep i j o o2 b' hk hj (hb _ hbi) hbj
    · rw [if_neg e1] at hi; rw [if_pos e2] at hj
      cases hj; subst e2
      exact hm.sep i j o1 o b' hi hk hbi (hb _ hbj)
    · rw [if_neg e1] at hi; rw [if_neg e2] at hj
      exact hm.sep i j o1 o2 b' hi hj hbi hbj
  · have hf := hm.fresh j hj
    refine ⟨?_, hf.2⟩
    rw [putSto_one, if_neg (fun e => ?_)]
    · exact hf.1
    · subst e; rw [hf.1] at hk; cases hk

theorem frz_one (hm : MemS P fr free σ w G) {k : Nat} {o : Obj} (hk : σ k = some o) : ∃ G', GLe w G w G' ∧ MemS P fr free (putSto σ [(k, some (frzObj o))]) w G' := by
  have hsame : ∀ {o' : Obj}, σ k = some o' → ∃ G', GLe w G w G' ∧ MemS P fr free (putSto σ [(k, some o')]) w G' := fun {o'} h =>
    ⟨G, GLe.refl _ _, hm.swap h (hm.objs k o' h) fun _ h => h⟩
  have hfresh : ∀ j, free j → j ≠ k ∧ free j ∧ G.ety j = none ∧ G.box j = none ∧ ∀ g, G.val j g = none := by
    intro j hj
    have hf := hm.fresh j hj
    exact ⟨fun e => (by subst e; rw [hf.1] at hk; cases hk), hj, hf.2⟩
  cases o with
  | box t c wr =>
    cases wr with
    | false => exact hsame hk
    | true =>
      obtain ⟨b, cs, el, q1, q2, q3, q4, q5, q6, q7, q8⟩ := hm.objs k _ hk
      let G' : Gh := { G with im := ⟨fun b' off => G.im.cell b' off ∨ (b' = b ∧ off < t.sz), G.im.obj⟩ }
      have hle : GLe w G w G' := ⟨⟨fun _ _ h => ⟨.inl h, rfl⟩, fun _ h => ⟨h, rfl⟩⟩, fun _ _ _ h => h, fun _ _ h => h, fun _ _ h => h⟩
      refine ⟨G', hle, hm.change (b := b) hle (fun j o' hj ho' hb => hj (hm.sep j k o' _ b ho' hk hb (by simp [blk, q1]))) (fun _ _ _ => rfl) (Nat.le_refl _) (lt_of_heap q2) q8
        (fun b' off h => h.imp id fun h => h.1) (fun _ h => .inl h) rfl rfl rfl (fun o' ho' => ?_) hfresh⟩
      cases ho'
      exact ⟨⟨b, cs, el, q1, q2, q3, q4, q5.mono hle, ⟨(fun h => by cases h), fun _ off h => .inr ⟨rfl, h⟩⟩, q7, q8⟩, .inl (by simp [blk, frzObj, G', q1])⟩
  | sl el t xs g wr =>
    cases wr with
    | false => exact hsame hk
    | true =>
      obtain ⟨h0, v, h1, h2⟩ := hm.objs k _ hk
      rcases h2 with ⟨rfl, rfl⟩ | ⟨b, cap, cs, rfl, q1, q2, q3, q4, q5, q6, q7, q8⟩
      · exact ⟨G, GLe.refl _ _, hm.swap hk ⟨h0, _, h1, .inl ⟨rfl, rfl⟩⟩ fun b hb => by simp [frzObj, blk, h1] at hb⟩
      · let G' : Gh := { G with im := ⟨fun b' off => G.im.cell b' off ∨ (b' = b ∧ off < xs.length * t.sz), G.im.obj⟩ }
        have hle : GLe w G w G' := ⟨⟨fun _ _ h => ⟨.inl h, rfl⟩, fun _ h => ⟨h, rfl⟩⟩, fun _ _ _ h => h, fun _ _ h => h, fun _ _ h => h⟩
        refine ⟨G', hle, hm.change (b := b) hle (fun j o' hj ho' hb => hj (hm.sep j k o' _ b ho' hk hb (by simp [blk, h1]))) (fun _ _ _ => rfl) (Nat.le_refl _) (lt_of_heap q2) q5
          (fun b' off h => h.imp id fun h => h.1) (fun _ h => .inl h) rfl rfl rfl (fun o' ho' => ?_) hfresh⟩
        cases ho'
        refine ⟨⟨h0, _, h1, .inr ⟨b, cap, cs, rfl, q1, q2, q3, fun i x hx => (q4 i x hx).ext hle.ext, q5, (fun h => by cases h), fun _ off => ⟨fun h => .inr ⟨rfl, h⟩, fun h => ?_⟩, q8⟩⟩, .inl (by simp [blk, frzObj, G', h1])⟩
        rcases h with h | h
        · exact absurd h (q6 rfl off)
        · exact h.2
  | mp a c es wr =>
    cases wr with
    | false => exact hsame hk
    | true =>
      obtain ⟨v, h1, b, ents, clock, rfl, q1, q2, q3, q4, q5, q6⟩ := hm.objs k _ hk
      let G' : Gh := { G with im := ⟨G.im.cell, fun b' => G.im.obj b' ∨ b' = b⟩ }
      have hle : GLe w G w G' := ⟨⟨fun _ _ h => ⟨h, rfl⟩, fun _ h => ⟨.inl h, rfl⟩⟩, fun _ _ _ h => h, fun _ _ h => h, fun _ _ h => h⟩
      refine ⟨G', hle, hm.change (b := b) hle (fun j o' hj ho' hb => hj (hm.sep j k o' _ b ho' hk hb (by simp [blk, h1]))) (fun _ _ _ => rfl) (Nat.le_refl _) (lt_of_heap q1) q6
        (fun b' off h => .inl h) (fun b' h => h) rfl rfl rfl (fun o' ho' => ?_) hfresh⟩
      cases ho'
      exact ⟨⟨_, h1, b, ents, clock, rfl, q1, q2, fun i x e hx he => ⟨(q3 i x e hx he).1.ext hle.ext, (q3 i x e hx he).2.ext hle.ext⟩, ⟨(fun h => by cases h), fun _ => .inr rfl⟩, q5, q6⟩, .inl (by simp [blk, frzObj, G', h1])⟩

theorem frzObj_twice (o : Obj) : frzObj (frzObj o) = frzObj o := by cases o <;> rfl

theorem frz_ok : ∀ {fz : List (Nat × Option Obj)} {G : Gh}, MemS P fr free σ w G → (∀ p ∈ fz, ∃ o, σ p.1 = some o ∧ p.2 = some (frzObj o)) → ∃ G', GLe w G w G' ∧ MemS P fr free (putSto σ fz) w G' := by
  intro fz
  induction fz with
  | nil => intro G hm _; exact ⟨G, GLe.refl _ _, hm⟩
  | cons p r ih =>
    intro G hm h
    obtain ⟨G1, h1, h2⟩ := ih hm fun q hq => h q (List.mem_cons_of_mem _ hq)
    obtain ⟨k, x⟩ := p
    obtain ⟨o, ho, hx⟩ := h (k, x) List.mem_cons_self
    have hx : x = some (frzObj o) := hx
    have ho : σ k = some o := ho
    subst hx
    -- what lies there, is it or is it frozen
    have hk : ∃ o1, putSto σ r k = some o1 ∧ frzObj o1 = frzObj o := by
      have : ∀ (r : List (Nat × Option Obj)), (∀ p ∈ r, ∃ o, σ p.1 = some o ∧ p.2 = some (frzObj o)) → ∃ o1, putSto σ r k = some o1 ∧ frzObj o1 = frzObj o := by
        intro r
        induction r with
        | nil => intro _; exact ⟨o, ho, rfl⟩
        | cons q r ih2 =>
          intro hr
          obtain ⟨j, y⟩ := q
          obtain ⟨o', ho', hy⟩ := hr (j, y) List.mem_cons_self
          have hy : y = some (frzObj o') := hy
          have ho' : σ j = some o' := ho'
          subst hy
          by_cases e : k = j
          · subst e
            rw [ho] at ho'
            cases ho'
            exact ⟨frzObj o, by simp [putSto, Nat.beq_refl], frzObj_twice o⟩
          · obtain ⟨o1, a1, a2⟩ := ih2 fun q hq => hr q (List.mem_cons_of_mem _ hq)
            refine ⟨o1, ?_, a2⟩
            simp only [putSto]
            rw [show Nat.beq k j = false by rw [← Bool.not_eq_true]; exact fun hh => e (Nat.eq_of_beq_eq_true hh)]
            exact a1
      exact this r fun q hq => h q (List.mem_cons_of_mem _ hq)
    obtain ⟨o1, a1, a2⟩ := hk
    obtain ⟨G2, h3, h4⟩ := frz_one h2 a1
    refine ⟨G2, h1.trans h3, ?_⟩
    rw [a2] at h4
    have e : putSto σ ((k, some (frzObj o)) :: r) = putSto (putSto σ r) [(k, some (frzObj o))] := putSto_append σ [(k, some (frzObj o))] r
    rw [e]; exact h4

theorem frzUpd_ok {ks : List Nat} : ∀ p ∈ frzUpd σ ks, ∃ o, σ p.1 = some o ∧ p.2 = some (frzObj o) := by
  induction ks with
  | nil => intro p hp; cases hp
  | cons k r ih =>
    intro p hp
    simp only [frzUpd] at hp
    split at hp
    · rename_i o ho
      rcases List.mem_cons.1 hp with rfl | hp
      · exact ⟨o, ho, rfl⟩
      · exact ih p hp
    · exact ih p hp

theorem frzSto_ok (hm : MemS P fr free σ w G) (l : List Sh) (vs : List SV) : ∃ G', GLe w G w G' ∧ MemS P fr free (frzSto σ l vs) w G' := frz_ok hm frzUpd_ok

theorem putSto_mono {l : List (Nat × Option Obj)} (hσ : ∀ k o, σ' k = some o → σ k = some o) : ∀ k o, putSto σ' l k = some o → putSto σ l k = some o := by
  induction l with
  | nil => exact hσ
  | cons p r ih =>
    intro k o h
    obtain ⟨j, x⟩ := p
    simp only [putSto] at h ⊢
    cases hb : Nat.beq k j with
    | true => rw [hb] at h; exact h
    | false => rw [hb] at h; exact ih k o h

theorem opF_ok {E : Env} (hE : EnvOK P E) (hm : MemS P fr free σ w G) (hσ : ∀ k o, σ' k = some o → σ k = some o) (hfree : ∀ k, self ≤ k → k < self + 8 → free k) {o : Oper} {a : Act} {ρ ρt ρf : Operand → SV}
    (hρ : (∀ c x y, o.op ≠ .pick c x y) → ∀ x ∈ o.op.operands, SR P w G (ρ x) (a.eval x))
    (hpick : ∀ c x y, o.op = .pick c x y → SR P w G (ρ c) (a.eval c) ∧ (a.eval c = .bool true → SR P w G (ρt x) (a.eval x)) ∧ (a.eval c = .bool false → SR P w G (ρf y) (a.eval y)))
    {r : OpRes} {u : Upd} (hr : opF E ρ ρt ρf σ' self o = some r) (hu : Gives r u) : Done P o a w (Res P fr free self σ w G u) := by
  unfold opF at hr
  split at hr
  · rename_i r0 hr0
    cases hr
    obtain ⟨G1, g1, g2⟩ := frz_ok (fz := frzUpd σ' (frzKeys E ρ σ' o)) hm fun p hp => let ⟨ob, h1, h2⟩ := frzUpd_ok p hp; ⟨ob, hσ _ _ h1, h2⟩
    have hu0 : ∃ u0, Gives r0 u0 ∧ u = ⟨u0.sv, u0.wr ++ frzUpd σ' (frzKeys E ρ σ' o)⟩ := by
      cases r0 with
      | pure u0 => exact ⟨u0, .pure u0, hu.pure_inv⟩
      | may α m d f =>
        obtain ⟨x, hx, rfl⟩ := hu.may_inv
        exact ⟨f x, .may hx, rfl⟩
    obtain ⟨u0, hu0, rfl⟩ := hu0
    refine (opV_ok hE g2 (putSto_mono hσ) hfree (fun h x hx => (hρ h x hx).mono g1) (fun c x y h => ?_) hr0 hu0).mono fun v w' hres => ?_
    · obtain ⟨h1, h2, h3⟩ := hpick c x y h
      exact ⟨h1.mono g1, fun hh => (h2 hh).mono g1, fun hh => (h3 hh).mono g1⟩
    · obtain ⟨G', k1, k2, k3⟩ := hres
      exact ⟨G', g1.trans k1, by rw [putSto_append]; exact k2, k3⟩
  · cases hr

end
end Go.Ev
