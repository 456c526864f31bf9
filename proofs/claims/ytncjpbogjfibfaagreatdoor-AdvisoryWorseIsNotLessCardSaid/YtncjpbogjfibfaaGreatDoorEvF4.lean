/-
  Several values, taken apart; what is gone.
-/
import Derived.Test.YtncjpbogjfibfaaGreatDoorEvF3
set_option linter.unusedVariables false
set_option linter.unusedSimpArgs false
namespace Go.Ev

def splitT : (a b : List Sh) → TupR (a ++ b) → TupR a × TupR b
  | [], _, x => ((), x)
  | [_], [], x => (x, ())
  | [_], _ :: _, x => (x.1, x.2)
  | _ :: s :: a, b, x => ((x.1, (splitT (s :: a) b x.2).1), (splitT (s :: a) b x.2).2)

section
variable {P : Program} {fr : Fr} {free free' : Nat → Prop} {self : Nat} {σ σ' : Nat → Option Obj} {w w' : World} {G G' : Gh} {I : Im}

theorem ShL.split : ∀ {a b : List Sh} {x : TupR (a ++ b)} {vs us : List Value} {bs : List Nat}, vs.length = a.length → ShL P w I (a ++ b) x (vs ++ us) bs →
    ∃ b1 b2, bs = b1 ++ b2 ∧ ShL P w I a (splitT a b x).1 vs b1 ∧ ShL P w I b (splitT a b x).2 us b2 := by
  intro a
  induction a with
  | nil =>
    intro b x vs us bs hl h
    have : vs = [] := List.eq_nil_of_length_eq_zero hl
    subst this
    exact ⟨[], bs, rfl, ⟨rfl, rfl⟩, h⟩
  | cons s a ih =>
    intro b x vs us bs hl h
    cases vs with
    | nil => cases hl
    | cons v vs =>
      cases a with
      | nil =>
        have : vs = [] := List.eq_nil_of_length_eq_zero (by simpa using hl)
        subst this
        cases b with
        | nil =>
          obtain ⟨v', h1, h2⟩ := h
          have hu : us = [] ∧ v = v' := by
            have : v :: us = [v'] := h1
            injection this with h1 h2
            exact ⟨h2, h1⟩
          obtain ⟨rfl, rfl⟩ := hu
          exact ⟨bs, [], by simp, ⟨v, rfl, h2⟩, ⟨rfl, rfl⟩⟩
        | cons c b =>
          obtain ⟨v', vs', b1, b2, h1, h2, h3, h4⟩ := h
          have hu : us = vs' ∧ v = v' := by
            have : v :: us = v' :: vs' := h1
            injection this with h1 h2
            exact ⟨h2, h1⟩
          obtain ⟨rfl, rfl⟩ := hu
          exact ⟨b1, b2, h2, ⟨v, rfl, h3⟩, h4⟩
      | cons s' a =>
        obtain ⟨v', vs', b1, b2, h1, h2, h3, h4⟩ := h
        have hu : vs ++ us = vs' ∧ v = v' := by
          have : v :: (vs ++ us) = v' :: vs' := h1
          injection this with h1 h2
          exact ⟨h2, h1⟩
        obtain ⟨rfl, rfl⟩ := hu
        obtain ⟨c1, c2, e1, e2, e3⟩ := ih (by simpa using hl) h4
        exact ⟨b1 ++ c1, c2, by rw [h2, e1, List.append_assoc], ⟨v, vs, b1, c1, rfl, rfl, h3, e2⟩, e3⟩

theorem mkL_split : ∀ {a b : List Sh} {x : TupR (a ++ b)} {n : Nat}, mkL (a ++ b) x n = mkL a (splitT a b x).1 n ++ mkL b (splitT a b x).2 (n + cntL a) := by
  intro a
  induction a with
  | nil => intro b x n; rfl
  | cons s a ih =>
    intro b x n
    cases a with
    | nil =>
      cases b with
      | nil => rfl
      | cons c b =>
        show mkC s x.1 n :: mkL (c :: b) x.2 (mkC s x.1 n).nx = [mkC s x.1 n] ++ mkL (c :: b) x.2 (n + (s.cnt + 0))
        rw [mkC_nx]; rfl
    | cons s' a =>
      show mkC s x.1 n :: mkL (s' :: a ++ b) x.2 (mkC s x.1 n).nx = (mkC s x.1 n :: mkL (s' :: a) _ (mkC s x.1 n).nx) ++ mkL b _ (n + (s.cnt + cntL (s' :: a)))
      rw [mkC_nx, ih, ← Nat.add_assoc]; rfl

theorem putSto_gone {ks : List Nat} {j : Nat} : putSto σ (gone ks) j = if j ∈ ks then none else σ j := by
  induction ks with
  | nil => simp [gone, putSto]
  | cons k ks ih =>
    simp only [gone, putSto, List.mem_cons]
    by_cases h : j = k
    · subst h; simp [Nat.beq_refl]
    · rw [show Nat.beq j k = false by rw [← Bool.not_eq_true]; exact fun hh => h (Nat.eq_of_beq_eq_true hh)]
      simp [h, ih]

theorem blk_owned {k b : Nat} {o : Obj} (h : ObjOK P fr w G k o) (hb : blk G k o = some b) : fr.owned b := by
  cases o with
  | box t c wr =>
    obtain ⟨b', cs, el, h1, _, _, _, _, _, _, h8⟩ := h
    simp only [blk, h1, Option.map_some, Option.some.injEq] at hb
    subst hb; exact h8
  | sl el t xs g wr =>
    obtain ⟨_, v, h1, h2⟩ := h
    simp only [blk, h1] at hb
    rcases h2 with ⟨rfl, _⟩ | ⟨b', cap, cs, rfl, _, _, _, _, h3, _⟩
    · cases hb
    · cases hb; exact h3
  | mp a b' es wr =>
    obtain ⟨v, h1, b'', ents, clock, rfl, _, _, _, _, _, h3⟩ := h
    simp only [blk, h1, Option.some.injEq] at hb
    subst hb; exact h3

theorem MemS.sub (hm : MemS P fr free σ w G) (hσ : ∀ k o, σ' k = some o → σ k = some o) : MemS P fr free σ' w G :=
  ⟨fun k o h => hm.objs k o (hσ k o h), fun i j o o' b h1 h2 => hm.sep i j o o' b (hσ i o h1) (hσ j o' h2), hm.after, fun k hk => by
    obtain ⟨h1, h2⟩ := hm.fresh k hk
    refine ⟨?_, h2⟩
    cases h : σ' k with
    | none => rfl
    | some o => rw [hσ k o h] at h1; cases h1⟩

/-- What a call leaves of the caller's objects. -/
theorem MemS.called (hm : MemS P fr free σ w G) {ks bs : List Nat} (hb : BlksOf σ G ks bs) {I' : Im} (ha : After (· ∈ bs) w G.im w' I') :
    GLe w G w' { G with im := I' } ∧ MemS P fr free (putSto σ (gone ks)) w' { G with im := I' } := by
  have hle : GLe w G w' { G with im := I' } := ⟨ha.ext, fun _ _ _ h => h, fun _ _ h => h, fun _ _ h => h⟩
  have hput : ∀ j o, putSto σ (gone ks) j = some o → j ∉ ks ∧ σ j = some o := by
    intro j o h
    rw [putSto_gone] at h
    by_cases hj : j ∈ ks
    · rw [if_pos hj] at h; cases h
    · rw [if_neg hj] at h; exact ⟨hj, h⟩
  refine ⟨hle, fun j o h => ?_, fun i j o o' b h1 h2 hb1 hb2 => ?_, ?_, fun j hj => ?_⟩
  · obtain ⟨hj, ho⟩ := hput j o h
    refine (hm.objs j o ho).keep hle fun b hbj => ?_
    have hlt := blk_lt (hm.objs j o ho) hbj
    have hnb : b ∉ bs := fun hbb => by
      obtain ⟨k, hk, o', ho', hbk⟩ := hb b hbb
      have := hm.sep j k o o' b ho ho' hbj hbk
      subst this
      exact hj hk
    refine ⟨ha.heap b hlt hnb, fun off hoff => ?_, fun hoff => ?_⟩
    · rcases ha.newC b off hoff with h | h | h
      · exact h
      · omega
      · exact absurd h hnb
    · rcases ha.newO b hoff with h | h | h
      · exact h
      · omega
      · exact absurd h hnb
  · obtain ⟨_, ho⟩ := hput i o h1
    obtain ⟨_, ho'⟩ := hput j o' h2
    exact hm.sep i j o o' b ho ho' hb1 hb2
  · refine hm.after.trans ha fun b hbb => ?_
    obtain ⟨k, hk, o', ho', hbk⟩ := hb b hbb
    exact (blk_owned (hm.objs k o' ho') hbk).symm
  · have hf := hm.fresh j hj
    refine ⟨?_, hf.2⟩
    rw [putSto_gone]
    split
    · rfl
    · exact hf.1

end
end Go.Ev
