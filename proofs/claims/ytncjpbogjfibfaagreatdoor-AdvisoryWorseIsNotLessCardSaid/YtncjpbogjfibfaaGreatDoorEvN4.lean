/-
  REGIONS: in the order of the text, and in whatever order.
-/
import Derived.Test.YtncjpbogjfibfaaGreatDoorEvN3
set_option linter.unusedVariables false
set_option linter.unusedSimpArgs false
namespace Go.Ev

section
variable {P : Program} {fr : Fr} {free free' : Nat → Prop} {self : Nat} {σ σ' : Nat → Option Obj} {w w' : World} {G G' : Gh} {I : Im}

theorem evRes_inv {Ω : Type} {tk : List (Nat × Bool)} {g : Bool} {r : OpRes} {K : Upd → Option Ω} {ω : Ω} (h : evRes tk g r K = some ω) :
    ∃ u, (g = true → Gives r u) ∧ (tk = [] → Gives r u) ∧ calm tk u = true ∧ K u = some ω := by
  unfold evRes at h
  split at h
  · rename_i u
    cases hc : calm tk u with
    | false => rw [hc] at h; cases h
    | true => rw [hc] at h; exact ⟨u, fun _ => .pure u, fun _ => .pure u, hc, h⟩
  · rename_i α m d f
    obtain ⟨x, h1, h2⟩ := Option.bind_eq_some_iff.1 h
    cases hc : calm tk (f x) with
    | false => rw [hc] at h2; cases h2
    | true =>
      rw [hc] at h2
      refine ⟨f x, fun hg => .may ?_, fun ht => .may ?_, hc, h2⟩
      · subst hg
        cases tk with
        | nil => exact h1
        | cons p r => exact h1
      · subst ht; exact h1

/-- What is asked of the guards of a region. -/
structure GuardsOK (all : Array Oper) : Prop where
  uniq : hasGuard all = true → ∀ (i j : Nat) (o p : Oper) (d : Nat), i < j → all[i]? = some o → all[j]? = some p → o.dst = some d → p.dst ≠ some d
  back : hasGuard all = true → ∀ (i : Nat) (o : Oper) (j : Nat) (b : Bool), all[i]? = some o → o.guard = some (j, b) → j < i

theorem hasGuard_of {all : Array Oper} {i : Nat} {o : Oper} {j : Nat} {b : Bool} (ho : all[i]? = some o) (hg : o.guard = some (j, b)) : hasGuard all = true := by
  unfold hasGuard
  rw [List.any_eq_true]
  exact ⟨o, by simpa using Array.mem_of_getElem? ho, by simp [hg]⟩

/-- The slots that tokens name, where S is what is done. -/
def DS (all : Array Oper) (S : Nat → Bool) : Nat → Prop := fun t => hasGuard all = true ∧ ∃ j o, S j = true ∧ all[j]? = some o ∧ o.dst = some t

theorem DS.mono {all : Array Oper} {S S' : Nat → Bool} {t : Nat} (h : DS all S t) (hs : ∀ j, S j = true → S' j = true) : DS all S' t :=
  ⟨h.1, let ⟨j, o, h1, h2, h3⟩ := h.2; ⟨j, o, hs j h1, h2, h3⟩⟩

theorem mem_guardSlots {all : Array Oper} {o : Oper} {t : Nat} (h : t ∈ guardSlots all o) : ∃ j b p, o.guard = some (j, b) ∧ all[j]? = some p ∧ p.dst = some t := by
  unfold guardSlots at h
  split at h
  · rename_i j b hg
    split at h
    · rename_i p hp
      exact ⟨j, b, p, hg, hp, by simpa using h⟩
    · cases h
  · cases h

theorem SimF.weaken {N : Nat} {D D' : Nat → Prop} {sl : Nat → SV} {a : Act} (h : SimF P N fr free D sl σ a w G) (hf : ∀ k, free' k → free k) (hD : ∀ t, D t → D' t) : SimF P N fr free' D' sl σ a w G :=
  ⟨h.slots, h.defs, h.size, h.fix, fun t tk g s hh => ⟨(h.toks t tk g s hh).1, fun p hp => hD _ ((h.toks t tk g s hh).2 p hp)⟩, h.mem.shrink hf⟩

/-- One step of the evaluation of a region. -/
theorem evOps_step {Ω : Type} {E : Env} {all : Array Oper} {draw : Bool} {n0 i : Nat} {o : Oper} {rest : List Oper} {st : St} {cl : List Nat} {K : St → List Nat → Option Ω} {ω : Ω}
    (h : evOps E all draw n0 (o :: rest) i st cl K = some ω) :
    ∃ tk g r u, guardToks all st.slots o = some (tk, g) ∧
      opF E (fun x => (evalO st.slots x).strip tk)
        (match o.op with | .pick c _ _ => fun x => (evalO st.slots x).strip (pickTok c true tk) | _ => fun x => (evalO st.slots x).strip tk)
        (match o.op with | .pick c _ _ => fun x => (evalO st.slots x).strip (pickTok c false tk) | _ => fun x => (evalO st.slots x).strip tk)
        (seen all draw n0 i (opClass (fun x => (evalO st.slots x).strip tk) o.op) st.sto) (n0 + 8 * i) o = some r ∧
      (g = true → Gives r u) ∧ (tk = [] → Gives r u) ∧ calm tk u = true ∧
      wrOK (seen all draw n0 i (opClass (fun x => (evalO st.slots x).strip tk) o.op) st.sto) (n0 + 8 * i) u = true ∧
      evOps E all draw n0 rest (i + 1) { slots := putSlot st.slots o.dst (mkGrd tk g u.sv), sto := putSto st.sto u.wr, n := st.n }
        ((bif u.local (n0 + 8 * i) then opClass (fun x => (evalO st.slots x).strip tk) o.op else 2) :: cl) K = some ω := by
  simp only [evOps] at h
  split at h
  · cases h
  · rename_i tk g hg
    split at h
    · cases h
    · rename_i r hr
      obtain ⟨u, h1, h2, h3, h4⟩ := evRes_inv h
      cases hw : wrOK (seen all draw n0 i (opClass (fun x => (evalO st.slots x).strip tk) o.op) st.sto) (n0 + 8 * i) u with
      | false => rw [hw] at h4; cases h4
      | true =>
        rw [hw] at h4
        exact ⟨tk, g, r, u, hg, hr, h1, h2, h3, hw, h4⟩

theorem evOps_text {Ω : Type} {E : Env} (hE : EnvOK P E) {N n0 : Nat} {all : Array Oper} (hgo : GuardsOK all) (hdst : ∀ (j : Nat) o d, all[j]? = some o → o.dst = some d → d < N ∧ fr.fx d = none)
    {K : St → List Nat → Option Ω} {ω : Ω} {Q : Exit → Act → World → Prop} :
    ∀ (ops : List Oper) (i : Nat) (st : St) (cl : List Nat) (a : Act) (w : World) (G : Gh), evOps E all false n0 ops i st cl K = some ω → all.toList.drop i = ops → i + ops.length = all.size →
      SimF P N fr (fun k => n0 + 8 * i ≤ k) (DS all (fun j => decide (j < i))) st.slots st.sto a w G →
      (∀ st' cl' a' w' G', SimF P N fr (fun k => n0 + 8 * all.size ≤ k) (DS all (fun j => decide (j < all.size))) st'.slots st'.sto a' w' G' → st'.n = st.n → K st' cl' = some ω → Q .normal a' w') →
      wpOps P all Q (List.range' i ops.length) a w := by
  intro ops
  induction ops with
  | nil =>
    intro i st cl a w G h hdr hl hs hQ
    simp only [List.length_nil, Nat.add_zero] at hl
    subst hl
    exact hQ st cl a w G hs rfl h
  | cons o rest ih =>
    intro i st cl a w G h hdr hl hs hQ
    obtain ⟨tk, g, r, u, h1, h2, h3, h4, h5, h6, h7⟩ := evOps_step h
    have ho : all[i]? = some o := by
      have := congrArg List.head? hdr
      rw [List.head?_drop] at this
      simpa using this
    simp only [List.length_cons, List.range'_succ]
    rw [wpOps_cons]
    refine op_step hE ho (self := n0 + 8 * i) hs (fun t _ => rfl) ?_ ?_ h1 ?_ (fun k hk _ => hk) h2 h3 h4 h5 ?_
    · intro t ht
      obtain ⟨j, b, p, hg, hp, hd⟩ := mem_guardSlots ht
      have hh := hasGuard_of ho hg
      exact ⟨hh, j, p, by simpa using hgo.back hh i o j b ho hg, hp, hd⟩
    · intro d hd
      refine ⟨hdst i o d ho hd, fun hD => ?_⟩
      obtain ⟨hh, j, p, hj, hp, hpd⟩ := hD
      exact hgo.uniq hh j i p o d (by simpa using hj) hp ho hpd hd
    · intro k ob hk
      unfold seen at hk
      cases hc : Nat.beq (opClass (fun x => (evalO st.slots x).strip tk) o.op) 0 with
      | true => rw [hc] at hk; cases hk
      | false => rw [hc] at hk; exact hk
    · intro a' w' G' _ hs'
      refine ih (i + 1) _ _ a' w' G' h7 ?_ (by simp only [List.length_cons] at hl; omega) ?_ (fun st' cl' a' w' G' hs' hn hK => hQ st' cl' a' w' G' hs' hn hK)
      · have := congrArg List.tail hdr
        simpa [List.tail_drop] using this
      · refine hs'.weaken (fun k hk => ⟨by omega, ?_⟩) fun t ht => ht.mono fun j hj => by simp only [decide_eq_true_eq] at hj ⊢; omega
        simp only [inSelf, Bool.and_eq_false_iff]
        right
        rw [← Bool.not_eq_true, Nat.blt_eq]; omega

/-! ## Whatever order -/
structure Info where
  tk : List (Nat × Bool)
  g : Bool
  u : Upd
  c : Nat

def slF (all : Array Oper) (L : Nat → Info) (S : Nat → Bool) (sl0 : Nat → SV) : Nat → Nat → SV
  | 0 => sl0
  | i + 1 => bif S i then putSlot (slF all L S sl0 i) (all.getD i default).dst (mkGrd (L i).tk (L i).g (L i).u.sv) else slF all L S sl0 i

def stF (L : Nat → Info) (S : Nat → Bool) (σ0 : Nat → Option Obj) : Nat → Nat → Option Obj
  | 0 => σ0
  | i + 1 => bif S i then putSto (stF L S σ0 i) (L i).u.wr else stF L S σ0 i

def keysW (l : List (Nat × Option Obj)) : List Nat := l.map (·.1)

theorem putSto_off {σ : Nat → Option Obj} : ∀ {l : List (Nat × Option Obj)} {k : Nat}, k ∉ keysW l → putSto σ l k = σ k := by
  intro l
  induction l with
  | nil => intro k _; rfl
  | cons p r ih =>
    intro k h
    obtain ⟨j, o⟩ := p
    simp only [keysW, List.map_cons, List.mem_cons, not_or] at h
    simp only [putSto]
    rw [show Nat.beq k j = false by rw [← Bool.not_eq_true]; exact fun hh => h.1 (Nat.eq_of_beq_eq_true hh)]
    exact ih h.2

theorem putSto_on {σ σ' : Nat → Option Obj} : ∀ {l : List (Nat × Option Obj)} {k : Nat}, k ∈ keysW l → putSto σ l k = putSto σ' l k := by
  intro l
  induction l with
  | nil => intro k h; cases h
  | cons p r ih =>
    intro k h
    obtain ⟨j, o⟩ := p
    simp only [putSto]
    cases hb : Nat.beq k j with
    | true => rfl
    | false =>
      simp only [cond_false]
      refine ih ?_
      simp only [keysW, List.map_cons, List.mem_cons] at h
      rcases h with rfl | h
      · rw [Nat.beq_refl] at hb; cases hb
      · exact h

theorem slF_eq {all : Array Oper} {L : Nat → Info} {S S' : Nat → Bool} {sl0 : Nat → SV} {t : Nat} : ∀ {n : Nat}, (∀ j, j < n → (all.getD j default).dst = some t → S j = S' j) → slF all L S sl0 n t = slF all L S' sl0 n t := by
  intro n
  induction n with
  | zero => intro _; rfl
  | succ n ih =>
    intro h
    have ih := ih fun j hj => h j (by omega)
    have key : ∀ S, slF all L S sl0 (n + 1) t = if S n = true ∧ (all.getD n default).dst = some t then mkGrd (L n).tk (L n).g (L n).u.sv else slF all L S sl0 n t := by
      intro S
      simp only [slF]
      cases hS : S n with
      | false => simp
      | true => simp only [cond_true, putSlot_eq, true_and]
    rw [key, key, ih]
    by_cases hd : (all.getD n default).dst = some t
    · rw [h n (by omega) hd]
    · rw [if_neg (fun h => hd h.2), if_neg (fun h => hd h.2)]

theorem stF_eq {L : Nat → Info} {S S' : Nat → Bool} {σ0 : Nat → Option Obj} {k : Nat} : ∀ {n : Nat}, (∀ j, j < n → k ∈ keysW (L j).u.wr → S j = S' j) → stF L S σ0 n k = stF L S' σ0 n k := by
  intro n
  induction n with
  | zero => intro _; rfl
  | succ n ih =>
    intro h
    have ih := ih fun j hj => h j (by omega)
    simp only [stF]
    by_cases hk : k ∈ keysW (L n).u.wr
    · rw [h n (by omega) hk]
      cases S' n with
      | true => exact putSto_on hk
      | false => exact ih
    · have key : ∀ S, (bif S n then putSto (stF L S σ0 n) (L n).u.wr else stF L S σ0 n) k = stF L S σ0 n k := by
        intro S
        cases S n with
        | true => exact putSto_off hk
        | false => rfl
      rw [key, key, ih]

theorem slF_upto {all : Array Oper} {L : Nat → Info} {S : Nat → Bool} {sl0 : Nat → SV} {i : Nat} : ∀ {n : Nat}, i ≤ n → (∀ j, j < i → S j = true) → (∀ j, i ≤ j → j < n → S j = false) → slF all L S sl0 n = slF all L (fun _ => true) sl0 i := by
  intro n
  induction n with
  | zero => intro h _ _; have : i = 0 := by omega
            subst this; rfl
  | succ n ih =>
    intro hi h1 h2
    by_cases h : i = n + 1
    · subst h
      have : slF all L S sl0 n = slF all L (fun _ => true) sl0 n := by
        funext t
        exact slF_eq fun j hj _ => by rw [h1 j (by omega)]
      simp only [slF, h1 n (by omega), this]
    · simp only [slF, h2 n (by omega) (by omega), cond_false]
      exact ih (by omega) h1 (fun j hj hn => h2 j hj (by omega))

theorem stF_upto {L : Nat → Info} {S : Nat → Bool} {σ0 : Nat → Option Obj} {i : Nat} : ∀ {n : Nat}, i ≤ n → (∀ j, j < i → S j = true) → (∀ j, i ≤ j → j < n → S j = false) → stF L S σ0 n = stF L (fun _ => true) σ0 i := by
  intro n
  induction n with
  | zero => intro h _ _; have : i = 0 := by omega
            subst this; rfl
  | succ n ih =>
    intro hi h1 h2
    by_cases h : i = n + 1
    · subst h
      have : stF L S σ0 n = stF L (fun _ => true) σ0 n := by
        funext t
        exact stF_eq fun j hj _ => by rw [h1 j (by omega)]
      simp only [stF, h1 n (by omega), this]
    · simp only [stF, h2 n (by omega) (by omega), cond_false]
      exact ih (by omega) h1 (fun j hj hn => h2 j hj (by omega))

/-- Where i writes t last, t holds what i wrote. -/
theorem slF_last {all : Array Oper} {L : Nat → Info} {S : Nat → Bool} {sl0 : Nat → SV} {t i : Nat} (hi : S i = true) (hd : (all.getD i default).dst = some t) :
    ∀ {n : Nat}, i < n → (∀ j, i < j → j < n → (all.getD j default).dst = some t → S j = false) → slF all L S sl0 n t = mkGrd (L i).tk (L i).g (L i).u.sv := by
  intro n
  induction n with
  | zero => intro h; omega
  | succ n ih =>
    intro hn h
    simp only [slF]
    by_cases e : i = n
    · subst e
      rw [hi]; simp only [cond_true, putSlot_eq, hd, if_true]
    · have ih := ih (by omega) fun j h1 h2 => h j h1 (by omega)
      by_cases hd' : (all.getD n default).dst = some t
      · rw [h n (by omega) (by omega) hd']; exact ih
      · cases S n with
        | true => simp only [cond_true, putSlot_eq, hd', if_false]; exact ih
        | false => exact ih

theorem stF_last {L : Nat → Info} {S : Nat → Bool} {σ0 σ : Nat → Option Obj} {k i : Nat} (hi : S i = true) (hd : k ∈ keysW (L i).u.wr) :
    ∀ {n : Nat}, i < n → (∀ j, i < j → j < n → k ∈ keysW (L j).u.wr → S j = false) → stF L S σ0 n k = putSto σ (L i).u.wr k := by
  intro n
  induction n with
  | zero => intro h; omega
  | succ n ih =>
    intro hn h
    simp only [stF]
    by_cases e : i = n
    · subst e
      rw [hi]; exact putSto_on hd
    · have ih := ih (by omega) fun j h1 h2 => h j h1 (by omega)
      by_cases hd' : k ∈ keysW (L n).u.wr
      · rw [h n (by omega) (by omega) hd']; exact ih
      · cases S n with
        | true => exact (putSto_off hd').trans ih
        | false => exact ih

theorem slF_congr {all : Array Oper} {L L' : Nat → Info} {S : Nat → Bool} {sl0 : Nat → SV} : ∀ {n : Nat}, (∀ j, j < n → L j = L' j) → slF all L S sl0 n = slF all L' S sl0 n := by
  intro n
  induction n with
  | zero => intro _; rfl
  | succ n ih => intro h; simp only [slF, ih fun j hj => h j (by omega), h n (by omega)]

theorem stF_congr {L L' : Nat → Info} {S : Nat → Bool} {σ0 : Nat → Option Obj} : ∀ {n : Nat}, (∀ j, j < n → L j = L' j) → stF L S σ0 n = stF L' S σ0 n := by
  intro n
  induction n with
  | zero => intro _; rfl
  | succ n ih => intro h; simp only [stF, ih fun j hj => h j (by omega), h n (by omega)]

/-- What the evaluation says of one operation. -/
structure Fact (E : Env) (all : Array Oper) (n0 : Nat) (L : Nat → Info) (sl0 : Nat → SV) (σ0 : Nat → Option Obj) (i : Nat) (o : Oper) (r : OpRes) : Prop where
  op : all[i]? = some o
  grd : guardToks all (slF all L (fun _ => true) sl0 i) o = some ((L i).tk, (L i).g)
  val : opF E (fun x => (evalO (slF all L (fun _ => true) sl0 i) x).strip (L i).tk)
        (match o.op with | .pick c _ _ => fun x => (evalO (slF all L (fun _ => true) sl0 i) x).strip (pickTok c true (L i).tk) | _ => fun x => (evalO (slF all L (fun _ => true) sl0 i) x).strip (L i).tk)
        (match o.op with | .pick c _ _ => fun x => (evalO (slF all L (fun _ => true) sl0 i) x).strip (pickTok c false (L i).tk) | _ => fun x => (evalO (slF all L (fun _ => true) sl0 i) x).strip (L i).tk)
        (seen all true n0 i (opClass (fun x => (evalO (slF all L (fun _ => true) sl0 i) x).strip (L i).tk) o.op) (stF L (fun _ => true) σ0 i)) (n0 + 8 * i) o = some r
  gives : (L i).g = true → Gives r (L i).u
  gives' : (L i).tk = [] → Gives r (L i).u
  calm : calm (L i).tk (L i).u = true
  wr : wrOK (seen all true n0 i (opClass (fun x => (evalO (slF all L (fun _ => true) sl0 i) x).strip (L i).tk) o.op) (stF L (fun _ => true) σ0 i)) (n0 + 8 * i) (L i).u = true
  cls : (L i).c = (bif (L i).u.local (n0 + 8 * i) then opClass (fun x => (evalO (slF all L (fun _ => true) sl0 i) x).strip (L i).tk) o.op else 2)

theorem Fact.congr {E : Env} {all : Array Oper} {n0 : Nat} {L L' : Nat → Info} {sl0 : Nat → SV} {σ0 : Nat → Option Obj} {i : Nat} {o : Oper} {r : OpRes}
    (h : Fact E all n0 L sl0 σ0 i o r) (hl : ∀ j, j ≤ i → L j = L' j) : Fact E all n0 L' sl0 σ0 i o r := by
  have e1 := slF_congr (all := all) (S := fun _ => true) (sl0 := sl0) (n := i) fun j hj => hl j (by omega)
  have e2 := stF_congr (S := fun _ => true) (σ0 := σ0) (n := i) fun j hj => hl j (by omega)
  have e3 := hl i (Nat.le_refl _)
  exact ⟨h.op, by rw [← e1, ← e3]; exact h.grd, by rw [← e1, ← e2, ← e3]; exact h.val, by rw [← e3]; exact h.gives, by rw [← e3]; exact h.gives', by rw [← e3]; exact h.calm,
    by rw [← e1, ← e2, ← e3]; exact h.wr, by rw [← e1, ← e3]; exact h.cls⟩

theorem evOps_facts {Ω : Type} {E : Env} {n0 : Nat} {all : Array Oper} {K : St → List Nat → Option Ω} {ω : Ω} {sl0 : Nat → SV} {σ0 : Nat → Option Obj} :
    ∀ (ops : List Oper) (i : Nat) (st : St) (L : Nat → Info), evOps E all true n0 ops i st (((List.range i).map fun j => (L j).c).reverse) K = some ω → all.toList.drop i = ops → i + ops.length = all.size →
      st.slots = slF all L (fun _ => true) sl0 i → st.sto = stF L (fun _ => true) σ0 i → (∀ j, j < i → ∃ o r, Fact E all n0 L sl0 σ0 j o r) →
      ∃ L' : Nat → Info, (∀ j, j < all.size → ∃ o r, Fact E all n0 L' sl0 σ0 j o r) ∧
        K { slots := slF all L' (fun _ => true) sl0 all.size, sto := stF L' (fun _ => true) σ0 all.size, n := st.n } (((List.range all.size).map fun j => (L' j).c).reverse) = some ω := by
  intro ops
  induction ops with
  | nil =>
    intro i st L h hdr hl h1 h2 h3
    simp only [List.length_nil, Nat.add_zero] at hl
    subst hl
    refine ⟨L, h3, ?_⟩
    rw [← h1, ← h2]; exact h
  | cons o rest ih =>
    intro i st L h hdr hl h1 h2 h3
    obtain ⟨tk, g, r, u, k1, k2, k3, k4, k5, k6, k7⟩ := evOps_step h
    have ho : all[i]? = some o := by
      have := congrArg List.head? hdr
      rw [List.head?_drop] at this
      simpa using this
    let c := bif u.local (n0 + 8 * i) then opClass (fun x => (evalO st.slots x).strip tk) o.op else 2
    let L' : Nat → Info := fun j => if j = i then ⟨tk, g, u, c⟩ else L j
    have hL : ∀ j, j < i → L j = L' j := fun j hj => by simp [L', Nat.ne_of_lt hj]
    have hLi : L' i = ⟨tk, g, u, c⟩ := by simp [L']
    have e1 := slF_congr (all := all) (S := fun _ => true) (sl0 := sl0) (n := i) hL
    have e2 := stF_congr (S := fun _ => true) (σ0 := σ0) (n := i) hL
    have s1 : st.slots = slF all L' (fun _ => true) sl0 i := h1.trans e1
    have s2 : st.sto = stF L' (fun _ => true) σ0 i := h2.trans e2
    have hget : all.getD i default = o := by
      rw [Array.getD_eq_getD_getElem?, ho]; rfl
    have := ih (i + 1) { slots := putSlot st.slots o.dst (mkGrd tk g u.sv), sto := putSto st.sto u.wr, n := st.n } L' ?_ ?_ ?_ ?_ ?_ ?_
    · exact this
    · have : ((List.range (i + 1)).map fun j => (L' j).c).reverse = c :: ((List.range i).map fun j => (L j).c).reverse := by
        rw [List.range_succ, List.map_append, List.reverse_append]
        simp only [List.map_cons, List.map_nil, List.reverse_cons, List.reverse_nil, List.nil_append, List.singleton_append, hLi, List.cons.injEq, true_and]
        congr 1
        exact List.map_congr_left fun j hj => by rw [hL j (List.mem_range.1 hj)]
      rw [this]; exact k7
    · have := congrArg List.tail hdr
      simpa [List.tail_drop] using this
    · simp only [List.length_cons] at hl; omega
    · simp only [slF, hLi, cond_true, hget, ← s1]
    · simp only [stF, hLi, cond_true, ← s2]
    · intro j hj
      by_cases e : j = i
      · subst e
        refine ⟨o, r, ho, ?_, ?_, ?_, ?_, ?_, ?_, ?_⟩
        · rw [hLi, ← s1]; exact k1
        · rw [hLi, ← s1, ← s2]; exact k2
        · rw [hLi]; exact k3
        · rw [hLi]; exact k4
        · rw [hLi]; exact k5
        · rw [hLi, ← s1, ← s2]; exact k6
        · rw [hLi, ← s1]
      · obtain ⟨o', r', hf⟩ := h3 j (by omega)
        exact ⟨o', r', hf.congr fun j' hj' => hL j' (by omega)⟩

end
end Go.Ev
