/-
  REGIONS in whatever order.
-/
import Derived.Test.YtncjpbogjfibfaaGreatDoorEvN4
set_option linter.unusedVariables false
set_option linter.unusedSimpArgs false
namespace Go.Ev

/-! ## What comes before what -/
section
variable {all : Array Oper}

def edgeBits (acc : Array Nat) (l : List Edge) (s : Nat) : Nat := l.foldl (fun s e => if Region.binds .any e then s ||| 2 ^ e.on ||| acc.getD e.on 0 else s) s

theorem edgeBits_bit {acc : Array Nat} {i : Nat} : ∀ {l : List Edge} {s : Nat}, (edgeBits acc l s).testBit i = true →
    s.testBit i = true ∨ ∃ e ∈ l, Region.binds .any e = true ∧ (e.on = i ∨ (acc.getD e.on 0).testBit i = true) := by
  intro l
  induction l with
  | nil => intro s h; exact .inl h
  | cons e r ih =>
    intro s h
    simp only [edgeBits, List.foldl_cons] at h
    rcases ih h with h | ⟨e', h1, h2⟩
    · by_cases hb : Region.binds .any e = true
      · rw [if_pos hb] at h
        simp only [Nat.testBit_or, Bool.or_eq_true, Nat.testBit_two_pow, decide_eq_true_eq] at h
        rcases h with (h | h) | h
        · exact .inl h
        · exact .inr ⟨e, List.mem_cons_self, hb, .inl h⟩
        · exact .inr ⟨e, List.mem_cons_self, hb, .inr h⟩
      · rw [if_neg hb] at h; exact .inl h
    · exact .inr ⟨e', List.mem_cons_of_mem _ h1, h2⟩

def befF (acc : Array Nat) (o : Oper) : Array Nat := acc.push (edgeBits acc o.after.toList 0)

theorem before_eq (all : Array Oper) : Region.before all = all.toList.foldl befF #[] := by
  unfold Region.before
  rw [← Array.foldl_toList]
  congr 1
  funext acc o
  simp only [befF, edgeBits, Array.foldl_toList]

theorem befF_spec : ∀ (l : List Oper) (acc : Array Nat), (l.foldl befF acc).size = acc.size + l.length ∧ (∀ k, k < acc.size → (l.foldl befF acc).getD k 0 = acc.getD k 0) ∧
    ∀ (j : Nat) (o : Oper), l[j]? = some o → ∃ acc' : Array Nat, (∀ k, k < acc.size + j → acc'.getD k 0 = (l.foldl befF acc).getD k 0) ∧ (l.foldl befF acc).getD (acc.size + j) 0 = edgeBits acc' o.after.toList 0 := by
  intro l
  induction l with
  | nil => intro acc; exact ⟨rfl, fun _ _ => rfl, fun j o h => by cases h⟩
  | cons o l ih =>
    intro acc
    obtain ⟨h1, h2, h3⟩ := ih (befF acc o)
    have hsz : (befF acc o).size = acc.size + 1 := by simp [befF]
    have hlow : ∀ k, k < acc.size → (befF acc o).getD k 0 = acc.getD k 0 := by
      intro k hk
      simp [befF, Array.getD_eq_getD_getElem?, Array.getElem?_push, Nat.ne_of_lt hk]
    simp only [List.foldl_cons]
    refine ⟨by rw [h1, hsz, List.length_cons]; omega, fun k hk => by rw [h2 k (by omega), hlow k hk], fun j p hj => ?_⟩
    cases j with
    | zero =>
      have : o = p := by simpa using hj
      subst this
      refine ⟨acc, fun k hk => by rw [h2 k (by omega), hlow k (by omega)], ?_⟩
      rw [h2 _ (by omega)]
      simp [befF, Array.getD_eq_getD_getElem?]
    | succ j =>
      obtain ⟨acc', k1, k2⟩ := h3 j p (by simpa using hj)
      refine ⟨acc', fun k hk => k1 k (by omega), ?_⟩
      rw [show acc.size + (j + 1) = (befF acc o).size + j by omega]
      exact k2

/-- Edges go back. -/
def Back (all : Array Oper) : Prop := ∀ (i : Nat) o, all[i]? = some o → ∀ e ∈ o.after, Region.binds .any e = true → e.on < i

def bits (all : Array Oper) (i : Nat) : Nat := (Region.before all).getD i 0

theorem bits_spec (hb : Back all) {j i : Nat} {o : Oper} (ho : all[j]? = some o) (h : (bits all j).testBit i = true) :
    ∃ e ∈ o.after, Region.binds .any e = true ∧ (e.on = i ∨ (bits all e.on).testBit i = true) := by
  obtain ⟨_, _, h3⟩ := befF_spec all.toList #[]
  obtain ⟨acc', k1, k2⟩ := h3 j o (by simpa using ho)
  unfold bits at h
  rw [before_eq] at h
  simp only [List.size_toArray, List.length_nil, Nat.zero_add] at k1 k2
  rw [k2] at h
  rcases edgeBits_bit h with h | ⟨e, h1, h2, h4⟩
  · simp at h
  · have hmem : e ∈ o.after := by simpa using h1
    refine ⟨e, hmem, h2, h4.imp id fun h => ?_⟩
    have hlt := hb j o ho e hmem h2
    rw [k1 e.on hlt] at h
    unfold bits
    rw [before_eq]; exact h

/-- What is done, is done behind what comes before it. -/
def Down (all : Array Oper) (S : Nat → Bool) : Prop := ∀ (j : Nat) o, S j = true → all[j]? = some o → ∀ e ∈ o.after, Region.binds .any e = true → S e.on = true

theorem bits_in (hb : Back all) {S : Nat → Bool} (hd : Down all S) : ∀ (n j : Nat) (o : Oper), j < n → all[j]? = some o → (∀ e ∈ o.after, Region.binds .any e = true → S e.on = true) →
    ∀ i, (bits all j).testBit i = true → S i = true ∧ i < j := by
  intro n
  induction n with
  | zero => intro j o h; omega
  | succ n ih =>
    intro j o hj ho hall i h
    obtain ⟨e, he, hbd, h1⟩ := bits_spec hb ho h
    have hlt := hb j o ho e he hbd
    have hS := hall e he hbd
    rcases h1 with h1 | h1
    · subst h1; exact ⟨hS, hlt⟩
    · have hsz : j < all.size := (Array.getElem?_eq_some_iff.1 ho).1
      have hp : all[e.on]? = some all[e.on] := Array.getElem?_eq_getElem (by omega)
      obtain ⟨k1, k2⟩ := ih e.on _ (by omega) hp (fun e' he' hb' => hd e.on _ hS hp e' he' hb') i h1
      exact ⟨k1, by omega⟩

/-- What orderOK says. -/
structure OrdOK (all : Array Oper) (c : Nat → Nat) : Prop where
  back : Back all
  slot : ∀ (i j : Nat) (o p : Oper) (t : Nat), all[i]? = some o → all[j]? = some p → i ≠ j → o.dst = some t → t ∈ namesOf all p → (i < j ∧ (bits all j).testBit i = true) ∨ (j < i ∧ (bits all i).testBit j = true)
  mem : ∀ (i j : Nat) (o p : Oper), all[i]? = some o → all[j]? = some p → i ≠ j → c i = 2 → c j ≠ 0 → (i < j ∧ (bits all j).testBit i = true) ∨ (j < i ∧ (bits all i).testBit j = true)

theorem ordered_ok {i j : Nat} (hne : i ≠ j) (h : ordered (Region.before all) i j = true) : (i < j ∧ (bits all j).testBit i = true) ∨ (j < i ∧ (bits all i).testBit j = true) := by
  unfold ordered at h
  cases hb : Nat.blt i j with
  | true =>
    rw [hb] at h
    exact .inl ⟨by rwa [Nat.blt_eq] at hb, h⟩
  | false =>
    rw [hb] at h
    refine .inr ⟨?_, h⟩
    rw [← Bool.not_eq_true, Nat.blt_eq] at hb
    omega

theorem orderOK_ok {cl : List Nat} {c : Nat → Nat} (hc : cl = (List.range all.size).map c) (h : orderOK all cl = true) : OrdOK all c := by
  unfold orderOK at h
  simp only [Bool.and_eq_true, List.all_eq_true, List.mem_range] at h
  obtain ⟨h1, h2⟩ := h
  have hget : ∀ {i : Nat} {o : Oper}, all[i]? = some o → i < all.size ∧ all.getD i default = o := fun {i o} ho =>
    ⟨(Array.getElem?_eq_some_iff.1 ho).1, by rw [Array.getD_eq_getD_getElem?, ho]; rfl⟩
  have hcl : ∀ i, i < all.size → cl.getD i 0 = c i := by
    intro i hi
    rw [hc, List.getD_eq_getElem?_getD, List.getElem?_map, List.getElem?_range hi]
    rfl
  refine ⟨fun i o ho e he hb => ?_, fun i j o p t ho hp hne hd hn => ?_, fun i j o p ho hp hne h3 h4 => ?_⟩
  · obtain ⟨hi, hg⟩ := hget ho
    have := h1 i hi
    rw [hg] at this
    have := this e (by simpa using he)
    rw [hb] at this
    simpa [Nat.blt_eq] using this
  · obtain ⟨hi, hg⟩ := hget ho
    obtain ⟨hj, hg'⟩ := hget hp
    have := h2 i hi j hj
    rw [hg, hg', hd] at this
    have hbeq : Nat.beq i j = false := by rw [← Bool.not_eq_true]; exact fun hh => hne (Nat.eq_of_beq_eq_true hh)
    rw [hbeq] at this
    simp only [Bool.false_or, Bool.and_eq_true, Bool.or_eq_true, Bool.not_eq_true'] at this
    rcases this.1 with h | h
    · exact absurd hn (by simpa using h)
    · exact ordered_ok hne h
  · obtain ⟨hi, hg⟩ := hget ho
    obtain ⟨hj, hg'⟩ := hget hp
    have := h2 i hi j hj
    have hbeq : Nat.beq i j = false := by rw [← Bool.not_eq_true]; exact fun hh => hne (Nat.eq_of_beq_eq_true hh)
    rw [hbeq, hcl i hi, hcl j hj, h3] at this
    simp only [Bool.false_or, Bool.and_eq_true, Bool.or_eq_true, Bool.not_eq_true'] at this
    rcases this.2 with (h | h) | h
    · simp [Nat.beq_refl] at h
    · exact absurd (Nat.eq_of_beq_eq_true h) h4
    · exact ordered_ok hne h
end

section
variable {P : Program} {fr : Fr} {free free' : Nat → Prop} {self : Nat} {σ σ' : Nat → Option Obj} {w w' : World} {G G' : Gh} {I : Im}

theorem mem_namesOf {all : Array Oper} {o : Oper} {t : Nat} (h : t ∈ argSlots o ∨ t ∈ guardSlots all o ∨ o.dst = some t) : t ∈ namesOf all o := by
  unfold namesOf
  simp only [List.mem_append]
  rcases h with h | h | h
  · exact .inl (.inl h)
  · refine .inl (.inr ?_)
    unfold guardSlots at h
    exact h
  · exact .inr (by rw [h]; simp)

theorem upd_local {self : Nat} {u : Upd} (h : u.local self = true) {k : Nat} (hk : k ∈ keysW u.wr) : self ≤ k ∧ k < self + 8 := by
  unfold Upd.local at h
  rw [List.all_eq_true] at h
  obtain ⟨p, hp, rfl⟩ := List.mem_map.1 hk
  have := h p hp
  simp only [inSelf, Bool.and_eq_true, Nat.ble_eq, Nat.blt_eq] at this
  exact this

theorem upd_wr {σ : Nat → Option Obj} {self : Nat} {u : Upd} (h : wrOK σ self u = true) {k : Nat} (hk : k ∈ keysW u.wr) : (self ≤ k ∧ k < self + 8) ∨ (σ k).isSome = true := by
  unfold wrOK at h
  rw [List.all_eq_true] at h
  obtain ⟨p, hp, rfl⟩ := List.mem_map.1 hk
  have := h p hp
  simp only [inSelf, Bool.or_eq_true, Bool.and_eq_true, Nat.ble_eq, Nat.blt_eq] at this
  exact this

theorem seen_some {all : Array Oper} {n0 i c : Nat} {σ : Nat → Option Obj} {k : Nat} (h : (seen all true n0 i c σ k).isSome = true) :
    c ≠ 0 ∧ seen all true n0 i c σ k = σ k ∧ (k < n0 ∨ (bits all i).testBit ((k - n0) / 8) = true) := by
  unfold seen at h ⊢
  cases hc : Nat.beq c 0 with
  | true => rw [hc] at h; cases h
  | false =>
    rw [hc] at h
    simp only [cond_false, cond_true] at h ⊢
    refine ⟨fun e => (by subst e; cases hc), ?_⟩
    cases hb : (Nat.blt k n0 || ((Region.before all).getD i 0).testBit ((k - n0) / 8)) with
    | false => rw [hb] at h; cases h
    | true =>
      refine ⟨rfl, ?_⟩
      rw [Bool.or_eq_true, Nat.blt_eq] at hb
      exact hb

def freeS (n0 : Nat) (S : Nat → Bool) (n : Nat) : Nat → Prop := fun k => n0 ≤ k ∧ ∀ j, j < n → S j = true → ¬ (n0 + 8 * j ≤ k ∧ k < n0 + 8 * j + 8)

theorem set_get {listed : Array Bool} {i j : Nat} (hi : i < listed.size) : (listed.setIfInBounds i true).getD j false = (decide (j = i) || listed.getD j false) := by
  by_cases h : j = i
  · subst h; simp [hi]
  · rw [getD_set_ne false (fun e => h e.symm)]; simp [h]

theorem any_ok {E : Env} (hE : EnvOK P E) {N n0 : Nat} {all : Array Oper} (hgo : GuardsOK all) (hdst : ∀ (j : Nat) o d, all[j]? = some o → o.dst = some d → d < N ∧ fr.fx d = none)
    {L : Nat → Info} {sl0 : Nat → SV} {σ0 : Nat → Option Obj} (hF : ∀ j, j < all.size → ∃ o r, Fact E all n0 L sl0 σ0 j o r) (hO : OrdOK all fun i => (L i).c) {Q : Exit → Act → World → Prop}
    (hQ : ∀ a' w' G', SimF P N fr (fun k => n0 + 8 * all.size ≤ k) (DS all (fun _ => true)) (slF all L (fun _ => true) sl0 all.size) (stF L (fun _ => true) σ0 all.size) a' w' G' → Q .normal a' w') :
    ∀ (fuel : Nat) (listed : Array Bool) (a : Act) (w : World) (G : Gh), listed.size = all.size → ((List.range all.size).filter fun j => !listed.getD j false).length ≤ fuel →
      Down all (fun j => listed.getD j false) →
      SimF P N fr (freeS n0 (fun j => listed.getD j false) all.size) (DS all (fun j => listed.getD j false)) (slF all L (fun j => listed.getD j false) sl0 all.size) (stF L (fun j => listed.getD j false) σ0 all.size) a w G →
      wpAny P .any all Q fuel listed a w := by
  have hgetD : ∀ {i : Nat} {o : Oper}, all[i]? = some o → i < all.size ∧ all.getD i default = o := fun {i o} ho =>
    ⟨(Array.getElem?_eq_some_iff.1 ho).1, by rw [Array.getD_eq_getD_getElem?, ho]; rfl⟩
  -- nothing is ready: all is done
  have hdone : ∀ (listed : Array Bool), listed.size = all.size → Region.ready .any all listed = [] → ∀ j, j < all.size → listed.getD j false = true := by
    intro listed hsz hr
    have : ∀ n j, j < n → j < all.size → listed.getD j false = true := by
      intro n
      induction n with
      | zero => intro j h; omega
      | succ n ih =>
        intro j hj hja
        apply Classical.byContradiction
        intro hn
        have hm : j ∈ Region.ready .any all listed := by
          rw [mem_ready]
          refine ⟨?_, all[j], Array.getElem?_eq_getElem hja, fun e he hb => ?_⟩
          · have hj' : j < listed.size := by omega
            simp only [Array.getD_eq_getD_getElem?, Array.getElem?_eq_getElem hj', Option.getD_some, Bool.not_eq_true] at hn ⊢
            exact hn
          · have hlt := hO.back j _ (Array.getElem?_eq_getElem hja) e he hb
            exact ih e.on (by omega) (by omega)
        rw [hr] at hm; cases hm
    intro j hj
    exact this (j + 1) j (by omega) hj
  have hfin : ∀ (listed : Array Bool) (a : Act) (w : World) (G : Gh), (∀ j, j < all.size → listed.getD j false = true) →
      SimF P N fr (freeS n0 (fun j => listed.getD j false) all.size) (DS all (fun j => listed.getD j false)) (slF all L (fun j => listed.getD j false) sl0 all.size) (stF L (fun j => listed.getD j false) σ0 all.size) a w G → Q .normal a w := by
    intro listed a w G hall hs
    have e1 : slF all L (fun j => listed.getD j false) sl0 all.size = slF all L (fun _ => true) sl0 all.size := by
      funext t; exact slF_eq fun j hj _ => hall j hj
    have e2 : stF L (fun j => listed.getD j false) σ0 all.size = stF L (fun _ => true) σ0 all.size := by
      funext t; exact stF_eq fun j hj _ => hall j hj
    rw [e1, e2] at hs
    exact hQ a w G (hs.weaken (fun k hk => ⟨by omega, fun j hj _ => by omega⟩) fun t ht => ht.mono fun _ _ => rfl)
  intro fuel
  induction fuel with
  | zero =>
    intro listed a w G hsz hfu hdn hs
    have hall : ∀ j, j < all.size → listed.getD j false = true := by
      intro j hj
      apply Classical.byContradiction
      intro hn
      have : j ∈ (List.range all.size).filter fun j => !listed.getD j false := List.mem_filter.2 ⟨List.mem_range.2 hj, by simpa using hn⟩
      rw [List.eq_nil_of_length_eq_zero (Nat.le_zero.1 hfu)] at this
      cases this
    refine ⟨?_, hfin listed a w G hall hs⟩
    rw [List.eq_nil_iff_forall_not_mem]
    intro j hj
    obtain ⟨h1, o, ho, _⟩ := mem_ready.1 hj
    have hj' : j < all.size := (hgetD ho).1
    have := hall j hj'
    have hj2 : j < listed.size := by omega
    simp only [Array.getD_eq_getD_getElem?, Array.getElem?_eq_getElem hj2, Option.getD_some] at h1 this
    rw [this] at h1; cases h1
  | succ fuel ih =>
    intro listed a w G hsz hfu hdn hs
    refine ⟨fun hr => hfin listed a w G (hdone listed hsz hr) hs, fun i hi => ?_⟩
    obtain ⟨hun, o, ho, hall⟩ := mem_ready.1 hi
    obtain ⟨hin, hget⟩ := hgetD ho
    have hun' : listed.getD i false = false := by
      have hj2 : i < listed.size := by omega
      simp only [Array.getD_eq_getD_getElem?, Array.getElem?_eq_getElem hj2, Option.getD_some] at hun ⊢
      exact hun
    obtain ⟨o', r, hf⟩ := hF i hin
    have eo : o' = o := by
      have := hf.op
      rw [ho] at this
      cases this; rfl
    subst eo
    -- what comes before i is done; what comes behind i is not
    have hpre : ∀ j, (bits all i).testBit j = true → listed.getD j false = true ∧ j < i := bits_in hO.back hdn (i + 1) i o' (by omega) ho hall
    have hpost : ∀ j, (bits all j).testBit i = true → j < all.size → listed.getD j false = false := by
      intro j hb hj
      rw [← Bool.not_eq_true]
      intro hS
      have hp : all[j]? = some all[j] := Array.getElem?_eq_getElem hj
      have := (bits_in hO.back hdn (j + 1) j _ (by omega) hp (fun e he hb => hdn j _ hS hp e he hb) i hb).1
      rw [hun'] at this; cases this
    have hord : ∀ j, j < all.size → ((i < j ∧ (bits all j).testBit i = true) ∨ (j < i ∧ (bits all i).testBit j = true)) → listed.getD j false = decide (j < i) := by
      intro j hj h
      rcases h with ⟨h1, h2⟩ | ⟨h1, h2⟩
      · rw [hpost j h2 hj]; symm; rw [decide_eq_false_iff_not]; omega
      · rw [(hpre j h2).1]; symm; rw [decide_eq_true_eq]; exact h1
    have hcls : ∀ j oj, all[j]? = some oj → ∃ tk, (L j).c = (bif (L j).u.local (n0 + 8 * j) then opClass (fun x => (evalO (slF all L (fun _ => true) sl0 j) x).strip tk) oj.op else 2) ∧
        wrOK (seen all true n0 j (opClass (fun x => (evalO (slF all L (fun _ => true) sl0 j) x).strip tk) oj.op) (stF L (fun _ => true) σ0 j)) (n0 + 8 * j) (L j).u = true := by
      intro j oj hj
      obtain ⟨o'', r'', hf''⟩ := hF j (hgetD hj).1
      have := hf''.op
      rw [hj] at this
      cases this
      exact ⟨_, hf''.cls, hf''.wr⟩
    -- the slots that i names
    have hslot : ∀ t, t ∈ namesOf all o' → slF all L (fun _ => true) sl0 i t = slF all L (fun j => listed.getD j false) sl0 all.size t := by
      intro t ht
      rw [← slF_upto (S := fun j => decide (j < i)) (n := all.size) (by omega) (fun j hj => by simpa using hj) (fun j hj _ => by simpa using hj)]
      refine slF_eq fun j hj hd => ?_
      by_cases e : j = i
      · subst e; rw [hun']; simp
      · have hp : all[j]? = some all[j] := Array.getElem?_eq_getElem hj
        rw [(hgetD hp).2] at hd
        exact (hord j hj ((hO.slot j i _ o' t hp ho e hd ht).symm)).symm
    -- the part of memory that i sees
    have hsto : ∀ k, (seen all true n0 i (opClass (fun x => (evalO (slF all L (fun _ => true) sl0 i) x).strip (L i).tk) o'.op) (stF L (fun _ => true) σ0 i) k).isSome = true →
        seen all true n0 i (opClass (fun x => (evalO (slF all L (fun _ => true) sl0 i) x).strip (L i).tk) o'.op) (stF L (fun _ => true) σ0 i) k = stF L (fun j => listed.getD j false) σ0 all.size k := by
      intro k hk
      obtain ⟨h1, h2, h3⟩ := seen_some hk
      rw [h2]
      rw [← stF_upto (S := fun j => decide (j < i)) (n := all.size) (by omega) (fun j hj => by simpa using hj) (fun j hj _ => by simpa using hj)]
      refine stF_eq fun j hj hd => ?_
      by_cases e : j = i
      · subst e; rw [hun']; simp
      · have hp : all[j]? = some all[j] := Array.getElem?_eq_getElem hj
        obtain ⟨tk, hc, hw⟩ := hcls j _ hp
        cases hl : (L j).u.local (n0 + 8 * j) with
        | true =>
          obtain ⟨k1, k2⟩ := upd_local hl hd
          have hdiv : (k - n0) / 8 = j := by omega
          rcases h3 with h3 | h3
          · omega
          · rw [hdiv] at h3
            exact (hord j hj (.inr ⟨(hpre j h3).2, h3⟩)).symm
        | false =>
          rw [hl] at hc
          have hci : (L i).c ≠ 0 := by
            rw [hf.cls]
            cases (L i).u.local (n0 + 8 * i) with
            | true => exact h1
            | false => exact (by decide : (2 : Nat) ≠ 0)
          exact (hord j hj ((hO.mem j i _ o' hp ho e hc hci).symm)).symm
    refine op_step hE ho (self := n0 + 8 * i) (sl0 := slF all L (fun _ => true) sl0 i) hs ?_ ?_ ?_ hf.grd ?_ ?_ hf.val hf.gives hf.gives' hf.calm ?_
    · intro t ht
      exact hslot t (mem_namesOf (ht.elim .inl fun h => .inr (.inl h)))
    · intro t ht
      obtain ⟨j, b, p, hg, hp, hd⟩ := mem_guardSlots ht
      have hh := hasGuard_of ho hg
      refine ⟨hh, j, p, ?_, hp, hd⟩
      have hji := hgo.back hh i o' j b ho hg
      have := hO.slot j i p o' t hp ho (by omega) hd (mem_namesOf (.inr (.inl ht)))
      show listed.getD j false = true
      rw [hord j (by omega) this.symm]; simpa using hji
    · intro d hd
      refine ⟨hdst i o' d ho hd, fun hD => ?_⟩
      obtain ⟨hh, j, p, hj, hp, hpd⟩ := hD
      have hj : listed.getD j false = true := hj
      have hne : j ≠ i := fun e => by subst e; rw [hun'] at hj; cases hj
      rcases Nat.lt_or_ge j i with h | h
      · exact hgo.uniq hh j i p o' d h hp ho hpd hd
      · exact hgo.uniq hh i j o' p d (by omega) ho hp hd hpd
    · intro k ob hk
      rw [← hsto k (by rw [hk]; rfl)]; exact hk
    · intro k h1 h2
      refine ⟨by omega, fun j hj hS h3 => ?_⟩
      have hS : listed.getD j false = true := hS
      have : j = i := by omega
      subst this
      rw [hun'] at hS; cases hS
    · intro a' w' G' _ hs'
      have hset : ∀ j, (listed.setIfInBounds i true).getD j false = (decide (j = i) || listed.getD j false) := fun j => set_get (by omega)
      have hS' : (fun j => (listed.setIfInBounds i true).getD j false) = fun j => (decide (j = i) || listed.getD j false) := funext hset
      refine ih (listed.setIfInBounds i true) a' w' G' (by simpa using hsz) ?_ ?_ ?_
      · have hlt : ((List.range all.size).filter fun j => !(listed.setIfInBounds i true).getD j false).length < ((List.range all.size).filter fun j => !listed.getD j false).length := by
          have hsub : ((List.range all.size).filter fun j => !(listed.setIfInBounds i true).getD j false) = ((List.range all.size).filter fun j => !listed.getD j false).filter fun j => !decide (j = i) := by
            rw [List.filter_filter]
            refine List.filter_congr fun j _ => ?_
            rw [hset, Bool.not_or]
          rw [hsub]
          refine List.length_filter_lt_length_iff_exists.2 ⟨i, List.mem_filter.2 ⟨List.mem_range.2 hin, by rw [hun']; rfl⟩, by simp⟩
        omega
      · intro j p hj hp e he hb
        have hj : (listed.setIfInBounds i true).getD j false = true := hj
        show (listed.setIfInBounds i true).getD e.on false = true
        rw [hset] at hj ⊢
        rw [Bool.or_eq_true, decide_eq_true_eq] at hj ⊢
        rcases hj with rfl | hj
        · rw [ho] at hp
          cases hp
          exact .inr (hall e he hb)
        · exact .inr (hdn j p hj hp e he hb)
      · rw [hS']
        -- slots
        have e1 : putSlot (slF all L (fun j => listed.getD j false) sl0 all.size) o'.dst (mkGrd (L i).tk (L i).g (L i).u.sv) = slF all L (fun j => (decide (j = i) || listed.getD j false)) sl0 all.size := by
          funext t
          rw [putSlot_eq]
          by_cases hd : o'.dst = some t
          · rw [if_pos hd]
            refine (slF_last (S := fun j => (decide (j = i) || listed.getD j false)) (by simp) (by rw [hget]; exact hd) hin fun j h1 h2 h3 => ?_).symm
            have hp : all[j]? = some all[j] := Array.getElem?_eq_getElem h2
            rw [(hgetD hp).2] at h3
            have := hO.slot i j o' _ t ho hp (by omega) hd (mem_namesOf (.inr (.inr h3)))
            have := hord j h2 this
            rw [this]
            simp; omega
          · rw [if_neg hd]
            refine slF_eq fun j hj h3 => ?_
            have : j ≠ i := fun e => by subst e; rw [hget] at h3; exact hd h3
            simp [this]
        have e2 : putSto (stF L (fun j => listed.getD j false) σ0 all.size) (L i).u.wr = stF L (fun j => (decide (j = i) || listed.getD j false)) σ0 all.size := by
          funext k
          by_cases hk : k ∈ keysW (L i).u.wr
          · refine (stF_last (S := fun j => (decide (j = i) || listed.getD j false)) (by simp) hk hin fun j h1 h2 h3 => ?_).symm
            have hp : all[j]? = some all[j] := Array.getElem?_eq_getElem h2
            have hne : ¬ j = i := by omega
            simp only [hne, decide_false, Bool.false_or]
            rw [← Bool.not_eq_true]
            intro hS
            -- i and j come in no order
            have hno : ¬ ((i < j ∧ (bits all j).testBit i = true) ∨ (j < i ∧ (bits all i).testBit j = true)) := by
              intro h
              have := hord j h2 h
              rw [hS] at this
              simp at this; omega
            obtain ⟨tki, hci, hwi⟩ := hcls i o' ho
            obtain ⟨tkj, hcj, hwj⟩ := hcls j _ hp
            cases hli : (L i).u.local (n0 + 8 * i) with
            | true =>
              have hki := upd_local hli hk
              cases hlj : (L j).u.local (n0 + 8 * j) with
              | true => have hkj := upd_local hlj h3; omega
              | false =>
                rcases upd_wr hwj h3 with hkj | hkj
                · omega
                · obtain ⟨q1, q2, q3⟩ := seen_some hkj
                  have hdiv : (k - n0) / 8 = i := by omega
                  rcases q3 with q3 | q3
                  · omega
                  · rw [hdiv] at q3
                    exact hno (.inl ⟨h1, q3⟩)
            | false =>
              rw [hli] at hci
              by_cases hcj0 : (L j).c = 0
              · have hlj : (L j).u.local (n0 + 8 * j) = true := by
                  cases hlj : (L j).u.local (n0 + 8 * j) with
                  | true => rfl
                  | false => rw [hlj] at hcj; rw [hcj0] at hcj; cases hcj
                have hkj := upd_local hlj h3
                rcases upd_wr hwi hk with hki | hki
                · omega
                · obtain ⟨q1, q2, q3⟩ := seen_some hki
                  have hdiv : (k - n0) / 8 = j := by omega
                  rcases q3 with q3 | q3
                  · omega
                  · rw [hdiv] at q3
                    have := (hpre j q3).2
                    omega
              · exact hno (hO.mem i j o' _ ho hp (by omega) hci hcj0)
          · rw [putSto_off hk]
            refine stF_eq fun j hj h3 => ?_
            have : j ≠ i := fun e => by subst e; exact hk h3
            simp [this]
        rw [← e1, ← e2]
        refine hs'.weaken (fun k hk => ⟨⟨hk.1, fun j hj hS h3 => hk.2 j hj (by simp only [Bool.or_eq_true]; exact .inr hS) h3⟩, ?_⟩) fun t ht => ht.mono fun j hj => by simp only [Bool.or_eq_true]; exact .inr hj
        have := hk.2 i hin (by simp)
        rw [← Bool.not_eq_true]
        simp only [inSelf, Bool.and_eq_true, Nat.ble_eq, Nat.blt_eq]
        exact this

end
end Go.Ev
