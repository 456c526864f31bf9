/-
  CODE.
-/
import Derived.Test.YtncjpbogjfibfaaGreatDoorEvN5
import Derived.LoopN
set_option linter.unusedVariables false
set_option linter.unusedSimpArgs false
namespace Go.Ev

/-- A state of the evaluator, in the model. -/
structure SimN (P : Program) (N : Nat) (fr : Fr) (st : St) (a : Act) (w : World) (G : Gh) : Prop where
  slots : ∀ t, SlotOK P w G a (st.slots t) (a.tmps.getD t undef)
  defs : a.defers = []
  size : a.tmps.size = N
  fix : ∀ t v, fr.fx t = some v → a.tmps.getD t undef = v
  nogrd : ∀ t tk g s, st.slots t ≠ .grd tk g s
  mem : MemS P fr (fun k => st.n ≤ k) st.sto w G

section
variable {P : Program} {fr : Fr} {free free' : Nat → Prop} {self : Nat} {σ σ' : Nat → Option Obj} {w w' : World} {G G' : Gh} {I : Im}

theorem dst_uniq : ∀ {l : List Oper}, (l.filterMap (·.dst)).Nodup → ∀ (i j : Nat) (o p : Oper) (d : Nat), i < j → l[i]? = some o → l[j]? = some p → o.dst = some d → p.dst ≠ some d := by
  intro l
  induction l with
  | nil => intro _ i j o p d _ h; cases h
  | cons q l ih =>
    intro hn i j o p d hij hi hj ho hp
    cases j with
    | zero => omega
    | succ j =>
      have hj : l[j]? = some p := by simpa using hj
      cases i with
      | zero =>
        have : q = o := by simpa using hi
        subst this
        rw [List.filterMap_cons_some ho] at hn
        exact (List.nodup_cons.1 hn).1 (List.mem_filterMap.2 ⟨p, List.mem_of_getElem? hj, hp⟩)
      | succ i =>
        have hn' : (l.filterMap (·.dst)).Nodup := by
          cases hq : q.dst with
          | none => rw [List.filterMap_cons_none hq] at hn; exact hn
          | some e => rw [List.filterMap_cons_some hq] at hn; exact (List.nodup_cons.1 hn).2
        exact ih hn' i j o p d (by omega) (by simpa using hi) hj ho hp

theorem guardsOK_of {all : Array Oper} (h : hasGuard all = true → distinct (dsts all) = true ∧ guardsBack all = true) : GuardsOK all := by
  refine ⟨fun hh i j o p d hij hi hj ho => ?_, fun hh i o j b hi hg => ?_⟩
  · exact dst_uniq (distinct_ok (h hh).1) i j o p d hij (by simpa using hi) (by simpa using hj) ho
  · have h2 := (h hh).2
    unfold guardsBack at h2
    rw [List.all_eq_true] at h2
    have := h2 i (List.mem_range.2 (Array.getElem?_eq_some_iff.1 hi).1)
    rw [Array.getD_eq_getD_getElem?, hi] at this
    simp only [Option.getD_some, hg, Nat.blt_eq] at this
    exact this

theorem region_ok {Ω : Type} {E : Env} (hE : EnvOK P E) (hmix : P.follows .mixedOrders = true) {N : Nat} {ops : Array Oper} {draw : Bool} {id : Nat} {st : St} {K : St → Option Ω} {ω : Ω} {Q : Exit → Act → World → Prop}
    (hdst : ∀ (j : Nat) o d, ops[j]? = some o → o.dst = some d → d < N ∧ fr.fx d = none) {a : Act} (h : evRegion E ops draw st K = some ω) (hs : SimN P N fr st a w G)
    (hQ : ∀ st' a' w' G', SimN P N fr st' a' w' G' → K st' = some ω → Q .normal a' w') : (Code.region id ops draw).wp P Q a w := by
  unfold evRegion at h
  have hgo : GuardsOK ops := by
    refine guardsOK_of fun hh => ?_
    rw [hh] at h
    cases h1 : distinct (dsts ops) <;> cases h2 : guardsBack ops <;> rw [h1, h2] at h <;> first | exact ⟨rfl, rfl⟩ | cases h
  have h : evOps E ops draw st.n ops.toList 0 st [] (fun st' cl => bif !draw || orderOK ops cl.reverse then
      K { slots := bif hasGuard ops then dropGuards st'.slots else st'.slots, sto := st'.sto, n := st.n + 8 * ops.size } else none) = some ω := by
    cases hc : (hasGuard ops && !(distinct (dsts ops) && guardsBack ops)) with
    | true => rw [hc] at h; cases h
    | false => rw [hc] at h; exact h
  -- the end of the region
  have fin : ∀ (st' : St) (S : Nat → Bool) (a' : Act) (w' : World) (G' : Gh), SimF P N fr (fun k => st.n + 8 * ops.size ≤ k) (DS ops S) st'.slots st'.sto a' w' G' →
      K { slots := bif hasGuard ops then dropGuards st'.slots else st'.slots, sto := st'.sto, n := st.n + 8 * ops.size } = some ω → Q .normal a' w' := by
    intro st' S a' w' G' hs' hK
    refine hQ _ a' w' G' ⟨fun t => ?_, hs'.defs, hs'.size, hs'.fix, fun t tk g s => ?_, hs'.mem⟩ hK
    · have := hs'.slots t
      cases hh : hasGuard ops with
      | false => exact this
      | true =>
        simp only [cond_true, dropGuards]
        split
        · exact (SR.undef _).slotOK
        · exact this
    · cases hh : hasGuard ops with
      | false =>
        intro h
        obtain ⟨h1, h2⟩ := hs'.toks t tk g s h
        cases tk with
        | nil => exact h1 rfl
        | cons p r =>
          have := (h2 p List.mem_cons_self).1
          rw [hh] at this; cases this
      | true =>
        simp only [cond_true, dropGuards]
        split
        · intro h; cases h
        · rename_i hn
          intro h
          exact hn _ _ _ h
  cases draw with
  | false =>
    refine wp_region ?_
    have := evOps_text hE hgo hdst (Q := Q) ops.toList 0 st [] a w G h (by simp) (by simp) ⟨hs.slots, hs.defs, hs.size, hs.fix, fun t tk g s hh => absurd hh (hs.nogrd t tk g s), hs.mem.shrink fun k hk => by simpa using hk⟩
      (fun st' cl' a' w' G' hs' _ hK => fin st' _ a' w' G' hs' hK)
    rw [List.range_eq_range']
    simpa using this
  | true =>
    obtain ⟨L, hF, hK⟩ := evOps_facts (sl0 := st.slots) (σ0 := st.sto) ops.toList 0 st (fun _ => ⟨[], true, ⟨.undef, []⟩, 0⟩) h (by simp) (by simp) rfl rfl (fun j hj => by omega)
    refine wp_region_any hmix ?_
    cases ho : orderOK ops ((List.range ops.size).map fun j => (L j).c) with
    | false => simp only [List.reverse_reverse, ho, Bool.not_true, Bool.or_false, cond_false] at hK; cases hK
    | true =>
      simp only [List.reverse_reverse, ho, Bool.not_true, Bool.false_or, cond_true] at hK
      have hrep : ∀ j, (Array.replicate ops.size false).getD j false = false := by
        intro j
        simp only [Array.getD_eq_getD_getElem?, Array.getElem?_replicate]
        split <;> rfl
      have e1 : slF ops L (fun j => (Array.replicate ops.size false).getD j false) st.slots ops.size = st.slots := by
        rw [slF_upto (i := 0) (Nat.zero_le _) (fun j hj => by omega) (fun j _ _ => hrep j)]; rfl
      have e2 : stF L (fun j => (Array.replicate ops.size false).getD j false) st.sto ops.size = st.sto := by
        rw [stF_upto (i := 0) (Nat.zero_le _) (fun j hj => by omega) (fun j _ _ => hrep j)]; rfl
      refine any_ok (n0 := st.n) (sl0 := st.slots) (σ0 := st.sto) hE hgo hdst hF (orderOK_ok rfl ho) (fun a' w' G' hs' => fin ⟨slF ops L (fun _ => true) st.slots ops.size, stF L (fun _ => true) st.sto ops.size, 0⟩ _ a' w' G' hs' hK) ops.size _ a _ G (by simp)
        (Nat.le_trans (List.length_filter_le _ _) (by simp)) (fun j o hj => ?_) ?_
      · have hj : (Array.replicate ops.size false).getD j false = true := hj
        rw [hrep j] at hj; cases hj
      · rw [e1, e2]
        refine SimF.drawn ⟨hs.slots, hs.defs, hs.size, hs.fix, fun t tk g s hh => absurd hh (hs.nogrd t tk g s), hs.mem.shrink fun k hk => hk.1⟩ _

/-! ## Cuts -/
def exOf : Ex → Exit
  | .normal => .normal
  | .exit i => .exit i
  | .ret => .ret

theorem exOf_then {Q : Exit → Act → World → Prop} {K : Act → World → Prop} {e : Ex} {a : Act} {w : World} (h : match e with | .normal => K a w | e => Q (exOf e) a w) : Exit.then K Q (exOf e) a w := by
  cases e <;> exact h

/-- How a cut is left, in the model: 'hs': how many blocks there were; 'bs': the blocks that were handed over. -/
def OutS (P : Program) (w : World) (I : Im) (a : Act) (e : Exit) (hs : Nat) (bs : List Nat) : (l : List (Ex × Kp)) → OutT l → Prop
  | [], x => Empty.elim x
  | [o], x => e = exOf o.1 ∧ ∃ bs', ShL P w I o.2.sh x (o.2.tm.map fun t => a.tmps.getD t undef) bs' ∧ bs'.Nodup ∧ ∀ b ∈ bs', b ∈ bs ∨ hs ≤ b
  | o :: p :: r, x => Sum.casesOn (motive := fun _ => Prop) x (fun y => e = exOf o.1 ∧ ∃ bs', ShL P w I o.2.sh y (o.2.tm.map fun t => a.tmps.getD t undef) bs' ∧ bs'.Nodup ∧ ∀ b ∈ bs', b ∈ bs ∨ hs ≤ b)
      (fun y => OutS P w I a e hs bs (p :: r) y)

def CutPost (P : Program) (N : Nat) (s : CSpec) (x : OutT s.outs) (a0 : Act) (w : World) (I : Im) (bs : List Nat) : Exit → Act → World → Prop := fun e a' w' =>
  a'.defers = [] ∧ a'.tmps.size = N ∧ (∀ t, hasN t s.wrs = false → a'.tmps.getD t undef = a0.tmps.getD t undef) ∧ ∃ I', After (· ∈ bs) w I w' I' ∧ OutS P w' I' a' e w.heap.size bs s.outs x

def CutOK (P : Program) (N : Nat) (s : CSpec) (c : Code) : Prop :=
  ∀ (w : World) (I : Im) (a : Act) (v : TupR s.inn.sh) (bs : List Nat) (x : OutT s.outs), Mem w I → a.defers = [] → a.tmps.size = N → ShL P w I s.inn.sh v (s.inn.tm.map fun t => a.tmps.getD t undef) bs → bs.Nodup →
    s.F v = some x → c.wp P (CutPost P N s x a w I bs) a w

theorem slotsOf_grd : ∀ {tm : List Nat} {l : List SV}, (∀ s ∈ l, ∀ tk g u, s ≠ .grd tk g u) → ∀ t tk g u, slotsOf tm l t ≠ .grd tk g u := by
  intro tm
  induction tm with
  | nil => intro l _ t tk g u h; simp [slotsOf] at h
  | cons d tm ih =>
    intro l hl t tk g u h
    cases l with
    | nil => simp [slotsOf] at h
    | cons s l =>
      simp only [slotsOf] at h
      cases hb : Nat.beq t d with
      | true => rw [hb] at h; exact hl s List.mem_cons_self tk g u h
      | false => rw [hb] at h; exact ih (fun s' hs' => hl s' (List.mem_cons_of_mem _ hs')) t tk g u h

theorem slotsOf_ok {a : Act} : ∀ {tm : List Nat} {l : List SV}, (∀ (j : Nat) (s : SV) (t : Nat), l[j]? = some s → tm[j]? = some t → SR P w G s (a.tmps.getD t undef)) → ∀ t, SR P w G (slotsOf tm l t) (a.tmps.getD t undef) := by
  intro tm
  induction tm with
  | nil => intro l _ t; simp only [slotsOf]; exact SR.undef _
  | cons d tm ih =>
    intro l hl t
    cases l with
    | nil => simp only [slotsOf]; exact SR.undef _
    | cons s l =>
      simp only [slotsOf]
      cases hb : Nat.beq t d with
      | true =>
        have e := Nat.eq_of_beq_eq_true hb
        subst e
        exact hl 0 s t rfl rfl
      | false => exact ih (fun j s' t' h1 h2 => hl (j + 1) s' t' (by simpa using h1) (by simpa using h2)) t

theorem lookN_putSto : ∀ (l : List (Nat × Option Obj)) (i : Nat), (lookN l i).getD none = putSto (fun _ => none) l i := by
  intro l
  induction l with
  | nil => intro i; rfl
  | cons p r ih =>
    intro i
    obtain ⟨j, o⟩ := p
    simp only [lookN, putSto]
    cases hb : Nat.beq i j with
    | true => rfl
    | false => exact ih i

theorem lastNx_eq : ∀ {l : List Sh} {x : TupR l} {n : Nat}, lastNx (mkL l x n) n = n + cntL l := by
  intro l
  induction l with
  | nil => intro x n; rfl
  | cons a l ih =>
    intro x n
    cases l with
    | nil => exact (mkC_nx a x n).trans (by simp [cntL])
    | cons b l =>
      have : lastNx (mkL (a :: b :: l) x n) n = lastNx (mkL (b :: l) x.2 (mkC a x.1 n).nx) (mkC a x.1 n).nx := rfl
      rw [this, ih, mkC_nx]
      simp only [cntL]; omega

/-- A state made anew of what is kept of one. -/
theorem made_ok {N : Nat} {k : Kp} {v : TupR k.sh} {a : Act} {bs : List Nat} (hd : a.defers = []) (hN : a.tmps.size = N) (hfx : ∀ t v, fr.fx t = some v → a.tmps.getD t undef = v) (haf : After fr.gv fr.w0 fr.i0 w I)
    (h : ShL P w I k.sh v (k.tm.map fun t => a.tmps.getD t undef) bs) (hnd : bs.Nodup) (hbs : ∀ b ∈ bs, fr.owned b) : ∃ G', SimN P N fr (mkSt k v) a w G' := by
  let G0 : Gh := ⟨I, fun _ _ => none, fun _ => none, fun _ => none⟩
  have hm0 : MemS P fr (fun _ => True) (fun _ => none) w G0 := ⟨fun k o h => (by cases h), fun j k o o' b h => (by cases h), haf, fun k _ => ⟨rfl, rfl, rfl, fun _ => rfl⟩⟩
  obtain ⟨G', h1, h2, h3, h4⟩ := mkL_ok (n := 0) (G := G0) hm0 h hnd (fun b hb => ⟨hbs b hb, fun j o h => (by cases h)⟩) (fun _ _ _ => trivial)
  have hsr : ∀ t, SR P w G' ((mkSt k v).slots t) (a.tmps.getD t undef) := by
    refine slotsOf_ok fun j s t hj ht => ?_
    rw [List.getElem?_map] at hj
    cases hm : (mkL k.sh v 0)[j]? with
    | none => rw [hm] at hj; cases hj
    | some m =>
      rw [hm] at hj
      cases hj
      exact h4 j m _ hm (by rw [List.getElem?_map, ht]; rfl)
  refine ⟨G', fun t => (hsr t).slotOK, hd, hN, hfx, fun t tk g s h => ?_, ?_⟩
  · have := hsr t
    rw [h] at this
    exact this.not_grd
  · have e : (mkSt k v).sto = putSto (fun _ => none) ((mkL k.sh v 0).flatMap (·.obs)) := funext fun i => lookN_putSto _ i
    rw [e]
    refine h1.mem.shrink fun j hj => ⟨trivial, fun hh => ?_⟩
    have : (mkSt k v).n = 0 + cntL k.sh := lastNx_eq
    omega

theorem SimN.frz {N : Nat} {st : St} {a : Act} (hs : SimN P N fr st a w G) (k : Kp) : ∃ G', GLe w G w G' ∧ SimN P N fr (frzSt k st) a w G' := by
  obtain ⟨G', h1, h2⟩ := frzSto_ok hs.mem k.sh (k.tm.map st.slots)
  exact ⟨G', h1, fun t => (hs.slots t).mono h1 fun _ _ _ _ => Iff.rfl, hs.defs, hs.size, hs.fix, hs.nogrd, h2⟩

theorem recut_ok {N : Nat} {fs : Nat → Option FSpec} (hE : ∀ f sp, fs f = some sp → Enters P f ∧ FunOK P f sp) {k : Kp} {st : St} {v : TupR k.sh} {a : Act} (hs : SimN P N fr st a w G) (h : parseK fs k (frzSt k st) = some v) :
    ∃ G', SimN P N fr (mkSt k v) a w G' := by
  obtain ⟨G0, _, hs⟩ := hs.frz k
  have hsr : ∀ t, SR P w G0 (st.slots t) (a.tmps.getD t undef) := by
    intro t
    have h1 : SlotOK P w G0 a (st.slots t) (a.tmps.getD t undef) := hs.slots t
    have h2 : ∀ tk g s, st.slots t ≠ .grd tk g s := hs.nogrd t
    generalize st.slots t = s at h1 h2
    cases s <;> first | exact h1 | exact absurd rfl (h2 _ _ _)
  obtain ⟨bs, h1, h2, h3⟩ := parseN_ok hs.mem hE (vs := k.tm.map fun t => a.tmps.getD t undef) h (by simp) (fun j s v hj hv => by
    rw [List.getElem?_map] at hj hv
    cases ht : k.tm[j]? with
    | none => rw [ht] at hj; cases hj
    | some t =>
      rw [ht] at hj hv
      cases hj; cases hv
      exact hsr t)
  refine made_ok hs.defs hs.size hs.fix hs.mem.after h1 h2 fun b hb => ?_
  obtain ⟨k', _, o, ho, hbo⟩ := h3 b hb
  exact blk_owned (hs.mem.objs k' o ho) hbo

/-! ## Code -/
theorem SimN.sr {N : Nat} {st : St} {a : Act} (hs : SimN P N fr st a w G) (x : Operand) : SR P w G (evalO st.slots x) (a.eval x) := by
  have := operand_ok (x := x) (tk := []) (fun t _ => hs.slots t) (holds_nil a)
  have e : (evalO st.slots x).strip [] = evalO st.slots x := by
    have hn : ∀ tk g s, evalO st.slots x ≠ .grd tk g s := by
      intro tk g s h
      cases x with
      | tmp t => exact hs.nogrd t tk g s h
      | const v =>
        have := ofConst_ok (P := P) (w := w) (G := G) v
        rw [show ofConst v = _ from h] at this
        exact this.not_grd
      | func f => cases h
      | global g => cases h
    generalize evalO st.slots x = s at hn
    cases s <;> first | rfl | exact absurd rfl (hn _ _ _)
  rw [e] at this
  exact this

/-- The cuts of a piece of code keep their contracts; 'ok': the slots that may be written. -/
def CutsOK (P : Program) (N : Nat) (ok : Nat → Bool) (E : Env) : Code → Nat → Prop
  | .seq a b, n => CutsOK P N ok E a n ∧ CutsOK P N ok E b (n + nodes a)
  | .cond c a b, n => match E.cut n with
    | some s => s.wrs.all ok = true ∧ CutOK P N s (.cond c a b)
    | none => CutsOK P N ok E a (n + 1) ∧ CutsOK P N ok E b (n + 1 + nodes a)
  | .block _ b, n => CutsOK P N ok E b n
  | .loop b, n => match E.cut n with
    | some s => s.wrs.all ok = true ∧ CutOK P N s (.loop b)
    | none => True
  | _, _ => True

/-- The same, as a list. -/
def cutsOf (E : Env) : Code → Nat → List (CSpec × Code)
  | .seq a b, n => cutsOf E a n ++ cutsOf E b (n + nodes a)
  | .cond c a b, n => match E.cut n with
    | some s => [(s, .cond c a b)]
    | none => cutsOf E a (n + 1) ++ cutsOf E b (n + 1 + nodes a)
  | .block _ b, n => cutsOf E b n
  | .loop b, n => match E.cut n with
    | some s => [(s, .loop b)]
    | none => []
  | _, _ => []

def AllCuts (P : Program) (N : Nat) (ok : Nat → Bool) : List (CSpec × Code) → Prop
  | [] => True
  | p :: r => (p.1.wrs.all ok = true ∧ CutOK P N p.1 p.2) ∧ AllCuts P N ok r

theorem AllCuts.append {N : Nat} {ok : Nat → Bool} : ∀ {l l' : List (CSpec × Code)}, AllCuts P N ok (l ++ l') → AllCuts P N ok l ∧ AllCuts P N ok l' := by
  intro l
  induction l with
  | nil => intro l' h; exact ⟨trivial, h⟩
  | cons p r ih => intro l' h; exact ⟨⟨h.1, (ih h.2).1⟩, (ih h.2).2⟩

theorem cuts_of {N : Nat} {ok : Nat → Bool} {E : Env} : ∀ {c : Code} {n : Nat}, AllCuts P N ok (cutsOf E c n) → CutsOK P N ok E c n := by
  intro c
  induction c with
  | seq a b iha ihb => intro n h; exact ⟨iha h.append.1, ihb h.append.2⟩
  | cond c a b iha ihb =>
    intro n h
    simp only [CutsOK]
    simp only [cutsOf] at h
    split at h
    · rename_i s hs
      exact h.1
    · rename_i hs
      exact ⟨iha h.append.1, ihb h.append.2⟩
  | block i b ih => intro n h; exact ih (n := n) h
  | loop b ih =>
    intro n h
    simp only [CutsOK]
    simp only [cutsOf] at h
    split at h
    · rename_i s hs
      exact h.1
    · rename_i hs
      trivial
  | _ => intro n h; trivial

/-- All slots that are written may be written. -/
def dstOK (ok : Nat → Bool) : Code → Bool
  | .seq a b => dstOK ok a && dstOK ok b
  | .cond _ a b => dstOK ok a && dstOK ok b
  | .block _ b => dstOK ok b
  | .loop b => dstOK ok b
  | .region _ ops _ => ops.toList.all fun o => match o.dst with
    | some d => ok d
    | none => true
  | _ => true

theorem mkL_len : ∀ {l : List Sh} {x : TupR l} {n : Nat}, (mkL l x n).length = l.length := by
  intro l
  induction l with
  | nil => intro x n; rfl
  | cons a l ih =>
    intro x n
    cases l with
    | nil => rfl
    | cons b l => show (mkC a x.1 n :: mkL (b :: l) x.2 _).length = _; simp [ih]

/-- What is behind a cut. -/
theorem cut_one {N : Nat} {st : St} {a a' : Act} {wrs ks bs bs' : List Nat} {I' : Im} {k : Kp} {y : TupR k.sh} (hs : SimN P N fr st a w G) (hblk : BlksOf st.sto G ks bs)
    (hwr : ∀ d, hasN d wrs = true → fr.fx d = none) (hd : a'.defers = []) (hN : a'.tmps.size = N) (hfr : ∀ t, hasN t wrs = false → a'.tmps.getD t undef = a.tmps.getD t undef)
    (haft : After (· ∈ bs) w G.im w' I') (hsh : ShL P w' I' k.sh y (k.tm.map fun t => a'.tmps.getD t undef) bs') (hnd : bs'.Nodup) (hown : ∀ b ∈ bs', b ∈ bs ∨ w.heap.size ≤ b) :
    ∃ G', SimN P N fr (outSt st wrs ks k y) a' w' G' := by
  obtain ⟨g1, g2⟩ := hs.mem.called hblk haft
  obtain ⟨G', h1, h2, h3, h4⟩ := mkL_ok (n := st.n) g2 hsh hnd (fun b hb => by
    refine ⟨?_, fun j o ho hbj => ?_⟩
    · rcases hown b hb with h | h
      · obtain ⟨k', _, o, ho, hbo⟩ := hblk b h
        exact blk_owned (hs.mem.objs k' o ho) hbo
      · exact .inl (Nat.le_trans hs.mem.after.size h)
    · have ho' : j ∉ ks ∧ st.sto j = some o := by
        rw [putSto_gone] at ho
        by_cases hj : j ∈ ks
        · rw [if_pos hj] at ho; cases ho
        · rw [if_neg hj] at ho; exact ⟨hj, ho⟩
      have hbj0 : blk G j o = some b := by rw [← blk_mono (hs.mem.objs j o ho'.2) g1]; exact hbj
      rcases hown b hb with h | h
      · obtain ⟨k', hk, o2, ho2, hbo⟩ := hblk b h
        have := hs.mem.sep j k' o o2 b ho'.2 ho2 hbj0 hbo
        subst this
        exact ho'.1 hk
      · have := blk_lt (hs.mem.objs j o ho'.2) hbj0
        omega) (fun k' h1 _ => h1)
  have hsr : ∀ t, SR P w' G' ((outSt st wrs ks k y).slots t) (a'.tmps.getD t undef) := by
    intro t
    simp only [outSt]
    cases ht : hasN t k.tm with
    | true =>
      refine slotsOf_ok (fun j s t' hj ht' => ?_) t
      rw [List.getElem?_map] at hj
      cases hm : (mkL k.sh y st.n)[j]? with
      | none => rw [hm] at hj; cases hj
      | some m =>
        rw [hm] at hj
        cases hj
        exact h4 j m _ hm (by rw [List.getElem?_map, ht']; rfl)
    | false =>
      simp only [cond_false]
      cases hw : hasN t wrs with
      | true => exact SR.undef _
      | false =>
        simp only [cond_false]
        rw [hfr t hw]
        exact ((hs.sr (.tmp t)).mono g1).mono h1.le
  refine ⟨G', fun t => (hsr t).slotOK, hd, hN, fun t v hv => ?_, fun t tk g s h => ?_, ?_⟩
  · cases hw : hasN t wrs with
    | true => rw [hwr t hw] at hv; cases hv
    | false => rw [hfr t hw]; exact hs.fix t v hv
  · have := hsr t
    rw [h] at this
    exact this.not_grd
  · simp only [outSt]
    rw [putSto_append]
    refine h1.mem.shrink fun j hj => ⟨?_, fun hh => ?_⟩
    · show st.n ≤ j
      have : st.n + cntL k.sh ≤ j := hj
      omega
    · have : st.n + cntL k.sh ≤ j := hj
      omega

theorem outElim_ok {Ω : Type} {N : Nat} {K : Ex → St → Option Ω} {ω : Ω} {st : St} {a a' : Act} {e : Exit} {wrs ks bs : List Nat} {I' : Im} (hs : SimN P N fr st a w G) (hblk : BlksOf st.sto G ks bs)
    (hwr : ∀ d, hasN d wrs = true → fr.fx d = none) (hd : a'.defers = []) (hN : a'.tmps.size = N) (hfr : ∀ t, hasN t wrs = false → a'.tmps.getD t undef = a.tmps.getD t undef) (haft : After (· ∈ bs) w G.im w' I') :
    ∀ {l : List (Ex × Kp)} {x : OutT l}, outElim st wrs ks l x K = some ω → OutS P w' I' a' e w.heap.size bs l x →
    ∃ e' st' G', e = exOf e' ∧ SimN P N fr st' a' w' G' ∧ K e' st' = some ω := by
  intro l
  induction l with
  | nil => intro x; exact Empty.elim x
  | cons o r ih =>
    intro x h hq
    cases r with
    | nil =>
      obtain ⟨h1, bs', h2, h3, h4⟩ := hq
      obtain ⟨G', h5⟩ := cut_one hs hblk hwr hd hN hfr haft h2 h3 h4
      exact ⟨o.1, _, G', h1, h5, h⟩
    | cons p r =>
      cases x with
      | inl y =>
        obtain ⟨h1, bs', h2, h3, h4⟩ := hq
        obtain ⟨G', h5⟩ := cut_one hs hblk hwr hd hN hfr haft h2 h3 h4
        exact ⟨o.1, _, G', h1, h5, h⟩
      | inr y => exact ih (x := y) h hq

theorem parseK_ok {N : Nat} {fs : Nat → Option FSpec} (hE : ∀ f sp, fs f = some sp → Enters P f ∧ FunOK P f sp) {k : Kp} {st : St} {v : TupR k.sh} {a : Act} (hs : SimN P N fr st a w G) (h : parseK fs k st = some v) :
    ∃ bs, ShL P w G.im k.sh v (k.tm.map fun t => a.tmps.getD t undef) bs ∧ bs.Nodup ∧ BlksOf st.sto G (keysL st.sto k.sh (k.tm.map st.slots)) bs :=
  parseN_ok hs.mem hE (vs := k.tm.map fun t => a.tmps.getD t undef) h (by simp) (fun j s v hj hv => by
    rw [List.getElem?_map] at hj hv
    cases ht : k.tm[j]? with
    | none => rw [ht] at hj; cases hj
    | some t =>
      rw [ht] at hj hv
      cases hj; cases hv
      exact hs.sr (.tmp t))

theorem evCut_ok {Ω : Type} {E : Env} (hE : EnvOK P E) {N : Nat} {s : CSpec} {c : Code} (hwr : ∀ d, hasN d s.wrs = true → fr.fx d = none) (hc : CutOK P N s c) {st : St} {K : Ex → St → Option Ω} {ω : Ω} {a : Act} {Q : Exit → Act → World → Prop}
    (h : evCut E s st K = some ω) (hs : SimN P N fr st a w G) (hQ : ∀ e st' a' w' G', SimN P N fr st' a' w' G' → K e st' = some ω → Q (exOf e) a' w') : c.wp P Q a w := by
  unfold evCut at h
  split at h
  · rename_i v hv
    obtain ⟨x, h1, h2⟩ := Option.bind_eq_some_iff.1 h
    obtain ⟨G, _, hs⟩ := hs.frz s.inn
    obtain ⟨bs, p1, p2, p3⟩ := parseK_ok hE.fs hs hv
    refine wp_mono (hc w G.im a v bs x hs.mem.after.mem hs.defs hs.size p1 p2 h1) fun e a' w' hq => ?_
    obtain ⟨q1, q2, q3, I', q4, q5⟩ := hq
    obtain ⟨e', st', G', rfl, h3, h4⟩ := outElim_ok hs p3 hwr q1 q2 q3 q4 h2 q5
    exact hQ e' st' a' w' G' h3 h4
  · cases h

theorem evC_ok {Ω : Type} {E : Env} (hE : EnvOK P E) (hmix : P.follows .mixedOrders = true) {N : Nat} {ok : Nat → Bool} (hok : ∀ d, ok d = true → d < N ∧ fr.fx d = none) :
    ∀ (c : Code) (n : Nat) (st : St) (a : Act) (w : World) (G : Gh) (K : Ex → St → Option Ω) (ω : Ω) (Q : Exit → Act → World → Prop),
    dstOK ok c = true → CutsOK P N ok E c n → evC E c n st K = some ω → SimN P N fr st a w G → (∀ e st' a' w' G', SimN P N fr st' a' w' G' → K e st' = some ω → Q (exOf e) a' w') → c.wp P Q a w := by
  have hall : ∀ {l : List Nat}, l.all ok = true → ∀ d, hasN d l = true → fr.fx d = none := by
    intro l h d hd
    rw [List.all_eq_true] at h
    exact (hok d (h d (hasN_iff.1 hd))).2
  intro c
  induction c with
  | skip => intro n st a w G K ω Q _ _ h hs hQ; exact wp_skip (hQ .normal st a w G hs h)
  | region id ops draw =>
    intro n st a w G K ω Q hd _ h hs hQ
    refine region_ok hE hmix (fun j o d hj ho => ?_) h hs fun st' a' w' G' hs' hK => hQ .normal st' a' w' G' hs' hK
    simp only [dstOK, List.all_eq_true] at hd
    have := hd o (List.mem_of_getElem? (by simpa using hj))
    rw [ho] at this
    exact hok d this
  | seq x y ihx ihy =>
    intro n st a w G K ω Q hd hc h hs hQ
    simp only [dstOK, Bool.and_eq_true] at hd
    refine wp_seq (ihx n st a w G _ ω _ hd.1 hc.1 h hs fun e st' a' w' G' hs' hK => exOf_then ?_)
    cases e with
    | normal => exact ihy _ st' a' w' G' K ω Q hd.2 hc.2 hK hs' hQ
    | exit i => exact hQ (.exit i) st' a' w' G' hs' hK
    | ret => exact hQ .ret st' a' w' G' hs' hK
  | cond c x y ihx ihy =>
    intro n st a w G K ω Q hd hc h hs hQ
    simp only [dstOK, Bool.and_eq_true] at hd
    simp only [evC] at h
    simp only [CutsOK] at hc
    split at h
    · rename_i s hcut
      rw [hcut] at hc
      exact evCut_ok hE (hall hc.1) hc.2 h hs hQ
    · rename_i hcut
      rw [hcut] at hc
      split at h
      · rename_i t ht
        have hv := hs.sr c
        rw [ht] at hv
        have hv := hv.bool
        cases t with
        | true => exact wp_cond_true hv (ihx _ st a w G K ω Q hd.1 hc.1 h hs hQ)
        | false => exact wp_cond_false hv (ihy _ st a w G K ω Q hd.2 hc.2 h hs hQ)
      · cases h
  | block id b ih =>
    intro n st a w G K ω Q hd hc h hs hQ
    refine wp_block (ih n st a w G _ ω _ hd hc h hs fun e st' a' w' G' hs' hK => ?_)
    cases e with
    | normal => exact hQ .normal st' a' w' G' hs' hK
    | ret => exact hQ .ret st' a' w' G' hs' hK
    | exit i =>
      simp only [exOf, Exit.inBlock]
      simp only at hK
      by_cases e : i = id
      · subst e
        rw [if_pos rfl]
        rw [Nat.beq_refl] at hK
        exact hQ .normal st' a' w' G' hs' hK
      · rw [if_neg e]
        rw [show Nat.beq i id = false by rw [← Bool.not_eq_true]; exact fun hh => e (Nat.eq_of_beq_eq_true hh)] at hK
        exact hQ (.exit i) st' a' w' G' hs' hK
  | loop b ih =>
    intro n st a w G K ω Q hd hc h hs hQ
    simp only [evC] at h
    simp only [CutsOK] at hc
    split at h
    · rename_i s hcut
      rw [hcut] at hc
      exact evCut_ok hE (hall hc.1) hc.2 h hs hQ
    · cases h
  | exit i => intro n st a w G K ω Q _ _ h hs hQ; exact wp_exit (hQ (.exit i) st a w G hs h)
  | ret => intro n st a w G K ω Q _ _ h hs hQ; exact wp_ret (hQ .ret st a w G hs h)
  | _ => intro n st a w G K ω Q _ _ h; cases h

/-! ## Loops, branches -/
theorem outPut_ok {E : Env} (hE : EnvOK P E) {N : Nat} {e : Ex} {st : St} {a : Act} (hs : SimN P N fr st a w G) {bs : List Nat} (hgv : ∀ b, fr.gv b → b ∈ bs) : ∀ {l : List (Ex × Kp)} {x : OutT l}, outPut E.fs l e st = some x →
    ∃ I, After fr.gv fr.w0 fr.i0 w I ∧ OutS P w I a (exOf e) fr.w0.heap.size bs l x := by
  have hsame : ∀ {e e' : Ex}, outPut.sameEx e e' = true → e' = e := by
    intro e e' h
    cases e <;> cases e' <;> first | rfl | cases h | skip
    have h : Nat.beq _ _ = true := h
    rw [Nat.eq_of_beq_eq_true h]
  have one : ∀ {o : Ex × Kp} {y : TupR o.2.sh}, outPut.sameEx o.1 e = true → parseK E.fs o.2 (frzSt o.2 st) = some y →
      ∃ I, After fr.gv fr.w0 fr.i0 w I ∧ exOf e = exOf o.1 ∧ ∃ bs', ShL P w I o.2.sh y (o.2.tm.map fun t => a.tmps.getD t undef) bs' ∧ bs'.Nodup ∧ ∀ b ∈ bs', b ∈ bs ∨ fr.w0.heap.size ≤ b := by
    intro o y h1 h2
    obtain ⟨G0, _, hs⟩ := hs.frz o.2
    obtain ⟨bs', k1, k2, k3⟩ := parseK_ok hE.fs hs h2
    refine ⟨G0.im, hs.mem.after, by rw [hsame h1], bs', k1, k2, fun b hb => ?_⟩
    obtain ⟨k, _, ob, ho, hbo⟩ := k3 b hb
    rcases blk_owned (hs.mem.objs k ob ho) hbo with h | h
    · exact .inr h
    · exact .inl (hgv b h)
  intro l
  induction l with
  | nil => intro x h; cases h
  | cons o r ih =>
    intro x h
    cases r with
    | nil =>
      simp only [outPut] at h
      cases hb : outPut.sameEx o.1 e with
      | false => rw [hb] at h; cases h
      | true => rw [hb] at h; exact one hb h
    | cons p r =>
      simp only [outPut] at h
      cases hb : outPut.sameEx o.1 e with
      | false =>
        rw [hb] at h
        simp only [cond_false] at h
        cases hr : outPut E.fs (p :: r) e st with
        | none => rw [hr] at h; cases h
        | some y =>
          rw [hr] at h
          cases h
          exact ih hr
      | true =>
        rw [hb] at h
        simp only [cond_true] at h
        cases hr : parseK E.fs o.2 (frzSt o.2 st) with
        | none => rw [hr] at h; cases h
        | some y =>
          rw [hr] at h
          cases h
          exact one hb hr

/-- The slots that a cut may write. -/
def okCut (N : Nat) (wrs : List Nat) (d : Nat) : Bool := Nat.blt d N && hasN d wrs

/-- The frame of a cut. -/
def cutFr (wrs bs : List Nat) (a : Act) (w : World) (I : Im) : Fr := ⟨(· ∈ bs), w, I, fun t => if hasN t wrs then none else some (a.tmps.getD t undef)⟩

theorem okCut_ok {N : Nat} {wrs bs : List Nat} {a : Act} : ∀ d, okCut N wrs d = true → d < N ∧ (cutFr wrs bs a w I).fx d = none := by
  intro d h
  simp only [okCut, Bool.and_eq_true, Nat.blt_eq] at h
  exact ⟨h.1, by simp [cutFr, h.2]⟩

theorem cut_start {N : Nat} {inn : Kp} {v : TupR inn.sh} {wrs bs : List Nat} {a : Act} (hm : Mem w I) (hd : a.defers = []) (hN : a.tmps.size = N) (hsh : ShL P w I inn.sh v (inn.tm.map fun t => a.tmps.getD t undef) bs) (hnd : bs.Nodup) :
    ∃ G, SimN P N (cutFr wrs bs a w I) (mkSt inn v) a w G :=
  made_ok hd hN (fun t v h => by
    have h : (if hasN t wrs = true then none else some (a.tmps.getD t undef)) = some v := h
    split at h
    · cases h
    · exact Option.some.inj h) (After.refl hm) hsh hnd fun b hb => .inr hb

theorem cut_end {E : Env} (hE : EnvOK P E) {N : Nat} {s : CSpec} {x : OutT s.outs} {bs : List Nat} {a0 a : Act} {w0 : World} {e : Ex} {st : St} (hs : SimN P N (cutFr s.wrs bs a0 w0 I) st a w G) (h : outPut E.fs s.outs e st = some x) :
    CutPost P N s x a0 w0 I bs (exOf e) a w :=
  ⟨hs.defs, hs.size, fun t ht => hs.fix t _ (by simp [cutFr, ht]), outPut_ok hE hs (fun _ h => h) h⟩

/-- A branch as a function of its own. -/
theorem part_cut {E : Env} (hE : EnvOK P E) (hmix : P.follows .mixedOrders = true) {N n : Nat} {c : Operand} {x y : Code} {s : CSpec}
    (hd : dstOK (okCut N s.wrs) (.cond c x y) = true) (hx : AllCuts P N (okCut N s.wrs) (cutsOf E x (n + 1))) (hy : AllCuts P N (okCut N s.wrs) (cutsOf E y (n + 1 + nodes x)))
    (hF : ∀ v r, s.F v = some r → evPart E c x y n s.inn s.outs v = some r) : CutOK P N s (.cond c x y) := by
  intro w I a v bs r hm hda hN hsh hnd h
  have h := hF v r h
  obtain ⟨G, hs⟩ := cut_start (wrs := s.wrs) hm hda hN hsh hnd
  simp only [dstOK, Bool.and_eq_true] at hd
  unfold evPart at h
  split at h
  · rename_i t ht
    have hv := hs.sr c
    rw [ht] at hv
    have hv := hv.bool
    cases t with
    | true => exact wp_cond_true hv (evC_ok hE hmix okCut_ok _ _ _ a w G _ r _ hd.1 (cuts_of hx) h hs fun e st' a' w' G' hs' hK => cut_end hE hs' hK)
    | false => exact wp_cond_false hv (evC_ok hE hmix okCut_ok _ _ _ a w G _ r _ hd.2 (cuts_of hy) h hs fun e st' a' w' G' hs' hK => cut_end hE hs' hK)
  · cases h

/-- A loop, by its rounds. -/
theorem loop_cut {E : Env} (hE : EnvOK P E) (hmix : P.follows .mixedOrders = true) {N n : Nat} {body : Code} {inn : Kp} {outs : List (Ex × Kp)} {wrs : List Nat} {F : Nat → TupR inn.sh → Option (OutT outs)}
    (hd : dstOK (okCut N wrs) body = true) (hc : AllCuts P N (okCut N wrs) (cutsOf E body n)) (h0 : ∀ v, F 0 v = none) (hF : ∀ k v r, F (k + 1) v = some r → evRound E body n inn outs (F k) v = some r) (m : Nat) :
    CutOK P N ⟨inn, outs, wrs, F m⟩ (.loop body) := by
  intro w0 I a0 v0 bs r hm hda hN hsh hnd h
  obtain ⟨G0, hs0⟩ := cut_start (wrs := wrs) hm hda hN hsh hnd
  refine wp_loop_rounds m ?_
  have key : ∀ k v a w G, F k v = some r → SimN P N (cutFr wrs bs a0 w0 I) (mkSt inn v) a w G → Code.rounds P body (CutPost P N ⟨inn, outs, wrs, F m⟩ r a0 w0 I bs) k a w := by
    intro k
    induction k with
    | zero => intro v a w G h; rw [h0] at h; cases h
    | succ k ih =>
      intro v a w G h hs
      rw [rounds_succ]
      refine evC_ok hE hmix okCut_ok _ _ _ a w G _ r _ hd (cuts_of hc) (hF k v r h) hs fun e st' a' w' G' hs' hK => exOf_then ?_
      cases e with
      | normal =>
        simp only at hK
        split at hK
        · rename_i v' hv'
          obtain ⟨G'', hs''⟩ := recut_ok hE.fs hs' hv'
          exact ih v' a' w' G'' hK hs''
        · cases hK
      | exit i => exact cut_end (s := ⟨inn, outs, wrs, F m⟩) hE hs' hK
      | ret => exact cut_end (s := ⟨inn, outs, wrs, F m⟩) hE hs' hK
  exact key m v0 a0 w0 G0 h hs0

end
end Go.Ev
