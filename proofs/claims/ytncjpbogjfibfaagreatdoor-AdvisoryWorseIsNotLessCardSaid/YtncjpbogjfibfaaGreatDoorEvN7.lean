/-
  FUNCTIONS.
-/
import Derived.Test.YtncjpbogjfibfaaGreatDoorEvN6
set_option linter.unusedVariables false
set_option linter.unusedSimpArgs false
namespace Go.Ev

section
variable {P : Program} {fr : Fr} {free free' : Nat → Prop} {self : Nat} {σ σ' : Nat → Option Obj} {w w' : World} {G G' : Gh} {I : Im}

/-- The places of the boxes among the parameters. -/
def boxIx : List Sh → Nat → List Nat
  | [], _ => []
  | .box _ :: ps, i => i :: boxIx ps (i + 1)
  | .io _ _ :: ps, i => i :: boxIx ps (i + 1)
  | _ :: ps, i => boxIx ps (i + 1)

theorem ShL.length : ∀ {l : List Sh} {x : TupR l} {vs : List Value} {bs : List Nat}, ShL P w I l x vs bs → vs.length = l.length := by
  intro l
  induction l with
  | nil => intro x vs bs h; rw [h.1]; rfl
  | cons a l ih =>
    intro x vs bs h
    cases l with
    | nil => obtain ⟨v, rfl, _⟩ := h; rfl
    | cons b l =>
      obtain ⟨v, vs', b1, b2, rfl, _, _, h4⟩ := h
      simp [ih h4]

theorem SimN.slot {N : Nat} {st : St} {a : Act} (hs : SimN P N fr st a w G) (t : Nat) : SR P w G (st.slots t) (a.tmps.getD t undef) := hs.sr (.tmp t)

theorem loadVar_of {id : Nat} {v z : Value} (h : (Instr.loadAt id v).run P w = .ok z w) : (asAddr v >>= loadVar id).run P w = .ok z w := by
  cases v with
  | pointer a =>
    cases a with
    | none => simp [Instr.loadAt, Instr.sureAddr, stuck] at h
    | some a => exact h
  | _ => simp [Instr.loadAt, Instr.sureAddr, stuck] at h

def readRes (tmps : Array Value) : ResultVar → Sem Value
  | .tmp t => pure (tmps.getD t undef)
  | .cell a t => do loadVar t (← asAddr (tmps.getD a undef))

theorem resL_ok {E : Env} (hE : EnvOK P E) {N : Nat} {st : St} {a : Act} (hs : SimN P N fr st a w G) : ∀ {l : List ResultVar} {ss : List SV}, resL E.ty st l = some ss →
    ∃ vs : List Value, (l.mapM (readRes a.tmps)).run P w = .ok vs w ∧
      vs.length = l.length ∧ ss.length = l.length ∧ ∀ (j : Nat) (s : SV) (v : Value), ss[j]? = some s → vs[j]? = some v → SR P w G s v := by
  intro l
  induction l with
  | nil =>
    intro ss h
    cases h
    exact ⟨[], rfl, rfl, rfl, fun j s v h => by simp at h⟩
  | cons r l ih =>
    intro ss h
    cases r with
    | tmp t =>
      simp only [resL] at h
      split at h
      · rename_i ss' hss
        cases h
        obtain ⟨vs, h1, h2, h3, h4⟩ := ih hss
        refine ⟨a.tmps.getD t undef :: vs, ?_, by simp [h2], by simp [h3], fun j s v hj hv => ?_⟩
        · rw [List.mapM_cons]
          simp only [readRes, Sem.run_bind, Sem.run_pure, Result.andThen_ok, h1]
        · cases j with
          | zero => cases hj; cases hv; exact hs.slot t
          | succ j => exact h4 j s v (by simpa using hj) (by simpa using hv)
      · cases h
    | cell ad t =>
      simp only [resL] at h
      split at h
      · rename_i u hu
        split at h
        · rename_i s0 hl
          split at h
          · rename_i ss' hss
            cases h
            obtain ⟨vs, h1, h2, h3, h4⟩ := ih hss
            obtain ⟨z, k1, k2⟩ := loadAt_ok (hE.ty _ _ hu) hs.mem.objs hl (hs.slot ad)
            have k1 := loadVar_of k1
            refine ⟨z :: vs, ?_, by simp [h2], by simp [h3], fun j s v hj hv => ?_⟩
            · rw [List.mapM_cons]
              have k1 : (readRes a.tmps (.cell ad t)).run P w = .ok z w := k1
              simp only [Sem.run_bind, Sem.run_pure, k1, Result.andThen_ok, h1]
            · cases j with
              | zero => cases hj; cases hv; exact k2
              | succ j => exact h4 j s v (by simpa using hj) (by simpa using hv)
          · cases h
        · cases h
      · cases h

theorem results_ok {E : Env} (hE : EnvOK P E) {N : Nat} {st : St} {a : Act} (hs : SimN P N fr st a w G) {fn : Func} {ss : List SV} (h : resL E.ty st fn.results.toList = some ss) :
    ∃ (vs : List Value) (rv : Value), (results fn a.tmps).run P w = .ok rv w ∧ retIs vs rv ∧ vs.length = fn.results.toList.length ∧ ss.length = fn.results.toList.length ∧
      ∀ (j : Nat) (s : SV) (v : Value), ss[j]? = some s → vs[j]? = some v → SR P w G s v := by
  obtain ⟨vs, h1, h2, h3, h4⟩ := resL_ok hE hs h
  have hrun : (results fn a.tmps).run P w = .ok (if h : vs.toArray.size = 1 then vs.toArray[0] else .tuple vs.toArray) w := by
    have h1' : (fn.results.mapM (readRes a.tmps)).run P w = .ok vs.toArray w := by
      rw [Array.mapM_eq_mapM_toList]
      simp only [Sem.run_map, h1, Result.andThen_ok]
    unfold results
    have e : (fn.results.mapM fun | .tmp t => (pure (a.tmps.getD t undef) : Sem Value) | .cell ad t => do loadVar t (← asAddr (a.tmps.getD ad undef))) = fn.results.mapM (readRes a.tmps) := by
      congr 1
    simp only [Sem.run_bind]
    erw [e, h1']
    rfl
  refine ⟨vs, _, hrun, ?_, h2, h3, h4⟩
  rcases vs with _ | ⟨v, _ | ⟨v', vs⟩⟩
  · rfl
  · rfl
  · simp [retIs]

theorem boxes_ok {slots : Nat → SV} {tmps : Array Value} (hs : ∀ t, SR P w G (slots t) (tmps.getD t undef)) : ∀ {ps : List Sh} {i : Nat} {vals : List Value}, vals.length = ps.length →
    (∀ j v, vals[j]? = some v → hasN (i + j) (boxIx ps i) = true → tmps.getD (i + j) undef = v) →
    (boxesOf ps ((List.range' i ps.length).map slots)).length = (boxVals ps vals).length ∧
    ∀ (j : Nat) (s : SV) (v : Value), (boxesOf ps ((List.range' i ps.length).map slots))[j]? = some s → (boxVals ps vals)[j]? = some v → SR P w G s v := by
  intro ps
  have hlt : ∀ (ps : List Sh) (i j : Nat), hasN j (boxIx ps i) = true → i ≤ j := by
    intro ps
    induction ps with
    | nil => intro i j h; cases h
    | cons p ps ih =>
      intro i j h
      have key : hasN j (boxIx ps (i + 1)) = true → i ≤ j := fun h => by have := ih _ _ h; omega
      cases p <;> first | exact key h | skip
      all_goals
        simp only [boxIx, hasN, Bool.or_eq_true] at h
        rcases h with h | h
        · have := Nat.eq_of_beq_eq_true h; omega
        · exact key h
  induction ps with
  | nil => intro i vals hl h; exact ⟨rfl, fun j s v h => by simp [boxesOf] at h⟩
  | cons p ps ih =>
    intro i vals hl h
    cases vals with
    | nil => cases hl
    | cons v0 vals =>
      have hl' : vals.length = ps.length := by simpa using hl
      simp only [List.length_cons, List.range'_succ, List.map_cons]
      cases hb : isBox p with
      | true =>
        have e1 : boxesOf (p :: ps) (slots i :: (List.range' (i + 1) ps.length).map slots) = slots i :: boxesOf ps ((List.range' (i + 1) ps.length).map slots) := by
          cases p <;> first | rfl | cases hb
        have e2 : boxVals (p :: ps) (v0 :: vals) = v0 :: boxVals ps vals := by
          cases p <;> first | rfl | cases hb
        have e3 : boxIx (p :: ps) i = i :: boxIx ps (i + 1) := by
          cases p <;> first | rfl | cases hb
        rw [e1, e2]
        rw [e3] at h
        obtain ⟨h1, h2⟩ := ih (i := i + 1) hl' (fun j v hj hh => by
          have := h (j + 1) v (by simpa using hj) (by
            simp only [hasN, Bool.or_eq_true]
            right
            rw [show i + (j + 1) = i + 1 + j by omega]; exact hh)
          rw [show i + 1 + j = i + (j + 1) by omega]; exact this)
        refine ⟨by simp [h1], fun j s v hj hv => ?_⟩
        cases j with
        | zero =>
          cases hj; cases hv
          have := h 0 v0 rfl (by simp [hasN, Nat.beq_refl])
          rw [← this]
          exact hs i
        | succ j => exact h2 j s v (by simpa using hj) (by simpa using hv)
      | false =>
        have e1 : boxesOf (p :: ps) (slots i :: (List.range' (i + 1) ps.length).map slots) = boxesOf ps ((List.range' (i + 1) ps.length).map slots) := by
          cases p <;> first | rfl | cases hb
        have e2 : boxVals (p :: ps) (v0 :: vals) = boxVals ps vals := by
          cases p <;> first | rfl | cases hb
        have e3 : boxIx (p :: ps) i = boxIx ps (i + 1) := by
          cases p <;> first | rfl | cases hb
        rw [e1, e2]
        exact ih (i := i + 1) hl' (fun j v hj hh => by
          have := h (j + 1) v (by simpa using hj) (by rw [e3, show i + (j + 1) = i + 1 + j by omega]; exact hh)
          rw [show i + 1 + j = i + (j + 1) by omega]; exact this)

theorem SimN.frzE {N : Nat} {st : St} {a : Act} (hs : SimN P N fr st a w G) (l : List ResultVar) : ∃ G', GLe w G w G' ∧ SimN P N fr (frzEnd st l) a w G' := by
  obtain ⟨G', h1, h2⟩ := frz_ok (fz := frzUpd st.sto (frzRes st l)) hs.mem frzUpd_ok
  exact ⟨G', h1, fun t => (hs.slots t).mono h1 fun _ _ _ _ => Iff.rfl, hs.defs, hs.size, hs.fix, hs.nogrd, h2⟩

/-- The slots that a function may write: not those that hold boxes. -/
def okFun (N : Nat) (ps : List Sh) (d : Nat) : Bool := Nat.blt d N && !(hasN d (boxIx ps 0))

theorem fun_ok {E : Env} (hE : EnvOK P E) (hmix : P.follows .mixedOrders = true) {f : FuncId} {fn : Func} {c : Code} {ps rs : List Sh} {F : TupR ps → Option (TupR (rs ++ ps.filter isBox))}
    (hf : P.funcs[f]? = some fn) (hb : fn.body = some c) (hd : dstOK (okFun fn.ntmps ps) c = true) (hn : Nat.ble ps.length fn.ntmps = true) (hl : Nat.beq fn.results.toList.length rs.length = true)
    (hc : AllCuts P fn.ntmps (okFun fn.ntmps ps) (cutsOf E c 0)) (hF : ∀ v r, F v = some r → evFun E fn ps rs v = some r) : FunOK P f ⟨ps, rs, F⟩ := by
  intro w I v args bs hm hsh hnd r hr
  have hr := hF v r hr
  have hn := Nat.le_of_ble_eq_true hn
  have hl := Nat.eq_of_beq_eq_true hl
  have hlen : args.length = ps.length := hsh.length
  let fr : Fr := ⟨(· ∈ bs), w, I, fun t => if hasN t (boxIx ps 0) then some (args.getD t undef) else none⟩
  let tm : Array Value := args.toArray ++ Array.replicate (fn.ntmps - args.toArray.size) undef
  let a0 : Act := ⟨tm, []⟩
  have hlow : ∀ t, t < args.length → tm.getD t undef = args.getD t undef := by
    intro t ht
    simp [tm, Array.getD_eq_getD_getElem?, Array.getElem?_append_left, ht]
  have hbx : ∀ (ps : List Sh) (i j : Nat), hasN j (boxIx ps i) = true → j < i + ps.length := by
    intro ps
    induction ps with
    | nil => intro i j h; cases h
    | cons p ps ih =>
      intro i j h
      have key : hasN j (boxIx ps (i + 1)) = true → j < i + (ps.length + 1) := fun h => by have := ih _ _ h; omega
      cases p <;> first | exact key h | skip
      all_goals
        simp only [boxIx, hasN, Bool.or_eq_true] at h
        rcases h with h | h
        · have := Nat.eq_of_beq_eq_true h; simp only [List.length_cons]; omega
        · exact key h
  have hargs : (List.range ps.length).map (fun t => tm.getD t undef) = args := by
    apply List.ext_getElem?
    intro j
    rw [List.getElem?_map]
    by_cases h : j < ps.length
    · rw [List.getElem?_range h]
      simp only [Option.map_some]
      rw [hlow j (by omega), List.getD_eq_getElem?_getD, List.getElem?_eq_getElem (by omega)]
      rfl
    · rw [List.getElem?_eq_none (by simpa using h), List.getElem?_eq_none (by omega)]; rfl
  have hfxok : ∀ d, okFun fn.ntmps ps d = true → d < fn.ntmps ∧ fr.fx d = none := fun d hd => by
    simp only [okFun, Bool.and_eq_true, Nat.blt_eq, Bool.not_eq_true'] at hd
    refine ⟨hd.1, ?_⟩
    show (if hasN d (boxIx ps 0) = true then some (args.getD d undef) else none) = none
    rw [hd.2]; rfl
  obtain ⟨G0, hs0⟩ := made_ok (P := P) (fr := fr) (N := fn.ntmps) (k := ⟨List.range ps.length, ps⟩) (v := v) (a := a0) (I := I) rfl (by simp [a0, tm]; omega) (fun t v' h => by
      have h : (if hasN t (boxIx ps 0) = true then some (args.getD t undef) else none) = some v' := h
      split at h
      · rename_i hh
        cases h
        exact hlow t (by have := hbx _ _ _ hh; omega)
      · cases h) (After.refl hm) (by rw [hargs]; exact hsh) hnd (fun b hb => .inr hb)
  refine calls_of_wp hf hb ?_
  unfold evFun at hr
  rw [hb] at hr
  -- the end
  have fin : ∀ (st' : St) (a' : Act) (w' : World) (G' : Gh), SimN P fn.ntmps fr st' a' w' G' →
      (match resL E.ty (frzEnd st' fn.results.toList) fn.results.toList with
        | some l => parseN E.fs (frzSto (frzEnd st' fn.results.toList).sto (rs ++ ps.filter isBox) (l ++ boxesOf ps ((List.range ps.length).map (frzEnd st' fn.results.toList).slots))) (rs ++ ps.filter isBox) (l ++ boxesOf ps ((List.range ps.length).map (frzEnd st' fn.results.toList).slots))
        | none => none) = some r →
      a'.defers = [] ∧ ∃ v, (results fn a'.tmps).run P w' = .ok v w' ∧ ∃ rv vs I' bs', Ending.returned v = .returned rv ∧ vs.length = rs.length ∧ retIs vs rv ∧ After (· ∈ bs) w I w' I' ∧
        ShL P w' I' (rs ++ ps.filter isBox) r (vs ++ boxVals ps args) bs' ∧ bs'.Nodup ∧ ∀ b ∈ bs', b ∈ bs ∨ w.heap.size ≤ b := by
    intro st' a' w' G' hs' h
    refine ⟨hs'.defs, ?_⟩
    obtain ⟨G1, _, hs'⟩ := hs'.frzE fn.results.toList
    generalize frzEnd st' fn.results.toList = st' at h hs'
    split at h
    · rename_i ss hss
      obtain ⟨vs, rv, h1, h2, h3, h4, h5⟩ := results_ok hE hs' hss
      obtain ⟨b1, b2⟩ := boxes_ok (slots := st'.slots) (tmps := a'.tmps) hs'.slot (ps := ps) (i := 0) (vals := args) hlen (fun j v hj hh => by
        rw [Nat.zero_add] at hh ⊢
        exact hs'.fix j v (by
          show (if hasN j (boxIx ps 0) = true then some (args.getD j undef) else none) = some v
          rw [if_pos hh, List.getD_eq_getElem?_getD, hj]; rfl))
      rw [← List.range_eq_range'] at b1 b2
      have hss2 : ss.length = vs.length := by rw [h4, h3]
      obtain ⟨G2, gle, hm2⟩ := frzSto_ok hs'.mem (rs ++ ps.filter isBox) (ss ++ boxesOf ps ((List.range ps.length).map st'.slots))
      obtain ⟨bs', k1, k2, k3⟩ := parseN_ok hm2 hE.fs (vs := vs ++ boxVals ps args) h (by rw [List.length_append, List.length_append, b1, hss2]) (fun j s v hj hv => by
        by_cases hlt : j < ss.length
        · rw [List.getElem?_append_left hlt] at hj
          rw [List.getElem?_append_left (by omega)] at hv
          exact (h5 j s v hj hv).mono gle
        · have hge : ss.length ≤ j := Nat.le_of_not_lt hlt
          rw [List.getElem?_append_right hge] at hj
          rw [List.getElem?_append_right (by omega), ← hss2] at hv
          exact (b2 _ s v hj hv).mono gle)
      refine ⟨rv, h1, rv, vs, G2.im, bs', rfl, by rw [h3, hl], h2, hm2.after, k1, k2, fun b hb => ?_⟩
      obtain ⟨k, _, o, ho, hbo⟩ := k3 b hb
      rcases blk_owned (hm2.objs k o ho) hbo with h | h
      · exact .inr h
      · exact .inl h
    · cases h
  refine evC_ok hE hmix hfxok c 0 _ a0 w G0 _ r _ hd (cuts_of hc) hr hs0 fun e st' a' w' G' hs' hK => ?_
  cases e with
  | normal => exact fin st' a' w' G' hs' hK
  | ret => exact fin st' a' w' G' hs' hK
  | exit i => cases hK

end
end Go.Ev
