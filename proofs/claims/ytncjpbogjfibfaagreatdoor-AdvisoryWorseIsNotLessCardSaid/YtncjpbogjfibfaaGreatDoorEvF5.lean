/-
  Boxes go back to their places.
-/
import Derived.Test.YtncjpbogjfibfaaGreatDoorEvF4
set_option linter.unusedVariables false
set_option linter.unusedSimpArgs false
namespace Go.Ev

section
variable {P : Program} {fr : Fr} {free free' : Nat → Prop} {self : Nat} {σ σ' : Nat → Option Obj} {w w' : World} {G G' : Gh} {I : Im}

theorem mkC_out : ∀ {s : Sh} {x : s.T} {n : Nat} {σ : Nat → Option Obj} {j : Nat}, ¬ (n ≤ j ∧ j < n + s.cnt) → putSto σ (mkC s x n).obs j = σ j := by
  intro s
  induction s with
  | own el t wr =>
    intro x n σ j h
    have e : (mkC (.own el t wr) x n).obs = [(n, some (.sl el t x 0 wr))] := rfl
    rw [e, putSto_one, if_neg (fun e => h (by subst e; simp [Sh.cnt]))]
  | io el t =>
    intro x n σ j h
    have e : (mkC (.io el t) x n).obs = [(n, some (.sl el t x 0 true))] := rfl
    rw [e, putSto_one, if_neg (fun e => h (by subst e; simp [Sh.cnt]))]
  | omap a b =>
    intro x n σ j h
    have e : (mkC (.omap a b) x n).obs = [(n, some (.mp a b x true))] := rfl
    rw [e, putSto_one, if_neg (fun e => h (by subst e; simp [Sh.cnt]))]
  | pr a b iha ihb =>
    intro x n σ j h
    have e1 : (mkC (.pr a b) x n).obs = (mkC a x.1 n).obs ++ (mkC b x.2 (n + a.cnt)).obs := by
      show (mkC a x.1 n).obs ++ (mkC b x.2 (mkC a x.1 n).nx).obs = _
      rw [mkC_nx]
    simp only [Sh.cnt] at h
    rw [e1, putSto_append, iha (by omega), ihb (by omega)]
  | box c ih =>
    intro x n σ j h
    have e1 : (mkC (.box c) x n).obs = [(n, some (.box c.ty (mkC c x (n + 1)).sv true))] ++ (mkC c x (n + 1)).obs := rfl
    simp only [Sh.cnt] at h
    rw [e1, putSto_append, putSto_one, if_neg (by omega)]
    exact ih (by omega)
  | _ => intro x n σ j h; rfl

theorem MemS.back (hm : MemS P fr free σ w G) {k b : Nat} {t : Ty} {c : SV} (hbox : G.box k = some (b, t)) {wr : Bool} (ho : ObjOK P fr w G k (.box t c wr)) (hb : ∀ j o', σ j = some o' → blk G j o' ≠ some b) :
    MemS P fr free (putSto σ [(k, some (.box t c wr))]) w G := by
  have hblk : blk G k (.box t c wr) = some b := by simp [blk, hbox]
  refine ⟨fun j o h => ?_, fun i j o1 o2 b' hi hj hbi hbj => ?_, hm.after, fun j hj => ?_⟩
  · rw [putSto_one] at h
    by_cases e : j = k
    · rw [if_pos e] at h; cases h; subst e; exact ho
    · rw [if_neg e] at h; exact hm.objs j o h
  · rw [putSto_one] at hi hj
    by_cases e1 : i = k <;> by_cases e2 : j = k
    · rw [e1, e2]
    · exfalso
      rw [if_pos e1] at hi; rw [if_neg e2] at hj
      cases hi; subst e1
      rw [hblk] at hbi; cases hbi
      exact hb j o2 hj hbj
    · exfalso
      rw [if_neg e1] at hi; rw [if_pos e2] at hj
      cases hj; subst e2
      rw [hblk] at hbj; cases hbj
      exact hb i o1 hi hbi
    · rw [if_neg e1] at hi; rw [if_neg e2] at hj
      exact hm.sep i j o1 o2 b' hi hj hbi hbj
  · have hf := hm.fresh j hj
    refine ⟨?_, hf.2⟩
    rw [putSto_one, if_neg (fun e => ?_)]
    · exact hf.1
    · subst e
      rw [hf.2.2.1] at hbox; cases hbox

/-- An object comes back to its key. -/
theorem MemS.backO (hm : MemS P fr free σ w G) {k : Nat} {o : Obj} (ho : ObjOK P fr w G k o) (hnf : ¬ free k) (hb : ∀ b, blk G k o = some b → ∀ j o', σ j = some o' → blk G j o' ≠ some b) :
    MemS P fr free (putSto σ [(k, some o)]) w G := by
  refine ⟨fun j o' h => ?_, fun i j o1 o2 b' hi hj hbi hbj => ?_, hm.after, fun j hj => ?_⟩
  · rw [putSto_one] at h
    by_cases e : j = k
    · rw [if_pos e] at h; cases h; subst e; exact ho
    · rw [if_neg e] at h; exact hm.objs j o' h
  · rw [putSto_one] at hi hj
    by_cases e1 : i = k <;> by_cases e2 : j = k
    · rw [e1, e2]
    · exfalso
      rw [if_pos e1] at hi; rw [if_neg e2] at hj
      cases hi; subst e1
      exact hb _ hbi j o2 hj hbj
    · exfalso
      rw [if_neg e1] at hi; rw [if_pos e2] at hj
      cases hj; subst e2
      exact hb _ hbj i o1 hi hbi
    · rw [if_neg e1] at hi; rw [if_neg e2] at hj
      exact hm.sep i j o1 o2 b' hi hj hbi hbj
  · have hf := hm.fresh j hj
    refine ⟨?_, hf.2⟩
    rw [putSto_one, if_neg (fun e => ?_)]
    · exact hf.1
    · subst e; exact hnf hj

/-- The boxes among the arguments. -/
def BoxArgs (G : Gh) : List Sh → List SV → List Value → Prop
  | .box c :: ps, s :: ss, v :: vs => (∃ k u b, s = .ptr k [] u ∧ G.box k = some (b, c.ty) ∧ v = .pointer (some ⟨b, 0, none⟩)) ∧ BoxArgs G ps ss vs
  | .io _ t :: ps, s :: ss, v :: vs => ((∃ k, s = .obj k 0 ∧ G.val k 0 = some v ∧ G.ety k = some t) ∨ (s = .nilS ∧ v = .slice none 0 0)) ∧ BoxArgs G ps ss vs
  | _ :: ps, _ :: ss, _ :: vs => BoxArgs G ps ss vs
  | _, _, _ => True

theorem boxBack_ok : ∀ {ps : List Sh} {ss : List SV} {vals : List Value} {r : TupR (ps.filter isBox)} {n : Nat} {bs : List Nat} {free : Nat → Prop}, MemS P fr free σ w G → ss.length = ps.length → vals.length = ps.length →
    BoxArgs G ps ss vals → ShL P w G.im (ps.filter isBox) r (boxVals ps vals) bs → bs.Nodup →
    (∀ b ∈ bs, fr.owned b ∧ ∀ j o, σ j = some o → blk G j o ≠ some b) → (∀ k, n ≤ k → k < n + cntL (ps.filter isBox) → free k) →
    ∃ G', Made P fr free σ w G n (n + cntL (ps.filter isBox)) (boxBack ps ss (mkL (ps.filter isBox) r n)) bs G' := by
  intro ps
  induction ps with
  | nil =>
    intro ss vals r n bs free hm _ _ _ h _ _ _
    obtain ⟨_, rfl⟩ := h
    have : boxBack [] ss (mkL ([] : List Sh) r n) = [] := by cases ss <;> rfl
    refine ⟨G, ?_⟩
    show Made P fr free σ w G n n (boxBack [] ss (mkL ([] : List Sh) r n)) [] G
    rw [this]
    exact Made.none hm
  | cons p ps ih =>
    intro ss vals r n bs free hm hls hlv hba h hnd hbs hfree
    cases ss with
    | nil => cases hls
    | cons s ss =>
      cases vals with
      | nil => cases hlv
      | cons v vals =>
        cases p with
        | box c =>
          obtain ⟨⟨k, u, b, rfl, hbox, rfl⟩, hba'⟩ := hba
          -- the list of boxes: this one, and the rest
          have hsplit : ∃ (x : c.T) (r' : TupR (ps.filter isBox)) (b1 b2 : List Nat), bs = b1 ++ b2 ∧ ShC P w G.im (.box c) x [.pointer (some ⟨b, 0, none⟩)] b1 ∧ ShL P w G.im (ps.filter isBox) r' (boxVals ps vals) b2 ∧
              mkL ((Sh.box c :: ps).filter isBox) r n = mkC (.box c) x n :: mkL (ps.filter isBox) r' (n + (c.cnt + 1)) := by
            have h : ShL P w G.im ([Sh.box c] ++ ps.filter isBox) r ([.pointer (some ⟨b, 0, none⟩)] ++ boxVals ps vals) bs := h
            obtain ⟨b1, b2, e1, h1, h2⟩ := h.split rfl
            obtain ⟨v', e2, h3⟩ := h1
            have e2 : Value.pointer (some ⟨b, 0, none⟩) = v' := by injection e2
            subst e2
            refine ⟨_, _, b1, b2, e1, h3, h2, ?_⟩
            exact mkL_split (a := [Sh.box c]) (b := ps.filter isBox) (x := r) (n := n)
          obtain ⟨x, r', b1, b2, rfl, h1, h2, h3⟩ := hsplit
          have hnd' := List.nodup_append.1 hnd
          have hcnt : cntL ((Sh.box c :: ps).filter isBox) = c.cnt + 1 + cntL (ps.filter isBox) := rfl
          rw [hcnt] at hfree ⊢
          obtain ⟨G1, m1⟩ := ih (n := n + (c.cnt + 1)) hm (by simpa using hls) (by simpa using hlv) hba' h2 hnd'.2.1 (fun b hb => hbs b (List.mem_append_right _ hb)) (fun k h1 h2 => hfree k (by omega) (by omega))
          obtain ⟨b0, cells, el, bs', e1, rfl, q1, q2, q3, q4, q5⟩ := h1
          have hb0 : b0 = b := by
            injection e1 with e1 _
            injection e1 with e1
            injection e1 with e1
            injection e1 with e1 _ _
            exact e1.symm
          subst hb0
          have hndc := List.nodup_cons.1 hnd'.1
          have hfr : ∀ b' ∈ b0 :: bs', fr.owned b' ∧ ∀ j o, putSto σ (boxBack ps ss (mkL (ps.filter isBox) r' (n + (c.cnt + 1)))) j = some o → blk G1 j o ≠ some b' := fun b' hb' =>
            ⟨(hbs b' (List.mem_append_left _ hb')).1, fun j o ho hb2 => by
              rcases m1.own j o b' ho hb2 with h | ⟨j', o', h3, h4⟩
              · exact hnd'.2.2 b' hb' b' h rfl
              · exact (hbs b' (List.mem_append_left _ hb')).2 j' o' h3 h4⟩
          obtain ⟨G2, m2, r2, f2⟩ := mkC_ok (s := c) (x := x) (n := n + 1) m1.mem (by rw [m1.im]; exact q3) hndc.2 (fun b' hb' => hfr b' (List.mem_cons_of_mem _ hb')) (fun k h1 h2 => ⟨hfree k (by omega) (by omega), by omega⟩)
          have him : G2.im = G.im := m2.im.trans m1.im
          have hle := m1.le.trans m2.le
          have hbox2 : G2.box k = some (b0, c.ty) := hle.box _ _ hbox
          have hno : ∀ j o', putSto (putSto σ (boxBack ps ss (mkL (ps.filter isBox) r' (n + (c.cnt + 1))))) (mkC c x (n + 1)).obs j = some o' → blk G2 j o' ≠ some b0 := by
            intro j o' ho hb2
            rcases m2.own j o' b0 ho hb2 with h | ⟨j', o2, h3, h4⟩
            · exact hndc.1 h
            · exact (hfr b0 List.mem_cons_self).2 j' o2 h3 h4
          have hback := m2.mem.back (wr := true) (k := k) (b := b0) (t := c.ty) (c := (mkC c x (n + 1)).sv) hbox2
            ⟨b0, cells, el, hbox2, q1, q2, f2, r2, ⟨fun _ o => by rw [him]; exact q4 o, fun h => by cases h⟩, by rw [him]; exact q5, (hfr b0 List.mem_cons_self).1⟩ hno
          have eobs : boxBack (.box c :: ps) (.ptr k [] u :: ss) (mkL ((Sh.box c :: ps).filter isBox) r n) =
              ([(k, some (.box c.ty (mkC c x (n + 1)).sv true))] ++ (mkC c x (n + 1)).obs) ++ boxBack ps ss (mkL (ps.filter isBox) r' (n + (c.cnt + 1))) := by
            rw [h3]; rfl
          refine ⟨G2, hle, him, ?_, ?_⟩
          · rw [eobs, putSto_append, putSto_append]
            exact hback.shrink fun j hj => ⟨⟨hj.1, fun e => hj.2 ⟨by omega, by omega⟩⟩, fun e => hj.2 ⟨by omega, by omega⟩⟩
          · intro j o b' hj hb'
            rw [eobs, putSto_append, putSto_append, putSto_one] at hj
            by_cases e : j = k
            · rw [if_pos e] at hj; cases hj; subst e
              simp only [blk, hbox2, Option.map_some, Option.some.injEq] at hb'
              subst hb'
              exact .inl (List.mem_append_left _ List.mem_cons_self)
            · rw [if_neg e] at hj
              rcases m2.own j o b' hj hb' with h | ⟨j', o', h3, h4⟩
              · exact .inl (List.mem_append_left _ (List.mem_cons_of_mem _ h))
              · rcases m1.own j' o' b' h3 h4 with h | h
                · exact .inl (List.mem_append_right _ h)
                · exact .inr h
        | io el t =>
          obtain ⟨hs, hba'⟩ := hba
          have hsplit : ∃ (x : List t.T) (r' : TupR (ps.filter isBox)) (b1 b2 : List Nat), bs = b1 ++ b2 ∧ ShC P w G.im (.io el t) x [v] b1 ∧ ShL P w G.im (ps.filter isBox) r' (boxVals ps vals) b2 ∧
              mkL ((Sh.io el t :: ps).filter isBox) r n = mkC (.io el t) x n :: mkL (ps.filter isBox) r' (n + 1) := by
            have h : ShL P w G.im ([Sh.io el t] ++ ps.filter isBox) r ([v] ++ boxVals ps vals) bs := h
            obtain ⟨b1, b2, e1, h1, h2⟩ := h.split rfl
            obtain ⟨v', e2, h3⟩ := h1
            have e2 : v = v' := by injection e2
            subst e2
            exact ⟨_, _, b1, b2, e1, h3, h2, mkL_split (a := [Sh.io el t]) (b := ps.filter isBox) (x := r) (n := n)⟩
          obtain ⟨x, r', b1, b2, rfl, h1, h2, h3⟩ := hsplit
          have hnd' := List.nodup_append.1 hnd
          have hcnt : cntL ((Sh.io el t :: ps).filter isBox) = 1 + cntL (ps.filter isBox) := rfl
          rw [hcnt] at hfree ⊢
          obtain ⟨G1, m1⟩ := ih (n := n + 1) hm (by simpa using hls) (by simpa using hlv) hba' h2 hnd'.2.1 (fun b hb => hbs b (List.mem_append_right _ hb)) (fun k h1 h2 => hfree k (by omega) (by omega))
          have hfr : ∀ b' ∈ b1, fr.owned b' ∧ ∀ j o, putSto σ (boxBack ps ss (mkL (ps.filter isBox) r' (n + 1))) j = some o → blk G1 j o ≠ some b' := fun b' hb' =>
            ⟨(hbs b' (List.mem_append_left _ hb')).1, fun j o ho hb2 => by
              rcases m1.own j o b' ho hb2 with h | ⟨j', o', h3, h4⟩
              · exact hnd'.2.2 b' hb' b' h rfl
              · exact (hbs b' (List.mem_append_left _ hb')).2 j' o' h3 h4⟩
          rcases hs with ⟨k, rfl, hval, hety⟩ | ⟨rfl, rfl⟩
          · have hval1 := m1.le.val _ _ _ hval
            have hety1 := m1.le.ety _ _ hety
            have hsl : SlOK fr w G1.im el t x true v ∧ ∀ b', blk G1 k (.sl el t x 0 true) = some b' → b' ∈ b1 := by
              rw [m1.im]
              rcases h1 with ⟨e1, e2, rfl⟩ | ⟨b', cap, cells, e1, rfl, q1, q2, q3, q4, q5, q6, q7⟩
              · have e1 : v = .slice none 0 0 := by injection e1
                subst e1
                exact ⟨.inl ⟨rfl, e2⟩, fun b' hb' => by simp [blk, hval1] at hb'⟩
              · have e1 : v = .slice (some ⟨b', 0, none⟩) x.length cap := by injection e1
                subst e1
                refine ⟨.inr ⟨b', cap, cells, rfl, q1, q2, q3, q4, (hfr b' (by simp)).1, q5, q6, q7⟩, fun b2' hb' => ?_⟩
                simp only [blk, hval1, Option.some.injEq] at hb'
                subst hb'; simp
            have hback := m1.mem.backO (k := k) (o := .sl el t x 0 true) ⟨hety1, v, hval1, hsl.1⟩ (fun hf => by
              have := (hm.fresh k hf.1).2.1
              rw [hety] at this; cases this) (fun b' hb' j o' ho' => (hfr b' (hsl.2 b' hb')).2 j o' ho')
            have eobs : boxBack (.io el t :: ps) (.obj k 0 :: ss) (mkL ((Sh.io el t :: ps).filter isBox) r n) = [(k, some (.sl el t x 0 true))] ++ boxBack ps ss (mkL (ps.filter isBox) r' (n + 1)) := by
              rw [h3]; rfl
            refine ⟨G1, m1.le, m1.im, ?_, ?_⟩
            · rw [eobs, putSto_append]
              exact hback.shrink fun j hj => ⟨hj.1, fun e => hj.2 ⟨by omega, by omega⟩⟩
            · intro j o b' hj hb'
              rw [eobs, putSto_append, putSto_one] at hj
              by_cases e : j = k
              · rw [if_pos e] at hj; cases hj; subst e
                exact .inl (List.mem_append_left _ (hsl.2 b' hb'))
              · rw [if_neg e] at hj
                rcases m1.own j o b' hj hb' with h | h
                · exact .inl (List.mem_append_right _ h)
                · exact .inr h
          · have eobs : boxBack (.io el t :: ps) (.nilS :: ss) (mkL ((Sh.io el t :: ps).filter isBox) r n) = boxBack ps ss (mkL (ps.filter isBox) r' (n + 1)) := by
              rw [h3]; rfl
            refine ⟨G1, m1.le, m1.im, ?_, ?_⟩
            · rw [eobs]
              exact m1.mem.shrink fun j hj => ⟨hj.1, fun e => hj.2 ⟨by omega, by omega⟩⟩
            · intro j o b' hj hb'
              rw [eobs] at hj
              rcases m1.own j o b' hj hb' with h | h
              · exact .inl (List.mem_append_right _ h)
              · exact .inr h
        | _ => exact ih hm (by simpa using hls) (by simpa using hlv) hba h hnd hbs hfree

end
end Go.Ev
