/-
  Calls.
-/
import Derived.Test.YtncjpbogjfibfaaGreatDoorEvF5
set_option linter.unusedVariables false
set_option linter.unusedSimpArgs false
namespace Go.Ev

theorem cntL_append : ∀ (a b : List Sh), cntL (a ++ b) = cntL a + cntL b := by
  intro a b
  induction a with
  | nil => simp [cntL]
  | cons s a ih => simp only [List.cons_append, cntL, ih]; omega

section
variable {P : Program} {fr : Fr} {free free' : Nat → Prop} {self : Nat} {σ σ' : Nat → Option Obj} {w w' : World} {G G' : Gh} {I : Im}

theorem BoxArgs.mono : ∀ {l : List Sh} {ss : List SV} {vs : List Value}, BoxArgs G l ss vs → (∀ k b, G.box k = some b → G'.box k = some b) → (∀ k g v, G.val k g = some v → G'.val k g = some v) → (∀ k t, G.ety k = some t → G'.ety k = some t) → BoxArgs G' l ss vs := by
  intro l
  induction l with
  | nil => intro ss vs _ _ _ _; cases ss <;> exact trivial
  | cons a l ih =>
    intro ss vs h hb hv he
    cases ss with
    | nil => cases a <;> exact trivial
    | cons s ss =>
      cases vs with
      | nil => cases a <;> exact trivial
      | cons v vs =>
        cases a with
        | box c =>
          obtain ⟨⟨k, u, b, h1, h2, h3⟩, h4⟩ := h
          exact ⟨⟨k, u, b, h1, hb _ _ h2, h3⟩, ih h4 hb hv he⟩
        | io el t =>
          obtain ⟨h1, h2⟩ := h
          refine ⟨h1.imp (fun ⟨k, e1, e2, e3⟩ => ⟨k, e1, hv _ _ _ e2, he _ _ e3⟩) id, ih h2 hb hv he⟩
        | _ => exact ih h hb hv he

theorem boxArgs_of (hm : MemS P fr free σ w G) {fs : Nat → Option FSpec} : ∀ {l : List Sh} {svs : List SV} {x : TupR l} {vs : List Value}, parseL fs σ l svs = some x →
    (∀ (j : Nat) (s : SV) (v : Value), svs[j]? = some s → vs[j]? = some v → SR P w G s v) → BoxArgs G l svs vs := by
  intro l
  induction l with
  | nil => intro svs x vs _ _; cases svs <;> exact trivial
  | cons a l ih =>
    intro svs x vs h hs
    cases svs with
    | nil => cases a <;> exact trivial
    | cons s svs =>
      cases vs with
      | nil => cases a <;> exact trivial
      | cons v vs =>
        have h0 := hs 0 s v rfl rfl
        have hrest : BoxArgs G l svs vs := by
          cases l with
          | nil => cases svs <;> exact trivial
          | cons b l =>
            rw [parseL_cons] at h
            split at h
            · rename_i x1 x2 h1 h2
              exact ih h2 (fun j s v h1 h2 => hs (j + 1) s v (by simpa using h1) (by simpa using h2))
            · cases h
        have hfirst : ∃ y, parseS fs σ a s = some y := by
          cases l with
          | nil =>
            cases svs with
            | nil => exact ⟨x, h⟩
            | cons _ _ => cases h
          | cons b l =>
            rw [parseL_cons] at h
            split at h
            · rename_i x1 x2 h1 h2
              exact ⟨x1, h1⟩
            · cases h
        cases a with
        | box c =>
          refine ⟨?_, hrest⟩
          obtain ⟨y, hy⟩ := hfirst
          have hy : parseBox σ c s = some y := hy
          unfold parseBox at hy
          split at hy
          · rename_i k u
            split at hy
            · rename_i t cv hk
              cases hts : t.same c.ty with
              | false => rw [hts] at hy; cases hy
              | true =>
                have et := Ty.same_eq hts
                subst et
                obtain ⟨b, cells, el, k1, k2, _⟩ := hm.objs _ _ hk
                obtain ⟨cc, hc, b', t', o, j1, j2, _, j4⟩ := h0
                rw [k1] at j1
                cases j1
                have ho : o = 0 := by
                  have : Ty.off c.ty [] = some o := j2
                  cases hc : c.ty <;> rw [hc] at this <;> exact (Option.some.inj this).symm
                subst ho
                have hv : [v] = [Value.pointer (some ⟨b, 0, none⟩)] := (show cc = [v] from hc).symm.trans j4
                exact ⟨_, _, b, rfl, k1, List.singleton_inj.1 hv⟩
            · cases hy
          · cases hy
        | io el t =>
          refine ⟨?_, hrest⟩
          obtain ⟨y, hy⟩ := hfirst
          replace hy : parseOwn σ el t true s = some y := hy
          unfold parseOwn at hy
          split at hy
          · rename_i k g
            split at hy
            · rename_i id' t' xs g' w1 hk
              cases hb : (Nat.beq g 0 && Nat.beq g g' && (Nat.beq el id' && (bif true then w1 else !w1))) with
              | false => rw [hb] at hy; cases hy
              | true =>
                rw [hb] at hy
                have hy : Ty.cast? (.slice t') (.slice t) xs = some y := hy
                simp only [Bool.and_eq_true] at hb
                have e0 := Nat.eq_of_beq_eq_true hb.1.1
                have e1 := Nat.eq_of_beq_eq_true hb.1.2
                subst e0 e1
                obtain ⟨et, _⟩ := Ty.cast?_some hy
                have et' : t' = t := by injection et
                subst et'
                obtain ⟨k1, v', k2, _⟩ := hm.objs _ _ hk
                have hv := obj_inv h0
                exact .inl ⟨k, rfl, hv, k1⟩
            · cases hy
          · obtain ⟨cc, hc, h1⟩ := h0
            have h1 : cc = [.slice none 0 0] := h1
            have hv : v = .slice none 0 0 := List.singleton_inj.1 ((show cc = [v] from hc).symm.trans h1)
            exact .inr ⟨rfl, hv⟩
          · cases hy
        | _ => exact hrest

theorem retIs_one {m : Mk} {vs : List Value} {rv : Value} (h : retIs vs rv) (hl : vs.length = 1) (hs : ∀ (j : Nat) (m' : Mk) (v : Value), [m][j]? = some m' → vs[j]? = some v → SR P w G m'.sv v) : SR P w G m.sv rv := by
  cases vs with
  | nil => cases hl
  | cons v vs =>
    have : vs = [] := List.eq_nil_of_length_eq_zero (by simpa using hl)
    subst this
    have h : rv = v := h
    rw [h]
    exact hs 0 m v rfl rfl

theorem retIs_more {ms : List Mk} {vs : List Value} {rv : Value} (h : retIs vs rv) (hl : vs.length = ms.length) (hn : ms.length ≠ 1) (hs : ∀ (j : Nat) (m' : Mk) (v : Value), ms[j]? = some m' → vs[j]? = some v → SR P w G m'.sv v) :
    SR P w G (.tup (SV.ofList (ms.map (·.sv)))) rv := by
  have hrv : rv = .tuple vs.toArray := by
    cases vs with
    | nil => exact h
    | cons v vs =>
      cases vs with
      | nil => exact absurd hl.symm hn
      | cons _ _ => exact h
  rw [hrv]
  refine ⟨_, rfl, vs.toArray, rfl, ?_⟩
  refine caps_ok (by simp [hl]) fun j s v h1 h2 => ?_
  rw [List.getElem?_map] at h1
  cases hm : ms[j]? with
  | none => rw [hm] at h1; cases h1
  | some m =>
    rw [hm] at h1
    cases h1
    exact hs j m v hm h2

/-- What a call's results are in the evaluator. -/
def resOf (ms : List Mk) : SV := match ms with
  | [m] => m.sv
  | _ => .tup (SV.ofList (ms.map (·.sv)))

theorem resOf_ok {ms : List Mk} {vs : List Value} {rv : Value} (h : retIs vs rv) (hl : vs.length = ms.length) (hs : ∀ (j : Nat) (m' : Mk) (v : Value), ms[j]? = some m' → vs[j]? = some v → SR P w G m'.sv v) : SR P w G (resOf ms) rv := by
  cases ms with
  | nil => exact retIs_more h hl (by simp) hs
  | cons m ms =>
    cases ms with
    | nil => exact retIs_one h hl hs
    | cons m2 ms => exact retIs_more h hl (by simp) hs

theorem opCall_ok {fs : Nat → Option FSpec} (hE : ∀ f sp, fs f = some sp → Enters P f ∧ FunOK P f sp) (hm : MemS P fr free σ w G) (hσ : ∀ k o, σ' k = some o → σ k = some o) (hfree : ∀ k, self ≤ k → k < self + 8 → free k)
    {f : Nat} {args : List SV} {vals : List Value} {r : OpRes} {u : Upd} (hlen : args.length = vals.length) (hs : ∀ (j : Nat) (s : SV) (v : Value), args[j]? = some s → vals[j]? = some v → SR P w G s v)
    (hr : opCall fs σ' self f args = some r) (hu : Gives r u) :
    Enters P f ∧ Calls P f vals.toArray w fun e w' => ∃ v, e = .returned v ∧ Res P fr free self σ w G u v w' := by
  unfold opCall at hr
  split at hr
  · rename_i sp hsp
    obtain ⟨hent, hfun⟩ := hE _ _ hsp
    cases hc : Nat.ble (cntL (sp.rs ++ sp.ps.filter isBox)) 8 with
    | false => rw [hc] at hr; cases hr
    | true =>
      rw [hc] at hr
      simp only [cond_true] at hr
      have hcnt := Nat.le_of_ble_eq_true hc
      rw [cntL_append] at hcnt
      split at hr
      · rename_i v hv
        cases hr
        obtain ⟨y, hy, rfl⟩ := hu.may_inv
        have hm' := hm.sub hσ
        obtain ⟨bs, p1, p2, p3⟩ := parseN_ok hm' hE hv hlen hs
        have hpl : parseL fs σ' sp.ps args = some v := by
          unfold parseN at hv
          cases hd : distinct (keysL σ' sp.ps args) with
          | false => rw [hd] at hv; cases hv
          | true => rw [hd] at hv; exact hv
        have hba := boxArgs_of hm' hpl hs
        have hplen : ∀ {l : List Sh} {svs : List SV} {x : TupR l}, parseL fs σ' l svs = some x → svs.length = l.length := by
          intro l
          induction l with
          | nil => intro svs x h; cases svs with
            | nil => rfl
            | cons _ _ => cases h
          | cons a l ih =>
            intro svs x h
            cases svs with
            | nil => cases l <;> cases h
            | cons s svs =>
              cases l with
              | nil => cases svs with
                | nil => rfl
                | cons _ _ => cases h
              | cons b l =>
                rw [parseL_cons] at h
                split at h
                · rename_i x1 x2 h1 h2
                  simp [ih h2]
                · cases h
        have hal := hplen hpl
        refine ⟨hent, Calls.mono (hfun w G.im v vals bs hm.after.mem p1 p2 y hy) fun e w' hq => ?_⟩
        obtain ⟨rv, vs, I', bs', rfl, hvl, hret, haft, hres, hnd', hown⟩ := hq
        refine ⟨rv, rfl, ?_⟩
        have p3' : BlksOf σ G (keysL σ' sp.ps args) bs := fun b hb => let ⟨k, h1, o, h2, h3⟩ := p3 b hb; ⟨k, h1, o, hσ k o h2, h3⟩
        obtain ⟨g1, g2⟩ := hm.called p3' haft
        obtain ⟨b1, b2, rfl, r1, r2⟩ := hres.split hvl
        have hndp := List.nodup_append.1 hnd'
        -- the blocks that come back are nobody else's
        have hbk : ∀ b ∈ b1 ++ b2, fr.owned b ∧ ∀ j o, putSto σ (gone (keysL σ' sp.ps args)) j = some o → blk { G with im := I' } j o ≠ some b := by
          intro b hb
          refine ⟨?_, fun j o ho hbj => ?_⟩
          · rcases hown b hb with h | h
            · obtain ⟨k, _, o, ho, hbo⟩ := p3' b h
              exact blk_owned (hm.objs k o ho) hbo
            · exact .inl (Nat.le_trans hm.after.size h)
          · have ho' : j ∉ keysL σ' sp.ps args ∧ σ j = some o := by
              rw [putSto_gone] at ho
              by_cases hj : j ∈ keysL σ' sp.ps args
              · rw [if_pos hj] at ho; cases ho
              · rw [if_neg hj] at ho; exact ⟨hj, ho⟩
            have hbj0 : blk G j o = some b := by rw [← blk_mono (hm.objs j o ho'.2) g1]; exact hbj
            rcases hown b hb with h | h
            · obtain ⟨k, hk, o2, ho2, hbo⟩ := p3' b h
              have := hm.sep j k o o2 b ho'.2 ho2 hbj0 hbo
              subst this
              exact ho'.1 hk
            · have := blk_lt (hm.objs j o ho'.2) hbj0
              omega
        obtain ⟨G2, m2⟩ := boxBack_ok (ps := sp.ps) (ss := args) (vals := vals) (n := self + cntL sp.rs) g2 hal (by omega) (by
          exact hba.mono (fun k b h => h) (fun k g v h => h) (fun k t h => h)) r2 hndp.2.1 (fun b hb => hbk b (List.mem_append_right _ hb)) (fun k h1 h2 => hfree k (by omega) (by omega))
        obtain ⟨G3, m3, e1, e2, e3⟩ := mkL_ok (l := sp.rs) (n := self) m2.mem (by rw [m2.im]; exact r1) hndp.1 (fun b hb => ⟨(hbk b (List.mem_append_left _ hb)).1, fun j o ho hb2 => by
          rcases m2.own j o b ho hb2 with h | ⟨j', o', h3, h4⟩
          · exact hndp.2.2 b hb b h rfl
          · exact (hbk b (List.mem_append_left _ hb)).2 j' o' h3 h4⟩) (fun k h1 h2 => ⟨hfree k h1 (by omega), by omega⟩)
        have hsplit := mkL_split (a := sp.rs) (b := sp.ps.filter isBox) (x := y) (n := self)
        have htake : (mkL (sp.rs ++ sp.ps.filter isBox) y self).take sp.rs.length = mkL sp.rs (splitT sp.rs (sp.ps.filter isBox) y).1 self := by
          rw [hsplit, List.take_left' e2]
        have hdrop : (mkL (sp.rs ++ sp.ps.filter isBox) y self).drop sp.rs.length = mkL (sp.ps.filter isBox) (splitT sp.rs (sp.ps.filter isBox) y).2 (self + cntL sp.rs) := by
          rw [hsplit, List.drop_left' e2]
        refine ⟨G3, (g1.trans m2.le).trans m3.le, ?_, ?_⟩
        · show MemS P fr _ (putSto σ ((((mkL (sp.rs ++ sp.ps.filter isBox) y self).take sp.rs.length).flatMap (·.obs)) ++ (boxBack sp.ps args ((mkL (sp.rs ++ sp.ps.filter isBox) y self).drop sp.rs.length) ++ gone (keysL σ' sp.ps args)))) w' G3
          rw [htake, hdrop, putSto_append, putSto_append]
          refine m3.mem.shrink fun j hj => ?_
          have hns : ¬ (self ≤ j ∧ j < self + 8) := fun h => by
            have := hj.2
            simp only [inSelf, Bool.and_eq_false_iff] at this
            rcases this with h1 | h1
            · rw [Nat.ble_eq_true_of_le h.1] at h1; cases h1
            · rw [show Nat.blt j (self + 8) = true from Nat.ble_eq_true_of_le h.2] at h1; cases h1
          exact ⟨⟨hj.1, fun e => hns ⟨by omega, by omega⟩⟩, fun e => hns ⟨by omega, by omega⟩⟩
        · show SR P w' G3 (resOf ((mkL (sp.rs ++ sp.ps.filter isBox) y self).take sp.rs.length)) rv
          rw [htake]
          exact resOf_ok hret (by rw [hvl, e2]) e3
      · cases hr
  · cases hr

end
end Go.Ev
