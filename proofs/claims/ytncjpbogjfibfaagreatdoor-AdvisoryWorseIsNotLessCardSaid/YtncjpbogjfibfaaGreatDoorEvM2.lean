/-
  STORES.
-/
import Derived.Test.YtncjpbogjfibfaaGreatDoorEvM
set_option linter.unusedVariables false
set_option linter.unusedSimpArgs false
namespace Go.Ev

theorem splice_get {cs ds : List Value} {o : Nat} (h : o + ds.length ≤ cs.length) (q : Nat) : (splice cs o ds)[q]? = if o ≤ q ∧ q < o + ds.length then ds[q - o]? else cs[q]? := by
  unfold splice
  by_cases h1 : q < o
  · rw [List.getElem?_append_left (by simp; omega), List.getElem?_take, if_pos h1, if_neg (by omega)]
  · rw [List.getElem?_append_right (by simp; omega)]
    have hl : (cs.take o).length = o := by simp; omega
    rw [hl]
    by_cases h2 : q < o + ds.length
    · rw [List.getElem?_append_left (by omega), if_pos ⟨by omega, h2⟩]
    · rw [List.getElem?_append_right (by omega), if_neg (by omega), List.getElem?_drop]
      congr 1; omega

theorem splice_in {cs ds : List Value} {a n o : Nat} (h : a + n ≤ cs.length) (ho : o + ds.length ≤ n) :
    ((splice cs (a + o) ds).drop a).take n = splice ((cs.drop a).take n) o ds := by
  apply List.ext_getElem?
  intro q
  have hl : ((cs.drop a).take n).length = n := by simp; omega
  rw [splice_get (by omega), List.getElem?_take]
  by_cases hq : q < n
  · rw [if_pos hq, List.getElem?_drop, splice_get (by omega)]
    by_cases h1 : o ≤ q ∧ q < o + ds.length
    · rw [if_pos ⟨by omega, by omega⟩, if_pos h1]; congr 1; omega
    · rw [if_neg (by omega), if_neg h1, List.getElem?_take, if_pos hq, List.getElem?_drop]
  · rw [if_neg hq, if_neg (by omega), List.getElem?_take, if_neg hq]

theorem splice_out {cs ds : List Value} {a n o : Nat} (h : o + ds.length ≤ cs.length) (ho : a + n ≤ o ∨ o + ds.length ≤ a) :
    ((splice cs o ds).drop a).take n = (cs.drop a).take n := by
  apply List.ext_getElem?
  intro q
  rw [List.getElem?_take, List.getElem?_take]
  by_cases hq : q < n
  · rw [if_pos hq, if_pos hq, List.getElem?_drop, List.getElem?_drop, splice_get h, if_neg (by omega)]
  · rw [if_neg hq, if_neg hq]

theorem splice_splice {cs ds : List Value} {o p m : Nat} (h : o + m ≤ cs.length) (hp : p + ds.length ≤ m) :
    splice cs o (splice ((cs.drop o).take m) p ds) = splice cs (o + p) ds := by
  have hl : ((cs.drop o).take m).length = m := by simp; omega
  have hl2 : (splice ((cs.drop o).take m) p ds).length = m := by rw [splice_len (by omega), hl]
  apply List.ext_getElem?
  intro q
  rw [splice_get (by omega), hl2]
  by_cases h1 : o ≤ q ∧ q < o + m
  · rw [if_pos h1, splice_get (by omega), splice_get (by omega)]
    by_cases h2 : p ≤ q - o ∧ q - o < p + ds.length
    · rw [if_pos h2, if_pos (by omega)]; congr 1; omega
    · rw [if_neg h2, if_neg (by omega), List.getElem?_take, if_pos (by omega), List.getElem?_drop]; congr 1; omega
  · rw [if_neg h1, splice_get (by omega), if_neg (by omega)]

section
variable {P : Program} {fr : Fr} {free free' : Nat → Prop} {self : Nat} {σ σ' : Nat → Option Obj} {w w' : World} {G G' : Gh}

theorem Rel.oneCell {I : Im} : ∀ {t : Ty} {x : t.T} {cs : List Value}, Rel w I t x cs → ∀ v ∈ cs, v.oneCell' = true := by
  intro t
  induction t with
  | unit => intro x cs h v hv; rw [show cs = [] from h] at hv; cases hv
  | bool => intro x cs h v hv; rw [show cs = [_] from h] at hv; simp at hv; subst hv; rfl
  | int k => intro x cs h v hv; rw [show cs = [_] from h.1] at hv; simp at hv; subst hv; rfl
  | str => intro x cs h v hv; rw [show cs = [_] from h.1] at hv; simp at hv; subst hv; rfl
  | slice s ih => intro x cs h v hv; obtain ⟨a, cap, h1, _⟩ := h; rw [h1] at hv; simp at hv; subst hv; rfl
  | agg s ih => intro x cs h; exact ih (show Rel w I s x cs from h)
  | prod a b iha ihb =>
    intro x cs h v hv
    obtain ⟨c, d, h1, h2, h3⟩ := h
    rw [h1] at hv
    rcases List.mem_append.1 hv with h | h
    · exact iha h2 v h
    · exact ihb h3 v h
  | arr n s ih =>
    intro x cs h v hv
    obtain ⟨h1, h2, h3⟩ := h
    obtain ⟨q, hq⟩ := List.getElem?_of_mem hv
    have hql : q < cs.length := (List.getElem?_eq_some_iff.1 hq).1
    have hs0 : 0 < s.sz := by
      rcases Nat.eq_zero_or_pos s.sz with h | h
      · rw [h2, h, Nat.mul_zero] at hql; omega
      · exact h
    have hi : q / s.sz < List.length (show List s.T from x) := by
      rw [h1]; exact Nat.div_lt_of_lt_mul (by rw [Nat.mul_comm, ← h2]; exact hql)
    have hr := h3 (q / s.sz) _ (List.getElem?_eq_getElem hi)
    refine ih hr v ?_
    have hdm := Nat.div_add_mod q s.sz
    have hm := Nat.mod_lt q hs0
    have : ((cs.drop (q / s.sz * s.sz)).take s.sz)[q % s.sz]? = some v := by
      rw [List.getElem?_take, if_pos hm, List.getElem?_drop, Nat.mul_comm, hdm]; exact hq
    exact List.mem_of_getElem? this
  | ptr s ih =>
    intro x cs h v hv
    cases x with
    | none => rw [show cs = [_] from h] at hv; simp at hv; subst hv; rfl
    | some y => obtain ⟨ad, h1, _⟩ := h; rw [h1] at hv; simp at hv; subst hv; rfl
  | map k e ihk ihv => intro x cs h v hv; obtain ⟨r, h1, _⟩ := h; rw [h1] at hv; simp at hv; subst hv; rfl
  | inil => intro x cs h v hv; rw [show cs = [_] from h] at hv; simp at hv; subst hv; rfl
  | ialt id t r iht ihr =>
    intro x cs h v hv
    cases x with
    | inl y => obtain ⟨v', c, h1, _⟩ := h; rw [h1] at hv; simp at hv; subst hv; rfl
    | inr z => exact ihr h.2 v hv

theorem cells_of_one {v : Value} (h : v.oneCell' = true) : v.cells = #[v] := by
  cases v <;> first | rfl | (simp [Value.oneCell'] at h)

theorem VRel.cells {I : Im} {t : Ty} {x : t.T} {v : Value} (h : VRel w I t x v) : Rel w I t x v.cells.toList := by
  obtain ⟨c, h1, h2⟩ := h
  have ag : v = .agg c.toArray → Rel w I t x v.cells.toList := by intro e; rw [e]; exact h2
  have pl : c = [v] → Rel w I t x v.cells.toList := by
    intro e
    subst e
    rw [cells_of_one (h2.oneCell v (by simp))]; exact h2
  cases t <;> first | exact ag h1 | exact pl h1

theorem SR.one {s : SV} {v : Value} (h : SR P w G s v) (hn : ∀ u y, s ≠ .val u y) : CR P w G s [v] := by
  obtain ⟨c, h1, h2⟩ := h
  have : c = [v] := by cases s <;> first | exact h1 | exact absurd rfl (hn _ _)
  rw [this] at h2; exact h2

/-- A value that can be stored: its cells. -/
theorem storable_ok {t : Ty} {s s' : SV} {v : Value} (hs : storable t s = some s') (h : SR P w G s v) :
    Fit s' t ∧ CR P w G s' v.cells.toList ∧ ∀ x ∈ v.cells.toList, x.oneCell' = true := by
  have one : ∀ {s : SV}, (t.sz = 1 → Fit s t) → t.sz = 1 → CR P w G s [v] → v.oneCell' = true → Fit s t ∧ CR P w G s v.cells.toList ∧ ∀ x ∈ v.cells.toList, x.oneCell' = true := by
    intro s a a' b c
    rw [cells_of_one c]
    exact ⟨a a', b, by simpa using c⟩
  have vl : ∀ {s : SV}, (SV.as t s).map (SV.val t ·) = some s' → SR P w G s v → Fit s' t ∧ CR P w G s' v.cells.toList ∧ ∀ x ∈ v.cells.toList, x.oneCell' = true := by
    intro s h1 h2
    cases hx : SV.as t s with
    | none => rw [hx] at h1; cases h1
    | some x =>
      rw [hx] at h1
      cases h1
      have := (as_ok hx h2).cells
      exact ⟨rfl, this, this.oneCell⟩
  unfold storable at hs
  split at hs
  · have hc := h.one (by intro u y h; cases h)
    have ho := obj_one h
    split at hs
    · cases hs; exact one (fun h => h) rfl hc ho
    · cases hs; exact one (fun h => h) rfl hc ho
    · cases hs
  · have hc := h.one (by intro u y h; cases h)
    obtain ⟨b, t', o, _, _, _, hv⟩ := ptr_inv h
    split at hs
    · cases hs; exact one (fun h => h) rfl hc (by rw [hv]; rfl)
    · cases hs
  · exact vl hs h

theorem Fit.of_bare {s : SV} {t u : Ty} (h : Fit s t) (e : u.bare = t.bare) : Fit s u := by
  have hz : u.sz = t.sz := by rw [← Ty.sz_bare, e, Ty.sz_bare]
  cases s <;> first | exact (show _ = _ from h).trans e.symm | exact hz.trans h | (obtain ⟨x, y, h1, h2⟩ := h; exact ⟨x, y, e.trans h1, h2⟩) | exact absurd h id

/-- Cells of a block that nothing leans on. -/
theorem Ext.of_heap {I : Im} {b : Nat} (hw : ∀ b', b' ≠ b → w'.heap[b']? = w.heap[b']?) (hC : ∀ o, ¬ I.cell b o) (hO : ¬ I.obj b) : Ext w I w' I :=
  ⟨fun b' o h => ⟨h, by
    have : b' ≠ b := fun e => hC o (e ▸ h)
    simp only [World.cell?, hw b' this]⟩, fun b' h => ⟨h, hw b' (fun e => hO (e ▸ h))⟩⟩

theorem GLe.of_heap {b : Nat} (hw : ∀ b', b' ≠ b → w'.heap[b']? = w.heap[b']?) (hC : ∀ o, ¬ G.im.cell b o) (hO : ¬ G.im.obj b) : GLe w G w' G :=
  ⟨Ext.of_heap hw hC hO, fun _ _ _ h => h, fun _ _ h => h, fun _ _ h => h⟩

theorem storeVar_ok {t : Ty} {id : Nat} (hl : Lay P t id) {b o : Nat} {cs : Array Value} {el : TypeId} (hb : w.heap[b]? = some (.cells cs el (0, 0))) {v : Value}
    (hlen : v.cells.toList.length = t.sz) (h1 : ∀ x ∈ v.cells.toList, x.oneCell' = true) (hfit : o + t.sz ≤ cs.size) :
    (storeVar id ⟨b, o, none⟩ v).run P w = .ok () (w.setRow b (splice cs.toList o v.cells.toList).toArray) := by
  obtain ⟨i, hi, hc⟩ := hl.cells
  have hs : v.cells.size = t.sz := by rw [← hlen]; simp
  simp only [storeVar, Sem.run_bind, run_sizeOf w hi, hc, Result.andThen_ok]
  rw [if_neg (by simp [hs])]
  rw [run_storeCells_at P b o el v.cells.toList 0 cs w hb (by omega) h1]
  simp [splice]

/-- A store into a block of the call's own. -/
theorem MemS.set (hm : MemS P fr free σ w G) {k b : Nat} {o o' : Obj} {cs new : Array Value} {el : TypeId} (hk : σ k = some o) (hbk : blk G k o = some b)
    (hb : w.heap[b]? = some (.cells cs el (0, 0))) (hC : ∀ o, ¬ G.im.cell b o) (hO : ¬ G.im.obj b) (hown : fr.owned b)
    (hnew : (w.setRow b new).heap[b]? = some (.cells new el (0, 0)) → GLe w G (w.setRow b new) G → ObjOK P fr (w.setRow b new) G k o' ∧ blk G k o' = some b) :
    GLe w G (w.setRow b new) G ∧ MemS P fr (freeBut free self) (putSto σ [(k, some o')]) (w.setRow b new) G := by
  have hw : ∀ b', b' ≠ b → (w.setRow b new).heap[b']? = w.heap[b']? := fun b' h => setRow_other w b b' new h
  have hle : GLe w G (w.setRow b new) G := GLe.of_heap hw hC hO
  obtain ⟨h1, h2⟩ := hnew (setRow_heap w b cs new el (0, 0) hb) hle
  refine ⟨hle, hm.change (b := b) hle ?_ (fun b' _ h => hw b' h) (by simp) (by simpa using lt_of_heap hb) hown (fun _ _ h => .inl h) (fun _ h => .inl h) rfl rfl rfl ?_ ?_⟩
  · intro j oj hj hoj hbj
    exact hj (hm.sep j k oj o b hoj hk hbj hbk)
  · intro o2 ho2
    cases ho2
    exact ⟨h1, .inl h2⟩
  · intro j hj
    have hf := hm.fresh j hj.1
    refine ⟨fun e => ?_, hj.1, hf.2.1, hf.2.2.1, hf.2.2.2⟩
    subst e
    rw [hf.1] at hk; cases hk

/-- Elements in cells, one of them turned. -/
theorem elems_set {I : Im} {e : Ty} {xs : List e.T} {c ds : List Value} {i o2 : Nat} {z : e.T} (hc : xs.length * e.sz ≤ c.length)
    (h : ∀ j y, xs[j]? = some y → Rel w I e y ((c.drop (j * e.sz)).take e.sz)) (hi : i < xs.length)
    (hz : Rel w I e z (splice ((c.drop (i * e.sz)).take e.sz) o2 ds)) (ho : o2 + ds.length ≤ e.sz) :
    ∀ j y, (xs.set i z)[j]? = some y → Rel w I e y (((splice c (i * e.sz + o2) ds).drop (j * e.sz)).take e.sz) := by
  intro j y hy
  have hmul : (i + 1) * e.sz ≤ xs.length * e.sz := Nat.mul_le_mul_right _ hi
  rw [Nat.succ_mul] at hmul
  by_cases hji : j = i
  · subst hji
    rw [List.getElem?_set_self hi] at hy
    cases hy
    rw [splice_in (by omega) ho]; exact hz
  · rw [List.getElem?_set_ne (fun e => hji e.symm)] at hy
    rw [splice_out (by omega)]
    · exact h j y hy
    · rcases Nat.lt_or_gt_of_ne hji with hlt | hlt
      · left
        have : (j + 1) * e.sz ≤ i * e.sz := Nat.mul_le_mul_right _ hlt
        rw [Nat.succ_mul] at this; omega
      · right
        have : (i + 1) * e.sz ≤ j * e.sz := Nat.mul_le_mul_right _ hlt
        rw [Nat.succ_mul] at this; omega

theorem getD_some {α : Type} {xs : List α} {i : Nat} {d : α} (h : i < xs.length) : xs[i]? = some (xs.getD i d) := by
  rw [List.getD_eq_getElem?_getD, List.getElem?_eq_getElem h]; rfl

theorem storeAt_ok {t : Ty} {id : Nat} (hl : Lay P t id) (hm : MemS P fr free σ w G) (hσ : ∀ k o, σ' k = some o → σ k = some o) {s sp : SV} {v vp : Value} {k : Nat} {o' : Obj}
    (hr : storeAt σ' t s sp = some (k, o')) (hp : SR P w G sp vp) (hv : SR P w G s v) :
    ∃ w', (Instr.storeAt id vp v).run P w = .ok () w' ∧ GLe w G w' G ∧ MemS P fr (freeBut free self) (putSto σ [(k, some o')]) w' G := by
  have run : ∀ {a : Addr} {w' : World}, (storeVar id a v).run P w = .ok () w' → (Instr.storeAt id (.pointer (some a)) v).run P w = .ok () w' := by
    intro a w' h
    simp only [Instr.storeAt, Sem.run_bind, Instr.sureAddr, Sem.run_pure, Result.andThen_ok]
    exact h
  have ho : ∀ k o, σ' k = some o → ObjOK P fr w G k o := fun k o h => hm.objs k o (hσ k o h)
  unfold storeAt at hr
  split at hr
  · rename_i j p u
    split at hr
    · rename_i hub
      split at hr
      · rename_i bt c hk
        split at hr
        · rename_i s1 hs1
          cases hc' : c.setAt p s1 with
          | none => rw [hc'] at hr; cases hr
          | some c' =>
            rw [hc'] at hr
            cases hr
            obtain ⟨b, t', o, h1, h2, ⟨u1, h3, h4⟩, rfl⟩ := ptr_inv hp
            have hobj := ho _ _ hk
            obtain ⟨b', cs, el, k1, k2, k3, k4, k5, k6, k7, k8⟩ := hobj
            rw [h1] at k1
            cases k1
            obtain ⟨f1, f2, f3⟩ := storable_ok hs1 hv
            have hu1 : u1.bare = t.bare := h4.trans (Ty.same_eq hub)
            have f1' := f1.of_bare hu1
            obtain ⟨m1, m2, m3⟩ := setAt_ok k4 k5 hc' h2 h3 f1' f2
            have hlen : v.cells.toList.length = t.sz := f1.len f2
            have hsz : u1.sz = t.sz := by rw [← Ty.sz_bare, hu1, Ty.sz_bare]
            obtain ⟨q1, q2⟩ := hm.set (self := self) (new := (splice cs.toList o v.cells.toList).toArray) (o' := .box bt c' true) (hσ _ _ hk) (by simp [blk, h1]) k2 (k6.1 rfl) k7 k8 (fun hh hle =>
              ⟨⟨b, _, el, h1, hh, by simp [splice_len (cs := cs.toList) (ds := v.cells.toList) (o := o) (by rw [hlen]; simp; omega), k3], m1, by simpa using m3.mono hle, k6, k7, k8⟩, by simp [blk, h1]⟩)
            exact ⟨_, run (storeVar_ok hl k2 hlen f3 (by omega)), q1, q2⟩
        · cases hr
      · cases hr
    · cases hr
  · rename_i j p i q u
    split at hr
    · rename_i bt c hk
      split at hr
      · rename_i n' e' xs hg
        split at hr
        · rename_i y hy
          split at hr
          · rename_i z hz
            cases hc' : setArr c p n' e' xs i z with
            | none => rw [hc'] at hr; cases hr
            | some c' =>
              rw [hc'] at hr
              cases hr
              obtain ⟨b, t', o, n, e, o2, h1, h2, ⟨u0, h3, h3'⟩, h4, h5, h6, rfl⟩ := ptri_inv hp
              obtain ⟨b', cs, el, k1, k2, k3, k4, k5, k6, k7, k8⟩ := ho _ _ hk
              rw [h1] at k1
              cases k1
              obtain ⟨o', u1, m1, m2, m3, m4, m5⟩ := getAt_ok k4 k5 hg
              rw [h2] at m1
              cases m1
              rw [h3] at m2
              cases m2
              have he : Ty.arr n' e' = Ty.arr n e := (show (Ty.arr n' e').bare = u0.bare from m3).trans h3'
              have hne : n = n' ∧ e = e' := by injection he with a b; exact ⟨a.symm, b.symm⟩
              obtain ⟨rfl, rfl⟩ := hne
              have hu0 : u0.sz = n * e.sz := by rw [← Ty.sz_bare, h3']; rfl
              obtain ⟨r1, r2, r3⟩ := m5
              have r1' : xs.length = n := r1
              have hi : i < xs.length := by rw [r1']; exact h4
              have hvr := (as_ok hy hv).cells
              obtain ⟨z1, z2, z3⟩ := put_ok (r3 i _ (getD_some hi)) hz h5 hvr
              have hlen := hvr.length
              have hmul : (i + 1) * e.sz ≤ n * e.sz := Nat.mul_le_mul_right _ h4
              rw [Nat.succ_mul] at hmul
              have hcl : ((cs.toList.drop o).take u0.sz).length = n * e.sz := r2
              have hbig : o + u0.sz ≤ cs.toList.length := by simp; omega
              have hnewrel : CR P w G (.val (.arr n e) (xs.set i z)) (splice ((cs.toList.drop o).take u0.sz) (i * e.sz + o2) v.cells.toList) := by
                refine ⟨Eq.trans (List.length_set (as := (show List e.T from xs)) (i := i) (a := z)) r1', by rw [splice_len (by rw [hcl, hlen]; omega)]; exact r2, ?_⟩
                exact elems_set (by rw [hcl, r1']; exact Nat.le_refl _) r3 hi z3 (by rw [hlen]; exact z2)
              obtain ⟨w1, w2, w3⟩ := setAt_ok (u := u0) k4 k5 hc' h2 h3 (show (Ty.arr n e).bare = u0.bare from h3'.symm) hnewrel
              rw [splice_splice hbig (by rw [hlen]; omega), ← Nat.add_assoc] at w3
              obtain ⟨q1, q2⟩ := hm.set (self := self) (new := (splice cs.toList (o + i * e.sz + o2) v.cells.toList).toArray) (o' := .box bt c' true) (hσ _ _ hk) (by simp [blk, h1]) k2 (k6.1 rfl) k7 k8 (fun hh hle =>
                ⟨⟨b, _, el, h1, hh, by rw [List.size_toArray, splice_len (by rw [hlen]; omega)]; simpa using k3, w1, by simpa using w3.mono hle, k6, k7, k8⟩, by simp [blk, h1]⟩)
              exact ⟨_, run (storeVar_ok hl k2 hlen hvr.oneCell (by simp at hbig; omega)), q1, q2⟩
          · cases hr
        · cases hr
      · cases hr
    · cases hr
  · rename_i j g i q u
    split at hr
    · rename_i id' e xs g' hk
      cases hg : Nat.beq g g' with
      | false => rw [hg] at hr; cases hr
      | true =>
        rw [hg] at hr
        simp only [cond_true] at hr
        have := Nat.eq_of_beq_eq_true hg
        subst this
        split at hr
        · rename_i y hy
          split at hr
          · rename_i z hz
            cases hr
            obtain ⟨b, len, cap, e', o2, h1, h2, h3, h4, h5, rfl⟩ := elem_inv hp
            obtain ⟨hety, v', k1, k2⟩ := ho _ _ hk
            rw [h1] at k1
            cases k1
            rw [hety] at h2
            cases h2
            rcases k2 with ⟨hv', _⟩ | ⟨b', cap', cs, hv', r1, r2, r3, r4, r5, r6, r7, r8⟩
            · cases hv'
            · cases hv'
              have hvr := (asV_ok ho hy hv).cells
              obtain ⟨z1, z2, z3⟩ := put_ok (r4 i _ (getD_some h3)) hz h4 hvr
              have hlen := hvr.length
              have hmul : (i + 1) * e.sz ≤ xs.length * e.sz := Nat.mul_le_mul_right _ h3
              rw [Nat.succ_mul] at hmul
              have hcap : xs.length * e.sz ≤ cap * e.sz := Nat.mul_le_mul_right _ r1.1
              have hcl : xs.length * e.sz ≤ cs.toList.length := by simp [r3]; exact hcap
              obtain ⟨q1, q2⟩ := hm.set (self := self) (new := (splice cs.toList (i * e.sz + o2) v.cells.toList).toArray) (o' := .sl id' e (xs.set i z) g true) (hσ _ _ hk) (by simp [blk, h1]) r2 (r6 rfl) r8 r5 (fun hh hle =>
                ⟨⟨hety, _, h1, .inr ⟨b, cap, _, by rw [List.length_set], by rw [List.length_set]; exact r1, hh,
                  by rw [List.size_toArray, splice_len (by rw [hlen]; omega)]; simpa using r3,
                  fun j' y' hy' => by
                    have := elems_set hcl r4 h3 z3 (by rw [hlen]; exact z2) j' y' hy'
                    simpa using this.ext hle.ext, r5, r6, fun h => (by cases h), r8⟩⟩, by simp [blk, h1]⟩)
              exact ⟨_, run (storeVar_ok hl r2 hlen hvr.oneCell (by simp at hcl; omega)), q1, q2⟩
          · cases hr
        · cases hr
    · cases hr
  · cases hr
end
end Go.Ev
