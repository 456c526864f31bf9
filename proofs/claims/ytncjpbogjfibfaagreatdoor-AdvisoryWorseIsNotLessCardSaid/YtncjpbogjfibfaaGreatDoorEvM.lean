/-
  MEMORY: what a change of one block does to all else; loads.
-/
import Derived.Test.YtncjpbogjfibfaaGreatDoorEvO3
import Derived.Laws.Cells
import Derived.Laws.CopyRow
set_option linter.unusedVariables false
set_option linter.unusedSimpArgs false
namespace Go.Ev
section
variable {P : Program} {fr : Fr} {free free' : Nat → Prop} {self : Nat} {σ : Nat → Option Obj} {w w' : World} {G G' : Gh}

theorem lt_of_heap {b : Nat} {o : Go.Obj} (h : w.heap[b]? = some o) : b < w.heap.size := (Array.getElem?_eq_some_iff.1 h).1

theorem blk_lt {k b : Nat} {o : Obj} (h : ObjOK P fr w G k o) (hb : blk G k o = some b) : b < w.heap.size := by
  cases o with
  | box t c wr =>
    obtain ⟨b', cs, el, h1, h2, _⟩ := h
    simp only [blk, h1, Option.map_some, Option.some.injEq] at hb
    subst hb; exact lt_of_heap h2
  | sl el t xs g wr =>
    obtain ⟨_, v, h1, h2⟩ := h
    simp only [blk, h1] at hb
    rcases h2 with ⟨rfl, _⟩ | ⟨b', cap, cs, rfl, _, h3, _⟩
    · cases hb
    · cases hb; exact lt_of_heap h3
  | mp a b' es wr =>
    obtain ⟨v, h1, b'', ents, clock, rfl, h3, _⟩ := h
    simp only [blk, h1, Option.some.injEq] at hb
    subst hb; exact lt_of_heap h3

theorem blk_mono {k : Nat} {o : Obj} (h : ObjOK P fr w G k o) (hle : GLe w G w' G') : blk G' k o = blk G k o := by
  cases o with
  | box t c wr => obtain ⟨b', cs, el, h1, _⟩ := h; simp [blk, h1, hle.box _ _ h1]
  | sl el t xs g wr => obtain ⟨_, v, h1, h2⟩ := h; simp [blk, h1, hle.val _ _ _ h1]
  | mp a b' es wr => obtain ⟨v, h1, _⟩ := h; simp [blk, h1, hle.val _ _ _ h1]

/-- An object whose block has not turned. -/
theorem ObjOK.keep {k : Nat} {o : Obj} (h : ObjOK P fr w G k o) (hle : GLe w G w' G')
    (hb : ∀ b, blk G k o = some b → w'.heap[b]? = w.heap[b]? ∧ (∀ off, G'.im.cell b off → G.im.cell b off) ∧ (G'.im.obj b → G.im.obj b)) : ObjOK P fr w' G' k o := by
  cases o with
  | box t c wr =>
    obtain ⟨b', cs, el, h1, h2, h3, h4, h5, h6, h7, h8⟩ := h
    obtain ⟨k1, k2, k3⟩ := hb b' (by simp [blk, h1])
    exact ⟨b', cs, el, hle.box _ _ h1, k1.trans h2, h3, h4, h5.mono hle, ⟨fun hw o ho => h6.1 hw o (k2 o ho), fun hw o ho => (hle.ext.cell _ _ (h6.2 hw o ho)).1⟩, fun ho => h7 (k3 ho), h8⟩
  | sl el t xs g wr =>
    obtain ⟨h0, v, h1, h2⟩ := h
    refine ⟨hle.ety _ _ h0, v, hle.val _ _ _ h1, ?_⟩
    rcases h2 with ⟨rfl, rfl⟩ | ⟨b', cap, cs, rfl, h3, h4, h5, h6, h7, h8, h9, h10⟩
    · exact .inl ⟨rfl, rfl⟩
    · obtain ⟨k1, k2, k3⟩ := hb b' (by simp [blk, h1])
      refine .inr ⟨b', cap, cs, rfl, h3, k1.trans h4, h5, fun i x hx => (h6 i x hx).ext hle.ext, h7, fun hw o ho => h8 hw o (k2 o ho), fun hw o => ⟨fun ho => (hle.ext.cell _ _ ((h9 hw o).1 ho)).1, fun ho => (h9 hw o).2 (k2 o ho)⟩, fun ho => h10 (k3 ho)⟩
  | mp a b es wr =>
    obtain ⟨v, h1, b', ents, clock, rfl, h3, h4, h5, h6, h7, h8⟩ := h
    obtain ⟨k1, k2, k3⟩ := hb b' (by simp [blk, h1])
    exact ⟨_, hle.val _ _ _ h1, b', ents, clock, rfl, k1.trans h3, h4, fun i x e hx he => ⟨(h5 i x e hx he).1.ext hle.ext, (h5 i x e hx he).2.ext hle.ext⟩, ⟨fun hw ho => h6.1 hw (k3 ho), fun hw => (hle.ext.obj _ (h6.2 hw)).1⟩, fun o ho => h7 o (k2 o ho), h8⟩

/-- One block has turned, or is new. -/
theorem MemS.change (hm : MemS P fr free σ w G) {k b : Nat} {o' : Option Obj}
    (hle : GLe w G w' G') (hb : ∀ j o, j ≠ k → σ j = some o → blk G j o ≠ some b)
    (hw : ∀ b', b' < w.heap.size → b' ≠ b → w'.heap[b']? = w.heap[b']?) (hsz : w.heap.size ≤ w'.heap.size) (hbs : b < w'.heap.size) (hown : fr.owned b)
    (hC : ∀ b' off, G'.im.cell b' off → G.im.cell b' off ∨ b' = b) (hO : ∀ b', G'.im.obj b' → G.im.obj b' ∨ b' = b)
    (hos : w'.os = w.os) (htape : w'.tape = w.tape) (hout : w'.output = w.output)
    (hk : ∀ o, o' = some o → ObjOK P fr w' G' k o ∧ (blk G' k o = some b ∨ blk G' k o = none))
    (hfresh : ∀ j, free' j → j ≠ k ∧ free j ∧ G'.ety j = none ∧ G'.box j = none ∧ ∀ g, G'.val j g = none) :
    MemS P fr free' (putSto σ [(k, o')]) w' G' := by
  have hput : ∀ j, putSto σ [(k, o')] j = if j = k then o' else σ j := by
    intro j
    simp only [putSto]
    by_cases h : j = k
    · subst h; simp [Nat.beq_refl]
    · rw [if_neg h, show Nat.beq j k = false by rw [← Bool.not_eq_true]; exact fun hh => h (Nat.eq_of_beq_eq_true hh)]; rfl
  have old : ∀ j o, j ≠ k → σ j = some o → ObjOK P fr w' G' j o := by
    intro j o hj ho
    have h1 := hm.objs j o ho
    refine h1.keep hle fun b' hb' => ?_
    have hne : b' ≠ b := fun e => hb j o hj ho (e ▸ hb')
    exact ⟨hw b' (blk_lt h1 hb') hne, fun off hoff => (hC b' off hoff).resolve_right hne, fun ho' => (hO b' ho').resolve_right hne⟩
  have blkO : ∀ j o, j ≠ k → σ j = some o → blk G' j o = blk G j o := fun j o hj ho => blk_mono (hm.objs j o ho) hle
  refine ⟨fun j o ho => ?_, fun i j o o2 b' hi hj hbi hbj => ?_, ?_, fun j hj => ?_⟩
  · rw [hput] at ho
    by_cases h : j = k
    · subst h; rw [if_pos rfl] at ho; exact (hk o ho).1
    · rw [if_neg h] at ho; exact old j o h ho
  · rw [hput] at hi hj
    by_cases h1 : i = k <;> by_cases h2 : j = k
    · rw [h1, h2]
    · exfalso
      rw [if_pos h1] at hi; rw [if_neg h2] at hj
      subst h1
      rcases (hk o hi).2 with h3 | h3
      · rw [h3] at hbi; cases hbi
        exact hb j o2 h2 hj (by rw [← blkO j o2 h2 hj]; exact hbj)
      · rw [h3] at hbi; cases hbi
    · exfalso
      rw [if_neg h1] at hi; rw [if_pos h2] at hj
      subst h2
      rcases (hk o2 hj).2 with h3 | h3
      · rw [h3] at hbj; cases hbj
        exact hb i o h1 hi (by rw [← blkO i o h1 hi]; exact hbi)
      · rw [h3] at hbj; cases hbj
    · rw [if_neg h1] at hi; rw [if_neg h2] at hj
      exact hm.sep i j o o2 b' hi hj (by rw [← blkO i o h1 hi]; exact hbi) (by rw [← blkO j o2 h2 hj]; exact hbj)
  · refine hm.after.trans (gv' := fun b' => b' = b) ⟨hle.ext, fun b' hb' hn => hw b' hb' hn, hsz, fun b' off h => (hC b' off h).imp id .inr, fun b' h => (hO b' h).imp id .inr, ?_, ?_, hos, htape, hout⟩ ?_
    · intro b' off h
      rcases hC b' off h with h1 | h1
      · exact Nat.lt_of_lt_of_le (hm.after.inC _ _ h1) hsz
      · rw [h1]; exact hbs
    · intro b' h
      rcases hO b' h with h1 | h1
      · exact Nat.lt_of_lt_of_le (hm.after.inO _ h1) hsz
      · rw [h1]; exact hbs
    · intro b' h; subst h; exact hown.symm
  · obtain ⟨h1, h2, h3, h4, h5⟩ := hfresh j hj
    exact ⟨by rw [hput, if_neg h1]; exact (hm.fresh j h2).1, h3, h4, h5⟩

/-! ## Loads -/
theorem loadCells_ok {b o n : Nat} {c : List Value} (hlen : c.length = n) (h : ∀ j, j < n → w.cell? ⟨b, o + j, none⟩ = c[j]?) :
    (loadCells ⟨b, o, none⟩ n).run P w = .ok c.toArray w := by
  rw [← hlen]
  refine run_loadCells_list w _ _ fun j v hj => ?_
  rw [addr_add, h j (by rw [← hlen]; exact (List.getElem?_eq_some_iff.1 hj).1), hj]

theorem load_ok {b o : Nat} {v : Value} (h : w.cell? ⟨b, o, none⟩ = some v) : (load ⟨b, o, none⟩).run P w = .ok v w := by
  rw [run_load]
  simp [h]

theorem isAgg_run {t : Ty} {id : Nat} (hl : Lay P t id) : (isAgg id).run P w = .ok t.isAgg w := by
  obtain ⟨d, hd, ha⟩ := hl.isAgg
  simp only [isAgg, Sem.run_bind, run_underlying hd, Result.andThen_ok]
  cases d <;> simp at ha <;> simp [ha]

theorem Lay.sz_one {t : Ty} {id : Nat} (hl : Lay P t id) (h : t.isAgg = false) : t.sz = 1 := by
  cases t <;> first | rfl | (exfalso; simp [Ty.isAgg] at h; done) | (exfalso; simp [Lay, layB] at hl; done)

theorem asCells_plain {t : Ty} {v : Value} (h : t.isAgg = false) : asCells t v [v] := by
  cases t <;> first | rfl | (exfalso; simp [Ty.isAgg] at h; done)

theorem asCells_agg {t : Ty} {c : List Value} (h : t.isAgg = true) : asCells t (.agg c.toArray) c := by
  cases t <;> first | rfl | (exfalso; simp [Ty.isAgg] at h; done)

theorem loadVar_ok {I : Im} {t : Ty} {id : Nat} (hl : Lay P t id) {b o : Nat} {x : t.T} {c : List Value} (hc : ∀ j, j < t.sz → w.cell? ⟨b, o + j, none⟩ = c[j]?) (hr : Rel w I t x c) :
    ∃ v, (loadVar id ⟨b, o, none⟩).run P w = .ok v w ∧ VRel w I t x v := by
  obtain ⟨i, hi, hcs⟩ := hl.cells
  simp only [loadVar, Sem.run_bind, isAgg_run hl, Result.andThen_ok]
  cases hag : t.isAgg with
  | true =>
    refine ⟨.agg c.toArray, ?_, c, asCells_agg hag, hr⟩
    simp only [if_true, Sem.run_bind, run_sizeOf w hi, hcs, Result.andThen_ok, loadCells_ok hr.length hc, Sem.run_pure]
  | false =>
    have h1 := hl.sz_one hag
    have hl1 : c.length = 1 := by rw [hr.length, h1]
    match c, hl1, hc, hr with
    | [v], _, hc, hr =>
      refine ⟨v, ?_, [v], asCells_plain hag, hr⟩
      have := hc 0 (by omega)
      simp only [Nat.add_zero] at this
      simp only [Bool.false_eq_true, if_false]
      exact load_ok this

theorem cell_of_heap {b : Nat} {cs : Array Value} {el : TypeId} {f : Nat × Nat} (h : w.heap[b]? = some (.cells cs el f)) (o : Nat) : w.cell? ⟨b, o, none⟩ = cs.toList[o]? := by
  simp [World.cell?, h]

theorem cells_part {b o n : Nat} {cs : Array Value} {el : TypeId} {f : Nat × Nat} (h : w.heap[b]? = some (.cells cs el f)) : ∀ j, j < n → w.cell? ⟨b, o + j, none⟩ = ((cs.toList.drop o).take n)[j]? := by
  intro j hj
  rw [cell_of_heap h, List.getElem?_take, if_pos hj, List.getElem?_drop]

theorem drop_take_drop_take {c : List Value} {o n p m : Nat} (h : p + m ≤ n) : ((((c.drop o).take n).drop p).take m) = (c.drop (o + p)).take m := by
  rw [List.drop_take, List.take_take, List.drop_drop, Nat.min_eq_left (by omega)]

theorem loadAt_ok {t : Ty} {id : Nat} (hl : Lay P t id) (ho : ∀ k o, σ k = some o → ObjOK P fr w G k o) {s s' : SV} {v : Value} (hr : loadAt σ t s = some s') (h : SR P w G s v) :
    ∃ z, (Instr.loadAt id v).run P w = .ok z w ∧ SR P w G s' z := by
  have run : ∀ {a : Addr} {z : Value}, (loadVar id a).run P w = .ok z w → (Instr.loadAt id (.pointer (some a))).run P w = .ok z w := by
    intro a z hz
    simp only [Instr.loadAt, Sem.run_bind, Instr.sureAddr, Sem.run_pure, Result.andThen_ok]
    exact hz
  unfold loadAt at hr
  split at hr
  · rename_i u x
    cases hc : castL u t x with
    | none => rw [hc] at hr; cases hr
    | some y =>
      rw [hc] at hr
      cases hr
      obtain ⟨ad, c, rfl, h1, h2, h3⟩ := ref_inv h
      obtain ⟨bb, oo, sp⟩ := ad
      simp only at h1
      subst h1
      have h3' := castL_ok hc h3
      obtain ⟨z, hz, hv⟩ := loadVar_ok hl (b := bb) (o := oo) (fun j hj => (h2.at_ j (by rw [← h3.length, h3'.length]; exact hj)).2) h3'
      exact ⟨z, run hz, hv⟩
  · rename_i k p u
    split at hr
    · rename_i u' c wr hk
      obtain ⟨b, t', o, h1, h2, h3, rfl⟩ := ptr_inv h
      obtain ⟨b', cs, el, k1, k2, k3, k4, k5, _⟩ := ho _ _ hk
      rw [h1] at k1
      cases k1
      cases hg : c.getAt p with
      | none => rw [hg] at hr; cases hr
      | some s0 =>
        rw [hg] at hr
        obtain ⟨o', u1, m1, m2, m3, m4, m5⟩ := getAt_ok k4 k5 hg
        rw [h2] at m1
        cases m1
        have leaf1 : ∀ {v1 : Value}, u1.sz = 1 → (cs.toList.drop o).take u1.sz = [v1] → t.isAgg = false → (loadVar id ⟨b, o, none⟩).run P w = .ok v1 w := by
          intro v1 hsz hv1 hag
          simp only [loadVar, Sem.run_bind, isAgg_run hl, Result.andThen_ok, hag, Bool.false_eq_true, if_false]
          refine load_ok ?_
          have := cells_part (n := 1) (o := o) k2 0 (by omega)
          rw [hsz] at hv1
          rw [hv1] at this
          simpa using this
        split at hr
        · rename_i j g hs0
          cases hs0
          obtain ⟨v1, q1, q0, q2⟩ := m5
          have hz : t.isAgg = false ∧ s' = .obj j g := by
            split at hr
            · exact ⟨rfl, (Option.some.inj hr).symm⟩
            · exact ⟨rfl, (Option.some.inj hr).symm⟩
            · cases hr
          obtain ⟨hz, rfl⟩ := hz
          exact ⟨v1, run (leaf1 m3 q2 hz), obj_mk q1 q0⟩
        · rename_i j q u2 hs0
          cases hs0
          have m5' := m5
          obtain ⟨b2, t2, o2, q1, q2, q3, q4⟩ := m5
          have hz : t.isAgg = false ∧ s' = .ptr j q u2 := by
            split at hr
            · exact ⟨rfl, (Option.some.inj hr).symm⟩
            · cases hr
          obtain ⟨hz, rfl⟩ := hz
          exact ⟨_, run (leaf1 m3 q4 hz), _, rfl, b2, t2, o2, q1, q2, q3, rfl⟩
        · rename_i s1 _ _ hs0
          cases hs0
          cases hx : s0.asC σ t with
          | none => rw [hx] at hr; cases hr
          | some x =>
            rw [hx] at hr
            cases hr
            have hrel := asC_ok ho hx m5
            have hsz : t.sz = u1.sz := by rw [← hrel.length, m3.len m5]
            obtain ⟨z, hz, hv⟩ := loadVar_ok hl (b := b) (o := o) (fun j hj => cells_part k2 j (by omega)) hrel
            exact ⟨z, run hz, hv⟩
        · rename_i hs0; cases hs0
    · cases hr
  · rename_i k p i q u
    split at hr
    · rename_i u' c wr hk
      obtain ⟨b, t', o, n, e, o2, h1, h2, ⟨u0, h3, h3'⟩, h4, h5, h6, rfl⟩ := ptri_inv h
      obtain ⟨b', cs, el, k1, k2, k3, k4, k5, _⟩ := ho _ _ hk
      rw [h1] at k1
      cases k1
      split at hr
      · rename_i n' e' xs hg
        obtain ⟨o', u1, m1, m2, m3, m4, m5⟩ := getAt_ok k4 k5 hg
        rw [h2] at m1
        cases m1
        rw [h3] at m2
        cases m2
        have he : Ty.arr n' e' = Ty.arr n e := (show (Ty.arr n' e').bare = u0.bare from m3).trans h3'
        cases he
        split at hr
        · rename_i u2 y hy
          cases hx : castL u2 t y with
          | none => rw [hx] at hr; cases hr
          | some x =>
            rw [hx] at hr
            cases hr
            obtain ⟨r1, r2, r3⟩ := m5
            have hi : i < List.length (show List e.T from xs) := by rw [r1]; exact h4
            have hget : (show List e.T from xs)[i]? = some ((show List e.T from xs).getD i e.dflt) := by
              rw [List.getD_eq_getElem?_getD, List.getElem?_eq_getElem hi]; rfl
            obtain ⟨oo, n1, n2, n3, n4⟩ := at_ok (r3 i _ hget) hy
            rw [h5] at n1
            cases n1
            have hmul : (i + 1) * e.sz ≤ n * e.sz := Nat.mul_le_mul_right _ h4
            rw [Nat.succ_mul] at hmul
            have husz : u0.sz = n * e.sz := by rw [← Ty.sz_bare, h3']; rfl
            rw [drop_take_drop_take n3, drop_take_drop_take (by rw [husz]; omega), ← Nat.add_assoc] at n4
            have hrel := castL_ok hx n4
            obtain ⟨z, hz, hv⟩ := loadVar_ok hl (b := b) (o := o + i * e.sz + o2) (fun j hj => cells_part k2 j (by have := hrel.length.symm.trans n4.length; omega)) hrel
            exact ⟨z, run hz, hv⟩
        · cases hr
      · cases hr
    · cases hr
  · rename_i k g i q u
    split at hr
    · rename_i el e xs g' hk
      cases hg : Nat.beq g g' with
      | false => rw [hg] at hr; cases hr
      | true =>
        rw [hg] at hr
        simp only [cond_true] at hr
        have := Nat.eq_of_beq_eq_true hg
        subst this
        obtain ⟨b, len, cap, e', o2, h1, h2, h3, h4, h5, rfl⟩ := elem_inv h
        obtain ⟨hety, v', k1, k2⟩ := ho _ _ hk
        rw [h1] at k1
        cases k1
        rw [hety] at h2
        cases h2
        rcases k2 with ⟨hv', _⟩ | ⟨b', cap', cs, hv', r1, r2, r3, r4, _⟩
        · cases hv'
        · cases hv'
          split at hr
          · rename_i u2 y hy
            cases hx : castL u2 t y with
            | none => rw [hx] at hr; cases hr
            | some x =>
              rw [hx] at hr
              cases hr
              have hget : xs[i]? = some (xs.getD i e.dflt) := by
                rw [List.getD_eq_getElem?_getD, List.getElem?_eq_getElem h3]; rfl
              obtain ⟨oo, n1, n2, n3, n4⟩ := at_ok (r4 i _ hget) hy
              rw [h4] at n1
              cases n1
              rw [drop_take_drop_take n3] at n4
              have hrel := castL_ok hx n4
              obtain ⟨z, hz, hv⟩ := loadVar_ok hl (b := b) (o := i * e.sz + o2) (fun j hj => cells_part r2 j (by have := hrel.length.symm.trans n4.length; omega)) hrel
              exact ⟨z, run hz, hv⟩
          · cases hr
    · cases hr
  · cases hr
end
end Go.Ev
