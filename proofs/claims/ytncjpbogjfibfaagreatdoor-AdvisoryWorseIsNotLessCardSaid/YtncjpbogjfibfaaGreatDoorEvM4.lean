/-
  ROWS: slices that are made, and appended to.
-/
import Derived.Test.YtncjpbogjfibfaaGreatDoorEvM3
import Derived.Laws.MakeOwn
set_option linter.unusedVariables false
set_option linter.unusedSimpArgs false
namespace Go.Ev

/-- Cells hold the elements of a list. -/
def RowsOK (w : World) (I : Im) (t : Ty) (xs : List t.T) (cs : List Value) : Prop := ∀ (i : Nat) (x : t.T), xs[i]? = some x → Rel w I t x ((cs.drop (i * t.sz)).take t.sz)

section
variable {P : Program} {fr : Fr} {free free' : Nat → Prop} {self : Nat} {σ σ' : Nat → Option Obj} {w w' : World} {G G' : Gh} {I : Im}

theorem RowsOK.ext {I' : Im} {t : Ty} {xs : List t.T} {cs : List Value} (h : RowsOK w I t xs cs) (e : Ext w I w' I') : RowsOK w' I' t xs cs := fun i x hx => (h i x hx).ext e

theorem lt_of_getElem? {α : Type} {l : List α} {i : Nat} {x : α} (h : l[i]? = some x) : i < l.length := (List.getElem?_eq_some_iff.1 h).1

theorem mul_lt_len {i n s : Nat} (h : i < n) : i * s + s ≤ n * s := by
  have := Nat.mul_le_mul_right s h
  rwa [Nat.succ_mul] at this

theorem RowsOK.append {t : Ty} {xs ys : List t.T} {cs ds rest : List Value} (hx : RowsOK w I t xs cs) (hy : RowsOK w I t ys ds) (hc : cs.length = xs.length * t.sz) (hd : ds.length = ys.length * t.sz) :
    RowsOK w I t (xs ++ ys) (cs ++ (ds ++ rest)) := by
  intro i x hi
  by_cases h : i < xs.length
  · rw [List.getElem?_append_left h] at hi
    rw [take_drop_left (by rw [hc]; exact mul_lt_len h)]
    exact hx i x hi
  · have h' : xs.length ≤ i := Nat.le_of_not_lt h
    rw [List.getElem?_append_right h'] at hi
    have hlt := lt_of_getElem? hi
    have e : i * t.sz = cs.length + (i - xs.length) * t.sz := by
      rw [hc, ← Nat.add_mul]; congr 1; omega
    rw [e, take_drop_right, take_drop_left (by rw [hd]; exact mul_lt_len hlt)]
    exact hy _ x hi

theorem take_take_drop {cs : List Value} {n o s : Nat} (h : o + s ≤ n) : ((cs.take n).drop o).take s = (cs.drop o).take s := by
  rw [List.drop_take, List.take_take]
  congr 1
  omega

theorem RowsOK.take {t : Ty} {xs : List t.T} {cs : List Value} {n : Nat} (hx : RowsOK w I t xs cs) (hn : xs.length * t.sz ≤ n) : RowsOK w I t xs (cs.take n) := by
  intro i x hi
  rw [take_take_drop (Nat.le_trans (mul_lt_len (lt_of_getElem? hi)) hn)]
  exact hx i x hi

theorem RowsOK.untake {t : Ty} {xs : List t.T} {cs : List Value} {n : Nat} (hx : RowsOK w I t xs (cs.take n)) (hn : xs.length * t.sz ≤ n) : RowsOK w I t xs cs := by
  intro i x hi
  have := hx i x hi
  rwa [take_take_drop (Nat.le_trans (mul_lt_len (lt_of_getElem? hi)) hn)] at this

theorem RowsOK.set {t : Ty} {xs : List t.T} {cs ds : List Value} {i : Nat} {z : t.T} (h : RowsOK w I t xs cs) (hc : xs.length * t.sz ≤ cs.length) (hi : i < xs.length) (hz : Rel w I t z ds) :
    RowsOK w I t (xs.set i z) (splice cs (i * t.sz) ds) := by
  have hl := hz.length
  have := elems_set (o2 := 0) (ds := ds) hc h hi (z := z) (by
    have hlen : ((cs.drop (i * t.sz)).take t.sz).length = t.sz := by
      have := mul_lt_len (s := t.sz) hi
      simp; omega
    have e : splice ((cs.drop (i * t.sz)).take t.sz) 0 ds = ds := by
      simp only [splice, List.take_zero, List.nil_append, Nat.zero_add]
      rw [List.drop_eq_nil_of_le (by omega), List.append_nil]
    rw [e]; exact hz) (by omega)
  exact this

/-- A slice's value, read. -/
theorem slice_src {e : Ty} {ys : List e.T} {v : Value} (h : VRel w I (.slice e) ys v) :
    ∃ a cap news, v = .slice a ys.length cap ∧ (a = none → ys = []) ∧ news.length = ys.length * e.sz ∧ RowsOK w I e ys news ∧ (∀ u ∈ news, u.oneCell' = true) ∧
      ∀ ad, a = some ad → ad.spot = none ∧ ∀ j u, news[j]? = some u → w.cell? ⟨ad.block, ad.off + j, none⟩ = some u := by
  obtain ⟨c, hc, a, cap, rfl, hcap, hnil0, had⟩ := h
  have hnil : a = none → ys = [] := fun h => (hnil0 h).1
  have hv : [v] = [.slice a ys.length cap] := (show _ = [v] from hc).symm
  injection hv with hv _
  cases a with
  | none =>
    have := hnil rfl
    refine ⟨none, cap, [], hv, hnil, ?_, ?_, by simp, by simp⟩
    · rw [show ys = [] from this]; simp
    · rw [show ys = [] from this]; intro i x hx; simp at hx
  | some ad =>
    obtain ⟨hs, hr⟩ := had ad rfl
    have hcell : ∀ j, j < ys.length * e.sz → ∃ u, w.cell? ⟨ad.block, ad.off + j, none⟩ = some u := by
      intro j hj
      have hpos : 0 < e.sz := by rcases Nat.eq_zero_or_pos e.sz with h | h; · rw [h] at hj; simp at hj
                                 · exact h
      have hi : j / e.sz < ys.length := Nat.div_lt_of_lt_mul (by rw [Nat.mul_comm]; exact hj)
      obtain ⟨c, hrow, _⟩ := hr (j / e.sz) _ (List.getElem?_eq_getElem hi)
      have hm := Nat.mod_lt j hpos
      have := (hrow.at_ (j % e.sz) hm).2
      rw [Nat.add_assoc, Nat.div_add_mod'] at this
      rw [this]
      exact ⟨_, List.getElem?_eq_getElem (by rw [hrow.len]; exact hm)⟩
    have hnews : ∀ j, ((List.range (ys.length * e.sz)).map fun j => (w.cell? ⟨ad.block, ad.off + j, none⟩).getD undef)[j]? = if j < ys.length * e.sz then w.cell? ⟨ad.block, ad.off + j, none⟩ else none := by
      intro j
      by_cases hj : j < ys.length * e.sz
      · obtain ⟨u, hu⟩ := hcell j hj
        simp [hj, hu]
      · simp [hj]
    have hrows : RowsOK w I e ys ((List.range (ys.length * e.sz)).map fun j => (w.cell? ⟨ad.block, ad.off + j, none⟩).getD undef) := by
      intro i x hx
      obtain ⟨c, hrow, hrel⟩ := hr i x hx
      have hb := mul_lt_len (s := e.sz) (lt_of_getElem? hx)
      have : c = (((List.range (ys.length * e.sz)).map fun j => (w.cell? ⟨ad.block, ad.off + j, none⟩).getD undef).drop (i * e.sz)).take e.sz := by
        apply List.ext_getElem?
        intro j
        by_cases hj : j < e.sz
        · rw [List.getElem?_take, if_pos hj, List.getElem?_drop, hnews, if_pos (Nat.lt_of_lt_of_le (Nat.add_lt_add_left hj _) hb), ← Nat.add_assoc]
          exact (hrow.at_ j hj).2.symm
        · rw [List.getElem?_take, if_neg hj, List.getElem?_eq_none (by rw [hrow.len]; omega)]
      rw [← this]; exact hrel
    refine ⟨some ad, cap, _, hv, hnil, by simp, hrows, ?_, ?_⟩
    · intro u hu
      obtain ⟨j, hj, hju⟩ := List.mem_iff_getElem.1 hu
      have hj' : j < ys.length * e.sz := by simpa using hj
      have hpos : 0 < e.sz := by rcases Nat.eq_zero_or_pos e.sz with h | h; · rw [h] at hj'; simp at hj'
                                 · exact h
      have hi : j / e.sz < ys.length := Nat.div_lt_of_lt_mul (by rw [Nat.mul_comm]; exact hj')
      refine Rel.oneCell (hrows (j / e.sz) _ (List.getElem?_eq_getElem hi)) u ?_
      refine List.mem_iff_getElem?.2 ⟨j % e.sz, ?_⟩
      rw [List.getElem?_take, if_pos (Nat.mod_lt j hpos), List.getElem?_drop, Nat.div_add_mod', List.getElem?_eq_getElem hj, hju]
    · intro ad' had'
      cases had'
      refine ⟨hs, fun j u hj => ?_⟩
      rw [hnews] at hj
      split at hj
      · exact hj
      · cases hj

end
end Go.Ev
