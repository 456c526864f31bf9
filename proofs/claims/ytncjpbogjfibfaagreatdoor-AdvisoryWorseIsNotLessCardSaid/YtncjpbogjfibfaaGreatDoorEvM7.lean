/-
  build, buildSlice, append, conversions.
-/
import Derived.Test.YtncjpbogjfibfaaGreatDoorEvM6
import Derived.Laws.Tables
import Derived.Great.BuildSlice
import Derived.Laws.BytesString
set_option linter.unusedVariables false
set_option linter.unusedSimpArgs false
namespace Go.Ev

section
variable {P : Program} {fr : Fr} {free free' : Nat → Prop} {self : Nat} {σ σ' : Nat → Option Obj} {w w' : World} {G G' : Gh} {I : Im}

theorem places_ok : ∀ (fs : List Field), (∀ (f : Nat) (F : Field), fs[f]? = some F → ∃ i, P.info? F.type = some i) →
    ∃ places : List (Nat × Nat), fs.mapM (fun f => (P.info? f.type).map fun i => (f.offset, i.size)) = some places ∧
      ∀ (f : Nat) (F : Field), fs[f]? = some F → ∃ s, places[f]? = some (F.offset, s) ∧ ∃ i, P.info? F.type = some i ∧ i.size = s := by
  intro fs
  induction fs with
  | nil => intro _; exact ⟨[], rfl, fun f F h => by simp at h⟩
  | cons g fs ih =>
    intro h
    obtain ⟨i, hi⟩ := h 0 g rfl
    obtain ⟨places, h1, h2⟩ := ih (fun f F hf => h (f + 1) F (by simpa using hf))
    refine ⟨(g.offset, i.size) :: places, by simp [hi, h1], fun f F hf => ?_⟩
    cases f with
    | zero =>
      have : g = F := by simpa using hf
      subst this
      exact ⟨i.size, rfl, i, hi, rfl⟩
    | succ f => simpa using h2 f F (by simpa using hf)

theorem build_ok {t : Ty} {id : Nat} (hl : Lay P t id) (hm : MemS P fr free σ w G) (hσ : ∀ k o, σ' k = some o → σ k = some o) {ps : List (Nat × SV)} {vs : Array (Nat × Value)} {r : OpRes} {u : Upd}
    (hr : opBuild σ' t ps = some r) (hu : Gives r u) (hlen : ps.length = vs.toList.length)
    (hq : ∀ (j : Nat) (q : Nat × SV) (u : Nat × Value), ps[j]? = some q → vs.toList[j]? = some u → q.1 = u.1 ∧ SR P w G q.2 u.2) :
    u.wr = [] ∧ ∃ z, (Instr.build id vs).run P w = .ok z w ∧ SR P w G u.sv z := by
  obtain ⟨it, zv, h1, h2, h3, h4, h5, h6⟩ := zero_ok (P := P) (w := w) (I := G.im) hl
  unfold opBuild at hr
  split at hr
  · rename_i p
    cases hx : putFields σ' p ps p.dflt with
    | none => rw [hx] at hr; cases hr
    | some x =>
      rw [hx] at hr
      have hr := Option.some.inj hr
      subst hr; rw [hu.v_inv]
      obtain ⟨fs, hun, hb, hpos⟩ := hl.agg
      obtain ⟨k1, k2⟩ := layF_ok hb
      obtain ⟨places, p1, p2⟩ := places_ok (P := P) fs.toList (fun f F hf => by
        obtain ⟨u, o, _, _, _, q4⟩ := k2 f F hf
        obtain ⟨i, _, e, _⟩ := inf_ok q4.inf
        exact ⟨i, e⟩)
      obtain ⟨cells, c1, c2⟩ := fillFields_ok (x := p.dflt) (cells := zv.cells) hb (fun f F hf => p2 f F (by rw [Array.getElem?_toList]; exact hf)) hm hσ hx hlen hq h6
      refine ⟨rfl, .agg cells, run_build w id vs cells ?_, cells.toList, by simp [slotCells, asCells], c2⟩
      simp only [Program.built, h1, hun, h4, p1, c1]
  · rename_i n e
    cases hx : putElems σ' e ps (List.replicate n e.dflt) with
    | none => rw [hx] at hr; cases hr
    | some x =>
      rw [hx] at hr
      have hr := Option.some.inj hr
      subst hr; rw [hu.v_inv]
      obtain ⟨el, hun, hle, hpos, hn⟩ := hl.arr
      obtain ⟨ie, ze, e1, e2, e3, e4, e5, e6⟩ := zero_ok (P := P) (w := w) (I := G.im) hle
      obtain ⟨l1, l2, l3⟩ := h6
      have hsz : zv.cells.size = n * e.sz := by simpa using l2
      obtain ⟨cells, c1, c2, c3, c4⟩ := fillElems_ok (cells := zv.cells) hm hσ hx hlen hq (by rw [List.length_replicate]; exact hsz) (fun i y hy => l3 i y hy)
      refine ⟨rfl, .agg cells, run_build w id vs cells ?_, cells.toList, by simp [slotCells, asCells], ?_, ?_, c4⟩
      · simp only [Program.built, h1, hun, h4, e1, e2, c1]
      · show x.length = n
        rw [c2, List.length_replicate]
      · simpa using c3.trans hsz
  · cases hr

theorem buildSlice_ok {e : Ty} {id el len : Nat} (hl : Lay P (.slice e) id) (hm : MemS P fr free σ w G) (hσ : ∀ k o, σ' k = some o → σ k = some o) (hself : free self) {ps : List (Nat × SV)} {vs : Array (Nat × Value)} {wr : Bool} {xs : List e.T}
    (hr : (bif Nat.blt 0 len && Nat.ble (len * e.sz) 16777216 then putElems σ' e ps (List.replicate len e.dflt) else none) = some xs) (hlen : ps.length = vs.toList.length) (hel : ∀ x, P.underlying id = some (.slice x) → el = x)
    (hq : ∀ (j : Nat) (q : Nat × SV) (u : Nat × Value), ps[j]? = some q → vs.toList[j]? = some u → q.1 = u.1 ∧ SR P w G q.2 u.2) :
    ∃ v w', (Instr.buildSlice id len vs).run P w = .ok v w' ∧ Res P fr free self σ w G ⟨.obj self 0, [(self, some (.sl el e xs 0 wr))]⟩ v w' := by
  obtain ⟨el', hu, hle, hpos⟩ := hl.slice
  have := hel _ hu
  subst this
  cases hb : (Nat.blt 0 len && Nat.ble (len * e.sz) 16777216) with
  | false => rw [hb] at hr; cases hr
  | true =>
    rw [hb] at hr
    simp only [cond_true] at hr
    simp only [Bool.and_eq_true, Nat.blt_eq, Nat.ble_eq] at hb
    obtain ⟨i, z, h1, h2, h3, h4, h5, h6⟩ := zero_ok (P := P) (w := w) (I := G.im) hle
    have hz : madeCells z.cells (len * e.sz) = madeCells z.cells.toList.toArray (len * e.sz) := by simp
    obtain ⟨cells, c1, c2, c3, c4⟩ := fillElems_ok (cells := madeCells z.cells (len * e.sz)) hm hσ hr hlen hq (by rw [size_madeCells, List.length_replicate])
      (by rw [hz]; exact RowsOK.made h6 (Nat.le_refl _))
    rw [List.length_replicate] at c2
    rw [size_madeCells] at c3
    have hmul : 0 < len * e.sz := Nat.mul_pos hb.1 hpos
    have hrun := run_buildSlice w id el len vs cells i z hu h1 h4 (by rw [h2]; omega) (by rw [h2]; omega) (by rw [h2]; exact c1)
    obtain ⟨G', g1, g2, g3⟩ := hm.new_sl (w' := w.alloc (.cells cells el)) (el := el) (wr := wr) hself (cap := len) (xs := xs) (cs := cells) rfl rfl rfl rfl ⟨by omega, by
      have : len * 1 ≤ len * e.sz := Nat.mul_le_mul_left _ hpos
      omega⟩ c3 c4
    rw [c2] at g3
    exact ⟨_, _, hrun, G', g1, g2, g3⟩

theorem emptySlice_ok {e : Ty} {id el : Nat} (hl : Lay P (.slice e) id) (hm : MemS P fr free σ w G) (hself : free self) {wr : Bool} (hel : ∀ x, P.underlying id = some (.slice x) → el = x) :
    ∃ v w', (Instr.buildSlice id 0 #[]).run P w = .ok v w' ∧ Res P fr free self σ w G ⟨.obj self 0, [(self, some (.sl el e [] 0 wr))]⟩ v w' := by
  obtain ⟨el', hu, hle, hpos⟩ := hl.slice
  have := hel _ hu
  subst this
  obtain ⟨i, z, h1, h2, h3, h4, h5, h6⟩ := zero_ok (P := P) (w := w) (I := G.im) hle
  have hrun : (Instr.buildSlice id 0 #[]).run P w = .ok (.slice (some ⟨w.heap.size, 0, none⟩) 0 0) (w.alloc (.cells #[] el)) := by
    simp [Instr.buildSlice, run_underlying hu, sizeOf, typeInfo, h1, newRow, Instr.fill]
    rw [show (Array.range 0).map (fun _ => (default : Value)) = #[] from Array.eq_empty_of_size_eq_zero (by simp)]
  obtain ⟨G', g1, g2, g3⟩ := hm.new_sl (w' := w.alloc (.cells #[] el)) (el := el) (wr := wr) hself (cap := 0) (xs := ([] : List e.T)) (cs := #[]) rfl rfl rfl rfl ⟨by simp, by simp⟩ (by simp) (fun i x hx => by simp at hx)
  exact ⟨_, _, hrun, G', g1, g2, g3⟩

theorem makeMap_ok {k v : Ty} {id : Nat} (hl : Lay P (.map k v) id) (hm : MemS P fr free σ w G) (hself : free self) {r : Option Value} (hrn : ∀ x, r = some x → ∃ kd n, x = .int kd n) :
    ∃ z w', (Instr.makeMap id r).run P w = .ok z w' ∧ Res P fr free self σ w G ⟨.obj self 0, [(self, some (.mp k v [] true))]⟩ z w' := by
  obtain ⟨a, b, hu, _, _⟩ := hl.map
  have hrun : (Instr.makeMap id r).run P w = .ok (.map (some w.heap.size)) (w.alloc (.map #[] 0)) := by
    cases r with
    | none => simp [Instr.makeMap]
    | some x =>
      obtain ⟨kd, n, rfl⟩ := hrn x rfl
      simp [Instr.makeMap, run_underlying hu, asInt, asIntOf]
  let G' : Gh := G.addVal self 0 (.map (some w.heap.size))
  have hval : G'.val self 0 = some (.map (some w.heap.size)) := by simp [G', Gh.addVal]
  obtain ⟨g1, g2⟩ := hm.new (w' := w.alloc (.map #[] 0)) (G' := G') (o' := .mp k v [] true) hself rfl rfl rfl rfl (fun _ _ h => h) (fun _ _ h => .inl h) rfl
    (fun j hj => ⟨rfl, rfl, fun g => by simp [G', Gh.addVal, hj]⟩) (fun hn hle => ⟨⟨_, hval, w.heap.size, #[], 0, rfl, hn, rfl, fun i x e h => by simp at h,
      ⟨fun _ h => absurd (hm.after.inO _ h) (Nat.lt_irrefl _), fun h => by cases h⟩, fun o h => absurd (hm.after.inC _ _ h) (Nat.lt_irrefl _), hm.owned_new⟩, .inl (by simp [blk, hval])⟩)
  exact ⟨_, _, hrun, G', g1, g2, _, rfl, _, hval, rfl, rfl⟩

end
end Go.Ev
