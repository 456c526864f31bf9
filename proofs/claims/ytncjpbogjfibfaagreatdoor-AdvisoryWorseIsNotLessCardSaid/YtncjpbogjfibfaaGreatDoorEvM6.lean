/-
  OPERATIONS THAT MAKE SLICES AND STRUCTS.
-/
import Derived.Test.YtncjpbogjfibfaaGreatDoorEvM5
set_option linter.unusedVariables false
set_option linter.unusedSimpArgs false
namespace Go.Ev

section
variable {P : Program} {fr : Fr} {free free' : Nat → Prop} {self : Nat} {σ σ' : Nat → Option Obj} {w w' : World} {G G' : Gh} {I : Im}

theorem RowsOK.made {t : Ty} {z : List Value} {x : t.T} (hz : Rel w I t x z) {n m : Nat} (hm : m ≤ n) : RowsOK w I t (List.replicate m x) (madeCells z.toArray (n * t.sz)).toList := by
  intro i y hi
  have hlt := lt_of_getElem? hi
  rw [List.length_replicate] at hlt
  have hy : x = y := by
    rw [List.getElem?_replicate, if_pos hlt] at hi
    exact Option.some.inj hi
  subst hy
  have hlen := hz.length
  have hb := mul_lt_len (s := t.sz) (Nat.lt_of_lt_of_le hlt hm)
  have : ((madeCells z.toArray (n * t.sz)).toList.drop (i * t.sz)).take t.sz = z := by
    apply List.ext_getElem?
    intro j
    by_cases hj : j < t.sz
    · rw [List.getElem?_take, if_pos hj, List.getElem?_drop]
      have h1 : i * t.sz + j < n * t.sz := by omega
      have h2 : (i * t.sz + j) % z.length = j := by
        rw [hlen, Nat.mul_comm, Nat.mul_add_mod]; exact Nat.mod_eq_of_lt hj
      simp only [madeCells, Array.toList_map, Array.toList_range, List.getElem?_map, List.getElem?_range h1, Option.map_some, List.size_toArray, h2]
      rw [List.getElem?_eq_getElem (by omega)]
      simp [hlen, hj]
    · rw [List.getElem?_take, if_neg hj, List.getElem?_eq_none (by omega)]
  rw [this]; exact hz

theorem zero_ok {t : Ty} {id : Nat} (hl : Lay P t id) : ∃ i z, P.info? id = some i ∧ i.size = t.sz ∧ i.bytes ≤ 24 * t.sz ∧ i.zero = some z ∧ VRel w I t t.dflt z ∧ Rel w I t t.dflt z.cells.toList := by
  obtain ⟨i, v, h1, h2, h3, h4, h5⟩ := inf_ok hl.inf
  exact ⟨i, v, h1, h2, h3, h4, (zv_ok h5).1, (zv_ok h5).2⟩

theorem mks_inv {α : Type} {B : Nat} {l c : Int} {z : α} {xs : List α} (h : mks? B l c z = some xs) : 0 ≤ l ∧ l ≤ c ∧ c.toNat * B ≤ 70368744177664 ∧ xs = List.replicate l.toNat z := by
  unfold mks? at h
  cases hb : (decide (0 ≤ l) && (decide (l ≤ c) && decide (c.toNat * B ≤ 70368744177664))) with
  | false => rw [hb] at h; cases h
  | true =>
    rw [hb] at h
    simp only [Bool.and_eq_true, decide_eq_true_eq] at hb
    exact ⟨hb.1, hb.2.1, hb.2.2, (Option.some.inj h).symm⟩

theorem makeSlice_ok {e : Ty} {id el : Nat} (hl : Lay P (.slice e) id) (hm : MemS P fr free σ w G) (hself : free self) {a b : Int} {wr : Bool} {zs : List e.T} (hin : inKind .i64 b)
    (h : mks? (24 * e.sz) a b e.dflt = some zs) (hel : ∀ x, P.underlying id = some (.slice x) → el = x) :
    ∃ v w', (Instr.makeSlice id (.int .i64 a) (.int .i64 b)).run P w = .ok v w' ∧ Res P fr free self σ w G ⟨.obj self 0, [(self, some (.sl el e zs 0 wr))]⟩ v w' := by
  obtain ⟨el', hu, hle, hpos⟩ := hl.slice
  have := hel _ hu
  subst this
  obtain ⟨h0, hab, hB, rfl⟩ := mks_inv h
  obtain ⟨i, z, h1, h2, h3, h4, h5, h6⟩ := zero_ok (P := P) (w := w) (I := G.im) hle
  have hb3 : (i.bytes : Int) * b ≤ 281474976710656 := by
    have hb0 : b = (b.toNat : Int) := by omega
    have hh : i.bytes * b.toNat ≤ 281474976710656 := by
      have : i.bytes * b.toNat ≤ b.toNat * (24 * e.sz) := by rw [Nat.mul_comm]; exact Nat.mul_le_mul_left _ h3
      omega
    rw [hb0, ← Int.natCast_mul]; exact Int.ofNat_le.2 hh
  have hb4 : b ≤ 9223372036854775807 := hin.2
  have hrun := run_make (P := P) w id el i z hu h1 h4 .i64 .i64 a b h0 hab hb3 hb4
  rw [h2] at hrun
  have hz : madeCells z.cells (b.toNat * e.sz) = madeCells z.cells.toList.toArray (b.toNat * e.sz) := by simp
  obtain ⟨G', g1, g2, g3⟩ := hm.new_sl (w' := w.alloc (.cells (madeCells z.cells (b.toNat * e.sz)) el)) (el := el) (wr := wr) hself (cap := b.toNat) (xs := List.replicate a.toNat e.dflt) (cs := madeCells z.cells (b.toNat * e.sz)) rfl rfl rfl rfl
    (by
      rw [List.length_replicate]
      have hpos' : b.toNat * 1 ≤ b.toNat * (24 * e.sz) := Nat.mul_le_mul_left _ (by omega)
      exact ⟨by omega, by omega⟩) (size_madeCells _ _) (by rw [hz]; exact RowsOK.made h6 (by omega))
  rw [List.length_replicate] at g3
  exact ⟨_, _, hrun, G', g1, g2, g3⟩

/-! ## Filling -/
theorem foldl_splice : ∀ (ds : List Value) (k off : Nat) (cs : Array Value), off + k + ds.length ≤ cs.size →
    (ds.zipIdx k).foldl (fun (cs : Array Value) (p : Value × Nat) => cs.setIfInBounds (off + p.2) p.1) cs = (splice cs.toList (off + k) ds).toArray := by
  intro ds
  induction ds with
  | nil => intro k off cs _; simp [splice]
  | cons d ds ih =>
    intro k off cs h
    simp only [List.length_cons] at h
    rw [List.zipIdx_cons, List.foldl_cons, ih (k + 1) off _ (by simp; omega)]
    congr 1
    apply List.ext_getElem?
    intro j
    rw [splice_get (by simp; omega), splice_get (by simp; omega)]
    simp only [List.length_cons, Array.toList_setIfInBounds]
    by_cases h1 : j = off + k
    · subst h1
      rw [if_neg (by omega), if_pos (by omega)]
      simp only [Nat.sub_self, List.getElem?_cons_zero]
      rw [List.getElem?_set_self (by simp; omega)]
    · rw [List.getElem?_set_ne (by omega)]
      by_cases h2 : off + (k + 1) ≤ j ∧ j < off + (k + 1) + ds.length
      · rw [if_pos h2, if_pos (by omega)]
        have : j - (off + k) = (j - (off + (k + 1))) + 1 := by omega
        rw [this, List.getElem?_cons_succ]
      · rw [if_neg h2, if_neg (by omega)]

theorem fill_cons {place : Nat → Option (Nat × Nat)} {cells : Array Value} {i off size : Nat} {v : Value} {rest : List (Nat × Value)} (hp : place i = some (off, size)) (hs : v.cells.size = size) (hfit : off + size ≤ cells.size) :
    Instr.fill place cells ((i, v) :: rest) = Instr.fill place (splice cells.toList off v.cells.toList).toArray rest := by
  have e : v.cells.zipIdx.foldl (fun (cs : Array Value) (p : Value × Nat) => cs.setIfInBounds (off + p.2) p.1) cells = (splice cells.toList off v.cells.toList).toArray := by
    have := foldl_splice v.cells.toList 0 off cells (by simp; omega)
    rw [← Array.foldl_toList, Array.toList_zipIdx]
    simpa using this
  simp only [Instr.fill, hp]
  rw [if_neg (by simp; omega)]
  rw [← e]

theorem fillFields_ok {p : Ty} {fs : Array Field} {places : List (Nat × Nat)} (hb : (layB P p).2 fs.toList 0 = true)
    (hpl : ∀ (f : Nat) (F : Field), fs[f]? = some F → ∃ s, places[f]? = some (F.offset, s) ∧ ∃ i, P.info? F.type = some i ∧ i.size = s)
    (hm : MemS P fr free σ w G) (hσ : ∀ k o, σ' k = some o → σ k = some o) :
    ∀ {ps : List (Nat × SV)} {vs : List (Nat × Value)} {x y : p.T} {cells : Array Value}, putFields σ' p ps x = some y → ps.length = vs.length →
      (∀ (j : Nat) (q : Nat × SV) (u : Nat × Value), ps[j]? = some q → vs[j]? = some u → q.1 = u.1 ∧ SR P w G q.2 u.2) → Rel w G.im p x cells.toList →
      ∃ cells', Instr.fill (places.toArray[·]?) cells vs = some cells' ∧ Rel w G.im p y cells'.toList := by
  obtain ⟨k1, k2⟩ := layF_ok hb
  intro ps
  induction ps with
  | nil =>
    intro vs x y cells h hlen _ hr
    cases vs with
    | nil => cases h; exact ⟨cells, rfl, hr⟩
    | cons _ _ => simp at hlen
  | cons q r ih =>
    intro vs x y cells h hlen hq hr
    cases vs with
    | nil => simp at hlen
    | cons u vs =>
      obtain ⟨i, s⟩ := q
      obtain ⟨i', v⟩ := u
      obtain ⟨hi, hsr⟩ := hq 0 _ _ rfl rfl
      have hi : i = i' := hi
      subst hi
      have hsr : SR P w G s v := hsr
      simp only [putFields] at h
      cases h1 : putField σ' p i s x with
      | none => rw [h1] at h; cases h
      | some x' =>
        rw [h1] at h
        unfold putField at h1
        cases hlt : Nat.blt i p.fields with
        | false => rw [hlt] at h1; cases h1
        | true =>
          rw [hlt] at h1
          simp only [cond_true] at h1
          rw [Nat.blt_eq] at hlt
          split at h1
          · rename_i u hu
            split at h1
            · rename_i yv hy
              have hv := (asV_ok (fun k o h => hm.objs k o (hσ k o h)) hy hsr).cells
              have hif : i < fs.toList.length := by rw [k1]; exact hlt
              obtain ⟨u', o, q1, q2, q3, q4⟩ := k2 i _ (List.getElem?_eq_getElem hif)
              rw [hu] at q1
              cases q1
              obtain ⟨sz, p1, inf, p2, p3⟩ := hpl i _ (by rw [← Array.getElem?_toList]; exact List.getElem?_eq_getElem hif)
              have hsz : sz = u.sz := by
                obtain ⟨i2, _, e1, e2, _⟩ := inf_ok q4.inf
                rw [p2] at e1; cases e1
                rw [← p3, e2]
              subst hsz
              obtain ⟨z1, z2, z3⟩ := put_ok hr h1 q2 hv
              have hlen2 := hv.length
              have hcl := hr.length
              rw [q3, Nat.zero_add] at p1
              rw [fill_cons (off := o) (size := u.sz) (by simpa using p1) (by simpa using hlen2) (by simp at hcl; omega)]
              exact ih h (by simpa using hlen) (fun j q u h1 h2 => hq (j + 1) q u (by simpa using h1) (by simpa using h2)) (by simpa using z3)
            · cases h1
          · cases h1

theorem fillElems_ok {e : Ty} (hm : MemS P fr free σ w G) (hσ : ∀ k o, σ' k = some o → σ k = some o) :
    ∀ {ps : List (Nat × SV)} {vs : List (Nat × Value)} {xs ys : List e.T} {cells : Array Value}, putElems σ' e ps xs = some ys → ps.length = vs.length →
      (∀ (j : Nat) (q : Nat × SV) (u : Nat × Value), ps[j]? = some q → vs[j]? = some u → q.1 = u.1 ∧ SR P w G q.2 u.2) → cells.size = xs.length * e.sz → RowsOK w G.im e xs cells.toList →
      ∃ cells', Instr.fill (fun i => some (i * e.sz, e.sz)) cells vs = some cells' ∧ ys.length = xs.length ∧ cells'.size = cells.size ∧ RowsOK w G.im e ys cells'.toList := by
  intro ps
  induction ps with
  | nil =>
    intro vs xs ys cells h hlen _ _ hr
    cases vs with
    | nil => cases h; exact ⟨cells, rfl, rfl, rfl, hr⟩
    | cons _ _ => simp at hlen
  | cons q r ih =>
    intro vs xs ys cells h hlen hq hsz hr
    cases vs with
    | nil => simp at hlen
    | cons u vs =>
      obtain ⟨i, s⟩ := q
      obtain ⟨i', v⟩ := u
      obtain ⟨hi, hsr⟩ := hq 0 _ _ rfl rfl
      have hi : i = i' := hi
      subst hi
      have hsr : SR P w G s v := hsr
      simp only [putElems] at h
      cases hlt : Nat.blt i xs.length with
      | false => rw [hlt] at h; cases h
      | true =>
        rw [hlt] at h
        simp only [cond_true] at h
        rw [Nat.blt_eq] at hlt
        split at h
        · rename_i yv hy
          have hv := (asV_ok (fun k o h => hm.objs k o (hσ k o h)) hy hsr).cells
          have hlen2 := hv.length
          have hb := mul_lt_len (s := e.sz) hlt
          rw [fill_cons (off := i * e.sz) (size := e.sz) rfl (by simpa using hlen2) (by omega)]
          obtain ⟨cells', c1, c2, c3, c4⟩ := ih (cells := (splice cells.toList (i * e.sz) v.cells.toList).toArray) h (by simpa using hlen) (fun j q u h1 h2 => hq (j + 1) q u (by simpa using h1) (by simpa using h2))
            (by rw [List.size_toArray, splice_len (by rw [hlen2]; simp; omega)]; simpa using hsz) (by simpa using RowsOK.set hr (by simp; omega) hlt hv)
          refine ⟨cells', c1, by rw [c2, List.length_set], ?_, c4⟩
          rw [c3, List.size_toArray, splice_len (by rw [hlen2]; simp; omega)]; simp
        · cases h

end
end Go.Ev
