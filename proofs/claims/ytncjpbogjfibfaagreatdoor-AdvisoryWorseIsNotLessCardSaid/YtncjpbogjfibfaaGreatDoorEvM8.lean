/-
  append; strings and bytes.
-/
import Derived.Test.YtncjpbogjfibfaaGreatDoorEvM7
set_option linter.unusedVariables false
set_option linter.unusedSimpArgs false
namespace Go.Ev

section
variable {P : Program} {fr : Fr} {free free' : Nat → Prop} {self : Nat} {σ σ' : Nat → Option Obj} {w w' : World} {G G' : Gh} {I : Im}

theorem app_inv {α : Type} {B : Nat} {xs ys zs : List α} (h : app? B xs ys = some zs) : (xs.length + ys.length) * B ≤ 70368744177664 ∧ zs = xs ++ ys := by
  unfold app? at h
  cases hb : decide ((xs.length + ys.length) * B ≤ 70368744177664) with
  | false => rw [hb] at h; cases h
  | true => rw [hb] at h; exact ⟨of_decide_eq_true hb, (Option.some.inj h).symm⟩

/-- The source of an append. -/
theorem src_of {e : Ty} {id el : Nat} {i : TypeInfo} (hu : P.underlying id = some (.slice el)) (hi : P.info? el = some i) (hs : i.size = e.sz) {ys : List e.T} {v : Value} (h : VRel w I (.slice e) ys v) :
    ∃ news, Src P i.size id v ys.length news w ∧ news.length = ys.length * e.sz ∧ RowsOK w I e ys news := by
  obtain ⟨a, cap, news, rfl, hnil, h1, h2, h3, h4⟩ := slice_src h
  cases a with
  | none =>
    have := hnil rfl
    subst this
    have : news = [] := List.eq_nil_of_length_eq_zero (by simpa using h1)
    subst this
    exact ⟨[], Src.ofNil w hu cap, h1, h2⟩
  | some ad =>
    obtain ⟨hsp, hc⟩ := h4 ad rfl
    refine ⟨news, Src.ofSlice w hu ad _ _ news (by rw [hs]; exact h1) (fun j u hj => ?_) h3, h1, h2⟩
    have : ad.add j = ⟨ad.block, ad.off + j, none⟩ := by
      cases ad
      cases hsp
      exact addr_add
    rw [this]; exact hc j u hj

theorem grow_ok {e : Ty} {id el : Nat} (hl : Lay P (.slice e) id) (hu : P.underlying id = some (.slice el)) (hle : Lay P e el) (hm : MemS P fr free σ w G) (hself : free self) {wr : Bool} {xs ys : List e.T} {base : Option Addr} {cap : Nat} {olds : List Value} {v : Value} {ty : Nat}
    (hB : (xs.length + ys.length) * (24 * e.sz) ≤ 70368744177664) (hcap : cap < xs.length + ys.length) (hv : VRel w G.im (.slice e) ys v)
    (hold : (Builtin.firstCells e.sz xs.length (.slice base xs.length cap)).run P w.drew = .ok olds.toArray w.drew) (hol : olds.length = xs.length * e.sz) (hor : RowsOK w G.im e xs olds) :
    ∃ z w', (Builtin.append_ #[id, id] ty #[.slice base xs.length cap, v]).run P w = .ok z w' ∧ Res P fr free self σ w G ⟨.obj self 0, [(self, some (.sl el e (xs ++ ys) 0 wr))]⟩ z w' := by
  obtain ⟨i, z, h1, h2, h3, h4, h5, h6⟩ := zero_ok (P := P) (w := w) (I := G.im) hle
  obtain ⟨news, s1, s2, s3⟩ := src_of hu h1 h2 hv
  have hpos : 0 < e.sz := by
    obtain ⟨_, hu', _, hp⟩ := hl.slice
    exact hp
  have hbig : (xs.length + ys.length) * i.bytes ≤ 140737488355328 := by
    have : (xs.length + ys.length) * i.bytes ≤ (xs.length + ys.length) * (24 * e.sz) := Nat.mul_le_mul_left _ h3
    omega
  have h63 : xs.length + ys.length ≤ 70368744177664 := by
    have : (xs.length + ys.length) * 1 ≤ (xs.length + ys.length) * (24 * e.sz) := Nat.mul_le_mul_left _ (by omega)
    omega
  have hrun := run_append_grow_src w id id ty el i z hu h1 h4 base xs.length cap olds (by rw [h2]; exact hold) v ys.length news s1 hcap (by omega) (growslice_fits hcap hbig)
  have hge := grownCap_ge w (xs.length + ys.length) cap el
  have hzs : z.cells.size = e.sz := by have := h6.length; simpa using this
  obtain ⟨G', g1, g2, g3⟩ := hm.new_sl (w' := w.drew.alloc (.cells ((olds ++ news).toArray ++ Builtin.zeroCells z.cells (grownCap w (xs.length + ys.length) cap el - (xs.length + ys.length))) el)) (el := el) (wr := wr) hself
    (cap := grownCap w (xs.length + ys.length) cap el) (xs := xs ++ ys) rfl rfl rfl rfl (by rw [List.length_append]; exact ⟨hge, by omega⟩)
    (by
      rw [Array.size_append, size_zeroCells, hzs, List.size_toArray, List.length_append, hol, s2, ← Nat.add_mul, ← Nat.add_mul]
      congr 1
      omega)
    (by
      rw [Array.toList_append, List.append_assoc]
      exact RowsOK.append hor s3 hol s2)
  rw [List.length_append] at g3
  exact ⟨_, _, hrun, G', g1, g2, g3⟩

theorem append_nil_ok {e : Ty} {id el : Nat} (hl : Lay P (.slice e) id) (hel : ∀ x, P.underlying id = some (.slice x) → el = x) (hm : MemS P fr free σ w G) (hself : free self) {wr : Bool} {ys zs : List e.T} {v : Value} {ty : Nat}
    (hv : VRel w G.im (.slice e) ys v) (h : app? (24 * e.sz) [] ys = some zs) :
    ∃ z w', (Builtin.append_ #[id, id] ty #[.slice none 0 0, v]).run P w = .ok z w' ∧ Res P fr free self σ w G ⟨.obj self 0, [(self, some (.sl el e zs 0 wr))]⟩ z w' := by
  obtain ⟨el', hu, hle, hpos⟩ := hl.slice
  have := hel _ hu
  subst this
  obtain ⟨hB, hz⟩ := app_inv h
  have hz : zs = ys := hz
  rw [hz]
  by_cases h0 : ys.length = 0
  · have hy : ys = [] := List.eq_nil_of_length_eq_zero h0
    subst hy
    obtain ⟨i, z, h1, h2, h3, h4, h5, h6⟩ := zero_ok (P := P) (w := w) (I := G.im) hle
    obtain ⟨news, s1, s2, s3⟩ := src_of hu h1 h2 hv
    have hn : news = [] := List.eq_nil_of_length_eq_zero (by simpa using s2)
    subst hn
    obtain ⟨G', g1, g2, g3⟩ := hm.nil_sl (el := el) (t := e) (wr := wr) hself
    refine ⟨.slice none 0 0, w, ?_, G', g1, g2, g3⟩
    have hl1 := s1.len w
    have hc1 := s1.cells
    simp [Builtin.append_, run_underlying hu, sizeOf, typeInfo, h1, hl1]
    simp at hc1
    simp [hc1]
  · have := grow_ok (xs := ([] : List e.T)) (ys := ys) (ty := ty) (self := self) (wr := wr) (base := none) (cap := 0) (olds := []) hl hu hle hm hself hB (by simp; omega) hv (run_firstCells_none _ _ _ _ _) (by simp) (fun i x hx => by simp at hx)
    simpa using this

theorem append_ok {e : Ty} {id el : Nat} (hl : Lay P (.slice e) id) (hel : ∀ x, P.underlying id = some (.slice x) → el = x) (hm : MemS P fr free σ w G) (hself : free self) {k : Nat} {wr : Bool} {xs ys zs : List e.T} {v vx : Value} {ty : Nat}
    (hk : σ k = some (.sl el e xs 0 wr)) (hs : SR P w G (.obj k 0) v) (hv : VRel w G.im (.slice e) ys vx) (h : app? (24 * e.sz) xs ys = some zs) :
    ∃ z w', (Builtin.append_ #[id, id] ty #[v, vx]).run P w = .ok z w' ∧ Res P fr free self σ w G ⟨.obj self 0, [(self, some (.sl el e zs 0 wr)), (k, none)]⟩ z w' := by
  obtain ⟨hety, v', k1, k2⟩ := hm.objs _ _ hk
  obtain ⟨c, hc, v2, k3, k4, k5⟩ := hs
  have hv2 : v2 = v := by
    have : [v] = [v2] := (show c = [v] from hc).symm.trans k5
    exact (List.singleton_inj.1 this).symm
  subst hv2
  rw [k1] at k3
  cases k3
  have hm1 := hm.drop k
  have hself1 : free self := hself
  rcases k2 with ⟨rfl, rfl⟩ | ⟨b, cap, cs, rfl, hcap, hb, hsz, hrows, hown, hW, hA, hO⟩
  · exact append_nil_ok hl hel hm1 hself hv h
  · obtain ⟨el', hu, hle, hpos⟩ := hl.slice
    have := hel _ hu
    subst this
    obtain ⟨hB, rfl⟩ := app_inv h
    obtain ⟨i, z, h1, h2, h3, h4, h5, h6⟩ := zero_ok (P := P) (w := w) (I := G.im) hle
    obtain ⟨news, s1, s2, s3⟩ := src_of hu h1 h2 hv
    have hfull : xs.length * e.sz ≤ cs.size := by rw [hsz]; exact Nat.mul_le_mul_right _ hcap.1
    by_cases hroom : xs.length + ys.length ≤ cap
    · have hfit : xs.length * e.sz + news.length ≤ cs.size := by
        rw [s2, hsz, ← Nat.add_mul]; exact Nat.mul_le_mul_right _ hroom
      have hcell : ∀ o, w.cell? ⟨b, o, none⟩ = cs.toList[o]? := cell_of_heap hb
      have hst := run_storeCells_at P b (xs.length * e.sz) el news 0 cs w hb (by omega) s1.one
      have hrun : (Builtin.append_ #[id, id] ty #[.slice (some ⟨b, 0, none⟩) xs.length cap, vx]).run P w =
          .ok (.slice (some ⟨b, 0, none⟩) (xs.length + ys.length) cap) (w.setRow b (splice cs.toList (xs.length * e.sz) news).toArray) := by
        have hl1 := s1.len w
        have hc1 := s1.cells
        rw [h2] at hc1
        simp only [Nat.add_zero] at hst
        simp [Builtin.append_, run_underlying hu, sizeOf, typeInfo, h1, h2, hl1, hroom, hc1, Addr.add_lit, hst, splice]
      have hspl : (splice cs.toList (xs.length * e.sz) news).length = cs.size := by rw [splice_len (by simpa using hfit)]; simp
      obtain ⟨G', g1, g2, g3⟩ := hm1.take_sl (w' := w.setRow b (splice cs.toList (xs.length * e.sz) news).toArray) (el := el) (wr := wr) (cap := cap) (xs := xs ++ ys) (b := b) (cs := (splice cs.toList (xs.length * e.sz) news).toArray) hself
        (fun j o ho hj => by
          simp only [putSto] at ho
          cases hjk : Nat.beq j k with
          | true => rw [hjk] at ho; cases ho
          | false =>
            rw [hjk] at ho
            have : j = k := hm.sep j k o _ b ho hk hj (by simp [blk, k1])
            rw [this, Nat.beq_refl] at hjk; cases hjk)
        hown (fun b' _ hne => setRow_other w b b' _ hne) (by simp) rfl rfl rfl (by
          rw [List.length_append]
          have h63 : (xs.length + ys.length) * 1 ≤ (xs.length + ys.length) * (24 * e.sz) := Nat.mul_le_mul_left _ (by omega)
          exact ⟨hroom, by omega⟩) (setRow_heap w b cs _ el (0, 0) hb) (by rw [List.size_toArray, hspl, hsz])
        (by
          show RowsOK w G.im e (xs ++ ys) (splice cs.toList (xs.length * e.sz) news)
          exact RowsOK.append (RowsOK.take hrows (Nat.le_refl _)) s3 (by simp; omega) s2)
        (fun hw => hW hw)
        (fun o ho => by
          cases wr with
          | true => exact absurd ho (hW rfl o)
          | false =>
            have hlt := (hA rfl o).2 ho
            refine ⟨Nat.lt_of_lt_of_le hlt (by rw [List.length_append, Nat.add_mul]; omega), ?_⟩
            rw [cell_of_heap (setRow_heap w b cs _ el (0, 0) hb), hcell]
            show (splice cs.toList (xs.length * e.sz) news)[o]? = _
            rw [splice_get (by simpa using hfit), if_neg (by omega)])
        hO
      rw [List.length_append] at g3
      exact ⟨_, _, hrun, G', g1, g2, g3⟩
    · have hcell : ∀ o, w.cell? ⟨b, o, none⟩ = cs.toList[o]? := cell_of_heap hb
      exact grow_ok (xs := xs) (ys := ys) (ty := ty) (self := self) (wr := wr) (base := some ⟨b, 0, none⟩) (cap := cap) (olds := cs.toList.take (xs.length * e.sz)) hl hu hle hm1 hself hB (by omega) hv
        (run_firstCells_some _ _ _ _ _ _ _ (by simp; omega) (fun j u hj => by
          rw [World.cell?_drew, Addr.add_lit, Nat.zero_add, hcell]
          rw [List.getElem?_take] at hj
          split at hj
          · exact hj
          · cases hj)) (by simp; omega) (RowsOK.take hrows (Nat.le_refl _))

end
end Go.Ev
