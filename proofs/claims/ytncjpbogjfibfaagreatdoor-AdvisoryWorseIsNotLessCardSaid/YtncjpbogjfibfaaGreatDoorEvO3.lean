/-
  FIELDS AND POINTERS.
-/
import Derived.Test.YtncjpbogjfibfaaGreatDoorEvO2
set_option linter.unusedVariables false
set_option linter.unusedSimpArgs false
namespace Go.Ev
section
variable {P : Program} {fr : Fr} {free : Nat → Prop} {self : Nat} {σ : Nat → Option Obj} {w : World} {G : Gh}

theorem Lay.sz_pos {t : Ty} {id : Nat} (h : Lay P t id) : 0 < t.sz := by
  cases t with
  | agg p => obtain ⟨_, _, _, h⟩ := h.agg; exact h
  | arr n e => obtain ⟨_, _, _, h1, h2⟩ := h.arr; exact Nat.mul_pos (by omega) h1
  | prod a b => simp [Lay, layB] at h
  | unit => simp [Lay, layB] at h
  | _ => exact Nat.one_pos

theorem Lay.cells {t : Ty} {id : Nat} (h : Lay P t id) : ∃ i, P.info? id = some i ∧ P.cellsOf id = t.sz := by
  obtain ⟨i, _, hi, hs, _⟩ := inf_ok h.inf
  exact ⟨i, hi, by simp [Program.cellsOf, hi, hs]⟩

/-- The f-th field of a struct's type. -/
theorem field_lay {p : Ty} {id : Nat} (hl : Lay P (.agg p) id) {f : Nat} {u : Ty} (hu : p.sub (fieldPath p.fields f) = some u) (hf : f < p.fields) :
    ∃ fs F o, P.underlying id = some (.struct fs) ∧ fs[f]? = some F ∧ p.off (fieldPath p.fields f) = some o ∧ F.offset = o ∧ Lay P u F.type := by
  obtain ⟨fs, hun, hb, _⟩ := hl.agg
  obtain ⟨h1, h2⟩ := layF_ok hb
  have hlt : f < fs.toList.length := by rw [h1]; exact hf
  obtain ⟨u', o, k1, k2, k3, k4⟩ := h2 f _ (List.getElem?_eq_getElem hlt)
  rw [hu] at k1
  cases k1
  refine ⟨fs, fs.toList[f], o, hun, ?_, k2, by omega, k4⟩
  rw [← Array.getElem?_toList, List.getElem?_eq_getElem hlt]

theorem fieldPath_lt : ∀ {n f : Nat}, n ≤ f → 0 < n → fieldPath n f = fieldPath n (n - 1) := by
  intro n
  induction n with
  | zero => intro f _ h; omega
  | succ n ih =>
    intro f h _
    cases n with
    | zero => rfl
    | succ n =>
      cases f with
      | zero => omega
      | succ f =>
        show true :: fieldPath (n + 1) f = true :: fieldPath (n + 1) n
        rw [ih (by omega) (by omega)]; rfl

theorem opField_ok {p : Ty} {id : Nat} (hl : Lay P (.agg p) id) {f : Nat} (hf : f < p.fields) {s : SV} {v : Value} {r : OpRes} {u : Upd} (hr : opField p f s = some r) (hu : Gives r u) (h : SR P w G s v) :
    u.wr = [] ∧ ∃ z, (Instr.field id v f).run P w = .ok z w ∧ SR P w G u.sv z := by
  unfold opField at hr
  split at hr
  · rename_i q x
    split at hr
    · rename_i q' x
      split at hr
      · rename_i y hy
        split at hr
        · rename_i t z hz
          cases hr
          rw [hu.v_inv]
          obtain ⟨cs, hc, hrel⟩ := h.val
          have hc' : v = .agg cs.toArray := hc
          subst hc'
          have hrel' : Rel w G.im p y cs := Rel.cast (t := q') hy hrel
          obtain ⟨o, k1, k2, k3, k4⟩ := at_ok hrel' hz
          obtain ⟨fs, F, o', m1, m2, m3, m4, m5⟩ := field_lay hl k2 hf
          rw [k1] at m3
          cases m3
          subst m4
          obtain ⟨z', hz', hv⟩ := part_ok (P := P) m5 (cs := cs.toArray) (off := F.offset) (by simpa using k4) (by simp [hrel'.length]; omega)
          refine ⟨rfl, z', ?_, hv⟩
          simp only [Instr.field, Sem.run_bind, run_underlying m1, Result.andThen_ok, m2, asAgg, Sem.run_pure]
          exact hz'
        · cases hr
      · cases hr
    · cases hr
  · cases hr

/-! ## Pointers -/
theorem addr_add {b o n : Nat} : (⟨b, o, none⟩ : Addr).add n = ⟨b, o + n, none⟩ := by
  unfold Addr.add; split
  · rename_i h; subst h; rfl
  · rfl

theorem fieldPlace_ok {u : Ty} {F : Field} (hl : Lay P u F.type) (a : Addr) : (fieldPlace a F).run P w = .ok (a.add F.offset) w := by
  obtain ⟨i, hi, hc⟩ := hl.cells
  have := hl.sz_pos
  have h0 : P.cellsOf F.type ≠ 0 := by omega
  simp [fieldPlace, run_sizeOf w hi, h0]

theorem off_append : ∀ {p : List Bool} {t u : Ty} {o : Nat} {q : List Bool}, t.off p = some o → t.sub p = some u → t.off (p ++ q) = (u.off q).map (o + ·) ∧ t.sub (p ++ q) = u.sub q := by
  intro p
  induction p with
  | nil =>
    intro t u o q ho hu
    have hu' : t = u := by cases t <;> exact Option.some.inj hu
    have ho' : 0 = o := by cases t <;> exact Option.some.inj ho
    subst hu' ho'
    simp
  | cons i r ih =>
    intro t
    induction t with
    | prod a b =>
      intro u o q ho hu
      cases i with
      | false => exact ih (t := a) ho hu
      | true =>
        simp only [Ty.off, cond_true] at ho
        cases hx : b.off r with
        | none => rw [hx] at ho; cases ho
        | some o' =>
          rw [hx] at ho
          cases ho
          obtain ⟨k1, k2⟩ := ih (t := b) (q := q) hx hu
          refine ⟨?_, k2⟩
          simp only [List.cons_append, Ty.off, cond_true, k1]
          cases u.off q <;> simp [Nat.add_assoc]
    | agg d ihd => intro u o q ho hu; exact ihd ho hu
    | _ => intro u o q ho hu; cases ho

theorem ptr_mk {k : Nat} {p : List Bool} {u t : Ty} {b o : Nat} (h1 : G.box k = some (b, t)) (h2 : t.off p = some o) (h3 : SubB t p u) :
    SR P w G (.ptr k p u) (.pointer (some ⟨b, o, none⟩)) := ⟨_, rfl, b, t, o, h1, h2, h3, rfl⟩
theorem ptr_inv {k : Nat} {p : List Bool} {u : Ty} {v : Value} (h : SR P w G (.ptr k p u) v) :
    ∃ b t o, G.box k = some (b, t) ∧ t.off p = some o ∧ SubB t p u ∧ v = .pointer (some ⟨b, o, none⟩) := by
  obtain ⟨c, h1, b, t, o, h2, h3, h4, h5⟩ := h
  have h1' : c = [v] := h1
  subst h1'
  injection h5 with h6 _
  exact ⟨b, t, o, h2, h3, h4, h6⟩
theorem ptri_inv {k i : Nat} {p q : List Bool} {u : Ty} {v : Value} (h : SR P w G (.ptri k p i q u) v) :
    ∃ b t o n e o', G.box k = some (b, t) ∧ t.off p = some o ∧ SubB t p (.arr n e) ∧ i < n ∧ e.off q = some o' ∧ SubB e q u ∧ v = .pointer (some ⟨b, o + i * e.sz + o', none⟩) := by
  obtain ⟨c, h1, b, t, o, n, e, o', h2, h3, h4, h5, h6, h7, h8⟩ := h
  have h1' : c = [v] := h1
  subst h1'
  injection h8 with h9 _
  exact ⟨b, t, o, n, e, o', h2, h3, h4, h5, h6, h7, h9⟩
theorem elem_inv {k g i : Nat} {q : List Bool} {u : Ty} {v : Value} (h : SR P w G (.elem k g i q u) v) :
    ∃ b len cap e o', G.val k g = some (.slice (some ⟨b, 0, none⟩) len cap) ∧ G.ety k = some e ∧ i < len ∧ e.off q = some o' ∧ SubB e q u ∧ v = .pointer (some ⟨b, i * e.sz + o', none⟩) := by
  obtain ⟨c, h1, b, len, cap, e, o', h2, h3, h4, h5, h6, h7⟩ := h
  have h1' : c = [v] := h1
  subst h1'
  injection h7 with h8 _
  exact ⟨b, len, cap, e, o', h2, h3, h4, h5, h6, h8⟩
theorem ref_inv {t : Ty} {x : t.T} {v : Value} (h : SR P w G (.ref t x) v) : ∃ ad c, v = .pointer (some ad) ∧ ad.spot = none ∧ Row w G.im ad.block ad.off t.sz c ∧ Rel w G.im t x c := by
  obtain ⟨d, h1, ad, c, h2, h3, h4, h5⟩ := h
  have h1' : d = [v] := h1
  subst h1'
  injection h2 with h6 _
  exact ⟨ad, c, h6, h3, h4, h5⟩

theorem Ty.bare_same {u p : Ty} (h : u.bare.same p = true) : u.bare = p := Ty.same_eq h

theorem off_of_bare {u p : Ty} (h : u.bare = p) (q : List Bool) : u.off q = p.off q ∧ (q ≠ [] → u.sub q = p.sub q) := by
  subst h
  cases q with
  | nil => exact ⟨by cases u <;> first | rfl | (rename_i t; cases t <;> rfl), fun h => absurd rfl h⟩
  | cons i r => exact ⟨Ty.off_bare _ _ _, fun _ => Ty.sub_bare _ _ _⟩

/-- The type of a part, but for the mark of a struct of one field. -/
theorem sub_of_bare {u p v : Ty} {q : List Bool} (h : u.bare = p) (hq : p.sub q = some v) : ∃ v', u.sub q = some v' ∧ (v' = v ∨ (q = [] ∧ v'.bare = v)) := by
  subst h
  cases q with
  | nil =>
    have : u.bare = v := by cases hb : u.bare <;> (rw [hb] at hq; exact Option.some.inj hq)
    exact ⟨u, by cases u <;> rfl, .inr ⟨rfl, this⟩⟩
  | cons i r => exact ⟨v, by rw [Ty.sub_bare]; exact hq, .inl rfl⟩

theorem Row.sub {I : Im} {b o n m k : Nat} {c : List Value} (h : Row w I b o n c) (hk : k + m ≤ n) : Row w I b (o + k) m ((c.drop k).take m) :=
  ⟨by rw [List.length_take, List.length_drop, h.len]; omega, fun j hj => by
    obtain ⟨h1, h2⟩ := h.at_ (k + j) (by omega)
    refine ⟨by rw [Nat.add_assoc]; exact h1, ?_⟩
    rw [Nat.add_assoc, h2, List.getElem?_take, if_pos hj, List.getElem?_drop]⟩
theorem fieldPath_nil {n f : Nat} (h : fieldPath n f = []) : n ≤ 1 := by
  cases n with
  | zero => omega
  | succ n => cases n with
    | zero => omega
    | succ n => cases f <;> simp [fieldPath] at h

/-- A field's place, from a pointer to the struct on. -/
theorem sub_field {t p u v : Ty} {q : List Bool} {o f : Nat} (hok : okField p = true) (ho : t.off q = some o) (hu : SubB t q u) (hb : u.bare = p) (hv : p.sub (fieldPath p.fields f) = some v) (hf : f < p.fields)
    {of : Nat} (hof : p.off (fieldPath p.fields f) = some of) :
    t.off (q ++ fieldPath p.fields f) = some (o + of) ∧ SubB t (q ++ fieldPath p.fields f) v := by
  obtain ⟨u', h1, h2⟩ := hu
  have hb' : u'.bare = p := h2.trans hb
  obtain ⟨k1, k2⟩ := off_append (q := fieldPath p.fields f) ho h1
  obtain ⟨m1, _⟩ := off_of_bare hb' (fieldPath p.fields f)
  obtain ⟨v', n1, n2⟩ := sub_of_bare hb' hv
  refine ⟨by rw [k1, m1, hof]; rfl, v', by rw [k2]; exact n1, ?_⟩
  rcases n2 with rfl | ⟨hnil, hbv⟩
  · rfl
  · have h1 : p.fields = 1 := by have := fieldPath_nil hnil; omega
    rw [hnil] at hv
    have hpv : p = v := by cases p <;> exact Option.some.inj hv
    unfold okField at hok
    rw [show Nat.beq p.fields 1 = true by rw [h1]; rfl] at hok
    have := Ty.same_eq (show p.bare.same p = true from hok)
    rw [hbv, ← hpv, this]

theorem opFieldAddr_ok {p : Ty} {id : Nat} (hl : Lay P (.agg p) id) {f : Nat} (hf : f < p.fields) {s s' : SV} {v : Value} (hr : opFieldAddr p f s = some s') (h : SR P w G s v) :
    ∃ z, (Instr.fieldAt id v f).run P w = .ok z w ∧ SR P w G s' z := by
  unfold opFieldAddr at hr
  cases hok : okField p with
  | false => rw [hok] at hr; cases hr
  | true =>
  rw [hok] at hr
  simp only [cond_true] at hr
  have run : ∀ {b o : Nat} {F : Field} {fs : Array Field} {u : Ty}, P.underlying id = some (.struct fs) → fs[f]? = some F → Lay P u F.type →
      (Instr.fieldAt id (.pointer (some ⟨b, o, none⟩)) f).run P w = .ok (.pointer (some ⟨b, o + F.offset, none⟩)) w := by
    intro b o F fs u h1 h2 h3
    simp only [Instr.fieldAt, Sem.run_bind, run_underlying h1, Result.andThen_ok, h2, Instr.sureAddr, Sem.run_pure, fieldPlace_ok h3, addr_add]
  split at hr
  · rename_i k q u
    split at hr
    · rename_i hb
      cases hv : p.sub (fieldPath p.fields f) with
      | none => rw [hv] at hr; cases hr
      | some vt =>
        rw [hv] at hr
        cases hr
        obtain ⟨fs, F, o', m1, m2, m3, m4, m5⟩ := field_lay hl hv hf
        obtain ⟨b, t, o, h1, h2, h3, rfl⟩ := ptr_inv h
        obtain ⟨k1, k2⟩ := sub_field hok h2 h3 (Ty.bare_same hb) hv hf m3
        exact ⟨_, run m1 m2 m5, by rw [m4]; exact ptr_mk h1 k1 k2⟩
    · cases hr
  · rename_i k q i r u
    split at hr
    · rename_i hb
      cases hv : p.sub (fieldPath p.fields f) with
      | none => rw [hv] at hr; cases hr
      | some vt =>
        rw [hv] at hr
        cases hr
        obtain ⟨fs, F, o', m1, m2, m3, m4, m5⟩ := field_lay hl hv hf
        obtain ⟨b, t, o, n, e, o2, h1, h2, h3, h4, h5, h6, rfl⟩ := ptri_inv h
        obtain ⟨k1, k2⟩ := sub_field hok h5 h6 (Ty.bare_same hb) hv hf m3
        refine ⟨_, run m1 m2 m5, _, rfl, b, t, o, n, e, o2 + o', h1, h2, h3, h4, k1, k2, ?_⟩
        rw [m4, Nat.add_assoc]
    · cases hr
  · rename_i k g i r u
    split at hr
    · rename_i hb
      cases hv : p.sub (fieldPath p.fields f) with
      | none => rw [hv] at hr; cases hr
      | some vt =>
        rw [hv] at hr
        cases hr
        obtain ⟨fs, F, o', m1, m2, m3, m4, m5⟩ := field_lay hl hv hf
        obtain ⟨b, len, cap, e, o2, h1, h2, h3, h4, h5, rfl⟩ := elem_inv h
        obtain ⟨k1, k2⟩ := sub_field hok h4 h5 (Ty.bare_same hb) hv hf m3
        refine ⟨_, run m1 m2 m5, _, rfl, b, len, cap, e, o2 + o', h1, h2, h3, k1, k2, ?_⟩
        rw [m4, Nat.add_assoc]
    · cases hr
  · rename_i u x
    split at hr
    · rename_i y hy
      split at hr
      · rename_i vt z hz
        cases hr
        obtain ⟨ad, c, rfl, h1, h2, h3⟩ := ref_inv h
        have h3' : Rel w G.im p y c := castBare_ok (p := p) hy h3
        obtain ⟨o, k1, k2, k3, k4⟩ := at_ok h3' hz
        obtain ⟨fs, F, o', m1, m2, m3, m4, m5⟩ := field_lay hl k2 hf
        rw [k1] at m3
        cases m3
        obtain ⟨bb, oo, sp⟩ := ad
        simp only at h1
        subst h1
        refine ⟨_, run m1 m2 m5, _, rfl, _, _, rfl, rfl, ?_, k4⟩
        rw [m4]
        have hlen : u.sz = p.sz := by rw [← h3.length, h3'.length]
        exact h2.sub (by rw [hlen]; omega)
      · cases hr
    · cases hr
  · cases hr

theorem asRef_ok (ho : ∀ k o, σ k = some o → ObjOK P fr w G k o) {s : SV} {v : Value} (h : SR P w G s v) : SR P w G (asRef σ s) v := by
  unfold asRef
  split
  · rename_i k p u
    split
    · rename_i t c hk
      split
      · rename_i x hx
        split
        · rename_i y hy
          obtain ⟨b, t', o, h1, h2, ⟨u0, h3, h3'⟩, rfl⟩ := ptr_inv h
          obtain ⟨b', cs, el, k1, k2, k3, k4, k5, k6, _⟩ := ho _ _ hk
          rw [h1] at k1
          cases k1
          obtain ⟨o', u1, m1, m2, m3, m4, m5⟩ := getAt_ok k4 k5 hx
          rw [h2] at m1
          cases m1
          have hrel := asC_ok ho hy m5
          have hlen := hrel.length
          have hl1 : ((cs.toList.drop o).take u1.sz).length = u1.sz := by
            rw [List.length_take, List.length_drop, Array.length_toList]; omega
          have hsz : u.sz = u1.sz := by rw [← hlen, hl1]
          refine ⟨_, rfl, ⟨b, o, none⟩, _, rfl, rfl, ⟨hlen, fun j hj => ⟨k6.2 rfl _ (by show o + j < _; omega), ?_⟩⟩, hrel⟩
          simp only [World.cell?, k2, Option.isSome_none, Bool.false_eq_true, if_false]
          rw [List.getElem?_take, if_pos (by omega), List.getElem?_drop, Array.getElem?_toList]
        · exact h
      · exact h
    · exact h
  · exact h

theorem opIndexAddr_ok {t : Ty} {id : Nat} (hl : Lay P t id) (ho : ∀ k o, σ k = some o → ObjOK P fr w G k o) {i : Int} {k : IntKind} {s : SV} {v : Value} {r : OpRes} {u : Upd}
    (hr : opIndexAddr σ t i s = some r) (hu : Gives r u) (h : SR P w G s v) :
    u.wr = [] ∧ ∃ z, (Instr.indexAt id v (.int k i)).run P w = .ok z w ∧ SR P w G u.sv z := by
  have runS : ∀ {e : Ty} {el : Nat}, P.underlying id = some (.slice el) → Lay P e el → ∀ {ad : Addr} {len cap : Nat}, 0 ≤ i → i.toNat < len →
      (Instr.indexAt id (.slice (some ad) len cap) (.int k i)).run P w = .ok (.pointer (some (ad.add (i.toNat * e.sz)))) w := by
    intro e el hun hle ad len cap h0 hlt
    obtain ⟨inf, hinf, hc⟩ := hle.cells
    simp only [Instr.indexAt, Sem.run_bind, asIntOf, Sem.run_pure, Result.andThen_ok, run_underlying hun]
    rw [if_pos ⟨h0, by omega⟩]
    simp only [Sem.run_bind, run_sizeOf w hinf, hc, Result.andThen_ok, Sem.run_pure]
  have refRun : ∀ {e : Ty} {xs : List e.T} {el : Nat}, P.underlying id = some (.slice el) → Lay P e el → VRel w G.im (.slice e) xs v → ∀ {u : Upd}, Gives (refL e xs i) u →
      u.wr = [] ∧ ∃ z, (Instr.indexAt id v (.int k i)).run P w = .ok z w ∧ SR P w G u.sv z := by
    intro e xs el hun hle hv u hu
    obtain ⟨y, hy, rfl⟩ := hu.may_inv
    obtain ⟨h1, h2, h3⟩ := at?_some hy
    obtain ⟨a, cap, rfl, k1, k2, k3⟩ := slice_inv hv
    cases a with
    | none => rw [(k2 rfl).1] at h2; simp at h2
    | some ad =>
      obtain ⟨q1, q2⟩ := k3 ad rfl
      obtain ⟨c, hc, hrel⟩ := q2 _ _ h3
      obtain ⟨bb, oo, sp⟩ := ad
      simp only at q1
      subst q1
      refine ⟨rfl, _, runS hun hle h1 h2, _, rfl, _, c, rfl, ?_, ?_, hrel⟩
      · rw [addr_add]
      · rw [addr_add]; exact hc
  unfold opIndexAddr at hr
  split at hr
  · rename_i e
    obtain ⟨el, hun, hle, _⟩ := hl.slice
    split at hr
    · rename_i k' g
      split at hr
      · rename_i el' e' xs g' wr hk
        cases hg : (Nat.beq g g' && e'.same e) with
        | false => rw [hg] at hr; cases hr
        | true =>
          rw [hg] at hr
          simp only [cond_true] at hr
          simp only [Bool.and_eq_true] at hg
          have hgg := Nat.eq_of_beq_eq_true hg.1
          have hee := Ty.same_eq hg.2
          subst hgg hee
          obtain ⟨hety, v', h1, h2⟩ := ho _ _ hk
          rw [obj_inv h] at h1
          cases h1
          cases wr with
          | false =>
            cases hr
            exact refRun hun hle ⟨_, rfl, sl_rel h2⟩ hu
          | true =>
            cases hr
            obtain ⟨y, hy, rfl⟩ := hu.may_inv
            obtain ⟨q1, q2⟩ := in?_some hy
            rcases h2 with ⟨rfl, rfl⟩ | ⟨b, cap, cs, rfl, _⟩
            · simp at q2
            · refine ⟨rfl, _, runS hun hle q1 q2, _, rfl, b, xs.length, cap, e', 0, obj_inv h, hety, q2, by cases e' <;> first | rfl | (rename_i t; cases t <;> rfl), ⟨e', by cases e' <;> first | rfl | (rename_i t; cases t <;> rfl), rfl⟩, ?_⟩
              rw [addr_add]; simp
      · cases hr
    · split at hr
      · rename_i xs hxs
        cases hr
        exact refRun hun hle (as_ok hxs h) hu
      · cases hr
  · rename_i n e
    obtain ⟨el, hun, hle, _, hn1⟩ := hl.arr
    obtain ⟨inf, hinf, hc⟩ := hle.cells
    have runA : ∀ {ad : Addr}, 0 ≤ i → i.toNat < n → (Instr.indexAt id (.pointer (some ad)) (.int k i)).run P w = .ok (.pointer (some (ad.add (i.toNat * e.sz)))) w := by
      intro ad h0 hlt
      simp only [Instr.indexAt, Sem.run_bind, asIntOf, Sem.run_pure, Result.andThen_ok, run_underlying hun, Instr.sureAddr]
      rw [if_pos ⟨h0, by omega⟩]
      simp only [Sem.run_bind, run_sizeOf w hinf, hc, Result.andThen_ok, Sem.run_pure]
    replace h := asRef_ok ho h
    generalize asRef σ s = s at hr h
    split at hr
    · rename_i k' p u'
      cases hg : u'.same (.arr n e) with
      | false => rw [hg] at hr; cases hr
      | true =>
        rw [hg] at hr
        cases hr
        have := Ty.same_eq hg
        subst this
        obtain ⟨y, hy, rfl⟩ := hu.may_inv
        obtain ⟨q1, q2⟩ := in?_some hy
        obtain ⟨b, t, o, h1, h2, h3, rfl⟩ := ptr_inv h
        refine ⟨rfl, _, runA q1 q2, _, rfl, b, t, o, n, e, 0, h1, h2, h3, q2, by cases e <;> first | rfl | (rename_i t; cases t <;> rfl), ⟨e, by cases e <;> first | rfl | (rename_i t; cases t <;> rfl), rfl⟩, ?_⟩
        rw [addr_add]; simp
    · rename_i u' x
      split at hr
      · rename_i xs hxs
        cases hr
        obtain ⟨y, hy, rfl⟩ := hu.may_inv
        obtain ⟨h1, h2, h3⟩ := at?_some hy
        obtain ⟨ad, c, rfl, k1, k2, k3⟩ := ref_inv h
        have hsz : u'.sz = (Ty.arr n e).sz := by obtain ⟨ee, _⟩ := Ty.cast?_some hxs; rw [ee]
        have k3' := Rel.cast hxs k3
        obtain ⟨m1, m2, m3⟩ := k3'
        obtain ⟨bb, oo, sp⟩ := ad
        simp only at k1
        subst k1
        have hin : i.toNat < n := by rw [← m1]; exact h2
        have hmul : (i.toNat + 1) * e.sz ≤ n * e.sz := Nat.mul_le_mul_right _ hin
        rw [Nat.succ_mul] at hmul
        refine ⟨rfl, _, runA h1 hin, _, rfl, _, _, rfl, ?_, ?_, m3 _ _ h3⟩
        · rw [addr_add]
        · rw [addr_add]; exact k2.sub (by rw [hsz]; show i.toNat * e.sz + e.sz ≤ n * e.sz; omega)
      · cases hr
    · cases hr
  · cases hr
end
end Go.Ev
