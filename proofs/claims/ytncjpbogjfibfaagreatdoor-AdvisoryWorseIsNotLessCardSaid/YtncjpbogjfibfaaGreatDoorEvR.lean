/-
  WHAT A DATUM IS IN MEMORY: the relation between data and the model's values.
-/
import Derived.Test.YtncjpbogjfibfaaGreatDoorEvC
import Derived.Calls
import Derived.Laws.World
import Derived.Laws.Sem
set_option linter.unusedVariables false
set_option linter.unusedSimpArgs false
namespace Go.Ev

/-- Memory that no more turns: cells, and maps. -/
structure Im where
  cell : Nat → Nat → Prop
  obj : Nat → Prop

/-- n cells that no more turn, from a place on, hold cs. -/
structure Row (w : World) (I : Im) (b o n : Nat) (cs : List Value) : Prop where
  len : cs.length = n
  at_ : ∀ j, j < n → I.cell b (o + j) ∧ w.cell? ⟨b, o + j, none⟩ = cs[j]?

/-- The cells of a value of a type. -/
def asCells (t : Ty) (v : Value) (cs : List Value) : Prop := match t with
  | .agg _ => v = .agg cs.toArray
  | .arr _ _ => v = .agg cs.toArray
  | _ => cs = [v]

def inKind (k : IntKind) (n : Int) : Prop := k.min ≤ n ∧ n ≤ k.max

/-- A length that can be. -/
def LenOK (n cap : Nat) : Prop := n ≤ cap ∧ n ≤ 281474976710656

/-- The cells hold the datum. -/
def Rel (w : World) (I : Im) : (t : Ty) → t.T → List Value → Prop
  | .unit, _, cs => cs = []
  | .bool, x, cs => cs = [.bool x]
  | .int k, n, cs => cs = [.int k n] ∧ inKind k n
  | .str, s, cs => cs = [.string ⟨s.toArray⟩] ∧ (show List UInt8 from s).length ≤ 281474976710656
  | .slice e, xs, cs => ∃ a cap, cs = [.slice a (show List e.T from xs).length cap] ∧ LenOK (show List e.T from xs).length cap ∧
      (a = none → (show List e.T from xs) = [] ∧ cap = 0) ∧
      ∀ ad, a = some ad → ad.spot = none ∧ ∀ i x, (show List e.T from xs)[i]? = some x → ∃ c, Row w I ad.block (ad.off + i * e.sz) e.sz c ∧ Rel w I e x c
  | .agg t, x, cs => Rel w I t x cs
  | .prod a b, x, cs => ∃ c d, cs = c ++ d ∧ Rel w I a x.1 c ∧ Rel w I b x.2 d
  | .arr n e, xs, cs => (show List e.T from xs).length = n ∧ cs.length = n * e.sz ∧
      ∀ i x, (show List e.T from xs)[i]? = some x → Rel w I e x ((cs.drop (i * e.sz)).take e.sz)
  | .ptr e, x, cs => match (show Option e.T from x) with
    | none => cs = [.pointer none]
    | some y => ∃ ad, cs = [.pointer (some ad)] ∧ ad.spot = none ∧ ∃ c, Row w I ad.block ad.off e.sz c ∧ Rel w I e y c
  | .map k v, es, cs => ∃ r, cs = [.map r] ∧ (r = none → (show List (k.T × v.T) from es) = []) ∧
      ∀ b, r = some b → I.obj b ∧ ∃ ents clock, w.heap[b]? = some (.map ents clock) ∧ ents.size = (show List (k.T × v.T) from es).length ∧
        ∀ (i : Nat) (x : k.T × v.T) (e : MapEntry), (show List (k.T × v.T) from es)[i]? = some x → ents[i]? = some e →
          (∃ c, asCells k e.key c ∧ Rel w I k x.1 c) ∧ (∃ c, asCells v e.val c ∧ Rel w I v x.2 c)
  | .inil, _, cs => cs = [.nilIface]
  | .ialt id t r, x, cs => match (show Sum t.T r.T from x) with
    | .inl y => ∃ v c, cs = [.iface id v] ∧ asCells t v c ∧ Rel w I t y c
    | .inr z => cs.length = 1 ∧ Rel w I r z cs

/-- A value holds the datum. -/
def VRel (w : World) (I : Im) (t : Ty) (x : t.T) (v : Value) : Prop := ∃ c, asCells t v c ∧ Rel w I t x c

/-- What no more turns has not turned. -/
structure Ext (w : World) (I : Im) (w' : World) (I' : Im) : Prop where
  cell : ∀ b o, I.cell b o → I'.cell b o ∧ w'.cell? ⟨b, o, none⟩ = w.cell? ⟨b, o, none⟩
  obj : ∀ b, I.obj b → I'.obj b ∧ w'.heap[b]? = w.heap[b]?

theorem Ext.refl (w : World) (I : Im) : Ext w I w I := ⟨fun _ _ h => ⟨h, rfl⟩, fun _ h => ⟨h, rfl⟩⟩
theorem Ext.trans {w w' w'' : World} {I I' I'' : Im} (h : Ext w I w' I') (k : Ext w' I' w'' I'') : Ext w I w'' I'' :=
  ⟨fun b o hb => ⟨(k.cell b o (h.cell b o hb).1).1, (k.cell b o (h.cell b o hb).1).2.trans (h.cell b o hb).2⟩,
   fun b hb => ⟨(k.obj b (h.obj b hb).1).1, (k.obj b (h.obj b hb).1).2.trans (h.obj b hb).2⟩⟩

section
variable {w w' : World} {I I' : Im}

theorem Row.ext {b o n : Nat} {cs : List Value} (h : Row w I b o n cs) (e : Ext w I w' I') : Row w' I' b o n cs :=
  ⟨h.len, fun j hj => ⟨(e.cell _ _ (h.at_ j hj).1).1, (e.cell _ _ (h.at_ j hj).1).2.trans (h.at_ j hj).2⟩⟩

theorem Rel.ext (e : Ext w I w' I') : ∀ {t : Ty} {x : t.T} {cs : List Value}, Rel w I t x cs → Rel w' I' t x cs := by
  intro t
  induction t with
  | unit => intro x cs h; exact h
  | bool => intro x cs h; exact h
  | int k => intro x cs h; exact h
  | str => intro x cs h; exact h
  | slice s ih =>
    intro x cs h
    obtain ⟨a, cap, h1, h2, h3, h4⟩ := h
    refine ⟨a, cap, h1, h2, h3, fun ad had => ⟨(h4 ad had).1, fun i y hy => ?_⟩⟩
    obtain ⟨c, hc, hr⟩ := (h4 ad had).2 i y hy
    exact ⟨c, hc.ext e, ih hr⟩
  | agg s ih => intro x cs h; exact ih (show Rel w I s x cs from h)
  | prod a b iha ihb =>
    intro x cs h
    obtain ⟨c, d, h1, h2, h3⟩ := h
    exact ⟨c, d, h1, iha h2, ihb h3⟩
  | arr n s ih =>
    intro x cs h
    obtain ⟨h1, h2, h3⟩ := h
    exact ⟨h1, h2, fun i y hy => ih (h3 i y hy)⟩
  | ptr s ih =>
    intro x cs h
    cases x with
    | none => exact h
    | some y =>
      obtain ⟨ad, h1, h2, c, h3, h4⟩ := h
      exact ⟨ad, h1, h2, c, h3.ext e, ih h4⟩
  | map k v ihk ihv =>
    intro x cs h
    obtain ⟨r, h1, h2, h3⟩ := h
    refine ⟨r, h1, h2, fun b hb => ?_⟩
    obtain ⟨hi, ents, clock, h4, h5, h6⟩ := h3 b hb
    refine ⟨(e.obj b hi).1, ents, clock, (e.obj b hi).2.trans h4, h5, fun i y en hy hen => ?_⟩
    obtain ⟨⟨c, hc, hr⟩, ⟨d, hd, hs⟩⟩ := h6 i y en hy hen
    exact ⟨⟨c, hc, ihk hr⟩, ⟨d, hd, ihv hs⟩⟩
  | inil => intro x cs h; exact h
  | ialt id t r iht ihr =>
    intro x cs h
    cases x with
    | inl y =>
      obtain ⟨v, c, h1, h2, h3⟩ := h
      exact ⟨v, c, h1, h2, iht h3⟩
    | inr z => exact ⟨h.1, ihr h.2⟩

theorem VRel.ext {t : Ty} {x : t.T} {v : Value} (h : VRel w I t x v) (e : Ext w I w' I') : VRel w' I' t x v :=
  let ⟨c, h1, h2⟩ := h; ⟨c, h1, h2.ext e⟩

theorem Rel.length : ∀ {t : Ty} {x : t.T} {cs : List Value}, Rel w I t x cs → cs.length = t.sz := by
  intro t
  induction t with
  | unit => intro x cs h; rw [show cs = [] from h]; rfl
  | bool => intro x cs h; rw [show cs = [.bool x] from h]; rfl
  | int k => intro x cs h; rw [show cs = _ from h.1]; rfl
  | str => intro x cs h; rw [show cs = _ from h.1]; rfl
  | slice s ih => intro x cs h; obtain ⟨a, cap, h1, _⟩ := h; rw [h1]; rfl
  | agg s ih => intro x cs h; exact ih (show Rel w I s x cs from h)
  | prod a b iha ihb =>
    intro x cs h
    obtain ⟨c, d, h1, h2, h3⟩ := h
    rw [h1, List.length_append, iha h2, ihb h3]; rfl
  | arr n s ih => intro x cs h; exact h.2.1
  | ptr s ih =>
    intro x cs h
    cases x with
    | none => rw [show cs = _ from h]; rfl
    | some y => obtain ⟨ad, h1, _⟩ := h; rw [h1]; rfl
  | map k v ihk ihv => intro x cs h; obtain ⟨r, h1, _⟩ := h; rw [h1]; rfl
  | inil => intro x cs h; rw [show cs = _ from h]; rfl
  | ialt id t r iht ihr =>
    intro x cs h
    cases x with
    | inl y => obtain ⟨v, c, h1, _⟩ := h; rw [h1]; rfl
    | inr z => exact h.1
end

end Go.Ev
