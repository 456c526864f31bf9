/-
  Maps.
-/
import Derived.Test.YtncjpbogjfibfaaGreatDoorEvM9
set_option linter.unusedVariables false
set_option linter.unusedSimpArgs false
namespace Go.Ev
open Go.MapKept

section
variable {P : Program} {fr : Fr} {free free' : Nat → Prop} {self : Nat} {σ σ' : Nat → Option Obj} {w w' : World} {G G' : Gh} {I : Im}

theorem str_beq (a b : Str) : ((⟨a.toArray⟩ : ByteArray) == ⟨b.toArray⟩) = eqS a b := by
  rw [Bool.eq_iff_iff, bytes_beq]
  simp [eqS]

/-- A key: its kind, its value. -/
structure KeyAt (P : Program) (w : World) (I : Im) (t : Ty) (eq : t.T → t.T → Bool) (d : TypeDesc) : Prop where
  key : ∀ x v, VRel w I t x v → IsKey d v
  same : ∀ x v y u, VRel w I t x v → VRel w I t y u → Instr.sameNow d v u = some (eq x y) ∧ (eq x y = true → Instr.sameBits 10000 u v = true)

theorem same_bool (x y : Bool) : Instr.sameNow .bool (.bool x) (.bool y) = some (eqB x y) ∧ (eqB x y = true → Instr.sameBits 10000 (.bool y) (.bool x) = true) := by
  refine ⟨rfl, fun h => ?_⟩
  have : x = y := by simpa [eqB] using h
  subst this
  simp [Instr.sameBits]
theorem same_int (k : IntKind) (x y : Int) : Instr.sameNow (.int k) (.int k x) (.int k y) = some (eqI x y) ∧ (eqI x y = true → Instr.sameBits 10000 (.int k y) (.int k x) = true) := by
  refine ⟨by simp [Instr.sameNow, eqI], fun h => ?_⟩
  have : x = y := by simpa [eqI] using h
  subst this
  simp [Instr.sameBits]
theorem same_str (x y : Str) : Instr.sameNow .string (.string ⟨x.toArray⟩) (.string ⟨y.toArray⟩) = some (eqS x y) ∧ (eqS x y = true → Instr.sameBits 10000 (.string ⟨y.toArray⟩) (.string ⟨x.toArray⟩) = true) := by
  refine ⟨by simp only [Instr.sameNow]; rw [str_beq], fun h => ?_⟩
  have : x = y := by simpa [eqS] using h
  subst this
  simp only [Instr.sameBits]; rw [bytes_beq]

theorem key_ok {t : Ty} {id : Nat} (hl : Lay P t id) {eq : t.T → t.T → Bool} (h : keyEq t = some eq) : ∃ d, P.underlying id = some d ∧ KeyAt P w I t eq d := by
  cases t <;> simp only [keyEq] at h <;> first | (cases h; done) | skip
  · have h := Option.some.inj h
    subst h
    refine ⟨_, hl.bool, ⟨fun x v hv => ?_, fun x v y u hv hu => ?_⟩⟩
    · rw [SR.bool (P := P) (G := ⟨I, fun _ _ => none, fun _ => none, fun _ => none⟩) hv]; trivial
    · rw [SR.bool (P := P) (G := ⟨I, fun _ _ => none, fun _ => none, fun _ => none⟩) hv, SR.bool (P := P) (G := ⟨I, fun _ _ => none, fun _ => none, fun _ => none⟩) hu]
      exact same_bool x y
  · rename_i k
    have h := Option.some.inj h
    subst h
    refine ⟨_, hl.int, ⟨fun x v hv => ?_, fun x v y u hv hu => ?_⟩⟩
    · rw [(SR.int (P := P) (G := ⟨I, fun _ _ => none, fun _ => none, fun _ => none⟩) hv).1]; rfl
    · rw [(SR.int (P := P) (G := ⟨I, fun _ _ => none, fun _ => none, fun _ => none⟩) hv).1, (SR.int (P := P) (G := ⟨I, fun _ _ => none, fun _ => none, fun _ => none⟩) hu).1]
      exact same_int k x y
  · have h := Option.some.inj h
    subst h
    refine ⟨_, hl.str, ⟨fun x v hv => ?_, fun x v y u hv hu => ?_⟩⟩
    · rw [(SR.str (P := P) (G := ⟨I, fun _ _ => none, fun _ => none, fun _ => none⟩) hv).1]; trivial
    · rw [(SR.str (P := P) (G := ⟨I, fun _ _ => none, fun _ => none, fun _ => none⟩) hv).1, (SR.str (P := P) (G := ⟨I, fun _ _ => none, fun _ => none, fun _ => none⟩) hu).1]
      exact same_str x y

/-- The entries of a map, as its data say. -/
def EntsOK (w : World) (I : Im) (k v : Ty) (es : List (k.T × v.T)) (ents : List MapEntry) : Prop :=
  ents.length = es.length ∧ ∀ (i : Nat) (x : k.T × v.T) (e : MapEntry), es[i]? = some x → ents[i]? = some e → VRel w I k x.1 e.key ∧ VRel w I v x.2 e.val

theorem find_ok {k v : Ty} {eq : k.T → k.T → Bool} {d : TypeDesc} (hk : KeyAt P w I k eq d) {x : k.T} {vx : Value} (hx : VRel w I k x vx) : ∀ (es : List (k.T × v.T)) (ents : List MapEntry) (i : Nat), EntsOK w I k v es ents →
    (Instr.findNow d vx ents i = some none ∧ findKV eq x es = none ∧ ∀ z, putKV eq x z es = es ++ [(x, z)]) ∨
    (∃ j e y, Instr.findNow d vx ents i = some (some (i + j, e.val)) ∧ ents[j]? = some e ∧ findKV eq x es = some y ∧ VRel w I v y e.val ∧ Instr.sameBits 10000 e.key vx = true ∧ j < es.length ∧ ∀ z, putKV eq x z es = es.set j (x, z)) := by
  intro es
  induction es with
  | nil =>
    intro ents i h
    have : ents = [] := List.eq_nil_of_length_eq_zero h.1
    subst this
    exact .inl ⟨rfl, rfl, fun z => rfl⟩
  | cons q es ih =>
    intro ents i h
    cases ents with
    | nil => cases h.1
    | cons e ents =>
      obtain ⟨h1, h2⟩ := h.2 0 q e rfl rfl
      obtain ⟨s1, s2⟩ := hk.same _ _ _ _ hx h1
      cases hq : eq x q.1 with
      | true =>
        rw [hq] at s1
        refine .inr ⟨0, e, q.2, by simp [Instr.findNow, s1], rfl, by simp [findKV, hq], h2, s2 hq, by simp, fun z => by simp [putKV, hq]⟩
      | false =>
        rw [hq] at s1
        rcases ih ents (i + 1) ⟨by simpa using h.1, fun j y e h1 h2 => h.2 (j + 1) y e (by simpa using h1) (by simpa using h2)⟩ with ⟨a1, a2, a3⟩ | ⟨j, e', y, a1, a2, a3, a4, a5, a6, a7⟩
        · exact .inl ⟨by simp [Instr.findNow, s1, a1], by simp [findKV, hq, a2], fun z => by simp [putKV, hq, a3]⟩
        · exact .inr ⟨j + 1, e', y, by simp [Instr.findNow, s1, a1]; omega, by simpa using a2, by simp [findKV, hq, a3], a4, a5, by simp; omega, fun z => by simp [putKV, hq, a7]⟩

theorem lookKV_ok {k v : Ty} {id : Nat} (hl : Lay P (.map k v) id) {ok : Bool} {s : SV} {vk vm : Value} {es : List (k.T × v.T)} {r : OpRes} {u : Upd} {ents : Array MapEntry}
    (hr : lookKV k v ok s es = some r) (hu : Gives r u) (hs : SR P w G s vk) (he : EntsOK w G.im k v es ents.toList)
    (hm : (vm = .map none ∧ ents = #[]) ∨ ∃ b clock, vm = .map (some b) ∧ w.heap[b]? = some (.map ents clock)) :
    u.wr = [] ∧ ∃ z, (Instr.lookup id vm vk ok).run P w = .ok z w ∧ SR P w G u.sv z := by
  obtain ⟨ka, va, hun, hlk, hlv⟩ := hl.map
  unfold lookKV at hr
  split at hr
  · rename_i eq x heq hx
    cases hr
    rw [hu.v_inv]
    have hxv : VRel w G.im k x vk := as_ok hx hs
    obtain ⟨d, hd, hkey⟩ := key_ok (P := P) (w := w) (I := G.im) hlk heq
    have hck := run_checkKey (P := P) (w := w) hd (hkey.key _ _ hxv) ents.isEmpty 9999
    obtain ⟨zv, hz, hzr⟩ := zeroValue_ok (P := P) (w := w) (G := G) hlv
    have hrun : ∀ a : Option (Nat × Value), (Instr.findKey ka vk ents.toList).run P w = .ok a w →
        (Instr.lookup id vm vk ok).run P w = .ok (match a with | some p => if ok then .tuple #[p.2, .bool true] else p.2 | none => if ok then .tuple #[zv, .bool false] else zv) w := by
      intro a ha
      rcases hm with ⟨rfl, rfl⟩ | ⟨b, clock, rfl, hb⟩
      · cases a with
        | none => simp [Instr.lookup, run_underlying hun] at hck ha ⊢; simp [hck, ha, hz]
        | some p => simp [Instr.lookup, run_underlying hun] at hck ha ⊢; simp [hck, ha]
      · cases a with
        | none => simp [Instr.lookup, run_underlying hun, run_getObj_map hb, hck, ha, hz]
        | some p => simp [Instr.lookup, run_underlying hun, run_getObj_map hb, hck, ha]
    refine ⟨rfl, ?_⟩
    rcases find_ok (P := P) hkey hxv es ents.toList 0 he with ⟨a1, a2, _⟩ | ⟨j, e, y, a1, a2, a3, a4, _⟩
    · have hf := hrun _ (run_findKey (P := P) (w := w) hd a1)
      rw [hf, a2]
      cases ok with
      | true =>
        refine ⟨_, rfl, _, rfl, _, rfl, _, _, rfl, hzr, _, _, rfl, ?_, rfl⟩
        exact ⟨_, rfl, rfl⟩
      | false => exact ⟨_, rfl, hzr⟩
    · have hf := hrun _ (run_findKey (P := P) (w := w) hd a1)
      rw [hf, a3]
      cases ok with
      | true =>
        refine ⟨_, rfl, _, rfl, _, rfl, _, _, rfl, a4, _, _, rfl, ?_, rfl⟩
        exact ⟨_, rfl, rfl⟩
      | false => exact ⟨_, rfl, a4⟩
  · cases hr

theorem map_val {k v : Ty} {es : List (k.T × v.T)} {cv : Value} (h : VRel w I (.map k v) es cv) :
    ∃ ents : Array MapEntry, EntsOK w I k v es ents.toList ∧ ((cv = .map none ∧ ents = #[]) ∨ ∃ b clock, cv = .map (some b) ∧ w.heap[b]? = some (.map ents clock)) := by
  obtain ⟨c, hc, r, rfl, hnil, hb⟩ := h
  have hcv : cv = .map r := by
    have : [Value.map r] = [cv] := hc
    exact (List.singleton_inj.1 this).symm
  subst hcv
  cases r with
  | none =>
    have : es = [] := hnil rfl
    subst this
    exact ⟨#[], ⟨rfl, fun i x e h => by simp at h⟩, .inl ⟨rfl, rfl⟩⟩
  | some b =>
    obtain ⟨_, ents, clock, h1, h2, h3⟩ := hb b rfl
    exact ⟨ents, ⟨by simpa using h2, fun i x e hx he => h3 i x e hx (by rw [← Array.getElem?_toList]; exact he)⟩, .inr ⟨b, clock, rfl, h1⟩⟩

theorem opLookup_ok {t : Ty} {id : Nat} (hl : Lay P t id) (ho : ∀ k o, σ k = some o → ObjOK P fr w G k o) {ok : Bool} {m s : SV} {vm vk : Value} {r : OpRes} {u : Upd}
    (hr : opLookup σ t ok m s = some r) (hu : Gives r u) (hm : SR P w G m vm) (hs : SR P w G s vk) :
    u.wr = [] ∧ ∃ z, (Instr.lookup id vm vk ok).run P w = .ok z w ∧ SR P w G u.sv z := by
  unfold opLookup at hr
  split at hr
  · rename_i k v
    split at hr
    · rename_i q es
      split at hr
      · rename_i es' hes
        obtain ⟨ents, e1, e2⟩ := map_val (VRel.cast hes hm)
        exact lookKV_ok hl hr hu hs e1 e2
      · cases hr
    · rename_i j g
      split at hr
      · rename_i k' v' es wr hk
        cases hb : (Nat.beq g 0 && (k'.same k && v'.same v)) with
        | false => rw [hb] at hr; cases hr
        | true =>
          rw [hb] at hr
          simp only [cond_true] at hr
          simp only [Bool.and_eq_true] at hb
          have hg := Nat.eq_of_beq_eq_true hb.1
          have e1 := Ty.same_eq hb.2.1
          have e2 := Ty.same_eq hb.2.2
          subst hg e1 e2
          obtain ⟨cv, q1, b, ents, clock, rfl, q2, q3, q4, _⟩ := ho _ _ hk
          obtain ⟨c, hc, v2, k3, _, k5⟩ := hm
          have hv2 : v2 = vm := by
            have : [vm] = [v2] := (show c = [vm] from hc).symm.trans k5
            exact (List.singleton_inj.1 this).symm
          subst hv2
          rw [q1] at k3
          cases k3
          exact lookKV_ok hl hr hu hs ⟨by simpa using q3, fun i x e hx he => q4 i x e hx (by rw [← Array.getElem?_toList]; exact he)⟩ (.inr ⟨b, clock, rfl, q2⟩)
      · cases hr
    · cases hr
  · cases hr

end
end Go.Ev
