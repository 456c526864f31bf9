/-
  THE LAYOUT OF TYPES: what the program's table of types says of a type of the evaluator.
-/
import Derived.Test.YtncjpbogjfibfaaGreatDoorEvP
import Derived.Laws.Entries
set_option linter.unusedVariables false
set_option linter.unusedSimpArgs false
namespace Go.Ev

/-- Cells that are zero: what is left behind them. -/
def zc : Ty → List Value → Option (List Value)
  | .unit, l => some l
  | .bool, l => match l with | .bool false :: r => some r | _ => none
  | .int k, l => match l with | .int k' n :: r => if sameKind k k' && n == 0 then some r else none | _ => none
  | .str, l => match l with | .string s :: r => if s.data.toList.length == 0 then some r else none | _ => none
  | .slice _, l => match l with | .slice none 0 0 :: r => some r | _ => none
  | .agg t, l => zc t l
  | .prod a b, l => match zc a l with | some r => zc b r | none => none
  | .arr n e, l => Nat.rec (motive := fun _ => List Value → Option (List Value)) some (fun _ ih l => match zc e l with | some r => ih r | none => none) n l
  | .ptr _, l => match l with | .pointer none :: r => some r | _ => none
  | .map _ _, l => match l with | .map none :: r => some r | _ => none
  | .inil, l => match l with | .nilIface :: r => some r | _ => none
  | .ialt _ _ q, l => if q.isIface = true then (match l with | .nilIface :: r => some r | _ => none) else none

def zv1 (t : Ty) (l : List Value) : Bool := match zc t l with
  | some [] => true
  | _ => false

def zv (t : Ty) (v : Value) : Bool := match t with
  | .agg t => match v with | .agg cs => zv1 t cs.toList | _ => false
  | .arr n e => match v with | .agg cs => zv1 (.arr n e) cs.toList | _ => false
  | t => match v with | .agg _ => false | v => zv1 t [v]

def infB (P : Program) (t : Ty) (id : Nat) : Bool := match P.info? id with
  | some i => Nat.beq i.size t.sz && (Nat.ble i.bytes (24 * t.sz) && (match i.zero with | some v => zv t v | none => false))
  | none => false

/-- As a type of the table; as a struct's fields. -/
def layB (P : Program) : Ty → (Nat → Bool) × (List Field → Nat → Bool)
  | .prod a b => (fun _ => false, fun l off => match l with
    | f :: r => Nat.beq f.offset off && ((layB P a).1 f.type && ((layB P b).2 r (off + a.sz) && Nat.blt 0 b.fields))
    | [] => false)
  | .unit => (fun _ => false, fun l _ => match l with | [] => true | _ => false)
  | .bool => one .bool fun d => match d with | .bool => true | _ => false
  | .int k => one (.int k) fun d => match d with | .int k' => sameKind k k' | _ => false
  | .str => one .str fun d => match d with | .string => true | _ => false
  | .slice e => one (.slice e) fun d => match d with | .slice el => (layB P e).1 el && Nat.blt 0 e.sz | _ => false
  | .agg p => one (.agg p) fun d => match d with | .struct fs => (layB P p).2 fs.toList 0 && Nat.blt 0 p.sz | _ => false
  | .arr n e => one (.arr n e) fun d => match d with | .array m el => Nat.beq n m && ((layB P e).1 el && (Nat.blt 0 e.sz && Nat.blt 1 n)) | _ => false
  | .ptr e => one (.ptr e) fun d => match d with | .pointer el => (layB P e).1 el | _ => false
  | .map k v => one (.map k v) fun d => match d with | .map a b => (layB P k).1 a && (layB P v).1 b | _ => false
  | .inil => one .inil fun d => match d with | .interface _ => true | _ => false
  | .ialt i t r => one (.ialt i t r) fun d => match d with | .interface _ => (Ty.isIface (.ialt i t r)) | _ => false
  where
  one (t : Ty) (c : TypeDesc → Bool) : (Nat → Bool) × (List Field → Nat → Bool) :=
    let base := fun id => infB P t id && (match P.underlying id with | some d => c d | none => false)
    (base, fun l off => match l with | [f] => Nat.beq f.offset off && base f.type | _ => false)

def Lay (P : Program) (t : Ty) (id : Nat) : Prop := (layB P t).1 id = true

section
variable {P : Program} {w : World} {I : Im}

theorem inKind_zero (k : IntKind) : inKind k 0 := by cases k <;> exact ⟨by decide, by decide⟩

theorem zc_ok : ∀ {t : Ty} {l r : List Value}, zc t l = some r → ∃ c, l = c ++ r ∧ Rel w I t t.dflt c := by
  intro t
  induction t with
  | unit => intro l r h; exact ⟨[], by simpa [zc] using h, rfl⟩
  | bool =>
    intro l r h
    simp only [zc] at h
    split at h
    · cases h; exact ⟨[_], rfl, rfl⟩
    · cases h
  | int k =>
    intro l r h
    simp only [zc] at h
    split at h
    · split at h
      · rename_i hc
        cases h
        simp only [Bool.and_eq_true, beq_iff_eq] at hc
        have := sameKind_eq hc.1
        subst this
        exact ⟨[_], rfl, by rw [hc.2]; rfl, inKind_zero k⟩
      · cases h
    · cases h
  | str =>
    intro l r h
    simp only [zc] at h
    split at h
    · rename_i s r'
      split at h
      · rename_i hc
        cases h
        have h0 : s.data = #[] := by
          have := beq_iff_eq.1 hc
          rw [List.length_eq_zero_iff] at this
          exact Array.toList_eq_nil_iff.1 this
        have hs : s = ⟨#[]⟩ := by cases s; simp only at h0; rw [h0]
        exact ⟨[_], rfl, by rw [hs]; rfl, by simp [Ty.dflt]⟩
      · cases h
    · cases h
  | slice e ih =>
    intro l r h
    simp only [zc] at h
    split at h
    · cases h; exact ⟨[_], rfl, none, 0, rfl, ⟨Nat.le_refl _, Nat.zero_le _⟩, fun _ => ⟨rfl, rfl⟩, fun ad h => by cases h⟩
    · cases h
  | agg t ih => intro l r h; exact ih h
  | prod a b iha ihb =>
    intro l r h
    simp only [zc] at h
    split at h
    · rename_i q hq
      obtain ⟨c, h1, h2⟩ := iha hq
      obtain ⟨d, h3, h4⟩ := ihb h
      exact ⟨c ++ d, by rw [h1, h3, List.append_assoc], c, d, rfl, h2, h4⟩
    · cases h
  | arr n e ih =>
    have key : ∀ (n : Nat) (l r : List Value), Nat.rec (motive := fun _ => List Value → Option (List Value)) some (fun _ ih l => match zc e l with | some r => ih r | none => none) n l = some r →
        ∃ c, l = c ++ r ∧ Rel w I (.arr n e) (List.replicate n e.dflt) c := by
      intro n
      induction n with
      | zero => intro l r h; cases h; exact ⟨[], rfl, rfl, by simp, fun i x hx => by simp at hx⟩
      | succ n ihn =>
        intro l r h
        simp only at h
        split at h
        · rename_i q hq
          obtain ⟨c, h1, h2⟩ := ih hq
          obtain ⟨d, h3, h4⟩ := ihn _ _ h
          refine ⟨c ++ d, by rw [h1, h3, List.append_assoc], by simp, ?_, fun i x hx => ?_⟩
          · rw [List.length_append, h2.length, h4.2.1, Nat.succ_mul, Nat.add_comm]
          · cases i with
            | zero =>
              simp [List.replicate_succ] at hx
              subst hx
              rw [Nat.zero_mul, List.drop_zero, List.take_append_of_le_length (by rw [h2.length]; omega), List.take_of_length_le (by rw [h2.length]; omega)]
              exact h2
            | succ i =>
              have hx' : (List.replicate n e.dflt)[i]? = some x := by simpa [List.replicate_succ] using hx
              have := h4.2.2 i x hx'
              have hsz : (i + 1) * e.sz = c.length + i * e.sz := by rw [h2.length, Nat.succ_mul, Nat.add_comm]
              rw [hsz, take_drop_right]
              exact this
        · cases h
    intro l r h
    exact key n l r h
  | ptr e ih =>
    intro l r h
    simp only [zc] at h
    split at h
    · cases h; exact ⟨[_], rfl, rfl⟩
    · cases h
  | map k v ihk ihv =>
    intro l r h
    simp only [zc] at h
    split at h
    · cases h; exact ⟨[_], rfl, none, rfl, fun _ => rfl, fun b h => by cases h⟩
    · cases h
  | inil =>
    intro l r h
    simp only [zc] at h
    split at h
    · cases h; exact ⟨[_], rfl, rfl⟩
    · cases h
  | ialt i t q iht ihq =>
    intro l r h
    simp only [zc] at h
    split at h
    · rename_i hi
      split at h
      · cases h; exact ⟨[_], rfl, Rel.iface_dflt (t := .ialt i t q) hi⟩
      · cases h
    · cases h

theorem Value.cells_of_not_agg {v : Value} (h : ∀ cs, v ≠ .agg cs) : v.cells = #[v] := by
  cases v <;> first | rfl | exact absurd rfl (h _)

theorem zv_ok {t : Ty} {v : Value} (h : zv t v = true) : VRel w I t t.dflt v ∧ Rel w I t t.dflt v.cells.toList := by
  have ag : ∀ {t : Ty} {l : List Value}, zv1 t l = true → Rel w I t t.dflt l := by
    intro t l h
    unfold zv1 at h
    split at h
    · rename_i hz
      obtain ⟨c, h1, h2⟩ := zc_ok (w := w) (I := I) hz
      rw [List.append_nil] at h1
      rw [h1]; exact h2
    · cases h
  cases t with
  | agg t =>
    simp only [zv] at h
    split at h
    · rename_i cs
      have := ag h
      exact ⟨⟨_, by simp [asCells], this⟩, this⟩
    · cases h
  | arr n e =>
    simp only [zv] at h
    split at h
    · rename_i cs
      have := ag h
      exact ⟨⟨_, by simp [asCells], this⟩, this⟩
    · cases h
  | _ =>
    simp only [zv] at h
    split at h
    · cases h
    · rename_i hv
      have h1 := ag h
      exact ⟨⟨_, rfl, h1⟩, by rw [Value.cells_of_not_agg hv]; exact h1⟩

theorem inf_ok {t : Ty} {id : Nat} (h : infB P t id = true) :
    ∃ i v, P.info? id = some i ∧ i.size = t.sz ∧ i.bytes ≤ 24 * t.sz ∧ i.zero = some v ∧ zv t v = true := by
  unfold infB at h
  split at h
  · rename_i i hi
    simp only [Bool.and_eq_true] at h
    obtain ⟨h1, h2, h3⟩ := h
    split at h3
    · rename_i v hv
      exact ⟨i, v, hi, Nat.eq_of_beq_eq_true h1, Nat.le_of_ble_eq_true h2, hv, h3⟩
    · cases h3
  · cases h

theorem lay_one {t : Ty} {c : TypeDesc → Bool} {id : Nat} (h : (layB.one P t c).1 id = true) : infB P t id = true ∧ ∃ d, P.underlying id = some d ∧ c d = true := by
  simp only [layB.one, Bool.and_eq_true] at h
  refine ⟨h.1, ?_⟩
  have h2 := h.2
  split at h2
  · rename_i d hd; exact ⟨d, hd, h2⟩
  · cases h2

theorem Lay.inf {t : Ty} {id : Nat} (h : Lay P t id) : infB P t id = true := by
  unfold Lay at h
  cases t <;> first | exact (lay_one h).1 | (simp [layB] at h)

theorem Lay.slice {e : Ty} {id : Nat} (h : Lay P (.slice e) id) : ∃ el, P.underlying id = some (.slice el) ∧ Lay P e el ∧ 0 < e.sz := by
  obtain ⟨_, d, hd, hc⟩ := lay_one h
  split at hc
  · simp only [Bool.and_eq_true, Nat.blt_eq] at hc
    exact ⟨_, hd, hc.1, hc.2⟩
  · cases hc

theorem Lay.agg {p : Ty} {id : Nat} (h : Lay P (.agg p) id) : ∃ fs, P.underlying id = some (.struct fs) ∧ (layB P p).2 fs.toList 0 = true ∧ 0 < p.sz := by
  obtain ⟨_, d, hd, hc⟩ := lay_one h
  split at hc
  · simp only [Bool.and_eq_true, Nat.blt_eq] at hc
    exact ⟨_, hd, hc.1, hc.2⟩
  · cases hc

theorem Lay.arr {n : Nat} {e : Ty} {id : Nat} (h : Lay P (.arr n e) id) : ∃ el, P.underlying id = some (.array n el) ∧ Lay P e el ∧ 0 < e.sz ∧ 1 < n := by
  obtain ⟨_, d, hd, hc⟩ := lay_one h
  split at hc
  · simp only [Bool.and_eq_true, Nat.blt_eq] at hc
    have := Nat.eq_of_beq_eq_true hc.1
    subst this
    exact ⟨_, hd, hc.2.1, hc.2.2.1, hc.2.2.2⟩
  · cases hc

theorem Lay.map {k v : Ty} {id : Nat} (h : Lay P (.map k v) id) : ∃ a b, P.underlying id = some (.map a b) ∧ Lay P k a ∧ Lay P v b := by
  obtain ⟨_, d, hd, hc⟩ := lay_one h
  split at hc
  · simp only [Bool.and_eq_true] at hc
    exact ⟨_, _, hd, hc.1, hc.2⟩
  · cases hc

theorem Lay.ptr {e : Ty} {id : Nat} (h : Lay P (.ptr e) id) : ∃ el, P.underlying id = some (.pointer el) ∧ Lay P e el := by
  obtain ⟨_, d, hd, hc⟩ := lay_one h
  split at hc
  · exact ⟨_, hd, hc⟩
  · cases hc

theorem Lay.int {k : IntKind} {id : Nat} (h : Lay P (.int k) id) : P.underlying id = some (.int k) := by
  obtain ⟨_, d, hd, hc⟩ := lay_one h
  split at hc
  · rw [hd, sameKind_eq hc]
  · cases hc

theorem Lay.str {id : Nat} (h : Lay P .str id) : P.underlying id = some .string := by
  obtain ⟨_, d, hd, hc⟩ := lay_one h
  split at hc
  · exact hd
  · cases hc

theorem Lay.bool {id : Nat} (h : Lay P .bool id) : P.underlying id = some .bool := by
  obtain ⟨_, d, hd, hc⟩ := lay_one h
  split at hc
  · exact hd
  · cases hc

theorem Lay.iface {t : Ty} {id : Nat} (h : Lay P t id) (hi : t.isIface = true) : ∃ ms, P.underlying id = some (.interface ms) := by
  cases t with
  | inil =>
    obtain ⟨_, d, hd, hc⟩ := lay_one h
    split at hc
    · exact ⟨_, hd⟩
    · cases hc
  | ialt i a r =>
    obtain ⟨_, d, hd, hc⟩ := lay_one h
    split at hc
    · exact ⟨_, hd⟩
    · cases hc
  | _ => simp [Ty.isIface] at hi

/-- Is the type an aggregate? -/
def Ty.isAgg : Ty → Bool
  | .agg _ => true
  | .arr _ _ => true
  | _ => false

theorem Lay.isAgg {t : Ty} {id : Nat} (h : Lay P t id) : ∃ d, P.underlying id = some d ∧ (match d with | .struct _ | .array _ _ => true | _ => false) = t.isAgg := by
  cases t with
  | agg p => obtain ⟨fs, h1, _⟩ := h.agg; exact ⟨_, h1, rfl⟩
  | arr n e => obtain ⟨el, h1, _⟩ := h.arr; exact ⟨_, h1, rfl⟩
  | prod a b => simp [Lay, layB] at h
  | unit => simp [Lay, layB] at h
  | slice e => obtain ⟨el, h1, _⟩ := h.slice; exact ⟨_, h1, rfl⟩
  | map k v => obtain ⟨a, b, h1, _⟩ := h.map; exact ⟨_, h1, rfl⟩
  | ptr e => obtain ⟨el, h1, _⟩ := h.ptr; exact ⟨_, h1, rfl⟩
  | bool => exact ⟨_, h.bool, rfl⟩
  | int k => exact ⟨_, h.int, rfl⟩
  | str => exact ⟨_, h.str, rfl⟩
  | inil => obtain ⟨ms, h1⟩ := h.iface rfl; exact ⟨_, h1, rfl⟩
  | ialt i a r =>
    obtain ⟨_, d, hd, hc⟩ := lay_one h
    split at hc
    · exact ⟨_, hd, rfl⟩
    · cases hc

/-- A struct's fields, by the table and by the evaluator. -/
theorem layF_ok : ∀ {p : Ty} {l : List Field} {off : Nat}, (layB P p).2 l off = true → l.length = p.fields ∧ ∀ f F, l[f]? = some F →
    ∃ u o, p.sub (fieldPath p.fields f) = some u ∧ p.off (fieldPath p.fields f) = some o ∧ F.offset = off + o ∧ Lay P u F.type := by
  intro p
  have leaf : ∀ {t : Ty} {c : TypeDesc → Bool} {l : List Field} {off : Nat}, t.fields = 1 → (∀ id, (layB.one P t c).1 id = true → Lay P t id) →
      (layB.one P t c).2 l off = true → l.length = t.fields ∧ ∀ f F, l[f]? = some F →
        ∃ u o, t.sub (fieldPath t.fields f) = some u ∧ t.off (fieldPath t.fields f) = some o ∧ F.offset = off + o ∧ Lay P u F.type := by
    intro t c l off h1 hl h
    simp only [layB.one] at h
    split at h
    · rename_i g
      simp only [Bool.and_eq_true] at h
      have hg := Nat.eq_of_beq_eq_true h.1
      refine ⟨by rw [h1]; rfl, fun f F hf => ?_⟩
      have hf0 : f = 0 ∧ g = F := by
        cases f with
        | zero => exact ⟨rfl, by simpa using hf⟩
        | succ f => simp at hf
      obtain ⟨rfl, rfl⟩ := hf0
      rw [h1]
      refine ⟨t, 0, by cases t <;> rfl, by cases t <;> rfl, by omega, hl _ ?_⟩
      simp only [layB.one, Bool.and_eq_true]
      exact h.2
    · cases h
  induction p with
  | prod a b iha ihb =>
    intro l off h
    simp only [layB] at h
    split at h
    · rename_i g r
      simp only [Bool.and_eq_true] at h
      obtain ⟨h1, h2, h3, h4⟩ := h
      have hg := Nat.eq_of_beq_eq_true h1
      have hb0 : 0 < b.fields := by rwa [Nat.blt_eq] at h4
      obtain ⟨k1, k2⟩ := ihb h3
      refine ⟨by simp [Ty.fields, k1], fun f F hf => ?_⟩
      have hb : ∃ m, b.fields = m := ⟨_, rfl⟩
      obtain ⟨m, hm⟩ := hb
      cases m with
      | zero => omega
      | succ m =>
        cases f with
        | zero =>
          have hF : g = F := by simpa using hf
          subst hF
          refine ⟨a, 0, ?_, ?_, by omega, h2⟩
          · simp only [Ty.fields, hm, fieldPath, Ty.sub, cond_false]
          · simp only [Ty.fields, hm, fieldPath, Ty.off, cond_false]
        | succ f =>
          obtain ⟨u, o, q1, q2, q3, q4⟩ := k2 f F (by simpa using hf)
          refine ⟨u, a.sz + o, ?_, ?_, by omega, q4⟩
          · simp only [Ty.fields, hm, fieldPath, Ty.sub, cond_true]; rw [← hm]; exact q1
          · simp only [Ty.fields, hm, fieldPath, Ty.off, cond_true]; rw [← hm, q2]; rfl
    · cases h
  | unit =>
    intro l off h
    simp only [layB] at h
    split at h
    · exact ⟨rfl, fun f F hf => by simp at hf⟩
    · cases h
  | _ => intro l off h; exact leaf rfl (fun id h => h) h

end
end Go.Ev
