/-
  WHAT A STATE OF THE EVALUATOR IS IN THE MODEL.
-/
import Derived.Test.YtncjpbogjfibfaaGreatDoorEvR
set_option linter.unusedVariables false
set_option linter.unusedSimpArgs false
namespace Go.Ev

theorem Ty.sz_bare (t : Ty) : t.bare.sz = t.sz := by cases t <;> rfl

/-- The type of a part, but for the mark of a struct. -/
def SubB (t : Ty) (p : List Bool) (u : Ty) : Prop := ∃ u', t.sub p = some u' ∧ u'.bare = u.bare

/-- What is known of memory, beside the values. -/
structure Gh where
  im : Im
  val : Nat → Nat → Option Value
  ety : Nat → Option Ty
  box : Nat → Option (Nat × Ty)

/-- What a call leaves as it was. 'gv': blocks that it was given for good. -/
structure After (gv : Nat → Prop) (w : World) (I : Im) (w' : World) (I' : Im) : Prop where
  ext : Ext w I w' I'
  heap : ∀ b, b < w.heap.size → ¬ gv b → w'.heap[b]? = w.heap[b]?
  size : w.heap.size ≤ w'.heap.size
  newC : ∀ b o, I'.cell b o → I.cell b o ∨ w.heap.size ≤ b ∨ gv b
  newO : ∀ b, I'.obj b → I.obj b ∨ w.heap.size ≤ b ∨ gv b
  inC : ∀ b o, I'.cell b o → b < w'.heap.size
  inO : ∀ b, I'.obj b → b < w'.heap.size
  os : w'.os = w.os
  tape : w'.tape = w.tape
  output : w'.output = w.output

def Mem (w : World) (I : Im) : Prop := (∀ b o, I.cell b o → b < w.heap.size) ∧ ∀ b, I.obj b → b < w.heap.size

theorem After.refl {gv : Nat → Prop} {w : World} {I : Im} (h : Mem w I) : After gv w I w I :=
  ⟨Ext.refl _ _, fun _ _ _ => rfl, Nat.le_refl _, fun _ _ h => .inl h, fun _ h => .inl h, h.1, h.2, rfl, rfl, rfl⟩

def noGv : Nat → Prop := fun _ => False

theorem After.mono {gv gv' : Nat → Prop} {w w' : World} {I I' : Im} (h : After gv w I w' I') (hg : ∀ b, gv b → gv' b) : After gv' w I w' I' :=
  ⟨h.ext, fun b hb hn => h.heap b hb (fun k => hn (hg b k)), h.size, fun b o k => (h.newC b o k).imp id (Or.imp id (hg b)),
   fun b k => (h.newO b k).imp id (Or.imp id (hg b)), h.inC, h.inO, h.os, h.tape, h.output⟩

theorem After.mem {gv : Nat → Prop} {w w' : World} {I I' : Im} (h : After gv w I w' I') : Mem w' I' := ⟨h.inC, h.inO⟩

/-- One stretch behind another one: the second may also turn what is newer than the first one's beginning. -/
theorem After.trans {gv gv' : Nat → Prop} {w w' w'' : World} {I I' I'' : Im} (h : After gv w I w' I') (k : After gv' w' I' w'' I'')
    (hg : ∀ b, gv' b → gv b ∨ w.heap.size ≤ b) : After gv w I w'' I'' :=
  ⟨h.ext.trans k.ext,
   fun b hb hn => (k.heap b (Nat.lt_of_lt_of_le hb h.size) (fun hk => (hg b hk).elim hn (fun hs => absurd hb (Nat.not_lt.2 hs)))).trans (h.heap b hb hn),
   Nat.le_trans h.size k.size,
   fun b o hc => by
    rcases k.newC b o hc with h1 | h1 | h1
    · exact h.newC b o h1
    · exact .inr (.inl (Nat.le_trans h.size h1))
    · rcases hg b h1 with h2 | h2
      · exact .inr (.inr h2)
      · exact .inr (.inl h2),
   fun b hc => by
    rcases k.newO b hc with h1 | h1 | h1
    · exact h.newO b h1
    · exact .inr (.inl (Nat.le_trans h.size h1))
    · rcases hg b h1 with h2 | h2
      · exact .inr (.inr h2)
      · exact .inr (.inl h2),
   k.inC, k.inO, k.os.trans h.os, k.tape.trans h.tape, k.output.trans h.output⟩

/-- A function that has a body is entered. -/
def Enters (P : Program) (f : Nat) : Prop := ∃ fn c, P.funcs[f]? = some fn ∧ (fn.name == "runtime.NumGoroutine") = false ∧ fn.body = some c

/-- Arguments hold a datum: a pair of pairs for several. -/
def ArgsV (w : World) (I : Im) : (d : Ty) → d.T → List Value → Prop
  | .prod a b, x, l => ∃ v r, l = v :: r ∧ VRel w I a x.1 v ∧ ArgsV w I b x.2 r
  | t, x, l => ∃ v, l = [v] ∧ VRel w I t x v

/-- A function value that computes F. -/
def HofOK (P : Program) (w : World) (I : Im) (d c : Ty) (F : d.T → Option c.T) (f : Nat) (vs : Array Value) : Prop :=
  Enters P f ∧ ∀ w' I', Ext w I w' I' → Mem w' I' → ∀ x (l : List Value), ArgsV w' I' d x l → ∀ y, F x = some y →
    Calls P f (l.toArray ++ vs) w' fun e w'' => ∃ rv I'', e = .returned rv ∧ After noGv w' I' w'' I'' ∧ VRel w'' I'' c y rv

/-- The cells that a slot's value takes. -/
def slotCells : SV → Value → List Value → Prop
  | .val t _, v, c => asCells t v c
  | _, v, c => c = [v]

/-- The cells hold what the evaluator says. -/
def CR (P : Program) (w : World) (G : Gh) : SV → List Value → Prop
  | .undef, _ => True
  | .val t x, cs => Rel w G.im t x cs
  | .nilS, cs => cs = [.slice none 0 0]
  | .nilI, cs => cs = [.nilIface]
  | .nilP, cs => cs = [.pointer none]
  | .nilM, cs => cs = [.map none]
  | .nilF, cs => cs = [.nilFunc]
  | .nns e x, cs => Rel w G.im (.slice e) x cs ∧ ∃ ad len cap, cs = [.slice (some ad) len cap]
  | .pr a b, cs => ∃ c d, cs = c ++ d ∧ CR P w G a c ∧ CR P w G b d
  | .obj k g, cs => ∃ v, G.val k g = some v ∧ v.oneCell' = true ∧ cs = [v]
  | .ptr k p u, cs => ∃ b t o, G.box k = some (b, t) ∧ t.off p = some o ∧ SubB t p u ∧ cs = [.pointer (some ⟨b, o, none⟩)]
  | .ptri k p i q u, cs => ∃ b t o n e o', G.box k = some (b, t) ∧ t.off p = some o ∧ SubB t p (.arr n e) ∧ i < n ∧ e.off q = some o' ∧ SubB e q u ∧
      cs = [.pointer (some ⟨b, o + i * e.sz + o', none⟩)]
  | .elem k g i q u, cs => ∃ b len cap e o', G.val k g = some (.slice (some ⟨b, 0, none⟩) len cap) ∧ G.ety k = some e ∧ i < len ∧ e.off q = some o' ∧ SubB e q u ∧
      cs = [.pointer (some ⟨b, i * e.sz + o', none⟩)]
  | .ref t x, cs => ∃ ad c, cs = [.pointer (some ad)] ∧ ad.spot = none ∧ Row w G.im ad.block ad.off t.sz c ∧ Rel w G.im t x c
  | .fn f caps, cs => ∃ vs : Array Value, cs = [.func (.func f) #[] vs] ∧ CR P w G caps vs.toList
  | .hof d c F, cs => ∃ f vs, cs = [.func (.func f) #[] vs] ∧ HofOK P w G.im d c F f vs
  | .snil, cs => cs = []
  | .scons a b, cs => ∃ v r, cs = v :: r ∧ (∃ c, slotCells a v c ∧ CR P w G a c) ∧ CR P w G b r
  | .tup l, cs => ∃ vs : Array Value, cs = [.tuple vs] ∧ CR P w G l vs.toList
  | .grd _ _ _, _ => False

/-- A slot's value is what the evaluator says. -/
def SR (P : Program) (w : World) (G : Gh) (s : SV) (v : Value) : Prop := ∃ c, slotCells s v c ∧ CR P w G s c

structure GLe (w : World) (G : Gh) (w' : World) (G' : Gh) : Prop where
  ext : Ext w G.im w' G'.im
  val : ∀ k g v, G.val k g = some v → G'.val k g = some v
  ety : ∀ k t, G.ety k = some t → G'.ety k = some t
  box : ∀ k b, G.box k = some b → G'.box k = some b

theorem GLe.refl (w : World) (G : Gh) : GLe w G w G := ⟨Ext.refl _ _, fun _ _ _ h => h, fun _ _ h => h, fun _ _ h => h⟩
theorem GLe.trans {w w' w'' : World} {G G' G'' : Gh} (h : GLe w G w' G') (k : GLe w' G' w'' G'') : GLe w G w'' G'' :=
  ⟨h.ext.trans k.ext, fun a b c d => k.val _ _ _ (h.val a b c d), fun a b c => k.ety _ _ (h.ety a b c), fun a b c => k.box _ _ (h.box a b c)⟩

section
variable {P : Program} {w w' : World} {G G' : Gh}

theorem CR.mono (e : GLe w G w' G') : ∀ {s : SV} {cs : List Value}, CR P w G s cs → CR P w' G' s cs := by
  intro s
  induction s with
  | undef => intro cs h; trivial
  | val t x => intro cs h; exact Rel.ext e.ext (show Rel w G.im t x cs from h)
  | nilS => intro cs h; exact h
  | nilI => intro cs h; exact h
  | nilP => intro cs h; exact h
  | nilM => intro cs h; exact h
  | nilF => intro cs h; exact h
  | nns t x => intro cs h; exact ⟨Rel.ext e.ext h.1, h.2⟩
  | pr a b iha ihb => intro cs h; obtain ⟨c, d, h1, h2, h3⟩ := h; exact ⟨c, d, h1, iha h2, ihb h3⟩
  | obj k g => intro cs h; obtain ⟨v, h1, h2⟩ := h; exact ⟨v, e.val _ _ _ h1, h2⟩
  | ptr k p u => intro cs h; obtain ⟨b, t, o, h1, h2⟩ := h; exact ⟨b, t, o, e.box _ _ h1, h2⟩
  | ptri k p i q u => intro cs h; obtain ⟨b, t, o, n, el, o', h1, h2⟩ := h; exact ⟨b, t, o, n, el, o', e.box _ _ h1, h2⟩
  | elem k g i q u => intro cs h; obtain ⟨b, l, c, el, o', h1, h2, h3⟩ := h; exact ⟨b, l, c, el, o', e.val _ _ _ h1, e.ety _ _ h2, h3⟩
  | ref t x => intro cs h; obtain ⟨ad, c, h1, h2, h3, h4⟩ := h; exact ⟨ad, c, h1, h2, h3.ext e.ext, h4.ext e.ext⟩
  | fn f caps ih => intro cs h; obtain ⟨vs, h1, h2⟩ := h; exact ⟨vs, h1, ih h2⟩
  | hof d c F =>
    intro cs h
    obtain ⟨f, vs, h1, h2⟩ := h
    exact ⟨f, vs, h1, h2.1, fun w1 I1 he hm x l hx y hy => h2.2 w1 I1 (e.ext.trans he) hm x l hx y hy⟩
  | snil => intro cs h; exact h
  | scons a b iha ihb =>
    intro cs h
    obtain ⟨v, r, h1, ⟨c, h2, h3⟩, h4⟩ := h
    exact ⟨v, r, h1, ⟨c, h2, iha h3⟩, ihb h4⟩
  | tup l ih => intro cs h; obtain ⟨vs, h1, h2⟩ := h; exact ⟨vs, h1, ih h2⟩
  | grd _ _ _ _ => intro cs h; exact h

theorem SR.mono {s : SV} {v : Value} (h : SR P w G s v) (e : GLe w G w' G') : SR P w' G' s v := let ⟨c, h1, h2⟩ := h; ⟨c, h1, h2.mono e⟩
end

/-! ## Objects -/
/-- What lies in a box has the form of the box's type. -/
def Fit : SV → Ty → Prop
  | .val u _, t => u.bare = t.bare
  | .pr a b, t => ∃ x y, t.bare = .prod x y ∧ Fit a x ∧ Fit b y
  | .obj _ _, t => t.sz = 1
  | .ptr _ _ _, t => t.sz = 1
  | .nilS, t => t.sz = 1
  | .nns _ _, t => t.sz = 1
  | .fn _ _, t => t.sz = 1
  | .hof _ _ _, t => t.sz = 1
  | _, _ => False

/-- What is fixed while a call runs. -/
structure Fr where
  gv : Nat → Prop
  w0 : World
  i0 : Im
  fx : Nat → Option Value

def Fr.owned (fr : Fr) (b : Nat) : Prop := fr.w0.heap.size ≤ b ∨ fr.gv b

/-- A slice of the call's own. -/
def SlOK (fr : Fr) (w : World) (I : Im) (el : Nat) (t : Ty) (xs : List t.T) (wr : Bool) (v : Value) : Prop :=
  (v = .slice none 0 0 ∧ xs = []) ∨
  ∃ b cap cs, v = .slice (some ⟨b, 0, none⟩) xs.length cap ∧ LenOK xs.length cap ∧ w.heap[b]? = some (.cells cs el (0, 0)) ∧ cs.size = cap * t.sz ∧
    (∀ i x, xs[i]? = some x → Rel w I t x ((cs.toList.drop (i * t.sz)).take t.sz)) ∧ fr.owned b ∧
    (wr = true → ∀ o, ¬ I.cell b o) ∧ (wr = false → ∀ o, o < xs.length * t.sz ↔ I.cell b o) ∧ ¬ I.obj b

def MpOK (fr : Fr) (w : World) (I : Im) (k v : Ty) (es : List (k.T × v.T)) (wr : Bool) (cv : Value) : Prop :=
  ∃ b ents clock, cv = .map (some b) ∧ w.heap[b]? = some (.map ents clock) ∧ ents.size = es.length ∧
    (∀ (i : Nat) (x : k.T × v.T) (e : MapEntry), es[i]? = some x → ents[i]? = some e → VRel w I k x.1 e.key ∧ VRel w I v x.2 e.val) ∧ ((wr = true → ¬ I.obj b) ∧ (wr = false → I.obj b)) ∧ (∀ o, ¬ I.cell b o) ∧ fr.owned b

def ObjOK (P : Program) (fr : Fr) (w : World) (G : Gh) (k : Nat) : Obj → Prop
  | .box t c wr => ∃ b cs el, G.box k = some (b, t) ∧ w.heap[b]? = some (.cells cs el (0, 0)) ∧ cs.size = t.sz ∧ Fit c t ∧ CR P w G c cs.toList ∧ ((wr = true → ∀ o, ¬ G.im.cell b o) ∧ (wr = false → ∀ o, o < t.sz → G.im.cell b o)) ∧ ¬ G.im.obj b ∧ fr.owned b
  | .sl el t xs g wr => G.ety k = some t ∧ ∃ v, G.val k g = some v ∧ SlOK fr w G.im el t xs wr v
  | .mp a b es wr => ∃ v, G.val k 0 = some v ∧ MpOK fr w G.im a b es wr v

/-- The block of an object. -/
def blk (G : Gh) (k : Nat) : Obj → Option Nat
  | .box _ _ _ => (G.box k).map (·.1)
  | .sl _ _ _ g _ => match G.val k g with
    | some (.slice (some ad) _ _) => some ad.block
    | _ => none
  | .mp _ _ _ _ => match G.val k 0 with
    | some (.map (some b)) => some b
    | _ => none

/-- The tokens of a guard hold. -/
def holds (a : Act) (tk : List (Nat × Bool)) : Prop := ∀ t ∈ tk, a.tmps.getD t.1 undef = .bool t.2

def SlotOK (P : Program) (w : World) (G : Gh) (a : Act) : SV → Value → Prop
  | .grd tk g s, v => (holds a tk → g = true ∧ SR P w G s v) ∧ (¬ holds a tk → v = undef)
  | s, v => SR P w G s v

structure Sim (P : Program) (fr : Fr) (free : Nat → Prop) (sl : Nat → SV) (σ : Nat → Option Obj) (a : Act) (w : World) (G : Gh) : Prop where
  slots : ∀ t, SlotOK P w G a (sl t) (a.tmps.getD t undef)
  defs : a.defers = []
  objs : ∀ k o, σ k = some o → ObjOK P fr w G k o
  sep : ∀ j k o o' b, σ j = some o → σ k = some o' → blk G j o = some b → blk G k o' = some b → j = k
  after : After fr.gv fr.w0 fr.i0 w G.im
  fresh : ∀ k, free k → σ k = none ∧ G.ety k = none ∧ G.box k = none ∧ ∀ g, G.val k g = none

end Go.Ev
