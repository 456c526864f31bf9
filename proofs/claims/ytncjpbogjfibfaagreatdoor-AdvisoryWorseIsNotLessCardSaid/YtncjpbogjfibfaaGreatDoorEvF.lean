/-
  CONTRACTS: what a function is handed, and hands back.
-/
import Derived.Test.YtncjpbogjfibfaaGreatDoorEvM12
set_option linter.unusedVariables false
set_option linter.unusedSimpArgs false
namespace Go.Ev

/-- Cells hold a datum of a shape; the blocks that go with it. -/
def ShC (P : Program) (w : World) (I : Im) : (s : Sh) → s.T → List Value → List Nat → Prop
  | .val t, x, cs, bs => Rel w I t x cs ∧ bs = []
  | .own el t wr, xs, cs, bs => (cs = [.slice none 0 0] ∧ (show List t.T from xs) = [] ∧ bs = []) ∨
      ∃ b cap cells, cs = [.slice (some ⟨b, 0, none⟩) (show List t.T from xs).length cap] ∧ bs = [b] ∧ LenOK (show List t.T from xs).length cap ∧ w.heap[b]? = some (.cells cells el (0, 0)) ∧ cells.size = cap * t.sz ∧
        RowsOK w I t (show List t.T from xs) cells.toList ∧ (wr = true → ∀ o, ¬ I.cell b o) ∧ (wr = false → ∀ o, o < (show List t.T from xs).length * t.sz ↔ I.cell b o) ∧ ¬ I.obj b
  | .io el t, xs, cs, bs => (cs = [.slice none 0 0] ∧ (show List t.T from xs) = [] ∧ bs = []) ∨
      ∃ b cap cells, cs = [.slice (some ⟨b, 0, none⟩) (show List t.T from xs).length cap] ∧ bs = [b] ∧ LenOK (show List t.T from xs).length cap ∧ w.heap[b]? = some (.cells cells el (0, 0)) ∧ cells.size = cap * t.sz ∧
        RowsOK w I t (show List t.T from xs) cells.toList ∧ (true = true → ∀ o, ¬ I.cell b o) ∧ (true = false → ∀ o, o < (show List t.T from xs).length * t.sz ↔ I.cell b o) ∧ ¬ I.obj b
  | .omap k v, es, cs, bs => ∃ b ents clock, cs = [.map (some b)] ∧ bs = [b] ∧ w.heap[b]? = some (.map ents clock) ∧ ents.size = (show List (k.T × v.T) from es).length ∧
      (∀ (i : Nat) (x : k.T × v.T) (e : MapEntry), (show List (k.T × v.T) from es)[i]? = some x → ents[i]? = some e → VRel w I k x.1 e.key ∧ VRel w I v x.2 e.val) ∧ ¬ I.obj b ∧ ∀ o, ¬ I.cell b o
  | .box c, x, cs, bs => ∃ b cells el bs', cs = [.pointer (some ⟨b, 0, none⟩)] ∧ bs = b :: bs' ∧ w.heap[b]? = some (.cells cells el (0, 0)) ∧ cells.size = c.ty.sz ∧ ShC P w I c x cells.toList bs' ∧ (∀ o, ¬ I.cell b o) ∧ ¬ I.obj b
  | .pr a b, x, cs, bs => ∃ c d bs1 bs2, cs = c ++ d ∧ bs = bs1 ++ bs2 ∧ ShC P w I a x.1 c bs1 ∧ ShC P w I b x.2 d bs2
  | .hof d c, F, cs, bs => bs = [] ∧ ∃ f vs, cs = [.func (.func f) #[] vs] ∧ HofOK P w I d c F f vs
  | .fn f, _, cs, bs => bs = [] ∧ cs = [.func (.func f) #[] #[]]
  | .nilS, _, cs, bs => bs = [] ∧ cs = [.slice none 0 0]
  | .nns e, x, cs, bs => bs = [] ∧ Rel w I (.slice e) x cs ∧ ∃ ad len cap, cs = [.slice (some ad) len cap]

/-- A value holds a datum of a shape. -/
def ShV (P : Program) (w : World) (I : Im) : (s : Sh) → s.T → Value → List Nat → Prop
  | .val t, x, v, bs => VRel w I t x v ∧ bs = []
  | .own el t wr, x, v, bs => ShC P w I (.own el t wr) x [v] bs
  | .io el t, x, v, bs => ShC P w I (.io el t) x [v] bs
  | .omap a b, x, v, bs => ShC P w I (.omap a b) x [v] bs
  | .box c, x, v, bs => ShC P w I (.box c) x [v] bs
  | .pr _ _, _, _, _ => False
  | .hof d c, x, v, bs => ShC P w I (.hof d c) x [v] bs
  | .fn f, x, v, bs => ShC P w I (.fn f) x [v] bs
  | .nilS, x, v, bs => ShC P w I .nilS x [v] bs
  | .nns e, x, v, bs => ShC P w I (.nns e) x [v] bs

def ShL (P : Program) (w : World) (I : Im) : (l : List Sh) → TupR l → List Value → List Nat → Prop
  | [], _, vs, bs => vs = [] ∧ bs = []
  | [a], x, vs, bs => ∃ v, vs = [v] ∧ ShV P w I a x v bs
  | a :: b :: r, x, vs, bs => ∃ v vs' bs1 bs2, vs = v :: vs' ∧ bs = bs1 ++ bs2 ∧ ShV P w I a x.1 v bs1 ∧ ShL P w I (b :: r) x.2 vs' bs2

/-- The values of the boxes among the arguments. -/
def boxVals : List Sh → List Value → List Value
  | .box _ :: ps, v :: vs => v :: boxVals ps vs
  | .io _ _ :: ps, v :: vs => v :: boxVals ps vs
  | _ :: ps, _ :: vs => boxVals ps vs
  | _, _ => []

/-- How a function returns several values. -/
def retIs : List Value → Value → Prop
  | [v], rv => rv = v
  | vs, rv => rv = .tuple vs.toArray

/-- What a function keeps. -/
def FunOK (P : Program) (f : Nat) (sp : FSpec) : Prop :=
  ∀ (w : World) (I : Im) (v : TupR sp.ps) (args : List Value) (bs : List Nat), Mem w I → ShL P w I sp.ps v args bs → bs.Nodup → ∀ r, sp.F v = some r →
    Calls P f args.toArray w fun e w' => ∃ rv vs I' bs', e = .returned rv ∧ vs.length = sp.rs.length ∧ retIs vs rv ∧ After (· ∈ bs) w I w' I' ∧
      ShL P w' I' (sp.rs ++ sp.ps.filter isBox) r (vs ++ boxVals sp.ps args) bs' ∧ bs'.Nodup ∧ ∀ b ∈ bs', b ∈ bs ∨ w.heap.size ≤ b

structure EnvOK (P : Program) (E : Env) : Prop where
  ty : ∀ id t, E.ty id = some t → Lay P t id
  el : ∀ id x, P.underlying id = some (.slice x) → E.el id = x
  fs : ∀ f sp, E.fs f = some sp → Enters P f ∧ FunOK P f sp

section
variable {P : Program} {fr : Fr} {free free' : Nat → Prop} {self : Nat} {σ σ' : Nat → Option Obj} {w w' : World} {G G' : Gh} {I : Im}

/-! ## Out of a state -/
/-- The blocks of keys. -/
def BlksOf (σ : Nat → Option Obj) (G : Gh) (ks bs : List Nat) : Prop := ∀ b ∈ bs, ∃ k ∈ ks, ∃ o, σ k = some o ∧ blk G k o = some b

theorem BlksOf.mono {ks ks' bs : List Nat} (h : BlksOf σ G ks bs) (hk : ∀ k ∈ ks, k ∈ ks') : BlksOf σ G ks' bs := fun b hb => let ⟨k, h1, h2⟩ := h b hb; ⟨k, hk k h1, h2⟩

theorem BlksOf.append (hm : MemS P fr free σ w G) {k1 k2 b1 b2 : List Nat} (h1 : BlksOf σ G k1 b1) (h2 : BlksOf σ G k2 b2) (n1 : b1.Nodup) (n2 : b2.Nodup) (hk : (k1 ++ k2).Nodup) :
    (b1 ++ b2).Nodup ∧ BlksOf σ G (k1 ++ k2) (b1 ++ b2) := by
  refine ⟨List.nodup_append.2 ⟨n1, n2, fun a ha b hb e => ?_⟩, fun b hb => ?_⟩
  · subst e
    obtain ⟨x, hx, o, ho, hbo⟩ := h1 a ha
    obtain ⟨y, hy, o', ho', hbo'⟩ := h2 a hb
    exact (List.nodup_append.1 hk).2.2 x hx y hy (hm.sep x y o o' a ho ho' hbo hbo')
  · rcases List.mem_append.1 hb with h | h
    · obtain ⟨k, hk, hr⟩ := h1 b h
      exact ⟨k, List.mem_append_left _ hk, hr⟩
    · obtain ⟨k, hk, hr⟩ := h2 b h
      exact ⟨k, List.mem_append_right _ hk, hr⟩

theorem parseOwn_ok (hm : MemS P fr free σ w G) {el : Nat} {t : Ty} {wr : Bool} {v : SV} {x : List t.T} {cs : List Value} (h : parseOwn σ el t wr v = some x) (hr : CR P w G v cs) :
    ∃ bs, ShC P w G.im (.own el t wr) x cs bs ∧ bs.Nodup ∧ BlksOf σ G (keyOwn v) bs := by
  unfold parseOwn at h
  split at h
  · rename_i k g
    split at h
    · rename_i id' t' xs g' w1 hk
      cases hb : (Nat.beq g 0 && Nat.beq g g' && (Nat.beq el id' && (bif wr then w1 else !w1))) with
      | false => rw [hb] at h; cases h
      | true =>
        rw [hb] at h
        have h : Ty.cast? (.slice t') (.slice t) xs = some x := h
        simp only [Bool.and_eq_true] at hb
        have e1 := Nat.eq_of_beq_eq_true hb.1.2
        have e2 := Nat.eq_of_beq_eq_true hb.2.1
        have e3 : wr = w1 := by
          have := hb.2.2
          cases wr <;> cases w1 <;> first | rfl | cases this
        subst e1 e2 e3
        obtain ⟨et, ex⟩ := Ty.cast?_some h
        have et' : t' = t := by injection et
        subst et'
        cases ex
        obtain ⟨_, v', k1, k2⟩ := hm.objs _ _ hk
        obtain ⟨v2, k3, _, k5⟩ := hr
        rw [k1] at k3
        cases k3
        rcases k2 with ⟨rfl, hx⟩ | ⟨b, cap, cells, rfl, q1, q2, q3, q4, q5, q6, q7, q8⟩
        · exact ⟨[], .inl ⟨k5, hx, rfl⟩, List.nodup_nil, fun b hb => by cases hb⟩
        · refine ⟨[b], .inr ⟨b, cap, cells, k5, rfl, q1, q2, q3, q4, q6, q7, q8⟩, by simp, fun b' hb' => ?_⟩
          have : b' = b := by simpa using hb'
          subst this
          exact ⟨k, by simp [keyOwn], _, hk, by simp [blk, k1]⟩
    · cases h
  · cases h
    exact ⟨[], .inl ⟨hr, rfl, rfl⟩, List.nodup_nil, fun b hb => by cases hb⟩
  · cases h

theorem parseMap_ok (hm : MemS P fr free σ w G) {k v : Ty} {s : SV} {x : List (k.T × v.T)} {cs : List Value} (h : parseMap σ k v s = some x) (hr : CR P w G s cs) :
    ∃ bs, ShC P w G.im (.omap k v) x cs bs ∧ bs.Nodup ∧ BlksOf σ G (keyOwn s) bs := by
  unfold parseMap at h
  split at h
  · rename_i j g
    split at h
    · rename_i k' v' es wr hk
      cases hb : (Nat.beq g 0 && wr) with
      | false => rw [hb] at h; cases h
      | true =>
        rw [hb] at h
        have h : Ty.cast? (.map k' v') (.map k v) es = some x := h
        simp only [Bool.and_eq_true] at hb
        have e1 := Nat.eq_of_beq_eq_true hb.1
        have e2 : wr = true := hb.2
        subst e1 e2
        obtain ⟨et, ex⟩ := Ty.cast?_some h
        injection et with e3 e4
        subst e3 e4
        cases ex
        obtain ⟨v', k1, b, ents, clock, rfl, q1, q2, q3, q4, q5, q6⟩ := hm.objs _ _ hk
        obtain ⟨v2, k3, _, k5⟩ := hr
        rw [k1] at k3
        cases k3
        refine ⟨[b], ⟨b, ents, clock, k5, rfl, q1, q2, q3, q4.1 rfl, q5⟩, by simp, fun b' hb' => ?_⟩
        have : b' = b := by simpa using hb'
        subst this
        exact ⟨j, by simp [keyOwn], _, hk, by simp [blk, k1]⟩
    · cases h
  · cases h

theorem parseFn_ok {f : Nat} {v : SV} {x : Unit} {cs : List Value} (h : parseFn f v = some x) (hr : CR P w G v cs) : cs = [.func (.func f) #[] #[]] := by
  unfold parseFn at h
  split at h
  · split at h
    · rename_i hb
      have := Nat.eq_of_beq_eq_true hb
      subst this
      obtain ⟨vs, h1, h2⟩ := hr
      have h2 : vs.toList = [] := h2
      have : vs = #[] := by simpa using h2
      rw [h1, this]
    · cases h
  · cases h

theorem parseNns_ok {e : Ty} {v : SV} {x : List e.T} {cs : List Value} (h : parseNns e v = some x) (hr : CR P w G v cs) : Rel w G.im (.slice e) x cs ∧ ∃ ad len cap, cs = [.slice (some ad) len cap] := by
  cases v <;> first | exact ⟨Rel.cast h hr.1, hr.2⟩ | cases h

theorem parseNil_ok {v : SV} {x : Unit} {cs : List Value} (h : parseNil v = some x) (hr : CR P w G v cs) : cs = [.slice none 0 0] := by
  unfold parseNil at h
  split at h
  · exact hr
  · cases h

theorem parseC_ok (hm : MemS P fr free σ w G) : ∀ {s : Sh} {v : SV} {x : s.T} {cs : List Value} {t : Ty}, parseC σ s v = some x → CR P w G v cs →
    (keysC s v).Nodup → Fit v t → ∃ bs, ShC P w G.im s x cs bs ∧ bs.Nodup ∧ BlksOf σ G (keysC s v) bs := by
  intro s
  induction s with
  | val t =>
    intro v x cs _ h hr _ _
    exact ⟨[], ⟨asC_ok (fun k o h => hm.objs k o h) h hr, rfl⟩, List.nodup_nil, fun b hb => by cases hb⟩
  | own el t wr => intro v x cs _ h hr _ _; exact parseOwn_ok hm h hr
  | io el t => intro v x cs _ h hr _ _; exact parseOwn_ok (wr := true) hm h hr
  | omap a b => intro v x cs _ h hr _ _; exact parseMap_ok hm h hr
  | pr a b iha ihb =>
    intro v x cs t h hr hnd hf
    simp only [parseC] at h
    split at h
    · rename_i y z hh
      split at h
      · rename_i x1 x2 h1 h2
        have h := Option.some.inj h
        subst h
        simp only [keysC, hh] at hnd ⊢
        obtain ⟨tx, ty, c1, c2, e1, e2, e3, rfl, e5, e6, _⟩ := halves_ok hf hr hh
        have hnd' := List.nodup_append.1 hnd
        obtain ⟨b1, p1, p2, p3⟩ := iha h1 e5 hnd'.1 e2
        obtain ⟨b2, q1, q2, q3⟩ := ihb h2 e6 hnd'.2.1 e3
        obtain ⟨r1, r2⟩ := p3.append hm q3 p2 q2 hnd
        exact ⟨b1 ++ b2, ⟨c1, c2, b1, b2, rfl, rfl, p1, q1⟩, r1, r2⟩
      · cases h
    · cases h
  | fn f =>
    intro v x cs _ h hr _ _
    exact ⟨[], ⟨rfl, parseFn_ok h hr⟩, List.nodup_nil, fun b hb => by cases hb⟩
  | nilS =>
    intro v x cs _ h hr _ _
    exact ⟨[], ⟨rfl, parseNil_ok h hr⟩, List.nodup_nil, fun b hb => by cases hb⟩
  | nns e =>
    intro v x cs _ h hr _ _
    exact ⟨[], ⟨rfl, parseNns_ok h hr⟩, List.nodup_nil, fun b hb => by cases hb⟩
  | box c ih => intro v x cs _ h; cases h
  | hof d c => intro v x cs _ h; cases h

theorem ArgsV.one {d : Ty} {x : d.T} {l : List Value} (hd : ∀ a b, d ≠ .prod a b) (h : ArgsV w I d x l) : ∃ v, l = [v] ∧ VRel w I d x v := by
  cases d <;> first | exact h | exact absurd rfl (hd _ _)

theorem toTup_ok : ∀ {ps : List Sh} {d : Ty} {x : d.T} {v : TupR ps} {l : List Value}, toTup ps d x = some v → ArgsV w I d x l → ShL P w I ps v l [] := by
  intro ps
  induction ps with
  | nil => intro d x v l h; cases h
  | cons a ps ih =>
    intro d x v l h hx
    cases ps with
    | nil =>
      replace h : toOne a d x = some v := h
      cases a <;> first | (cases h; done) | skip
      rename_i t
      unfold toOne at h
      simp only at h
      cases hp : isProd d with
      | true => rw [hp] at h; cases h
      | false =>
        rw [hp] at h
        have h : Ty.cast? d t x = some v := h
        obtain ⟨u, rfl, hu⟩ := hx.one (fun a b e => by subst e; cases hp)
        exact ⟨u, rfl, VRel.cast h hu, rfl⟩
    | cons b ps =>
      replace h : toPair a (toTup (b :: ps)) d x = some v := h
      cases a <;> first | (cases h; done) | skip
      rename_i t
      unfold toPair at h
      cases d <;> first | (cases h; done) | skip
      rename_i p q
      simp only at h
      split at h
      · rename_i y z h1 h2
        have h := Option.some.inj h
        subst h
        obtain ⟨u, r, rfl, k1, k2⟩ := hx
        exact ⟨u, r, [], [], rfl, rfl, ⟨VRel.cast h1 k1, rfl⟩, ih h2 k2⟩
      · cases h

theorem ofTup_ok {rs : List Sh} {c : Ty} {y : TupR rs} {z : c.T} {vs : List Value} {bs : List Nat} {rv : Value} (h : ofTup rs c y = some z) (hr : ShL P w I rs y vs bs) (hret : retIs vs rv) : VRel w I c z rv := by
  cases rs with
  | nil => cases h
  | cons a rs =>
    cases rs with
    | cons b rs => cases a <;> cases h
    | nil =>
      cases a <;> first | (cases h; done) | skip
      rename_i t
      obtain ⟨v, rfl, h1, _⟩ := hr
      have hret : rv = v := hret
      subst hret
      exact VRel.cast h h1

theorem allVal_box : ∀ {ps : List Sh}, allVal ps = true → ps.filter isBox = [] ∧ ∀ vals, boxVals ps vals = [] := by
  intro ps
  induction ps with
  | nil => intro _; exact ⟨rfl, fun vals => by cases vals <;> rfl⟩
  | cons a ps ih =>
    intro h
    cases a <;> first | (cases h; done) | skip
    obtain ⟨h1, h2⟩ := ih h
    refine ⟨?_, fun vals => ?_⟩
    · rw [List.filter_cons_of_neg (by simp [isBox])]; exact h1
    · cases vals with
      | nil => rfl
      | cons v vals => exact h2 vals

theorem hofOf_ok {fs : Nat → Option FSpec} (hE : ∀ f sp, fs f = some sp → Enters P f ∧ FunOK P f sp) {d c : Ty} {v : SV} {F : d.T → Option c.T} {cs : List Value} (h : hofOf fs d c v = some F) (hr : CR P w G v cs) :
    ∃ f vs, cs = [.func (.func f) #[] vs] ∧ HofOK P w G.im d c F f vs := by
  unfold hofOf at h
  split at h
  · rename_i d' c' F'
    unfold castHof at h
    split at h
    · rename_i hb
      split at h
      · rename_i hb'
        have e1 := Ty.same_eq hb
        have e2 := Ty.same_eq hb'
        subst e1 e2
        have h := Option.some.inj h
        subst h
        obtain ⟨f, vs, h1, h2, h3⟩ := hr
        exact ⟨f, vs, h1, h2, h3⟩
      · cases h
    · cases h
  · rename_i f
    split at h
    · rename_i sp hf
      cases hav : allVal sp.ps with
      | false => rw [hav] at h; cases h
      | true =>
        rw [hav] at h
        have h := Option.some.inj h
        subst h
        obtain ⟨vs, h1, h2⟩ := hr
        have h2 : vs.toList = [] := h2
        have hvs : vs = #[] := by simpa using h2
        subst hvs
        obtain ⟨he, hfun⟩ := hE _ _ hf
        refine ⟨f, #[], h1, he, fun w' I' _ hm x l hx y hy => ?_⟩
        obtain ⟨v, hv, hy⟩ := Option.bind_eq_some_iff.1 hy
        obtain ⟨r, hr, hy⟩ := Option.bind_eq_some_iff.1 hy
        obtain ⟨a1, a2⟩ := allVal_box hav
        have hc := hfun w' I' v l [] hm (toTup_ok hv hx) List.nodup_nil r hr
        rw [show (l.toArray ++ #[] : Array Value) = l.toArray by simp]
        refine Calls.mono hc fun e w'' hq => ?_
        obtain ⟨rv, vs, I', bs', q1, q2, q3, q4, q5, _, _⟩ := hq
        rw [a2, List.append_nil] at q5
        exact ⟨rv, I', q1, q4.mono (fun b hb => by cases hb), ofTup_ok hy q5 q3⟩
    · cases h
  · cases h

theorem SR.cell {s : SV} {v : Value} (h : SR P w G s v) (hn : ∀ t x, s ≠ .val t x) : CR P w G s [v] := SR.one h hn

theorem parseBox_ok (hm : MemS P fr free σ w G) {c : Sh} {v : SV} {x : c.T} {cs : List Value} (h : parseBox σ c v = some x) (hr : CR P w G v cs) (hnd : (keysBox σ c v).Nodup) :
    ∃ bs, ShC P w G.im (.box c) x cs bs ∧ bs.Nodup ∧ BlksOf σ G (keysBox σ c v) bs := by
  unfold parseBox at h
  split at h
  · rename_i k u
    split at h
    · rename_i t cv hk
      cases hs : t.same c.ty with
      | false => rw [hs] at h; cases h
      | true =>
        rw [hs] at h
        have h : parseC σ c cv = some x := h
        have et := Ty.same_eq hs
        subst et
        obtain ⟨b, cells, el, k1, k2, k3, k4, k5, k6, k7, k8⟩ := hm.objs _ _ hk
        obtain ⟨b', t', o, j1, j2, _, j4⟩ := hr
        rw [k1] at j1
        cases j1
        have ho : o = 0 := by
          have : Ty.off c.ty [] = some o := j2
          cases hc : c.ty <;> rw [hc] at this <;> exact (Option.some.inj this).symm
        subst ho
        simp only [keysBox, hk] at hnd ⊢
        have hnd' := List.nodup_cons.1 hnd
        obtain ⟨bs', p1, p2, p3⟩ := parseC_ok hm h k5 hnd'.2 k4
        refine ⟨b :: bs', ⟨b, cells, el, bs', j4, rfl, k2, k3, p1, k6.1 rfl, k7⟩, List.nodup_cons.2 ⟨fun hb => ?_, p2⟩, fun b2 hb2 => ?_⟩
        · obtain ⟨k', hk', o', ho', hbo⟩ := p3 b hb
          have := hm.sep k k' _ _ b hk ho' (by simp [blk, k1]) hbo
          subst this
          exact hnd'.1 hk'
        · rcases List.mem_cons.1 hb2 with e | e
          · subst e; exact ⟨k, List.mem_cons_self, _, hk, by simp [blk, k1]⟩
          · obtain ⟨k', hk', hr⟩ := p3 b2 e
            exact ⟨k', List.mem_cons_of_mem _ hk', hr⟩
    · cases h
  · cases h

theorem parseS_ok (hm : MemS P fr free σ w G) {fs : Nat → Option FSpec} (hE : ∀ f sp, fs f = some sp → Enters P f ∧ FunOK P f sp) {s : Sh} {v : SV} {x : s.T} {val : Value} (h : parseS fs σ s v = some x) (hr : SR P w G v val)
    (hnd : (keysS σ s v).Nodup) : ∃ bs, ShV P w G.im s x val bs ∧ bs.Nodup ∧ BlksOf σ G (keysS σ s v) bs := by
  have hnil : BlksOf σ G (keysS σ s v) [] := fun b hb => by cases hb
  cases s with
  | val t => exact ⟨[], ⟨asV_ok (fun k o h => hm.objs k o h) h hr, rfl⟩, List.nodup_nil, hnil⟩
  | own el t wr =>
    have h : parseOwn σ el t wr v = some x := h
    refine parseOwn_ok hm h (hr.cell fun t y e => ?_)
    subst e
    cases h
  | io el t =>
    have h : parseOwn σ el t true v = some x := h
    refine parseOwn_ok (wr := true) hm h (hr.cell fun t y e => ?_)
    subst e
    cases h
  | omap a b =>
    have h : parseMap σ a b v = some x := h
    refine parseMap_ok hm h (hr.cell fun t y e => ?_)
    subst e
    cases h
  | box c =>
    have h : parseBox σ c v = some x := h
    refine parseBox_ok hm h (hr.cell fun t y e => ?_) hnd
    subst e
    cases h
  | pr a b => cases h
  | hof d c =>
    have h : hofOf fs d c v = some x := h
    exact ⟨[], ⟨rfl, hofOf_ok hE h (hr.cell fun t y e => by subst e; cases h)⟩, List.nodup_nil, hnil⟩
  | fn f =>
    have h : parseFn f v = some x := h
    exact ⟨[], ⟨rfl, parseFn_ok h (hr.cell fun t y e => by subst e; cases h)⟩, List.nodup_nil, hnil⟩
  | nilS =>
    have h : parseNil v = some x := h
    exact ⟨[], ⟨rfl, parseNil_ok h (hr.cell fun t y e => by subst e; cases h)⟩, List.nodup_nil, hnil⟩
  | nns e =>
    have h : parseNns e v = some x := h
    exact ⟨[], ⟨rfl, parseNns_ok h (hr.cell fun t y e => by subst e; cases h)⟩, List.nodup_nil, hnil⟩

theorem parseL_cons {fs : Nat → Option FSpec} {a b : Sh} {r : List Sh} {v : SV} {vs : List SV} : parseL fs σ (a :: b :: r) (v :: vs) = (match parseS fs σ a v, parseL fs σ (b :: r) vs with
    | some x, some y => some (x, y)
    | _, _ => none) := rfl

theorem parseL_ok (hm : MemS P fr free σ w G) {fs : Nat → Option FSpec} (hE : ∀ f sp, fs f = some sp → Enters P f ∧ FunOK P f sp) : ∀ {l : List Sh} {svs : List SV} {x : TupR l} {vs : List Value}, parseL fs σ l svs = some x →
    svs.length = vs.length → (∀ (j : Nat) (s : SV) (v : Value), svs[j]? = some s → vs[j]? = some v → SR P w G s v) → (keysL σ l svs).Nodup → ∃ bs, ShL P w G.im l x vs bs ∧ bs.Nodup ∧ BlksOf σ G (keysL σ l svs) bs := by
  intro l
  induction l with
  | nil =>
    intro svs x vs h hl _ _
    cases svs with
    | nil => exact ⟨[], ⟨List.eq_nil_of_length_eq_zero hl.symm, rfl⟩, List.nodup_nil, fun b hb => by cases hb⟩
    | cons _ _ => cases h
  | cons a l ih =>
    intro svs x vs h hl hs hnd
    cases svs with
    | nil => cases l <;> cases h
    | cons s svs =>
      cases vs with
      | nil => cases hl
      | cons v vs =>
        have h0 := hs 0 s v rfl rfl
        cases l with
        | nil =>
          cases svs with
          | cons _ _ => cases h
          | nil =>
            have h : parseS fs σ a s = some x := h
            simp only [keysL, List.append_nil] at hnd ⊢
            obtain ⟨bs, p1, p2, p3⟩ := parseS_ok hm hE h h0 hnd
            have : vs = [] := List.eq_nil_of_length_eq_zero (by simpa using hl.symm)
            subst this
            exact ⟨bs, ⟨v, rfl, p1⟩, p2, p3⟩
        | cons b l =>
          rw [parseL_cons] at h
          split at h
          · rename_i x1 x2 h1 h2
            have h := Option.some.inj h
            subst h
            rw [keysL] at hnd ⊢
            have hnd' := List.nodup_append.1 hnd
            obtain ⟨b1, p1, p2, p3⟩ := parseS_ok hm hE h1 h0 hnd'.1
            obtain ⟨b2, q1, q2, q3⟩ := ih h2 (by simpa using hl) (fun j s v h1 h2 => hs (j + 1) s v (by simpa using h1) (by simpa using h2)) hnd'.2.1
            obtain ⟨r1, r2⟩ := p3.append hm q3 p2 q2 hnd
            exact ⟨b1 ++ b2, ⟨v, vs, b1, b2, rfl, rfl, p1, q1⟩, r1, r2⟩
          · cases h

theorem hasN_iff {k : Nat} : ∀ {l : List Nat}, hasN k l = true ↔ k ∈ l := by
  intro l
  induction l with
  | nil => simp [hasN]
  | cons j r ih =>
    simp only [hasN, Bool.or_eq_true, ih, List.mem_cons]
    exact ⟨fun h => h.imp Nat.eq_of_beq_eq_true id, fun h => h.imp (fun e => by rw [e]; exact Nat.beq_refl j) id⟩

theorem distinct_ok : ∀ {l : List Nat}, distinct l = true → l.Nodup := by
  intro l
  induction l with
  | nil => intro _; exact List.nodup_nil
  | cons k r ih =>
    intro h
    simp only [distinct, Bool.and_eq_true] at h
    refine List.nodup_cons.2 ⟨fun hk => ?_, ih h.2⟩
    rw [hasN_iff.2 hk] at h
    cases h.1

theorem parseN_ok (hm : MemS P fr free σ w G) {fs : Nat → Option FSpec} (hE : ∀ f sp, fs f = some sp → Enters P f ∧ FunOK P f sp) {l : List Sh} {svs : List SV} {x : TupR l} {vs : List Value} (h : parseN fs σ l svs = some x)
    (hl : svs.length = vs.length) (hs : ∀ (j : Nat) (s : SV) (v : Value), svs[j]? = some s → vs[j]? = some v → SR P w G s v) : ∃ bs, ShL P w G.im l x vs bs ∧ bs.Nodup ∧ BlksOf σ G (keysL σ l svs) bs := by
  unfold parseN at h
  cases hd : distinct (keysL σ l svs) with
  | false => rw [hd] at h; cases h
  | true => rw [hd] at h; exact parseL_ok hm hE h hl hs (distinct_ok hd)

end
end Go.Ev
