/-
  INTO A STATE: what is handed over, as objects.
-/
import Derived.Test.YtncjpbogjfibfaaGreatDoorEvF
set_option linter.unusedVariables false
set_option linter.unusedSimpArgs false
namespace Go.Ev

section
variable {P : Program} {fr : Fr} {free free' : Nat → Prop} {self : Nat} {σ σ' : Nat → Option Obj} {w w' : World} {G G' : Gh} {I : Im}

theorem putSto_append (σ : Nat → Option Obj) (a b : List (Nat × Option Obj)) : putSto σ (a ++ b) = putSto (putSto σ b) a := by
  induction a with
  | nil => rfl
  | cons p a ih =>
    obtain ⟨k, o⟩ := p
    funext i
    simp only [List.cons_append, putSto, ih]

theorem putSto_one (σ : Nat → Option Obj) (k : Nat) (o : Option Obj) (j : Nat) : putSto σ [(k, o)] j = if j = k then o else σ j := by
  simp only [putSto]
  by_cases h : j = k
  · subst h; simp [Nat.beq_refl]
  · rw [if_neg h, show Nat.beq j k = false by rw [← Bool.not_eq_true]; exact fun hh => h (Nat.eq_of_beq_eq_true hh)]; rfl

theorem mkC_nx : ∀ (s : Sh) (x : s.T) (n : Nat), (mkC s x n).nx = n + s.cnt := by
  intro s
  induction s with
  | pr a b iha ihb => intro x n; simp only [mkC, iha, ihb, Sh.cnt]; omega
  | box c ih =>
    intro x n
    have := ih x (n + 1)
    exact this.trans (by simp only [Sh.cnt]; omega)
  | _ => intro x n; rfl

/-- A new object of memory that is there. -/
theorem MemS.add (hm : MemS P fr free σ w G) {k : Nat} (hk : free k) {o : Obj} (him : G'.im = G.im)
    (hG : ∀ j, j ≠ k → G'.box j = G.box j ∧ G'.ety j = G.ety j ∧ ∀ g, G'.val j g = G.val j g)
    (ho : GLe w G w G' → ObjOK P fr w G' k o) (hb : ∀ b, blk G' k o = some b → ∀ j o', σ j = some o' → blk G j o' ≠ some b) :
    GLe w G w G' ∧ MemS P fr (fun j => free j ∧ j ≠ k) (putSto σ [(k, some o)]) w G' := by
  have hf := hm.fresh k hk
  have hle : GLe w G w G' := by
    refine ⟨him ▸ Ext.refl _ _, fun j g v h => ?_, fun j t h => ?_, fun j b h => ?_⟩
    · have : j ≠ k := fun e => by rw [e, hf.2.2.2 g] at h; cases h
      rw [(hG j this).2.2 g]; exact h
    · have : j ≠ k := fun e => by rw [e, hf.2.1] at h; cases h
      rw [(hG j this).2.1]; exact h
    · have : j ≠ k := fun e => by rw [e, hf.2.2.1] at h; cases h
      rw [(hG j this).1]; exact h
  have hmono : ∀ j o', σ j = some o' → blk G' j o' = blk G j o' := fun j o' h => blk_mono (hm.objs j o' h) hle
  refine ⟨hle, fun j o' h => ?_, fun i j o1 o2 b hi hj hbi hbj => ?_, him ▸ hm.after, fun j hj => ?_⟩
  · rw [putSto_one] at h
    by_cases e : j = k
    · rw [if_pos e] at h; cases h; subst e; exact ho hle
    · rw [if_neg e] at h
      exact (hm.objs j o' h).keep hle fun b _ => ⟨rfl, fun _ h => him ▸ h, fun h => him ▸ h⟩
  · rw [putSto_one] at hi hj
    by_cases e1 : i = k <;> by_cases e2 : j = k
    · rw [e1, e2]
    · exfalso
      rw [if_pos e1] at hi; rw [if_neg e2] at hj
      cases hi; subst e1
      rw [hmono j o2 hj] at hbj
      exact hb b hbi j o2 hj hbj
    · exfalso
      rw [if_neg e1] at hi; rw [if_pos e2] at hj
      cases hj; subst e2
      rw [hmono i o1 hi] at hbi
      exact hb b hbj i o1 hi hbi
    · rw [if_neg e1] at hi; rw [if_neg e2] at hj
      rw [hmono i o1 hi] at hbi
      rw [hmono j o2 hj] at hbj
      exact hm.sep i j o1 o2 b hi hj hbi hbj
  · have hfj := hm.fresh j hj.1
    obtain ⟨q1, q2, q3⟩ := hG j hj.2
    exact ⟨by rw [putSto_one, if_neg hj.2]; exact hfj.1, q2.trans hfj.2.1, q1.trans hfj.2.2.1, fun g => (q3 g).trans (hfj.2.2.2 g)⟩

/-- What making a datum of a shape comes to. -/
structure Made (P : Program) (fr : Fr) (free : Nat → Prop) (σ : Nat → Option Obj) (w : World) (G : Gh) (n m : Nat) (obs : List (Nat × Option Obj)) (bs : List Nat) (G' : Gh) : Prop where
  le : GLe w G w G'
  im : G'.im = G.im
  mem : MemS P fr (fun j => free j ∧ ¬ (n ≤ j ∧ j < m)) (putSto σ obs) w G'
  own : ∀ j o b, putSto σ obs j = some o → blk G' j o = some b → b ∈ bs ∨ ∃ j' o', σ j' = some o' ∧ blk G j' o' = some b

theorem Made.none (hm : MemS P fr free σ w G) {n : Nat} {bs : List Nat} : Made P fr free σ w G n n [] bs G :=
  ⟨GLe.refl _ _, rfl, hm.shrink fun _ h => h.1, fun j o b h1 h2 => .inr ⟨j, o, h1, h2⟩⟩

theorem mkOwn_ok {el : Nat} {t : Ty} {wr : Bool} {x : List t.T} {n : Nat} {cs : List Value} {bs : List Nat} (hm : MemS P fr free σ w G) (h : ShC P w G.im (.own el t wr) x cs bs)
    (hbs : ∀ b ∈ bs, fr.owned b ∧ ∀ j o, σ j = some o → blk G j o ≠ some b) (hfree : ∀ k, n ≤ k → k < n + (Sh.own el t wr).cnt → free k) :
    ∃ G', Made P fr free σ w G n (n + (Sh.own el t wr).cnt) (mkC (.own el t wr) x n).obs bs G' ∧ CR P w G' (mkC (.own el t wr) x n).sv cs ∧ Fit (mkC (.own el t wr) x n).sv (Sh.own el t wr).ty := by
  have hn := hfree n (Nat.le_refl _) (by simp [Sh.cnt])
  -- its value
  have hv : ∃ v, cs = [v] ∧ v.oneCell' = true ∧ SlOK fr w G.im el t x wr v ∧ ∀ b cap len, v = .slice (some ⟨b, 0, none⟩) len cap → b ∈ bs := by
    rcases h with ⟨rfl, h1, h2⟩ | ⟨b, cap, cells, rfl, rfl, h1, h2, h3, h4, h5, h6, h7⟩
    · exact ⟨_, rfl, rfl, .inl ⟨rfl, h1⟩, fun b cap len e => by cases e⟩
    · exact ⟨_, rfl, rfl, .inr ⟨b, cap, cells, rfl, h1, h2, h3, h4, (hbs b (by simp)).1, h5, h6, h7⟩, fun b' cap len e => by cases e; simp⟩
  obtain ⟨v, rfl, hv1, hv2, hv3⟩ := hv
  let G' : Gh := (G.addVal n 0 v).addEty n t
  have hval : G'.val n 0 = some v := by simp [G', Gh.addVal, Gh.addEty]
  have hblk : ∀ b, blk G' n (.sl el t x 0 wr) = some b → b ∈ bs := by
    intro b hb
    simp only [blk, hval] at hb
    rcases hv2 with ⟨rfl, _⟩ | ⟨b', cap, cells, rfl, _⟩
    · cases hb
    · cases hb; exact hv3 _ _ _ rfl
  obtain ⟨h1, h2⟩ := hm.add (G' := G') (o := .sl el t x 0 wr) hn rfl (fun j hj => ⟨rfl, by simp [G', Gh.addVal, Gh.addEty, hj], fun g => by simp [G', Gh.addVal, Gh.addEty, hj]⟩)
    (fun hle => ⟨by simp [G', Gh.addVal, Gh.addEty], v, hval, hv2⟩) (fun b hb j o ho => (hbs b (hblk b hb)).2 j o ho)
  refine ⟨G', ⟨h1, rfl, h2.shrink fun j hj => ⟨hj.1, fun e => hj.2 (by subst e; simp [Sh.cnt])⟩, fun j o b hj hb => ?_⟩, ⟨v, hval, hv1, rfl⟩, rfl⟩
  have hj : putSto σ [(n, some (.sl el t x 0 wr))] j = some o := hj
  rw [putSto_one] at hj
  by_cases e : j = n
  · rw [if_pos e] at hj; cases hj; subst e; exact .inl (hblk b hb)
  · rw [if_neg e] at hj
    exact .inr ⟨j, o, hj, by rw [← blk_mono (hm.objs j o hj) h1]; exact hb⟩


theorem mkMap_ok {a b : Ty} {x : List (a.T × b.T)} {n : Nat} {cs : List Value} {bs : List Nat} (hm : MemS P fr free σ w G) (h : ShC P w G.im (.omap a b) x cs bs)
    (hbs : ∀ b ∈ bs, fr.owned b ∧ ∀ j o, σ j = some o → blk G j o ≠ some b) (hfree : ∀ k, n ≤ k → k < n + 1 → free k) :
    ∃ G', Made P fr free σ w G n (n + 1) (mkC (.omap a b) x n).obs bs G' ∧ CR P w G' (mkC (.omap a b) x n).sv cs ∧ Fit (mkC (.omap a b) x n).sv (Sh.omap a b).ty := by
  have hn := hfree n (Nat.le_refl _) (by omega)
  obtain ⟨bl, ents, clock, rfl, rfl, h1, h2, h3, h4, h5⟩ := h
  let G' : Gh := G.addVal n 0 (.map (some bl))
  have hval : G'.val n 0 = some (.map (some bl)) := by simp [G', Gh.addVal]
  have hblk : ∀ c, blk G' n (.mp a b x true) = some c → c = bl := by
    intro c hc
    simp only [blk, hval, Option.some.injEq] at hc
    exact hc.symm
  have hb0 := hbs bl (by simp)
  obtain ⟨h6, h7⟩ := hm.add (G' := G') (o := .mp a b x true) hn rfl (fun j hj => ⟨rfl, rfl, fun g => by simp [G', Gh.addVal, hj]⟩)
    (fun hle => ⟨_, hval, bl, ents, clock, rfl, h1, h2, h3, ⟨fun _ => h4, fun h => by cases h⟩, h5, hb0.1⟩) (fun c hc j o ho => by rw [hblk c hc]; exact hb0.2 j o ho)
  refine ⟨G', ⟨h6, rfl, h7.shrink fun j hj => ⟨hj.1, fun e => hj.2 (by subst e; omega)⟩, fun j o c hj hc => ?_⟩, ⟨_, hval, rfl, rfl⟩, rfl⟩
  have hj : putSto σ [(n, some (.mp a b x true))] j = some o := hj
  rw [putSto_one] at hj
  by_cases e : j = n
  · rw [if_pos e] at hj; cases hj; subst e; exact .inl (by rw [hblk c hc]; simp)
  · rw [if_neg e] at hj
    exact .inr ⟨j, o, hj, by rw [← blk_mono (hm.objs j o hj) h6]; exact hc⟩

theorem mkC_ok : ∀ {s : Sh} {x : s.T} {n : Nat} {free : Nat → Prop} {σ : Nat → Option Obj} {G : Gh} {cs : List Value} {bs : List Nat}, MemS P fr free σ w G → ShC P w G.im s x cs bs → bs.Nodup →
    (∀ b ∈ bs, fr.owned b ∧ ∀ j o, σ j = some o → blk G j o ≠ some b) → (∀ k, n ≤ k → k < n + s.cnt → free k) →
    ∃ G', Made P fr free σ w G n (n + s.cnt) (mkC s x n).obs bs G' ∧ CR P w G' (mkC s x n).sv cs ∧ Fit (mkC s x n).sv s.ty := by
  intro s
  induction s with
  | val t =>
    intro x n free σ G cs bs hm h _ _ _
    exact ⟨G, Made.none hm, h.1, rfl⟩
  | hof d c =>
    intro x n free σ G cs bs hm h _ _ _
    exact ⟨G, Made.none hm, h.2, rfl⟩
  | fn f =>
    intro x n free σ G cs bs hm h _ _ _
    exact ⟨G, Made.none hm, ⟨#[], h.2, rfl⟩, rfl⟩
  | nilS =>
    intro x n free σ G cs bs hm h _ _ _
    exact ⟨G, Made.none hm, h.2, rfl⟩
  | nns e =>
    intro x n free σ G cs bs hm h _ _ _
    exact ⟨G, Made.none hm, h.2, rfl⟩
  | own el t wr =>
    intro x n free σ G cs bs hm h _ hbs hfree
    exact mkOwn_ok hm h hbs hfree
  | io el t =>
    intro x n free σ G cs bs hm h _ hbs hfree
    exact mkOwn_ok (wr := true) hm h hbs hfree
  | omap a b =>
    intro x n free σ G cs bs hm h _ hbs hfree
    exact mkMap_ok hm h hbs hfree
  | pr a b iha ihb =>
    intro x n free σ G cs bs hm h hnd hbs hfree
    obtain ⟨c, d, bs1, bs2, rfl, rfl, h1, h2⟩ := h
    have hnd' := List.nodup_append.1 hnd
    obtain ⟨G1, m1, r1, f1⟩ := ihb (n := n + a.cnt) hm h2 hnd'.2.1 (fun b hb => hbs b (List.mem_append_right _ hb)) (fun k h1 h2 => hfree k (by omega) (by simp only [Sh.cnt]; omega))
    obtain ⟨G2, m2, r2, f2⟩ := iha (n := n) (cs := c) m1.mem (by rw [m1.im]; exact h1) hnd'.1 (fun b hb => ⟨(hbs b (List.mem_append_left _ hb)).1, fun j o ho hb2 => by
      rcases m1.own j o b ho hb2 with h | ⟨j', o', h3, h4⟩
      · exact hnd'.2.2 b hb b h rfl
      · exact (hbs b (List.mem_append_left _ hb)).2 j' o' h3 h4⟩) (fun k h1 h2 => ⟨hfree k h1 (by simp only [Sh.cnt]; omega), by omega⟩)
    have e1 : (mkC (.pr a b) x n).obs = (mkC a x.1 n).obs ++ (mkC b x.2 (n + a.cnt)).obs := by
      show (mkC a x.1 n).obs ++ (mkC b x.2 (mkC a x.1 n).nx).obs = _
      rw [mkC_nx]
    have e2 : (mkC (.pr a b) x n).sv = .pr (mkC a x.1 n).sv (mkC b x.2 (n + a.cnt)).sv := by
      show SV.pr (mkC a x.1 n).sv (mkC b x.2 (mkC a x.1 n).nx).sv = _
      rw [mkC_nx]
    refine ⟨G2, ⟨m1.le.trans m2.le, m2.im.trans m1.im, ?_, ?_⟩, ?_, ?_⟩
    · rw [e1, putSto_append]
      refine m2.mem.shrink fun j hj => ⟨⟨hj.1, fun e => hj.2 ⟨by omega, by simp only [Sh.cnt]; omega⟩⟩, fun e => hj.2 ⟨e.1, by simp only [Sh.cnt]; omega⟩⟩
    · intro j o b' hj hb
      rw [e1, putSto_append] at hj
      rcases m2.own j o b' hj hb with h | ⟨j', o', h3, h4⟩
      · exact .inl (List.mem_append_left _ h)
      · rcases m1.own j' o' b' h3 h4 with h | h
        · exact .inl (List.mem_append_right _ h)
        · exact .inr h
    · rw [e2]
      exact ⟨c, d, rfl, r2, r1.mono m2.le⟩
    · rw [e2]
      exact ⟨a.ty, b.ty, rfl, f2, f1⟩
  | box c ih =>
    intro x n free σ G cs bs hm h hnd hbs hfree
    obtain ⟨b, cells, el, bs', rfl, rfl, h1, h2, h3, h4, h5⟩ := h
    have hnd' := List.nodup_cons.1 hnd
    obtain ⟨G1, m1, r1, f1⟩ := ih (n := n + 1) hm h3 hnd'.2 (fun b hb => hbs b (List.mem_cons_of_mem _ hb)) (fun k h1 h2 => hfree k (by omega) (by simp only [Sh.cnt]; omega))
    let G2 : Gh := G1.addBox n b c.ty
    have hbox : G2.box n = some (b, c.ty) := by simp [G2, Gh.addBox]
    have hb0 := hbs b List.mem_cons_self
    have him : G2.im = G.im := m1.im
    obtain ⟨q1, q2⟩ := m1.mem.add (G' := G2) (o := .box c.ty (mkC c x (n + 1)).sv true) (k := n) ⟨hfree n (Nat.le_refl _) (by simp only [Sh.cnt]; omega), by omega⟩ rfl
      (fun j hj => ⟨by simp [G2, Gh.addBox, hj], rfl, fun _ => rfl⟩)
      (fun hle => ⟨b, cells, el, hbox, h1, h2, f1, r1.mono hle, ⟨fun _ o => by rw [him]; exact h4 o, fun h => by cases h⟩, by rw [him]; exact h5, hb0.1⟩)
      (fun b' hb' j o ho hbj => by
        simp only [blk, hbox, Option.map_some, Option.some.injEq] at hb'
        subst hb'
        rcases m1.own j o b ho hbj with h | ⟨j', o', h3, h4⟩
        · exact hnd'.1 h
        · exact hb0.2 j' o' h3 h4)
    have e1 : (mkC (.box c) x n).obs = [(n, some (.box c.ty (mkC c x (n + 1)).sv true))] ++ (mkC c x (n + 1)).obs := rfl
    refine ⟨G2, ⟨m1.le.trans q1, him, ?_, ?_⟩, ⟨b, c.ty, 0, hbox, by cases c.ty <;> rfl, ⟨c.ty, by cases c.ty <;> rfl, rfl⟩, rfl⟩, rfl⟩
    · rw [e1, putSto_append]
      exact q2.shrink fun j hj => ⟨⟨hj.1, fun e => hj.2 ⟨by omega, by simp only [Sh.cnt]; omega⟩⟩, fun e => hj.2 ⟨by omega, by simp only [Sh.cnt]; omega⟩⟩
    · intro j o b' hj hb
      rw [e1, putSto_append, putSto_one] at hj
      by_cases e : j = n
      · rw [if_pos e] at hj; cases hj; subst e
        simp only [blk, hbox, Option.map_some, Option.some.injEq] at hb
        subst hb; exact .inl List.mem_cons_self
      · rw [if_neg e] at hj
        rw [blk_mono (m1.mem.objs j o hj) q1] at hb
        rcases m1.own j o b' hj hb with h | h
        · exact .inl (List.mem_cons_of_mem _ h)
        · exact .inr h

end
end Go.Ev
