/-
  SLICES OF THE CALL'S OWN: made, appended to.
-/
import Derived.Test.YtncjpbogjfibfaaGreatDoorEvM4
set_option linter.unusedVariables false
set_option linter.unusedSimpArgs false
namespace Go.Ev

section
variable {P : Program} {fr : Fr} {free free' : Nat → Prop} {self : Nat} {σ σ' : Nat → Option Obj} {w w' : World} {G G' : Gh} {I : Im}

theorem MemS.drop (hm : MemS P fr free σ w G) (k : Nat) : MemS P fr free (putSto σ [(k, none)]) w G := by
  have hput : ∀ j o, putSto σ [(k, none)] j = some o → σ j = some o := by
    intro j o h
    simp only [putSto] at h
    cases hb : Nat.beq j k with
    | true => rw [hb] at h; cases h
    | false => rw [hb] at h; exact h
  refine ⟨fun j o h => hm.objs j o (hput j o h), fun i j o o' b hi hj => hm.sep i j o o' b (hput i o hi) (hput j o' hj), hm.after, fun j hj => ?_⟩
  obtain ⟨h1, h2⟩ := hm.fresh j hj
  refine ⟨?_, h2⟩
  cases h : putSto σ [(k, none)] j with
  | none => rfl
  | some o => rw [hput j o h] at h1; cases h1

/-- A block becomes a new slice of the call's own. -/
theorem MemS.take_sl (hm : MemS P fr free σ w G) (hself : free self) {b el cap : Nat} {t : Ty} {xs : List t.T} {wr : Bool} {cs : Array Value}
    (hb : ∀ j o, σ j = some o → blk G j o ≠ some b) (hown : fr.owned b)
    (hw : ∀ b', b' < w.heap.size → b' ≠ b → w'.heap[b']? = w.heap[b']?) (hsz : w.heap.size ≤ w'.heap.size)
    (hos : w'.os = w.os) (htape : w'.tape = w.tape) (hout : w'.output = w.output)
    (hcap : LenOK xs.length cap) (hcs : w'.heap[b]? = some (.cells cs el (0, 0))) (hsize : cs.size = cap * t.sz)
    (hrows : RowsOK w G.im t xs cs.toList)
    (hW : wr = true → ∀ o, ¬ G.im.cell b o) (hA : ∀ o, G.im.cell b o → o < xs.length * t.sz ∧ w'.cell? ⟨b, o, none⟩ = w.cell? ⟨b, o, none⟩) (hO : ¬ G.im.obj b) :
    ∃ G', GLe w G w' G' ∧ MemS P fr (freeBut free self) (putSto σ [(self, some (.sl el t xs 0 wr))]) w' G' ∧ SR P w' G' (.obj self 0) (.slice (some ⟨b, 0, none⟩) xs.length cap) := by
  have hf := hm.fresh self hself
  let I' : Im := bif wr then G.im else ⟨fun b' o => G.im.cell b' o ∨ (b' = b ∧ o < xs.length * t.sz), G.im.obj⟩
  let G' : Gh := { ((G.addVal self 0 (.slice (some ⟨b, 0, none⟩) xs.length cap)).addEty self t) with im := I' }
  have hI : ∀ b' o, G.im.cell b' o → I'.cell b' o := by
    intro b' o h
    cases wr with
    | true => exact h
    | false => exact .inl h
  have hI2 : ∀ b' o, I'.cell b' o → G.im.cell b' o ∨ (wr = false ∧ b' = b ∧ o < xs.length * t.sz) := by
    intro b' o h
    cases wr with
    | true => exact .inl h
    | false => exact h.imp id (fun h => ⟨rfl, h⟩)
  have hIO : I'.obj = G.im.obj := by cases wr <;> rfl
  have hbs : b < w'.heap.size := lt_of_heap hcs
  have hle : GLe w G w' G' := by
    refine ⟨⟨fun b' o h => ⟨hI b' o h, ?_⟩, fun b' h => ⟨hIO ▸ h, ?_⟩⟩, fun k g v h => ?_, fun k t h => ?_, fun k b h => h⟩
    · by_cases hbb : b' = b
      · subst hbb; exact (hA o h).2
      · simp only [World.cell?, hw b' (hm.after.inC b' o h) hbb]
    · exact hw b' (hm.after.inO b' h) (fun e => hO (e ▸ h))
    · have : k ≠ self := fun e => by rw [e, hf.2.2.2 g] at h; cases h
      simp only [G', Gh.addVal, Gh.addEty, this, false_and, if_false]; exact h
    · have : k ≠ self := fun e => by rw [e, hf.2.1] at h; cases h
      simp only [G', Gh.addVal, Gh.addEty, this, if_false]; exact h
  have hval : G'.val self 0 = some (.slice (some ⟨b, 0, none⟩) xs.length cap) := by simp [G', Gh.addVal, Gh.addEty]
  refine ⟨G', hle, hm.change (b := b) hle (fun j o _ ho => hb j o ho) hw hsz hbs hown ?_ (fun b' h => .inl (hIO ▸ h)) hos htape hout ?_ ?_, ⟨_, rfl, _, hval, rfl, rfl⟩⟩
  · intro b' o h
    exact (hI2 b' o h).imp id (fun h => h.2.1)
  · intro o ho
    cases ho
    refine ⟨⟨by simp [G', Gh.addVal, Gh.addEty], _, hval, .inr ⟨b, cap, cs, rfl, hcap, hcs, hsize, hrows.ext hle.ext, hown, ?_, ?_, fun h => hO (hIO ▸ h)⟩⟩, .inl (by simp [blk, hval])⟩
    · intro hwr o h
      rcases hI2 b o h with h1 | ⟨h1, _⟩
      · exact hW hwr o h1
      · rw [hwr] at h1; cases h1
    · intro hwr o
      refine ⟨fun h => ?_, fun h => ?_⟩
      · show I'.cell b o
        simp only [I', hwr, cond_false]
        exact .inr ⟨by first | rfl | trivial, h⟩
      · rcases hI2 b o h with h1 | ⟨_, _, h1⟩
        · exact (hA o h1).1
        · exact h1
  · intro j hj
    have hne : j ≠ self := fun e => by
      subst e
      have := hj.2
      rw [inSelf_self] at this; cases this
    have hfj := hm.fresh j hj.1
    refine ⟨hne, hj.1, ?_, hfj.2.2.1, fun g => ?_⟩
    · simp only [G', Gh.addVal, Gh.addEty, hne, if_false]; exact hfj.2.1
    · simp only [G', Gh.addVal, Gh.addEty, hne, false_and, if_false]; exact hfj.2.2.2 g

/-- The nil slice as a new slice of the call's own. -/
theorem MemS.nil_sl (hm : MemS P fr free σ w G) (hself : free self) {el : Nat} {t : Ty} {wr : Bool} :
    ∃ G', GLe w G w G' ∧ MemS P fr (freeBut free self) (putSto σ [(self, some (.sl el t [] 0 wr))]) w G' ∧ SR P w G' (.obj self 0) (.slice none 0 0) := by
  have hf := hm.fresh self hself
  let G' : Gh := (G.addVal self 0 (.slice none 0 0)).addEty self t
  have hle : GLe w G w G' := by
    refine ⟨Ext.refl _ _, fun k g v h => ?_, fun k t h => ?_, fun k b h => h⟩
    · have : k ≠ self := fun e => by rw [e, hf.2.2.2 g] at h; cases h
      simp only [G', Gh.addVal, Gh.addEty, this, false_and, if_false]; exact h
    · have : k ≠ self := fun e => by rw [e, hf.2.1] at h; cases h
      simp only [G', Gh.addVal, Gh.addEty, this, if_false]; exact h
  have hval : G'.val self 0 = some (.slice none 0 0) := by simp [G', Gh.addVal, Gh.addEty]
  have hput : ∀ j, putSto σ [(self, some (.sl el t [] 0 wr))] j = if j = self then some (.sl el t [] 0 wr) else σ j := by
    intro j
    simp only [putSto]
    by_cases h : j = self
    · subst h; simp [Nat.beq_refl]
    · rw [if_neg h, show Nat.beq j self = false by rw [← Bool.not_eq_true]; exact fun hh => h (Nat.eq_of_beq_eq_true hh)]; rfl
  have hblk : blk G' self (.sl el t [] 0 wr) = none := by simp [blk, hval]
  refine ⟨G', hle, ⟨fun j o ho => ?_, fun i j o o' b hi hj hbi hbj => ?_, hm.after, fun j hj => ?_⟩, ⟨_, rfl, _, hval, rfl, rfl⟩⟩
  · rw [hput] at ho
    by_cases h : j = self
    · rw [if_pos h] at ho; cases ho; subst h
      exact ⟨by simp [G', Gh.addVal, Gh.addEty], _, hval, .inl ⟨rfl, rfl⟩⟩
    · rw [if_neg h] at ho
      exact (hm.objs j o ho).keep hle fun b _ => ⟨rfl, fun _ h => h, fun h => h⟩
  · rw [hput] at hi hj
    by_cases h1 : i = self
    · rw [if_pos h1] at hi; cases hi; subst h1; rw [hblk] at hbi; cases hbi
    · by_cases h2 : j = self
      · rw [if_pos h2] at hj; cases hj; subst h2; rw [hblk] at hbj; cases hbj
      · rw [if_neg h1] at hi; rw [if_neg h2] at hj
        exact hm.sep i j o o' b hi hj (by rw [← blk_mono (hm.objs i o hi) hle]; exact hbi) (by rw [← blk_mono (hm.objs j o' hj) hle]; exact hbj)
  · have hne : j ≠ self := fun e => by
      subst e
      have := hj.2
      rw [inSelf_self] at this; cases this
    have hfj := hm.fresh j hj.1
    refine ⟨by rw [hput, if_neg hne]; exact hfj.1, ?_, hfj.2.2.1, fun g => ?_⟩
    · simp only [G', Gh.addVal, Gh.addEty, hne, if_false]; exact hfj.2.1
    · simp only [G', Gh.addVal, Gh.addEty, hne, false_and, if_false]; exact hfj.2.2.2 g

/-- A new row. -/
theorem MemS.new_sl (hm : MemS P fr free σ w G) (hself : free self) {el cap : Nat} {t : Ty} {xs : List t.T} {wr : Bool} {cs : Array Value}
    (hw : w'.heap = w.heap.push (.cells cs el (0, 0))) (hos : w'.os = w.os) (htape : w'.tape = w.tape) (hout : w'.output = w.output)
    (hcap : LenOK xs.length cap) (hsize : cs.size = cap * t.sz) (hrows : RowsOK w G.im t xs cs.toList) :
    ∃ G', GLe w G w' G' ∧ MemS P fr (freeBut free self) (putSto σ [(self, some (.sl el t xs 0 wr))]) w' G' ∧ SR P w' G' (.obj self 0) (.slice (some ⟨w.heap.size, 0, none⟩) xs.length cap) :=
  hm.take_sl hself (fun j o ho h => absurd (blk_lt (hm.objs j o ho) h) (Nat.lt_irrefl _)) hm.owned_new
    (fun b' h _ => by rw [hw, Array.getElem?_push_lt h, Array.getElem?_eq_getElem h]) (by rw [hw]; simp) hos htape hout hcap (by rw [hw, Array.getElem?_push_size]) hsize hrows
    (fun _ o h => absurd (hm.after.inC _ _ h) (Nat.lt_irrefl _)) (fun o h => absurd (hm.after.inC _ _ h) (Nat.lt_irrefl _)) (fun h => absurd (hm.after.inO _ h) (Nat.lt_irrefl _))

end
end Go.Ev
