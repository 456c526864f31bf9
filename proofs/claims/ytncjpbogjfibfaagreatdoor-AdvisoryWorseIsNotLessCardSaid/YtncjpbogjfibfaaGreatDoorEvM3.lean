/-
  NEW BLOCKS: alloc, box, rows.
-/
import Derived.Test.YtncjpbogjfibfaaGreatDoorEvM2
import Derived.Deep.AppendSrc
set_option linter.unusedVariables false
set_option linter.unusedSimpArgs false
namespace Go.Ev

def Gh.addBox (G : Gh) (k b : Nat) (t : Ty) : Gh := { G with box := fun j => if j = k then some (b, t) else G.box j }
def Gh.addVal (G : Gh) (k g : Nat) (v : Value) : Gh := { G with val := fun j h => if j = k ∧ h = g then some v else G.val j h }
def Gh.addEty (G : Gh) (k : Nat) (t : Ty) : Gh := { G with ety := fun j => if j = k then some t else G.ety j }
/-- The cells of a block, from one on to another one, no more turn. -/
def Gh.addIm (G : Gh) (b lo hi : Nat) : Gh := { G with im := ⟨fun b' o => G.im.cell b' o ∨ (b' = b ∧ lo ≤ o ∧ o < hi), G.im.obj⟩ }

theorem inSelf_self (k : Nat) : inSelf k k = true := by
  simp only [inSelf, Nat.blt, Bool.and_eq_true]
  exact ⟨Nat.ble_eq_true_of_le (Nat.le_refl k), Nat.ble_eq_true_of_le (by omega)⟩

section
variable {P : Program} {fr : Fr} {free free' : Nat → Prop} {self : Nat} {σ σ' : Nat → Option Obj} {w w' : World} {G G' : Gh}

theorem MemS.owned_new (hm : MemS P fr free σ w G) : fr.owned w.heap.size := .inl hm.after.size

/-- A new block, for a new key. -/
theorem MemS.new (hm : MemS P fr free σ w G) (hself : free self) {ob : Go.Obj} {o' : Obj}
    (hw : w'.heap = w.heap.push ob) (hos : w'.os = w.os) (htape : w'.tape = w.tape) (hout : w'.output = w.output)
    (hI : ∀ b off, G.im.cell b off → G'.im.cell b off) (hC : ∀ b off, G'.im.cell b off → G.im.cell b off ∨ b = w.heap.size) (hO : G'.im.obj = G.im.obj)
    (hv : ∀ j, j ≠ self → G'.box j = G.box j ∧ G'.ety j = G.ety j ∧ ∀ g, G'.val j g = G.val j g)
    (hk : w'.heap[w.heap.size]? = some ob → GLe w G w' G' → ObjOK P fr w' G' self o' ∧ (blk G' self o' = some w.heap.size ∨ blk G' self o' = none)) :
    GLe w G w' G' ∧ MemS P fr (freeBut free self) (putSto σ [(self, some o')]) w' G' := by
  have hf := hm.fresh self hself
  have hold : ∀ b, b < w.heap.size → w'.heap[b]? = w.heap[b]? := fun b hb => by rw [hw, Array.getElem?_push_lt hb, Array.getElem?_eq_getElem hb]
  have hnew : w'.heap[w.heap.size]? = some ob := by rw [hw, Array.getElem?_push_size]
  have hle : GLe w G w' G' := by
    refine ⟨⟨fun b o h => ⟨hI b o h, ?_⟩, fun b h => ⟨hO ▸ h, hold b (hm.after.inO b h)⟩⟩, fun k g v h => ?_, fun k t h => ?_, fun k b h => ?_⟩
    · simp only [World.cell?, hold b (hm.after.inC b o h)]
    · have : k ≠ self := fun e => by rw [e, hf.2.2.2 g] at h; cases h
      rw [(hv k this).2.2 g]; exact h
    · have : k ≠ self := fun e => by rw [e, hf.2.1] at h; cases h
      rw [(hv k this).2.1]; exact h
    · have : k ≠ self := fun e => by rw [e, hf.2.2.1] at h; cases h
      rw [(hv k this).1]; exact h
  obtain ⟨h1, h2⟩ := hk hnew hle
  refine ⟨hle, hm.change (b := w.heap.size) hle ?_ (fun b' h _ => hold b' h) (by rw [hw]; simp) (by rw [hw]; simp) hm.owned_new hC (fun b' h => .inl (hO ▸ h)) hos htape hout ?_ ?_⟩
  · intro j o _ ho hb
    exact absurd (blk_lt (hm.objs j o ho) hb) (Nat.lt_irrefl _)
  · intro o ho; cases ho; exact ⟨h1, h2⟩
  · intro j hj
    have hne : j ≠ self := fun e => by
      subst e
      have := hj.2
      rw [inSelf_self] at this; cases this
    have hfj := hm.fresh j hj.1
    obtain ⟨q1, q2, q3⟩ := hv j hne
    exact ⟨hne, hj.1, q2.trans hfj.2.1, q1.trans hfj.2.2.1, fun g => (q3 g).trans (hfj.2.2.2 g)⟩

/-- What a variable's content is, without its mark. -/
theorem unagg_ok {t : Ty} {x : t.T} {c : List Value} (h : Rel w G.im t x c) : Fit (SV.unagg (.val t x)) t.bare ∧ CR P w G (SV.unagg (.val t x)) c := by
  cases t with
  | agg p => 
    refine ⟨?_, h⟩
    show p.bare = p.bare
    rfl
  | _ => exact ⟨rfl, h⟩

theorem zeroC_ok : ∀ {t : Ty} {l r : List Value}, zc t l = some r → ∃ c, l = c ++ r ∧ CR P w G (zeroC t) c ∧ Fit (zeroC t) t ∧ c.length = t.sz := by
  intro t
  have base : ∀ {t : Ty} {l r : List Value}, zeroC t = .val t t.dflt → zc t l = some r → ∃ c, l = c ++ r ∧ CR P w G (zeroC t) c ∧ Fit (zeroC t) t ∧ c.length = t.sz := by
    intro t l r hz h
    obtain ⟨c, h1, h2⟩ := zc_ok (w := w) (I := G.im) h
    rw [hz]
    exact ⟨c, h1, h2, rfl, h2.length⟩
  have pair : ∀ {a b : Ty} (_ : ∀ {l r : List Value}, zc a l = some r → ∃ c, l = c ++ r ∧ CR P w G (zeroC a) c ∧ Fit (zeroC a) a ∧ c.length = a.sz)
      (_ : ∀ {l r : List Value}, zc b l = some r → ∃ c, l = c ++ r ∧ CR P w G (zeroC b) c ∧ Fit (zeroC b) b ∧ c.length = b.sz) {l r : List Value}, zc (.prod a b) l = some r →
      ∃ c, l = c ++ r ∧ CR P w G (.pr (zeroC a) (zeroC b)) c ∧ (Fit (zeroC a) a ∧ Fit (zeroC b) b) ∧ c.length = a.sz + b.sz := by
    intro a b ha hb l r h
    simp only [zc] at h
    split at h
    · rename_i r' hr
      obtain ⟨c1, rfl, h2, h3, h4⟩ := ha hr
      obtain ⟨c2, rfl, k2, k3, k4⟩ := hb h
      exact ⟨c1 ++ c2, by simp, ⟨c1, c2, rfl, h2, k2⟩, ⟨h3, k3⟩, by simp [h4, k4]⟩
    · cases h
  have slc : ∀ {e : Ty} {l r : List Value}, zc (.slice e) l = some r → ∃ c, l = c ++ r ∧ c = [Value.slice none 0 0] := by
    intro e l r h
    simp only [zc] at h
    split at h
    · cases h; exact ⟨[_], rfl, rfl⟩
    · cases h
  -- by the size of a type
  have key : ∀ (n : Nat) (t : Ty), SizeOf.sizeOf t < n → ∀ {l r : List Value}, zc t l = some r → ∃ c, l = c ++ r ∧ CR P w G (zeroC t) c ∧ Fit (zeroC t) t ∧ c.length = t.sz := by
    intro n
    induction n with
    | zero => intro t h; omega
    | succ n ih =>
      intro t hn l r h
      cases t with
      | prod a b =>
        simp only [Ty.prod.sizeOf_spec] at hn
        obtain ⟨c, h1, h2, h3, h4⟩ := pair (ih a (by omega)) (ih b (by omega)) h
        exact ⟨c, h1, h2, ⟨a, b, rfl, h3.1, h3.2⟩, h4⟩
      | slice e =>
        obtain ⟨c, h1, rfl⟩ := slc h
        exact ⟨_, h1, rfl, rfl, rfl⟩
      | agg p =>
        cases p with
        | prod a b =>
          simp only [Ty.agg.sizeOf_spec, Ty.prod.sizeOf_spec] at hn
          obtain ⟨c, h1, h2, h3, h4⟩ := pair (ih a (by omega)) (ih b (by omega)) (show zc (.prod a b) l = some r from h)
          exact ⟨c, h1, h2, ⟨a, b, rfl, h3.1, h3.2⟩, h4⟩
        | _ => exact base rfl h
      | _ => exact base rfl h
  intro l r h
  exact key (SizeOf.sizeOf t + 1) t (by omega) h

theorem newVarC_ok {t : Ty} {id : Nat} (hm : MemS P fr free σ w G) (hself : free self) {c : SV} {cs : Array Value} (hc : CR P w G c cs.toList) (hf : Fit c t) (hl : cs.size = t.sz) :
    ∃ G', GLe w G (w.alloc (.cells cs id)) G' ∧ MemS P fr (freeBut free self) (putSto σ [(self, some (.box t c true))]) (w.alloc (.cells cs id)) G' ∧
      SR P (w.alloc (.cells cs id)) G' (.ptr self [] t) (.pointer (some ⟨w.heap.size, 0, none⟩)) := by
  obtain ⟨h1, h2⟩ := hm.new (w' := w.alloc (.cells cs id)) (G' := G.addBox self w.heap.size t) (o' := .box t c true) hself rfl rfl rfl rfl
    (fun _ _ h => h) (fun _ _ h => .inl h) rfl (fun j hj => ⟨by simp [Gh.addBox, hj], rfl, fun _ => rfl⟩) (fun hn hle =>
      ⟨⟨w.heap.size, cs, id, by simp [Gh.addBox], hn, hl, hf, hc.mono hle, ⟨fun _ o ho => absurd (hm.after.inC _ _ ho) (Nat.lt_irrefl _), fun h => by cases h⟩, fun ho => absurd (hm.after.inO _ ho) (Nat.lt_irrefl _), hm.owned_new⟩, .inl (by simp [blk, Gh.addBox])⟩)
  refine ⟨_, h1, h2, _, rfl, w.heap.size, t, 0, by simp [Gh.addBox], by cases t <;> rfl, ⟨t, by cases t <;> rfl, rfl⟩, rfl⟩

theorem zeroValue_ok {t : Ty} {id : Nat} (hl : Lay P t id) : ∃ v, (zeroValue id).run P w = .ok v w ∧ VRel w G.im t t.dflt v := by
  obtain ⟨i, v, h1, h2, h3, h4, h5⟩ := inf_ok hl.inf
  refine ⟨v, ?_, (zv_ok h5).1⟩
  simp [zeroValue, typeInfo, h1, h4]

theorem run_newVar (t : Nat) (v : Value) : (newVar t v).run P w = .ok ⟨w.heap.size, 0, none⟩ (w.alloc (.cells v.cells t)) := by
  simp [newVar, newRow]

theorem zero_cells {t : Ty} {v : Value} (h : zv t v = true) : CR P w G (zeroC t.bare) v.cells.toList ∧ Fit (zeroC t.bare) t.bare ∧ v.cells.size = t.bare.sz := by
  have ag : ∀ {t : Ty} {l : List Value}, zv1 t l = true → CR P w G (zeroC t) l ∧ Fit (zeroC t) t ∧ l.length = t.sz := by
    intro t l h
    unfold zv1 at h
    split at h
    · rename_i hz
      obtain ⟨c, h1, h2, h3, h4⟩ := zeroC_ok (P := P) (w := w) (G := G) hz
      rw [List.append_nil] at h1
      rw [h1]; exact ⟨h2, h3, h4⟩
    · cases h
  cases t with
  | agg t =>
    simp only [zv] at h
    split at h
    · rename_i cs
      obtain ⟨h1, h2, h3⟩ := ag h
      exact ⟨h1, h2, (Array.length_toList (xs := cs)).symm.trans h3⟩
    · cases h
  | arr n e =>
    simp only [zv] at h
    split at h
    · rename_i cs
      obtain ⟨h1, h2, h3⟩ := ag h
      exact ⟨h1, h2, (Array.length_toList (xs := cs)).symm.trans h3⟩
    · cases h
  | _ =>
    simp only [zv] at h
    split at h
    · cases h
    · rename_i hv
      obtain ⟨h1, h2, h3⟩ := ag h
      rw [Value.cells_of_not_agg hv]
      exact ⟨h1, h2, h3⟩

theorem alloc_ok {t : Ty} {id : Nat} (hl : Lay P t id) (hm : MemS P fr free σ w G) (hself : free self) :
    ∃ v w', (Instr.alloc id true (.tuple #[])).run P w = .ok v w' ∧
      Res P fr free self σ w G ⟨.ptr self [] t.bare, [(self, some (.box t.bare (zeroC t.bare) true))]⟩ v w' := by
  obtain ⟨i, z, h1, h2, h3, h4, h5⟩ := inf_ok hl.inf
  have hz : (zeroValue id).run P w = .ok z w := by simp [zeroValue, typeInfo, h1, h4]
  obtain ⟨c1, c2, c3⟩ := zero_cells (P := P) (w := w) (G := G) h5
  obtain ⟨G', g1, g2, g3⟩ := newVarC_ok (id := id) hm hself c1 c2 c3
  refine ⟨_, _, ?_, G', g1, g2, g3⟩
  simp only [Instr.alloc, Sem.run_bind, hz, Result.andThen_ok, run_newVar]
  rfl

theorem box_ok {t : Ty} {id : Nat} (hl : Lay P t id) (hm : MemS P fr free σ w G) (hself : free self) {s c : SV} {v : Value} (hs : storable t s = some c) (h : SR P w G s v) :
    ∃ z w', (Instr.box id v).run P w = .ok z w' ∧
      Res P fr free self σ w G ⟨.ptr self [] t.bare, [(self, some (.box t.bare c.unagg true))]⟩ z w' := by
  have hc : CR P w G c.unagg v.cells.toList ∧ Fit c.unagg t.bare ∧ v.cells.size = t.bare.sz := by
    have hd : ∀ {x : t.T}, c = .val t x → VRel w G.im t x v → CR P w G c.unagg v.cells.toList ∧ Fit c.unagg t.bare ∧ v.cells.size = t.bare.sz := by
      intro x hx hv
      subst hx
      have hr := hv.cells
      obtain ⟨f1, f2⟩ := unagg_ok (P := P) hr
      have hlen := hr.length
      exact ⟨f2, f1, by rw [Ty.sz_bare]; simpa using hlen⟩
    have h1 : ∀ {s : SV}, (∀ u x, s ≠ .val u x) → SR P w G s v → v.cells = #[v] → CR P w G s v.cells.toList := by
      intro s hn hs hv
      rw [hv]
      exact SR.one hs hn
    unfold storable at hs
    split at hs
    · rename_i k g
      have hone := obj_one h
      have hv : v.cells = #[v] := by cases v <;> first | rfl | cases hone
      cases t <;> first | (cases hs; done) | skip
      all_goals
        cases hs
        exact ⟨h1 (fun _ _ e => by cases e) h hv, rfl, by rw [hv]; rfl⟩
    · rename_i k p u
      obtain ⟨b, t', o, _, _, _, rfl⟩ := ptr_inv h
      cases t <;> first | (cases hs; done) | skip
      cases hs
      exact ⟨h1 (fun _ _ e => by cases e) h rfl, rfl, rfl⟩
    · cases hx : SV.as t s with
      | none => rw [hx] at hs; cases hs
      | some x =>
        rw [hx] at hs
        cases hs
        exact hd rfl (as_ok hx h)
  obtain ⟨c1, c2, c3⟩ := hc
  obtain ⟨G', g1, g2, g3⟩ := newVarC_ok (id := id) hm hself c1 c2 c3
  refine ⟨_, _, ?_, G', g1, g2, g3⟩
  simp only [Instr.box, Sem.run_bind, run_newVar, Result.andThen_ok]
  rfl

end
end Go.Ev
