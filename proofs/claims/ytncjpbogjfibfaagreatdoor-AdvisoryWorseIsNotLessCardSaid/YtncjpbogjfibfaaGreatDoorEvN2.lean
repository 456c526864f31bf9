/-
  ONE OPERATION: all of them.
-/
import Derived.Test.YtncjpbogjfibfaaGreatDoorEvN
import Derived.Test.YtncjpbogjfibfaaGreatDoorEvM13
set_option linter.unusedVariables false
set_option linter.unusedSimpArgs false
namespace Go.Ev

section
variable {P : Program} {fr : Fr} {free free' : Nat → Prop} {self : Nat} {σ σ' : Nat → Option Obj} {w w' : World} {G G' : Gh} {I : Im}

theorem parts_ok {ps : Array (Nat × Operand)} {ρ : Operand → SV} {a : Act} (h : ∀ p ∈ ps.toList, SR P w G (ρ p.2) (a.eval p.2)) :
    ∀ (j : Nat) (q : Nat × SV) (u : Nat × Value), (ps.toList.map fun p => (p.1, ρ p.2))[j]? = some q → (ps.map fun p => (p.1, a.eval p.2)).toList[j]? = some u → q.1 = u.1 ∧ SR P w G q.2 u.2 := by
  intro j q u h1 h2
  rw [List.getElem?_map] at h1
  rw [Array.toList_map, List.getElem?_map] at h2
  cases hp : ps.toList[j]? with
  | none => rw [hp] at h1; cases h1
  | some p =>
    rw [hp] at h1 h2
    cases h1
    cases h2
    exact ⟨rfl, h p (List.mem_of_getElem? hp)⟩

theorem opAppend_ok {t : Ty} {id el ty : Nat} {wf : Bool} (hl : Lay P t id) (hel : ∀ x, P.underlying id = some (.slice x) → el = x) (hm : MemS P fr free σ w G) (hσ : ∀ k o, σ' k = some o → σ k = some o) (hself : free self)
    {s x : SV} {v vx : Value} {r : OpRes} {u : Upd} (hr : opAppend σ' wf self el t s x = some r) (hu : Gives r u) (hs : SR P w G s v) (hx : SR P w G x vx) :
    ∃ z w', (Builtin.append_ #[id, id] ty #[v, vx]).run P w = .ok z w' ∧ Res P fr free self σ w G u z w' := by
  have ho : ∀ k o, σ' k = some o → ObjOK P fr w G k o := fun k o h => hm.objs k o (hσ k o h)
  unfold opAppend at hr
  split at hr
  · rename_i e
    split at hr
    · rename_i ys hys
      have hv : VRel w G.im (.slice e) ys vx := asV_ok ho hys hx
      split at hr
      · have hr := Option.some.inj hr
        subst hr
        obtain ⟨zs, hz, rfl⟩ := hu.may_inv
        obtain ⟨c, h1, h2⟩ := hs
        have h2 : c = [.slice none 0 0] := h2
        have hv0 : v = .slice none 0 0 := List.singleton_inj.1 ((show c = [v] from h1).symm.trans h2)
        subst hv0
        exact append_nil_ok hl hel hm hself hv hz
      · rename_i k g
        split at hr
        · rename_i id' e' xs g' w' hk
          cases hg : (Nat.beq g 0 && (Nat.beq g' 0 && Nat.beq el id')) with
          | false => rw [hg] at hr; cases hr
          | true =>
            rw [hg] at hr
            simp only [cond_true] at hr
            simp only [Bool.and_eq_true] at hg
            have e1 := Nat.eq_of_beq_eq_true hg.1
            have e2 := Nat.eq_of_beq_eq_true hg.2.1
            have e3 := Nat.eq_of_beq_eq_true hg.2.2
            subst e1 e2 e3
            split at hr
            · rename_i xs' hxs
              have hr := Option.some.inj hr
              subst hr
              obtain ⟨zs, hz, rfl⟩ := hu.may_inv
              obtain ⟨et, ex⟩ := Ty.cast?_some hxs
              have et' : e' = e := by injection et
              subst et'
              cases ex
              exact append_ok hl hel hm hself (hσ _ _ hk) hs hv hz
            · cases hr
        · cases hr
      · cases hr
    · cases hr
  · cases hr

theorem opV_ok {E : Env} (hE : EnvOK P E) (hm : MemS P fr free σ w G) (hσ : ∀ k o, σ' k = some o → σ k = some o) (hfree : ∀ k, self ≤ k → k < self + 8 → free k) {o : Oper} {a : Act} {ρ ρt ρf : Operand → SV}
    (hρ : (∀ c x y, o.op ≠ .pick c x y) → ∀ x ∈ o.op.operands, SR P w G (ρ x) (a.eval x))
    (hpick : ∀ c x y, o.op = .pick c x y → SR P w G (ρ c) (a.eval c) ∧ (a.eval c = .bool true → SR P w G (ρt x) (a.eval x)) ∧ (a.eval c = .bool false → SR P w G (ρf y) (a.eval y)))
    {r : OpRes} {u : Upd} (hr : opV E ρ ρt ρf σ' self o = some r) (hu : Gives r u) : Done P o a w (Res P fr free self σ w G u) := by
  have hself : free self := hfree self (Nat.le_refl _) (by omega)
  have ho : ∀ k o, σ' k = some o → ObjOK P fr w G k o := fun k o h => hm.objs k o (hσ k o h)
  unfold opV at hr
  cases hop : o.op with
  | move x =>
    rw [hop] at hr
    have hr := Option.some.inj hr
    subst hr; rw [hu.v_inv]
    exact Done.calm hm ⟨rfl, _, by simp [execOp, hop], hρ (by simp [hop]) x (by simp [hop, Op.operands])⟩
  | assign x =>
    rw [hop] at hr
    have hr := Option.some.inj hr
    subst hr; rw [hu.v_inv]
    exact Done.calm hm ⟨rfl, _, by simp [execOp, hop], hρ (by simp [hop]) x (by simp [hop, Op.operands])⟩
  | pick c x y =>
    rw [hop] at hr
    obtain ⟨h1, h2, h3⟩ := hpick c x y hop
    obtain ⟨e1, b, e2, e3⟩ := opPick_ok (P := P) (w := w) (G := G) hr hu h1 h2 h3
    exact Done.calm hm ⟨e1, _, by simp [execOp, hop, e2, asBool], e3⟩
  | alloc t =>
    rw [hop] at hr
    simp only at hr
    split at hr
    · rename_i ty hty
      have hr := Option.some.inj hr
      subst hr; rw [hu.pure_inv]
      obtain ⟨z, w', h1, h2⟩ := alloc_ok (hE.ty _ _ hty) hm hself
      exact Done.makes ⟨z, w', by simp [execOp, hop, h1], h2⟩
    · cases hr
  | box t x =>
    rw [hop] at hr
    simp only at hr
    split at hr
    · rename_i ty hty
      split at hr
      · rename_i y hy
        have hr := Option.some.inj hr
        subst hr; rw [hu.pure_inv]
        obtain ⟨z, w', h1, h2⟩ := box_ok (id := t) (hE.ty _ _ hty) hm hself hy (hρ (by simp [hop]) x (by simp [hop, Op.operands]))
        exact Done.makes ⟨z, w', by simp [execOp, hop, h1], h2⟩
      · cases hr
    · cases hr
  | load t x =>
    rw [hop] at hr
    simp only at hr
    split at hr
    · rename_i ty hty
      cases hl : loadAt σ' ty (ρ x) with
      | none => rw [hl] at hr; cases hr
      | some s =>
        rw [hl] at hr
        have hr := Option.some.inj hr
        subst hr; rw [hu.v_inv]
        obtain ⟨z, h1, h2⟩ := loadAt_ok (hE.ty _ _ hty) ho hl (hρ (by simp [hop]) x (by simp [hop, Op.operands]))
        exact Done.calm hm ⟨rfl, z, by simp [execOp, hop, h1], h2⟩
    · cases hr
  | store t x y =>
    rw [hop] at hr
    simp only at hr
    split at hr
    · rename_i ty hty
      cases hl : storeAt σ' ty (ρ y) (ρ x) with
      | none => rw [hl] at hr; cases hr
      | some s =>
        rw [hl] at hr
        have hr := Option.some.inj hr
        subst hr; rw [hu.pure_inv]
        obtain ⟨k, o'⟩ := s
        obtain ⟨w', h1, h2, h3⟩ := storeAt_ok (self := self) (hE.ty _ _ hty) hm hσ hl (hρ (by simp [hop]) x (by simp [hop, Op.operands])) (hρ (by simp [hop]) y (by simp [hop, Op.operands]))
        exact Done.writes ⟨w', by simp [execOp, hop, h1], G, h2, h3, ⟨_, rfl, trivial⟩⟩
    · cases hr
  | extract x i =>
    rw [hop] at hr
    obtain ⟨h1, z, h2, h3⟩ := opExtract_ok (P := P) (w := w) (G := G) hr hu (hρ (by simp [hop]) x (by simp [hop, Op.operands]))
    exact Done.calm hm ⟨h1, z, by simp [execOp, hop, h2], h3⟩
  | unOp op t x =>
    rw [hop] at hr
    obtain ⟨h1, z, h2, h3⟩ := opUn_ok (P := P) (w := w) (G := G) hr hu (hρ (by simp [hop]) x (by simp [hop, Op.operands]))
    exact Done.calm hm ⟨h1, z, by simp [execOp, hop, h2], h3⟩
  | insert t m k v =>
    rw [hop] at hr
    simp only at hr
    split at hr
    · rename_i ty hty
      obtain ⟨w', h1, h2⟩ := opPut_ok (self := self) (hE.ty _ _ hty) hm hσ hr hu (hρ (by simp [hop]) m (by simp [hop, Op.operands])) (hρ (by simp [hop]) k (by simp [hop, Op.operands])) (hρ (by simp [hop]) v (by simp [hop, Op.operands]))
      exact Done.writes ⟨w', by simp [execOp, hop, h1], h2⟩
    · cases hr
  | mapUpdate t m k v =>
    rw [hop] at hr
    simp only at hr
    split at hr
    · rename_i ty hty
      obtain ⟨w', h1, h2⟩ := opPut_ok (self := self) (hE.ty _ _ hty) hm hσ hr hu (hρ (by simp [hop]) m (by simp [hop, Op.operands])) (hρ (by simp [hop]) k (by simp [hop, Op.operands])) (hρ (by simp [hop]) v (by simp [hop, Op.operands]))
      exact Done.writes ⟨w', by simp [execOp, hop, h1], h2⟩
    · cases hr
  | lookup t m k ok =>
    rw [hop] at hr
    simp only at hr
    split at hr
    · rename_i ty hty
      obtain ⟨h1, z, h2, h3⟩ := opLookup_ok (hE.ty _ _ hty) ho hr hu (hρ (by simp [hop]) m (by simp [hop, Op.operands])) (hρ (by simp [hop]) k (by simp [hop, Op.operands]))
      exact Done.calm hm ⟨h1, z, by simp [execOp, hop, h2], h3⟩
    · cases hr
  | fieldAddr t x f =>
    rw [hop] at hr
    simp only at hr
    split at hr
    · rename_i p hty
      cases hf : Nat.blt f p.fields with
      | false => rw [hf] at hr; cases hr
      | true =>
        rw [hf] at hr
        rw [Nat.blt_eq] at hf
        cases hl : opFieldAddr p f (ρ x) with
        | none => rw [hl] at hr; cases hr
        | some s =>
          rw [hl] at hr
          have hr := Option.some.inj hr
          subst hr; rw [hu.v_inv]
          obtain ⟨z, h2, h3⟩ := opFieldAddr_ok (hE.ty _ _ hty) hf hl (hρ (by simp [hop]) x (by simp [hop, Op.operands]))
          exact Done.calm hm ⟨rfl, z, by simp [execOp, hop, h2], h3⟩
    · cases hr
  | field t x f =>
    rw [hop] at hr
    simp only at hr
    split at hr
    · rename_i p hty
      cases hf : Nat.blt f p.fields with
      | false => rw [hf] at hr; cases hr
      | true =>
        rw [hf] at hr
        rw [Nat.blt_eq] at hf
        obtain ⟨h1, z, h2, h3⟩ := opField_ok (hE.ty _ _ hty) hf hr hu (hρ (by simp [hop]) x (by simp [hop, Op.operands]))
        exact Done.calm hm ⟨h1, z, by simp [execOp, hop, h2], h3⟩
    · cases hr
  | indexAddr t x i =>
    rw [hop] at hr
    simp only at hr
    split at hr
    · rename_i ty kd n hty hi
      have hiv := hρ (by simp [hop]) i (by simp [hop, Op.operands])
      rw [hi] at hiv
      obtain ⟨e, _⟩ := hiv.int
      obtain ⟨h1, z, h2, h3⟩ := opIndexAddr_ok (k := kd) (hE.ty _ _ hty) ho hr hu (hρ (by simp [hop]) x (by simp [hop, Op.operands]))
      exact Done.calm hm ⟨h1, z, by simp [execOp, hop, e, h2], h3⟩
    · cases hr
  | index t x i =>
    rw [hop] at hr
    simp only at hr
    split at hr
    · rename_i ty kd n hty hi
      have hiv := hρ (by simp [hop]) i (by simp [hop, Op.operands])
      rw [hi] at hiv
      obtain ⟨e, _⟩ := hiv.int
      obtain ⟨h1, z, h2, h3⟩ := opIndex_ok (k := kd) (hE.ty _ _ hty) hr hu (hρ (by simp [hop]) x (by simp [hop, Op.operands]))
      exact Done.calm hm ⟨h1, z, by simp [execOp, hop, e, h2], h3⟩
    · cases hr
  | slice t x lo hi mx =>
    rw [hop] at hr
    cases mx with
    | some _ => cases hr
    | none =>
      simp only at hr
      split at hr
      · rename_i ty hty
        have hopt : ∀ b : Option Operand, (∀ y, b = some y → y ∈ o.op.operands) → OptSR P w G (b.map ρ) (b.map a.eval) := by
          intro b hb
          cases b with
          | none => exact trivial
          | some y => exact hρ (by simp [hop]) y (hb y rfl)
        obtain ⟨h1, z, h2, h3⟩ := opSlice_ok (hE.ty _ _ hty) ho hr hu (hρ (by simp [hop]) x (by simp [hop, Op.operands])) (hopt lo (fun y hy => by simp [hop, Op.operands, hy])) (hopt hi (fun y hy => by simp [hop, Op.operands, hy]))
        exact Done.calm hm ⟨h1, z, by simp [execOp, hop, h2], h3⟩
      · cases hr
  | makeInterface t x =>
    rw [hop] at hr
    simp only at hr
    split at hr
    · rename_i ta tu hta htu
      cases hi : ta.isIface with
      | true => rw [hi] at hr; cases hr
      | false =>
        rw [hi] at hr
        simp only [cond_false] at hr
        split at hr
        · rename_i y hy
          cases hj : inject t ta y tu with
          | none => rw [hj] at hr; cases hr
          | some z =>
            rw [hj] at hr
            have hr := Option.some.inj hr
            subst hr; rw [hu.v_inv]
            have hv := asV_ok ho hy (hρ (by simp [hop]) x (by simp [hop, Op.operands]))
            obtain ⟨v, h2, h3⟩ := makeInterface_ok (P := P) (w := w) (G := G) (hE.ty _ _ hta) hi hv hj
            exact Done.calm hm ⟨rfl, v, by simp [execOp, hop, h2], h3⟩
        · cases hr
    · cases hr
  | makeSlice t l c =>
    rw [hop] at hr
    simp only at hr
    split at hr
    · rename_i e x y hty hl hc
      have hr := Option.some.inj hr
      subst hr
      obtain ⟨zs, hz, rfl⟩ := hu.may_inv
      have hlv := hρ (by simp [hop]) l (by simp [hop, Op.operands])
      have hcv := hρ (by simp [hop]) c (by simp [hop, Op.operands])
      rw [hl] at hlv
      rw [hc] at hcv
      obtain ⟨e1, _⟩ := hlv.int
      obtain ⟨e2, e3⟩ := hcv.int
      obtain ⟨z, w', h1, h2⟩ := makeSlice_ok (wr := (match o.dst with | some d => E.wr d | none => false)) (hE.ty _ _ hty) hm hself e3 hz (fun x hx => hE.el _ _ hx)
      exact Done.makes ⟨z, w', by simp [execOp, hop, e1, e2, h1], h2⟩
    · cases hr
  | makeMap t h =>
    rw [hop] at hr
    simp only at hr
    split at hr
    · rename_i k v hty
      have hcond : ∃ b, (bif b then some (OpRes.pure ⟨.obj self 0, [(self, some (.mp k v [] true))]⟩) else none) = some r ∧ (b = true → ∀ x, h.map a.eval = some x → ∃ kd n, x = .int kd n) := by
        refine ⟨_, hr, fun hb x hx => ?_⟩
        cases h with
        | none => cases hx
        | some y =>
          have hy := hρ (by simp [hop]) y (by simp [hop, Op.operands])
          have hx : a.eval y = x := Option.some.inj hx
          simp only at hb
          split at hb
          · rename_i kd n he
            rw [he] at hy
            exact ⟨kd, n, by rw [← hx]; exact hy.int.1⟩
          · cases hb
      obtain ⟨b, h1, h2⟩ := hcond
      cases b with
      | false => cases h1
      | true =>
        have h1 := Option.some.inj h1
        subst h1; rw [hu.pure_inv]
        obtain ⟨z, w', h3, h4⟩ := makeMap_ok (hE.ty _ _ hty) hm hself (h2 rfl)
        exact Done.makes ⟨z, w', by simp [execOp, hop, h3], h4⟩
    · cases hr
  | build t ps =>
    rw [hop] at hr
    simp only at hr
    split at hr
    · rename_i ty hty
      obtain ⟨h1, z, h2, h3⟩ := build_ok (hE.ty _ _ hty) hm hσ hr hu (vs := ps.map fun p => (p.1, a.eval p.2)) (by simp) (parts_ok fun p hp => hρ (by simp [hop]) p.2 (by simp [hop, Op.operands]; exact ⟨p.1, by simpa using hp⟩))
      exact Done.calm hm ⟨h1, z, by simp [execOp, hop, h2], h3⟩
    · cases hr
  | buildSlice t len ps =>
    rw [hop] at hr
    simp only at hr
    split at hr
    · rename_i e hty
      split at hr
      · rename_i xs hx
        have hr := Option.some.inj hr
        subst hr; rw [hu.pure_inv]
        cases hz : Nat.beq len 0 with
        | true =>
          rw [hz] at hx
          have e0 := Nat.eq_of_beq_eq_true hz
          subst e0
          simp only [cond_true] at hx
          split at hx
          · rename_i hps
            cases hx
            have eps : ps = #[] := by simpa using hps
            subst eps
            obtain ⟨z, w', h2, h3⟩ := emptySlice_ok (wr := (match o.dst with | some d => E.wr d | none => false)) (hE.ty _ _ hty) hm hself (fun x hx => hE.el _ _ hx)
            exact Done.makes ⟨z, w', by simp [execOp, hop, h2], h3⟩
          · cases hx
        | false =>
        have hx : (bif Nat.blt 0 len && Nat.ble (len * e.sz) 16777216 then putElems σ' e (ps.toList.map fun p => (p.1, ρ p.2)) (List.replicate len e.dflt) else none) = some xs := by
          rw [hz] at hx
          have hpos : Nat.blt 0 len = true := by
            rw [Nat.blt_eq]
            apply Nat.pos_of_ne_zero
            intro e0
            rw [e0] at hz; cases hz
          rw [hpos]
          exact hx
        obtain ⟨z, w', h2, h3⟩ := buildSlice_ok (wr := (match o.dst with | some d => E.wr d | none => false)) (hE.ty _ _ hty) hm hσ hself hx (vs := ps.map fun p => (p.1, a.eval p.2)) (by simp) (fun x hx => hE.el _ _ hx) (parts_ok fun p hp => hρ (by simp [hop]) p.2 (by simp [hop, Op.operands]; exact ⟨p.1, by simpa using hp⟩))
        exact Done.makes ⟨z, w', by simp [execOp, hop, h2], h3⟩
      · cases hr
    · cases hr
  | binOp op t x y z =>
    rw [hop] at hr
    simp only at hr
    split at hr
    · rename_i r0 hr0
      have hr := Option.some.inj hr
      subst hr
      obtain ⟨e1, v, e2, e3⟩ := nilCmp_ok (P := P) (w := w) (G := G) hr0 hu (hρ (by simp [hop]) x (by simp [hop, Op.operands])) (hρ (by simp [hop]) y (by simp [hop, Op.operands])) (fun q hq => hE.ty _ _ hq) x y
      exact Done.calm hm ⟨e1, v, by simp only [execOp, hop, Sem.run_bind] at e2 ⊢; rw [e2]; rfl, e3⟩
    have hcond : ∃ b, (bif b then opBin op (ρ x) (ρ y) else none) = some r ∧ (b = true → ∀ c, ρ x = .val .bool c → P.underlying t = some .bool) := by
      refine ⟨_, hr, fun hb c hc => ?_⟩
      rw [hc] at hb
      simp only at hb
      split at hb
      · rename_i ht; exact (hE.ty _ _ ht).bool
      · cases hb
    obtain ⟨b, h1, h2⟩ := hcond
    cases b with
    | false => cases h1
    | true =>
      obtain ⟨e1, v, e2, e3⟩ := opBin_ok (P := P) (w := w) (G := G) h1 hu (hρ (by simp [hop]) x (by simp [hop, Op.operands])) (hρ (by simp [hop]) y (by simp [hop, Op.operands])) t x y (h2 rfl)
      exact Done.calm hm ⟨e1, v, by simp only [execOp, hop, Sem.run_bind] at e2 ⊢; rw [e2]; rfl, e3⟩
  | makeFunc fn first caps =>
    rw [hop] at hr
    cases fn with
    | func f =>
      simp only at hr
      split at hr
      · rename_i hfirst
        have hr := Option.some.inj hr
        subst hr; rw [hu.v_inv]
        have hf0 : first = #[] := by simpa using hfirst
        subst hf0
        refine Done.calm hm ⟨rfl, .func (.func f) #[] (caps.map a.eval), by simp [execOp, hop, Instr.makeFunc], _, rfl, caps.map a.eval, rfl, ?_⟩
        refine caps_ok (by simp) fun j s v h1 h2 => ?_
        rw [List.getElem?_map] at h1
        rw [Array.toList_map, List.getElem?_map] at h2
        cases hp : caps.toList[j]? with
        | none => rw [hp] at h1; cases h1
        | some p =>
          rw [hp] at h1 h2
          cases h1
          cases h2
          have hmem := List.mem_of_getElem? hp
          exact hρ (by simp [hop]) p (by simp [hop, Op.operands]; simpa using hmem)
      · cases hr
    | _ => cases hr
  | nilCheck x =>
    rw [hop] at hr
    have hx := hρ (by simp [hop]) x (by simp [hop, Op.operands])
    have fin : ∀ {s : SV} {ad : Addr}, a.eval x = .pointer (some ad) → SR P w G s (.pointer (some ad)) → u = ⟨s, []⟩ → Done P o a w (Res P fr free self σ w G u) := by
      intro s ad h1 h2 h3
      subst h3
      exact Done.calm hm ⟨rfl, _, by simp only [execOp, hop, h1]; rfl, h2⟩
    have finF : ∀ {s : SV} {f : Nat} {vs : Array Value}, a.eval x = .func (.func f) #[] vs → SR P w G s (.func (.func f) #[] vs) → u = ⟨s, []⟩ → Done P o a w (Res P fr free self σ w G u) := by
      intro s f vs h1 h2 h3
      subst h3
      exact Done.calm hm ⟨rfl, _, by simp only [execOp, hop, h1]; rfl, h2⟩
    simp only at hr
    split at hr
    · rename_i k p q he
      have hr := Option.some.inj hr
      subst hr
      rw [he] at hx
      obtain ⟨b, t, oo, _, _, _, hv⟩ := ptr_inv hx
      exact fin hv (hv ▸ hx) hu.v_inv
    · rename_i k p i q uu he
      have hr := Option.some.inj hr
      subst hr
      rw [he] at hx
      obtain ⟨b, t, oo, n, e, o', _, _, _, _, _, _, hv⟩ := ptri_inv hx
      exact fin hv (hv ▸ hx) hu.v_inv
    · rename_i k g i q uu he
      have hr := Option.some.inj hr
      subst hr
      rw [he] at hx
      obtain ⟨b, len, cap, e, o', _, _, _, _, _, hv⟩ := elem_inv hx
      exact fin hv (hv ▸ hx) hu.v_inv
    · rename_i t y he
      have hr := Option.some.inj hr
      subst hr
      rw [he] at hx
      obtain ⟨ad, c, hv, _⟩ := ref_inv hx
      exact fin hv (hv ▸ hx) hu.v_inv
    · rename_i e y he
      have hr := Option.some.inj hr
      subst hr
      rw [he] at hx
      obtain ⟨z, hz, rfl⟩ := hu.may_inv
      have hz : y = some z := hz
      subst hz
      obtain ⟨c, hc, ad, h2, h3, cc, h4, h5⟩ := hx
      have hv : a.eval x = .pointer (some ad) := List.singleton_inj.1 ((show c = [a.eval x] from hc).symm.trans h2)
      exact fin (s := .ref e z) hv ⟨_, rfl, ad, cc, rfl, h3, h4, h5⟩ rfl
    · rename_i f cc he
      have hr := Option.some.inj hr
      subst hr
      rw [he] at hx
      obtain ⟨c, hc, vs, h1, h2⟩ := hx
      have hv : a.eval x = .func (.func f) #[] vs := List.singleton_inj.1 ((show c = [a.eval x] from hc).symm.trans h1)
      exact finF (s := .fn f cc) hv ⟨_, rfl, vs, rfl, h2⟩ hu.v_inv
    · rename_i d c F he
      have hr := Option.some.inj hr
      subst hr
      rw [he] at hx
      obtain ⟨cc, hc, f, vs, h1, h2⟩ := hx
      have hv : a.eval x = .func (.func f) #[] vs := List.singleton_inj.1 ((show cc = [a.eval x] from hc).symm.trans h1)
      exact finF (s := .hof d c F) hv ⟨_, rfl, f, vs, rfl, h2⟩ hu.v_inv
    · cases hr
  | convert st t x =>
    rw [hop] at hr
    simp only at hr
    have hx := hρ (by simp [hop]) x (by simp [hop, Op.operands])
    split at hr
    · rename_i sy ty hst hty
      have hls := hE.ty _ _ hst
      have hsrc : ∃ d, P.underlying st = some d := let ⟨d, hd, _⟩ := hls.isAgg; ⟨d, hd⟩
      have hlt := hE.ty _ _ hty
      unfold opConvert at hr
      split at hr
      · split at hr
        · rename_i s he
          have hr := Option.some.inj hr
          subst hr; rw [hu.v_inv]
          rw [he] at hx
          obtain ⟨z, w', h1, h2⟩ := bytes_conv_ok hlt hsrc hm hx
          exact Done.makes ⟨z, w', by simp [execOp, hop, h1], h2⟩
        · cases hr
      · split at hr
        · rename_i s he
          rw [he] at hx
          obtain ⟨h1, z, h2, h3⟩ := convTo_ok (t := .str) hlt hsrc (s := .val .str s) rfl (show Gives (.v (.val .str s)) u from by have := Option.some.inj hr; rw [this]; exact hu) hx
          exact Done.calm hm ⟨h1, z, by simp [execOp, hop, h2], h3⟩
        · cases hs : sy.same (.slice (.int .u8)) with
          | false => rw [hs] at hr; cases hr
          | true =>
            rw [hs] at hr
            have es := Ty.same_eq hs
            subst es
            simp only [cond_true] at hr
            split at hr
            · rename_i xs hxs
              have hr := Option.some.inj hr
              subst hr
              obtain ⟨s, hs', rfl⟩ := hu.may_inv
              obtain ⟨z, h2, h3⟩ := string_conv_ok (G := G) hlt hls (asV_ok ho hxs hx) hs'
              exact Done.calm hm ⟨rfl, z, by simp [execOp, hop, h2], h3⟩
            · cases hr
      · obtain ⟨h1, z, h2, h3⟩ := convTo_ok hlt hsrc hr hu hx
        exact Done.calm hm ⟨h1, z, by simp [execOp, hop, h2], h3⟩
    · cases hr
  | typeAssert x xt t ok =>
    rw [hop] at hr
    cases ok with
    | false => cases hr
    | true =>
      simp only at hr
      have hx := hρ (by simp [hop]) x (by simp [hop, Op.operands])
      split at hr
      · rename_i ty uu y hty he
        rw [he] at hx
        cases hi : ty.isIface with
        | true => rw [hi] at hr; cases hr
        | false =>
          rw [hi] at hr
          simp only [cond_false] at hr
          split at hr
          · rename_i f hf
            have hr := Option.some.inj hr
            subst hr; rw [hu.v_inv]
            obtain ⟨z, h2, h3⟩ := typeAssert_ok (P := P) (w := w) (G := G) (xt := xt) (hE.ty _ _ hty) hi hf hx
            exact Done.calm hm ⟨rfl, z, by simp [execOp, hop, h2], h3⟩
          · cases hr
      · cases hr
  | call c =>
    obtain ⟨cal, as, ts⟩ := c
    rw [hop] at hr
    cases cal with
    | invoke _ _ => cases hr
    | value fo =>
      have h1 := hρ (by simp [hop]) fo (by simp [hop, Op.operands, Call.operands])
      exact opCallV_ok hE.fs hm hσ hfree hop h1 (by simp) (fun j s x hj hx => by
        rw [List.getElem?_map, hx] at hj
        cases hj
        have hmem := List.mem_of_getElem? hx
        exact hρ (by simp [hop]) x (by simp [hop, Op.operands, Call.operands]; right; simpa using hmem)) hr hu
    | builtin b =>
      have hargs : ∀ x ∈ as.toList, SR P w G (ρ x) (a.eval x) := fun x hx => hρ (by simp [hop]) x (by simp [hop, Op.operands, Call.operands]; simpa using hx)
      cases b <;> first | (cases hr; done) | skip
      case append =>
        rcases has : as.toList with _ | ⟨s, _ | ⟨x, _ | ⟨y, rr⟩⟩⟩ <;> simp only [has] at hr <;> first | (cases hr; done) | skip
        rcases hts : ts.toList with _ | ⟨t, _ | ⟨t', _ | ⟨t'', rr⟩⟩⟩ <;> simp only [hts] at hr <;> first | (cases hr; done) | skip
        cases htt : Nat.beq t t' with
        | false => rw [htt] at hr; cases hr
        | true =>
          rw [htt] at hr
          have := Nat.eq_of_beq_eq_true htt
          subst this
          simp only [cond_true] at hr
          split at hr
          · rename_i ty hty
            have eas : as = #[s, x] := by apply Array.ext'; simpa using has
            have ets : ts = #[t, t] := by apply Array.ext'; simpa using hts
            subst eas ets
            obtain ⟨z, w', h1, h2⟩ := opAppend_ok (ty := o.type) (wf := (match o.dst with | some d => E.wr d | none => false)) (hE.ty _ _ hty) (fun x hx => hE.el _ _ hx) hm hσ hself hr hu (hargs s (by simp)) (hargs x (by simp))
            exact Done.makes ⟨z, w', by simp [execOp, hop, resolve, invoke, builtin, h1], h2⟩
          · cases hr
      case len =>
        rcases has : as.toList with _ | ⟨x, _ | ⟨y, rr⟩⟩ <;> simp only [has] at hr <;> first | (cases hr; done) | skip
        rcases hts : ts.toList with _ | ⟨t, _ | ⟨t', rr⟩⟩ <;> simp only [hts] at hr <;> first | (cases hr; done) | skip
        split at hr
        · rename_i ty hty
          have eas : as = #[x] := by apply Array.ext'; simpa using has
          have ets : ts = #[t] := by apply Array.ext'; simpa using hts
          subst eas ets
          obtain ⟨h1, z, h2, h3⟩ := opLen_ok (hE.ty _ _ hty) ho hr hu (hargs x (by simp)) #[t] rfl o.type
          exact Done.calm hm ⟨h1, z, by simp [execOp, hop, resolve, invoke, builtin, h2], h3⟩
        · cases hr
      case max =>
        rcases has : as.toList with _ | ⟨x, _ | ⟨y, _ | ⟨yy, rr⟩⟩⟩ <;> simp only [has] at hr <;> first | (cases hr; done) | skip
        · have eas : as = #[x, y] := by apply Array.ext'; simpa using has
          subst eas
          split at hr
          · rename_i k m l n hx hy
            have h1 := hargs x (by simp)
            have h2 := hargs y (by simp)
            rw [hx] at h1
            rw [hy] at h2
            obtain ⟨e1, e2⟩ := h1.int
            obtain ⟨e3, e4⟩ := h2.int
            cases hk : sameKind k l with
            | false => rw [hk] at hr; cases hr
            | true =>
              rw [hk] at hr
              have := sameKind_eq hk
              subst this
              have hr := Option.some.inj hr
              subst hr; rw [hu.v_inv]
              obtain ⟨z, h5, h6⟩ := maxI_ok (P := P) (w := w) (G := G) ts o.type e2 e4
              exact Done.calm hm ⟨rfl, z, by simp [execOp, hop, resolve, invoke, builtin, e1, e3, h5], h6⟩
          · cases hr
      case min =>
        rcases has : as.toList with _ | ⟨x, _ | ⟨y, _ | ⟨yy, rr⟩⟩⟩ <;> simp only [has] at hr <;> first | (cases hr; done) | skip
        · have eas : as = #[x, y] := by apply Array.ext'; simpa using has
          subst eas
          split at hr
          · rename_i k m l n hx hy
            have h1 := hargs x (by simp)
            have h2 := hargs y (by simp)
            rw [hx] at h1
            rw [hy] at h2
            obtain ⟨e1, e2⟩ := h1.int
            obtain ⟨e3, e4⟩ := h2.int
            cases hk : sameKind k l with
            | false => rw [hk] at hr; cases hr
            | true =>
              rw [hk] at hr
              have := sameKind_eq hk
              subst this
              have hr := Option.some.inj hr
              subst hr; rw [hu.v_inv]
              obtain ⟨z, h5, h6⟩ := minI_ok (P := P) (w := w) (G := G) ts o.type e2 e4
              exact Done.calm hm ⟨rfl, z, by simp [execOp, hop, resolve, invoke, builtin, e1, e3, h5], h6⟩
          · cases hr
  | _ => cases hop ▸ hr

end
end Go.Ev
