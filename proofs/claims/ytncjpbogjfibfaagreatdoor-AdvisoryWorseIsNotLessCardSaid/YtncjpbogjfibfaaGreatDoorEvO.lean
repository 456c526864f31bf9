/-
  OPERATIONS: the frame of their proofs; those that ask nothing of memory.
-/
import Derived.Test.YtncjpbogjfibfaaGreatDoorEvL
import Derived.Laws.Strings
import Derived.Laws.Concat
import Derived.Laws.Strings3
import Derived.ChangeKeysEq
set_option linter.unusedVariables false
set_option linter.unusedSimpArgs false
namespace Go.Ev

/-- Memory, without the slots. -/
structure MemS (P : Program) (fr : Fr) (free : Nat → Prop) (σ : Nat → Option Obj) (w : World) (G : Gh) : Prop where
  objs : ∀ k o, σ k = some o → ObjOK P fr w G k o
  sep : ∀ j k o o' b, σ j = some o → σ k = some o' → blk G j o = some b → blk G k o' = some b → j = k
  after : After fr.gv fr.w0 fr.i0 w G.im
  fresh : ∀ k, free k → σ k = none ∧ G.ety k = none ∧ G.box k = none ∧ ∀ g, G.val k g = none

def freeBut (free : Nat → Prop) (self : Nat) : Nat → Prop := fun k => free k ∧ inSelf self k = false

/-- What an operation leaves. -/
def Res (P : Program) (fr : Fr) (free : Nat → Prop) (self : Nat) (σ : Nat → Option Obj) (w : World) (G : Gh) (u : Upd) (v : Value) (w' : World) : Prop :=
  ∃ G', GLe w G w' G' ∧ MemS P fr (freeBut free self) (putSto σ u.wr) w' G' ∧ SR P w' G' u.sv v

/-- What an operation's result comes to. -/
inductive Gives : OpRes → Upd → Prop
  | pure (u : Upd) : Gives (.pure u) u
  | may {α : Type} {m : Option α} {d : α} {f : α → Upd} {x : α} (h : m = some x) : Gives (.may α m d f) (f x)

theorem Gives.pure_inv {u u' : Upd} (h : Gives (.pure u) u') : u' = u := by cases h; rfl
theorem Gives.v_inv {s : SV} {u : Upd} (h : Gives (.v s) u) : u = ⟨s, []⟩ := h.pure_inv
theorem Gives.may_inv {α : Type} {m : Option α} {d : α} {f : α → Upd} {u : Upd} (h : Gives (.may α m d f) u) : ∃ x, m = some x ∧ u = f x := by
  cases h with
  | may h => exact ⟨_, h, rfl⟩

section
variable {P : Program} {fr : Fr} {free : Nat → Prop} {self : Nat} {σ : Nat → Option Obj} {w : World} {G : Gh}

theorem MemS.shrink {free' : Nat → Prop} (h : MemS P fr free σ w G) (hf : ∀ k, free' k → free k) : MemS P fr free' σ w G :=
  ⟨h.objs, h.sep, h.after, fun k hk => h.fresh k (hf k hk)⟩

/-- Nothing turned. -/
theorem Res.same {s : SV} {v : Value} (hm : MemS P fr free σ w G) (hv : SR P w G s v) : Res P fr free self σ w G ⟨s, []⟩ v w :=
  ⟨G, GLe.refl _ _, hm.shrink fun _ h => h.1, hv⟩

/-- The operation comes to its end. -/
def Done (P : Program) (o : Oper) (a : Act) (w : World) (R : Value → World → Prop) : Prop :=
  ∀ (Q : Exit → Act → World → Prop) (next : Act → World → Prop), (∀ v w', R v w' → next (a.put o.dst v) w') → o.wp P a w next Q

theorem Done.value {o : Oper} {a : Act} {w w' : World} {R : Value → World → Prop} {v : Value} (h : (execOp a.eval o).run P w = .ok (.value v) w') (hr : R v w') : Done P o a w R := by
  intro Q next hn
  unfold Oper.wp
  rw [h]
  exact hn v w' hr

theorem Done.skip {o : Oper} {a : Act} {w w' : World} {R : Value → World → Prop} (h : (execOp a.eval o).run P w = .ok .skip w') (hr : R undef w') : Done P o a w R := by
  intro Q next hn
  unfold Oper.wp
  rw [h]
  exact hn undef w' hr

theorem Done.enter {o : Oper} {a : Act} {w w' : World} {R : Value → World → Prop} {f : FuncId} {args : Array Value}
    (h : (execOp a.eval o).run P w = .ok (.enter f args) w') (hc : Calls P f args w' fun e w'' => ∃ v, e = .returned v ∧ R v w'') : Done P o a w R := by
  intro Q next hn
  unfold Oper.wp
  rw [h]
  refine Calls.mono hc fun e w'' he => ?_
  obtain ⟨v, rfl, hr⟩ := he
  exact hn v w'' hr

theorem Done.mono {o : Oper} {a : Act} {w : World} {R R' : Value → World → Prop} (h : Done P o a w R) (hr : ∀ v w', R v w' → R' v w') : Done P o a w R' :=
  fun Q next hn => h Q next fun v w' hv => hn v w' (hr v w' hv)

/-! ## What slots hold -/
theorem SR.int {k : IntKind} {n : Int} {v : Value} (h : SR P w G (.val (.int k) n) v) : v = .int k n ∧ inKind k n := by
  obtain ⟨c, h1, h2, h3⟩ := h
  have h1' : c = [v] := h1
  subst h1'
  cases h2
  exact ⟨rfl, h3⟩
theorem SR.mk_int {k : IntKind} {n : Int} (h : inKind k n) : SR P w G (.val (.int k) n) (.int k n) := ⟨_, rfl, rfl, h⟩
theorem SR.bool {b : Bool} {v : Value} (h : SR P w G (.val .bool b) v) : v = .bool b := by
  obtain ⟨c, h1, h2⟩ := h
  have h1' : c = [v] := h1
  subst h1'
  have h2' : [v] = [.bool b] := h2
  cases h2'
  rfl
theorem SR.mk_bool (b : Bool) : SR P w G (.val .bool b) (.bool b) := ⟨_, rfl, rfl⟩
theorem SR.str {s : Str} {v : Value} (h : SR P w G (.val .str s) v) : v = .string ⟨s.toArray⟩ ∧ s.length ≤ 281474976710656 := by
  obtain ⟨c, h1, h2, h3⟩ := h
  have h1' : c = [v] := h1
  subst h1'
  cases h2
  exact ⟨rfl, h3⟩
theorem SR.mk_str {s : Str} (h : s.length ≤ 281474976710656) : SR P w G (.val .str s) (.string ⟨s.toArray⟩) := ⟨_, rfl, rfl, h⟩
theorem SR.val {t : Ty} {x : t.T} {v : Value} (h : SR P w G (.val t x) v) : VRel w G.im t x v := h
theorem SR.mk_val {t : Ty} {x : t.T} {v : Value} (h : VRel w G.im t x v) : SR P w G (.val t x) v := h

theorem wrap_in (k : IntKind) (n : Int) : inKind k (k.wrap n) := by
  cases k <;> simp [inKind, IntKind.wrap, IntKind.min, IntKind.max, IntKind.signed, IntKind.bits] <;> omega

theorem str_append (a b : Str) : (⟨a.toArray⟩ : ByteArray) ++ ⟨b.toArray⟩ = ⟨(a ++ b).toArray⟩ := by
  apply ByteArray.ext
  simp [ByteArray.data_append]

theorem str_toList (a : Str) : (⟨a.toArray⟩ : ByteArray).toList = a := by rw [ByteArray.toList_eq]

theorem str_size (a : Str) : (⟨a.toArray⟩ : ByteArray).size = a.length := by simp [ByteArray.size]

/-! ## Operators -/
theorem shl_ok {k l : IntKind} {x y z : Int} {t : TypeId} (h : shl? k x y = some z) : (binOp .shl t (.int k x) (.int l y)).run P w = .ok (.int k z) w ∧ inKind k z := by
  unfold shl? at h
  by_cases h0 : y < 0
  · rw [show decide (y < 0) = true by simpa using h0] at h; cases h
  · rw [show decide (y < 0) = false by simpa using h0] at h
    cases h
    exact ⟨by simp [binOp, Op.shift, h0], wrap_in _ _⟩

theorem fdiv_in {k : IntKind} {x : Int} (h : inKind k x) (n : Nat) : inKind k (x.fdiv (2 ^ n)) := by
  have hp : (0 : Int) < 2 ^ n := Int.pow_pos (by decide)
  rw [Int.fdiv_eq_ediv_of_nonneg _ (Int.le_of_lt hp)]
  have hmin : k.min ≤ 0 := (inKind_zero k).1
  have hmax : 0 ≤ k.max := (inKind_zero k).2
  have h1 : (1 : Int) ≤ 2 ^ n := hp
  unfold inKind at *
  by_cases hs : 0 ≤ x
  · have a1 := Int.ediv_nonneg hs (Int.le_of_lt hp)
    have a2 : x / 2 ^ n ≤ x := Int.ediv_le_self _ hs
    omega
  · have a1 : x / 2 ^ n < 0 := Int.ediv_neg_of_neg_of_pos (by omega) hp
    have a2 : x ≤ x / 2 ^ n := by
      rw [Int.le_ediv_iff_mul_le hp]
      have := Int.mul_le_mul_of_nonpos_left (a := x) (b := 2 ^ n) (c := 1) (by omega) h1
      rw [Int.mul_one] at this
      exact this
    omega

theorem shr_ok {k l : IntKind} {x y z : Int} {t : TypeId} (hx : inKind k x) (h : shr? k x y = some z) : (binOp .shr t (.int k x) (.int l y)).run P w = .ok (.int k z) w ∧ inKind k z := by
  unfold shr? at h
  by_cases h0 : y < 0
  · rw [show decide (y < 0) = true by simpa using h0] at h; cases h
  · rw [show decide (y < 0) = false by simpa using h0] at h
    cases h
    exact ⟨by simp [binOp, Op.shift, h0], fdiv_in hx _⟩

theorem arith_ok {op : BinOp} {k : IntKind} {x y : Int} {r : OpRes} {u : Upd} (hr : arith op k x y = some r) (hu : Gives r u)
    (hx : inKind k x) (hy : inKind k y) (t : TypeId) : u.wr = [] ∧ ∃ v, (binOp op t (.int k x) (.int k y)).run P w = .ok v w ∧ SR P w G u.sv v := by
  cases op <;> simp only [arith, Option.some.injEq] at hr <;> first | (cases hr; done) | skip
  case add => subst hr; rw [hu.v_inv]; exact ⟨rfl, _, by simp [binOp, Op.intArith], SR.mk_int (wrap_in _ _)⟩
  case sub => subst hr; rw [hu.v_inv]; exact ⟨rfl, _, by simp [binOp, Op.intArith], SR.mk_int (wrap_in _ _)⟩
  case mul => subst hr; rw [hu.v_inv]; exact ⟨rfl, _, by simp [binOp, Op.intArith], SR.mk_int (wrap_in _ _)⟩
  case quo =>
    subst hr
    obtain ⟨z, hz, rfl⟩ := hu.may_inv
    unfold div? at hz
    by_cases h0 : y = 0
    · subst h0; simp at hz
    · have : (y == 0) = false := by simpa using h0
      rw [this] at hz
      simp only [cond_false, Option.some.injEq] at hz
      subst hz
      exact ⟨rfl, _, by simp [binOp, Op.intDiv, h0], SR.mk_int (wrap_in _ _)⟩
  case rem =>
    subst hr
    obtain ⟨z, hz, rfl⟩ := hu.may_inv
    unfold mod? at hz
    by_cases h0 : y = 0
    · subst h0; simp at hz
    · have : (y == 0) = false := by simpa using h0
      rw [this] at hz
      simp only [cond_false, Option.some.injEq] at hz
      subst hz
      refine ⟨rfl, _, by simp [binOp, Op.intDiv, h0], SR.mk_int ?_⟩
      have h1 : (x.tmod y).natAbs ≤ x.natAbs := by rw [Int.natAbs_tmod]; exact Nat.mod_le _ _
      have h2 : 0 ≤ x → 0 ≤ x.tmod y := fun h => Int.tmod_nonneg _ h
      have h3 : x ≤ 0 → x.tmod y ≤ 0 := fun h => by
        have := Int.tmod_nonneg y (show 0 ≤ -x by omega)
        rw [Int.neg_tmod] at this; omega
      have hmin : k.min ≤ 0 := (inKind_zero k).1
      have hmax : 0 ≤ k.max := (inKind_zero k).2
      unfold inKind at *
      by_cases hs : 0 ≤ x
      · have := h2 hs; omega
      · have := h3 (by omega); omega
  case eql => subst hr; rw [hu.v_inv]; refine ⟨rfl, .bool (x == y), by simp [binOp, Op.intCmp], ?_⟩; exact SR.mk_bool _
  case neq => subst hr; rw [hu.v_inv]; refine ⟨rfl, .bool (x != y), by simp [binOp, Op.intCmp], ?_⟩; exact SR.mk_bool _
  case lss => subst hr; rw [hu.v_inv]; exact ⟨rfl, _, by simp [binOp, Op.intCmp], SR.mk_bool _⟩
  case leq => subst hr; rw [hu.v_inv]; exact ⟨rfl, _, by simp [binOp, Op.intCmp], SR.mk_bool _⟩
  case gtr => subst hr; rw [hu.v_inv]; exact ⟨rfl, .bool (decide (x > y)), by simp [binOp, Op.intCmp], SR.mk_bool _⟩
  case geq => subst hr; rw [hu.v_inv]; exact ⟨rfl, .bool (decide (x ≥ y)), by simp [binOp, Op.intCmp], SR.mk_bool _⟩
  case and => subst hr; rw [hu.v_inv]; exact ⟨rfl, _, by simp [binOp, Op.intBits, andI], SR.mk_int (wrap_in _ _)⟩
  case or => subst hr; rw [hu.v_inv]; exact ⟨rfl, _, by simp [binOp, Op.intBits, orI], SR.mk_int (wrap_in _ _)⟩
  case xor => subst hr; rw [hu.v_inv]; exact ⟨rfl, _, by simp [binOp, Op.intBits, xorI], SR.mk_int (wrap_in _ _)⟩
  case andNot => subst hr; rw [hu.v_inv]; exact ⟨rfl, _, by simp [binOp, Op.intBits, andNotI], SR.mk_int (wrap_in _ _)⟩

theorem strOp_ok {op : BinOp} {x y : Str} {r : OpRes} {u : Upd} (hr : strOp op x y = some r) (hu : Gives r u) (t : TypeId) :
    u.wr = [] ∧ ∃ v, (binOp op t (.string ⟨x.toArray⟩) (.string ⟨y.toArray⟩)).run P w = .ok v w ∧ SR P w G u.sv v := by
  cases op <;> simp only [strOp, Option.some.injEq] at hr <;> first | (cases hr; done) | skip
  case add =>
    subst hr
    obtain ⟨z, hz, rfl⟩ := hu.may_inv
    unfold cat? at hz
    by_cases h0 : x.length + y.length ≤ 281474976710656
    · have h1 : decide (x.length + y.length ≤ 281474976710656) = true := by simpa using h0
      rw [h1] at hz
      simp only [cond_true, Option.some.injEq] at hz
      subst hz
      refine ⟨rfl, .string (⟨x.toArray⟩ ++ ⟨y.toArray⟩), ?_, ?_⟩
      · simp only [binOp]
        rw [run_string_add_sum]
        rw [str_size, str_size]; omega
      · rw [str_append]; exact SR.mk_str (by simp; omega)
    · have h1 : decide (x.length + y.length ≤ 281474976710656) = false := by simpa using h0
      rw [h1] at hz; cases hz
  case eql => subst hr; rw [hu.v_inv]; refine ⟨rfl, .bool (x == y), by simp [binOp, Op.stringOp], ?_⟩; exact SR.mk_bool _
  case neq => subst hr; rw [hu.v_inv]; refine ⟨rfl, .bool (!(x == y)), by simp [binOp, Op.stringOp], ?_⟩; exact SR.mk_bool _
  case lss => subst hr; rw [hu.v_inv]; refine ⟨rfl, .bool (Op.bytesLess x y), by simp [binOp, Op.stringOp], ?_⟩; exact SR.mk_bool _
  case leq => subst hr; rw [hu.v_inv]; refine ⟨rfl, .bool (Op.bytesLess x y || x == y), by simp [binOp, Op.stringOp], ?_⟩; exact SR.mk_bool _
  case gtr => subst hr; rw [hu.v_inv]; refine ⟨rfl, .bool (!(Op.bytesLess x y || x == y)), by simp [binOp, Op.stringOp], ?_⟩; exact SR.mk_bool _
  case geq => subst hr; rw [hu.v_inv]; refine ⟨rfl, .bool (!(Op.bytesLess x y)), by simp [binOp, Op.stringOp], ?_⟩; exact SR.mk_bool _

theorem eqGuard_plain {op : BinOp} {t : TypeId} {x y : Operand} {v v' : Value} (h1 : ∀ cs, v ≠ .agg cs) (h2 : v ≠ .nilIface) :
    (eqGuard op t x y v v').run P w = .ok () w := by
  cases v <;> first | exact absurd rfl (h1 _) | exact absurd rfl h2 | (cases op <;> rfl)

theorem boolOp_ok {op : BinOp} {x y : Bool} {r : OpRes} {u : Upd} (hr : boolOp op x y = some r) (hu : Gives r u) {t : TypeId} (ht : P.underlying t = some .bool) :
    u.wr = [] ∧ ∃ v, (binOp op t (.bool x) (.bool y)).run P w = .ok v w ∧ SR P w G u.sv v := by
  have hd : ∀ d, (Op.equalIn (d + 1) t (.bool x) (.bool y)).run P w = .ok (x == y) w := by
    intro d
    simp [Op.equalIn, run_underlying ht]
  have he : (Op.equal t (.bool x) (.bool y)).run P w = .ok (x == y) w := hd 9999
  cases op <;> simp only [boolOp, Option.some.injEq] at hr <;> first | (cases hr; done) | skip
  case eql => subst hr; rw [hu.v_inv]; exact ⟨rfl, .bool (x == y), by simp [binOp, he], SR.mk_bool _⟩
  case neq => subst hr; rw [hu.v_inv]; exact ⟨rfl, .bool (!(x == y)), by simp [binOp, he], SR.mk_bool _⟩

theorem nilR_ok {op : BinOp} {b : Bool} {r : OpRes} {u : Upd} (hr : nilR op b = some r) (hu : Gives r u) {t : TypeId} {v v' : Value} (h1 : ∀ cs, v ≠ .agg cs) (h2 : v ≠ .nilIface) (x y : Operand)
    (he : (Op.equal t v v').run P w = .ok b w) (hn : ∀ k n, v ≠ .int k n) (hf : ∀ k n, v ≠ .float k n) (hc : ∀ k n m, v ≠ .complex k n m) (hs : ∀ s, v ≠ .string s) :
    u.wr = [] ∧ ∃ z, ((do eqGuard op t x y v v'; binOp op t v v' : Sem Value)).run P w = .ok z w ∧ SR P w G u.sv z := by
  have run : ∀ {z : Value}, (binOp op t v v').run P w = .ok z w → ((do eqGuard op t x y v v'; binOp op t v v' : Sem Value)).run P w = .ok z w := by
    intro z hz
    rw [Sem.run_bind, eqGuard_plain h1 h2]
    exact hz
  cases op <;> simp only [nilR, Option.some.injEq] at hr <;> first | (cases hr; done) | skip
  case eql =>
    subst hr; rw [hu.v_inv]
    refine ⟨rfl, .bool b, run ?_, SR.mk_bool _⟩
    cases v <;> first | exact absurd rfl (hn _ _) | exact absurd rfl (hf _ _) | exact absurd rfl (hc _ _ _) | exact absurd rfl (hs _) | simp [binOp, he]
  case neq =>
    subst hr; rw [hu.v_inv]
    refine ⟨rfl, .bool (!b), run ?_, SR.mk_bool _⟩
    cases v <;> first | exact absurd rfl (hn _ _) | exact absurd rfl (hf _ _) | exact absurd rfl (hc _ _ _) | exact absurd rfl (hs _) | simp [binOp, he]

theorem nilCmp_ok {op : BinOp} {ty : Option Ty} {s s' : SV} {v v' : Value} {r : OpRes} {u : Upd} (hr : nilCmp op ty s s' = some r) (hu : Gives r u) (h : SR P w G s v) (h' : SR P w G s' v') {t : TypeId} (hl : ∀ q, ty = some q → Lay P q t) (x y : Operand) :
    u.wr = [] ∧ ∃ z, ((do eqGuard op t x y v v'; binOp op t v v' : Sem Value)).run P w = .ok z w ∧ SR P w G u.sv z := by
  have nilV : SR P w G .nilS v' → v' = .slice none 0 0 := fun h => by
    obtain ⟨c, h1, h2⟩ := h
    exact List.singleton_inj.1 ((show c = [v'] from h1).symm.trans h2)
  have nilV0 : SR P w G .nilS v → v = .slice none 0 0 := fun h => by
    obtain ⟨c, h1, h2⟩ := h
    exact List.singleton_inj.1 ((show c = [v] from h1).symm.trans h2)
  have nilP : SR P w G .nilP v' → v' = .pointer none := fun h => by
    obtain ⟨c, h1, h2⟩ := h
    exact List.singleton_inj.1 ((show c = [v'] from h1).symm.trans h2)
  have nilP0 : SR P w G .nilP v → v = .pointer none := fun h => by
    obtain ⟨c, h1, h2⟩ := h
    exact List.singleton_inj.1 ((show c = [v] from h1).symm.trans h2)
  unfold nilCmp at hr
  split at hr
  · rename_i e
    obtain ⟨el, hun, _⟩ := (hl _ rfl).slice
    have hd : ∀ {a : Option Addr} {n m : Nat}, (Op.equal t (.slice a n m) (.slice none 0 0)).run P w = .ok a.isNone w := by
      intro a n m
      have : ∀ d, (Op.equalIn (d + 1) t (.slice a n m) (.slice none 0 0)).run P w = .ok a.isNone w := by
        intro d
        cases a <;> simp [Op.equalIn, run_underlying hun]
      exact this 9999
    split at hr
    · obtain ⟨c, hc, _, ad, n, m, h2⟩ := h
      have hv : v = .slice (some ad) n m := List.singleton_inj.1 ((show c = [v] from hc).symm.trans h2)
      rw [hv, nilV h']
      exact nilR_ok hr hu (by intro _ h; cases h) (by intro h; cases h) x y hd (by intro _ _ h; cases h) (by intro _ _ h; cases h) (by intro _ _ _ h; cases h) (by intro _ h; cases h)
    · rw [nilV0 h, nilV h']
      exact nilR_ok hr hu (by intro _ h; cases h) (by intro h; cases h) x y hd (by intro _ _ h; cases h) (by intro _ _ h; cases h) (by intro _ _ _ h; cases h) (by intro _ h; cases h)
    · cases hr
  · rename_i e
    obtain ⟨el, hun, _⟩ := (hl _ rfl).ptr
    have hd : ∀ {a : Option Addr}, (Op.equal t (.pointer a) (.pointer none)).run P w = .ok a.isNone w := by
      intro a
      have : ∀ d, (Op.equalIn (d + 1) t (.pointer a) (.pointer none)).run P w = .ok a.isNone w := by
        intro d
        cases a <;> simp [Op.equalIn, run_underlying hun]
      exact this 9999
    have fin : ∀ {a : Option Addr} {b : Bool}, v = .pointer a → a.isNone = b → SR P w G .nilP v' → nilR op b = some r → u.wr = [] ∧ ∃ z, ((do eqGuard op t x y v v'; binOp op t v v' : Sem Value)).run P w = .ok z w ∧ SR P w G u.sv z := by
      intro a b hv hb h' hr
      subst hv hb
      rw [nilP h']
      exact nilR_ok hr hu (by intro _ h; cases h) (by intro h; cases h) x y hd (by intro _ _ h; cases h) (by intro _ _ h; cases h) (by intro _ _ _ h; cases h) (by intro _ h; cases h)
    split at hr
    · rename_i e' p
      obtain ⟨c, hc, h2⟩ := h
      have hc : c = [v] := hc
      cases p with
      | none => exact fin (a := none) (List.singleton_inj.1 (hc.symm.trans h2)) rfl h' hr
      | some y =>
        obtain ⟨ad, h3, _⟩ := h2
        exact fin (a := some ad) (List.singleton_inj.1 (hc.symm.trans h3)) rfl h' hr
    · obtain ⟨c, hc, ad, c', h3, _⟩ := h
      exact fin (a := some ad) (List.singleton_inj.1 ((show c = [v] from hc).symm.trans h3)) rfl h' hr
    · obtain ⟨c, hc, b, t', o, _, _, _, h3⟩ := h
      exact fin (a := some ⟨b, o, none⟩) (List.singleton_inj.1 ((show c = [v] from hc).symm.trans h3)) rfl h' hr
    · exact fin (a := none) (nilP0 h) rfl h' hr
    · cases hr
  · cases hr

theorem opBin_ok {op : BinOp} {s s' : SV} {v v' : Value} {r : OpRes} {u : Upd} (hr : opBin op s s' = some r) (hu : Gives r u)
    (h : SR P w G s v) (h' : SR P w G s' v') (t : TypeId) (x y : Operand) (hb : ∀ b, s = .val .bool b → P.underlying t = some .bool) :
    u.wr = [] ∧ ∃ z, ((do eqGuard op t x y v v'; binOp op t v v' : Sem Value)).run P w = .ok z w ∧ SR P w G u.sv z := by
  unfold opBin at hr
  split at hr
  · rename_i k a l b
    obtain ⟨rfl, ha⟩ := h.int
    obtain ⟨rfl, hb⟩ := h'.int
    have hrun : ∀ {z : Value}, (binOp op t (.int k a) (.int l b)).run P w = .ok z w → ((do eqGuard op t x y (.int k a) (.int l b); binOp op t (.int k a) (.int l b) : Sem Value)).run P w = .ok z w := by
      intro z hz
      rw [Sem.run_bind, eqGuard_plain (by intro cs h; cases h) (by intro h; cases h)]
      exact hz
    split at hr
    · cases hr
      obtain ⟨z, hz, rfl⟩ := hu.may_inv
      obtain ⟨z1, z2⟩ := shl_ok (P := P) (w := w) (l := l) (t := t) hz
      exact ⟨rfl, _, hrun z1, SR.mk_int z2⟩
    · cases hr
      obtain ⟨z, hz, rfl⟩ := hu.may_inv
      obtain ⟨z1, z2⟩ := shr_ok (P := P) (w := w) (l := l) (t := t) ha hz
      exact ⟨rfl, _, hrun z1, SR.mk_int z2⟩
    · by_cases hk : sameKind k l = true
      · rw [hk] at hr
        have := sameKind_eq hk
        subst this
        obtain ⟨h1, z, h2, h3⟩ := arith_ok (P := P) (w := w) (G := G) hr hu ha hb t
        exact ⟨h1, z, hrun h2, h3⟩
      · rw [show sameKind k l = false by simpa using hk] at hr; cases hr
  · rename_i a b
    obtain ⟨rfl, _⟩ := h.str
    obtain ⟨rfl, _⟩ := h'.str
    obtain ⟨h1, z, h2, h3⟩ := strOp_ok (P := P) (w := w) (G := G) hr hu t
    refine ⟨h1, z, ?_, h3⟩
    rw [Sem.run_bind, eqGuard_plain (by intro cs h; cases h) (by intro h; cases h)]
    exact h2
  · rename_i a b
    have e1 := h.bool
    have e2 := h'.bool
    subst e1 e2
    obtain ⟨h1, z, h2, h3⟩ := boolOp_ok (P := P) (w := w) (G := G) hr hu (hb _ rfl)
    refine ⟨h1, z, ?_, h3⟩
    rw [Sem.run_bind, eqGuard_plain (by intro cs h; cases h) (by intro h; cases h)]
    exact h2
  · cases hr

theorem opUn_ok {op : UnOp} {s : SV} {v : Value} {r : OpRes} {u : Upd} (hr : opUn op s = some r) (hu : Gives r u) (h : SR P w G s v) :
    u.wr = [] ∧ ∃ z, (Op.unary op v).run P w = .ok z w ∧ SR P w G u.sv z := by
  unfold opUn at hr
  split at hr
  · rename_i b
    have := h.bool
    subst this
    cases op <;> simp only [Option.some.injEq] at hr <;> first | (cases hr; done) | skip
    subst hr; rw [hu.v_inv]
    exact ⟨rfl, .bool (!b), by simp [Op.unary], SR.mk_bool _⟩
  · rename_i k n
    obtain ⟨rfl, _⟩ := h.int
    cases op <;> simp only [Option.some.injEq] at hr <;> first | (cases hr; done) | skip
    subst hr; rw [hu.v_inv]
    exact ⟨rfl, _, by simp [Op.unary, Op.intArith], SR.mk_int (wrap_in _ _)⟩
  · cases hr

theorem SR.cast {t u : Ty} {x : t.T} {y : u.T} {v : Value} (h : Ty.cast? t u x = some y) (hr : SR P w G (.val t x) v) : SR P w G (.val u y) v :=
  VRel.cast h hr

theorem opPick_ok {s s1 s2 : SV} {v v1 v2 : Value} {r : OpRes} {u : Upd} (hr : opPick s s1 s2 = some r) (hu : Gives r u)
    (h : SR P w G s v) (h1 : v = .bool true → SR P w G s1 v1) (h2 : v = .bool false → SR P w G s2 v2) :
    u.wr = [] ∧ ∃ b, v = .bool b ∧ SR P w G u.sv (if b then v1 else v2) := by
  unfold opPick at hr
  split at hr
  · rename_i c t x q y
    split at hr
    · rename_i z hz
      simp only [Option.some.injEq] at hr
      subst hr; rw [hu.v_inv]
      have := h.bool
      subst this
      refine ⟨rfl, c, rfl, ?_⟩
      cases c with
      | true => exact h1 rfl
      | false => exact SR.cast hz (h2 rfl)
    · cases hr
  · cases hr

theorem SV.list_ok : ∀ {l : SV} {vs : List Value}, CR P w G l vs → ∀ (i : Nat) (s : SV), l.list[i]? = some s → ∃ v, vs[i]? = some v ∧ SR P w G s v := by
  intro l
  induction l with
  | scons a b iha ihb =>
    intro vs h i s hi
    obtain ⟨v, r, rfl, ⟨c, h2, h3⟩, h4⟩ := h
    cases i with
    | zero =>
      have : a = s := by simpa [SV.list] using hi
      subst this
      exact ⟨v, rfl, c, h2, h3⟩
    | succ i =>
      obtain ⟨v', hv, hs⟩ := ihb h4 i s (by simpa [SV.list] using hi)
      exact ⟨v', by simpa using hv, hs⟩
  | _ => intro vs h i s hi; simp [SV.list] at hi

theorem opExtract_ok {s : SV} {v : Value} {i : Nat} {r : OpRes} {u : Upd} (hr : opExtract s i = some r) (hu : Gives r u) (h : SR P w G s v) :
    u.wr = [] ∧ ∃ z, (Instr.extract v i).run P w = .ok z w ∧ SR P w G u.sv z := by
  unfold opExtract at hr
  split at hr
  · rename_i l i
    split at hr
    · rename_i q hq
      simp only [Option.some.injEq] at hr
      subst hr; rw [hu.v_inv]
      obtain ⟨c, h1, vs, h2, h3⟩ := h
      have h1' : c = [v] := h1
      rw [h1'] at h2
      injection h2 with h4 _
      subst h4
      obtain ⟨z, hz, hs⟩ := SV.list_ok h3 _ _ hq
      rw [Array.getElem?_toList] at hz
      exact ⟨rfl, z, by simp [Instr.extract, hz], hs⟩
    · cases hr
  · cases hr
end
end Go.Ev
