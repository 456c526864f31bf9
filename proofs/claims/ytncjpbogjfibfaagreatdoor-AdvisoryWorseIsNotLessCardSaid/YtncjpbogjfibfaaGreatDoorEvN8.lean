/-
  TABLES; A LOOP AS A FUNCTION; A FUNCTION OF A PROGRAM.
-/
import Derived.Test.YtncjpbogjfibfaaGreatDoorEvN7
import Derived.KernelRfl
set_option linter.unusedVariables false
set_option linter.unusedSimpArgs false
namespace Go.Ev

/-- A loop: 'r' is its round, what follows is the rounds behind. -/
def loopN {α β : Type} (r : (α → Option β) → α → Option β) : Nat → α → Option β
  | 0 => fun _ => none
  | k + 1 => r (loopN r k)

/-- A piece of code. -/
def sub : Code → List Nat → Code
  | c, [] => c
  | .seq a b, i :: r => bif Nat.beq i 0 then sub a r else sub b r
  | .cond _ a b, i :: r => bif Nat.beq i 0 then sub a r else sub b r
  | .block _ b, _ :: r => sub b r
  | .loop b, _ :: r => sub b r
  | _, _ => .skip

def condOf : Code → Operand
  | .cond c _ _ => c
  | _ => .tmp 0

def bodyOf (f : Func) : Code := match f.body with
  | some c => c
  | none => .skip

def tysOK (P : Program) (l : List (Nat × Ty)) : Bool := l.all fun p => (layB P p.2).1 p.1
def elsOK (P : Program) (l : List (Nat × Nat)) : Bool := l.all fun p => match P.underlying p.1 with
  | some (.slice x) => Nat.beq p.2 x
  | _ => false

def elOf (P : Program) (l : List (Nat × Nat)) (i : Nat) : Nat := match lookN l i with
  | some x => x
  | none => match P.underlying i with
    | some (.slice x) => x
    | _ => 0

theorem lookN_mem {α : Type} : ∀ {l : List (Nat × α)} {i : Nat} {x : α}, lookN l i = some x → (i, x) ∈ l := by
  intro l
  induction l with
  | nil => intro i x h; cases h
  | cons p r ih =>
    intro i x h
    obtain ⟨j, y⟩ := p
    simp only [lookN] at h
    cases hb : Nat.beq i j with
    | true =>
      rw [hb] at h
      have := Nat.eq_of_beq_eq_true hb
      subst this
      cases h
      exact List.mem_cons_self
    | false => rw [hb] at h; exact List.mem_cons_of_mem _ (ih h)

section
variable {P : Program}

def FsOK (P : Program) : List (Nat × FSpec) → Prop
  | [] => True
  | p :: r => (Enters P p.1 ∧ FunOK P p.1 p.2) ∧ FsOK P r

theorem FsOK.mem : ∀ {l : List (Nat × FSpec)}, FsOK P l → ∀ f sp, (f, sp) ∈ l → Enters P f ∧ FunOK P f sp := by
  intro l
  induction l with
  | nil => intro _ f sp h; cases h
  | cons p r ih =>
    intro h f sp hm
    rcases List.mem_cons.1 hm with rfl | hm
    · exact h.1
    · exact ih h.2 f sp hm

theorem envOK_of {tys : List (Nat × Ty)} {els : List (Nat × Nat)} {fs : List (Nat × FSpec)} {cut : Nat → Option CSpec} {wr : Nat → Bool} (h1 : tysOK P tys = true) (h2 : elsOK P els = true) (h3 : FsOK P fs) :
    EnvOK P ⟨lookN tys, lookN fs, cut, wr, elOf P els⟩ := by
  refine ⟨fun id t h => ?_, fun id x h => ?_, fun f sp h => h3.mem f sp (lookN_mem h)⟩
  · unfold tysOK at h1
    rw [List.all_eq_true] at h1
    exact h1 _ (lookN_mem h)
  · unfold elsOK at h2
    rw [List.all_eq_true] at h2
    show elOf P els id = x
    unfold elOf
    cases hl : lookN els id with
    | none => simp only [h]
    | some y =>
      have := h2 _ (lookN_mem hl)
      simp only [h] at this
      exact Nat.eq_of_beq_eq_true this

/-- A function that is entered, and keeps its contract. -/
theorem fn_ok {E : Env} (hE : EnvOK P E) (hmix : P.follows .mixedOrders = true) {f : FuncId} {fn : Func} {c : Code} {ps rs : List Sh} {F : TupR ps → Option (TupR (rs ++ ps.filter isBox))} {l : List (CSpec × Code)}
    (hf : P.funcs[f]? = some fn) (hnm : (fn.name == "runtime.NumGoroutine") = false) (hb : fn.body = some c) (hd : dstOK (okFun fn.ntmps ps) c = true) (hn : Nat.ble ps.length fn.ntmps = true) (hl : Nat.beq fn.results.toList.length rs.length = true)
    (hcs : cutsOf E c 0 = l) (hc : AllCuts P fn.ntmps (okFun fn.ntmps ps) l) (hF : ∀ v, evFun E fn ps rs v = F v) : Enters P f ∧ FunOK P f ⟨ps, rs, F⟩ := by
  subst hcs
  exact ⟨⟨fn, c, hf, hnm, hb⟩, fun_ok hE hmix hf hb hd hn hl hc fun v r h => (hF v).trans h⟩

theorem loop_ok {E : Env} (hE : EnvOK P E) (hmix : P.follows .mixedOrders = true) {N n : Nat} {body : Code} {inn : Kp} {outs : List (Ex × Kp)} {wrs : List Nat} {r : (TupR inn.sh → Option (OutT outs)) → TupR inn.sh → Option (OutT outs)} {l : List (CSpec × Code)}
    (hd : dstOK (okCut N wrs) body = true) (hcs : cutsOf E body n = l) (hc : AllCuts P N (okCut N wrs) l) (hF : ∀ next v, evRound E body n inn outs next v = r next v) (m : Nat) :
    CutOK P N ⟨inn, outs, wrs, loopN r m⟩ (.loop body) := by
  subst hcs
  exact loop_cut hE hmix hd hc (fun _ => rfl) (fun k v x h => (hF _ v).trans h) m

theorem branch_ok {E : Env} (hE : EnvOK P E) (hmix : P.follows .mixedOrders = true) {N n : Nat} {c : Operand} {x y : Code} {inn : Kp} {outs : List (Ex × Kp)} {wrs : List Nat} {F : TupR inn.sh → Option (OutT outs)} {lx ly : List (CSpec × Code)}
    (hd : dstOK (okCut N wrs) (.cond c x y) = true) (hcx : cutsOf E x (n + 1) = lx) (hcy : cutsOf E y (n + 1 + nodes x) = ly) (hx : AllCuts P N (okCut N wrs) lx) (hy : AllCuts P N (okCut N wrs) ly)
    (hF : ∀ v, evPart E c x y n inn outs v = F v) : CutOK P N ⟨inn, outs, wrs, F⟩ (.cond c x y) := by
  subst hcx hcy
  exact part_cut (s := ⟨inn, outs, wrs, F⟩) hE hmix hd hx hy fun v r h => (hF v).trans h

/-- A function that asks whether its one argument is nil: the two cases, put together. -/
theorem nil_split {f : FuncId} {e : Ty} {rs : List Sh} {F1 : TupR [Sh.nilS] → Option (TupR (rs ++ [Sh.nilS].filter isBox))} {F2 : TupR [Sh.nns e] → Option (TupR (rs ++ [Sh.nns e].filter isBox))}
    {F : TupR [Sh.val (.slice e)] → Option (TupR (rs ++ [Sh.val (.slice e)].filter isBox))}
    (h1 : Enters P f ∧ FunOK P f ⟨[.nilS], rs, F1⟩) (h2 : Enters P f ∧ FunOK P f ⟨[.nns e], rs, F2⟩) (e1 : F1 () = F ([] : List e.T)) (e2 : ∀ x, F2 x = F x) : Enters P f ∧ FunOK P f ⟨[.val (.slice e)], rs, F⟩ := by
  refine ⟨h1.1, fun w I v args bs hm hsh hnd r hr => ?_⟩
  obtain ⟨v0, rfl, hv, rfl⟩ := hsh
  obtain ⟨c, hc, a, cap, hca, hlen, hnil, had⟩ := hv
  have hv0 : v0 = .slice a (show List e.T from v).length cap := List.singleton_inj.1 ((show c = [v0] from hc).symm.trans hca)
  cases a with
  | none =>
    obtain ⟨hx, rfl⟩ := hnil rfl
    have hx : v = ([] : List e.T) := hx
    subst hx
    exact h1.2 w I () [v0] [] hm ⟨v0, rfl, rfl, by rw [hv0]; rfl⟩ List.nodup_nil r (e1.trans hr)
  | some ad =>
    exact h2.2 w I v [v0] [] hm ⟨v0, rfl, rfl, ⟨some ad, cap, by rw [hv0], hlen, hnil, had⟩, ad, _, cap, by rw [hv0]⟩ List.nodup_nil r ((e2 v).trans hr)

end
end Go.Ev
