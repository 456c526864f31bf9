/-
  FROM WHAT A FUNCTION KEEPS TO WHAT A CARD ASKS.
-/
import Derived.Test.YtncjpbogjfibfaaGreatDoorEvN8
import Derived.ChangeSame
import Derived.OpenShut
import Derived.SizedLaws
import Derived.Lay
import Derived.Deep.DeepHandedRow
set_option linter.unusedVariables false
set_option linter.unusedSimpArgs false
namespace Go.Ev
open Go.ChangeShapes Go.WideShapes

/-- Nothing is known of memory. -/
def im0 : Im := ⟨fun _ _ => False, fun _ => False⟩
theorem mem0 (W : World) : Mem W im0 := ⟨fun _ _ h => h.elim, fun _ h => h.elim⟩

/-- What there was is there as it was. -/
structure Same (W W' : World) : Prop where
  os : W'.os = W.os
  output : W'.output = W.output
  heap : ∀ b, b < W.heap.size → W'.heap[b]? = W.heap[b]?

theorem Same.kept {W W' : World} (h : Same W W') (may : MemPlace → Prop) : W.keptBut W' may := by
  refine ⟨h.os, h.output, fun i hi => ?_⟩
  rw [h.heap i hi]
  exact (World.keptBut_refl W may).2.2 i hi

theorem bool_end {P : Program} {W w' : World} {I' : Im} {e : Ending} {rv : Value} {vs : List Value} {bs' : List Nat} (he : e = .returned rv) (hr : retIs vs rv)
    (ha : After (· ∈ ([] : List Nat)) W im0 w' I') (hs : ShL P w' I' [.val .bool] true (vs ++ []) bs') : e = .returned (.bool true) ∧ Same W w' := by
  rw [List.append_nil] at hs
  obtain ⟨v, rfl, ⟨c, h1, h2⟩, _⟩ := hs
  have h1' : c = [v] := h1
  have h2' : c = [.bool true] := h2
  subst h1'
  cases h2'
  have hr' : rv = .bool true := hr
  subst hr'
  exact ⟨he, ha.os, ha.output, fun b hb => ha.heap b hb (fun k => by cases k)⟩

theorem arg_str {W : World} {I : Im} (s : ByteArray) (h : s.data.toList.length ≤ reachBytes) : VRel W I .str s.data.toList (.string s) :=
  ⟨[.string s], rfl, rfl, Nat.le_trans h (Nat.le_trans (Nat.le_of_lt reachBytes_lt) (by decide))⟩
theorem arg_int {W : World} {I : Im} {k : IntKind} {n : Int} (h : (Lit.int k n).wf = true) : VRel W I (.int k) n (.int k n) := by
  refine ⟨[.int k n], rfl, rfl, ?_⟩
  simp only [Lit.wf, Bool.and_eq_true, decide_eq_true_eq] at h
  exact h
theorem int_wf {k : IntKind} {n : Int} (h : (Lit.int k n).wf = true) : k.min ≤ n ∧ n ≤ k.max := by
  simp only [Lit.wf, Bool.and_eq_true, decide_eq_true_eq] at h
  exact h
theorem arg_bool {W : World} {I : Im} (b : Bool) : VRel W I .bool b (.bool b) := ⟨_, rfl, rfl⟩

/-- The law returned true, and what was read reads as it read. (No row asks for what a second call reads.) -/
theorem post_same {H : Type} {enc : TypeId × Value → H} {P : Program} {f : Func} {s : ChangeSpec} {apart fresh handsOn : Bool} {W W' : World} {args : Array Value} {v : Value} {ds gs : List (DataW H)} {before pa pv : List MemPlace}
    (hW : DataW.Whole enc P f.params.toList s.vars apart W args.toList ds gs before)
    (hres : ∀ (b : Nat) (sp : Nat → Bool) (hd : Bool), DataW.TrodAll enc P W' b sp hd f.resultTypes.toList (v.resultList f.resultTypes.size) (s.fn H (ds ++ gs)).results [])
    (hargs : ∀ sp : Nat → Bool, (∀ p ∈ before, sp p.block = true) → DataW.TrodAll enc P W' 0 sp true f.params.toList args.toList (s.fn H (ds ++ gs)).args pa)
    (hvars : ∀ sp : Nat → Bool, (∀ p ∈ before, sp p.block = true) → DataW.TrodVars enc P W' sp s.vars (s.fn H (ds ++ gs)).vars pv)
    (hps : before = pa ++ pv) (hk : W.keptBut W' (· ∈ before)) :
    s.post enc P f apart fresh handsOn false W args v W' := by
  have hold : ∀ p ∈ before, (fun b => decide (b < W.heap.size)) p.block = true := fun p hp => by simpa using hW.lt p hp
  refine ⟨ds, gs, before, [], pa, pv, hW, hres _ _ _, hargs _ hold, hvars _ hold, World.keptBut_mono (fun p hp => ⟨hp, ?_⟩) hk, fun h => by cases h⟩
  rw [hps, List.mem_append] at hp
  exact Or.inr hp

/-- A world that fits, all listed variables laid into it. -/
theorem witness_zip {H : Type} {enc : TypeId × Value → H} {C : Checked} {os : Os} {f : FuncId} {fn : Func} {s : OpenSpec} {conds : List PathCond} {apart : Bool} {laid : List (String × DataW Unit)} (w0 : World) (args : Array Value) (hos : w0.os = os)
    (hsh : (w0.forCall (fun _ _ => 0) ⟨#[], args, []⟩).Shaped C.prog)
    (hok : Input.okWideB C.prog (w0.forCall (fun _ _ => 0) ⟨#[], args, []⟩) f ⟨#[], args, []⟩ = true)
    (hrow : s.preRow enc C.prog fn conds apart laid (w0.forCall (fun _ _ => 0) ⟨#[], args, []⟩).memory args) :
    ∃ (w : World) (tape : Tape) (i : Input), w.os = os ∧ (w.forCall tape i).Shaped C.prog ∧ i.vars = [] ∧ Input.okWide C.prog (w.forCall tape i) .any w.heap.size f i ∧
      s.preRow enc C.prog fn conds apart laid (w.forCall tape i).memory i.args ∧ ({} : Assume).holds C.prog (lone (Frame.enter C.prog f i.args .normal) [] (w.forCall tape i)) :=
  ⟨w0, fun _ _ => 0, ⟨#[], args, []⟩, hos, hsh, (Input.okWide_of_okWideB (base := 0) hok).1, (Input.okWide_of_okWideB hok).2, hrow, by
    simp only [Assume.holds]
    exact ⟨by simp, by simp, fun _ => Modest.zero, by simp, by simp⟩⟩
end Go.Ev
