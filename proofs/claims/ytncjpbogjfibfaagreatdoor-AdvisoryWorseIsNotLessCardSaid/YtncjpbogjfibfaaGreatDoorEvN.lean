/-
  ONE OPERATION.
-/
import Derived.Test.YtncjpbogjfibfaaGreatDoorEvF7
set_option linter.unusedVariables false
set_option linter.unusedSimpArgs false
namespace Go.Ev

section
variable {P : Program} {fr : Fr} {free free' : Nat → Prop} {self : Nat} {σ σ' : Nat → Option Obj} {w w' : World} {G G' : Gh} {I : Im}

theorem Done.calm {o : Oper} {a : Act} {u : Upd} (hm : MemS P fr free σ w G) (h : u.wr = [] ∧ ∃ z, (execOp a.eval o).run P w = .ok (.value z) w ∧ SR P w G u.sv z) : Done P o a w (Res P fr free self σ w G u) := by
  obtain ⟨h1, z, h2, h3⟩ := h
  obtain ⟨sv, wr⟩ := u
  have h1 : wr = [] := h1
  subst h1
  exact Done.value h2 (Res.same hm h3)

theorem Done.makes {o : Oper} {a : Act} {u : Upd} (h : ∃ z w', (execOp a.eval o).run P w = .ok (.value z) w' ∧ Res P fr free self σ w G u z w') : Done P o a w (Res P fr free self σ w G u) := by
  obtain ⟨z, w', h2, h3⟩ := h
  exact Done.value h2 h3

theorem Done.writes {o : Oper} {a : Act} {u : Upd} (h : ∃ w', (execOp a.eval o).run P w = .ok .skip w' ∧ Res P fr free self σ w G u undef w') : Done P o a w (Res P fr free self σ w G u) := by
  obtain ⟨w', h2, h3⟩ := h
  exact Done.skip h2 h3

end
end Go.Ev
