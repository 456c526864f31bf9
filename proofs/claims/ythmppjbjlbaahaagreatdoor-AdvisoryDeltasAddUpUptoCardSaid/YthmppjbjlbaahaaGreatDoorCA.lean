/-
  THE CALL OF THE LAW, from what comes in to what goes out.
-/
import Derived.Test.YthmppjbjlbaahaaGreatDoorF
set_option linter.unusedVariables false
set_option linter.unusedSimpArgs false
set_option linter.unusedSectionVars false
set_option maxRecDepth 100000
namespace Go.Proofs.YthmppjbjlbaahaaGreatDoor.deltas
open Go.ChangeShapes Go.WideShapes Go.ChangeAt Go.ChangeMaps Go.RowKit Go.Ev Go.Lib
theorem ub73_ : laidOutB Tryz.prog = true := by kernel_rfl
theorem ucbu_ {H : Type} (d : DataW H) : 1 ≤ Rows.uptoBulk d := by
 cases d with
 | lit l => cases l <;> simp [Rows.uptoBulk]
 | nil => simp [Rows.uptoBulk]
 | ptr d => simp [Rows.uptoBulk]
 | slice elems spare => simp [Rows.uptoBulk]
 | agg parts => simp [Rows.uptoBulk]
 | iface t d => simp [Rows.uptoBulk]
 | map entries => simp [Rows.uptoBulk]
 | held h => simp [Rows.uptoBulk]
def ub16_ (H : Type) : Bulk H := ⟨Rows.uptoBulk, Rows.uptoBulkAll, fun s => by simp [Rows.uptoBulk], ucbu_, fun a b => by simp [Rows.uptoBulk], fun l => by simp [Rows.uptoBulk], by simp [Rows.uptoBulkAll], fun d l => by simp [Rows.uptoBulkAll]⟩
theorem lay39 : Ev.Lay Tryz.prog (.agg Pv.tBase) 39 := by unfold Ev.Lay; kernel_rfl
theorem lay41 : Ev.Lay Tryz.prog (.agg Pv.tDelta) 41 := by unfold Ev.Lay; kernel_rfl
theorem ucc5_ {W : World} (h : Pv.Facts W) : Mem W (imAll W) := ⟨fun _ _ h => h, fun _ h => h, W, h, fun _ hb => ⟨hb, rfl⟩⟩
theorem walk (W : World) (hF : Pv.Facts W) (b : (Ty.agg Pv.tBase).T) (d x : (Ty.agg Pv.tDelta).T) (vb vd vx : Value) (hb : VRel W (imAll W) (.agg Pv.tBase) b vb) (hd : VRel W (imAll W) (.agg Pv.tDelta) d vd) (hx : VRel W (imAll W) (.agg Pv.tDelta) x vx)
 (lb : Ty.bulk Pv.tBase b ≤ 1048576) (ld : Ty.bulk Pv.tDelta d ≤ 1048576) (lx : Ty.bulk Pv.tDelta x ≤ 1048576) :
 Calls Tryz.prog 4 #[vb, vd, vx] W fun e w' => e = .returned (.bool true) ∧ Same W w' :=
 (Pv.L5_AdvisoryDeltasAddUp_ok.2 W (imAll W) (b, d, x) [vb, vd, vx] [] (ucc5_ hF) ⟨_, _, [], [], rfl, rfl, ⟨hb, rfl⟩, _, _, [], [], rfl, rfl, ⟨hd, rfl⟩, _, rfl, hx, rfl⟩ .nil true
  (Pv.law6 b d x (Pv.bulk_base (Nat.le_refl _) lb).1 (Pv.bulk_base (Nat.le_refl _) lb).2 (Pv.bulk_delta (Nat.le_refl _) ld) (Pv.bulk_delta (Nat.le_refl _) lx))).mono
  fun _ _ ⟨_, _, _, _, he, _, hr, ha, hsh, _⟩ => ucbr_ he hr ha hsh
theorem ucbv_ (H : Type) (enc : TypeId × Value → H) (W : World) (base : Nat) (args : Array Value) (ds gs : List (DataW H)) (before : List MemPlace)
 (hval : ∀ (j : Nat) t v, Tryz.f4.params[j]? = some t → args[j]? = some v → Value.okWide Tryz.prog W .any base t v)
 (hW : DataW.Whole enc Tryz.prog Tryz.f4.params.toList Rows.advisoryDeltasAddUpSpec.vars false W args.toList ds gs before)
 (hk : Rows.uptoSmall H (ds ++ gs) = true) (hL : laidMetH Tryz.prog Rows.advisoryDeltasAddUpUptoRow.laid W) (hsh : W.ShapedOpen Tryz.prog) :
 Calls Tryz.prog 4 args W fun e W' => ∃ v, e = .returned v ∧ Rows.advisoryDeltasAddUpSpec.post enc Tryz.prog Tryz.f4 false true false false W args v W' := by
 have hW' := hW
 obtain ⟨p, q, hA0, hV, rfl, hfz, hnd⟩ := hW
 have hlt := hA0.lt
 have hA : DataW.TrodAll enc Tryz.prog W 0 (fun _ => true) true Tryz.f4.params.toList args.toList ds p := hA0
 rw [Tryz.params4] at hA hval
 obtain ⟨v0, vs0, d0, ds0, p0, q0, hargs, rfl, rfl, h0, r0⟩ := trodAll_cons hA
 obtain ⟨v1, vs1, d1, ds1, p1, q1, hargs1, rfl, rfl, h1, r1⟩ := trodAll_cons r0
 obtain ⟨v2, vs2, d2, ds2, p2, q2, hargs2, rfl, rfl, h2, r2⟩ := trodAll_cons r1
 subst hargs2
 subst hargs1
 obtain ⟨rfl, rfl, rfl⟩ := trodAll_nil r2
 obtain rfl : args = #[v0, v1, v2] := by cases args; simp_all
 obtain ⟨rfl, rfl⟩ := trodVars_none hV
 have hb : (ub16_ H).all [d0, d1, d2] ≤ 1048576 := by
  show Rows.uptoBulkAll [d0, d1, d2] ≤ 1048576
  have hk' : decide (Rows.uptoBulkAll ([d0, d1, d2] ++ []) ≤ 1048576) = true := hk
  exact of_decide_eq_true hk'
 rw [(ub16_ H).cons, (ub16_ H).cons, (ub16_ H).cons, (ub16_ H).nil] at hb
 obtain ⟨x0, e0, l0⟩ := ub3n_ (ub16_ H) (K := 1048576) (by decide) (t := Pv.tBase) rfl lay39 (hval 0 39 v0 rfl rfl) h0 (by omega)
 obtain ⟨x1, e1, l1⟩ := ub3n_ (ub16_ H) (K := 1048576) (by decide) (t := Pv.tDelta) rfl lay41 (hval 1 41 v1 rfl rfl) h1 (by omega)
 obtain ⟨x2, e2, l2⟩ := ub3n_ (ub16_ H) (K := 1048576) (by decide) (t := Pv.tDelta) rfl lay41 (hval 2 41 v2 rfl rfl) h2 (by omega)
 refine (walk W (facts hL hsh) x0 x1 x2 v0 v1 v2 e0 e1 e2 (by omega) (by omega) (by omega)).mono fun e W' ⟨he, hg⟩ => ?_
 subst he
 refine ⟨_, rfl, ub9n_ (pa := p0 ++ (p1 ++ (p2 ++ []))) (pv := []) hW' (fun _ _ _ => trodAll_cons_mk (shut_bool Tryz.underlying4 _) trodAll_mk0) ?_ rfl (by simp) (hg.kept _)⟩
 rw [Tryz.params4]
 exact trodAll_cons_mk (Below.trod ub73_ (by kernel_rfl) (of_decide_eq_true (by kernel_rfl)) h0 hg.below fun x hx => hlt x (by simp [hx]))
  (trodAll_cons_mk (Below.trod ub73_ (by kernel_rfl) (of_decide_eq_true (by kernel_rfl)) h1 hg.below fun x hx => hlt x (by simp [hx]))
   (trodAll_cons_mk (Below.trod ub73_ (by kernel_rfl) (of_decide_eq_true (by kernel_rfl)) h2 hg.below fun x hx => hlt x (by simp [hx])) trodAll_mk0))
end Go.Proofs.YthmppjbjlbaahaaGreatDoor.deltas
