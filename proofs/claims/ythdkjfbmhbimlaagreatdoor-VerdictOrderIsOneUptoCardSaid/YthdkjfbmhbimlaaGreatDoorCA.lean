/-
  THE CALL OF THE LAW, from what comes in to what goes out.
-/
import Derived.Test.YthdkjfbmhbimlaaGreatDoorF
set_option linter.unusedVariables false
set_option linter.unusedSimpArgs false
set_option linter.unusedSectionVars false
set_option maxRecDepth 100000
namespace Go.Proofs.YthdkjfbmhbimlaaGreatDoor.order
open Go.ChangeShapes Go.WideShapes Go.ChangeAt Go.ChangeMaps Go.RowKit Go.Ev Go.Lib
theorem ucd7_:laidOutB Tryz.prog=true:=by kernel_rfl
theorem ucci_ {H:Type} (d:DataW H):1≤Rows.uptoBulk d:=by
 cases d with
 | lit l=>cases l <;> simp [Rows.uptoBulk]
 | nil=>simp [Rows.uptoBulk]
 | ptr d=>simp [Rows.uptoBulk]
 | slice elems spare=>simp [Rows.uptoBulk]
 | agg parts=>simp [Rows.uptoBulk]
 | iface t d=>simp [Rows.uptoBulk]
 | map entries=>simp [Rows.uptoBulk]
 | held h=>simp [Rows.uptoBulk]
def ub9w_ (H:Type):Bulk H:=⟨Rows.uptoBulk,Rows.uptoBulkAll,fun s=>by simp [Rows.uptoBulk],ucci_,fun a b=>by simp [Rows.uptoBulk],fun l=>by simp [Rows.uptoBulk],by simp [Rows.uptoBulkAll],fun d l=>by simp [Rows.uptoBulkAll]⟩
theorem lay22:Ev.Lay Tryz.prog (Ty.slice (.agg Pv.tFd)) 22:=by unfold Ev.Lay; kernel_rfl
theorem ucd8_ {W:World} (h:Pv.Facts W):Mem W (imAll W):=⟨fun _ _ h=>h,fun _ h=>h,W,h,fun _ hb=>⟨hb,rfl⟩⟩
theorem walk (W:World) (hF:Pv.Facts W) (x0:(Ty.slice (.agg Pv.tFd)).T) (v0:Value) (h0:VRel W (imAll W) (Ty.slice (.agg Pv.tFd)) x0 v0)
 (l0:Ty.bulk (Ty.slice (.agg Pv.tFd)) x0≤1048576) :
 Calls Tryz.prog 4 #[v0] W fun e w'=>e=.returned (.bool true)∧Same W w' :=
 (Pv.L7_VerdictOrderIsOne_ok.2 W (imAll W) (x0) [v0] [] (ucd8_ hF) ⟨_,rfl,h0,rfl⟩ .nil true
  (Pv.law35 x0)).mono
  fun _ _ ⟨_,_,_,_,he,_,hr,ha,hsh,_⟩=>uccg_ he hr ha hsh
theorem uccj_ (H:Type) (enc:TypeId×Value→H) (W:World) (base:Nat) (args:Array Value) (ds gs:List (DataW H)) (before:List MemPlace)
 (hval:∀ (j:Nat) t v,Tryz.f4.params[j]? = some t→args[j]? = some v→Value.okWide Tryz.prog W .any base t v)
 (hW:DataW.Whole enc Tryz.prog Tryz.f4.params.toList Rows.verdictOrderIsOneSpec.vars false W args.toList ds gs before)
 (hk:Rows.uptoSmall H (ds++gs)=true) (hL:laidMetH Tryz.prog Rows.verdictOrderIsOneUptoRow.laid W) (hsh:W.ShapedOpen Tryz.prog) :
 Calls Tryz.prog 4 args W fun e W'=>∃ v,e=.returned v∧Rows.verdictOrderIsOneSpec.post enc Tryz.prog Tryz.f4 false true false false W args v W':=by
 have hW':=hW
 obtain ⟨p,q,hA0,hV,rfl,hfz,hnd⟩:=hW
 have hlt:=hA0.lt
 have hA:DataW.TrodAll enc Tryz.prog W 0 (fun _=>true) true Tryz.f4.params.toList args.toList ds p:=hA0
 rw [Tryz.params4] at hA hval
 obtain ⟨v0,vs0,d0,ds0,p0,q0,hargs0,rfl,rfl,h0,r0⟩:=trodAll_cons hA
 obtain ⟨rfl,rfl,rfl⟩:=trodAll_nil r0
 obtain rfl:args = #[v0]:=by cases args; simp_all
 obtain ⟨rfl,rfl⟩:=trodVars_none hV
 have hb:(ub9w_ H).all [d0]≤1048576:=by
  show Rows.uptoBulkAll [d0]≤1048576
  have hk':decide (Rows.uptoBulkAll ([d0]++[])≤1048576)=true:=hk
  exact of_decide_eq_true hk'
 rw [(ub9w_ H).cons,(ub9w_ H).nil] at hb
 obtain ⟨x0,e0,l0⟩:=ub7x_ (ub9w_ H) (K:=1048576) (by decide) (e:=.agg Pv.tFd) rfl lay22 (hval 0 22 v0 rfl rfl) h0 (by omega)
 refine (walk W (facts hL hsh) x0 v0 e0 (by omega)).mono fun e W' ⟨he,hg⟩=>?_
 subst he
 refine ⟨_,rfl,ub9u_ (pa:=p0++[]) (pv:=[]) hW' (fun _ _ _=>trodAll_cons_mk (shut_bool Tryz.underlying4 _) trodAll_mk0) ?_ rfl (by simp) (hg.kept _)⟩
 rw [Tryz.params4]
 exact trodAll_cons_mk (Below.trod ucd7_ (by kernel_rfl) (of_decide_eq_true (by kernel_rfl)) h0 hg.below fun x hx=>hlt x (by simp [hx])) trodAll_mk0
end Go.Proofs.YthdkjfbmhbimlaaGreatDoor.order
