/-
  WHAT THE LISTED VARIABLES HOLD. FOR: called with any list of findings of bulk at most 1048576, the law VerdictOrderIsOne returns true, and all that there was stays as it was: the row's tied card of the second form.
-/
import Derived.Test.YthdkjfbmhbimlaaGreatDoorK
import Derived.Test.YthdkjfbmhbimlaaGreatDoorH
import Derived.Lib.LaidCase
import Derived.Lib.LaidU8T
import Derived.PinnedBridge
import Derived.LaidSub
import Derived.Test.YthdkjfbmhbimlaaGreatDoorCards
import Derived.Test.YthdkjfbmhbimlaaGreatDoorTie
import Derived.WalkKit
import Derived.ProofKit
import Derived.ChangeMaps5
set_option linter.unusedVariables false
set_option linter.unusedSimpArgs false
set_option linter.unusedSectionVars false
set_option maxRecDepth 100000
namespace Go.Proofs.YthdkjfbmhbimlaaGreatDoor.order
open Go.ChangeShapes Go.WideShapes Go.ChangeAt Go.ChangeMaps Go.RowKit Go.Ev Go.Lib
theorem ub9v_ {w:World} {n:String} {k:IntKind} {zs:List Int} {g t e m:Nat} (h:VarReads Tryz.prog w n (tabData k zs))
 (hg:Tryz.prog.globalNamed n=some g) (hty:(Tryz.prog.globals[g]?).map (·.type)=some t) (ht:Tryz.prog.underlying t=some (.array m e)) (he:Tryz.prog.underlying e=some (.int k)) (hce:Tryz.prog.cellsOf e=1) (hct:Tryz.prog.cellsOf t=m) :
 Pv.HoldsTab w g k zs:=by
 obtain ⟨g',t',cs,fuel,p,hg',ht',hvar,hd⟩:=h
 obtain rfl:=Option.some.inj (hg.symm.trans hg')
 obtain rfl:=Option.some.inj (hty.symm.trans ht')
 have hcs:=cells_of_tab ht he hce hct hd
 unfold World.var? at hvar
 rw [hg'] at hvar
 simp only [Option.bind_some] at hvar
 split at hvar
 · rename_i cs' el fz hh
   cases hvar
   refine ⟨el,fz,?_⟩
   rw [hh,← hcs]
 · cases hvar
theorem ubwe_ {w:World} {n nm:String} {d:DataW Unit} {g t:Nat} {ms:Array (String×TypeId)} (h:VarReads Tryz.prog w n (.iface nm d))
 (hg:Tryz.prog.globalNamed n=some g) (hty:(Tryz.prog.globals[g]?).map (·.type)=some t) (ht:Tryz.prog.underlying t=some (.interface ms)) :
 ∃ ev,w.cell? ⟨g,0,none⟩=some ev∧(ev=.nilIface∨∃ te pe,ev=.iface te pe):=by
 obtain ⟨g',t',cs,fuel,p,hg',ht',hvar,hd⟩:=h
 obtain rfl:=Option.some.inj (hg.symm.trans hg')
 obtain rfl:=Option.some.inj (hty.symm.trans ht')
 have hcell:=World.var?_cell hg' hvar 0
 have key:∃ u v,cs.toList=[Value.iface u v]:=by
  cases fuel with
  | zero=>simp [DataW.trod] at hd
  | succ fuel =>
    unfold DataW.trod at hd
    rw [ht] at hd
    split at hd
    all_goals first
     | (rename_i h; exact ⟨_,_,h⟩)
     | exact ⟨_,_,by assumption⟩
     | simp_all
 obtain ⟨u,v,hc⟩:=key
 refine ⟨_,?_,Or.inr ⟨u,v,rfl⟩⟩
 rw [hcell,← Array.getElem?_toList,hc]
 rfl
theorem bld:((begin Tryz.prog (fun _ _=>0) default).world.heap[0]?).bind Obj.row? = some (#[.int .i64 0],3):=by kernel_rfl
theorem ub7y_ {w:World} (h:w.ShapedOpen Tryz.prog):∃ m,w.cell? ⟨0,0,none⟩=some (.int .i64 m):=by
 obtain ⟨cs,h1,h2,h3⟩:=h.1 0 _ _ (of_decide_eq_true (by kernel_rfl)) bld
 obtain ⟨ts,h4,_,h5⟩:=h3 (by kernel_rfl)
 have e4:Tryz.prog.cellTypes Tryz.prog.depth 3=some [3]:=by kernel_rfl
 rw [e4] at h4
 cases h4
 have hs:cs.size=1:=h2
 obtain ⟨u,h6,h7⟩:=h5 0 cs[0] (Array.getElem?_eq_getElem (by omega))
 have h6:some 3=some u:=h6
 cases h6
 have hu:Tryz.prog.underlying 3=some (.int .i64):=Tryz.underlying3
 unfold Cell.ok at h7
 rw [hu] at h7
 split at h7 <;> first | (rename_i a b; cases a; done) | skip
 all_goals try (exact h7.elim)
 all_goals
  rename_i k k' n a b
  cases a
  obtain ⟨rfl,_⟩:=h7
  refine ⟨n,?_⟩
  simp only [World.cell?,h1]
  simp [Array.getElem?_eq_getElem (show 0<cs.size by omega),b]
theorem facts {W:World} (hL:laidMetH Tryz.prog Rows.verdictOrderIsOneUptoRow.laid W) (hsh:W.ShapedOpen Tryz.prog):Pv.Facts W:=by
 have h:laidMet Tryz.prog Rows.verdictOrderIsOneUptoRow.laid W:=by
  rw [MakeChecks.laidMetH_plain _ _ _ (by kernel_rfl)] at hL
  exact hL
 have r2:VarReads Tryz.prog W "internal/strconv.uint64pow10" Rows.laid_internal_strconv_uint64pow10:=laidMet.reads h (.tail _ (.tail _ (.head _)))
 have r3:VarReads Tryz.prog W "unicode/utf8.acceptRanges" Rows.laid_unicode_utf8_acceptRanges:=laidMet.reads h (.tail _ (.tail _ (.tail _ (.head _))))
 have r4:VarReads Tryz.prog W "strconv.ErrRange" Rows.laid_strconv_ErrRange:=laidMet.reads h (.tail _ (.tail _ (.tail _ (.tail _ (.head _)))))
 have r5:VarReads Tryz.prog W "strconv.ErrSyntax" Rows.laid_strconv_ErrSyntax:=laidMet.reads h (.tail _ (.tail _ (.tail _ (.tail _ (.tail _ (.head _))))))
 have r6:VarReads Tryz.prog W "unicode.CaseRanges" Rows.laid_unicode_CaseRanges:=laidMet.reads h (.tail _ (.tail _ (.tail _ (.tail _ (.tail _ (.tail _ (.head _)))))))
 have r7:VarReads Tryz.prog W "unicode/utf8.first" Rows.laid_unicode_utf8_first:=laidMet.reads h (.tail _ (.tail _ (.tail _ (.tail _ (.tail _ (.tail _ (.tail _ (.head _))))))))
 refine ⟨?_,?_,?_,ub7y_ hsh,?_,?_⟩
 · have e:(Rows.laid_internal_strconv_uint64pow10:DataW Unit)=tabData .u64 Lib.pow10Tab:=by kernel_rfl
   rw [e] at r2
   exact ub9v_ r2 (by kernel_rfl) (by kernel_rfl) Tryz.underlying583 Tryz.underlying142 (by kernel_rfl) (by kernel_rfl)
 · have e:Rows.laid_unicode_CaseRanges=caseData:=Pinned.caseRanges_eq
   rw [e] at r6
   exact caseVar_of_reads (ρ:=Tryz.lays159_ren) { Tryz.lays159 with } (by kernel_rfl) ⟨by kernel_rfl,by kernel_rfl,by kernel_rfl,by kernel_rfl,by kernel_rfl,by kernel_rfl⟩ r6
 · have e:Rows.laid_unicode_utf8_first=firstData:=Pinned.utf8First_eq
   have e2:(Rows.laid_unicode_utf8_acceptRanges:DataW Unit)=acceptData:=by kernel_rfl
   rw [e] at r7
   rw [e2] at r3
   exact utf8Tabs_of_readsT (ρ:=Tryz.lays159_ren) { Tryz.lays159 with } ⟨by kernel_rfl,by kernel_rfl,by kernel_rfl,by kernel_rfl,by kernel_rfl,by kernel_rfl,by kernel_rfl⟩ r7 r3
 · exact ubwe_ (t:=332) r5 (by kernel_rfl) (by kernel_rfl) Tryz.underlying332
 · exact ubwe_ (t:=332) r4 (by kernel_rfl) (by kernel_rfl) Tryz.underlying332
end Go.Proofs.YthdkjfbmhbimlaaGreatDoor.order
